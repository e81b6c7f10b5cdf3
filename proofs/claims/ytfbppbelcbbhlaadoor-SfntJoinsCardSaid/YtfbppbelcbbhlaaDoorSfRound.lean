/- What is joined is read as what was joined: the bytes alone. -/
import Derived.Test.YtfbppbelcbbhlaaDoorSfJoinW
import Derived.Test.YtfbppbelcbbhlaaDoorSfTabsW
namespace Go.Proofs.YtfbppbelcbbhlaaDoor.Sf
open Go Go.RowKit

/-! ### The sum -/
def wt (i : Nat) : Nat := 2 ^ (24 - 8 * (i % 4))
def wsum : List Nat → Nat → Nat
  | [], _ => 0
  | x :: l, i => x * wt i + wsum l (i + 1)
theorem wsum_append (l m : List Nat) : ∀ i, wsum (l ++ m) i = wsum l i + wsum m (i + l.length) := by
  induction l with
  | nil => intro i; simp [wsum]
  | cons x l ih =>
    intro i
    simp only [List.cons_append, wsum, ih, List.length_cons]
    rw [show i + 1 + l.length = i + (l.length + 1) from by omega]
    omega
theorem wsum_four (l : List Nat) : ∀ i, wsum l (i + 4) = wsum l i := by
  induction l with
  | nil => intro i; rfl
  | cons x l ih =>
    intro i
    simp only [wsum]
    rw [show i + 4 + 1 = i + 1 + 4 from by omega, ih]
    simp [wt]
theorem wsum_mod (l : List Nat) (k : Nat) (h : k % 4 = 0) : wsum l k = wsum l 0 := by
  obtain ⟨m, rfl⟩ : ∃ m, k = 4 * m := ⟨k / 4, by omega⟩
  clear h
  induction m with
  | zero => rfl
  | succ m ih => rw [show 4 * (m + 1) = 4 * m + 4 from by omega, wsum_four, ih]
theorem sumTo_wsum (l : List Nat) (k : Nat) (hk : k ≤ l.length) : sumTo l k = wsum (l.take k) 0 % 4294967296 := by
  induction k with
  | zero => simp [sumTo, wsum]
  | succ k ih =>
    rw [take_snoc l k 0 (by omega), wsum_append]
    simp only [sumTo]
    rw [ih (by omega)]
    simp only [wsum, Nat.zero_add, List.length_take, Nat.min_eq_left (show k ≤ l.length by omega), Nat.add_zero, wt]
    generalize l.getD k 0 * 2 ^ (24 - 8 * (k % 4)) = z
    omega
theorem sumF_wsum (l : List Nat) : sumF l = wsum l 0 % 4294967296 := by
  unfold sumF
  rw [sumTo_wsum l _ (Nat.le_refl _), List.take_length]
theorem be4 (v : Nat) (h : v < 4294967296) : be (v : Int) 4 = [v / 16777216, v / 65536 % 256, v / 256 % 256, v % 256] := by
  simp [be, beTo, List.range_succ]
  omega
theorem be2 (v : Nat) (h : v < 65536) : be (v : Int) 2 = [v / 256, v % 256] := by
  simp [be, beTo, List.range_succ]
  omega
theorem numF_be4 (v : Nat) (h : v < 4294967296) : numF (be (v : Int) 4) = v := by
  rw [be4 v h]
  simp [numF]
  omega
theorem numF_be2 (v : Nat) (h : v < 65536) : numF (be (v : Int) 2) = v := by
  rw [be2 v h]
  simp [numF]
  omega
theorem wsum_be4 (v : Nat) (h : v < 4294967296) : wsum (be (v : Int) 4) 0 = v := by
  rw [be4 v h]
  simp [wsum, wt]
  omega
/-- The whole's sum. -/
theorem sum_whole (b : List Nat) (p : Nat) (hp : p % 4 = 0) (hl : p + 4 ≤ b.length) : sumF (whole4 b p) = 2981146554 := by
  have hS : wholeS b p < 4294967296 := Nat.mod_lt _ (by decide)
  have hd : (b.take p).length = p := by simp; omega
  have e4 : wsum (whole4 b p) 0 = wsum (b.take p) 0 + wholeS b p + wsum (b.drop (p + 4)) 0 := by
    unfold whole4
    rw [wsum_append, wsum_append, Nat.zero_add, hd, wsum_mod _ p hp, wsum_be4 _ hS, List.length_append, hd, be_length, wsum_mod _ (0 + (p + 4)) (by omega)]
  have e0 : wsum (whole0 b p) 0 = wsum (b.take p) 0 + wsum (b.drop (p + 4)) 0 := by
    unfold whole0
    rw [wsum_append, wsum_append, Nat.zero_add, hd, wsum_mod _ p hp, List.length_append, hd, wsum_mod _ (0 + (p + [0, 0, 0, 0].length)) (by simp; omega)]
    simp [wsum]
  rw [sumF_wsum, e4]
  have hw : wholeS b p = (2981146554 + 4294967296 - (wsum (b.take p) 0 + wsum (b.drop (p + 4)) 0) % 4294967296) % 4294967296 := by
    unfold wholeS
    rw [sumF_wsum, e0]
  omega

/-! ### The parts of a file -/
theorem recsB_split (tags : List Tg) (ls : List (List Nat)) (base i n : Nat) (h : i < n) :
    ∃ r, recsB tags ls base n = recsB tags ls base i ++ (recB (tags.getD i noTag) (ls.getD i []) (base + upTo ls i) ++ r) := by
  induction n with
  | zero => omega
  | succ n ih =>
    rcases Nat.lt_or_ge i n with h2 | h2
    · obtain ⟨r, hr⟩ := ih h2
      exact ⟨r ++ recB (tags.getD n noTag) (ls.getD n []) (base + upTo ls n), by simp only [recsB, hr, List.append_assoc]⟩
    · have : i = n := by omega
      subst this
      exact ⟨[], by simp only [recsB, List.append_nil]⟩
theorem dataB_split (ls : List (List Nat)) (i n : Nat) (h : i < n) : ∃ r, dataB ls n = dataB ls i ++ (padded (ls.getD i []) ++ r) := by
  induction n with
  | zero => omega
  | succ n ih =>
    rcases Nat.lt_or_ge i n with h2 | h2
    · obtain ⟨r, hr⟩ := ih h2
      exact ⟨r ++ padded (ls.getD n []), by simp only [dataB, hr, List.append_assoc]⟩
    · have : i = n := by omega
      subst this
      exact ⟨[], by simp only [dataB, List.append_nil]⟩
theorem rawB_length (tags : List Tg) (ls : List (List Nat)) : (rawB tags ls).length = 12 + 16 * tags.length + upTo ls tags.length := by
  simp only [rawB, List.length_append, headB_length, recsB_length, dataB_length]
theorem rawB_rec (tags : List Tg) (ls : List (List Nat)) (i : Nat) (h : i < tags.length) :
    ∃ r, (rawB tags ls).drop (12 + 16 * i) = recB (tags.getD i noTag) (ls.getD i []) (12 + 16 * tags.length + upTo ls i) ++ r := by
  obtain ⟨r, hr⟩ := recsB_split tags ls (12 + 16 * tags.length) i tags.length h
  have hl : (headB tags.length ++ recsB tags ls (12 + 16 * tags.length) i).length = 12 + 16 * i := by simp only [List.length_append, headB_length, recsB_length]
  refine ⟨r ++ dataB ls tags.length, ?_⟩
  have e : rawB tags ls = (headB tags.length ++ recsB tags ls (12 + 16 * tags.length) i) ++ (recB (tags.getD i noTag) (ls.getD i []) (12 + 16 * tags.length + upTo ls i) ++ (r ++ dataB ls tags.length)) := by
    unfold rawB
    rw [hr]
    simp only [List.append_assoc]
  rw [e, ← hl, List.drop_left]
theorem rawB_data (tags : List Tg) (ls : List (List Nat)) (i : Nat) (h : i < tags.length) : ((rawB tags ls).drop (12 + 16 * tags.length + upTo ls i)).take (ls.getD i []).length = ls.getD i [] := by
  obtain ⟨r, hr⟩ := dataB_split ls i tags.length h
  have hl : (headB tags.length ++ recsB tags ls (12 + 16 * tags.length) tags.length ++ dataB ls i).length = 12 + 16 * tags.length + upTo ls i := by simp only [List.length_append, headB_length, recsB_length, dataB_length]
  have e : rawB tags ls = (headB tags.length ++ recsB tags ls (12 + 16 * tags.length) tags.length ++ dataB ls i) ++ (ls.getD i [] ++ (List.replicate (up (ls.getD i []).length - (ls.getD i []).length) 0 ++ r)) := by
    unfold rawB
    rw [hr]
    simp only [padded, List.append_assoc]
  rw [e, ← hl, List.drop_left, List.take_left]
theorem rawB_head (tags : List Tg) (ls : List (List Nat)) : (rawB tags ls).take 12 = headB tags.length := by
  unfold rawB
  rw [List.append_assoc, List.take_append_of_le_length (Nat.le_of_eq (headB_length _).symm), List.take_of_length_le (Nat.le_of_eq (headB_length _))]
theorem get_drop (b c r : List Nat) (k j : Nat) (h : b.drop k = c ++ r) (hj : j < c.length) : b.getD (k + j) 0 = c.getD j 0 := by
  have h1 : (b.drop k).getD j 0 = b.getD (k + j) 0 := by simp [List.getD_eq_getElem?_getD]
  rw [← h1, h]
  simp only [List.getD_eq_getElem?_getD]
  rw [List.getElem?_append_left hj]
theorem num_drop (b c r : List Nat) (k j : Nat) (h : b.drop k = c ++ r) (hj : j + 4 ≤ c.length) : numAt b (k + j) 4 = numF ((c.drop j).take 4) := by
  unfold numAt
  rw [← List.drop_drop, h, List.drop_append_of_le_length (by omega), List.take_append_of_le_length (by simp; omega)]
def tabsOf (tags : List Tg) (ls : List (List Nat)) : List Tb := (List.range tags.length).map fun i => ⟨tags.getD i noTag, 12 + 16 * tags.length + upTo ls i, (ls.getD i []).length⟩
theorem tabSum_lt (t : Tg) (l : List Nat) : tabSum t l < 4294967296 := by
  unfold tabSum
  split <;> exact sumTo_lt _ _
theorem rawB_recAt (tags : List Tg) (ls : List (List Nat)) (i : Nat) (h : i < tags.length) (hs : 12 + 16 * tags.length + upTo ls tags.length ≤ 16777216) :
    recAt (rawB tags ls) i = ⟨tags.getD i noTag, 12 + 16 * tags.length + upTo ls i, (ls.getD i []).length⟩ ∧ numAt (rawB tags ls) (12 + 16 * i + 4) 4 = tabSum (tags.getD i noTag) (ls.getD i []) := by
  obtain ⟨r, hr⟩ := rawB_rec tags ls i h
  have hm := upTo_mono ls (i + 1) tags.length (by omega)
  have hu := up_ge (ls.getD i []).length
  simp only [upTo] at hm
  have hlen : (recB (tags.getD i noTag) (ls.getD i []) (12 + 16 * tags.length + upTo ls i)).length = 16 := recB_length _ _ _
  have g0 := get_drop _ _ _ _ 0 hr (by omega)
  have g1 := get_drop _ _ _ _ 1 hr (by omega)
  have g2 := get_drop _ _ _ _ 2 hr (by omega)
  have g3 := get_drop _ _ _ _ 3 hr (by omega)
  have g4 := num_drop _ _ _ _ 4 hr (by omega)
  have g8 := num_drop _ _ _ _ 8 hr (by omega)
  have g12 := num_drop _ _ _ _ 12 hr (by omega)
  have hb : ∀ v : Int, (be v 4).length = 4 := fun v => be_length v 4
  have n4 := numF_be4 (tabSum (tags.getD i noTag) (ls.getD i [])) (tabSum_lt _ _)
  have n8 := numF_be4 (12 + 16 * tags.length + upTo ls i) (by omega)
  have n12 := numF_be4 (ls.getD i []).length (by omega)
  have e4 : ((recB (tags.getD i noTag) (ls.getD i []) (12 + 16 * tags.length + upTo ls i)).drop 4).take 4 = be ((tabSum (tags.getD i noTag) (ls.getD i []) : Nat) : Int) 4 := by
    unfold recB
    rw [List.drop_append_of_le_length (by simp [Tg.bytes]), show (tags.getD i noTag).bytes.drop 4 = [] from rfl, List.nil_append, List.take_append_of_le_length (Nat.le_of_eq (hb _).symm), List.take_of_length_le (Nat.le_of_eq (hb _))]
  have e8 : ((recB (tags.getD i noTag) (ls.getD i []) (12 + 16 * tags.length + upTo ls i)).drop 8).take 4 = be ((12 + 16 * tags.length + upTo ls i : Nat) : Int) 4 := by
    have : (recB (tags.getD i noTag) (ls.getD i []) (12 + 16 * tags.length + upTo ls i)).drop 8 = be ((12 + 16 * tags.length + upTo ls i : Nat) : Int) 4 ++ be (((ls.getD i []).length : Nat) : Int) 4 := by
      unfold recB
      rw [← List.append_assoc]
      exact List.drop_left' (by simp [Tg.bytes, hb])
    rw [this, List.take_append_of_le_length (Nat.le_of_eq (hb _).symm), List.take_of_length_le (Nat.le_of_eq (hb _))]
  have e12 : ((recB (tags.getD i noTag) (ls.getD i []) (12 + 16 * tags.length + upTo ls i)).drop 12).take 4 = be (((ls.getD i []).length : Nat) : Int) 4 := by
    have : (recB (tags.getD i noTag) (ls.getD i []) (12 + 16 * tags.length + upTo ls i)).drop 12 = be (((ls.getD i []).length : Nat) : Int) 4 := by
      unfold recB
      rw [← List.append_assoc, ← List.append_assoc]
      exact List.drop_left' (by simp [Tg.bytes, hb])
    rw [this, List.take_of_length_le (Nat.le_of_eq (hb _))]
  rw [e4, n4] at g4
  rw [e8, n8] at g8
  rw [e12, n12] at g12
  refine ⟨?_, g4⟩
  unfold recAt
  rw [g8, g12, g1, g2, g3]
  rw [Nat.add_zero] at g0
  rw [g0]
  rfl
end Go.Proofs.YtfbppbelcbbhlaaDoor.Sf
