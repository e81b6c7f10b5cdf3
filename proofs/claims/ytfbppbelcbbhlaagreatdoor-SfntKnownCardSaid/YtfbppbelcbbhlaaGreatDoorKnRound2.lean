/- A joined font is read as its tables; joined again it is itself. -/
import Derived.Test.YtfbppbelcbbhlaaGreatDoorKnRound
namespace Go.Proofs.YtfbppbelcbbhlaaGreatDoor.Sf
open Go Go.RowKit

theorem raw_tabN (tags : List Tg) (ls : List (List Nat)) (h1 : tags.length ≤ 64) : tabN (rawB tags ls) = tags.length := by
  have hl := rawB_length tags ls
  unfold tabN refNum
  rw [if_pos (by omega)]
  show numF (((rawB tags ls).drop 4).take 2) = _
  have e : ((rawB tags ls).drop 4).take 2 = (((rawB tags ls).take 12).drop 4).take 2 := by
    rw [List.drop_take, List.take_take]
    simp
  rw [e, rawB_head]
  have e2 : ((headB tags.length).drop 4).take 2 = be ((tags.length : Nat) : Int) 2 := by
    have : (headB tags.length).drop 4 = be ((tags.length : Nat) : Int) 2 ++ (be (16 * 2 ^ lg tags.length) 2 ++ be (lg tags.length) 2 ++ be (16 * tags.length - 16 * 2 ^ lg tags.length) 2) := by
      unfold headB
      simp only [List.append_assoc]
      exact List.drop_left' (be_length _ _)
    rw [this, List.take_append_of_le_length (Nat.le_of_eq (be_length _ _).symm), List.take_of_length_le (Nat.le_of_eq (be_length _ _))]
  rw [e2]
  exact numF_be2 _ (by omega)
theorem raw_tables (tags : List Tg) (ls : List (List Nat)) (hok : joinOk tags ls) (hs : 12 + 16 * tags.length + upTo ls tags.length ≤ 16777216) : tablesF (rawB tags ls) = some (tabsOf tags ls) := by
  obtain ⟨j1, j2, j3, j4⟩ := hok
  have hn := raw_tabN tags ls j3
  have hl := rawB_length tags ls
  have hrec := fun i (hi : i < tags.length) => rawB_recAt tags ls i hi hs
  have hle : ∀ i, i < tags.length → upTo ls i + (ls.getD i []).length ≤ upTo ls tags.length := fun i hi => by
    have hm := upTo_mono ls (i + 1) tags.length (by omega)
    have hu := up_ge (ls.getD i []).length
    simp only [upTo] at hm
    omega
  rw [tablesF_some hn ⟨by omega, by omega, j2, j3, rawB_head tags ls, by omega⟩]
  · congr 1
    unfold recs tabsOf
    exact List.map_congr_left fun i hi => (hrec i (List.mem_range.1 hi)).1
  · intro i hi
    have hr := hrec i hi
    have hm := upTo_mod ls i
    have h2 := hle i hi
    unfold recOk
    rw [hr.1, hr.2]
    refine ⟨?_, ?_, ?_, ?_, ?_⟩
    · show (12 + 16 * tags.length + upTo ls i) % 4 = 0
      omega
    · show 12 + 16 * tags.length ≤ 12 + 16 * tags.length + upTo ls i
      omega
    · show 12 + 16 * tags.length + upTo ls i + (ls.getD i []).length ≤ _
      omega
    · show tabSum (tags.getD i noTag) (((rawB tags ls).drop (12 + 16 * tags.length + upTo ls i)).take (ls.getD i []).length) = _
      rw [rawB_data tags ls i hi]
    · rcases j4 i hi with h | h
      · exact .inl h
      · rcases Nat.eq_zero_or_pos i with h0 | h0
        · exact .inl h0
        · rw [(hrec (i - 1) (by omega)).1]
          exact .inr h
  · intro i hi j hj
    rw [(hrec i hi).1, (hrec j (by omega)).1]
    have hm := upTo_mono ls (j + 1) i (by omega)
    have hu := up_ge (ls.getD j []).length
    simp only [upTo] at hm
    rintro ⟨_, _, h3, _⟩
    simp only at h3
    omega

/-! ### The check of the whole -/
theorem recsB_congr (tags : List Tg) (ls ls' : List (List Nat)) (base k : Nat) (h1 : ∀ i, (ls'.getD i []).length = (ls.getD i []).length) (h2 : ∀ i, tabSum (tags.getD i noTag) (ls'.getD i []) = tabSum (tags.getD i noTag) (ls.getD i [])) :
    recsB tags ls' base k = recsB tags ls base k ∧ upTo ls' k = upTo ls k ∧ placeOf tags ls' base k = placeOf tags ls base k := by
  induction k with
  | zero => exact ⟨rfl, rfl, rfl⟩
  | succ k ih =>
    obtain ⟨i1, i2, i3⟩ := ih
    refine ⟨?_, ?_, ?_⟩
    · simp only [recsB, i1, i2, recB, h1, h2]
    · simp only [upTo, i2, h1]
    · simp only [placeOf, i2, i3, h1]
/-- Four bytes of a row set. -/
def put4 (l : List Nat) (s : Nat) : List Nat := l.take 8 ++ be s 4 ++ l.drop 12
theorem put4_length (l : List Nat) (s : Nat) (h : 12 ≤ l.length) : (put4 l s).length = l.length := by
  simp [put4, be_length]
  omega
theorem put4_zeroed (l : List Nat) (s : Nat) (h : 12 ≤ l.length) : zeroed (put4 l s) = zeroed l := by
  have hl := put4_length l s h
  have e8 : (l.take 8).length = 8 := by simp; omega
  unfold zeroed
  rw [hl, Nat.min_eq_left h]
  have h1 : (put4 l s).take 8 = l.take 8 := by
    unfold put4
    rw [List.append_assoc]
    exact List.take_left' e8
  have h2 : (put4 l s).drop 12 = l.drop 12 := by
    unfold put4
    exact List.drop_left' (by rw [List.length_append, e8, be_length])
  rw [h1, h2]
theorem put4_sum (l : List Nat) (s : Nat) (h : 12 ≤ l.length) : tabSum hdT (put4 l s) = tabSum hdT l := by
  unfold tabSum
  rw [put4_length l s h, if_pos ⟨rfl, by omega⟩, if_pos ⟨rfl, by omega⟩, put4_zeroed l s h]
theorem dataB_set (ls : List (List Nat)) (k s : Nat) (h12 : 12 ≤ (ls.getD k []).length) (hk : k < ls.length) :
    ∀ m, dataB (ls.set k (put4 (ls.getD k []) s)) m = if m ≤ k then dataB ls m else (dataB ls m).take (upTo ls k + 8) ++ be s 4 ++ (dataB ls m).drop (upTo ls k + 12) := by
  have hget : ∀ i, (ls.set k (put4 (ls.getD k []) s)).getD i [] = if i = k then put4 (ls.getD k []) s else ls.getD i [] := fun i => by
    simp only [List.getD_eq_getElem?_getD, List.getElem?_set]
    by_cases e : k = i
    · subst e
      simp [hk]
    · rw [if_neg e, if_neg (fun h => e h.symm)]
  intro m
  induction m with
  | zero => simp [dataB]
  | succ m ih =>
    simp only [dataB, hget]
    rcases Nat.lt_trichotomy m k with h | h | h
    · rw [ih, if_pos (show m ≤ k by omega), if_neg (show ¬ m = k by omega), if_pos (show m + 1 ≤ k by omega)]
    · subst h
      rw [ih, if_pos (Nat.le_refl m), if_pos (show m = m from rfl), if_neg (show ¬ m + 1 ≤ m by omega)]
      have hd := dataB_length ls m
      have hl := put4_length (ls.getD m []) s h12
      have e8 : ((ls.getD m []).take 8).length = 8 := by simp only [List.length_take]; omega
      have t1 : (dataB ls m ++ padded (ls.getD m [])).take (upTo ls m + 8) = dataB ls m ++ (ls.getD m []).take 8 := by
        rw [← hd, List.take_length_add_append]
        congr 1
        unfold padded
        exact List.take_append_of_le_length (by omega)
      have t2 : (dataB ls m ++ padded (ls.getD m [])).drop (upTo ls m + 12) = (ls.getD m []).drop 12 ++ List.replicate (up (ls.getD m []).length - (ls.getD m []).length) 0 := by
        rw [← hd, List.drop_length_add_append]
        unfold padded
        exact List.drop_append_of_le_length (by omega)
      rw [t1, t2]
      unfold padded
      rw [hl]
      unfold put4
      simp only [List.append_assoc]
    · rw [ih, if_neg (show ¬ m ≤ k by omega), if_neg (show ¬ m = k by omega), if_neg (show ¬ m + 1 ≤ k by omega)]
      have hd := dataB_length ls m
      have hm := upTo_mono ls (k + 1) m (by omega)
      have hu := up_ge (ls.getD k []).length
      simp only [upTo] at hm
      have t1 : (dataB ls m ++ padded (ls.getD m [])).take (upTo ls k + 8) = (dataB ls m).take (upTo ls k + 8) := List.take_append_of_le_length (by omega)
      have t2 : (dataB ls m ++ padded (ls.getD m [])).drop (upTo ls k + 12) = (dataB ls m).drop (upTo ls k + 12) ++ padded (ls.getD m []) := List.drop_append_of_le_length (by omega)
      rw [t1, t2]
      simp only [List.append_assoc]
theorem set_getD (ls : List (List Nat)) (k : Nat) (x : List Nat) (hk : k < ls.length) (i : Nat) : (ls.set k x).getD i [] = if i = k then x else ls.getD i [] := by
  simp only [List.getD_eq_getElem?_getD, List.getElem?_set]
  by_cases e : k = i
  · subst e
    simp [hk]
  · rw [if_neg e, if_neg (fun h => e h.symm)]
theorem placeOf_none {tags : List Tg} {ls : List (List Nat)} {base k : Nat} (h : placeOf tags ls base k = none) : ∀ i, i < k → ¬ (tags.getD i noTag = hdT ∧ 12 ≤ (ls.getD i []).length) := by
  induction k with
  | zero => intro i hi; omega
  | succ k ih =>
    simp only [placeOf] at h
    split at h
    · cases h
    · rename_i hc
      intro i hi
      rcases Nat.lt_or_ge i k with h2 | h2
      · exact ih h i h2
      · have : i = k := by omega
        subst this
        exact hc
theorem whole4_again (b : List Nat) (p : Nat) (hp : p + 4 ≤ b.length) : whole4 (whole4 b p) p = whole4 b p := by
  have hd : (b.take p).length = p := by simp; omega
  have h1 : (whole4 b p).take p = b.take p := by
    unfold whole4
    rw [List.append_assoc]
    exact List.take_left' hd
  have h2 : (whole4 b p).drop (p + 4) = b.drop (p + 4) := by
    unfold whole4
    exact List.drop_left' (by rw [List.length_append, hd, be_length])
  have h0 : whole0 (whole4 b p) p = whole0 b p := by
    unfold whole0
    rw [h1, h2]
  have hS : wholeS (whole4 b p) p = wholeS b p := by
    unfold wholeS
    rw [h0]
  show (whole4 b p).take p ++ be (wholeS (whole4 b p) p) 4 ++ (whole4 b p).drop (p + 4) = _
  rw [h1, h2, hS]
  rfl
structure Joined (tags : List Tg) (ls ls' : List (List Nat)) : Prop where
  len : ls'.length = ls.length
  file : fileB tags ls = rawB tags ls'
  lens : ∀ i, (ls'.getD i []).length = (ls.getD i []).length
  lt : ∀ l ∈ ls', ∀ x ∈ l, x < 256
  again : fileB tags ls' = fileB tags ls
  up : ∀ k, upTo ls' k = upTo ls k
  bytes : ∀ i k, (ls'.getD i []).getD k 0 = (ls.getD i []).getD k 0 ∨ (tags.getD i noTag = hdT ∧ 12 ≤ (ls.getD i []).length ∧ 8 ≤ k ∧ k < 12)
  sum : ∀ i, i < tags.length → tags.getD i noTag = hdT → 12 ≤ (ls.getD i []).length → sumF (fileB tags ls) = 2981146554
theorem joined (tags : List Tg) (ls : List (List Nat)) (hn : tags.length = ls.length) (hlt : ∀ l ∈ ls, ∀ x ∈ l, x < 256) : ∃ ls', Joined tags ls ls' := by
  cases hp : placeOf tags ls (12 + 16 * tags.length) tags.length with
  | none =>
    have hf : fileB tags ls = rawB tags ls := by
      unfold fileB
      rw [hp]
      rfl
    exact ⟨ls, rfl, hf, fun _ => rfl, hlt, rfl, fun _ => rfl, fun _ _ => .inl rfl, fun i hi h1 h2 => absurd ⟨h1, h2⟩ (placeOf_none hp i hi)⟩
  | some p =>
    obtain ⟨k, hk, htag, h12, hpe⟩ := placeOf_some hp
    have hple := placeOf_le hp
    have hkl : k < ls.length := by omega
    have hf : fileB tags ls = whole4 (rawB tags ls) p := by
      unfold fileB
      rw [hp]
      rfl
    obtain ⟨s, hs⟩ : ∃ s, s = wholeS (rawB tags ls) p := ⟨_, rfl⟩
    have hget := set_getD ls k (put4 (ls.getD k []) s) hkl
    have hlens : ∀ i, ((ls.set k (put4 (ls.getD k []) s)).getD i []).length = (ls.getD i []).length := fun i => by
      rw [hget]
      split
      · rename_i e
        subst e
        exact put4_length _ _ h12
      · rfl
    have hsums : ∀ i, tabSum (tags.getD i noTag) ((ls.set k (put4 (ls.getD k []) s)).getD i []) = tabSum (tags.getD i noTag) (ls.getD i []) := fun i => by
      rw [hget]
      split
      · rename_i e
        subst e
        rw [htag]
        exact put4_sum _ _ h12
      · rfl
    have hcg := fun m => recsB_congr tags ls (ls.set k (put4 (ls.getD k []) s)) (12 + 16 * tags.length) m hlens hsums
    have hraw : rawB tags (ls.set k (put4 (ls.getD k []) s)) = whole4 (rawB tags ls) p := by
      have hd := dataB_set ls k s h12 hkl tags.length
      rw [if_neg (show ¬ tags.length ≤ k by omega)] at hd
      have hl : (headB tags.length ++ recsB tags ls (12 + 16 * tags.length) tags.length).length = 12 + 16 * tags.length := by simp only [List.length_append, headB_length, recsB_length]
      show headB tags.length ++ recsB tags (ls.set k (put4 (ls.getD k []) s)) (12 + 16 * tags.length) tags.length ++ dataB (ls.set k (put4 (ls.getD k []) s)) tags.length = _
      rw [(hcg tags.length).1, hd]
      unfold whole4
      have e1 : (rawB tags ls).take p = headB tags.length ++ recsB tags ls (12 + 16 * tags.length) tags.length ++ (dataB ls tags.length).take (upTo ls k + 8) := by
        unfold rawB
        rw [show p = (headB tags.length ++ recsB tags ls (12 + 16 * tags.length) tags.length).length + (upTo ls k + 8) from by omega, List.take_length_add_append]
      have e2 : (rawB tags ls).drop (p + 4) = (dataB ls tags.length).drop (upTo ls k + 12) := by
        unfold rawB
        rw [show p + 4 = (headB tags.length ++ recsB tags ls (12 + 16 * tags.length) tags.length).length + (upTo ls k + 12) from by omega, List.drop_length_add_append]
      rw [e1, e2, ← hs]
      simp only [List.append_assoc]
    have hpl : p + 4 ≤ (rawB tags ls).length := by rw [rawB_length]; omega
    refine ⟨ls.set k (put4 (ls.getD k []) s), by simp, by rw [hf, hraw], hlens, ?_, ?_, fun m => (hcg m).2.1, ?_, ?_⟩
    · intro l hl x hx
      rcases List.mem_or_eq_of_mem_set hl with h | h
      · exact hlt l h x hx
      · subst h
        have hlk : ∀ y ∈ ls.getD k [], y < 256 := fun y hy => by
          have : ls.getD k [] ∈ ls := by
            rw [List.getD_eq_getElem?_getD, List.getElem?_eq_getElem hkl]
            exact List.getElem_mem _
          exact hlt _ this y hy
        simp only [put4, List.mem_append] at hx
        rcases hx with (h | h) | h
        · exact hlk x (List.mem_of_mem_take h)
        · exact be_lt _ _ x h
        · exact hlk x (List.mem_of_mem_drop h)
    · unfold fileB
      rw [(hcg tags.length).2.2, hp, hraw]
      show whole4 (whole4 (rawB tags ls) p) p = whole4 (rawB tags ls) p
      exact whole4_again _ _ hpl
    · intro i m
      rw [hget]
      split
      · rename_i e
        subst e
        have e8 : ((ls.getD i []).take 8).length = 8 := by simp only [List.length_take]; omega
        by_cases hm : 8 ≤ m ∧ m < 12
        · exact .inr ⟨htag, h12, hm⟩
        · left
          unfold put4
          rw [List.append_assoc]
          generalize ls.getD i [] = y at *
          rcases Nat.lt_or_ge m 8 with h8 | h8
          · simp only [List.getD_eq_getElem?_getD]
            rw [List.getElem?_append_left (by omega), List.getElem?_take, if_pos h8]
          · simp only [List.getD_eq_getElem?_getD]
            rw [List.getElem?_append_right (by omega), e8, List.getElem?_append_right (by rw [be_length]; omega), be_length, List.getElem?_drop]
            congr 2
            omega
      · exact .inl rfl
    · intro i hi h1 h2
      rw [hf]
      refine sum_whole _ _ ?_ hpl
      have := upTo_mod ls k
      omega
theorem joined_tables {tags : List Tg} {ls ls' : List (List Nat)} (h : Joined tags ls ls') (hok : joinOk tags ls) (hs : 12 + 16 * tags.length + upTo ls tags.length ≤ 16777216) : tablesF (fileB tags ls) = some (tabsOf tags ls) := by
  rw [h.file, raw_tables tags ls' ⟨hok.1.trans h.len.symm, hok.2⟩ (by rw [h.up]; exact hs)]
  unfold tabsOf
  simp only [h.up, h.lens]
theorem joined_part {tags : List Tg} {ls ls' : List (List Nat)} (h : Joined tags ls ls') (i : Nat) (hi : i < tags.length) : ((fileB tags ls).drop (12 + 16 * tags.length + upTo ls i)).take (ls.getD i []).length = ls'.getD i [] := by
  rw [h.file, ← h.up, ← h.lens]
  exact rawB_data tags ls' i hi
theorem joined_length {tags : List Tg} {ls ls' : List (List Nat)} (h : Joined tags ls ls') : (fileB tags ls).length = 12 + 16 * tags.length + upTo ls tags.length := by
  rw [h.file, rawB_length, h.up]
end Go.Proofs.YtfbppbelcbbhlaaGreatDoor.Sf
