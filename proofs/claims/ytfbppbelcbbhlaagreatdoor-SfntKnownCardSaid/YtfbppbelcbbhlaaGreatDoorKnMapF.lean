/- works: the chapter's first examples are answered as they should be. -/
import Derived.Test.YtfbppbelcbbhlaaGreatDoorKnTab9
import Derived.Test.YtfbppbelcbbhlaaGreatDoorKnPut
namespace Go.Proofs.YtfbppbelcbbhlaaGreatDoor.Sf
open Go Go.RowKit

def exB : List Nat := [0, 1, 0, 0, 0, 1, 0, 16, 0, 0, 0, 0, 97, 98, 49, 50, 1, 2, 3, 0, 0, 0, 0, 28, 0, 0, 0, 3, 1, 2, 3, 0]
def exT : Tg := ⟨97, 98, 49, 50⟩
theorem ex_join : joinF [exT] [[1, 2, 3]] = some exB := by decide +kernel
theorem ex_tables : tablesF exB = some [⟨exT, 28, 3⟩] := by decide +kernel
theorem byt_blk {w : World} {b t : Nat} {c : Array Value} {f : Nat × Nat} (l : List Nat) (h : w.heap[b]? = some (.cells c t f)) (hc : c.toList = u8s l) (hlt : ∀ x ∈ l, x < 256) (hm : l.length ≤ 9223372036854775807) : Byt w (some ⟨b, 0, none⟩) l.length l :=
  ⟨Nat.le_refl _, hm, by simp, fun _ => ⟨b, 0, rfl, fun i hi => by
    rw [Nat.zero_add, cell_of_blk h, ← Array.getElem?_toList, hc]
    simp [u8s, hi]⟩, hlt⟩
theorem tags_one {w : World} {b t : Nat} {g : Tg} {f : Nat × Nat} (h : w.heap[b]? = some (.cells #[.int .u8 g.a, .int .u8 g.b, .int .u8 g.c, .int .u8 g.d] t f)) (hg : g.ok) : TagsR w (some ⟨b, 0, none⟩) 1 [g] :=
  ⟨Nat.le_refl _, by simp, by simp, fun _ => ⟨b, 0, rfl, fun i u hu => by
    match i, hu with
    | 0, hu =>
      cases hu
      simp [cell_of_blk h]⟩, fun u hu => by simp at hu; subst hu; exact hg⟩
theorem bods_one {w : World} {b t c' : Nat} {A' : Option Addr} {l : List Nat} {f : Nat × Nat} (h : w.heap[b]? = some (.cells #[.slice A' l.length c'] t f)) (hl : Byt w A' c' l) : BodsR w (some ⟨b, 0, none⟩) 1 [l] :=
  ⟨Nat.le_refl _, by simp, by simp, fun _ => ⟨b, 0, rfl, fun i u hu => by
    match i, hu with
    | 0, hu =>
      cases hu
      exact ⟨A', c', by simp [cell_of_blk h], hl⟩⟩⟩
set_option maxRecDepth 100000 in
theorem works_any (w : World) (hd : HdVar w) : Calls Tryz.prog 12 #[] w fun e w' => e = .returned (.bool true) ∧ Below w.heap.size w w' := by
  have HD := Lib.hid hd
  clear hd
  go_enter Tryz.func12, Tryz.ntmps12
  go_wp2_with fail
  have h1 := heap_alloc_new w (.cells #[.int .u8 97, .int .u8 98, .int .u8 49, .int .u8 50] 23)
  have h2 := heap_alloc_new (w.alloc (.cells #[.int .u8 97, .int .u8 98, .int .u8 49, .int .u8 50] 23)) (.cells #[.int .u8 1, .int .u8 2, .int .u8 3] 5)
  have h3 := heap_alloc_new ((w.alloc (.cells #[.int .u8 97, .int .u8 98, .int .u8 49, .int .u8 50] 23)).alloc (.cells #[.int .u8 1, .int .u8 2, .int .u8 3] 5)) (.cells #[.slice (some ⟨w.heap.size + 1, 0, none⟩) 3 3] 25)
  simp only [World.size_alloc] at h2 h3
  have h2' := (World.heap_alloc_lt (w := ((w.alloc (.cells #[.int .u8 97, .int .u8 98, .int .u8 49, .int .u8 50] 23)).alloc (.cells #[.int .u8 1, .int .u8 2, .int .u8 3] 5))) (.cells #[.slice (some ⟨w.heap.size + 1, 0, none⟩) 3 3] 25) (k := w.heap.size + 1) (by simp)).trans h2
  have h1' := (World.heap_alloc_lt (w := ((w.alloc (.cells #[.int .u8 97, .int .u8 98, .int .u8 49, .int .u8 50] 23)).alloc (.cells #[.int .u8 1, .int .u8 2, .int .u8 3] 5))) (.cells #[.slice (some ⟨w.heap.size + 1, 0, none⟩) 3 3] 25) (k := w.heap.size) (by simp; omega)).trans ((World.heap_alloc_lt (w := (w.alloc (.cells #[.int .u8 97, .int .u8 98, .int .u8 49, .int .u8 50] 23))) (.cells #[.int .u8 1, .int .u8 2, .int .u8 3] 5) (k := w.heap.size) (by simp)).trans h1)
  have hbw := (((Below.refl w.heap.size w).alloc (Nat.le_refl _) (.cells #[.int .u8 97, .int .u8 98, .int .u8 49, .int .u8 50] 23)).alloc (by simp) (.cells #[.int .u8 1, .int .u8 2, .int .u8 3] 5)).alloc (by simp; omega) (.cells #[.slice (some ⟨w.heap.size + 1, 0, none⟩) 3 3] 25)
  generalize (((w.alloc (.cells #[.int .u8 97, .int .u8 98, .int .u8 49, .int .u8 50] 23)).alloc (.cells #[.int .u8 1, .int .u8 2, .int .u8 3] 5)).alloc (.cells #[.slice (some ⟨w.heap.size + 1, 0, none⟩) 3 3] 25)) = W at *
  have hT : TagsR W (some ⟨w.heap.size, 0, none⟩) 1 [exT] := tags_one h1' ⟨by decide, by decide, by decide, by decide⟩
  have hB : BodsR W (some ⟨w.heap.size + 1 + 1, 0, none⟩) 1 [[1, 2, 3]] := bods_one h3 (byt_blk [1, 2, 3] h2' rfl (by decide) (by decide))
  have HDW := Lib.hid (HD.out.kept (kept_of_below hbw))
  have hj := join_any _ _ 1 1 [exT] [[1, 2, 3]] W hT hB HDW.out (by decide)
  rw [ex_join] at hj
  have HBW := Lib.hid hbw
  clear h1 h2 h3 h1' h2' hT hB hbw
  refine hj.mono ?_
  rintro e w2 ⟨A, c, rfl, ho, hb⟩
  obtain ⟨-, A2, c2, hA2, hy⟩ := byt_of_own ho (by decide)
  cases hA2
  have hb2 : Below w.heap.size w w2 := HBW.out.trans (hb.mono HBW.out.size)
  have ht := tables_any A c exB w2 hy (HDW.out.kept (kept_of_below hb))
  rw [ex_tables] at ht
  have HT := Lib.hid ht
  have HY := Lib.hid hy
  have HB2 := Lib.hid hb2
  clear ht hy hb2 ho hb hj
  go_wp2_with (go_at_call 22; refine HT.out.mono ?_; rintro e w3 ⟨A3, c3, rfl, ho3, hb3⟩; have HO3 := Lib.hid ho3; have HB3 := Lib.hid hb3; clear ho3 hb3)
  obtain ⟨q, hA3, -⟩ := own_pos HO3.out (by decide)
  subst hA3
  refine (sameBytes_any A (some ⟨w3.heap.size, 0, none⟩) c 32 exB exB _ ((HY.out.below HB3.out).below ((Below.refl w3.heap.size w3).alloc (Nat.le_refl _) _)) (byt_blk exB (heap_alloc_new _ _) rfl (by decide) (by decide))).mono ?_
  rintro e w4 ⟨rfl, hw4⟩
  have hb4 : Below w3.heap.size w3 w4 := by rw [← hw4]; exact (Below.refl w3.heap.size w3).alloc (Nat.le_refl _) _
  have htc := row_tb (own_below HO3.out hb4) 0 (by decide) ⟨exT, 28, 3⟩ rfl
  have q1 := htc.at_
  have q2 := htc.len
  have hbe : Below w.heap.size w w4 := HB2.out.trans ((HB3.out.trans (hb4.mono HB3.out.size)).mono HB2.out.size)
  have HBE := Lib.hid hbe
  have d1 : decide (exB = exB) = true := decide_eq_true rfl
  clear hw4 hb4 htc hbe
  simp at q1 q2
  go_wp2_with fail
  go_ret
  exact ⟨rfl, HBE.out⟩
end Go.Proofs.YtfbppbelcbbhlaaGreatDoor.Sf

/- A cmap, as a plain function: the subtable that counts, its characters, what is kept of them. -/
namespace Go.Proofs.YtfbppbelcbbhlaaGreatDoor.Sf
open Go Go.RowKit

/-- The entries of a cmap. -/
def cmN (l : List Nat) : Nat := numAt l 2 2
def cmId (l : List Nat) (i : Nat) : Nat := numAt l (4 + 8 * i) 2 * 65536 + numAt l (4 + 8 * i + 2) 2
def cmPlace (l : List Nat) (i : Nat) : Nat := numAt l (4 + 8 * i + 4) 4
def cmBest (l : List Nat) : Nat → Option (Nat × Nat)
  | 0 => none
  | k + 1 =>
    if cmPlace l k + 2 ≤ l.length then
      if cmId l k = 196618 ∧ numAt l (cmPlace l k) 2 = 12 then some (cmPlace l k, 12)
      else if cmId l k = 196609 ∧ numAt l (cmPlace l k) 2 = 4 ∧ cmBest l k = none then some (cmPlace l k, 4)
      else cmBest l k
    else cmBest l k
def cmRise (l : List Nat) (k : Nat) : Prop := ∀ i, i + 1 < k → cmId l i < cmId l (i + 1)
def cmOk (l : List Nat) : Prop := 4 ≤ l.length ∧ numAt l 0 2 = 0 ∧ 4 + 8 * cmN l ≤ l.length ∧ cmRise l (cmN l)

theorem cmRise_zero (l : List Nat) : cmRise l 0 := fun i h => by omega
theorem cmRise_one (l : List Nat) : cmRise l 1 := fun i h => by omega
theorem cmRise_succ {l : List Nat} {k : Nat} (h : cmRise l (k + 1)) (h2 : cmId l k < cmId l (k + 1)) : cmRise l (k + 2) := by
  intro i hi
  rcases Nat.lt_or_ge i k with h3 | h3
  · exact h i (by omega)
  · obtain rfl : i = k := by omega
    exact h2
theorem cmBest_form (l : List Nat) (k p f : Nat) (h : cmBest l k = some (p, f)) : (f = 12 ∨ f = 4) ∧ p + 2 ≤ l.length ∧ numAt l p 2 = f := by
  induction k with
  | zero => cases h
  | succ k ih =>
    unfold cmBest at h
    split at h
    · split at h
      · rename_i h1 h2
        cases h
        exact ⟨.inl rfl, h1, h2.2⟩
      · split at h
        · rename_i h1 h2 h3
          cases h
          exact ⟨.inr rfl, h1, h3.2.1⟩
        · exact ih h
    · exact ih h

/-- The format 12. -/
def grN (t : List Nat) : Nat := numAt t 12 4
def grFirst (t : List Nat) (i : Nat) : Nat := numAt t (16 + 12 * i) 4
def grEnd (t : List Nat) (i : Nat) : Nat := numAt t (20 + 12 * i) 4
def grGlyph (t : List Nat) (i : Nat) : Nat := numAt t (24 + 12 * i) 4
def grHead (t : List Nat) : Prop := 16 ≤ t.length ∧ numAt t 2 2 = 0 ∧ grN t ≤ 65536 ∧ numAt t 4 4 = 16 + 12 * grN t ∧ 16 + 12 * grN t ≤ t.length
instance (t : List Nat) : Decidable (grHead t) := by unfold grHead; infer_instance
def grGood (t : List Nat) (i : Nat) : Prop := grFirst t i ≤ grEnd t i ∧ grEnd t i ≤ 1114111 ∧ (i = 0 ∨ grEnd t (i - 1) < grFirst t i) ∧ grGlyph t i + grEnd t i - grFirst t i ≤ 65535
instance (t : List Nat) (i : Nat) : Decidable (grGood t i) := by unfold grGood; infer_instance
def grRow (t : List Nat) (i : Nat) : List (Nat × Nat) := (List.range (grEnd t i + 1 - grFirst t i)).map fun j => (grFirst t i + j, grGlyph t i + j)
def grAll (t : List Nat) (k : Nat) : List (Nat × Nat) := (List.range k).flatMap (grRow t)
def grOk (t : List Nat) : Prop := grHead t ∧ ∀ i, i < grN t → grGood t i

/-- The format 4. -/
def sgSize (t : List Nat) : Nat := numAt t 2 2
def sgN (t : List Nat) : Nat := numAt t 6 2 / 2
def sgEnd (t : List Nat) (i : Nat) : Nat := numAt t (14 + 2 * i) 2
def sgStart (t : List Nat) (i : Nat) : Nat := numAt t (16 + 2 * sgN t + 2 * i) 2
def sgDelta (t : List Nat) (i : Nat) : Nat := numAt t (16 + 4 * sgN t + 2 * i) 2
def sgAt (t : List Nat) (i : Nat) : Nat := 16 + 6 * sgN t + 2 * i
def sgOff (t : List Nat) (i : Nat) : Nat := numAt t (sgAt t i) 2
def sgHead (t : List Nat) : Prop := 16 ≤ t.length ∧ 2 ≤ numAt t 6 2 ∧ numAt t 6 2 % 2 = 0 ∧ 16 + 8 * sgN t ≤ sgSize t ∧ sgSize t ≤ t.length ∧ numAt t (14 + 2 * sgN t) 2 = 0 ∧ numAt t (12 + 2 * sgN t) 2 = 65535
instance (t : List Nat) : Decidable (sgHead t) := by unfold sgHead; infer_instance
def sgIn (t : List Nat) (i j : Nat) : Prop := sgOff t i ≠ 0 → sgAt t i + sgOff t i + 2 * j + 2 ≤ sgSize t
instance (t : List Nat) (i j : Nat) : Decidable (sgIn t i j) := by unfold sgIn; infer_instance
def sgGood (t : List Nat) (i : Nat) : Prop := sgStart t i ≤ sgEnd t i ∧ (i = 0 ∨ sgEnd t (i - 1) < sgStart t i)
instance (t : List Nat) (i : Nat) : Decidable (sgGood t i) := by unfold sgGood; infer_instance
def sgGlyph (t : List Nat) (i j : Nat) : Nat :=
  if sgOff t i = 0 then (sgStart t i + j + sgDelta t i) % 65536
  else if numAt t (sgAt t i + sgOff t i + 2 * j) 2 = 0 then 0 else (numAt t (sgAt t i + sgOff t i + 2 * j) 2 + sgDelta t i) % 65536
def sgRow (t : List Nat) (i : Nat) : List (Nat × Nat) := (List.range (sgEnd t i + 1 - sgStart t i)).map fun j => (sgStart t i + j, sgGlyph t i j)
def sgAll (t : List Nat) (k : Nat) : List (Nat × Nat) := (List.range k).flatMap (sgRow t)
def sgOk (t : List Nat) : Prop := sgHead t ∧ ∀ i, i < sgN t → sgGood t i ∧ ∀ j, sgStart t i + j ≤ sgEnd t i → sgIn t i j

/-- What is kept. -/
def mpKeep (x : Nat × Nat) : Bool := decide (x.2 ≠ 0 ∧ ¬ (55296 ≤ x.1 ∧ x.1 ≤ 57343))
def mpKept (L : List (Nat × Nat)) : List (Nat × Nat) := L.filter mpKeep
def mpBad (g : Int) (x : Nat × Nat) : Prop := mpKeep x = true ∧ g ≤ (x.2 : Int)
instance (g : Int) (x : Nat × Nat) : Decidable (mpBad g x) := by unfold mpBad; infer_instance
def mpFull (t : List Nat) (f : Nat) : List (Nat × Nat) := if f = 4 then sgAll t (sgN t) else grAll t (grN t)
def mpOk (t : List Nat) (f : Nat) : Prop := if f = 4 then sgOk t else grOk t
open Classical in
noncomputable def mapsF (l : List Nat) (g : Int) : Option (List (Nat × Nat)) :=
  if cmOk l then
    match cmBest l (cmN l) with
    | none => none
    | some (p, f) => if mpOk (l.drop p) f ∧ ∀ x ∈ mpFull (l.drop p) f, ¬ mpBad g x then some (mpKept (mpFull (l.drop p) f)) else none
  else none

theorem mapsF_wrong {l : List Nat} {g : Int} (h : ¬ cmOk l) : mapsF l g = none := by unfold mapsF; rw [if_neg h]
theorem mapsF_lack {l : List Nat} {g : Int} (h : cmBest l (cmN l) = none) : mapsF l g = none := by unfold mapsF; rw [h]; simp
theorem mapsF_no {l : List Nat} {g : Int} {p f : Nat} (hb : cmBest l (cmN l) = some (p, f)) (h : ¬ (mpOk (l.drop p) f ∧ ∀ x ∈ mpFull (l.drop p) f, ¬ mpBad g x)) : mapsF l g = none := by
  unfold mapsF; rw [hb]; simp only; rw [if_neg h]; simp
theorem mapsF_yes {l : List Nat} {g : Int} {p f : Nat} (hc : cmOk l) (hb : cmBest l (cmN l) = some (p, f)) (h : mpOk (l.drop p) f) (h2 : ∀ x ∈ mpFull (l.drop p) f, ¬ mpBad g x) :
    mapsF l g = some (mpKept (mpFull (l.drop p) f)) := by
  unfold mapsF; rw [if_pos hc, hb]; simp only; rw [if_pos ⟨h, h2⟩]

theorem grAll_succ (t : List Nat) (k : Nat) : grAll t (k + 1) = grAll t k ++ grRow t k := by simp [grAll, List.range_succ, List.flatMap_append]
theorem sgAll_succ (t : List Nat) (k : Nat) : sgAll t (k + 1) = sgAll t k ++ sgRow t k := by simp [sgAll, List.range_succ, List.flatMap_append]
def grPart (t : List Nat) (i j : Nat) : List (Nat × Nat) := (List.range j).map fun j => (grFirst t i + j, grGlyph t i + j)
def sgPart (t : List Nat) (i j : Nat) : List (Nat × Nat) := (List.range j).map fun j => (sgStart t i + j, sgGlyph t i j)
theorem grPart_succ (t : List Nat) (i j : Nat) : grPart t i (j + 1) = grPart t i j ++ [(grFirst t i + j, grGlyph t i + j)] := by simp [grPart, List.range_succ]
theorem sgPart_succ (t : List Nat) (i j : Nat) : sgPart t i (j + 1) = sgPart t i j ++ [(sgStart t i + j, sgGlyph t i j)] := by simp [sgPart, List.range_succ]
theorem grPart_full (t : List Nat) (i : Nat) : grPart t i (grEnd t i + 1 - grFirst t i) = grRow t i := rfl
theorem sgPart_full (t : List Nat) (i : Nat) : sgPart t i (sgEnd t i + 1 - sgStart t i) = sgRow t i := rfl
theorem grAll_mem {t : List Nat} {i j : Nat} (hi : i < grN t) (hj : grFirst t i + j ≤ grEnd t i) : (grFirst t i + j, grGlyph t i + j) ∈ grAll t (grN t) := by
  simp only [grAll, List.mem_flatMap, List.mem_range, grRow, List.mem_map]
  exact ⟨i, hi, j, by omega, rfl⟩
theorem sgAll_mem {t : List Nat} {i j : Nat} (hi : i < sgN t) (hj : sgStart t i + j ≤ sgEnd t i) : (sgStart t i + j, sgGlyph t i j) ∈ sgAll t (sgN t) := by
  simp only [sgAll, List.mem_flatMap, List.mem_range, sgRow, List.mem_map]
  exact ⟨i, hi, j, by omega, rfl⟩
theorem mpKept_append (a b : List (Nat × Nat)) : mpKept (a ++ b) = mpKept a ++ mpKept b := by simp [mpKept]

/-- Characters rise. -/
def Rises (L : List (Nat × Nat)) : Prop := L.Pairwise fun x y => x.1 < y.1
theorem range_rises (a n : Nat) (h : Nat → Nat) : Rises ((List.range n).map fun j => (a + j, h j)) := by
  unfold Rises
  rw [List.pairwise_map]
  exact List.pairwise_lt_range.imp (fun h => by simpa using h)
theorem grAll_rises (t : List Nat) (k : Nat) (h : ∀ i, i < k → grGood t i) : Rises (grAll t k) ∧ ∀ x ∈ grAll t k, 0 < k ∧ x.1 ≤ grEnd t (k - 1) := by
  induction k with
  | zero => exact ⟨by simp [grAll, Rises], by simp [grAll]⟩
  | succ k ih =>
    obtain ⟨h1, h2⟩ := ih (fun i hi => h i (by omega))
    obtain ⟨g1, g2, g3, g4⟩ := h k (by omega)
    have hr : ∀ x ∈ grRow t k, grFirst t k ≤ x.1 ∧ x.1 ≤ grEnd t k := by
      intro x hx
      simp only [grRow, List.mem_map, List.mem_range] at hx
      obtain ⟨j, hj, rfl⟩ := hx
      exact ⟨by simp, by simp; omega⟩
    have hlast : ∀ x ∈ grAll t k, x.1 < grFirst t k := by
      intro x hx
      obtain ⟨h3, h4⟩ := h2 x hx
      rcases g3 with g3 | g3 <;> omega
    rw [grAll_succ]
    refine ⟨List.pairwise_append.2 ⟨h1, range_rises _ _ _, fun x hx y hy => ?_⟩, fun x hx => ⟨by omega, ?_⟩⟩
    · have := hlast x hx
      have := (hr y hy).1
      omega
    · rcases List.mem_append.1 hx with hx | hx
      · have := hlast x hx
        simp; omega
      · simpa using (hr x hx).2
theorem sgAll_rises (t : List Nat) (k : Nat) (h : ∀ i, i < k → sgGood t i) : Rises (sgAll t k) ∧ ∀ x ∈ sgAll t k, 0 < k ∧ x.1 ≤ sgEnd t (k - 1) := by
  induction k with
  | zero => exact ⟨by simp [sgAll, Rises], by simp [sgAll]⟩
  | succ k ih =>
    obtain ⟨h1, h2⟩ := ih (fun i hi => h i (by omega))
    obtain ⟨g1, g3⟩ := h k (by omega)
    have hr : ∀ x ∈ sgRow t k, sgStart t k ≤ x.1 ∧ x.1 ≤ sgEnd t k := by
      intro x hx
      simp only [sgRow, List.mem_map, List.mem_range] at hx
      obtain ⟨j, hj, rfl⟩ := hx
      exact ⟨by simp, by simp; omega⟩
    have hlast : ∀ x ∈ sgAll t k, x.1 < sgStart t k := by
      intro x hx
      obtain ⟨h3, h4⟩ := h2 x hx
      rcases g3 with g3 | g3 <;> omega
    rw [sgAll_succ]
    refine ⟨List.pairwise_append.2 ⟨h1, range_rises _ _ _, fun x hx y hy => ?_⟩, fun x hx => ⟨by omega, ?_⟩⟩
    · have := hlast x hx
      have := (hr y hy).1
      omega
    · rcases List.mem_append.1 hx with hx | hx
      · have := hlast x hx
        simp; omega
      · simpa using (hr x hx).2
theorem mpKept_rises {L : List (Nat × Nat)} (h : Rises L) : Rises (mpKept L) := List.Pairwise.filter _ h
theorem rises_between : ∀ (L : List (Nat × Nat)) (m n : Nat), Rises L → (∀ x ∈ L, m ≤ x.1 ∧ x.1 < n) → L.length ≤ n - m
  | [], _, _, _, _ => by simp
  | a :: L, m, n, h, hn => by
    have hp := List.pairwise_cons.1 h
    have ha := hn a (by simp)
    have := rises_between L (a.1 + 1) n hp.2 (fun x hx => ⟨hp.1 x hx, (hn x (by simp [hx])).2⟩)
    simp
    omega
/-- What rises, and stays below n, has no more than n. -/
theorem rises_length {L : List (Nat × Nat)} (h : Rises L) (n : Nat) (hn : ∀ x ∈ L, x.1 < n) : L.length ≤ n := by
  have := rises_between L 0 n h (fun x hx => ⟨Nat.zero_le _, hn x hx⟩)
  omega
theorem grPre_length {t : List Nat} {k j : Nat} (h : ∀ i, i < k → grGood t i) (h2 : grGood t k) (hj : grFirst t k + j ≤ grEnd t k) : (grAll t k ++ grPart t k j).length < 1114112 := by
  have h3 := grAll_rises t (k + 1) (fun i hi => by
    rcases Nat.lt_or_ge i k with h4 | h4
    · exact h i h4
    · obtain rfl : i = k := by omega
      exact h2)
  have h4 := rises_length h3.1 1114112 (fun x hx => by have := (h3.2 x hx).2; simp at this; have := h2.2.1; omega)
  rw [grAll_succ, List.length_append, grRow, List.length_map, List.length_range] at h4
  rw [List.length_append, grPart, List.length_map, List.length_range]
  omega
theorem sgPre_length {t : List Nat} {k j : Nat} (h : ∀ i, i < k → sgGood t i) (h2 : sgGood t k) (hj : sgStart t k + j ≤ sgEnd t k) (he : sgEnd t k < 65536) : (sgAll t k ++ sgPart t k j).length < 1114112 := by
  have h3 := sgAll_rises t (k + 1) (fun i hi => by
    rcases Nat.lt_or_ge i k with h4 | h4
    · exact h i h4
    · obtain rfl : i = k := by omega
      exact h2)
  have h4 := rises_length h3.1 1114112 (fun x hx => by have := (h3.2 x hx).2; simp at this; omega)
  rw [sgAll_succ, List.length_append, sgRow, List.length_map, List.length_range] at h4
  rw [List.length_append, sgPart, List.length_map, List.length_range]
  omega
end Go.Proofs.YtfbppbelcbbhlaaGreatDoor.Sf
