/- works: the chapter's first examples are answered as they should be. -/
import Derived.Test.YtfbppbelcbbhlaaDoorSfTab9
namespace Go.Proofs.YtfbppbelcbbhlaaDoor.Sf
open Go Go.RowKit

def exB : List Nat := [0, 1, 0, 0, 0, 1, 0, 16, 0, 0, 0, 0, 97, 98, 49, 50, 1, 2, 3, 0, 0, 0, 0, 28, 0, 0, 0, 3, 1, 2, 3, 0]
def exT : Tg := ⟨97, 98, 49, 50⟩
theorem ex_join : joinF [exT] [[1, 2, 3]] = some exB := by decide +kernel
theorem ex_tables : tablesF exB = some [⟨exT, 28, 3⟩] := by decide +kernel
theorem byt_blk {w : World} {b t : Nat} {c : Array Value} {f : Nat × Nat} (l : List Nat) (h : w.heap[b]? = some (.cells c t f)) (hc : c.toList = u8s l) (hlt : ∀ x ∈ l, x < 256) (hm : l.length ≤ 9223372036854775807) : Byt w (some ⟨b, 0, none⟩) l.length l :=
  ⟨Nat.le_refl _, hm, by simp, fun _ => ⟨b, 0, rfl, fun i hi => by
    rw [Nat.zero_add, cell_of_blk h, ← Array.getElem?_toList, hc]
    simp [u8s, hi]⟩, hlt⟩
theorem tags_one {w : World} {b t : Nat} {g : Tg} {f : Nat × Nat} (h : w.heap[b]? = some (.cells #[.int .u8 g.a, .int .u8 g.b, .int .u8 g.c, .int .u8 g.d] t f)) (hg : g.ok) : TagsR w (some ⟨b, 0, none⟩) 1 [g] :=
  ⟨Nat.le_refl _, by simp, by simp, fun _ => ⟨b, 0, rfl, fun i u hu => by
    match i, hu with
    | 0, hu =>
      cases hu
      simp [cell_of_blk h]⟩, fun u hu => by simp at hu; subst hu; exact hg⟩
theorem bods_one {w : World} {b t c' : Nat} {A' : Option Addr} {l : List Nat} {f : Nat × Nat} (h : w.heap[b]? = some (.cells #[.slice A' l.length c'] t f)) (hl : Byt w A' c' l) : BodsR w (some ⟨b, 0, none⟩) 1 [l] :=
  ⟨Nat.le_refl _, by simp, by simp, fun _ => ⟨b, 0, rfl, fun i u hu => by
    match i, hu with
    | 0, hu =>
      cases hu
      exact ⟨A', c', by simp [cell_of_blk h], hl⟩⟩⟩
set_option maxRecDepth 100000 in
theorem works_any (w : World) (hd : HdVar w) : Calls Tryd.prog 8 #[] w fun e w' => e = .returned (.bool true) ∧ Below w.heap.size w w' := by
  have HD := Lib.hid hd
  clear hd
  go_enter Tryd.func8, Tryd.ntmps8
  go_wp2_with fail
  have h1 := heap_alloc_new w (.cells #[.int .u8 97, .int .u8 98, .int .u8 49, .int .u8 50] 39)
  have h2 := heap_alloc_new (w.alloc (.cells #[.int .u8 97, .int .u8 98, .int .u8 49, .int .u8 50] 39)) (.cells #[.int .u8 1, .int .u8 2, .int .u8 3] 5)
  have h3 := heap_alloc_new ((w.alloc (.cells #[.int .u8 97, .int .u8 98, .int .u8 49, .int .u8 50] 39)).alloc (.cells #[.int .u8 1, .int .u8 2, .int .u8 3] 5)) (.cells #[.slice (some ⟨w.heap.size + 1, 0, none⟩) 3 3] 22)
  simp only [World.size_alloc] at h2 h3
  have h2' := (World.heap_alloc_lt (w := ((w.alloc (.cells #[.int .u8 97, .int .u8 98, .int .u8 49, .int .u8 50] 39)).alloc (.cells #[.int .u8 1, .int .u8 2, .int .u8 3] 5))) (.cells #[.slice (some ⟨w.heap.size + 1, 0, none⟩) 3 3] 22) (k := w.heap.size + 1) (by simp)).trans h2
  have h1' := (World.heap_alloc_lt (w := ((w.alloc (.cells #[.int .u8 97, .int .u8 98, .int .u8 49, .int .u8 50] 39)).alloc (.cells #[.int .u8 1, .int .u8 2, .int .u8 3] 5))) (.cells #[.slice (some ⟨w.heap.size + 1, 0, none⟩) 3 3] 22) (k := w.heap.size) (by simp; omega)).trans ((World.heap_alloc_lt (w := (w.alloc (.cells #[.int .u8 97, .int .u8 98, .int .u8 49, .int .u8 50] 39))) (.cells #[.int .u8 1, .int .u8 2, .int .u8 3] 5) (k := w.heap.size) (by simp)).trans h1)
  have hbw := (((Below.refl w.heap.size w).alloc (Nat.le_refl _) (.cells #[.int .u8 97, .int .u8 98, .int .u8 49, .int .u8 50] 39)).alloc (by simp) (.cells #[.int .u8 1, .int .u8 2, .int .u8 3] 5)).alloc (by simp; omega) (.cells #[.slice (some ⟨w.heap.size + 1, 0, none⟩) 3 3] 22)
  generalize (((w.alloc (.cells #[.int .u8 97, .int .u8 98, .int .u8 49, .int .u8 50] 39)).alloc (.cells #[.int .u8 1, .int .u8 2, .int .u8 3] 5)).alloc (.cells #[.slice (some ⟨w.heap.size + 1, 0, none⟩) 3 3] 22)) = W at *
  have hT : TagsR W (some ⟨w.heap.size, 0, none⟩) 1 [exT] := tags_one h1' ⟨by decide, by decide, by decide, by decide⟩
  have hB : BodsR W (some ⟨w.heap.size + 1 + 1, 0, none⟩) 1 [[1, 2, 3]] := bods_one h3 (byt_blk [1, 2, 3] h2' rfl (by decide) (by decide))
  have HDW := Lib.hid (HD.out.kept (kept_of_below hbw))
  have hj := join_any _ _ 1 1 [exT] [[1, 2, 3]] W hT hB HDW.out (by decide)
  rw [ex_join] at hj
  have HBW := Lib.hid hbw
  clear h1 h2 h3 h1' h2' hT hB hbw
  refine hj.mono ?_
  rintro e w2 ⟨A, c, rfl, ho, hb⟩
  obtain ⟨-, A2, c2, hA2, hy⟩ := byt_of_own ho (by decide)
  cases hA2
  have hb2 : Below w.heap.size w w2 := HBW.out.trans (hb.mono HBW.out.size)
  have ht := tables_any A c exB w2 hy (HDW.out.kept (kept_of_below hb))
  rw [ex_tables] at ht
  have HT := Lib.hid ht
  have HY := Lib.hid hy
  have HB2 := Lib.hid hb2
  clear ht hy hb2 ho hb hj
  go_wp2_with (go_at_call 9; refine HT.out.mono ?_; rintro e w3 ⟨A3, c3, rfl, ho3, hb3⟩; have HO3 := Lib.hid ho3; have HB3 := Lib.hid hb3; clear ho3 hb3)
  obtain ⟨q, hA3, -⟩ := own_pos HO3.out (by decide)
  subst hA3
  refine (sameBytes_any A (some ⟨w3.heap.size, 0, none⟩) c 32 exB exB _ ((HY.out.below HB3.out).below ((Below.refl w3.heap.size w3).alloc (Nat.le_refl _) _)) (byt_blk exB (heap_alloc_new _ _) rfl (by decide) (by decide))).mono ?_
  rintro e w4 ⟨rfl, hw4⟩
  have hb4 : Below w3.heap.size w3 w4 := by rw [← hw4]; exact (Below.refl w3.heap.size w3).alloc (Nat.le_refl _) _
  have htc := row_tb (own_below HO3.out hb4) 0 (by decide) ⟨exT, 28, 3⟩ rfl
  have q1 := htc.at_
  have q2 := htc.len
  have hbe : Below w.heap.size w w4 := HB2.out.trans ((HB3.out.trans (hb4.mono HB3.out.size)).mono HB2.out.size)
  have HBE := Lib.hid hbe
  have d1 : decide (exB = exB) = true := decide_eq_true rfl
  clear hw4 hb4 htc hbe
  simp at q1 q2
  go_wp2_with fail
  go_ret
  exact ⟨rfl, HBE.out⟩
end Go.Proofs.YtfbppbelcbbhlaaDoor.Sf
