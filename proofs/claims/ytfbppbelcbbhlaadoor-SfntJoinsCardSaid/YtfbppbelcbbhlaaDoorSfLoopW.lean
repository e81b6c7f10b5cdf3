/- Worlds of a loop that fills a row of its own and stores it into one variable. -/
import Derived.Test.YtfbppbelcbbhlaaDoorSfDoor
import Derived.Test.YtfbppbelcbbhlaaDoorSfTail
namespace Go.Proofs.YtfbppbelcbbhlaaDoor.Sf
open Go Go.RowKit

/-- What is as it was when the variable lb is given v: wr has grown out of W4 with v in it. -/
def Var (W4 : World) (lb : Nat) (v : Value) (wr : World) : Prop := Below W4.heap.size (W4.setCell ⟨lb, 0, none⟩ v) wr
theorem Var.start {W4 : World} {lb t : Nat} {v : Value} (h : W4.heap[lb]? = some (.cells #[v] t (0, 0))) : Var W4 lb v W4 :=
  ⟨rfl, rfl, rfl, by simp, fun k hk => by
    by_cases e : k = lb
    · subst e; rw [blk_set h, h]
    · rw [heap_setCell_other _ _ _ _ e]⟩
theorem Var.size {W4 : World} {lb : Nat} {v : Value} {wr : World} (h : Var W4 lb v wr) : W4.heap.size ≤ wr.heap.size := by
  have := Below.size h
  simpa using this
theorem Var.block {W4 : World} {lb t : Nat} {v x : Value} {wr : World} (h : Var W4 lb v wr) (h0 : W4.heap[lb]? = some (.cells #[x] t (0, 0))) : wr.heap[lb]? = some (.cells #[v] t (0, 0)) :=
  (Below.block h lb (lt_of_heap h0)).trans (blk_set h0 v)
theorem Var.other {W4 : World} {lb k : Nat} {v : Value} {wr : World} (h : Var W4 lb v wr) (hk : k < W4.heap.size) (hne : k ≠ lb) : wr.heap[k]? = W4.heap[k]? :=
  (Below.block h k hk).trans (heap_setCell_other _ _ _ _ hne)
theorem Var.cell {W4 : World} {lb b o : Nat} {v u : Value} {wr : World} (h : Var W4 lb v wr) (hne : b ≠ lb) (hc : W4.cell? ⟨b, o, none⟩ = some u) : wr.cell? ⟨b, o, none⟩ = some u :=
  (World.cell?_of_block (h.other (World.block_lt_of_cell? W4 _ hc) hne)).trans hc
theorem Var.on {W4 : World} {lb : Nat} {v : Value} {wr w2 : World} (h : Var W4 lb v wr) (k : Below W4.heap.size wr w2) : Var W4 lb v w2 := Below.trans h k
theorem Var.grown {W4 : World} {lb : Nat} {v : Value} {wr w2 : World} (h : Var W4 lb v wr) (k : Below wr.heap.size wr w2) : Var W4 lb v w2 := h.on (k.mono h.size)
theorem Var.store {W4 : World} {lb t : Nat} {v x : Value} {wr : World} (h : Var W4 lb v wr) (h0 : W4.heap[lb]? = some (.cells #[x] t (0, 0))) (u : Value) : Var W4 lb u (wr.setCell ⟨lb, 0, none⟩ u) :=
  have hb : Below W4.heap.size (W4.setCell ⟨lb, 0, none⟩ v) wr := h
  ⟨hb.os, hb.tape, hb.output, by have := h.size; simpa using this, fun k hk => by
    by_cases e : k = lb
    · subst e; rw [blk_set (h.block h0), blk_set h0]
    · rw [heap_setCell_other _ _ _ _ e, heap_setCell_other _ _ _ _ e, h.other hk e]⟩
theorem Var.below {w W4 : World} {lb : Nat} {v : Value} {wr : World} (h : Var W4 lb v wr) (h0 : Below w.heap.size w W4) (hl : w.heap.size ≤ lb) : Below w.heap.size w wr :=
  (Below.setCell h0 (p := ⟨lb, 0, none⟩) hl v).trans (Below.mono h h0.size)
/-- Bytes do not lie in the variable. -/
theorem bytes_off {W4 : World} {lb t b bo : Nat} {A : Option Addr} {n c : Nat} {l : List Nat} (h0 : W4.heap[lb]? = some (.cells #[.slice A n c] t (0, 0))) (hc : ByteCells W4 b bo l) (hl : l.length ≠ 0) : b ≠ lb := by
  intro e
  subst e
  have h1 := hc 0 (by omega)
  rw [cell_of_blk h0] at h1
  rcases Nat.eq_zero_or_pos (bo + 0) with h2 | h2
  · rw [h2] at h1; simp at h1
  · rw [Array.getElem?_eq_none (by simp; omega)] at h1; cases h1
theorem Var.byt {W4 : World} {lb t : Nat} {A0 : Option Addr} {n c : Nat} {v : Value} {wr : World} (h : Var W4 lb v wr) (h0 : W4.heap[lb]? = some (.cells #[.slice A0 n c] t (0, 0))) {A : Option Addr} {cap : Nat} {l : List Nat} (hy : Byt W4 A cap l) : Byt wr A cap l :=
  ⟨hy.le, hy.max, hy.nil, fun hn => by
    obtain ⟨b, bo, rfl, hc⟩ := hy.cells hn
    exact ⟨b, bo, rfl, fun i hi => h.cell (bytes_off h0 hc hn) (hc i hi)⟩, hy.lt⟩
theorem Var.rdr {W4 : World} {lb t : Nat} {A0 : Option Addr} {n c : Nat} {v : Value} {wr : World} (h : Var W4 lb v wr) (h0 : W4.heap[lb]? = some (.cells #[.slice A0 n c] t (0, 0))) {a s : Nat} {l : List Nat} (hr : Rdr W4 a s l) (ha : a ≠ lb) (hs : s ≠ lb) : Rdr wr a s l :=
  ⟨h.cell ha hr.st, h.cell hs hr.bad, by
    obtain ⟨A, cap, h1, h2, h3, h4⟩ := hr.by_
    exact ⟨A, cap, h.cell ha h1, h2, h3, fun hn => by
      obtain ⟨b, bo, rfl, hc⟩ := h4 hn
      exact ⟨b, bo, rfl, fun i hi => h.cell (bytes_off h0 hc hn) (hc i hi)⟩⟩, hr.lt⟩
theorem Var.hd {W4 : World} {lb : Nat} {v : Value} {wr : World} (h : Var W4 lb v wr) (hd : HdVar W4) (hne : 0 ≠ lb) : HdVar wr := ⟨h.cell hne hd.c0, h.cell hne hd.c1, h.cell hne hd.c2, h.cell hne hd.c3⟩
end Go.Proofs.YtfbppbelcbbhlaaDoor.Sf
