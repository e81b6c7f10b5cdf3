/- The door of sfnt.Tables: what was given up is caught; what was done goes out. -/
import Derived.Test.YtfbppbelcbbhlaaDoorSfNeed
import Derived.Test.YtfbppbelcbbhlaaDoorSfJoin
namespace Go.Proofs.YtfbppbelcbbhlaaDoor.Sf
open Go Go.RowKit

def doorD (lb eb : Nat) : List Deferred := [{ target := .fn (.func 23) #[], args := #[.pointer (some ⟨eb, 0, none⟩)] }, { target := .fn (.func 22) #[.pointer (some ⟨eb, 0, none⟩), .pointer (some ⟨lb, 0, none⟩)], args := #[] }]
theorem blk_set {W : World} {b t : Nat} {v : Value} (h : W.heap[b]? = some (.cells #[v] t (0, 0))) (u : Value) : (W.setCell ⟨b, 0, none⟩ u).heap[b]? = some (.cells #[u] t (0, 0)) := by
  have := heap_setCell_same W b 0 #[v] t u h
  simpa using this
theorem blk_cell {W : World} {b t : Nat} {v : Value} (h : W.heap[b]? = some (.cells #[v] t (0, 0))) : W.cell? ⟨b, 0, none⟩ = some v := (cell_of_blk h 0).trans rfl
theorem blk_frozen {W : World} {b t : Nat} {v : Value} (h : W.heap[b]? = some (.cells #[v] t (0, 0))) : W.frozen? ⟨b, 0, none⟩ = false := by
  simp [World.frozen?, h]
theorem results_door {tmps : Array Value} {lb eb tl te : Nat} {W : World} {v x : Value} (h2 : tmps[2]? = some (.pointer (some ⟨lb, 0, none⟩))) (h3 : tmps[3]? = some (.pointer (some ⟨eb, 0, none⟩)))
    (hl : W.heap[lb]? = some (.cells #[v] tl (0, 0))) (he : W.heap[eb]? = some (.cells #[x] te (0, 0))) : (results Tryd.f9 tmps).run Tryd.prog W = .ok (.tuple #[v, x]) W := by
  have c1 := blk_cell hl
  have c2 := blk_cell he
  simp [results, Tryd.results9, go_sem, h2, h3, c1, c2]
theorem door_bad {tmps : Array Value} {lb eb : Nat} {W : World} {R : Ending → World → Prop} {v : Value} (h2 : tmps[2]? = some (.pointer (some ⟨lb, 0, none⟩))) (h3 : tmps[3]? = some (.pointer (some ⟨eb, 0, none⟩)))
    (hl : W.heap[lb]? = some (.cells #[v] 24 (0, 0))) (he : W.heap[eb]? = some (.cells #[.int .i64 0] 25 (0, 0))) (hne : lb ≠ eb)
    (hR : ∀ W', W'.heap.size = W.heap.size + 1 → (∀ k, k < W.heap.size → k ≠ lb → k ≠ eb → W'.heap[k]? = W.heap[k]?) → W'.os = W.os → W'.tape = W.tape → W'.output = W.output → R (.returned (.tuple #[.slice none 0 0, .int .i64 50])) W') :
    bodyPostD Tryd.prog Tryd.f9 R (.panic [{ v := brokenV, recovered := false }]) ⟨tmps, doorD lb eb⟩ W := by
  show Leaves _ _ _ _ _ _ _
  unfold doorD
  refine leaves_cons (f := 23) (args := #[.pointer (some ⟨eb, 0, none⟩)]) (by simp) (by simp [go_sem]) ?_
  refine (guard_catch eb W _ (blk_cell he) (blk_frozen he)).mono ?_
  rintro e u' w2 ⟨rfl, rfl, rfl⟩
  have hea : (W.alloc (.cells #[] 89)).heap[eb]? = some (.cells #[.int .i64 0] 25 (0, 0)) := by rw [World.heap_alloc_lt _ _ (lt_of_heap he)]; exact he
  have hla : (W.alloc (.cells #[] 89)).heap[lb]? = some (.cells #[v] 24 (0, 0)) := by rw [World.heap_alloc_lt _ _ (lt_of_heap hl)]; exact hl
  have he2 := blk_set hea (.int .i64 50)
  have hl2 : ((W.alloc (.cells #[] 89)).setCell ⟨eb, 0, none⟩ (.int .i64 50)).heap[lb]? = some (.cells #[v] 24 (0, 0)) := by rw [heap_setCell_other _ _ _ _ hne]; exact hla
  show Leaves _ _ _ _ _ .returning _
  refine leaves_cons (f := 22) (args := #[.pointer (some ⟨eb, 0, none⟩), .pointer (some ⟨lb, 0, none⟩)]) (by simp) (by simp [go_sem]) ?_
  refine (close_bad lb eb _ 50 (by decide) v (blk_cell he2) (blk_cell hl2) (blk_frozen hl2) _).mono ?_
  rintro e u' w3 ⟨rfl, rfl, rfl⟩
  have hl3 := blk_set hl2 (.slice none 0 0)
  have he3 : ((((W.alloc (.cells #[] 89)).setCell ⟨eb, 0, none⟩ (.int .i64 50))).setCell ⟨lb, 0, none⟩ (.slice none 0 0)).heap[eb]? = some (.cells #[.int .i64 50] 25 (0, 0)) := by rw [heap_setCell_other _ _ _ _ hne.symm]; exact he2
  refine ⟨_, results_door h2 h3 hl3 he3, hR _ (by simp) (fun k hk h4 h5 => ?_) rfl rfl rfl⟩
  rw [heap_setCell_other _ _ _ _ h4, heap_setCell_other _ _ _ _ h5, World.heap_alloc_lt _ _ hk]
theorem door_ok {tmps : Array Value} {lb eb : Nat} {W : World} {R : Ending → World → Prop} {v : Value} (h2 : tmps[2]? = some (.pointer (some ⟨lb, 0, none⟩))) (h3 : tmps[3]? = some (.pointer (some ⟨eb, 0, none⟩)))
    (hl : W.heap[lb]? = some (.cells #[v] 24 (0, 0))) (he : W.heap[eb]? = some (.cells #[.int .i64 0] 25 (0, 0))) (hR : R (.returned (.tuple #[v, .int .i64 0])) W) :
    bodyPostD Tryd.prog Tryd.f9 R .ret ⟨tmps, doorD lb eb⟩ W := by
  show Leaves _ _ _ _ _ _ _
  unfold doorD
  refine leaves_cons (f := 23) (args := #[.pointer (some ⟨eb, 0, none⟩)]) (by simp) (by simp [go_sem]) ?_
  refine (guard_idle eb W).mono ?_
  rintro e u' w2 ⟨rfl, rfl, rfl⟩
  show Leaves _ _ _ _ _ .returning _
  refine leaves_cons (f := 22) (args := #[.pointer (some ⟨eb, 0, none⟩), .pointer (some ⟨lb, 0, none⟩)]) (by simp) (by simp [go_sem]) ?_
  refine (close_ok lb eb _ (blk_cell he) _).mono ?_
  rintro e u' w3 ⟨rfl, rfl, rfl⟩
  exact ⟨_, results_door h2 h3 hl he, hR⟩
theorem results_put (tmps : Array Value) (i : Nat) (v : Value) (hi : 26 ≤ i) (W : World) : (results Tryd.f9 (tmps.setIfInBounds i v)).run Tryd.prog W = (results Tryd.f9 tmps).run Tryd.prog W := by
  have e2 : (tmps.setIfInBounds i v)[2]? = tmps[2]? := by rw [Array.getElem?_setIfInBounds_ne (by omega)]
  have e3 : (tmps.setIfInBounds i v)[3]? = tmps[3]? := by rw [Array.getElem?_setIfInBounds_ne (by omega)]
  simp only [results, Tryd.results9]
  simp [e2, e3, go_sem]
theorem leaves_put (tmps : Array Value) (i : Nat) (v : Value) (hi : 26 ≤ i) (R : Ending → World → Prop) : ∀ (ds : List Deferred) (u : FrameMode) (W : World),
    Leaves Tryd.prog Tryd.f9 (tmps.setIfInBounds i v) R ds u W → Leaves Tryd.prog Tryd.f9 tmps R ds u W
  | [], .returning, W, ⟨x, h1, h2⟩ => ⟨x, by rw [← results_put tmps i v hi W]; exact h1, h2⟩
  | [], .panicking chain, W, h => h
  | [], .run, _, h => h.elim
  | d :: ds, u, W, ⟨h1, fv, cap, f, args, h2, h3, h4⟩ => ⟨h1, fv, cap, f, args, h2, h3, h4.mono fun e u' w' h => by
      cases e with
      | returned x => exact leaves_put tmps i v hi R ds _ w' h
      | panicked chain => exact leaves_put tmps i v hi R ds _ w' h
      | outgrown => exact h⟩
theorem below_door {w W W' : World} {lb eb : Nat} (h : Below w.heap.size w W) (hl : w.heap.size ≤ lb) (he : w.heap.size ≤ eb) (h1 : W'.heap.size = W.heap.size + 1) (h2 : ∀ k, k < W.heap.size → k ≠ lb → k ≠ eb → W'.heap[k]? = W.heap[k]?) (h3 : W'.os = W.os) (h4 : W'.tape = W.tape) (h5 : W'.output = W.output) :
    Below w.heap.size w W' :=
  ⟨h3.trans h.os, h4.trans h.tape, h5.trans h.output, by have := h.size; omega, fun k hk => (h2 k (Nat.lt_of_lt_of_le hk h.size) (by omega) (by omega)).trans (h.block k hk)⟩
end Go.Proofs.YtfbppbelcbbhlaaDoor.Sf
