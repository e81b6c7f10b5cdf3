/- Words for sfnt.Maps: the row that grows in its box while an iterator runs; the door of sfnt.Maps. -/
import Derived.Test.YtfbppbelcbbhlaaGreatDoorKnSgIter
import Derived.Test.YtfbppbelcbbhlaaGreatDoorKnTab9W
import Derived.Test.YtfbppbelcbbhlaaGreatDoorKnBytes
import Derived.RangeFuncBox
import Derived.Maps.AppendAt
import Derived.Shelf.Abstract
namespace Go.Proofs.YtfbppbelcbbhlaaGreatDoor.Sf
open Go Go.RowKit

def mpCells (L : List (Nat × Nat)) : List Value := L.flatMap fun x => [.int .i32 (x.1 : Nat), .int .u16 (x.2 : Nat)]
theorem mpCells_length (L : List (Nat × Nat)) : (mpCells L).length = L.length * 2 := by
  induction L with
  | nil => rfl
  | cons x L ih => simp only [mpCells, List.flatMap_cons, List.length_append] at ih ⊢; rw [ih]; simp; omega
theorem mpCells_append (L M : List (Nat × Nat)) : mpCells (L ++ M) = mpCells L ++ mpCells M := by simp [mpCells]
theorem mpCells_one (x : Nat × Nat) : mpCells [x] = [.int .i32 (x.1 : Nat), .int .u16 (x.2 : Nat)] := by simp [mpCells]
theorem info_map : (Tryz.prog.info? 93).map (fun i => (i.zero, i.size, i.bytes)) = some (some (.agg #[.int .i32 0, .int .u16 0]), 2, 8) := by kernel_rfl

/-- A row in its box grows; all else lies as it lay. -/
structure MapsInv (w0 : World) (lb : Nat) (L : List (Nat × Nat)) (W : World) : Prop where
  size : w0.heap.size ≤ W.heap.size
  same : ∀ k, k < w0.heap.size → k ≠ lb → W.heap[k]? = w0.heap[k]?
  os : W.os = w0.os
  tape : W.tape = w0.tape
  output : W.output = w0.output
  lt : lb < w0.heap.size
  box : ∃ v, W.heap[lb]? = some (.cells #[v] 88 (0, 0)) ∧ W.ownsRow w0.heap.size 93 2 v L.length (mpCells L)
theorem MapsInv.start (w0 : World) (lb : Nat) (h : w0.heap[lb]? = some (.cells #[.slice none 0 0] 88 (0, 0))) : MapsInv w0 lb [] w0 :=
  ⟨Nat.le_refl _, fun _ _ _ => rfl, rfl, rfl, rfl, lt_of_heap h, _, h, World.ownsRow_nil _ _ _ _⟩
theorem MapsInv.putObj {w0 W : World} {lb : Nat} {L : List (Nat × Nat)} (h : MapsInv w0 lb L W) {l : Nat} {o : Obj} (o' : Obj) (hle : w0.heap.size ≤ l) (hl : W.heap[l]? = some o) (ho : o.isCells = false) : MapsInv w0 lb L (W.putObj l o') := by
  have hb := h.lt
  refine ⟨by simpa using h.size, fun k hk h2 => (World.putObj_heap_other (by omega)).trans (h.same k hk h2), h.os, h.tape, h.output, h.lt, ?_⟩
  obtain ⟨v, h1, h2⟩ := h.box
  exact ⟨v, (World.putObj_heap_other (by omega)).trans h1, ownsRow_putObj h2 o' hl ho⟩
theorem MapsInv.grown {w0 W W' : World} {lb : Nat} {L : List (Nat × Nat)} (h : MapsInv w0 lb L W) (hb : Below W.heap.size W W') : MapsInv w0 lb L W' := by
  have hs := h.size
  have hl := h.lt
  refine ⟨by have := hb.size; omega, fun k hk h2 => (hb.block k (by omega)).trans (h.same k hk h2), hb.os.trans h.os, hb.tape.trans h.tape, hb.output.trans h.output, h.lt, ?_⟩
  obtain ⟨v, h1, h2⟩ := h.box
  exact ⟨v, (hb.block lb (by omega)).trans h1, own_below h2 hb⟩
/-- What lay in a cell of another kind than the box's lies on. -/
theorem MapsInv.cell {w0 W : World} {lb b o : Nat} {L : List (Nat × Nat)} {v u : Value} (h : MapsInv w0 lb L W) (hbox : w0.heap[lb]? = some (.cells #[u] 88 (0, 0))) (hne : v ≠ u) (hc : w0.cell? ⟨b, o, none⟩ = some v) : W.cell? ⟨b, o, none⟩ = some v := by
  have hb : b < w0.heap.size := World.block_lt_of_cell? w0 _ hc
  have hbl : b ≠ lb := by
    rintro rfl
    rw [cell_of_blk hbox] at hc
    rcases o with _ | o
    · simp at hc; exact hne hc.symm
    · simp at hc
  have h1 := h.same b hb hbl
  simp only [World.cell?] at hc ⊢
  rw [h1]
  exact hc
theorem MapsInv.rdr {w0 W : World} {lb a s : Nat} {L : List (Nat × Nat)} {t : List Nat} (h : MapsInv w0 lb L W) (hbox : w0.heap[lb]? = some (.cells #[.slice none 0 0] 88 (0, 0))) (hr : Rdr w0 a s t) (h0 : t.length ≠ 0) : Rdr W a s t := by
  obtain ⟨A, cap, h1, h2, h3, h4⟩ := hr.by_
  obtain ⟨b, bo, rfl, hc⟩ := h4 h0
  exact ⟨h.cell hbox (by simp) hr.st, h.cell hbox (by simp) hr.bad, ⟨_, cap, h.cell hbox (by simp) h1, h2, h3, fun _ => ⟨b, bo, rfl, fun i hi => h.cell hbox (by simp) (hc i hi)⟩⟩, hr.lt⟩
theorem MapsInv.below {w w0 W : World} {lb : Nat} {L : List (Nat × Nat)} (h : MapsInv w0 lb L W) (hb : Below w.heap.size w w0) (hlb : w.heap.size ≤ lb) : Below w.heap.size w W :=
  ⟨h.os.trans hb.os, h.tape.trans hb.tape, h.output.trans hb.output, Nat.le_trans hb.size h.size, fun k hk => (h.same k (Nat.lt_of_lt_of_le hk hb.size) (by omega)).trans (hb.block k hk)⟩
/-- Behind an append, and its store into the box. -/
theorem MapsInv.append {w0 W w1 : World} {lb : Nat} {L : List (Nat × Nat)} {x : Nat × Nat} {v v' : Value} {tmp : Obj} (h : MapsInv w0 lb L W) (hv : W.heap[lb]? = some (.cells #[v] 88 (0, 0))) (hrow : W.ownsRow w0.heap.size 93 2 v L.length (mpCells L))
    (hown : w1.ownsRow w0.heap.size 93 2 v' (L.length + 1) (mpCells L ++ [.int .i32 (x.1 : Nat), .int .u16 (x.2 : Nat)])) (hg : (W.alloc tmp).grownBy w1 v.ownBlock) :
    w1.heap[lb]? = some (.cells #[v] 88 (0, 0)) ∧ KeepsOthers W (w1.setCell ⟨lb, 0, none⟩ v') ∧ MapsInv w0 lb (L ++ [x]) (w1.setCell ⟨lb, 0, none⟩ v') := by
  have hs := h.size
  have hl := h.lt
  have hbv : Boxed W lb 88 v := hv
  have hv1 : Boxed w1 lb 88 v := (hbv.alloc tmp).kept hg (hbv.not_row (by decide) hrow)
  have hrowb : ∀ j, v.ownBlock = some j → w0.heap.size ≤ j ∧ ∃ o, (W.alloc tmp).heap[j]? = some o ∧ o.isCells = true := by
    intro j ej
    rcases (hrow.alloc tmp).2 with ⟨rfl, _⟩ | ⟨g, cap, cur, rfl, hge, hgb, _⟩
    · simp [Value.ownBlock] at ej
    · obtain rfl : g = j := by simpa [Value.ownBlock] using ej
      exact ⟨hge, _, hgb, rfl⟩
  have hbel : Below w0.heap.size (W.alloc tmp) w1 := (Below.refl _ _).grown hg (by simp; omega) (fun j ej => (hrowb j ej).1)
  have hkeep : ∀ k, k < w0.heap.size → w1.heap[k]? = W.heap[k]? := fun k hk => (hbel.block k hk).trans (World.heap_alloc_lt _ _ (by omega))
  refine ⟨hv1, ((KeepsOthers.alloc W tmp).trans (KeepsOthers.of_grownBy hg fun j o ej hj => ?_)).trans (KeepsOthers.setCell _ _ _), ?_, ?_, ?_, ?_, ?_, hl, ?_⟩
  · obtain ⟨_, o2, ho2, hc2⟩ := hrowb j ej
    rw [ho2] at hj
    cases hj
    exact hc2
  · have := hbel.size
    have hz : (w1.setCell ⟨lb, 0, none⟩ v').heap.size = w1.heap.size := by simp
    have h3 : (W.alloc tmp).heap.size = W.heap.size + 1 := by simp
    have := lt_of_heap hv1
    have h4 := hg.size
    omega
  · intro k hk h2
    rw [heap_setCell_other _ _ _ _ h2, hkeep k hk]
    exact h.same k hk h2
  · exact hbel.os.trans h.os
  · exact hbel.tape.trans h.tape
  · exact hbel.output.trans h.output
  · refine ⟨v', hv1.set v', ?_⟩
    rw [mpCells_append, mpCells_one, List.length_append, List.length_singleton]
    exact hown.kept (grownBy_setCell' w1 lb v') (.inr (hv1.not_row (by decide) hown).symm)
end Go.Proofs.YtfbppbelcbbhlaaGreatDoor.Sf

/- The door of sfnt.Maps (printed by gen/mapsd.py). -/
namespace Go.Proofs.YtfbppbelcbbhlaaGreatDoor.Sf
open Go Go.RowKit

/-- The closure behind a panic that was caught: the row goes. -/
theorem close_badM (lb eb : Nat) (w : World) (x : Int) (hx : x ≠ 0) (v : Value) (he : w.cell? ⟨eb, 0, none⟩ = some (.int .i64 x)) (hl : w.cell? ⟨lb, 0, none⟩ = some v) (hf : w.frozen? ⟨lb, 0, none⟩ = false) (u : FrameMode) :
    CallsD Tryz.prog 72 #[.pointer (some ⟨eb, 0, none⟩), .pointer (some ⟨lb, 0, none⟩)] u w fun e u' w' => u' = u ∧ (e = .returned (.tuple #[]) ∧ w' = w.setCell ⟨lb, 0, none⟩ (.slice none 0 0)) := by
  have d1 : (x != 0) = true := by simp [hx]
  go_enter_d Tryz.func72, Tryz.ntmps72
  go_wp2
  go_end0
  exact ⟨rfl, rfl⟩
theorem close_okM (lb eb : Nat) (w : World) (he : w.cell? ⟨eb, 0, none⟩ = some (.int .i64 0)) (u : FrameMode) :
    CallsD Tryz.prog 72 #[.pointer (some ⟨eb, 0, none⟩), .pointer (some ⟨lb, 0, none⟩)] u w fun e u' w' => u' = u ∧ (e = .returned (.tuple #[]) ∧ w' = w) := by
  go_enter_d Tryz.func72, Tryz.ntmps72
  go_wp2
  go_end0
  exact ⟨rfl, rfl⟩
def doorM (lb eb : Nat) : List Deferred := [{ target := .fn (.func 39) #[], args := #[.pointer (some ⟨eb, 0, none⟩)] }, { target := .fn (.func 72) #[.pointer (some ⟨eb, 0, none⟩), .pointer (some ⟨lb, 0, none⟩)], args := #[] }]
theorem results_doorM {tmps : Array Value} {lb eb tl te : Nat} {W : World} {v x : Value} (h2 : tmps[4]? = some (.pointer (some ⟨lb, 0, none⟩))) (h3 : tmps[5]? = some (.pointer (some ⟨eb, 0, none⟩)))
    (hl : W.heap[lb]? = some (.cells #[v] tl (0, 0))) (he : W.heap[eb]? = some (.cells #[x] te (0, 0))) : (results Tryz.f58 tmps).run Tryz.prog W = .ok (.tuple #[v, x]) W := by
  have c1 := blk_cell hl
  have c2 := blk_cell he
  simp [results, Tryz.results58, go_sem, h2, h3, c1, c2]
theorem doorM_bad {tmps : Array Value} {lb eb : Nat} {W : World} {R : Ending → World → Prop} {v : Value} (h2 : tmps[4]? = some (.pointer (some ⟨lb, 0, none⟩))) (h3 : tmps[5]? = some (.pointer (some ⟨eb, 0, none⟩)))
    (hl : W.heap[lb]? = some (.cells #[v] 88 (0, 0))) (he : W.heap[eb]? = some (.cells #[.int .i64 0] 28 (0, 0))) (hne : lb ≠ eb)
    (hR : ∀ W', W'.heap.size = W.heap.size + 1 → (∀ k, k < W.heap.size → k ≠ lb → k ≠ eb → W'.heap[k]? = W.heap[k]?) → W'.os = W.os → W'.tape = W.tape → W'.output = W.output → R (.returned (.tuple #[.slice none 0 0, .int .i64 50])) W') :
    Leaves Tryz.prog Tryz.f58 tmps R (doorM lb eb) (.panicking [{ v := brokenV, recovered := false }]) W := by
  unfold doorM
  refine leaves_cons (f := 39) (args := #[.pointer (some ⟨eb, 0, none⟩)]) (by simp) (by simp [go_sem]) ?_
  refine (guard_catch eb W _ (blk_cell he) (blk_frozen he)).mono ?_
  rintro e u' w2 ⟨rfl, rfl, rfl⟩
  have hea : (W.alloc (.cells #[] 98)).heap[eb]? = some (.cells #[.int .i64 0] 28 (0, 0)) := by rw [World.heap_alloc_lt _ _ (lt_of_heap he)]; exact he
  have hla : (W.alloc (.cells #[] 98)).heap[lb]? = some (.cells #[v] 88 (0, 0)) := by rw [World.heap_alloc_lt _ _ (lt_of_heap hl)]; exact hl
  have he2 := blk_set hea (.int .i64 50)
  have hl2 : ((W.alloc (.cells #[] 98)).setCell ⟨eb, 0, none⟩ (.int .i64 50)).heap[lb]? = some (.cells #[v] 88 (0, 0)) := by rw [heap_setCell_other _ _ _ _ hne]; exact hla
  show Leaves _ _ _ _ _ .returning _
  refine leaves_cons (f := 72) (args := #[.pointer (some ⟨eb, 0, none⟩), .pointer (some ⟨lb, 0, none⟩)]) (by simp) (by simp [go_sem]) ?_
  refine (close_badM lb eb _ 50 (by decide) v (blk_cell he2) (blk_cell hl2) (blk_frozen hl2) _).mono ?_
  rintro e u' w3 ⟨rfl, rfl, rfl⟩
  have hl3 := blk_set hl2 (.slice none 0 0)
  have he3 : ((((W.alloc (.cells #[] 98)).setCell ⟨eb, 0, none⟩ (.int .i64 50))).setCell ⟨lb, 0, none⟩ (.slice none 0 0)).heap[eb]? = some (.cells #[.int .i64 50] 28 (0, 0)) := by rw [heap_setCell_other _ _ _ _ hne.symm]; exact he2
  refine ⟨_, results_doorM h2 h3 hl3 he3, hR _ (by simp) (fun k hk h4 h5 => ?_) rfl rfl rfl⟩
  rw [heap_setCell_other _ _ _ _ h4, heap_setCell_other _ _ _ _ h5, World.heap_alloc_lt _ _ hk]
theorem doorM_ok {tmps : Array Value} {lb eb : Nat} {W : World} {R : Ending → World → Prop} {v : Value} (h2 : tmps[4]? = some (.pointer (some ⟨lb, 0, none⟩))) (h3 : tmps[5]? = some (.pointer (some ⟨eb, 0, none⟩)))
    (hl : W.heap[lb]? = some (.cells #[v] 88 (0, 0))) (he : W.heap[eb]? = some (.cells #[.int .i64 0] 28 (0, 0))) (hR : R (.returned (.tuple #[v, .int .i64 0])) W) :
    Leaves Tryz.prog Tryz.f58 tmps R (doorM lb eb) .returning W := by
  unfold doorM
  refine leaves_cons (f := 39) (args := #[.pointer (some ⟨eb, 0, none⟩)]) (by simp) (by simp [go_sem]) ?_
  refine (guard_idle eb W).mono ?_
  rintro e u' w2 ⟨rfl, rfl, rfl⟩
  show Leaves _ _ _ _ _ .returning _
  refine leaves_cons (f := 72) (args := #[.pointer (some ⟨eb, 0, none⟩), .pointer (some ⟨lb, 0, none⟩)]) (by simp) (by simp [go_sem]) ?_
  refine (close_okM lb eb _ (blk_cell he) _).mono ?_
  rintro e u' w3 ⟨rfl, rfl, rfl⟩
  exact ⟨_, results_doorM h2 h3 hl he, hR⟩
end Go.Proofs.YtfbppbelcbbhlaaGreatDoor.Sf

/- The two iterators of sfnt.Maps, as the loop over them asks. -/
namespace Go.Proofs.YtfbppbelcbbhlaaGreatDoor.Sf
open Go Go.RowKit

def mpI (w0 : World) (lb : Nat) (pre : List (Nat × Nat)) (W : World) : Prop := MapsInv w0 lb (mpKept pre) W
def mpX (w0 : World) (lb : Nat) (W : World) : Prop := ∃ L, MapsInv w0 lb L W
def mpEnc (x : Nat × Nat) : Array Value := #[.int .i64 (x.1 : Nat), .int .i64 (x.2 : Nat)]
/-- What the loop asks of an iterator's function. -/
def MapsIter (w0 : World) (lb : Nat) (gf : Nat) (caps : Array Value) (full : List (Nat × Nat)) (ok : Prop) (bad : Nat × Nat → Prop) : Prop :=
  ∀ (lp D : Nat) (rec : Loop) (W1 : World), w0.heap.size ≤ lp → w0.heap.size ≤ D → mpI w0 lb [] W1 → W1.heap[lp]? = some (.loop rec) → W1.heap[D]? = some (.deferred (some [])) →
      (∀ pre x W, (mpI w0 lb pre W ∧ W.heap[lp]? = some (.loop rec) ∧ W.heap[D]? = some (.deferred (some []))) → x ∈ full → mpV pre x → YieldAt Fence.wide 0 Tryz.prog lp (mpEnc x) W fun e W' =>
        (e = .returned (.bool true) ∧ (mpI w0 lb (pre ++ [x]) W' ∧ W'.heap[lp]? = some (.loop rec) ∧ W'.heap[D]? = some (.deferred (some []))) ∧ ¬ bad x) ∨
        (e = .panicked [{ v := brokenV, recovered := false }] ∧ (mpX w0 lb W' ∧ W'.heap[D]? = some (.deferred (some []))) ∧ bad x)) →
      Calls Tryz.prog gf (#[.func (.yield lp) #[] #[]] ++ caps) W1 (IterPost full ok bad (fun pre W => mpI w0 lb pre W ∧ W.heap[lp]? = some (.loop rec) ∧ W.heap[D]? = some (.deferred (some []))) (fun W => mpX w0 lb W ∧ W.heap[D]? = some (.deferred (some []))))

theorem mp_yields {w0 : World} {lb lp D a s : Nat} {rec : Loop} {t : List Nat} {full : List (Nat × Nat)} {bad : Nat × Nat → Prop} {rd : World → Prop} (hbox : w0.heap[lb]? = some (.cells #[.slice none 0 0] 88 (0, 0))) (hr : Rdr w0 a s t) (h16 : 16 ≤ t.length)
    (hrd : ∀ L W, MapsInv w0 lb L W → rd W)
    (hround : ∀ pre x W, (mpI w0 lb pre W ∧ W.heap[lp]? = some (.loop rec) ∧ W.heap[D]? = some (.deferred (some []))) → x ∈ full → mpV pre x → YieldAt Fence.wide 0 Tryz.prog lp (mpEnc x) W fun e W' =>
        (e = .returned (.bool true) ∧ (mpI w0 lb (pre ++ [x]) W' ∧ W'.heap[lp]? = some (.loop rec) ∧ W'.heap[D]? = some (.deferred (some []))) ∧ ¬ bad x) ∨
        (e = .panicked [{ v := brokenV, recovered := false }] ∧ (mpX w0 lb W' ∧ W'.heap[D]? = some (.deferred (some []))) ∧ bad x)) :
    Yields Tryz.prog lp full bad (fun pre W => mpI w0 lb pre W ∧ W.heap[lp]? = some (.loop rec) ∧ W.heap[D]? = some (.deferred (some []))) (fun W => mpX w0 lb W ∧ W.heap[D]? = some (.deferred (some []))) a s t rd where
  grow := fun pre W W' ⟨h1, h2, h3⟩ hb => ⟨MapsInv.grown h1 hb, (hb.block _ (lt_of_heap h2)).trans h2, (hb.block _ (lt_of_heap h3)).trans h3⟩
  stop := fun pre W ⟨h1, _, h3⟩ => ⟨⟨_, h1⟩, h3⟩
  rdr := fun pre W ⟨h1, _, _⟩ => ⟨MapsInv.rdr h1 hbox hr (by omega), hrd _ _ h1⟩
  round := hround

theorem mp_groups {w0 : World} {lb a s nb rb : Nat} {t : List Nat} {bad : Nat × Nat → Prop} (hbox : w0.heap[lb]? = some (.cells #[.slice none 0 0] 88 (0, 0))) (hr : Rdr w0 a s t) (hh : grHead t) (hmax : t.length ≤ 140737488355328)
    (h1 : w0.cell? ⟨nb, 0, none⟩ = some (.int .i64 (grN t : Nat))) (h2 : w0.cell? ⟨rb, 0, none⟩ = some (.pointer (some ⟨a, 0, none⟩))) :
    MapsIter w0 lb 92 #[.pointer (some ⟨nb, 0, none⟩), .pointer (some ⟨rb, 0, none⟩)] (grAll t (grN t)) (grOk t) bad := by
  intro lp D rec W1 _ _ hi hl hd hround
  exact groups_iter a s nb rb lp t bad _ _ W1 hh hmax (mp_yields hbox hr hh.1 (fun L W hW => ⟨hW.cell hbox (by simp) h1, hW.cell hbox (by simp) h2⟩) hround) ⟨hi, hl, hd⟩
theorem mp_segs {w0 : World} {lb a s nb rb sb : Nat} {t : List Nat} {bad : Nat × Nat → Prop} (hbox : w0.heap[lb]? = some (.cells #[.slice none 0 0] 88 (0, 0))) (hr : Rdr w0 a s t) (hh : sgHead t)
    (h1 : w0.cell? ⟨nb, 0, none⟩ = some (.int .i64 (sgN t : Nat))) (h2 : w0.cell? ⟨rb, 0, none⟩ = some (.pointer (some ⟨a, 0, none⟩))) (h3 : w0.cell? ⟨sb, 0, none⟩ = some (.int .i64 (sgSize t : Nat))) :
    MapsIter w0 lb 93 #[.pointer (some ⟨nb, 0, none⟩), .pointer (some ⟨rb, 0, none⟩), .pointer (some ⟨sb, 0, none⟩)] (sgAll t (sgN t)) (sgOk t) bad := by
  intro lp D rec W1 _ _ hi hl hd hround
  exact segs_iter a s nb rb sb lp t bad _ _ W1 hh (mp_yields hbox hr hh.1 (fun L W hW => ⟨hW.cell hbox (by simp) h1, hW.cell hbox (by simp) h2, hW.cell hbox (by simp) h3⟩) hround) ⟨hi, hl, hd⟩

theorem wpAt_split {P : Program} {f : FuncId} {r5 r6 r8 blk rest : Code} {Q : Exit → Act → World → Prop} {a : Act} {w : World} (M : Act → World → Prop)
    (h1 : WpAt P f r5 (Exit.then (WpAt P f r6 (Exit.then (WpAt P f r8 (Exit.then M Q)) Q)) Q) a w) (h2 : ∀ a w, M a w → WpAt P f blk (Exit.then (WpAt P f rest Q) Q) a w) :
    WpAt P f (Code.seq r5 (Code.seq r6 (Code.seq (Code.seq r8 blk) rest))) Q a w := by
  refine wpAt_seq (wpAt_mono h1 ?_)
  intro e a w h
  cases e with
  | normal =>
    refine wpAt_seq (wpAt_mono h ?_)
    intro e a w h
    cases e with
    | normal =>
      refine wpAt_seq (wpAt_seq (wpAt_mono h ?_))
      intro e a w h
      cases e with
      | normal => exact h2 _ _ h
      | _ => exact h
    | _ => exact h
  | _ => exact h
end Go.Proofs.YtfbppbelcbbhlaaGreatDoor.Sf
