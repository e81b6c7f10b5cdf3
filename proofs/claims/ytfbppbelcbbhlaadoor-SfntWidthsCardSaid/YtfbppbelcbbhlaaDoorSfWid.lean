/- sfnt.Widths: the advances, or a refusal. -/
import Derived.Test.YtfbppbelcbbhlaaDoorSfDoor
import Derived.Test.YtfbppbelcbbhlaaDoorSfTail
import Derived.Test.YtfbppbelcbbhlaaDoorSfRef
namespace Go.Proofs.YtfbppbelcbbhlaaDoor.Sf
open Go Go.RowKit

def widN (p : List Nat) : Nat := refNum p 4 2
def widM (h : List Nat) : Nat := refNum h 34 2
def widOk (p h x : List Nat) : Prop := ((p.length = 6 ∧ numAt p 0 4 = 20480) ∨ (p.length = 32 ∧ numAt p 0 4 = 65536)) ∧ 1 ≤ widN p ∧ h.length = 36 ∧ numAt h 0 4 = 65536 ∧ 1 ≤ widM h ∧ widM h ≤ widN p ∧
  x.length = 4 * widM h + 2 * (widN p - widM h)
instance (p h x : List Nat) : Decidable (widOk p h x) := by unfold widOk; infer_instance
def widRow (x : List Nat) (m n : Nat) : List Nat := (List.range n).map fun i => numAt x (4 * min i (m - 1)) 2
def widF (p h x : List Nat) : Option (List Nat × Int × Int) := if widOk p h x then some (widRow x (widM h) (widN p), sgn16 (numAt h 4 2), sgn16 (numAt h 6 2)) else none
def u16s (l : List Nat) : List Value := l.map fun (x : Nat) => .int .u16 (x : Int)
def WidPost (T : TypeId) (w : World) (r : Option (List Nat × Int × Int)) (e : Ending) (w' : World) : Prop :=
  match r with
  | none => e = .returned (.tuple #[.slice none 0 0, .int .i16 0, .int .i16 0, .int .i64 50]) ∧ Below w.heap.size w w'
  | some (l, a, d) => ∃ A c, e = .returned (.tuple #[.slice A l.length c, .int .i16 a, .int .i16 d, .int .i64 0]) ∧ w'.ownsRow w.heap.size T 1 (.slice A l.length c) l.length (u16s l) ∧ Below w.heap.size w w'
theorem widRow_succ (x : List Nat) (m n : Nat) : widRow x m (n + 1) = widRow x m n ++ [numAt x (4 * min n (m - 1)) 2] := by simp [widRow, List.range_succ]
theorem widRow_length (x : List Nat) (m n : Nat) : (widRow x m n).length = n := by simp [widRow]
theorem info_u16 : (Tryd.prog.info? 45).map (fun i => (i.zero, i.size, i.bytes)) = some (some (.int .u16 0), 1, 2) := by kernel_rfl
def widD (eb : Nat) : List Deferred := [{ target := .fn (.func 23) #[], args := #[.pointer (some ⟨eb, 0, none⟩)] }]
theorem results_wid {tmps : Array Value} {eb te : Nat} {W : World} {v6 v7 v8 x : Value} (h6 : tmps[6]? = some v6) (h7 : tmps[7]? = some v7) (h8 : tmps[8]? = some v8) (h9 : tmps[9]? = some (.pointer (some ⟨eb, 0, none⟩)))
    (he : W.heap[eb]? = some (.cells #[x] te (0, 0))) : (results Tryd.f19 tmps).run Tryd.prog W = .ok (.tuple #[v6, v7, v8, x]) W := by
  have c1 := blk_cell he
  simp [results, Tryd.results19, go_sem, h6, h7, h8, h9, c1]
theorem wid_bad {tmps : Array Value} {eb : Nat} {W : World} {R : Ending → World → Prop} {v6 v7 v8 : Value} (h6 : tmps[6]? = some v6) (h7 : tmps[7]? = some v7) (h8 : tmps[8]? = some v8) (h9 : tmps[9]? = some (.pointer (some ⟨eb, 0, none⟩)))
    (he : W.heap[eb]? = some (.cells #[.int .i64 0] 25 (0, 0)))
    (hR : ∀ W', W'.heap.size = W.heap.size + 1 → (∀ k, k < W.heap.size → k ≠ eb → W'.heap[k]? = W.heap[k]?) → W'.os = W.os → W'.tape = W.tape → W'.output = W.output → R (.returned (.tuple #[v6, v7, v8, .int .i64 50])) W') :
    bodyPostD Tryd.prog Tryd.f19 R (.panic [{ v := brokenV, recovered := false }]) ⟨tmps, widD eb⟩ W := by
  show Leaves _ _ _ _ _ _ _
  unfold widD
  refine leaves_cons (f := 23) (args := #[.pointer (some ⟨eb, 0, none⟩)]) (by simp) (by simp [go_sem]) ?_
  refine (guard_catch eb W _ (blk_cell he) (blk_frozen he)).mono ?_
  rintro e u' w2 ⟨rfl, rfl, rfl⟩
  have hea : (W.alloc (.cells #[] 89)).heap[eb]? = some (.cells #[.int .i64 0] 25 (0, 0)) := by rw [World.heap_alloc_lt _ _ (lt_of_heap he)]; exact he
  have he2 := blk_set hea (.int .i64 50)
  exact ⟨_, results_wid h6 h7 h8 h9 he2, hR _ (by simp) (fun k hk h5 => by rw [heap_setCell_other _ _ _ _ h5, World.heap_alloc_lt _ _ hk]) rfl rfl rfl⟩
theorem wid_done {tmps : Array Value} {eb : Nat} {W : World} {R : Ending → World → Prop} {v6 v7 v8 : Value} (h6 : tmps[6]? = some v6) (h7 : tmps[7]? = some v7) (h8 : tmps[8]? = some v8) (h9 : tmps[9]? = some (.pointer (some ⟨eb, 0, none⟩)))
    (he : W.heap[eb]? = some (.cells #[.int .i64 0] 25 (0, 0))) (hR : R (.returned (.tuple #[v6, v7, v8, .int .i64 0])) W) :
    bodyPostD Tryd.prog Tryd.f19 R .ret ⟨tmps, widD eb⟩ W := by
  show Leaves _ _ _ _ _ _ _
  unfold widD
  refine leaves_cons (f := 23) (args := #[.pointer (some ⟨eb, 0, none⟩)]) (by simp) (by simp [go_sem]) ?_
  refine (guard_idle eb W).mono ?_
  rintro e u' w2 ⟨rfl, rfl, rfl⟩
  exact ⟨_, results_wid h6 h7 h8 h9 he, hR⟩
theorem wid_refuse {w W : World} {p h x : List Nat} {tmps : Array Value} (hno : ¬ widOk p h x) (h6 : tmps[6]? = some (.slice none 0 0)) (h7 : tmps[7]? = some (.int .i16 0)) (h8 : tmps[8]? = some (.int .i16 0)) (h9 : tmps[9]? = some (.pointer (some ⟨w.heap.size, 0, none⟩)))
    (hW : W = w.alloc (.cells #[.int .i64 0] 25)) :
    bodyPostD Tryd.prog Tryd.f19 (fun e w' => WidPost 45 w (widF p h x) e w') (.panic [{ v := brokenV, recovered := false }]) ⟨tmps, widD w.heap.size⟩ W := by
  subst hW
  refine wid_bad h6 h7 h8 h9 (heap_alloc_new _ _) (fun W' h1 h2 h3 h4 h5 => ?_)
  show WidPost _ w _ _ _
  unfold widF
  rw [if_neg hno]
  simp only [World.size_alloc] at h1 h2
  exact ⟨rfl, h3, h4, h5, by omega, fun k hk => (h2 k (by omega) (by omega)).trans (World.heap_alloc_lt _ _ hk)⟩
end Go.Proofs.YtfbppbelcbbhlaaDoor.Sf
