/- Regions that draw their order, whose own operations only read, and whose callees may make memory: one walk, in the text's order. -/
import Derived.Test.YtfbppbelcbbhlaaDoorSfWords
import Derived.BigQuiet
namespace Go.Proofs.YtfbppbelcbbhlaaDoor.Sf
open Go Go.RowKit

/-- A world that has grown out of another one. -/
structure Grown (w0 : World) where
  w : World
  below : Below w0.heap.size w0 w
instance (w0 : World) : Inhabited (Grown w0) := ⟨⟨w0, Below.refl _ _⟩⟩
theorem wp_region_grown {P : Program} {id : Nat} {Q : Exit → Act → World → Prop} {a : Act} {w : World} {l : List Oper} (hm : P.follows .mixedOrders = true) (hB : Region.lexB .any l.toArray = true)
    (h : wpQuiet P l.toArray (fun w' => ∃ e : Grown w, w' = e.w) (fun a' => ∀ w', (∃ e : Grown w, w' = e.w) → Q .normal a' w') l a) : (Code.region id l.toArray true).wp P Q a w :=
  wp_region_quiet (C := fun w' => ∃ e : Grown w, w' = e.w) hm hB ⟨⟨w.drew, (Below.refl _ _).drew⟩, rfl⟩ (by simpa using h)
theorem calls_grown {P : Program} {f : FuncId} {args : Array Value} {w0 : World} {e : Grown w0} {v : Value} (h : Calls P f args e.w fun x w' => x = .returned v ∧ Below e.w.heap.size e.w w') :
    Calls P f args e.w fun x w'' => x = .returned v ∧ ∃ e2 : Grown w0, w'' = e2.w :=
  h.mono fun _ _ ⟨a, b⟩ => ⟨a, ⟨⟨_, e.below.trans (b.mono e.below.size)⟩, rfl⟩⟩
theorem calls_grown_same {P : Program} {f : FuncId} {args : Array Value} {w0 : World} {e : Grown w0} {v : Value} (h : Calls P f args e.w fun x w' => x = .returned v ∧ e.w = w') :
    Calls P f args e.w fun x w'' => x = .returned v ∧ ∃ e2 : Grown w0, w'' = e2.w :=
  h.mono fun _ _ ⟨a, b⟩ => ⟨a, ⟨e, b.symm⟩⟩
theorem Grown.cell {w0 : World} (e : Grown w0) {b o : Nat} {v : Value} (h : w0.cell? ⟨b, o, none⟩ = some v) : e.w.cell? ⟨b, o, none⟩ = some v := (kept_of_below e.below).cell h
theorem Grown.byt {w0 : World} (e : Grown w0) {A : Option Addr} {cap : Nat} {l : List Nat} (h : Byt w0 A cap l) : Byt e.w A cap l := h.below e.below
theorem Grown.outer {w w0 : World} (e : Grown w0) (h : Below w.heap.size w w0) : Below w.heap.size w e.w := h.trans (e.below.mono h.size)
end Go.Proofs.YtfbppbelcbbhlaaDoor.Sf
