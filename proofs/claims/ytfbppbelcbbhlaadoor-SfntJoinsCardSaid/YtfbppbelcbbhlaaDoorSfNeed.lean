/- Giving up, and what catches it: sfnt.need, sfnt.guard, the closure of sfnt.Tables. -/
import Derived.Test.YtfbppbelcbbhlaaDoorSfTabsW
import Derived.Recover
namespace Go.Proofs.YtfbppbelcbbhlaaDoor.Sf
open Go Go.RowKit

def brokenV : Value := .iface 89 (.agg #[])
theorem need_ok (w : World) : Calls Tryd.prog 24 #[.bool true] w fun e w' => e = .returned (.tuple #[]) ∧ w = w' := by
  go_enter Tryd.func24, Tryd.ntmps24
  go_wp2
  go_end0
  exact ⟨rfl, rfl⟩
theorem need_no (w : World) : Calls Tryd.prog 24 #[.bool false] w fun e w' => e = .panicked [{ v := brokenV, recovered := false }] ∧ w = w' := by
  go_enter Tryd.func24, Tryd.ntmps24
  go_wp2
  exact ⟨rfl, rfl, rfl⟩

/-- The closure behind a panic that was caught: the row goes. -/
theorem close_bad (lb eb : Nat) (w : World) (x : Int) (hx : x ≠ 0) (v : Value) (he : w.cell? ⟨eb, 0, none⟩ = some (.int .i64 x)) (hl : w.cell? ⟨lb, 0, none⟩ = some v) (hf : w.frozen? ⟨lb, 0, none⟩ = false) (u : FrameMode) :
    CallsD Tryd.prog 22 #[.pointer (some ⟨eb, 0, none⟩), .pointer (some ⟨lb, 0, none⟩)] u w fun e u' w' => u' = u ∧ (e = .returned (.tuple #[]) ∧ w' = w.setCell ⟨lb, 0, none⟩ (.slice none 0 0)) := by
  have d1 : (x != 0) = true := by simp [hx]
  go_enter_d Tryd.func22, Tryd.ntmps22
  go_wp2
  go_end0
  exact ⟨rfl, rfl⟩
theorem close_ok (lb eb : Nat) (w : World) (he : w.cell? ⟨eb, 0, none⟩ = some (.int .i64 0)) (u : FrameMode) :
    CallsD Tryd.prog 22 #[.pointer (some ⟨eb, 0, none⟩), .pointer (some ⟨lb, 0, none⟩)] u w fun e u' w' => u' = u ∧ (e = .returned (.tuple #[]) ∧ w' = w) := by
  go_enter_d Tryd.func22, Tryd.ntmps22
  go_wp2
  go_end0
  exact ⟨rfl, rfl⟩
theorem guard_idle (eb : Nat) (w : World) :
    CallsD Tryd.prog 23 #[.pointer (some ⟨eb, 0, none⟩)] .returning w fun e u' w' => e = .returned (.tuple #[]) ∧ u' = .returning ∧ w' = w := by
  refine callsD_of_wpS Tryd.func23 rfl fun c₀ cs hu => ?_
  apply wpS_seq
  apply wpS_region
  simp [wpOpsS, go_sem, recoverD, hu, Tryd.ntmps23, Exit.thenS]
  refine wpS_of_wp ?_
  change Code.wp _ _ _ { tmps := #[.pointer (some ⟨eb, 0, none⟩), undef, .nilIface, undef, undef, .nilIface, undef, undef, undef, undef, undef, undef, undef, undef, undef, undef, undef, undef], defers := [] } w
  go_wp2
  cases c₀
  simp_all [bodyPostS, results, Tryd.results23]
set_option maxRecDepth 100000 in
set_option maxHeartbeats 1000000 in
theorem guard_catch (eb : Nat) (w : World) (v : Value) (he : w.cell? ⟨eb, 0, none⟩ = some v) (hf : w.frozen? ⟨eb, 0, none⟩ = false) :
    CallsD Tryd.prog 23 #[.pointer (some ⟨eb, 0, none⟩)] (.panicking [{ v := brokenV, recovered := false }]) w fun e u' w' => e = .returned (.tuple #[]) ∧ u' = .panicking [{ v := brokenV, recovered := true }] ∧
      w' = (w.alloc (.cells #[] 89)).setCell ⟨eb, 0, none⟩ (.int .i64 50) := by
  refine callsD_of_wpS Tryd.func23 rfl fun c₀ cs hu => ?_
  apply wpS_seq
  apply wpS_region
  simp [wpOpsS, go_sem, recoverD, hu, Tryd.ntmps23, Exit.thenS]
  refine wpS_of_wp ?_
  change Code.wp _ _ _ { tmps := #[.pointer (some ⟨eb, 0, none⟩), undef, brokenV, undef, undef, brokenV, undef, undef, undef, undef, undef, undef, undef, undef, undef, undef, undef, undef], defers := [] } w
  unfold brokenV
  have hta : ∀ w : World, (Instr.typeAssert (.iface 89 (.agg #[])) 20 89 true).run Tryd.prog w = .ok (.tuple #[.agg #[], .bool true]) w := fun _ => by kernel_rfl
  have he2 : (w.alloc (.cells #[] 89)).cell? ⟨eb, 0, none⟩ = some v := by rw [World.cell?_alloc_lt _ _ _ (World.block_lt_of_cell? w _ he)]; exact he
  have hf2 : (w.alloc (.cells #[] 89)).frozen? ⟨eb, 0, none⟩ = false := by rw [frozen?_alloc_cells]; exact hf
  go_wp2
  cases c₀
  simp_all [bodyPostS, results, Tryd.results23]
end Go.Proofs.YtfbppbelcbbhlaaDoor.Sf
