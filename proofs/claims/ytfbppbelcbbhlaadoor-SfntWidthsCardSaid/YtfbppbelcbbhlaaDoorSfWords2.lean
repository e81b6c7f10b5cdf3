/- SameWords: two rows that hold the same numbers are the same. -/
import Derived.Test.YtfbppbelcbbhlaaDoorSfWid
namespace Go.Proofs.YtfbppbelcbbhlaaDoor.Sf
open Go Go.RowKit

theorem u16s_at (S : List Nat) (k : Nat) (x : Nat) (h : S[k]? = some x) : (u16s S)[k]? = some (.int .u16 x) := by simp [u16s, h]
set_option maxRecDepth 100000 in
set_option maxHeartbeats 1000000 in
theorem sameWords_ok (A B : Option Addr) (ca cb B0 B1 : Nat) (S : List Nat) (w : World) (ha : w.ownsRow B0 45 1 (.slice A S.length ca) S.length (u16s S)) (hb : w.ownsRow B1 45 1 (.slice B S.length cb) S.length (u16s S)) (hn : S.length ≤ 100000) :
    Calls Tryd.prog 21 #[.slice A S.length ca, .slice B S.length cb] w fun e w' => e = .returned (.bool true) ∧ Below w.heap.size w w' := by
  have HA := Lib.hid ha
  have HB := Lib.hid hb
  clear ha hb
  obtain ⟨n, hN⟩ : ∃ n, n = S.length := ⟨_, rfl⟩
  rw [← hN] at HA HB hn ⊢
  have HN := Lib.hid hN
  clear hN
  go_enter Tryd.func21, Tryd.ntmps21
  go_wp2_with fail
  go_loopw [5] (fun v wr => ∃ k : Nat, k ≤ n ∧ v = .int .i64 k ∧ Below w.heap.size w wr) (fun v _ => n - (intOf v).toNat)
  case atStart => exact ⟨0, by omega, rfl, Below.refl _ _⟩
  case round =>
    obtain ⟨k, hk, rfl, hbel⟩ := hrel
    have HBE := Lib.hid hbel
    clear hbel
    by_cases hlt : k < n
    · have b0 : (0 : Int) ≤ (k : Int) := by omega
      have b1 : (k : Int) < (n : Int) := by omega
      have wk : IntKind.i64.wrap ((k : Int) + 1) = ((k + 1 : Nat) : Int) := by rw [IntWalk.i64_in _ (by omega)]; omega
      obtain ⟨t, ht⟩ : ∃ t, S[k]? = some t := ⟨S[k]'(by rw [← HN.out]; omega), List.getElem?_eq_getElem _⟩
      have hu := u16s_at S k t ht
      obtain ⟨qa, hA, -⟩ := own_pos HA.out (by omega)
      obtain ⟨qb, hB, -⟩ := own_pos HB.out (by omega)
      subst hA hB
      have ca1 : wr.cell? ⟨qa, k, none⟩ = some (.int .u16 t) := by rw [(own_below HA.out HBE.out).cellAt _ (by omega), hu]
      have cb1 : wr.cell? ⟨qb, k, none⟩ = some (.int .u16 t) := by rw [(own_below HB.out HBE.out).cellAt _ (by omega), hu]
      have p0 : ∀ e : Grown wr, e.w.cell? ⟨qa, k, none⟩ = some (.int .u16 t) := fun e => e.cell ca1
      have r0 : ∀ e : Grown wr, e.w.cell? ⟨qb, k, none⟩ = some (.int .u16 t) := fun e => e.cell cb1
      clear ca1 cb1 hu ht
      go_upto_region 6 with (fail)
      refine wp_region_grown (by kernel_rfl) (by kernel_rfl) ?_
      repeat (go_big_quiet_step (fail))
      refine wpQuiet_nil ?_
      rintro _ ⟨eg, rfl⟩
      have HBG := Lib.hid (HBE.out.trans (eg.below.mono HBE.out.size))
      go_wp2_with fail
      go_roundw
      case rel => exact ⟨k + 1, by omega, by go_num, HBG.out⟩
      case measure => simp [intOf]; omega
    · go_wp2_with fail
      go_ret
      exact ⟨rfl, HBE.out⟩
end Go.Proofs.YtfbppbelcbbhlaaDoor.Sf
