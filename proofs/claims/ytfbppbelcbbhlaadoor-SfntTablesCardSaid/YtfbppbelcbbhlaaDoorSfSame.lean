/- sameTables: two rows that hold the same tables are the same. -/
import Derived.Test.YtfbppbelcbbhlaaDoorSfTabsW
import Derived.Test.YtfbppbelcbbhlaaDoorSfTail
namespace Go.Proofs.YtfbppbelcbbhlaaDoor.Sf
open Go Go.RowKit

set_option maxRecDepth 100000 in
set_option maxHeartbeats 1000000 in
theorem sameTables_ok (A B : Option Addr) (ca cb B0 B1 : Nat) (S : List Tb) (w : World) (ha : w.ownsRow B0 41 6 (.slice A S.length ca) S.length (tbs S)) (hb : w.ownsRow B1 72 6 (.slice B S.length cb) S.length (tbs S)) (hn : S.length ≤ 1000) :
    Calls Tryd.prog 11 #[.slice A S.length ca, .slice B S.length cb] w fun e w' => e = .returned (.bool true) ∧ Below w.heap.size w w' := by
  have HA := Lib.hid ha
  have HB := Lib.hid hb
  clear ha hb
  obtain ⟨n, hN⟩ : ∃ n, n = S.length := ⟨_, rfl⟩
  rw [← hN] at HA HB hn ⊢
  have HN := Lib.hid hN
  clear hN
  go_enter Tryd.func11, Tryd.ntmps11
  go_wp2_with fail
  go_loopw [5] (fun v wr => ∃ k : Nat, k ≤ n ∧ v = .int .i64 k ∧ Below w.heap.size w wr) (fun v _ => n - (intOf v).toNat)
  case atStart => exact ⟨0, by omega, rfl, Below.refl _ _⟩
  case round =>
    obtain ⟨k, hk, rfl, hbel⟩ := hrel
    have HBE := Lib.hid hbel
    clear hbel
    by_cases hlt : k < n
    · have b0 : (0 : Int) ≤ (k : Int) := by omega
      have b1 : (k : Int) < (n : Int) := by omega
      have wk : IntKind.i64.wrap ((k : Int) + 1) = ((k + 1 : Nat) : Int) := by rw [IntWalk.i64_in _ (by omega)]; omega
      obtain ⟨t, ht⟩ : ∃ t, S[k]? = some t := ⟨S[k]'(by rw [← HN.out]; omega), List.getElem?_eq_getElem _⟩
      have HT := Lib.hid ht
      clear ht
      obtain ⟨qa, hA, -⟩ := own_pos HA.out (by omega)
      obtain ⟨qb, hB, -⟩ := own_pos HB.out (by omega)
      subst hA hB
      have ca1 := row_tb (own_below HA.out HBE.out) k hlt t HT.out
      have cb1 := row_tb (own_below HB.out HBE.out) k hlt t HT.out
      have p0 : ∀ e : Grown wr, e.w.cell? ⟨qa, k * 6, none⟩ = some (.int .u8 t.tag.a) := fun e => e.cell ca1.a
      have p1 : ∀ e : Grown wr, e.w.cell? ⟨qa, k * 6 + 1, none⟩ = some (.int .u8 t.tag.b) := fun e => e.cell ca1.b
      have p2 : ∀ e : Grown wr, e.w.cell? ⟨qa, k * 6 + 2, none⟩ = some (.int .u8 t.tag.c) := fun e => e.cell ca1.c
      have p3 : ∀ e : Grown wr, e.w.cell? ⟨qa, k * 6 + 3, none⟩ = some (.int .u8 t.tag.d) := fun e => e.cell ca1.d
      have p4 : ∀ e : Grown wr, e.w.cell? ⟨qa, k * 6 + 4, none⟩ = some (.int .i64 t.at_) := fun e => e.cell ca1.at_
      have p5 : ∀ e : Grown wr, e.w.cell? ⟨qa, k * 6 + 5, none⟩ = some (.int .i64 t.len) := fun e => e.cell ca1.len
      have r0 : ∀ e : Grown wr, e.w.cell? ⟨qb, k * 6, none⟩ = some (.int .u8 t.tag.a) := fun e => e.cell cb1.a
      have r1 : ∀ e : Grown wr, e.w.cell? ⟨qb, k * 6 + 1, none⟩ = some (.int .u8 t.tag.b) := fun e => e.cell cb1.b
      have r2 : ∀ e : Grown wr, e.w.cell? ⟨qb, k * 6 + 2, none⟩ = some (.int .u8 t.tag.c) := fun e => e.cell cb1.c
      have r3 : ∀ e : Grown wr, e.w.cell? ⟨qb, k * 6 + 3, none⟩ = some (.int .u8 t.tag.d) := fun e => e.cell cb1.d
      have r4 : ∀ e : Grown wr, e.w.cell? ⟨qb, k * 6 + 4, none⟩ = some (.int .i64 t.at_) := fun e => e.cell cb1.at_
      have r5 : ∀ e : Grown wr, e.w.cell? ⟨qb, k * 6 + 5, none⟩ = some (.int .i64 t.len) := fun e => e.cell cb1.len
      clear ca1 cb1
      have hq : ∀ w, (Op.equalIn 10000 39 (.agg #[.int .u8 t.tag.a, .int .u8 t.tag.b, .int .u8 t.tag.c, .int .u8 t.tag.d]) (.agg #[.int .u8 t.tag.a, .int .u8 t.tag.b, .int .u8 t.tag.c, .int .u8 t.tag.d])).run Tryd.prog w = .ok true w := fun w => by
        have := run_equal_tag t.tag t.tag w
        rw [decide_eq_true rfl] at this
        exact this
      have hg := tagGuard
      generalize t.tag.a = ta at *
      generalize t.tag.b = tb at *
      generalize t.tag.c = tc at *
      generalize t.tag.d = td at *
      generalize t.at_ = tat at *
      generalize t.len = tln at *
      go_upto_region 6 with (fail)
      refine wp_region_grown (by kernel_rfl) (by kernel_rfl) ?_
      repeat (go_big_quiet_step (fail))
      refine wpQuiet_nil ?_
      rintro _ ⟨eg, rfl⟩
      have HBG := Lib.hid (HBE.out.trans (eg.below.mono HBE.out.size))
      go_wp2_with fail
      go_roundw
      case rel => exact ⟨k + 1, by omega, by go_num, HBG.out⟩
      case measure => simp [intOf]; omega
    · go_wp2_with fail
      go_ret
      exact ⟨rfl, HBE.out⟩
end Go.Proofs.YtfbppbelcbbhlaaDoor.Sf
