/- The reference's counts: where the subtable that counts begins (printed by gen/refcounts.py). -/
import Derived.Test.YtfbppbelcbbhlaaGreatDoorKnMapF
import Derived.Deep.CutRange
import Derived.Deep.DeepCutAuto
import Derived.Deep.CutBlock
namespace Go.Proofs.YtfbppbelcbbhlaaGreatDoor.Sf
open Go Go.RowKit

theorem refNum_in {l : List Nat} {at_ n : Nat} {i : Int} (hi : i = at_) (h : at_ + n ≤ l.length) : refNum l i n = numAt l at_ n := by
  subst hi
  unfold refNum
  rw [if_pos (by omega), Int.toNat_natCast]
theorem w_in {A : Option Addr} {cap : Nat} {l : List Nat} {w : World} (hb : Byt w A cap l) (at_ : Nat) (i : Int) (hi : i = at_) (h : at_ + 2 ≤ l.length) :
    Calls Tryz.prog 50 #[.slice A l.length cap, .int .i64 i] w fun e w' => e = .returned (.int .i64 (numAt l at_ 2 : Nat)) ∧ w = w' := by
  have := w_ref A cap l i w hb
  rwa [refNum_in hi h] at this
theorem l_in {A : Option Addr} {cap : Nat} {l : List Nat} {w : World} (hb : Byt w A cap l) (at_ : Nat) (i : Int) (hi : i = at_) (h : at_ + 4 ≤ l.length) :
    Calls Tryz.prog 51 #[.slice A l.length cap, .int .i64 i] w fun e w' => e = .returned (.int .i64 (numAt l at_ 4 : Nat)) ∧ w = w' := by
  have := l_ref A cap l i w hb
  rwa [refNum_in hi h] at this
theorem all_in (A : Option Addr) (len cap : Nat) (a n : Nat) (i m : Int) (hi : i = a) (hm : m = n) (w : World) (hl : len ≤ 9223372036854775807) (b : Bool) (hb : decide (a + n ≤ len) = b) :
    Calls Tryz.prog 52 #[.slice A len cap, .int .i64 i, .int .i64 m] w fun e w' => e = .returned (.bool b) ∧ w = w' := by
  have := all_any A len cap i m w hl
  rwa [show refAll len i m = b from by rw [← hb]; unfold refAll; rw [decide_eq_decide]; omega] at this

def CntBest (r : Option (Nat × Nat)) (bv fv : Value) : Prop :=
  match r with
  | none => bv = .int .i64 (-1) ∧ fv = .int .i64 0
  | some (p, f) => bv = .int .i64 (p : Nat) ∧ fv = .int .i64 (f : Nat)
def CntPost (w : World) (l : List Nat) (e : Ending) (w' : World) : Prop :=
  w = w' ∧ ((∃ p f, cmOk l ∧ cmBest l (cmN l) = some (p, f) ∧ e = .returned (.tuple #[.int .i64 (p : Nat), .int .i64 (f : Nat)])) ∨ ((¬ cmOk l ∨ cmBest l (cmN l) = none) ∧ e = .returned (.tuple #[.int .i64 (-1), .int .i64 0])))
theorem id_eq {x y a b : Nat} (hx : y < 65536) (hb : b < 65536) : x * 65536 + y = a * 65536 + b ↔ x = a ∧ y = b := by omega

set_option maxRecDepth 100000 in
set_option maxHeartbeats 2000000 in
theorem counts_ref (A : Option Addr) (cap : Nat) (l : List Nat) (w : World) (hb : Byt w A cap l) (hr : l.length ≤ 140737488355328) :
    Calls Tryz.prog 76 #[.slice A l.length cap] w fun e w' => CntPost w l e w' := by
  have HB := Lib.hid hb
  have HW2 := Lib.hid (w_ref A cap l 2 w hb)
  have h2lt := refNum_two_lt hb 2
  clear hb
  by_cases c1 : 4 ≤ l.length
  case neg =>
    have hno : Hid (¬ cmOk l) := Lib.hid (fun hh => c1 hh.1)
    have d1 : decide ((l.length : Int) < 4) = true := decide_eq_true (by omega)
    have d1b : decide (l.length < 4) = true := decide_eq_true (by omega)
    generalize refNum l 2 2 = n at *
    go_enter Tryz.func76, Tryz.ntmps76
    go_wp2_with (go_at_call 50; with_reducible (refine HW2.out.mono ?_); rintro e w' ⟨rfl, rfl⟩)
    go_ret2
    exact ⟨rfl, .inr ⟨.inl hno.out, rfl⟩⟩
  have d1 : decide ((l.length : Int) < 4) = false := decide_eq_false (by omega)
  have d1b : decide (l.length < 4) = false := decide_eq_false (by omega)
  have hn2 : refNum l 2 2 = numAt l 2 2 := refNum_in rfl (by omega)
  rw [hn2] at HW2 h2lt
  have hcn : Hid (cmN l = numAt l 2 2) := Lib.hid rfl
  clear hn2
  generalize numAt l 2 2 = n at *
  have HW0 := Lib.hid (w_in HB.out 0 0 rfl (by omega))
  by_cases c2 : numAt l 0 2 = 0
  case neg =>
    have hno : Hid (¬ cmOk l) := Lib.hid (fun hh => c2 hh.2.1)
    generalize numAt l 0 2 = v0 at *
    have d2 : ((v0 : Int) == 0) = false := by simp; omega
    have d2b : (v0 == 0) = false := by simp; omega
    have d2c : decide (v0 = 0) = false := decide_eq_false (by omega)
    have d2d : ((v0 : Int) != 0) = true := by simp; omega
    have d2e : (v0 != 0) = true := by simp; omega
    go_enter Tryz.func76, Tryz.ntmps76
    go_wp2_with (first | (go_at_call 50; with_reducible (refine HW2.out.mono ?_); rintro e w' ⟨rfl, rfl⟩) | (go_at_call 50; with_reducible (refine HW0.out.mono ?_); rintro e w' ⟨rfl, rfl⟩))
    go_ret2
    exact ⟨rfl, .inr ⟨.inl hno.out, rfl⟩⟩
  have HC2 := Lib.hid c2
  rw [c2] at HW0
  clear c2
  by_cases c3 : 4 + 8 * n ≤ l.length
  case neg =>
    have hno : Hid (¬ cmOk l) := Lib.hid (fun hh => c3 (by rw [← hcn.out]; exact hh.2.2.1))
    have d3 : decide ((l.length : Int) < 4 + 8 * (n : Int)) = true := decide_eq_true (by omega)
    go_enter Tryz.func76, Tryz.ntmps76
    go_wp2_with (first | (go_at_call 50; with_reducible (refine HW2.out.mono ?_); rintro e w' ⟨rfl, rfl⟩) | (go_at_call 50; with_reducible (refine HW0.out.mono ?_); rintro e w' ⟨rfl, rfl⟩))
    go_ret2
    exact ⟨rfl, .inr ⟨.inl hno.out, rfl⟩⟩
  have d3 : decide ((l.length : Int) < 4 + 8 * (n : Int)) = false := decide_eq_false (by omega)
  go_enter Tryz.func76, Tryz.ntmps76
  go_wp2_with (first | (go_at_call 50; with_reducible (refine HW2.out.mono ?_); rintro e w' ⟨rfl, rfl⟩) | (go_at_call 50; with_reducible (refine HW0.out.mono ?_); rintro e w' ⟨rfl, rfl⟩))
  go_loop [5, 6, 7] (fun bv fv iv => ∃ k : Nat, k ≤ n ∧ iv = .int .i64 k ∧ cmRise l k ∧ CntBest (cmBest l k) bv fv) (fun _ _ iv => n - (intOf iv).toNat)
  case atStart => exact ⟨0, Nat.zero_le _, rfl, cmRise_zero l, ⟨rfl, rfl⟩⟩
  case round =>
    obtain ⟨k, hk, rfl, hrise, hbest⟩ := hrel
    have HRISE := Lib.hid hrise
    have HBEST := Lib.hid hbest
    clear hrise hbest
    by_cases hlt : k < n
    · have HX1 := Lib.hid (w_in HB.out (4 + 8 * k) (4 + 8 * (k : Int)) (by omega) (by omega))
      have HX2 := Lib.hid (w_in HB.out (4 + 8 * k + 2) (4 + 8 * (k : Int) + 2) (by omega) (by omega))
      have HPL := Lib.hid (l_in HB.out (4 + 8 * k + 4) (4 + 8 * (k : Int) + 4) (by omega) (by omega))
      have hid : Hid (cmId l k = numAt l (4 + 8 * k) 2 * 65536 + numAt l (4 + 8 * k + 2) 2) := Lib.hid rfl
      have hpl : Hid (cmPlace l k = numAt l (4 + 8 * k + 4) 4) := Lib.hid rfl
      have m1 : numAt l (4 + 8 * k) 2 < 65536 := numAt_two_lt l _ HB.out.lt (by omega)
      have m2 : numAt l (4 + 8 * k + 2) 2 < 65536 := numAt_two_lt l _ HB.out.lt (by omega)
      have m3 : numAt l (4 + 8 * k + 4) 4 < 4294967296 := numF_lt _
      generalize numAt l (4 + 8 * k) 2 = x1 at *
      generalize numAt l (4 + 8 * k + 2) 2 = x2 at *
      generalize numAt l (4 + 8 * k + 4) 4 = pl at *
      go_upto_region 9 with (fail)
      go_cut [68] from 36 to 68 (fun v wx => v = .bool (decide (0 < k ∧ cmId l k ≤ cmId l (k - 1))) ∧ w = wx)
      case first =>
        rcases Nat.eq_zero_or_pos k with h0 | h0
        · have hv : Hid (decide (0 < k ∧ cmId l k ≤ cmId l (k - 1)) = false) := Lib.hid (decide_eq_false (by omega))
          have e0 : decide ((0 : Int) < (k : Int)) = false := decide_eq_false (by omega)
          have e0b : decide (0 < k) = false := decide_eq_false (by omega)
          have H00 := Lib.hid h0
          clear h0
          go_wp2_with fail
          go_meet
          case rel => exact ⟨by rw [hv.out], rfl⟩
        · have e0 : decide ((0 : Int) < (k : Int)) = true := decide_eq_true (by omega)
          have e0b : decide (0 < k) = true := decide_eq_true (by omega)
          have HY1 := Lib.hid (w_in HB.out (4 + 8 * (k - 1)) (4 + 8 * (k : Int) - 8) (by omega) (by omega))
          have HY2 := Lib.hid (w_in HB.out (4 + 8 * (k - 1) + 2) (4 + 8 * (k : Int) - 6) (by omega) (by omega))
          have n1 : numAt l (4 + 8 * (k - 1)) 2 < 65536 := numAt_two_lt l _ HB.out.lt (by omega)
          have n2 : numAt l (4 + 8 * (k - 1) + 2) 2 < 65536 := numAt_two_lt l _ HB.out.lt (by omega)
          have hiff : Hid ((0 < k ∧ cmId l k ≤ cmId l (k - 1)) ↔ x1 * 65536 + x2 ≤ numAt l (4 + 8 * (k - 1)) 2 * 65536 + numAt l (4 + 8 * (k - 1) + 2) 2) := Lib.hid (by
            rw [hid.out]
            exact ⟨fun h => h.2, fun h => ⟨h0, h⟩⟩)
          generalize numAt l (4 + 8 * (k - 1)) 2 = y1 at *
          generalize numAt l (4 + 8 * (k - 1) + 2) 2 = y2 at *
          by_cases f1 : x1 < y1
          · skip
            have hv : Hid (decide (0 < k ∧ cmId l k ≤ cmId l (k - 1)) = true) := Lib.hid (decide_eq_true (by rw [hiff.out]; omega))
            have g1 : decide ((x1 : Int) < (y1 : Int)) = true := decide_eq_true (by omega)
            have g1b : decide (x1 < y1) = true := decide_eq_true (by omega)
            go_wp2_with (first | (go_at_call 50; with_reducible (refine HX1.out.mono ?_); rintro e w' ⟨rfl, rfl⟩) | (go_at_call 50; with_reducible (refine HX2.out.mono ?_); rintro e w' ⟨rfl, rfl⟩) | (go_at_call 50; with_reducible (refine HY1.out.mono ?_); rintro e w' ⟨rfl, rfl⟩) | (go_at_call 50; with_reducible (refine HY2.out.mono ?_); rintro e w' ⟨rfl, rfl⟩))
            go_meet
            case rel => exact ⟨by rw [hv.out], rfl⟩
          · by_cases f2 : x1 = y1
            · by_cases f3 : x2 ≤ y2
              · skip
                have hv : Hid (decide (0 < k ∧ cmId l k ≤ cmId l (k - 1)) = true) := Lib.hid (decide_eq_true (by rw [hiff.out]; omega))
                have g1 : decide ((x1 : Int) < (y1 : Int)) = false := decide_eq_false (by omega)
                have g1b : decide (x1 < y1) = false := decide_eq_false (by omega)
                have g2 : ((x1 : Int) == (y1 : Int)) = true := by simp; omega
                have g2b : (x1 == y1) = true := by simp; omega
                have g2c : decide (x1 = y1) = true := decide_eq_true (by omega)
                have g3 : decide ((x2 : Int) ≤ (y2 : Int)) = true := decide_eq_true (by omega)
                have g3b : decide (x2 ≤ y2) = true := decide_eq_true (by omega)
                go_wp2_with (first | (go_at_call 50; with_reducible (refine HX1.out.mono ?_); rintro e w' ⟨rfl, rfl⟩) | (go_at_call 50; with_reducible (refine HX2.out.mono ?_); rintro e w' ⟨rfl, rfl⟩) | (go_at_call 50; with_reducible (refine HY1.out.mono ?_); rintro e w' ⟨rfl, rfl⟩) | (go_at_call 50; with_reducible (refine HY2.out.mono ?_); rintro e w' ⟨rfl, rfl⟩))
                go_meet
                case rel => exact ⟨by rw [hv.out], rfl⟩
              · skip
                have hv : Hid (decide (0 < k ∧ cmId l k ≤ cmId l (k - 1)) = false) := Lib.hid (decide_eq_false (by rw [hiff.out]; omega))
                have g1 : decide ((x1 : Int) < (y1 : Int)) = false := decide_eq_false (by omega)
                have g1b : decide (x1 < y1) = false := decide_eq_false (by omega)
                have g2 : ((x1 : Int) == (y1 : Int)) = true := by simp; omega
                have g2b : (x1 == y1) = true := by simp; omega
                have g2c : decide (x1 = y1) = true := decide_eq_true (by omega)
                have g3 : decide ((x2 : Int) ≤ (y2 : Int)) = false := decide_eq_false (by omega)
                have g3b : decide (x2 ≤ y2) = false := decide_eq_false (by omega)
                go_wp2_with (first | (go_at_call 50; with_reducible (refine HX1.out.mono ?_); rintro e w' ⟨rfl, rfl⟩) | (go_at_call 50; with_reducible (refine HX2.out.mono ?_); rintro e w' ⟨rfl, rfl⟩) | (go_at_call 50; with_reducible (refine HY1.out.mono ?_); rintro e w' ⟨rfl, rfl⟩) | (go_at_call 50; with_reducible (refine HY2.out.mono ?_); rintro e w' ⟨rfl, rfl⟩))
                go_meet
                case rel => exact ⟨by rw [hv.out], rfl⟩
            · skip
              have hv : Hid (decide (0 < k ∧ cmId l k ≤ cmId l (k - 1)) = false) := Lib.hid (decide_eq_false (by rw [hiff.out]; omega))
              have g1 : decide ((x1 : Int) < (y1 : Int)) = false := decide_eq_false (by omega)
              have g1b : decide (x1 < y1) = false := decide_eq_false (by omega)
              have g2 : ((x1 : Int) == (y1 : Int)) = false := by simp; omega
              have g2b : (x1 == y1) = false := by simp; omega
              have g2c : decide (x1 = y1) = false := decide_eq_false (by omega)
              go_wp2_with (first | (go_at_call 50; with_reducible (refine HX1.out.mono ?_); rintro e w' ⟨rfl, rfl⟩) | (go_at_call 50; with_reducible (refine HX2.out.mono ?_); rintro e w' ⟨rfl, rfl⟩) | (go_at_call 50; with_reducible (refine HY1.out.mono ?_); rintro e w' ⟨rfl, rfl⟩) | (go_at_call 50; with_reducible (refine HY2.out.mono ?_); rintro e w' ⟨rfl, rfl⟩))
              go_meet
              case rel => exact ⟨by rw [hv.out], rfl⟩
      case rest =>
      obtain ⟨rfl, rfl⟩ := hcut
      by_cases f0 : 0 < k ∧ cmId l k ≤ cmId l (k - 1)
      · have hno : Hid (¬ cmOk l) := Lib.hid (fun hh => by
          have h1 := hh.2.2.2 (k - 1) (by rw [hcn.out]; omega)
          rw [show k - 1 + 1 = k from by omega] at h1
          omega)
        rw [decide_eq_true f0]
        clear f0
        go_wp2_with fail
        go_ret2
        exact ⟨rfl, .inr ⟨.inl hno.out, rfl⟩⟩
      have hrise2 : Hid (cmRise l (k + 1)) := Lib.hid (by
        have h2 := HRISE.out
        rcases Nat.eq_zero_or_pos k with h3 | h3
        · subst h3; exact cmRise_one l
        · obtain ⟨j, rfl⟩ : ∃ j, k = j + 1 := ⟨k - 1, by omega⟩
          refine cmRise_succ h2 ?_
          rw [Nat.add_sub_cancel] at f0
          omega)
      rw [decide_eq_false f0]
      clear f0
      have hsame : Hid (¬ (pl + 2 ≤ l.length) → cmBest l (k + 1) = cmBest l k) := Lib.hid (fun h => by
        show (if cmPlace l k + 2 ≤ l.length then _ else _) = _
        rw [if_neg (by rw [hpl.out]; exact h)])
      have hstep : Hid (pl + 2 ≤ l.length → cmBest l (k + 1) = if (x1 = 3 ∧ x2 = 10) ∧ numAt l pl 2 = 12 then some (pl, 12) else if (x1 = 3 ∧ x2 = 1) ∧ numAt l pl 2 = 4 ∧ cmBest l k = none then some (pl, 4) else cmBest l k) := Lib.hid (fun h => by
        have i1 : cmId l k = 196618 ↔ x1 = 3 ∧ x2 = 10 := by rw [hid.out]; exact id_eq (a := 3) (b := 10) m2 (by omega)
        have i2 : cmId l k = 196609 ↔ x1 = 3 ∧ x2 = 1 := by rw [hid.out]; exact id_eq (a := 3) (b := 1) m2 (by omega)
        show (if cmPlace l k + 2 ≤ l.length then (if cmId l k = 196618 ∧ _ then _ else if cmId l k = 196609 ∧ _ then _ else _) else _) = _
        rw [if_pos (by rw [hpl.out]; exact h), hpl.out]
        simp only [i1, i2])
      have HA1 := Lib.hid (fun b hb => all_in A l.length cap pl 2 pl 2 rfl rfl w (by omega) b hb)
      by_cases c5 : x1 = 3
      case neg =>
        have d5 : ((x1 : Int) == 3) = false := by simp; omega
        have d5b : (x1 == 3) = false := by simp; omega
        have d5c : decide (x1 = 3) = false := decide_eq_false (by omega)
        have d5d : ((x1 : Int) != 3) = true := by simp; omega
        have d5e : (x1 != 3) = true := by simp; omega
        have C5 := Lib.hid c5
        clear c5
        have hst2 : Hid (cmBest l (k + 1) = cmBest l k) := Lib.hid ((Decidable.em (pl + 2 ≤ l.length)).elim (fun h => by rw [hstep.out h, if_neg (fun h => C5.out h.1.1), if_neg (fun h => C5.out h.1.1)]) (fun h => hsame.out h))
        go_wp2_with (first | (go_at_call 50; with_reducible (refine HX1.out.mono ?_); rintro e w' ⟨rfl, rfl⟩) | (go_at_call 51; with_reducible (refine HPL.out.mono ?_); rintro e w' ⟨rfl, rfl⟩))
        go_round
        case rel => exact ⟨k + 1, by omega, by go_num, hrise2.out, by rw [hst2.out]; exact HBEST.out⟩
        case measure => simp [intOf]; omega
      have d5 : ((x1 : Int) == 3) = true := by simp; omega
      have d5b : (x1 == 3) = true := by simp; omega
      have d5c : decide (x1 = 3) = true := decide_eq_true (by omega)
      have d5d : ((x1 : Int) != 3) = false := by simp; omega
      have d5e : (x1 != 3) = false := by simp; omega
      have C5 := Lib.hid c5
      clear c5
      by_cases c6 : pl + 2 ≤ l.length
      case neg =>
        have HAL := Lib.hid (HA1.out false (decide_eq_false c6))
        have hst2 : Hid (cmBest l (k + 1) = cmBest l k) := Lib.hid (hsame.out c6)
        go_wp2_with (first | (go_at_call 50; with_reducible (refine HX1.out.mono ?_); rintro e w' ⟨rfl, rfl⟩) | (go_at_call 50; with_reducible (refine HX2.out.mono ?_); rintro e w' ⟨rfl, rfl⟩) | (go_at_call 51; with_reducible (refine HPL.out.mono ?_); rintro e w' ⟨rfl, rfl⟩) | (go_at_call 52; with_reducible (refine HAL.out.mono ?_); rintro e w' ⟨rfl, rfl⟩))
        go_round
        case rel => exact ⟨k + 1, by omega, by go_num, hrise2.out, by rw [hst2.out]; exact HBEST.out⟩
        case measure => simp [intOf]; omega
      have HAL := Lib.hid (HA1.out true (decide_eq_true c6))
      have HF := Lib.hid (w_in HB.out pl pl rfl (by omega))
      have m4 : numAt l pl 2 < 65536 := numAt_two_lt l _ HB.out.lt (by omega)
      have hst := Lib.hid (hstep.out c6)
      clear hstep hsame HA1
      generalize numAt l pl 2 = f at *
      rcases hbk : cmBest l k with _ | ⟨p0, f0⟩
      · have hB := HBEST.out
        rw [hbk] at hB
        obtain ⟨rfl, rfl⟩ := hB
        have HBK := Lib.hid hbk
        clear hbk
        by_cases c7 : x2 = 10
        · have n1 : ¬ x2 = 1 := by omega
          have d7 : ((x2 : Int) == 10) = true := by simp; omega
          have d7b : (x2 == 10) = true := by simp; omega
          have d7c : decide (x2 = 10) = true := decide_eq_true (by omega)
          have d7d : ((x2 : Int) != 10) = false := by simp; omega
          have d7e : (x2 != 10) = false := by simp; omega
          have d8 : ((x2 : Int) == 1) = false := by simp; omega
          have d8b : (x2 == 1) = false := by simp; omega
          have d8c : decide (x2 = 1) = false := decide_eq_false (by omega)
          have d8d : ((x2 : Int) != 1) = true := by simp; omega
          have d8e : (x2 != 1) = true := by simp; omega
          by_cases c8 : f = 12
          · have FV : Hid (f = 12) := Lib.hid c8
            have d9 : ((f : Int) == 12) = true := by simp; omega
            have d9b : (f == 12) = true := by simp; omega
            have d9c : decide (f = 12) = true := decide_eq_true (by omega)
            have d9d : ((f : Int) != 12) = false := by simp; omega
            have d9e : (f != 12) = false := by simp; omega
            have C7 := Lib.hid c7
            have C8 := Lib.hid c8
            clear c7 c8
            have hst2 : Hid (cmBest l (k + 1) = some (pl, f)) := Lib.hid (by rw [hst.out]; exact (if_pos ⟨⟨C5.out, C7.out⟩, C8.out⟩).trans (by rw [C8.out]))
            go_wp2_with (first | (go_at_call 50; with_reducible (refine HX1.out.mono ?_); rintro e w' ⟨rfl, rfl⟩) | (go_at_call 50; with_reducible (refine HX2.out.mono ?_); rintro e w' ⟨rfl, rfl⟩) | (go_at_call 50; with_reducible (refine HF.out.mono ?_); rintro e w' ⟨rfl, rfl⟩) | (go_at_call 51; with_reducible (refine HPL.out.mono ?_); rintro e w' ⟨rfl, rfl⟩) | (go_at_call 52; with_reducible (refine HAL.out.mono ?_); rintro e w' ⟨rfl, rfl⟩))
            go_round
            case rel => exact ⟨k + 1, by omega, by go_num, hrise2.out, by rw [hst2.out]; exact ⟨rfl, by rw [FV.out]; rfl⟩⟩
            case measure => simp [intOf]; omega
          · skip
            have d9 : ((f : Int) == 12) = false := by simp; omega
            have d9b : (f == 12) = false := by simp; omega
            have d9c : decide (f = 12) = false := decide_eq_false (by omega)
            have d9d : ((f : Int) != 12) = true := by simp; omega
            have d9e : (f != 12) = true := by simp; omega
            have C7 := Lib.hid c7
            have C8 := Lib.hid c8
            have N1 := Lib.hid n1
            clear c7 c8 n1
            have hst2 : Hid (cmBest l (k + 1) = cmBest l k) := Lib.hid (by rw [hst.out, if_neg (fun h => C8.out h.2), if_neg (fun h => N1.out h.1.2)])
            go_wp2_with (first | (go_at_call 50; with_reducible (refine HX1.out.mono ?_); rintro e w' ⟨rfl, rfl⟩) | (go_at_call 50; with_reducible (refine HX2.out.mono ?_); rintro e w' ⟨rfl, rfl⟩) | (go_at_call 50; with_reducible (refine HF.out.mono ?_); rintro e w' ⟨rfl, rfl⟩) | (go_at_call 51; with_reducible (refine HPL.out.mono ?_); rintro e w' ⟨rfl, rfl⟩) | (go_at_call 52; with_reducible (refine HAL.out.mono ?_); rintro e w' ⟨rfl, rfl⟩))
            go_round
            case rel => exact ⟨k + 1, by omega, by go_num, hrise2.out, by rw [hst2.out]; exact HBEST.out⟩
            case measure => simp [intOf]; omega
        · by_cases c8 : x2 = 1
          · skip
            have d7 : ((x2 : Int) == 10) = false := by simp; omega
            have d7b : (x2 == 10) = false := by simp; omega
            have d7c : decide (x2 = 10) = false := decide_eq_false (by omega)
            have d7d : ((x2 : Int) != 10) = true := by simp; omega
            have d7e : (x2 != 10) = true := by simp; omega
            have d8 : ((x2 : Int) == 1) = true := by simp; omega
            have d8b : (x2 == 1) = true := by simp; omega
            have d8c : decide (x2 = 1) = true := decide_eq_true (by omega)
            have d8d : ((x2 : Int) != 1) = false := by simp; omega
            have d8e : (x2 != 1) = false := by simp; omega
            by_cases c9 : f = 4
            · have FV : Hid (f = 4) := Lib.hid c9
              have d9 : ((f : Int) == 4) = true := by simp; omega
              have d9b : (f == 4) = true := by simp; omega
              have d9c : decide (f = 4) = true := decide_eq_true (by omega)
              have d9d : ((f : Int) != 4) = false := by simp; omega
              have d9e : (f != 4) = false := by simp; omega
              have C7 := Lib.hid c7
              have C8 := Lib.hid c8
              have C9 := Lib.hid c9
              clear c7 c8 c9
              have hst2 : Hid (cmBest l (k + 1) = some (pl, f)) := Lib.hid (by rw [hst.out, if_neg (fun h => C7.out h.1.2)]; exact (if_pos ⟨⟨C5.out, C8.out⟩, C9.out, HBK.out⟩).trans (by rw [C9.out]))
              go_wp2_with (first | (go_at_call 50; with_reducible (refine HX1.out.mono ?_); rintro e w' ⟨rfl, rfl⟩) | (go_at_call 50; with_reducible (refine HX2.out.mono ?_); rintro e w' ⟨rfl, rfl⟩) | (go_at_call 50; with_reducible (refine HF.out.mono ?_); rintro e w' ⟨rfl, rfl⟩) | (go_at_call 51; with_reducible (refine HPL.out.mono ?_); rintro e w' ⟨rfl, rfl⟩) | (go_at_call 52; with_reducible (refine HAL.out.mono ?_); rintro e w' ⟨rfl, rfl⟩))
              go_round
              case rel => exact ⟨k + 1, by omega, by go_num, hrise2.out, by rw [hst2.out]; exact ⟨rfl, by rw [FV.out]; rfl⟩⟩
              case measure => simp [intOf]; omega
            · skip
              have d9 : ((f : Int) == 4) = false := by simp; omega
              have d9b : (f == 4) = false := by simp; omega
              have d9c : decide (f = 4) = false := decide_eq_false (by omega)
              have d9d : ((f : Int) != 4) = true := by simp; omega
              have d9e : (f != 4) = true := by simp; omega
              have C7 := Lib.hid c7
              have C8 := Lib.hid c8
              have C9 := Lib.hid c9
              clear c7 c8 c9
              have hst2 : Hid (cmBest l (k + 1) = cmBest l k) := Lib.hid (by rw [hst.out, if_neg (fun h => C7.out h.1.2), if_neg (fun h => C9.out h.2.1)])
              go_wp2_with (first | (go_at_call 50; with_reducible (refine HX1.out.mono ?_); rintro e w' ⟨rfl, rfl⟩) | (go_at_call 50; with_reducible (refine HX2.out.mono ?_); rintro e w' ⟨rfl, rfl⟩) | (go_at_call 50; with_reducible (refine HF.out.mono ?_); rintro e w' ⟨rfl, rfl⟩) | (go_at_call 51; with_reducible (refine HPL.out.mono ?_); rintro e w' ⟨rfl, rfl⟩) | (go_at_call 52; with_reducible (refine HAL.out.mono ?_); rintro e w' ⟨rfl, rfl⟩))
              go_round
              case rel => exact ⟨k + 1, by omega, by go_num, hrise2.out, by rw [hst2.out]; exact HBEST.out⟩
              case measure => simp [intOf]; omega
          · skip
            have d7 : ((x2 : Int) == 10) = false := by simp; omega
            have d7b : (x2 == 10) = false := by simp; omega
            have d7c : decide (x2 = 10) = false := decide_eq_false (by omega)
            have d7d : ((x2 : Int) != 10) = true := by simp; omega
            have d7e : (x2 != 10) = true := by simp; omega
            have d8 : ((x2 : Int) == 1) = false := by simp; omega
            have d8b : (x2 == 1) = false := by simp; omega
            have d8c : decide (x2 = 1) = false := decide_eq_false (by omega)
            have d8d : ((x2 : Int) != 1) = true := by simp; omega
            have d8e : (x2 != 1) = true := by simp; omega
            have C7 := Lib.hid c7
            have C8 := Lib.hid c8
            clear c7 c8
            have hst2 : Hid (cmBest l (k + 1) = cmBest l k) := Lib.hid (by rw [hst.out, if_neg (fun h => C7.out h.1.2), if_neg (fun h => C8.out h.1.2)])
            go_wp2_with (first | (go_at_call 50; with_reducible (refine HX1.out.mono ?_); rintro e w' ⟨rfl, rfl⟩) | (go_at_call 50; with_reducible (refine HX2.out.mono ?_); rintro e w' ⟨rfl, rfl⟩) | (go_at_call 50; with_reducible (refine HF.out.mono ?_); rintro e w' ⟨rfl, rfl⟩) | (go_at_call 51; with_reducible (refine HPL.out.mono ?_); rintro e w' ⟨rfl, rfl⟩) | (go_at_call 52; with_reducible (refine HAL.out.mono ?_); rintro e w' ⟨rfl, rfl⟩))
            go_round
            case rel => exact ⟨k + 1, by omega, by go_num, hrise2.out, by rw [hst2.out]; exact HBEST.out⟩
            case measure => simp [intOf]; omega
      · have hB := HBEST.out
        rw [hbk] at hB
        obtain ⟨rfl, rfl⟩ := hB
        have HBK := Lib.hid hbk
        have hf0 := (cmBest_form l k p0 f0 hbk).1
        have d0 : ((f0 : Int) == 0) = false := by simp; omega
        have d0b : (f0 == 0) = false := by simp; omega
        have d0c : decide (f0 = 0) = false := decide_eq_false (by omega)
        clear hbk hf0
        by_cases c7 : x2 = 10
        · have n1 : ¬ x2 = 1 := by omega
          have d7 : ((x2 : Int) == 10) = true := by simp; omega
          have d7b : (x2 == 10) = true := by simp; omega
          have d7c : decide (x2 = 10) = true := decide_eq_true (by omega)
          have d7d : ((x2 : Int) != 10) = false := by simp; omega
          have d7e : (x2 != 10) = false := by simp; omega
          have d8 : ((x2 : Int) == 1) = false := by simp; omega
          have d8b : (x2 == 1) = false := by simp; omega
          have d8c : decide (x2 = 1) = false := decide_eq_false (by omega)
          have d8d : ((x2 : Int) != 1) = true := by simp; omega
          have d8e : (x2 != 1) = true := by simp; omega
          by_cases c8 : f = 12
          · have FV : Hid (f = 12) := Lib.hid c8
            have d9 : ((f : Int) == 12) = true := by simp; omega
            have d9b : (f == 12) = true := by simp; omega
            have d9c : decide (f = 12) = true := decide_eq_true (by omega)
            have d9d : ((f : Int) != 12) = false := by simp; omega
            have d9e : (f != 12) = false := by simp; omega
            have C7 := Lib.hid c7
            have C8 := Lib.hid c8
            clear c7 c8
            have hst2 : Hid (cmBest l (k + 1) = some (pl, f)) := Lib.hid (by rw [hst.out]; exact (if_pos ⟨⟨C5.out, C7.out⟩, C8.out⟩).trans (by rw [C8.out]))
            go_wp2_with (first | (go_at_call 50; with_reducible (refine HX1.out.mono ?_); rintro e w' ⟨rfl, rfl⟩) | (go_at_call 50; with_reducible (refine HX2.out.mono ?_); rintro e w' ⟨rfl, rfl⟩) | (go_at_call 50; with_reducible (refine HF.out.mono ?_); rintro e w' ⟨rfl, rfl⟩) | (go_at_call 51; with_reducible (refine HPL.out.mono ?_); rintro e w' ⟨rfl, rfl⟩) | (go_at_call 52; with_reducible (refine HAL.out.mono ?_); rintro e w' ⟨rfl, rfl⟩))
            go_round
            case rel => exact ⟨k + 1, by omega, by go_num, hrise2.out, by rw [hst2.out]; exact ⟨rfl, by rw [FV.out]; rfl⟩⟩
            case measure => simp [intOf]; omega
          · skip
            have d9 : ((f : Int) == 12) = false := by simp; omega
            have d9b : (f == 12) = false := by simp; omega
            have d9c : decide (f = 12) = false := decide_eq_false (by omega)
            have d9d : ((f : Int) != 12) = true := by simp; omega
            have d9e : (f != 12) = true := by simp; omega
            have C7 := Lib.hid c7
            have C8 := Lib.hid c8
            have N1 := Lib.hid n1
            clear c7 c8 n1
            have hst2 : Hid (cmBest l (k + 1) = cmBest l k) := Lib.hid (by rw [hst.out, if_neg (fun h => C8.out h.2), if_neg (fun h => N1.out h.1.2)])
            go_wp2_with (first | (go_at_call 50; with_reducible (refine HX1.out.mono ?_); rintro e w' ⟨rfl, rfl⟩) | (go_at_call 50; with_reducible (refine HX2.out.mono ?_); rintro e w' ⟨rfl, rfl⟩) | (go_at_call 50; with_reducible (refine HF.out.mono ?_); rintro e w' ⟨rfl, rfl⟩) | (go_at_call 51; with_reducible (refine HPL.out.mono ?_); rintro e w' ⟨rfl, rfl⟩) | (go_at_call 52; with_reducible (refine HAL.out.mono ?_); rintro e w' ⟨rfl, rfl⟩))
            go_round
            case rel => exact ⟨k + 1, by omega, by go_num, hrise2.out, by rw [hst2.out]; exact HBEST.out⟩
            case measure => simp [intOf]; omega
        · by_cases c8 : x2 = 1
          · skip
            have d7 : ((x2 : Int) == 10) = false := by simp; omega
            have d7b : (x2 == 10) = false := by simp; omega
            have d7c : decide (x2 = 10) = false := decide_eq_false (by omega)
            have d7d : ((x2 : Int) != 10) = true := by simp; omega
            have d7e : (x2 != 10) = true := by simp; omega
            have d8 : ((x2 : Int) == 1) = true := by simp; omega
            have d8b : (x2 == 1) = true := by simp; omega
            have d8c : decide (x2 = 1) = true := decide_eq_true (by omega)
            have d8d : ((x2 : Int) != 1) = false := by simp; omega
            have d8e : (x2 != 1) = false := by simp; omega
            by_cases c9 : f = 4
            · have FV : Hid (f = 4) := Lib.hid c9
              have d9 : ((f : Int) == 4) = true := by simp; omega
              have d9b : (f == 4) = true := by simp; omega
              have d9c : decide (f = 4) = true := decide_eq_true (by omega)
              have d9d : ((f : Int) != 4) = false := by simp; omega
              have d9e : (f != 4) = false := by simp; omega
              have C7 := Lib.hid c7
              have C8 := Lib.hid c8
              have C9 := Lib.hid c9
              clear c7 c8 c9
              have hst2 : Hid (cmBest l (k + 1) = cmBest l k) := Lib.hid (by rw [hst.out, if_neg (fun h => C7.out h.1.2), if_neg (fun h => by have := h.2.2; rw [HBK.out] at this; cases this)])
              go_wp2_with (first | (go_at_call 50; with_reducible (refine HX1.out.mono ?_); rintro e w' ⟨rfl, rfl⟩) | (go_at_call 50; with_reducible (refine HX2.out.mono ?_); rintro e w' ⟨rfl, rfl⟩) | (go_at_call 50; with_reducible (refine HF.out.mono ?_); rintro e w' ⟨rfl, rfl⟩) | (go_at_call 51; with_reducible (refine HPL.out.mono ?_); rintro e w' ⟨rfl, rfl⟩) | (go_at_call 52; with_reducible (refine HAL.out.mono ?_); rintro e w' ⟨rfl, rfl⟩))
              go_round
              case rel => exact ⟨k + 1, by omega, by go_num, hrise2.out, by rw [hst2.out]; exact HBEST.out⟩
              case measure => simp [intOf]; omega
            · skip
              have d9 : ((f : Int) == 4) = false := by simp; omega
              have d9b : (f == 4) = false := by simp; omega
              have d9c : decide (f = 4) = false := decide_eq_false (by omega)
              have d9d : ((f : Int) != 4) = true := by simp; omega
              have d9e : (f != 4) = true := by simp; omega
              have C7 := Lib.hid c7
              have C8 := Lib.hid c8
              have C9 := Lib.hid c9
              clear c7 c8 c9
              have hst2 : Hid (cmBest l (k + 1) = cmBest l k) := Lib.hid (by rw [hst.out, if_neg (fun h => C7.out h.1.2), if_neg (fun h => C9.out h.2.1)])
              go_wp2_with (first | (go_at_call 50; with_reducible (refine HX1.out.mono ?_); rintro e w' ⟨rfl, rfl⟩) | (go_at_call 50; with_reducible (refine HX2.out.mono ?_); rintro e w' ⟨rfl, rfl⟩) | (go_at_call 50; with_reducible (refine HF.out.mono ?_); rintro e w' ⟨rfl, rfl⟩) | (go_at_call 51; with_reducible (refine HPL.out.mono ?_); rintro e w' ⟨rfl, rfl⟩) | (go_at_call 52; with_reducible (refine HAL.out.mono ?_); rintro e w' ⟨rfl, rfl⟩))
              go_round
              case rel => exact ⟨k + 1, by omega, by go_num, hrise2.out, by rw [hst2.out]; exact HBEST.out⟩
              case measure => simp [intOf]; omega
          · skip
            have d7 : ((x2 : Int) == 10) = false := by simp; omega
            have d7b : (x2 == 10) = false := by simp; omega
            have d7c : decide (x2 = 10) = false := decide_eq_false (by omega)
            have d7d : ((x2 : Int) != 10) = true := by simp; omega
            have d7e : (x2 != 10) = true := by simp; omega
            have d8 : ((x2 : Int) == 1) = false := by simp; omega
            have d8b : (x2 == 1) = false := by simp; omega
            have d8c : decide (x2 = 1) = false := decide_eq_false (by omega)
            have d8d : ((x2 : Int) != 1) = true := by simp; omega
            have d8e : (x2 != 1) = true := by simp; omega
            have C7 := Lib.hid c7
            have C8 := Lib.hid c8
            clear c7 c8
            have hst2 : Hid (cmBest l (k + 1) = cmBest l k) := Lib.hid (by rw [hst.out, if_neg (fun h => C7.out h.1.2), if_neg (fun h => C8.out h.1.2)])
            go_wp2_with (first | (go_at_call 50; with_reducible (refine HX1.out.mono ?_); rintro e w' ⟨rfl, rfl⟩) | (go_at_call 50; with_reducible (refine HX2.out.mono ?_); rintro e w' ⟨rfl, rfl⟩) | (go_at_call 50; with_reducible (refine HF.out.mono ?_); rintro e w' ⟨rfl, rfl⟩) | (go_at_call 51; with_reducible (refine HPL.out.mono ?_); rintro e w' ⟨rfl, rfl⟩) | (go_at_call 52; with_reducible (refine HAL.out.mono ?_); rintro e w' ⟨rfl, rfl⟩))
            go_round
            case rel => exact ⟨k + 1, by omega, by go_num, hrise2.out, by rw [hst2.out]; exact HBEST.out⟩
            case measure => simp [intOf]; omega
    · have hkn : k = n := by omega
      subst hkn
      rcases hbk : cmBest l k with _ | ⟨p0, f0⟩
      · have hB := HBEST.out
        rw [hbk] at hB
        obtain ⟨rfl, rfl⟩ := hB
        have HBK := Lib.hid hbk
        clear hbk
        go_wp2_with fail
        go_ret2
        exact ⟨rfl, .inr ⟨.inr (by rw [hcn.out]; exact HBK.out), rfl⟩⟩
      · have hB := HBEST.out
        rw [hbk] at hB
        obtain ⟨rfl, rfl⟩ := hB
        have HBK := Lib.hid hbk
        clear hbk
        go_wp2_with fail
        go_ret2
        exact ⟨rfl, .inl ⟨p0, f0, ⟨c1, HC2.out, by rw [hcn.out]; exact c3, by rw [hcn.out]; exact HRISE.out⟩, by rw [hcn.out]; exact HBK.out, rfl⟩⟩
end Go.Proofs.YtfbppbelcbbhlaaGreatDoor.Sf
