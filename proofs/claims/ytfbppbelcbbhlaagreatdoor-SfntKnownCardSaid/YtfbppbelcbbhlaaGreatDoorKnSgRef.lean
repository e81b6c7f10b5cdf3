/- The reference's segments (printed by gen/refsegs.py). -/
import Derived.Test.YtfbppbelcbbhlaaGreatDoorKnGrRef
namespace Go.Proofs.YtfbppbelcbbhlaaGreatDoor.Sf
open Go Go.RowKit

theorem sgPre_length3 {t : List Nat} {k j : Nat} (h : ∀ i, i < k → sgGood t i) (h2 : sgEnd t k < 65536) (h3 : k = 0 ∨ sgEnd t (k - 1) < sgStart t k) (hj : sgStart t k + j ≤ sgEnd t k) : (sgAll t k ++ sgPart t k j).length < 1114112 := by
  have h4 := sgAll_rises t k h
  have h5 := rises_length h4.1 (sgStart t k) (fun x hx => by have := h4.2 x hx; omega)
  rw [List.length_append, sgPart, List.length_map, List.length_range]
  omega

set_option maxRecDepth 100000 in
set_option maxHeartbeats 4000000 in
theorem segments_ref (A : Option Addr) (cap : Nat) (t : List Nat) (w : World) (hb : Byt w A cap t) (hr : t.length ≤ 140737488355328) :
    Calls Tryz.prog 78 #[.slice A t.length cap] w fun e w' => ListPost w (sgOk t) (sgAll t (sgN t)) e w' := by
  have HB := Lib.hid hb
  have HZ := Lib.hid (w_ref A cap t 2 w hb)
  have H6 := Lib.hid (w_ref A cap t 6 w hb)
  have hz6 := refNum_two_lt hb 2
  have h66 := refNum_two_lt hb 6
  have HEQ : Hid (16 ≤ t.length → numAt t 2 2 = refNum t 2 2 ∧ numAt t 6 2 = refNum t 6 2) := Lib.hid (fun h => ⟨(refNum_in rfl (by omega)).symm, (refNum_in rfl (by omega)).symm⟩)
  clear hb
  generalize refNum t 2 2 = z at *
  generalize refNum t 6 2 = w6 at *
  obtain ⟨n, hnn⟩ : ∃ n, n = w6 / 2 := ⟨_, rfl⟩
  have wq : (w6 : Int) / 2 = (n : Int) := by rw [hnn]; omega
  have wq2 : (w6 : Int).tdiv 2 = (n : Int) := by rw [Int.tdiv_eq_ediv_of_nonneg (by omega), hnn]; omega
  have HNN := Lib.hid hnn
  have hn6 : n < 32768 := by omega
  clear hnn
  have HSZ : Hid (16 ≤ t.length → sgSize t = z) := Lib.hid (fun h => (HEQ.out h).1)
  have HSN : Hid (16 ≤ t.length → sgN t = n) := Lib.hid (fun h => by unfold sgN; rw [(HEQ.out h).2]; exact HNN.out.symm)
  by_cases c2 : 2 ≤ w6
  case neg =>
    have hno : Hid (¬ sgOk t) := Lib.hid (fun hh => c2 (by rw [← (HEQ.out hh.1.1).2]; exact hh.1.2.1))
    have d2 : decide ((w6 : Int) < 2) = true := decide_eq_true (by omega)
    have d2b : decide (w6 < 2) = true := decide_eq_true (by omega)
    go_enter Tryz.func78, Tryz.ntmps78
    go_wp2_with (first | (go_at_call 50; with_reducible (refine HZ.out.mono ?_); rintro e w' ⟨rfl, rfl⟩) | (go_at_call 50; with_reducible (refine H6.out.mono ?_); rintro e w' ⟨rfl, rfl⟩))
    go_ret2
    exact ⟨Below.refl _ _, .inr ⟨hno.out, rfl⟩⟩
  have d2 : decide ((w6 : Int) < 2) = false := decide_eq_false (by omega)
  have d2b : decide (w6 < 2) = false := decide_eq_false (by omega)
  by_cases c3 : w6 % 2 = 0
  case neg =>
    have hno : Hid (¬ sgOk t) := Lib.hid (fun hh => c3 (by rw [← (HEQ.out hh.1.1).2]; exact hh.1.2.2.1))
    have d3 : ((w6 : Int) % 2 == 0) = false := by simp; omega
    have d3b : (w6 % 2 == 0) = false := by simp; omega
    have d3c : ((w6 : Int) % 2 != 0) = true := by simp; omega
    have d3d : (w6 % 2 != 0) = true := by simp; omega
    have d3e : decide (w6 % 2 = 0) = false := decide_eq_false (by omega)
    go_enter Tryz.func78, Tryz.ntmps78
    go_wp2_with (first | (go_at_call 50; with_reducible (refine HZ.out.mono ?_); rintro e w' ⟨rfl, rfl⟩) | (go_at_call 50; with_reducible (refine H6.out.mono ?_); rintro e w' ⟨rfl, rfl⟩))
    go_ret2
    exact ⟨Below.refl _ _, .inr ⟨hno.out, rfl⟩⟩
  have d3 : ((w6 : Int) % 2 == 0) = true := by simp; omega
  have d3b : (w6 % 2 == 0) = true := by simp; omega
  have d3c : ((w6 : Int) % 2 != 0) = false := by simp; omega
  have d3d : (w6 % 2 != 0) = false := by simp; omega
  have d3e : decide (w6 % 2 = 0) = true := decide_eq_true (by omega)
  have C3 := Lib.hid c3
  clear c3
  by_cases c4 : 16 + 8 * n ≤ z
  case neg =>
    have hno : Hid (¬ sgOk t) := Lib.hid (fun hh => c4 (by rw [← HSZ.out hh.1.1, ← HSN.out hh.1.1]; exact hh.1.2.2.2.1))
    have d4 : decide ((z : Int) < 16 + 8 * (n : Int)) = true := decide_eq_true (by omega)
    go_enter Tryz.func78, Tryz.ntmps78
    go_wp2_with (first | (go_at_call 50; with_reducible (refine HZ.out.mono ?_); rintro e w' ⟨rfl, rfl⟩) | (go_at_call 50; with_reducible (refine H6.out.mono ?_); rintro e w' ⟨rfl, rfl⟩))
    go_ret2
    exact ⟨Below.refl _ _, .inr ⟨hno.out, rfl⟩⟩
  have d4 : decide ((z : Int) < 16 + 8 * (n : Int)) = false := decide_eq_false (by omega)
  have HA1 := Lib.hid (fun b hb => all_in A t.length cap 0 z 0 z rfl rfl w (by omega) b hb)
  by_cases c5 : z ≤ t.length
  case neg =>
    have hno : Hid (¬ sgOk t) := Lib.hid (fun hh => c5 (by rw [← HSZ.out hh.1.1]; exact hh.1.2.2.2.2.1))
    have HAL := Lib.hid (HA1.out false (decide_eq_false (by omega)))
    go_enter Tryz.func78, Tryz.ntmps78
    go_wp2_with (first | (go_at_call 50; with_reducible (refine HZ.out.mono ?_); rintro e w' ⟨rfl, rfl⟩) | (go_at_call 50; with_reducible (refine H6.out.mono ?_); rintro e w' ⟨rfl, rfl⟩) | (go_at_call 52; with_reducible (refine HAL.out.mono ?_); rintro e w' ⟨rfl, rfl⟩))
    go_ret2
    exact ⟨Below.refl _ _, .inr ⟨hno.out, rfl⟩⟩
  have HAL := Lib.hid (HA1.out true (decide_eq_true (by omega)))
  have c1 : 16 ≤ t.length := by omega
  have hsz : Hid (sgSize t = z) := Lib.hid (HSZ.out c1)
  have hsn : Hid (sgN t = n) := Lib.hid (HSN.out c1)
  have HA := Lib.hid (w_in HB.out (14 + 2 * n) (14 + 2 * (n : Int)) (by omega) (by omega))
  have HC := Lib.hid (w_in HB.out (12 + 2 * n) (12 + 2 * (n : Int)) (by omega) (by omega))
  have e14 : Hid (numAt t (14 + 2 * sgN t) 2 = numAt t (14 + 2 * n) 2) := Lib.hid (by rw [hsn.out])
  have e12 : Hid (numAt t (12 + 2 * sgN t) 2 = numAt t (12 + 2 * n) 2) := Lib.hid (by rw [hsn.out])
  generalize numAt t (14 + 2 * n) 2 = v14 at *
  generalize numAt t (12 + 2 * n) 2 = v12 at *
  clear HA1 HSZ HSN
  by_cases c6 : v14 = 0
  case neg =>
    have hno : Hid (¬ sgOk t) := Lib.hid (fun hh => c6 (by rw [← e14.out]; exact hh.1.2.2.2.2.2.1))
    have d6 : ((v14 : Int) == 0) = false := by simp; omega
    have d6b : (v14 == 0) = false := by simp; omega
    have d6c : decide (v14 = 0) = false := decide_eq_false (by omega)
    have d6d : ((v14 : Int) != 0) = true := by simp; omega
    have d6e : (v14 != 0) = true := by simp; omega
    go_enter Tryz.func78, Tryz.ntmps78
    go_wp2_with (first | (go_at_call 50; with_reducible (refine HZ.out.mono ?_); rintro e w' ⟨rfl, rfl⟩) | (go_at_call 50; with_reducible (refine H6.out.mono ?_); rintro e w' ⟨rfl, rfl⟩) | (go_at_call 52; with_reducible (refine HAL.out.mono ?_); rintro e w' ⟨rfl, rfl⟩) | (go_at_call 50; with_reducible (refine HA.out.mono ?_); rintro e w' ⟨rfl, rfl⟩))
    go_ret2
    exact ⟨Below.refl _ _, .inr ⟨hno.out, rfl⟩⟩
  have d6 : ((v14 : Int) == 0) = true := by simp; omega
  have d6b : (v14 == 0) = true := by simp; omega
  have d6c : decide (v14 = 0) = true := decide_eq_true (by omega)
  have d6d : ((v14 : Int) != 0) = false := by simp; omega
  have d6e : (v14 != 0) = false := by simp; omega
  have C6 := Lib.hid c6
  clear c6
  by_cases c7 : v12 = 65535
  case neg =>
    have hno : Hid (¬ sgOk t) := Lib.hid (fun hh => c7 (by rw [← e12.out]; exact hh.1.2.2.2.2.2.2))
    have d7 : ((v12 : Int) == 65535) = false := by simp; omega
    have d7b : (v12 == 65535) = false := by simp; omega
    have d7c : decide (v12 = 65535) = false := decide_eq_false (by omega)
    have d7d : ((v12 : Int) != 65535) = true := by simp; omega
    have d7e : (v12 != 65535) = true := by simp; omega
    go_enter Tryz.func78, Tryz.ntmps78
    go_wp2_with (first | (go_at_call 50; with_reducible (refine HZ.out.mono ?_); rintro e w' ⟨rfl, rfl⟩) | (go_at_call 50; with_reducible (refine H6.out.mono ?_); rintro e w' ⟨rfl, rfl⟩) | (go_at_call 52; with_reducible (refine HAL.out.mono ?_); rintro e w' ⟨rfl, rfl⟩) | (go_at_call 50; with_reducible (refine HA.out.mono ?_); rintro e w' ⟨rfl, rfl⟩) | (go_at_call 50; with_reducible (refine HC.out.mono ?_); rintro e w' ⟨rfl, rfl⟩))
    go_ret2
    exact ⟨Below.refl _ _, .inr ⟨hno.out, rfl⟩⟩
  have d7 : ((v12 : Int) == 65535) = true := by simp; omega
  have d7b : (v12 == 65535) = true := by simp; omega
  have d7c : decide (v12 = 65535) = true := decide_eq_true (by omega)
  have d7d : ((v12 : Int) != 65535) = false := by simp; omega
  have d7e : (v12 != 65535) = false := by simp; omega
  have C7 := Lib.hid c7
  clear c7
  have hh : Hid (sgHead t) := Lib.hid ⟨c1, by rw [(HEQ.out c1).2]; exact c2, by rw [(HEQ.out c1).2]; exact C3.out, by rw [hsn.out, hsz.out]; exact c4, by rw [hsz.out]; exact c5, by rw [e14.out]; exact C6.out, by rw [e12.out]; exact C7.out⟩
  have HL0 := Lib.hid (show sgLast t 0 = -1 from rfl)
  go_enter Tryz.func78, Tryz.ntmps78
  go_wp2_with (first | (go_at_call 50; with_reducible (refine HZ.out.mono ?_); rintro e w' ⟨rfl, rfl⟩) | (go_at_call 50; with_reducible (refine H6.out.mono ?_); rintro e w' ⟨rfl, rfl⟩) | (go_at_call 52; with_reducible (refine HAL.out.mono ?_); rintro e w' ⟨rfl, rfl⟩) | (go_at_call 50; with_reducible (refine HA.out.mono ?_); rintro e w' ⟨rfl, rfl⟩) | (go_at_call 50; with_reducible (refine HC.out.mono ?_); rintro e w' ⟨rfl, rfl⟩))
  go_loopw [6, 7, 8] (fun v lv iv wr => ∃ (k : Nat) (A' : Option Addr) (c' : Nat), k ≤ n ∧ iv = .int .i64 k ∧ lv = .int .i64 (sgLast t k) ∧ v = .slice A' (sgAll t k).length c' ∧ wr.ownsRow w.heap.size 93 2 (.slice A' (sgAll t k).length c') (sgAll t k).length (mpCells (sgAll t k)) ∧ Below w.heap.size w wr ∧ ∀ i, i < k → sgGood t i ∧ ∀ j, sgStart t i + j ≤ sgEnd t i → sgIn t i j) (fun _ _ iv _ => n - (intOf iv).toNat)
  case atStart => exact ⟨0, none, 0, Nat.zero_le _, rfl, by rw [HL0.out], rfl, World.ownsRow_nil _ _ _ _, Below.refl _ _, fun i hi => by omega⟩
  case round =>
    obtain ⟨k, A', c', hk, rfl, rfl, rfl, hown, hbel, hgood⟩ := hrel
    have HO := Lib.hid hown
    have HBL := Lib.hid hbel
    have HG := Lib.hid hgood
    clear hown hbel hgood
    obtain ⟨wo, hwo⟩ : ∃ wo : World, wo = wr := ⟨_, rfl⟩
    rw [← hwo] at HO HBL ⊢
    clear hwo
    by_cases hlt : k < n
    · have HBR := Lib.hid (HB.out.below HBL.out)
      have HE := Lib.hid (w_in HBR.out (14 + 2 * k) (14 + 2 * (k : Int)) (by omega) (by omega))
      have HS := Lib.hid (w_in HBR.out (16 + 2 * n + 2 * k) (16 + 2 * (n : Int) + 2 * (k : Int)) (by omega) (by omega))
      have HD := Lib.hid (w_in HBR.out (16 + 4 * n + 2 * k) (16 + 4 * (n : Int) + 2 * (k : Int)) (by omega) (by omega))
      have e1 : Hid (sgStart t k = numAt t (16 + 2 * n + 2 * k) 2) := Lib.hid (by unfold sgStart; rw [hsn.out])
      have e2 : Hid (sgEnd t k = numAt t (14 + 2 * k) 2) := Lib.hid rfl
      have e3 : Hid (sgDelta t k = numAt t (16 + 4 * n + 2 * k) 2) := Lib.hid (by unfold sgDelta; rw [hsn.out])
      have e4 : Hid (sgAt t k = 16 + 6 * n + 2 * k) := Lib.hid (by unfold sgAt; rw [hsn.out])
      have m1 : numAt t (16 + 2 * n + 2 * k) 2 < 65536 := numAt_two_lt t _ HB.out.lt (by omega)
      have m2 : numAt t (14 + 2 * k) 2 < 65536 := numAt_two_lt t _ HB.out.lt (by omega)
      have m3 : numAt t (16 + 4 * n + 2 * k) 2 < 65536 := numAt_two_lt t _ HB.out.lt (by omega)
      generalize numAt t (16 + 2 * n + 2 * k) 2 = v1 at *
      generalize numAt t (14 + 2 * k) 2 = ve at *
      generalize numAt t (16 + 4 * n + 2 * k) 2 = dl at *
      obtain ⟨ta, hta⟩ : ∃ ta, ta = 16 + 6 * n + 2 * k := ⟨_, rfl⟩
      have wta : 16 + 6 * (n : Int) + 2 * (k : Int) = (ta : Int) := by omega
      rw [← hta] at e4
      have hta2 : ta + 2 ≤ z := by omega
      clear hta
      have hlast : Hid (sgLast t (k + 1) = (ve : Int)) := Lib.hid (by unfold sgLast; rw [if_neg (by omega), Nat.add_sub_cancel, e2.out])
      have hlr : -1 ≤ sgLast t k ∧ sgLast t k ≤ 65536 := by
        unfold sgLast
        split
        · omega
        · have : sgEnd t (k - 1) < 65536 := numAt_two_lt t _ HB.out.lt (by omega)
          omega
      have HLT : Hid (sgLast t k < (v1 : Int) ↔ (k = 0 ∨ sgEnd t (k - 1) < sgStart t k)) := Lib.hid (by
        unfold sgLast
        rw [e1.out]
        rcases Nat.eq_zero_or_pos k with h3 | h3
        · rw [if_pos h3]; exact ⟨fun _ => .inl h3, fun _ => by omega⟩
        · rw [if_neg (by omega)]; exact ⟨fun h => .inr (by omega), fun h => by omega⟩)
      have HNO : Hid (¬ sgGood t k → ¬ sgOk t) := Lib.hid (fun h1 h2 => h1 (h2.2 k (by rw [hsn.out]; exact hlt)).1)
      have HNI : Hid (∀ j, v1 + j ≤ ve → ¬ sgIn t k j → ¬ sgOk t) := Lib.hid (fun j hj h1 h2 => h1 ((h2.2 k (by rw [hsn.out]; exact hlt)).2 j (by rw [e1.out, e2.out]; exact hj)))
      generalize sgLast t k = lst at *
      by_cases f1 : v1 ≤ ve
      case neg =>
        have hno : Hid (¬ sgOk t) := Lib.hid (HNO.out (fun hh => f1 (by rw [← e1.out, ← e2.out]; exact hh.1)))
        have g1 : decide ((ve : Int) < (v1 : Int)) = true := decide_eq_true (by omega)
        have g1b : decide (ve < v1) = true := decide_eq_true (by omega)
        go_wp2_with (first | (go_at_call 50; with_reducible (refine HS.out.mono ?_); rintro e w' ⟨rfl, rfl⟩) | (go_at_call 50; with_reducible (refine HE.out.mono ?_); rintro e w' ⟨rfl, rfl⟩) | (go_at_call 50; with_reducible (refine HD.out.mono ?_); rintro e w' ⟨rfl, rfl⟩))
        go_ret2
        exact ⟨HBL.out, .inr ⟨hno.out, rfl⟩⟩
      have g1 : decide ((ve : Int) < (v1 : Int)) = false := decide_eq_false (by omega)
      have g1b : decide (ve < v1) = false := decide_eq_false (by omega)
      by_cases f3 : lst < (v1 : Int)
      case neg =>
        have hno : Hid (¬ sgOk t) := Lib.hid (HNO.out (fun hh => f3 (by exact HLT.out.2 hh.2)))
        have g3 : decide ((v1 : Int) ≤ lst) = true := decide_eq_true (by omega)
        go_wp2_with (first | (go_at_call 50; with_reducible (refine HS.out.mono ?_); rintro e w' ⟨rfl, rfl⟩) | (go_at_call 50; with_reducible (refine HE.out.mono ?_); rintro e w' ⟨rfl, rfl⟩) | (go_at_call 50; with_reducible (refine HD.out.mono ?_); rintro e w' ⟨rfl, rfl⟩))
        go_ret2
        exact ⟨HBL.out, .inr ⟨hno.out, rfl⟩⟩
      have g3 : decide ((v1 : Int) ≤ lst) = false := decide_eq_false (by omega)
      have F3 := Lib.hid (HLT.out.1 f3)
      have H0p := Lib.hid (show sgAll t k ++ sgPart t k 0 = sgAll t k from by simp [sgPart])
      have hgd : Hid (sgGood t k) := Lib.hid ⟨by rw [e1.out, e2.out]; exact f1, F3.out⟩
      have e5 : Hid (sgOff t k = numAt t ta 2) := Lib.hid (by unfold sgOff; rw [e4.out])
      have m5 : numAt t ta 2 < 65536 := numAt_two_lt t _ HB.out.lt (by omega)
      have HOF0 := Lib.hid (fun W (hW : Below w.heap.size w W) => w_in (HB.out.below hW) ta ta rfl (by omega))
      have HWP0 := Lib.hid (fun W (hW : Below w.heap.size w W) (pl : Nat) (h : pl + 2 ≤ t.length) => w_in (HB.out.below hW) pl pl rfl h)
      generalize numAt t ta 2 = of at *
      go_wp2_with (first | (go_at_call 50; with_reducible (refine HS.out.mono ?_); rintro e w' ⟨rfl, rfl⟩) | (go_at_call 50; with_reducible (refine HE.out.mono ?_); rintro e w' ⟨rfl, rfl⟩) | (go_at_call 50; with_reducible (refine HD.out.mono ?_); rintro e w' ⟨rfl, rfl⟩))
      go_loopw [6, 13] (fun v cv wr => ∃ (j c : Nat) (A2 : Option Addr) (c2 m : Nat), c ≤ ve + 1 ∧ Hid (c = v1 + j) ∧ cv = .int .i64 (c : Int) ∧ Hid (m = (sgAll t k ++ sgPart t k j).length) ∧ v = .slice A2 m c2 ∧ wr.ownsRow w.heap.size 93 2 (.slice A2 m c2) m (mpCells (sgAll t k ++ sgPart t k j)) ∧ Below w.heap.size w wr ∧ ∀ i, i < j → sgIn t k i) (fun _ cv _ => ve + 1 - (intOf cv).toNat)
      case atStart => exact ⟨0, v1, A', c', _, by omega, Lib.hid rfl, rfl, Lib.hid rfl, by rw [H0p.out], by rw [H0p.out]; exact HO.out, HBL.out, fun i hi => by omega⟩
      case round =>
        obtain ⟨j, c, A2, c2, m, hj, hc, rfl, hm, rfl, hown, hbel, hinj⟩ := hrel
        have HO2 := Lib.hid hown
        have HB2 := Lib.hid hbel
        have HIJ := Lib.hid hinj
        clear hown hbel hinj
        by_cases hle : c ≤ ve
        · have d5 : decide ((c : Int) ≤ (ve : Int)) = true := decide_eq_true (by omega)
          have d5b : decide (c ≤ ve) = true := decide_eq_true hle
          have hjv : Hid (v1 + j ≤ ve) := Lib.hid (by rw [← hc.out]; exact hle)
          have HOF := Lib.hid (HOF0.out wr HB2.out)
          have HWP := Lib.hid (HWP0.out wr HB2.out)
          obtain ⟨g0, hg0⟩ : ∃ g0, g0 = (c + dl) % 65536 := ⟨_, rfl⟩
          have wg0 : ((c : Int) + (dl : Int)) % 65536 = (g0 : Int) := by rw [hg0]; omega
          have hgl : Hid (sgGlyph t k j = if of = 0 then g0 else if numAt t (ta + of + 2 * j) 2 = 0 then 0 else (numAt t (ta + of + 2 * j) 2 + dl) % 65536) := Lib.hid (by
            unfold sgGlyph
            rw [e5.out, e1.out, e3.out, e4.out, hg0, hc.out])
          have hin : Hid (sgIn t k j ↔ (of ≠ 0 → ta + of + 2 * j + 2 ≤ z)) := Lib.hid (by
            unfold sgIn
            rw [e5.out, e4.out, hsz.out])
          have hg6 : g0 < 65536 := by omega
          obtain ⟨gl, hgle⟩ : ∃ gl, gl = sgGlyph t k j := ⟨_, rfl⟩
          have HGLE := Lib.hid hgle
          rw [← hgle] at hgl
          clear hg0 hgle
          have hml : m < 1114112 := by
            rw [hm.out]
            exact sgPre_length3 (fun i hi => (HG.out i hi).1) (by rw [e2.out]; exact m2) F3.out (by rw [e1.out, e2.out]; exact hjv.out)
          go_upto_if 113 with (go_at_call 50; with_reducible (refine HOF.out.mono ?_); rintro e w' ⟨rfl, rfl⟩)
          go_cut [14, 15] from 113 to 137 (fun gv pv wc => gv = .int .i64 (gl : Int) ∧ sgIn t k j ∧ wr = wc)
          case first =>
            by_cases c6 : of = 0
            · have hv : Hid (gl = g0) := Lib.hid (by rw [hgl.out, if_pos c6])
              have hi : Hid (sgIn t k j) := Lib.hid (hin.out.2 (fun h => absurd c6 h))
              have d6 : ((of : Int) == 0) = true := by simp; omega
              have d6b : (of == 0) = true := by simp; omega
              have d6c : decide (of = 0) = true := decide_eq_true (by omega)
              have d6d : ((of : Int) != 0) = false := by simp; omega
              have d6e : (of != 0) = false := by simp; omega
              clear c6
              go_wp2_with (go_at_call 50; with_reducible (refine HOF.out.mono ?_); rintro e w' ⟨rfl, rfl⟩)
              go_meet
              case rel => exact ⟨by rw [hv.out], hi.out, rfl⟩
            · skip
              have d6 : ((of : Int) == 0) = false := by simp; omega
              have d6b : (of == 0) = false := by simp; omega
              have d6c : decide (of = 0) = false := decide_eq_false (by omega)
              have d6d : ((of : Int) != 0) = true := by simp; omega
              have d6e : (of != 0) = true := by simp; omega
              have C6 := Lib.hid c6
              clear c6
              obtain ⟨pl, hpl⟩ : ∃ pl, pl = ta + of + 2 * j := ⟨_, rfl⟩
              have x4 : (ta : Int) + (of : Int) + 2 * ((c : Int) - (v1 : Int)) = (pl : Int) := by have := hc.out; omega
              rw [← hpl] at hgl hin
              have hplb : pl < 1000000 := by have := hc.out; omega
              clear hpl
              by_cases c7 : pl + 2 ≤ z
              case neg =>
                have hno : Hid (¬ sgOk t) := Lib.hid (HNI.out j hjv.out (fun h => c7 (hin.out.1 h C6.out)))
                have d7 : decide ((z : Int) < (pl : Int) + 2) = true := decide_eq_true (by omega)
                go_wp2_with (go_at_call 50; with_reducible (refine HOF.out.mono ?_); rintro e w' ⟨rfl, rfl⟩)
                go_ret2
                exact ⟨HB2.out, .inr ⟨hno.out, rfl⟩⟩
              have d7 : decide ((z : Int) < (pl : Int) + 2) = false := decide_eq_false (by omega)
              have hi : Hid (sgIn t k j) := Lib.hid (hin.out.2 (fun _ => c7))
              have HWQ := Lib.hid (HWP.out pl (by omega))
              have mv : numAt t pl 2 < 65536 := numAt_two_lt t _ HB.out.lt (by omega)
              generalize numAt t pl 2 = vv at *
              by_cases c8 : vv = 0
              · have hv : Hid (gl = vv) := Lib.hid (by rw [hgl.out, if_neg C6.out, if_pos c8, c8])
                have d8 : ((vv : Int) == 0) = true := by simp; omega
                have d8b : (vv == 0) = true := by simp; omega
                have d8c : decide (vv = 0) = true := decide_eq_true (by omega)
                have d8d : ((vv : Int) != 0) = false := by simp; omega
                have d8e : (vv != 0) = false := by simp; omega
                clear c8
                go_wp2_with (first | (go_at_call 50; with_reducible (refine HOF.out.mono ?_); rintro e w' ⟨rfl, rfl⟩) | (go_at_call 50; with_reducible (refine HWQ.out.mono ?_); rintro e w' ⟨rfl, rfl⟩))
                go_meet
                case rel => exact ⟨by rw [hv.out], hi.out, rfl⟩
              · obtain ⟨g1, hg1⟩ : ∃ g1, g1 = (vv + dl) % 65536 := ⟨_, rfl⟩
                have hv : Hid (gl = g1) := Lib.hid (by rw [hgl.out, if_neg C6.out, if_neg c8, hg1])
                have wg1 : ((vv : Int) + (dl : Int)) % 65536 = (g1 : Int) := by rw [hg1]; omega
                have d8 : ((vv : Int) == 0) = false := by simp; omega
                have d8b : (vv == 0) = false := by simp; omega
                have d8c : decide (vv = 0) = false := decide_eq_false (by omega)
                have d8d : ((vv : Int) != 0) = true := by simp; omega
                have d8e : (vv != 0) = true := by simp; omega
                clear c8 hg1
                go_wp2_with (first | (go_at_call 50; with_reducible (refine HOF.out.mono ?_); rintro e w' ⟨rfl, rfl⟩) | (go_at_call 50; with_reducible (refine HWQ.out.mono ?_); rintro e w' ⟨rfl, rfl⟩))
                go_meet
                case rel => exact ⟨by rw [hv.out, ← wg1], hi.out, rfl⟩
          case rest =>
          obtain ⟨rfl, hsgin, rfl⟩ := hcut
          have HSI := Lib.hid hsgin
          have hgl6 : gl < 65536 := by
            rw [hgl.out]
            split
            · exact hg6
            · split
              · omega
              · omega
          have hnew : Hid (sgAll t k ++ sgPart t k (j + 1) = sgAll t k ++ sgPart t k j ++ [(c, gl)]) := Lib.hid (by
            rw [sgPart_succ, e1.out, ← hc.out, ← HGLE.out, List.append_assoc])
          have wc : IntKind.i32.wrap (c : Int) = (c : Int) := by simp [IntKind.wrap, IntKind.bits, IntKind.signed]; omega
          have wg : IntKind.u16.wrap (gl : Int) = (gl : Int) := by simp [IntKind.wrap, IntKind.bits, IntKind.signed]; omega
          have hsz2 := HB2.out.size
          clear hsgin
          go_wp2_with (at_builtin; refine wpl_app rfl (.tmp 137) (.tmp 143) 88 rfl w.heap.size 93 Tryz.underlying88 info_map rfl (by decide) (.slice A2 m c2) m (mpCells (sgAll t k ++ sgPart t k j)) rfl (HO2.out.alloc _) (some ⟨wr.heap.size, 0, none⟩) 1 1 [.int .i32 (c : Int), .int .u16 (gl : Int)] rfl rfl (fun h => by cases h) ?c0 ?c4 ?c1 ?c2 ?c3 ?_; rotate_right; intro v' w8 hown hg; obtain ⟨A3, c3, rfl⟩ := own_form hown; have hb3 := below_grown (HB2.out.alloc hsz2 _) (HO2.out.alloc _) (by simp; omega) hg)
          case c0 =>
            intro ad had j u hu
            cases had
            rw [add_lit, Nat.zero_add, cell_of_blk (heap_alloc_new _ _) j]
            rcases j with _ | _ | j
            · simpa using hu
            · simpa using hu
            · simp at hu
          case c4 =>
            intro u hu
            simp at hu
            rcases hu with rfl | rfl <;> rfl
          case c1 => unfold maxLen; omega
          case c2 => omega
          case c3 => simp; omega
          have hcells : mpCells (sgAll t k ++ sgPart t k j) ++ [.int .i32 (c : Int), .int .u16 (gl : Int)] = mpCells (sgAll t k ++ sgPart t k (j + 1)) := by rw [hnew.out, mpCells_append _ [(c, gl)], mpCells_one]
          rw [hcells] at hown
          have HO3 := Lib.hid hown
          have HB3 := Lib.hid hb3
          clear hown hb3 hg hcells
          go_roundw
          case rel =>
            refine ⟨j + 1, c + 1, A3, c3, m + 1, by omega, Lib.hid (by rw [hc.out]; omega), by go_num, Lib.hid (by rw [hnew.out, List.length_append, ← hm.out]; rfl), rfl, HO3.out, HB3.out, fun i hi => ?_⟩
            rcases Nat.lt_or_ge i j with h3 | h3
            · exact HIJ.out i h3
            · obtain rfl : i = j := by omega
              exact HSI.out
          case measure => simp [intOf]; omega
        · have hdone : Hid (sgAll t (k + 1) = sgAll t k ++ sgPart t k j) := Lib.hid (by
            have h1 := hc.out
            rw [sgAll_succ, ← sgPart_full, e1.out, e2.out, show ve + 1 - v1 = j from by omega])
          have d5 : decide ((c : Int) ≤ (ve : Int)) = false := decide_eq_false (by omega)
          have d5b : decide (c ≤ ve) = false := decide_eq_false hle
          go_wp2_with fail
          go_roundw
          case rel =>
            refine ⟨k + 1, A2, c2, by omega, by go_num, by rw [hlast.out], by rw [hdone.out, ← hm.out], ?_, HB2.out, fun i hi => ?_⟩
            · rw [hdone.out, ← hm.out]; exact HO2.out
            · rcases Nat.lt_or_ge i k with h3 | h3
              · exact HG.out i h3
              · obtain rfl : i = k := by omega
                refine ⟨hgd.out, fun j' hj' => HIJ.out j' ?_⟩
                have h1 := hc.out
                rw [e1.out, e2.out] at hj'
                omega
          case measure => simp [intOf]; omega
    · have hkn : k = n := by omega
      subst hkn
      go_wp2_with fail
      go_ret2
      refine ⟨HBL.out, .inl ⟨⟨hh.out, fun i hi => HG.out i (by rw [← hsn.out]; exact hi)⟩, A', c', ?_, ?_⟩⟩
      · rw [hsn.out]; rfl
      · rw [hsn.out]; exact HO.out
end Go.Proofs.YtfbppbelcbbhlaaGreatDoor.Sf
