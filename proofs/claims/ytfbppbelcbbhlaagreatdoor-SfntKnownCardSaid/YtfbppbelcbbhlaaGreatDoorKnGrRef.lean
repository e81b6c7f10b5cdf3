/- The reference's groups (printed by gen/refgroups.py). -/
import Derived.Test.YtfbppbelcbbhlaaGreatDoorKnMapsI
import Derived.Test.YtfbppbelcbbhlaaGreatDoorKnCounts
namespace Go.Proofs.YtfbppbelcbbhlaaGreatDoor.Sf
open Go Go.RowKit

def ListPost (w : World) (ok : Prop) (full : List (Nat × Nat)) (e : Ending) (w' : World) : Prop :=
  Below w.heap.size w w' ∧ ((ok ∧ ∃ A c, e = .returned (.tuple #[.slice A full.length c, .bool true]) ∧ w'.ownsRow w.heap.size 93 2 (.slice A full.length c) full.length (mpCells full)) ∨ (¬ ok ∧ e = .returned (.tuple #[.slice none 0 0, .bool false])))
theorem grPre_length3 {t : List Nat} {k j : Nat} (h : ∀ i, i < k → grGood t i) (h2 : grEnd t k ≤ 1114111) (h3 : k = 0 ∨ grEnd t (k - 1) < grFirst t k) (hj : grFirst t k + j ≤ grEnd t k) : (grAll t k ++ grPart t k j).length < 1114112 := by
  have h4 := grAll_rises t k h
  have h5 := rises_length h4.1 (grFirst t k) (fun x hx => by have := h4.2 x hx; omega)
  rw [List.length_append, grPart, List.length_map, List.length_range]
  omega
theorem grPart_length (t : List Nat) (i j : Nat) : (grPart t i j).length = j := by simp [grPart]
theorem sgPart_length (t : List Nat) (i j : Nat) : (sgPart t i j).length = j := by simp [sgPart]

set_option maxRecDepth 100000 in
set_option maxHeartbeats 4000000 in
theorem groups_ref (A : Option Addr) (cap : Nat) (t : List Nat) (w : World) (hb : Byt w A cap t) (hr : t.length ≤ 140737488355328) :
    Calls Tryz.prog 77 #[.slice A t.length cap] w fun e w' => ListPost w (grOk t) (grAll t (grN t)) e w' := by
  have HB := Lib.hid hb
  clear hb
  by_cases c1 : 16 ≤ t.length
  case neg =>
    have hno : Hid (¬ grOk t) := Lib.hid (fun hh => c1 hh.1.1)
    have hn0 : refNum t 12 4 = 0 := by unfold refNum; rw [if_neg (by omega)]
    have hn := l_ref A cap t 12 w HB.out
    rw [hn0] at hn
    have HN := Lib.hid hn
    have HW2 := Lib.hid (w_ref A cap t 2 w HB.out)
    have HL4 := Lib.hid (l_ref A cap t 4 w HB.out)
    have HAL := Lib.hid (all_in A t.length cap 0 16 0 16 rfl rfl w (by omega) false (decide_eq_false (by omega)))
    clear hn hn0
    generalize refNum t 2 2 = v2 at *
    generalize refNum t 4 4 = v4 at *
    by_cases c2 : v2 = 0
    · skip
      have d2 : ((v2 : Int) == 0) = true := by simp; omega
      have d2b : (v2 == 0) = true := by simp; omega
      have d2c : decide (v2 = 0) = true := decide_eq_true (by omega)
      have d2d : ((v2 : Int) != 0) = false := by simp; omega
      have d2e : (v2 != 0) = false := by simp; omega
      clear c2
      by_cases c3 : v4 = 16
      · skip
        have d3 : ((v4 : Int) == 16) = true := by simp; omega
        have d3b : (v4 == 16) = true := by simp; omega
        have d3c : decide (v4 = 16) = true := decide_eq_true (by omega)
        have d3d : ((v4 : Int) != 16) = false := by simp; omega
        have d3e : (v4 != 16) = false := by simp; omega
        clear c3
        go_enter Tryz.func77, Tryz.ntmps77
        go_wp2_with (first | (go_at_call 50; with_reducible (refine HW2.out.mono ?_); rintro e w' ⟨rfl, rfl⟩) | (go_at_call 51; with_reducible (refine HN.out.mono ?_); rintro e w' ⟨rfl, rfl⟩) | (go_at_call 51; with_reducible (refine HL4.out.mono ?_); rintro e w' ⟨rfl, rfl⟩) | (go_at_call 52; with_reducible (refine HAL.out.mono ?_); rintro e w' ⟨rfl, rfl⟩))
        go_ret2
        exact ⟨Below.refl _ _, .inr ⟨hno.out, rfl⟩⟩
      · skip
        have d3 : ((v4 : Int) == 16) = false := by simp; omega
        have d3b : (v4 == 16) = false := by simp; omega
        have d3c : decide (v4 = 16) = false := decide_eq_false (by omega)
        have d3d : ((v4 : Int) != 16) = true := by simp; omega
        have d3e : (v4 != 16) = true := by simp; omega
        go_enter Tryz.func77, Tryz.ntmps77
        go_wp2_with (first | (go_at_call 50; with_reducible (refine HW2.out.mono ?_); rintro e w' ⟨rfl, rfl⟩) | (go_at_call 51; with_reducible (refine HN.out.mono ?_); rintro e w' ⟨rfl, rfl⟩) | (go_at_call 51; with_reducible (refine HL4.out.mono ?_); rintro e w' ⟨rfl, rfl⟩) | (go_at_call 52; with_reducible (refine HAL.out.mono ?_); rintro e w' ⟨rfl, rfl⟩))
        go_ret2
        exact ⟨Below.refl _ _, .inr ⟨hno.out, rfl⟩⟩
    · skip
      have d2 : ((v2 : Int) == 0) = false := by simp; omega
      have d2b : (v2 == 0) = false := by simp; omega
      have d2c : decide (v2 = 0) = false := decide_eq_false (by omega)
      have d2d : ((v2 : Int) != 0) = true := by simp; omega
      have d2e : (v2 != 0) = true := by simp; omega
      go_enter Tryz.func77, Tryz.ntmps77
      go_wp2_with (first | (go_at_call 50; with_reducible (refine HW2.out.mono ?_); rintro e w' ⟨rfl, rfl⟩) | (go_at_call 51; with_reducible (refine HN.out.mono ?_); rintro e w' ⟨rfl, rfl⟩) | (go_at_call 51; with_reducible (refine HL4.out.mono ?_); rintro e w' ⟨rfl, rfl⟩) | (go_at_call 52; with_reducible (refine HAL.out.mono ?_); rintro e w' ⟨rfl, rfl⟩))
      go_ret2
      exact ⟨Below.refl _ _, .inr ⟨hno.out, rfl⟩⟩
  have HN := Lib.hid (l_in HB.out 12 12 rfl (by omega))
  have HW2 := Lib.hid (w_in HB.out 2 2 rfl (by omega))
  have HL4 := Lib.hid (l_in HB.out 4 4 rfl (by omega))
  have hgn : Hid (grN t = numAt t 12 4) := Lib.hid rfl
  have hn : numAt t 12 4 < 4294967296 := numF_lt _
  have m4 : numAt t 4 4 < 4294967296 := numF_lt _
  have HV2 := Lib.hid (show numAt t 2 2 = numAt t 2 2 from rfl)
  have HV4 := Lib.hid (show numAt t 4 4 = numAt t 4 4 from rfl)
  obtain ⟨v2, hv2⟩ : ∃ v, v = numAt t 2 2 := ⟨_, rfl⟩
  obtain ⟨v4, hv4⟩ : ∃ v, v = numAt t 4 4 := ⟨_, rfl⟩
  rw [← hv2] at HW2
  rw [← hv4] at HL4 m4
  have E2 := Lib.hid hv2
  have E4 := Lib.hid hv4
  clear hv2 hv4 HV2 HV4
  generalize numAt t 12 4 = n at *
  by_cases c2 : v2 = 0
  case neg =>
    have hno : Hid (¬ grOk t) := Lib.hid (fun hh => c2 (by rw [E2.out]; exact hh.1.2.1))
    have d2 : ((v2 : Int) == 0) = false := by simp; omega
    have d2b : (v2 == 0) = false := by simp; omega
    have d2c : decide (v2 = 0) = false := decide_eq_false (by omega)
    have d2d : ((v2 : Int) != 0) = true := by simp; omega
    have d2e : (v2 != 0) = true := by simp; omega
    go_enter Tryz.func77, Tryz.ntmps77
    go_wp2_with (first | (go_at_call 50; with_reducible (refine HW2.out.mono ?_); rintro e w' ⟨rfl, rfl⟩) | (go_at_call 51; with_reducible (refine HN.out.mono ?_); rintro e w' ⟨rfl, rfl⟩) | (go_at_call 51; with_reducible (refine HL4.out.mono ?_); rintro e w' ⟨rfl, rfl⟩) | (go_at_call 52; with_reducible (refine HAL.out.mono ?_); rintro e w' ⟨rfl, rfl⟩))
    go_ret2
    exact ⟨Below.refl _ _, .inr ⟨hno.out, rfl⟩⟩
  have d2 : ((v2 : Int) == 0) = true := by simp; omega
  have d2b : (v2 == 0) = true := by simp; omega
  have d2c : decide (v2 = 0) = true := decide_eq_true (by omega)
  have d2d : ((v2 : Int) != 0) = false := by simp; omega
  have d2e : (v2 != 0) = false := by simp; omega
  have C2 := Lib.hid c2
  clear c2
  by_cases c3 : n ≤ 65536
  case neg =>
    have hno : Hid (¬ grOk t) := Lib.hid (fun hh => c3 (by rw [← hgn.out]; exact hh.1.2.2.1))
    have d3 : decide (65536 < (n : Int)) = true := decide_eq_true (by omega)
    have d3b : decide (65536 < n) = true := decide_eq_true (by omega)
    go_enter Tryz.func77, Tryz.ntmps77
    go_wp2_with (first | (go_at_call 50; with_reducible (refine HW2.out.mono ?_); rintro e w' ⟨rfl, rfl⟩) | (go_at_call 51; with_reducible (refine HN.out.mono ?_); rintro e w' ⟨rfl, rfl⟩) | (go_at_call 51; with_reducible (refine HL4.out.mono ?_); rintro e w' ⟨rfl, rfl⟩) | (go_at_call 52; with_reducible (refine HAL.out.mono ?_); rintro e w' ⟨rfl, rfl⟩))
    go_ret2
    exact ⟨Below.refl _ _, .inr ⟨hno.out, rfl⟩⟩
  have d3 : decide (65536 < (n : Int)) = false := decide_eq_false (by omega)
  have d3b : decide (65536 < n) = false := decide_eq_false (by omega)
  obtain ⟨z, hz⟩ : ∃ z, z = 16 + 12 * n := ⟨_, rfl⟩
  have wz : 16 + 12 * (n : Int) = (z : Int) := by omega
  have hz2 : z ≤ 1000000 := by omega
  have HZ := Lib.hid hz
  clear hz
  by_cases c4 : v4 = z
  case neg =>
    have hno : Hid (¬ grOk t) := Lib.hid (fun hh => c4 (by rw [E4.out, HZ.out, ← hgn.out]; exact hh.1.2.2.2.1))
    have d4 : ((v4 : Int) == (z : Int)) = false := by simp; omega
    have d4b : (v4 == z) = false := by simp; omega
    have d4c : decide (v4 = z) = false := decide_eq_false (by omega)
    have d4d : ((v4 : Int) != (z : Int)) = true := by simp; omega
    have d4e : (v4 != z) = true := by simp; omega
    go_enter Tryz.func77, Tryz.ntmps77
    go_wp2_with (first | (go_at_call 50; with_reducible (refine HW2.out.mono ?_); rintro e w' ⟨rfl, rfl⟩) | (go_at_call 51; with_reducible (refine HN.out.mono ?_); rintro e w' ⟨rfl, rfl⟩) | (go_at_call 51; with_reducible (refine HL4.out.mono ?_); rintro e w' ⟨rfl, rfl⟩) | (go_at_call 52; with_reducible (refine HAL.out.mono ?_); rintro e w' ⟨rfl, rfl⟩))
    go_ret2
    exact ⟨Below.refl _ _, .inr ⟨hno.out, rfl⟩⟩
  have d4 : ((v4 : Int) == (z : Int)) = true := by simp; omega
  have d4b : (v4 == z) = true := by simp; omega
  have d4c : decide (v4 = z) = true := decide_eq_true (by omega)
  have d4d : ((v4 : Int) != (z : Int)) = false := by simp; omega
  have d4e : (v4 != z) = false := by simp; omega
  have C4 := Lib.hid c4
  clear c4
  have HA1 := Lib.hid (fun b hb => all_in A t.length cap 0 z 0 z rfl rfl w (by omega) b hb)
  by_cases c5 : z ≤ t.length
  case neg =>
    have hno : Hid (¬ grOk t) := Lib.hid (fun hh => c5 (by rw [HZ.out, ← hgn.out]; exact hh.1.2.2.2.2))
    have HAL := Lib.hid (HA1.out false (decide_eq_false (by omega)))
    go_enter Tryz.func77, Tryz.ntmps77
    go_wp2_with (first | (go_at_call 50; with_reducible (refine HW2.out.mono ?_); rintro e w' ⟨rfl, rfl⟩) | (go_at_call 51; with_reducible (refine HN.out.mono ?_); rintro e w' ⟨rfl, rfl⟩) | (go_at_call 51; with_reducible (refine HL4.out.mono ?_); rintro e w' ⟨rfl, rfl⟩) | (go_at_call 52; with_reducible (refine HAL.out.mono ?_); rintro e w' ⟨rfl, rfl⟩))
    go_ret2
    exact ⟨Below.refl _ _, .inr ⟨hno.out, rfl⟩⟩
  have HAL := Lib.hid (HA1.out true (decide_eq_true (by omega)))
  have hh : Hid (grHead t) := Lib.hid ⟨c1, by rw [← E2.out]; exact C2.out, by rw [hgn.out]; exact c3, by rw [← E4.out, C4.out, hgn.out]; exact HZ.out, by rw [hgn.out, ← HZ.out]; exact c5⟩
  have hzn : 16 + 12 * n ≤ t.length := by have := HZ.out; omega
  clear HA1
  have HL0 := Lib.hid (show grLast t 0 = -1 from rfl)
  go_enter Tryz.func77, Tryz.ntmps77
  go_wp2_with (first | (go_at_call 50; with_reducible (refine HW2.out.mono ?_); rintro e w' ⟨rfl, rfl⟩) | (go_at_call 51; with_reducible (refine HN.out.mono ?_); rintro e w' ⟨rfl, rfl⟩) | (go_at_call 51; with_reducible (refine HL4.out.mono ?_); rintro e w' ⟨rfl, rfl⟩) | (go_at_call 52; with_reducible (refine HAL.out.mono ?_); rintro e w' ⟨rfl, rfl⟩))
  go_loopw [5, 6, 7] (fun v lv iv wr => ∃ (k : Nat) (A' : Option Addr) (c' : Nat), k ≤ n ∧ iv = .int .i64 k ∧ lv = .int .i64 (grLast t k) ∧ v = .slice A' (grAll t k).length c' ∧ wr.ownsRow w.heap.size 93 2 (.slice A' (grAll t k).length c') (grAll t k).length (mpCells (grAll t k)) ∧ Below w.heap.size w wr ∧ ∀ i, i < k → grGood t i) (fun _ _ iv _ => n - (intOf iv).toNat)
  case atStart => exact ⟨0, none, 0, Nat.zero_le _, rfl, by rw [HL0.out], rfl, World.ownsRow_nil _ _ _ _, Below.refl _ _, fun i hi => by omega⟩
  case round =>
    obtain ⟨k, A', c', hk, rfl, rfl, rfl, hown, hbel, hgood⟩ := hrel
    have HO := Lib.hid hown
    have HBL := Lib.hid hbel
    have HG := Lib.hid hgood
    clear hown hbel hgood
    obtain ⟨wo, hwo⟩ : ∃ wo : World, wo = wr := ⟨_, rfl⟩
    rw [← hwo] at HO HBL ⊢
    clear hwo
    by_cases hlt : k < n
    · have HBR := Lib.hid (HB.out.below HBL.out)
      have HF := Lib.hid (l_in HBR.out (16 + 12 * k) (16 + 12 * (k : Int)) (by omega) (by omega))
      have HE := Lib.hid (l_in HBR.out (20 + 12 * k) (20 + 12 * (k : Int)) (by omega) (by omega))
      have HGL := Lib.hid (l_in HBR.out (24 + 12 * k) (24 + 12 * (k : Int)) (by omega) (by omega))
      have e1 : Hid (grFirst t k = numAt t (16 + 12 * k) 4) := Lib.hid rfl
      have e2 : Hid (grEnd t k = numAt t (20 + 12 * k) 4) := Lib.hid rfl
      have e3 : Hid (grGlyph t k = numAt t (24 + 12 * k) 4) := Lib.hid rfl
      have m1 : numAt t (16 + 12 * k) 4 < 4294967296 := numF_lt _
      have m2 : numAt t (20 + 12 * k) 4 < 4294967296 := numF_lt _
      have m3 : numAt t (24 + 12 * k) 4 < 4294967296 := numF_lt _
      generalize numAt t (16 + 12 * k) 4 = v1 at *
      generalize numAt t (20 + 12 * k) 4 = ve at *
      generalize numAt t (24 + 12 * k) 4 = v3 at *
      have hlast : Hid (grLast t (k + 1) = (ve : Int)) := Lib.hid (by unfold grLast; rw [if_neg (by omega), Nat.add_sub_cancel, e2.out])
      have hlr : -1 ≤ grLast t k ∧ grLast t k ≤ 4294967296 := by
        unfold grLast
        split
        · omega
        · have : grEnd t (k - 1) < 4294967296 := numF_lt _
          omega
      have HLT : Hid (grLast t k < (v1 : Int) ↔ (k = 0 ∨ grEnd t (k - 1) < grFirst t k)) := Lib.hid (by
        unfold grLast
        rw [e1.out]
        rcases Nat.eq_zero_or_pos k with h3 | h3
        · rw [if_pos h3]; exact ⟨fun _ => .inl h3, fun _ => by omega⟩
        · rw [if_neg (by omega)]; exact ⟨fun h => .inr (by omega), fun h => by omega⟩)
      have HNO : Hid (¬ grGood t k → ¬ grOk t) := Lib.hid (fun h1 h2 => h1 (h2.2 k (by rw [hgn.out]; exact hlt)))
      generalize grLast t k = lst at *
      by_cases f1 : v1 ≤ ve
      case neg =>
        have hno : Hid (¬ grOk t) := Lib.hid (HNO.out (fun hh => f1 (by rw [← e1.out, ← e2.out]; exact hh.1)))
        have g1 : decide ((ve : Int) < (v1 : Int)) = true := decide_eq_true (by omega)
        have g1b : decide (ve < v1) = true := decide_eq_true (by omega)
        go_wp2_with (first | (go_at_call 51; with_reducible (refine HF.out.mono ?_); rintro e w' ⟨rfl, rfl⟩) | (go_at_call 51; with_reducible (refine HE.out.mono ?_); rintro e w' ⟨rfl, rfl⟩) | (go_at_call 51; with_reducible (refine HGL.out.mono ?_); rintro e w' ⟨rfl, rfl⟩))
        go_ret2
        exact ⟨HBL.out, .inr ⟨hno.out, rfl⟩⟩
      have g1 : decide ((ve : Int) < (v1 : Int)) = false := decide_eq_false (by omega)
      have g1b : decide (ve < v1) = false := decide_eq_false (by omega)
      by_cases f2 : ve ≤ 1114111
      case neg =>
        have hno : Hid (¬ grOk t) := Lib.hid (HNO.out (fun hh => f2 (by rw [← e2.out]; exact hh.2.1)))
        have g2 : decide (1114111 < (ve : Int)) = true := decide_eq_true (by omega)
        have g2b : decide (1114111 < ve) = true := decide_eq_true (by omega)
        go_wp2_with (first | (go_at_call 51; with_reducible (refine HF.out.mono ?_); rintro e w' ⟨rfl, rfl⟩) | (go_at_call 51; with_reducible (refine HE.out.mono ?_); rintro e w' ⟨rfl, rfl⟩) | (go_at_call 51; with_reducible (refine HGL.out.mono ?_); rintro e w' ⟨rfl, rfl⟩))
        go_ret2
        exact ⟨HBL.out, .inr ⟨hno.out, rfl⟩⟩
      have g2 : decide (1114111 < (ve : Int)) = false := decide_eq_false (by omega)
      have g2b : decide (1114111 < ve) = false := decide_eq_false (by omega)
      by_cases f3 : lst < (v1 : Int)
      case neg =>
        have hno : Hid (¬ grOk t) := Lib.hid (HNO.out (fun hh => f3 (by exact HLT.out.2 hh.2.2.1)))
        have g3 : decide ((v1 : Int) ≤ lst) = true := decide_eq_true (by omega)
        go_wp2_with (first | (go_at_call 51; with_reducible (refine HF.out.mono ?_); rintro e w' ⟨rfl, rfl⟩) | (go_at_call 51; with_reducible (refine HE.out.mono ?_); rintro e w' ⟨rfl, rfl⟩) | (go_at_call 51; with_reducible (refine HGL.out.mono ?_); rintro e w' ⟨rfl, rfl⟩))
        go_ret2
        exact ⟨HBL.out, .inr ⟨hno.out, rfl⟩⟩
      have g3 : decide ((v1 : Int) ≤ lst) = false := decide_eq_false (by omega)
      have F3 := Lib.hid (HLT.out.1 f3)
      have H0p := Lib.hid (show grAll t k ++ grPart t k 0 = grAll t k from by simp [grPart])
      go_wp2_with (first | (go_at_call 51; with_reducible (refine HF.out.mono ?_); rintro e w' ⟨rfl, rfl⟩) | (go_at_call 51; with_reducible (refine HE.out.mono ?_); rintro e w' ⟨rfl, rfl⟩) | (go_at_call 51; with_reducible (refine HGL.out.mono ?_); rintro e w' ⟨rfl, rfl⟩))
      go_loopw [5, 11] (fun v cv wr => ∃ (j c : Nat) (A2 : Option Addr) (c2 m : Nat), c ≤ ve + 1 ∧ Hid (c = v1 + j) ∧ cv = .int .i64 (c : Int) ∧ Hid (m = (grAll t k ++ grPart t k j).length) ∧ v = .slice A2 m c2 ∧ wr.ownsRow w.heap.size 93 2 (.slice A2 m c2) m (mpCells (grAll t k ++ grPart t k j)) ∧ Below w.heap.size w wr ∧ (j = 0 ∨ v3 + (j - 1) ≤ 65535)) (fun _ cv _ => ve + 1 - (intOf cv).toNat)
      case atStart => exact ⟨0, v1, A', c', _, by omega, Lib.hid rfl, rfl, Lib.hid rfl, by rw [H0p.out], by rw [H0p.out]; exact HO.out, HBL.out, .inl rfl⟩
      case round =>
        obtain ⟨j, c, A2, c2, m, hj, hc, rfl, hm, rfl, hown, hbel, hgj⟩ := hrel
        have HO2 := Lib.hid hown
        have HB2 := Lib.hid hbel
        have HGJ := Lib.hid hgj
        clear hown hbel hgj
        by_cases hle : c ≤ ve
        · have d5 : decide ((c : Int) ≤ (ve : Int)) = true := decide_eq_true (by omega)
          have d5b : decide (c ≤ ve) = true := decide_eq_true hle
          obtain ⟨g, hg⟩ : ∃ g, g = v3 + j := ⟨_, rfl⟩
          have u2 : (v3 : Int) + (c : Int) - (v1 : Int) = (g : Int) := by have := hc.out; omega
          have hgb : g < 8589934592 := by have := hc.out; omega
          by_cases c6 : g ≤ 65535
          case neg =>
            have hno : Hid (¬ grOk t) := Lib.hid (HNO.out (fun hh => by
              have h4 := hh.2.2.2
              rw [e1.out, e2.out, e3.out] at h4
              have := hc.out
              omega))
            have d6 : decide (65535 < (g : Int)) = true := decide_eq_true (by omega)
            have d6b : decide (65535 < g) = true := decide_eq_true (by omega)
            clear hg
            go_wp2_with fail
            go_ret2
            exact ⟨HB2.out, .inr ⟨hno.out, rfl⟩⟩
          have d6 : decide (65535 < (g : Int)) = false := decide_eq_false (by omega)
          have d6b : decide (65535 < g) = false := decide_eq_false (by omega)
          have HG2 := Lib.hid hg
          have hml : m < 1114112 := by
            rw [hm.out]
            exact grPre_length3 HG.out (by rw [e2.out]; exact f2) F3.out (by rw [e1.out, e2.out, ← hc.out]; exact hle)
          have hnew : Hid (grAll t k ++ grPart t k (j + 1) = grAll t k ++ grPart t k j ++ [(c, g)]) := Lib.hid (by
            rw [grPart_succ, e1.out, e3.out, ← hc.out, ← HG2.out, List.append_assoc])
          have wc : IntKind.i32.wrap (c : Int) = (c : Int) := by simp [IntKind.wrap, IntKind.bits, IntKind.signed]; omega
          have wg : IntKind.u16.wrap (g : Int) = (g : Int) := by simp [IntKind.wrap, IntKind.bits, IntKind.signed]; omega
          have hsz := HB2.out.size
          clear hg
          go_wp2_with (at_builtin; refine wpl_app rfl (.tmp 84) (.tmp 90) 88 rfl w.heap.size 93 Tryz.underlying88 info_map rfl (by decide) (.slice A2 m c2) m (mpCells (grAll t k ++ grPart t k j)) rfl (HO2.out.alloc _) (some ⟨wr.heap.size, 0, none⟩) 1 1 [.int .i32 (c : Int), .int .u16 (g : Int)] rfl rfl (fun h => by cases h) ?c0 ?c4 ?c1 ?c2 ?c3 ?_; rotate_right; intro v' w8 hown hg; obtain ⟨A3, c3, rfl⟩ := own_form hown; have hb3 := below_grown (HB2.out.alloc hsz _) (HO2.out.alloc _) (by simp; omega) hg)
          case c0 =>
            intro ad had j u hu
            cases had
            rw [add_lit, Nat.zero_add, cell_of_blk (heap_alloc_new _ _) j]
            rcases j with _ | _ | j
            · simpa using hu
            · simpa using hu
            · simp at hu
          case c4 =>
            intro u hu
            simp at hu
            rcases hu with rfl | rfl <;> rfl
          case c1 => unfold maxLen; omega
          case c2 => omega
          case c3 => simp; omega
          have hcells : mpCells (grAll t k ++ grPart t k j) ++ [.int .i32 (c : Int), .int .u16 (g : Int)] = mpCells (grAll t k ++ grPart t k (j + 1)) := by rw [hnew.out, mpCells_append _ [(c, g)], mpCells_one]
          rw [hcells] at hown
          have HO3 := Lib.hid hown
          have HB3 := Lib.hid hb3
          clear hown hb3 hg hcells
          go_roundw
          case rel => exact ⟨j + 1, c + 1, A3, c3, m + 1, by omega, Lib.hid (by rw [hc.out]; omega), by go_num, Lib.hid (by rw [hnew.out, List.length_append, ← hm.out]; rfl), rfl, HO3.out, HB3.out, .inr (by have := HG2.out; omega)⟩
          case measure => simp [intOf]; omega
        · have hdone : Hid (grAll t (k + 1) = grAll t k ++ grPart t k j) := Lib.hid (by
            have h1 := hc.out
            rw [grAll_succ, ← grPart_full, e1.out, e2.out, show ve + 1 - v1 = j from by omega])
          have hgd : Hid (grGood t k) := Lib.hid (by
            unfold grGood
            rw [e1.out, e2.out, e3.out]
            have h1 := hc.out
            have h2 := HGJ.out
            have h3 := F3.out
            rw [e1.out] at h3
            exact ⟨f1, f2, h3, by omega⟩)
          have d5 : decide ((c : Int) ≤ (ve : Int)) = false := decide_eq_false (by omega)
          have d5b : decide (c ≤ ve) = false := decide_eq_false hle
          go_wp2_with fail
          go_roundw
          case rel =>
            refine ⟨k + 1, A2, c2, by omega, by go_num, by rw [hlast.out], by rw [hdone.out, ← hm.out], ?_, HB2.out, fun i hi => ?_⟩
            · rw [hdone.out, ← hm.out]; exact HO2.out
            · rcases Nat.lt_or_ge i k with h3 | h3
              · exact HG.out i h3
              · obtain rfl : i = k := by omega
                exact hgd.out
          case measure => simp [intOf]; omega
    · have hkn : k = n := by omega
      subst hkn
      go_wp2_with fail
      go_ret2
      refine ⟨HBL.out, .inl ⟨⟨hh.out, fun i hi => HG.out i (by rw [← hgn.out]; exact hi)⟩, A', c', ?_, ?_⟩⟩
      · rw [hgn.out]; rfl
      · rw [hgn.out]; exact HO.out
end Go.Proofs.YtfbppbelcbbhlaaGreatDoor.Sf
