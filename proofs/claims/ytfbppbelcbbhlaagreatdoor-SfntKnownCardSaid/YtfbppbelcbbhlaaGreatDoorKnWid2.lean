/- sfnt.Widths, walked. -/
import Derived.Test.YtfbppbelcbbhlaaGreatDoorKnWid
import Derived.Deep.CutRange
import Derived.Deep.DeepCutAuto
namespace Go.Proofs.YtfbppbelcbbhlaaGreatDoor.Sf
open Go Go.RowKit

set_option maxRecDepth 100000 in
set_option maxHeartbeats 2000000 in
theorem widths_any (a1 s1 a2 s2 a3 s3 : Nat) (p h x : List Nat) (w : World) (h1 : Rdr w a1 s1 p) (h2 : Rdr w a2 s2 h) (h3 : Rdr w a3 s3 x) :
    Calls Tryz.prog 53 #[.pointer (some ⟨a1, 0, none⟩), .pointer (some ⟨a2, 0, none⟩), .pointer (some ⟨a3, 0, none⟩)] w fun e w' => WidPost 68 w (widF p h x) e w' := by
  have hb1 : Below w.heap.size w (w.alloc (.cells #[.int .i64 0] 28)) := (Below.refl _ _).alloc (Nat.le_refl _) _
  have H1 := Lib.hid (h1.kept (kept_of_below hb1))
  have H2 := Lib.hid (h2.kept (kept_of_below hb1))
  have H3 := Lib.hid (h3.kept (kept_of_below hb1))
  have HE := Lib.hid (heap_alloc_new w (.cells #[.int .i64 0] 28))
  have HB1 := Lib.hid hb1
  clear h1 h2 h3 hb1
  go_enter_defers Tryz.func53, Tryz.ntmps53
  go_wp2_with fail
  generalize hW1 : w.alloc (.cells #[.int .i64 0] 28) = W1 at *
  have HW1 := Lib.hid hW1.symm
  clear hW1
  refine H1.out.good.mono ?_
  rintro e w' ⟨rfl, rfl⟩
  go_upto_region 3 with (first | (go_at_call 68; with_reducible (refine H2.out.good.mono ?_); rintro e w' ⟨rfl, rfl⟩) | (go_at_call 68; with_reducible (refine H3.out.good.mono ?_); rintro e w' ⟨rfl, rfl⟩) | (go_at_call 40; refine (need_ok _).mono ?_; rintro e w' ⟨rfl, rfl⟩))
  have HL1 := Lib.hid H1.out.len
  have HL2 := Lib.hid H2.out.len
  have HL3 := Lib.hid H3.out.len
  by_cases c1 : (p.length = 6 ∧ numAt p 0 4 = 20480) ∨ (p.length = 32 ∧ numAt p 0 4 = 65536)
  case neg =>
    have hno : Hid (¬ widOk p h x) := Lib.hid (fun hh => c1 hh.1)
    by_cases q1 : p.length = 6
    · have q2 : numAt p 0 4 ≠ 20480 := fun e => c1 (.inl ⟨q1, e⟩)
      have HG := Lib.hid (H1.out.longI 0 0 rfl (by omega))
      rw [q1] at HL1
      clear c1
      generalize numAt p 0 4 = v0 at *
      have d1 : ((v0 : Int) == 20480) = false := by simp; omega
      have d1b : (v0 == 20480) = false := by simp; omega
      have d1c : decide (v0 = 20480) = false := decide_eq_false q2
      go_wp2_with (first | (go_at_call 69; refine HL1.out.mono ?_; rintro e w' ⟨rfl, rfl⟩) | (go_at_call 44; refine HG.out.mono ?_; rintro e w' ⟨rfl, rfl⟩) | (go_at_call 40; refine (need_no _).mono ?_; rintro e w' ⟨rfl, rfl⟩))
      exact wid_refuse hno.out rfl rfl rfl rfl HW1.out
    by_cases q3 : p.length = 32
    · have q2 : numAt p 0 4 ≠ 65536 := fun e => c1 (.inr ⟨q3, e⟩)
      have HG := Lib.hid (H1.out.longI 0 0 rfl (by omega))
      rw [q3] at HL1
      clear c1
      generalize numAt p 0 4 = v0 at *
      have d1 : ((v0 : Int) == 65536) = false := by simp; omega
      have d1b : (v0 == 65536) = false := by simp; omega
      have d1c : decide (v0 = 65536) = false := decide_eq_false q2
      go_wp2_with (first | (go_at_call 69; refine HL1.out.mono ?_; rintro e w' ⟨rfl, rfl⟩) | (go_at_call 44; refine HG.out.mono ?_; rintro e w' ⟨rfl, rfl⟩) | (go_at_call 40; refine (need_no _).mono ?_; rintro e w' ⟨rfl, rfl⟩))
      exact wid_refuse hno.out rfl rfl rfl rfl HW1.out
    clear c1
    generalize p.length = lp at HL1 q1 q3
    have d1 : ((lp : Int) == 6) = false := by simp; omega
    have d1b : (lp == 6) = false := by simp; omega
    have d1c : decide (lp = 6) = false := decide_eq_false q1
    have d2 : ((lp : Int) == 32) = false := by simp; omega
    have d2b : (lp == 32) = false := by simp; omega
    have d2c : decide (lp = 32) = false := decide_eq_false q3
    go_wp2_with (first | (go_at_call 69; refine HL1.out.mono ?_; rintro e w' ⟨rfl, rfl⟩) | (go_at_call 40; refine (need_no _).mono ?_; rintro e w' ⟨rfl, rfl⟩))
    exact wid_refuse hno.out rfl rfl rfl rfl HW1.out
  have HG := Lib.hid (H1.out.longI 0 0 rfl (by omega))
  have HN := Lib.hid (H1.out.wordI 4 4 rfl (by omega))
  have hn6 : numAt p 4 2 < 65536 := numAt_two_lt p 4 H1.out.lt (by omega)
  have hwn : Hid (widN p = numAt p 4 2) := Lib.hid (by unfold widN refNum; rw [if_pos (by omega)]; rfl)
  go_cut [10] from 13 to 99 (fun v wx => v = undef ∧ W1 = wx)
  case first =>
    rcases c1 with ⟨q1, q2⟩ | ⟨q1, q2⟩
    · rw [q1] at HL1
      rw [q2] at HG
      go_wp2_with (first | (go_at_call 69; refine HL1.out.mono ?_; rintro e w' ⟨rfl, rfl⟩) | (go_at_call 44; refine HG.out.mono ?_; rintro e w' ⟨rfl, rfl⟩) | (go_at_call 40; refine (need_ok _).mono ?_; rintro e w' ⟨rfl, rfl⟩))
      go_meet
      case rel => exact ⟨rfl, rfl⟩
    · rw [q1] at HL1
      rw [q2] at HG
      go_wp2_with (first | (go_at_call 69; refine HL1.out.mono ?_; rintro e w' ⟨rfl, rfl⟩) | (go_at_call 44; refine HG.out.mono ?_; rintro e w' ⟨rfl, rfl⟩) | (go_at_call 40; refine (need_ok _).mono ?_; rintro e w' ⟨rfl, rfl⟩))
      go_meet
      case rel => exact ⟨rfl, rfl⟩
  case rest =>
  obtain ⟨rfl, rfl⟩ := hcut
  have C1 := Lib.hid c1
  clear c1 HG
  generalize numAt p 4 2 = n at *
  have wn : IntKind.i64.wrap (n : Int) = (n : Int) := IntWalk.i64_in _ (by omega)
  go_upto_region 5 with (go_at_call 42; refine HN.out.mono ?_; rintro e w' ⟨rfl, rfl⟩)
  by_cases c2 : 1 ≤ n
  case neg =>
    have hno : Hid (¬ widOk p h x) := Lib.hid (fun hh => c2 (by rw [← hwn.out]; exact hh.2.1))
    have d2 : decide ((0 : Int) < (n : Int)) = false := decide_eq_false (by omega)
    go_wp2_with (go_at_call 40; refine (need_no _).mono ?_; rintro e w' ⟨rfl, rfl⟩)
    exact wid_refuse hno.out rfl rfl rfl rfl HW1.out
  have d2 : decide ((0 : Int) < (n : Int)) = true := decide_eq_true (by omega)
  have d2b : 0 < n := by omega
  by_cases c3 : h.length = 36
  case neg =>
    have hno : Hid (¬ widOk p h x) := Lib.hid (fun hh => c3 hh.2.2.1)
    generalize h.length = lh at HL2 c3
    have d3 : ((lh : Int) == 36) = false := by simp; omega
    have d3b : (lh == 36) = false := by simp; omega
    have d3c : decide (lh = 36) = false := decide_eq_false c3
    go_wp2_with (first | (go_at_call 69; refine HL2.out.mono ?_; rintro e w' ⟨rfl, rfl⟩) | (go_at_call 40; refine (need_no _).mono ?_; rintro e w' ⟨rfl, rfl⟩))
    exact wid_refuse hno.out rfl rfl rfl rfl HW1.out
  have HG := Lib.hid (H2.out.longI 0 0 rfl (by omega))
  have HM := Lib.hid (H2.out.wordI 34 34 rfl (by omega))
  have HI4 := Lib.hid (fun W (hW : Below W1.heap.size W1 W) => (H2.out.kept (kept_of_below hW)).intI 4 4 rfl (by omega))
  have HI6 := Lib.hid (fun W (hW : Below W1.heap.size W1 W) => (H2.out.kept (kept_of_below hW)).intI 6 6 rfl (by omega))
  have hm6 : numAt h 34 2 < 65536 := numAt_two_lt h 34 H2.out.lt (by omega)
  have hwm : Hid (widM h = numAt h 34 2) := Lib.hid (by unfold widM refNum; rw [if_pos (by omega)]; rfl)
  rw [c3] at HL2
  by_cases c4 : numAt h 0 4 = 65536
  case neg =>
    have hno : Hid (¬ widOk p h x) := Lib.hid (fun hh => c4 hh.2.2.2.1)
    generalize numAt h 0 4 = v0 at HG c4
    have d3 : ((v0 : Int) == 65536) = false := by simp; omega
    have d3b : (v0 == 65536) = false := by simp; omega
    have d3c : decide (v0 = 65536) = false := decide_eq_false c4
    go_wp2_with (first | (go_at_call 69; refine HL2.out.mono ?_; rintro e w' ⟨rfl, rfl⟩) | (go_at_call 44; refine HG.out.mono ?_; rintro e w' ⟨rfl, rfl⟩) | (go_at_call 40; refine (need_no _).mono ?_; rintro e w' ⟨rfl, rfl⟩))
    exact wid_refuse hno.out rfl rfl rfl rfl HW1.out
  rw [c4] at HG
  have C3 := Lib.hid c3
  have C4 := Lib.hid c4
  clear c3 c4
  generalize numAt h 34 2 = m at *
  have wm : IntKind.i64.wrap (m : Int) = (m : Int) := IntWalk.i64_in _ (by omega)
  go_upto_region 7 with (first | (go_at_call 69; refine HL2.out.mono ?_; rintro e w' ⟨rfl, rfl⟩) | (go_at_call 44; refine HG.out.mono ?_; rintro e w' ⟨rfl, rfl⟩) | (go_at_call 40; refine (need_ok _).mono ?_; rintro e w' ⟨rfl, rfl⟩) | (go_at_call 42; refine HM.out.mono ?_; rintro e w' ⟨rfl, rfl⟩))
  by_cases c5 : 1 ≤ m
  case neg =>
    have hno : Hid (¬ widOk p h x) := Lib.hid (fun hh => c5 (by rw [← hwm.out]; exact hh.2.2.2.2.1))
    have d3 : decide ((1 : Int) ≤ (m : Int)) = false := decide_eq_false (by omega)
    go_wp2_with (go_at_call 40; refine (need_no _).mono ?_; rintro e w' ⟨rfl, rfl⟩)
    exact wid_refuse hno.out rfl rfl rfl rfl HW1.out
  have d5 : decide ((1 : Int) ≤ (m : Int)) = true := decide_eq_true (by omega)
  by_cases c6 : m ≤ n
  case neg =>
    have hno : Hid (¬ widOk p h x) := Lib.hid (fun hh => c6 (by rw [← hwm.out, ← hwn.out]; exact hh.2.2.2.2.2.1))
    have d3 : decide ((m : Int) ≤ (n : Int)) = false := decide_eq_false (by omega)
    go_wp2_with (go_at_call 40; refine (need_no _).mono ?_; rintro e w' ⟨rfl, rfl⟩)
    exact wid_refuse hno.out rfl rfl rfl rfl HW1.out
  have d6 : decide ((m : Int) ≤ (n : Int)) = true := decide_eq_true (by omega)
  have w1 : IntKind.i64.wrap (4 * (m : Int)) = 4 * (m : Int) := IntWalk.i64_in _ (by omega)
  have w2 : IntKind.i64.wrap ((n : Int) - (m : Int)) = (n : Int) - (m : Int) := IntWalk.i64_in _ (by omega)
  have w3 : IntKind.i64.wrap (2 * ((n : Int) - (m : Int))) = 2 * ((n : Int) - (m : Int)) := IntWalk.i64_in _ (by omega)
  have w4 : IntKind.i64.wrap (4 * (m : Int) + 2 * ((n : Int) - (m : Int))) = ((4 * m + 2 * (n - m) : Nat) : Int) := by rw [IntWalk.i64_in _ (by omega)]; omega
  by_cases c7 : x.length = 4 * m + 2 * (n - m)
  case neg =>
    have hno : Hid (¬ widOk p h x) := Lib.hid (fun hh => c7 (by rw [← hwm.out, ← hwn.out]; exact hh.2.2.2.2.2.2))
    generalize x.length = lx at HL3 c7
    generalize 4 * m + 2 * (n - m) = lz at *
    have d3 : ((lx : Int) == (lz : Int)) = false := by simp; omega
    have d3b : (lx == lz) = false := by simp; omega
    have d3c : decide (lx = lz) = false := decide_eq_false c7
    go_wp2_with (first | (go_at_call 69; refine HL3.out.mono ?_; rintro e w' ⟨rfl, rfl⟩) | (go_at_call 40; refine (need_no _).mono ?_; rintro e w' ⟨rfl, rfl⟩))
    exact wid_refuse hno.out rfl rfl rfl rfl HW1.out
  rw [c7] at HL3
  have C7 := Lib.hid c7
  clear c7
  go_wp2_with (first | (go_at_call 69; refine HL3.out.mono ?_; rintro e w' ⟨rfl, rfl⟩) | (go_at_call 40; refine (need_ok _).mono ?_; rintro e w' ⟨rfl, rfl⟩))
  have HX := Lib.hid (fun W (hW : Below W1.heap.size W1 W) (j : Nat) (i : Int) (hi : i = j) (hj : j + 2 ≤ x.length) => (H3.out.kept (kept_of_below hW)).wordI j i hi hj)
  clear HL1 HL2 HL3 HG HM HN d2 d5 d6 w1 w2 w3 w4 wn wm
  go_loopw [6, 86] (fun v i wr => ∃ (k : Nat) (A' : Option Addr) (c' : Nat), k ≤ n ∧ i = .int .i64 k ∧ v = .slice A' k c' ∧ wr.ownsRow W1.heap.size 68 1 (.slice A' k c') k (u16s (widRow x m k)) ∧ Below W1.heap.size W1 wr) (fun _ i _ => n - (intOf i).toNat)
  case atStart => exact ⟨0, none, 0, by omega, rfl, rfl, World.ownsRow_nil _ _ _ _, Below.refl _ _⟩
  case round =>
    obtain ⟨k, A', c', hk, rfl, rfl, hown, hbel⟩ := hrel
    have HO := Lib.hid hown
    have HB := Lib.hid hbel
    clear hown hbel
    by_cases hlt : k < n
    · have w5 : IntKind.i64.wrap ((m : Int) - 1) = ((m - 1 : Nat) : Int) := by rw [IntWalk.i64_in _ (by omega)]; omega
      have hj : min k (m - 1) ≤ m - 1 := Nat.min_le_right _ _
      have w6 : IntKind.i64.wrap (4 * (min (k : Int) ((m - 1 : Nat) : Int))) = ((4 * min k (m - 1) : Nat) : Int) := by rw [IntWalk.i64_in _ (by omega)]; omega
      have HR := Lib.hid (HX.out wr HB.out (4 * min k (m - 1)) _ rfl (by rw [C7.out]; omega))
      have hsz := HB.out.size
      generalize hnum : numAt x (4 * min k (m - 1)) 2 = xv at *
      have HNUM := Lib.hid hnum
      clear hnum
      go_wp2_with (first | (go_at_call 42; refine HR.out.mono ?_; rintro e w' ⟨rfl, rfl⟩) | (at_builtin; refine wpl_app rfl (.tmp 89) (.tmp 97) 79 rfl W1.heap.size 68 Tryz.underlying79 info_u16 rfl (by decide) (.slice A' k c') k (u16s (widRow x m k)) rfl (HO.out.alloc _) (some ⟨wr.heap.size, 0, none⟩) 1 1 [.int .u16 xv] rfl rfl (fun h => by cases h) ?c0 ?c4 ?c1 ?c2 ?c3 ?_; rotate_right; intro v' w8 hown hg; obtain ⟨A2, c2, rfl⟩ := own_form hown; have hb2 := below_grown (HB.out.alloc hsz _) (HO.out.alloc _) (by simp; omega) hg))
      case c0 =>
        intro ad had j u hu
        cases had
        match j, hu with
        | 0, hu =>
          cases hu
          exact cell_of_blk (heap_alloc_new _ _) 0
      case c4 => intro u hu; simp at hu; subst hu; rfl
      case c1 => unfold maxLen; omega
      case c2 => omega
      case c3 => simp; omega
      have hone : u16s (widRow x m k) ++ [.int .u16 (xv : Int)] = u16s (widRow x m (k + 1)) := by rw [widRow_succ, HNUM.out]; simp [u16s]
      rw [hone] at hown
      have HO2 := Lib.hid hown
      have HB2 := Lib.hid hb2
      clear hown hb2 hg hone
      go_roundw
      case rel => exact ⟨k + 1, A2, c2, by omega, by go_num, rfl, HO2.out, HB2.out⟩
      case measure => simp [intOf]; omega
    · have hkn : n = k := by omega
      subst hkn
      have heW : wr.heap[w.heap.size]? = some (.cells #[.int .i64 0] 28 (0, 0)) := (HB.out.block _ (lt_of_heap HE.out)).trans HE.out
      have hce := blk_cell heW
      have hfe := blk_frozen heW
      have HEW := Lib.hid heW
      clear heW
      have HJ4 := Lib.hid (HI4.out wr HB.out)
      have HJ6 := Lib.hid (HI6.out wr HB.out)
      go_wp2_with (first | (go_at_call 70; with_reducible (refine HJ4.out.mono ?_); rintro e w' ⟨rfl, rfl⟩) | (go_at_call 70; with_reducible (refine HJ6.out.mono ?_); rintro e w' ⟨rfl, rfl⟩))
      have hset : Below wr.heap.size wr (wr.setCell ⟨w.heap.size, 0, none⟩ (.int .i64 0)) := ⟨rfl, rfl, rfl, by simp, fun j hj => by
        by_cases e : j = w.heap.size
        · subst e; rw [blk_set HEW.out, HEW.out]
        · rw [heap_setCell_other _ _ _ _ e]⟩
      refine wid_done (v6 := .slice A' n c') (v7 := .int .i16 (sgn16 (numAt h 4 2))) (v8 := .int .i16 (sgn16 (numAt h 6 2))) rfl rfl rfl rfl (blk_set HEW.out (.int .i64 0)) ?_
      show WidPost _ w _ _ _
      have hok : widOk p h x := ⟨C1.out, by rw [hwn.out]; exact c2, C3.out, C4.out, by rw [hwm.out]; exact c5, by rw [hwm.out, hwn.out]; exact c6, by rw [hwm.out, hwn.out]; exact C7.out⟩
      unfold widF
      rw [if_pos hok, hwn.out, hwm.out]
      have hl := widRow_length x m n
      refine ⟨A', c', by rw [hl], ?_, ?_⟩
      · rw [hl]
        exact own_lower (own_below HO.out hset) (by rw [HW1.out]; simp)
      · exact (HB1.out.trans (HB.out.mono HB1.out.size)).trans (hset.mono (by have := HB1.out.size; have := HB.out.size; omega))
end Go.Proofs.YtfbppbelcbbhlaaGreatDoor.Sf
