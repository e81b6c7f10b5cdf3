/- The reference's tables of widths. -/
import Derived.Test.YtfbppbelcbbhlaaGreatDoorKnWid
import Derived.Deep.CutRange
import Derived.Deep.DeepCutAuto
namespace Go.Proofs.YtfbppbelcbbhlaaGreatDoor.Sf
open Go Go.RowKit

theorem results_tmp4 {fn : Func} {t u v x : Tmp} (h : fn.results = #[.tmp t, .tmp u, .tmp v, .tmp x]) (tmps : Array Value) (P : Program) (w : World) :
    (results fn tmps).run P w = .ok (.tuple #[tmps.getD t undef, tmps.getD u undef, tmps.getD v undef, tmps.getD x undef]) w := by
  simp [results, h]
set_option maxRecDepth 100000 in
set_option maxHeartbeats 2000000 in
theorem widths_ref (A B C : Option Addr) (ca cb cc : Nat) (p h x : List Nat) (w : World) (h1 : Byt w A ca p) (h2 : Byt w B cb h) (h3 : Byt w C cc x) :
    Calls Tryz.prog 54 #[.slice A p.length ca, .slice B h.length cb, .slice C x.length cc] w fun e w' => WidPost 68 w (widF p h x) e w' := by
  have H1 := Lib.hid h1
  have H2 := Lib.hid h2
  have H3 := Lib.hid h3
  have m1 := h1.le
  have m2 := h2.le
  have m3 := h3.le
  have k1 := h1.max
  have k2 := h2.max
  have k3 := h3.max
  clear h1 h2 h3
  have HL1 := Lib.hid (l_ref A ca p 0 w H1.out)
  have HL2 := Lib.hid (l_ref B cb h 0 w H2.out)
  have HW1 := Lib.hid (w_ref A ca p 4 w H1.out)
  have HW2 := Lib.hid (w_ref B cb h 34 w H2.out)
  have hn6 : widN p < 65536 := refNum_two_lt H1.out _
  have hm6 : widM h < 65536 := refNum_two_lt H2.out _
  rw [show refNum p 4 2 = widN p from rfl] at HW1
  rw [show refNum h 34 2 = widM h from rfl] at HW2
  have hv1 : Hid (4 ≤ p.length → refNum p 0 4 = numAt p 0 4) := Lib.hid (fun h4 => by unfold refNum; rw [if_pos (by omega)]; rfl)
  have hv2 : Hid (4 ≤ h.length → refNum h 0 4 = numAt h 0 4) := Lib.hid (fun h4 => by unfold refNum; rw [if_pos (by omega)]; rfl)
  obtain ⟨lp, hlp⟩ : ∃ lp, lp = p.length := ⟨_, rfl⟩
  obtain ⟨lh, hlh⟩ : ∃ lh, lh = h.length := ⟨_, rfl⟩
  have HLP := Lib.hid hlp
  have HLH := Lib.hid hlh
  rw [← hlp] at HL1 HW1 m1 hv1 ⊢
  rw [← hlh] at HL2 HW2 m2 hv2 ⊢
  clear hlp hlh
  go_enter Tryz.func54, Tryz.ntmps54
  go_upto_region 1 with (fail)
  go_cut [10] from 16 to 92 (fun v wx => v = .bool (decide (lp = 6 ∧ numAt p 0 4 = 20480)) ∧ w = wx)
  case first =>
    by_cases q1 : lp = 6
    · have hv : refNum p 0 4 = numAt p 0 4 := hv1.out (by omega)
      subst q1
      rw [hv] at HL1
      obtain ⟨v0, hv0⟩ : ∃ v0, v0 = numAt p 0 4 := ⟨_, rfl⟩
      obtain ⟨bb, hbb⟩ : ∃ bb, bb = decide (v0 = 20480) := ⟨_, rfl⟩
      have HQ : Hid (decide (6 = 6 ∧ numAt p 0 4 = 20480) = bb) := Lib.hid (by rw [hbb, hv0, decide_eq_decide]; exact ⟨fun h => h.2, fun h => ⟨rfl, h⟩⟩)
      rw [← hv0] at HL1
      have d2 : ((v0 : Int) == 20480) = bb := by rw [hbb, Bool.eq_iff_iff]; simp; omega
      have d2b : (v0 == 20480) = bb := by rw [hbb, Bool.eq_iff_iff]; simp
      have d2c := hbb.symm
      clear hbb hv0 hv
      go_wp2_with (go_at_call 51; refine HL1.out.mono ?_; rintro e w' ⟨rfl, rfl⟩)
      go_meet
      case rel => exact ⟨by rw [HQ.out], rfl⟩
    · have HQ : Hid (decide (lp = 6 ∧ numAt p 0 4 = 20480) = false) := Lib.hid (decide_eq_false (fun h => q1 h.1))
      have d1 : ((lp : Int) == 6) = false := by simp; omega
      have d1b : (lp == 6) = false := by simp; omega
      have d1c : decide (lp = 6) = false := decide_eq_false q1
      go_wp2_with fail
      go_meet
      case rel => exact ⟨by rw [HQ.out], rfl⟩
  case rest =>
  obtain ⟨rfl, rfl⟩ := hcut
  obtain ⟨sh, hsh⟩ : ∃ sh, decide (lp = 6 ∧ numAt p 0 4 = 20480) = sh := ⟨_, rfl⟩
  rw [hsh]
  have HSH := Lib.hid hsh
  clear hsh
  go_upto_region 2 with (fail)
  go_cut [11] from 16 to 92 (fun v wx => v = .bool (decide (lp = 32 ∧ numAt p 0 4 = 65536)) ∧ w = wx)
  case first =>
    by_cases q1 : lp = 32
    · have hv : refNum p 0 4 = numAt p 0 4 := hv1.out (by omega)
      subst q1
      rw [hv] at HL1
      obtain ⟨v0, hv0⟩ : ∃ v0, v0 = numAt p 0 4 := ⟨_, rfl⟩
      obtain ⟨bb, hbb⟩ : ∃ bb, bb = decide (v0 = 65536) := ⟨_, rfl⟩
      have HQ : Hid (decide (32 = 32 ∧ numAt p 0 4 = 65536) = bb) := Lib.hid (by rw [hbb, hv0, decide_eq_decide]; exact ⟨fun h => h.2, fun h => ⟨rfl, h⟩⟩)
      rw [← hv0] at HL1
      have d2 : ((v0 : Int) == 65536) = bb := by rw [hbb, Bool.eq_iff_iff]; simp; omega
      have d2b : (v0 == 65536) = bb := by rw [hbb, Bool.eq_iff_iff]; simp
      have d2c := hbb.symm
      clear hbb hv0 hv
      go_wp2_with (go_at_call 51; refine HL1.out.mono ?_; rintro e w' ⟨rfl, rfl⟩)
      go_meet
      case rel => exact ⟨by rw [HQ.out], rfl⟩
    · have HQ : Hid (decide (lp = 32 ∧ numAt p 0 4 = 65536) = false) := Lib.hid (decide_eq_false (fun h => q1 h.1))
      have d1 : ((lp : Int) == 32) = false := by simp; omega
      have d1b : (lp == 32) = false := by simp; omega
      have d1c : decide (lp = 32) = false := decide_eq_false q1
      go_wp2_with fail
      go_meet
      case rel => exact ⟨by rw [HQ.out], rfl⟩
  case rest =>
  obtain ⟨rfl, rfl⟩ := hcut
  obtain ⟨lo, hlo⟩ : ∃ lo, decide (lp = 32 ∧ numAt p 0 4 = 65536) = lo := ⟨_, rfl⟩
  rw [hlo]
  have HLO := Lib.hid hlo
  clear hlo
  obtain ⟨n, hn⟩ : ∃ n, n = widN p := ⟨_, rfl⟩
  obtain ⟨m, hm⟩ : ∃ m, m = widM h := ⟨_, rfl⟩
  have HN := Lib.hid hn
  have HM := Lib.hid hm
  rw [← hn] at HW1 hn6
  rw [← hm] at HW2 hm6
  clear hn hm
  go_upto_region 4 with (first | (go_at_call 50; with_reducible (refine HW1.out.mono ?_); rintro e w' ⟨rfl, rfl⟩) | (go_at_call 50; with_reducible (refine HW2.out.mono ?_); rintro e w' ⟨rfl, rfl⟩))
  have hfin : ∀ (_ : ¬ widOk p h x), WidPost 68 w (widF p h x) (.returned (.tuple #[.slice none 0 0, .int .i16 0, .int .i16 0, .int .i64 50])) w := fun hno => by
    unfold widF
    rw [if_neg hno]
    exact ⟨rfl, Below.refl _ _⟩
  have HFIN := Lib.hid hfin
  clear hfin
  by_cases c1 : (lp = 6 ∧ numAt p 0 4 = 20480) ∨ (lp = 32 ∧ numAt p 0 4 = 65536)
  case neg =>
    have hno : Hid (¬ widOk p h x) := Lib.hid (fun hh => c1 (by rw [HLP.out]; exact hh.1))
    obtain rfl : sh = false := by rw [← HSH.out]; exact decide_eq_false (fun e => c1 (.inl e))
    obtain rfl : lo = false := by rw [← HLO.out]; exact decide_eq_false (fun e => c1 (.inr e))
    clear c1
    go_wp2_with fail
    (try simp only [Exit.inBlock, Exit.then])
    refine bodyPost_ret (results_tmp4 rfl _ _ _) rfl ?_
    exact HFIN.out hno.out
  have hsl : sh = true ∨ (sh = false ∧ lo = true) := by
    rw [← HSH.out, ← HLO.out]
    rcases c1 with e | e
    · exact .inl (decide_eq_true e)
    · exact .inr ⟨decide_eq_false (fun e2 => by omega), decide_eq_true e⟩
  have C1 := Lib.hid c1
  clear c1
  by_cases c2 : 1 ≤ n
  case neg =>
    have hno : Hid (¬ widOk p h x) := Lib.hid (fun hh => c2 (by rw [HN.out]; exact hh.2.1))
    have d2 : decide ((n : Int) < 1) = true := decide_eq_true (by omega)
    rcases hsl with rfl | ⟨rfl, rfl⟩ <;> (go_wp2_with fail; (try simp only [Exit.inBlock, Exit.then]); refine bodyPost_ret (results_tmp4 rfl _ _ _) rfl ?_; exact HFIN.out hno.out)
  have d2 : decide ((n : Int) < 1) = false := decide_eq_false (by omega)
  by_cases c3 : lh = 36
  case neg =>
    have hno : Hid (¬ widOk p h x) := Lib.hid (fun hh => c3 (by rw [HLH.out]; exact hh.2.2.1))
    have d3 : ((lh : Int) == 36) = false := by simp; omega
    have d3b : (lh == 36) = false := by simp; omega
    have d3c : decide (lh = 36) = false := decide_eq_false c3
    rcases hsl with rfl | ⟨rfl, rfl⟩ <;> (go_wp2_with fail; (try simp only [Exit.inBlock, Exit.then]); refine bodyPost_ret (results_tmp4 rfl _ _ _) rfl ?_; exact HFIN.out hno.out)
  have HS := Lib.hid hsl
  clear hsl
  rw [hv2.out (by omega)] at HL2
  subst c3
  obtain ⟨v0, hv0⟩ : ∃ v0, v0 = numAt h 0 4 := ⟨_, rfl⟩
  have HV0 := Lib.hid hv0
  rw [← hv0] at HL2
  clear hv0
  by_cases c4 : v0 = 65536
  case neg =>
    have hno : Hid (¬ widOk p h x) := Lib.hid (fun hh => c4 (by rw [HV0.out]; exact hh.2.2.2.1))
    have d3 : ((v0 : Int) == 65536) = false := by simp; omega
    have d3b : (v0 == 65536) = false := by simp; omega
    have d3c : decide (v0 = 65536) = false := decide_eq_false c4
    rcases HS.out with rfl | ⟨rfl, rfl⟩ <;> (go_wp2_with (go_at_call 51; refine HL2.out.mono ?_; rintro e w' ⟨rfl, rfl⟩); (try simp only [Exit.inBlock, Exit.then]); refine bodyPost_ret (results_tmp4 rfl _ _ _) rfl ?_; exact HFIN.out hno.out)
  subst c4
  by_cases c5 : 1 ≤ m
  case neg =>
    have hno : Hid (¬ widOk p h x) := Lib.hid (fun hh => c5 (by rw [HM.out]; exact hh.2.2.2.2.1))
    have d3 : decide ((m : Int) < 1) = true := decide_eq_true (by omega)
    rcases HS.out with rfl | ⟨rfl, rfl⟩ <;> (go_wp2_with (go_at_call 51; refine HL2.out.mono ?_; rintro e w' ⟨rfl, rfl⟩); (try simp only [Exit.inBlock, Exit.then]); refine bodyPost_ret (results_tmp4 rfl _ _ _) rfl ?_; exact HFIN.out hno.out)
  have d5 : decide ((m : Int) < 1) = false := decide_eq_false (by omega)
  by_cases c6 : m ≤ n
  case neg =>
    have hno : Hid (¬ widOk p h x) := Lib.hid (fun hh => c6 (by rw [HM.out, HN.out]; exact hh.2.2.2.2.2.1))
    have d3 : decide ((n : Int) < (m : Int)) = true := decide_eq_true (by omega)
    rcases HS.out with rfl | ⟨rfl, rfl⟩ <;> (go_wp2_with (go_at_call 51; refine HL2.out.mono ?_; rintro e w' ⟨rfl, rfl⟩); (try simp only [Exit.inBlock, Exit.then]); refine bodyPost_ret (results_tmp4 rfl _ _ _) rfl ?_; exact HFIN.out hno.out)
  have d6 : decide ((n : Int) < (m : Int)) = false := decide_eq_false (by omega)
  have d6b : decide (n < m) = false := decide_eq_false (by omega)
  have w1 : IntKind.i64.wrap (4 * (m : Int)) = 4 * (m : Int) := IntWalk.i64_in _ (by omega)
  have w2 : IntKind.i64.wrap ((n : Int) - (m : Int)) = (n : Int) - (m : Int) := IntWalk.i64_in _ (by omega)
  have w3 : IntKind.i64.wrap (2 * ((n : Int) - (m : Int))) = 2 * ((n : Int) - (m : Int)) := IntWalk.i64_in _ (by omega)
  have w4 : IntKind.i64.wrap (4 * (m : Int) + 2 * ((n : Int) - (m : Int))) = ((4 * m + 2 * (n - m) : Nat) : Int) := by rw [IntWalk.i64_in _ (by omega)]; omega
  obtain ⟨lx, hlx⟩ : ∃ lx, lx = x.length := ⟨_, rfl⟩
  obtain ⟨lz, hlz⟩ : ∃ lz, lz = 4 * m + 2 * (n - m) := ⟨_, rfl⟩
  have HLX := Lib.hid hlx
  have HLZ := Lib.hid hlz
  rw [← hlx] at m3 ⊢
  rw [← hlz] at w4
  clear hlx hlz
  by_cases c7 : lx = lz
  case neg =>
    have hno : Hid (¬ widOk p h x) := Lib.hid (fun hh => c7 (by rw [HLX.out, HLZ.out, HM.out, HN.out]; exact hh.2.2.2.2.2.2))
    have d3 : ((lx : Int) == (lz : Int)) = false := by simp; omega
    have d3b : (lx == lz) = false := by simp; omega
    have d3c : decide (lx = lz) = false := decide_eq_false c7
    rcases HS.out with rfl | ⟨rfl, rfl⟩ <;> (go_wp2_with (go_at_call 51; refine HL2.out.mono ?_; rintro e w' ⟨rfl, rfl⟩); (try simp only [Exit.inBlock, Exit.then]); refine bodyPost_ret (results_tmp4 rfl _ _ _) rfl ?_; exact HFIN.out hno.out)
  subst c7
  go_cut [76] from 16 to 92 (fun v wx => v = .bool false ∧ w = wx)
  case first =>
    rcases HS.out with rfl | ⟨rfl, rfl⟩ <;> (go_wp2_with (go_at_call 51; refine HL2.out.mono ?_; rintro e w' ⟨rfl, rfl⟩); go_meet; exact ⟨rfl, rfl⟩)
  case rest =>
  obtain ⟨rfl, rfl⟩ := hcut
  have hs4 := fun W (hW : Below w.heap.size w W) => s_ref B cb h 4 W (H2.out.below hW)
  have hs6 := fun W (hW : Below w.heap.size w W) => s_ref B cb h 6 W (H2.out.below hW)
  have hr4 : refNum h 4 2 = numAt h 4 2 := by unfold refNum; rw [if_pos (by rw [← HLH.out]; decide)]; rfl
  have hr6 : refNum h 6 2 = numAt h 6 2 := by unfold refNum; rw [if_pos (by rw [← HLH.out]; decide)]; rfl
  rw [← HLH.out, hr4] at hs4
  rw [← HLH.out, hr6] at hs6
  have hz4 := sgn16_range (numAt h 4 2) (numAt_two_lt h 4 H2.out.lt (by rw [← HLH.out]; decide))
  have hz6 := sgn16_range (numAt h 6 2) (numAt_two_lt h 6 H2.out.lt (by rw [← HLH.out]; decide))
  obtain ⟨z4, hq4⟩ : ∃ z4, z4 = sgn16 (numAt h 4 2) := ⟨_, rfl⟩
  obtain ⟨z6, hq6⟩ : ∃ z6, z6 = sgn16 (numAt h 6 2) := ⟨_, rfl⟩
  rw [← hq4] at hs4 hz4
  rw [← hq6] at hs6 hz6
  have wz4 : IntKind.i16.wrap z4 = z4 := by simp [IntKind.wrap, IntKind.bits, IntKind.signed]; omega
  have wz6 : IntKind.i16.wrap z6 = z6 := by simp [IntKind.wrap, IntKind.bits, IntKind.signed]; omega
  have HS4 := Lib.hid hs4
  have HS6 := Lib.hid hs6
  have HQ4 := Lib.hid hq4
  have HQ6 := Lib.hid hq6
  have HX := Lib.hid (fun W (hW : Below w.heap.size w W) (i : Int) => w_ref C cc x i W (H3.out.below hW))
  rw [← HLX.out] at HX
  clear HL1 HL2 HW1 HW2 d2 d5 d6 d6b w1 w2 w3 w4 hs4 hs6 hq4 hq6 hr4 hr6 hz4 hz6
  go_wp2_with fail
  go_loopw [14, 15] (fun v i wr => ∃ (k : Nat) (A' : Option Addr) (c' : Nat), k ≤ n ∧ i = .int .i64 k ∧ v = .slice A' k c' ∧ wr.ownsRow w.heap.size 68 1 (.slice A' k c') k (u16s (widRow x m k)) ∧ Below w.heap.size w wr) (fun _ i _ => n - (intOf i).toNat)
  case atStart => exact ⟨0, none, 0, by omega, rfl, rfl, World.ownsRow_nil _ _ _ _, Below.refl _ _⟩
  case round =>
    obtain ⟨k, A', c', hk, rfl, rfl, hown, hbel⟩ := hrel
    have HO := Lib.hid hown
    have HB := Lib.hid hbel
    clear hown hbel
    by_cases hlt : k < n
    · have w5 : IntKind.i64.wrap ((m : Int) - 1) = ((m - 1 : Nat) : Int) := by rw [IntWalk.i64_in _ (by omega)]; omega
      have w7 : IntKind.i64.wrap ((k : Int) + 1) = ((k + 1 : Nat) : Int) := by rw [IntWalk.i64_in _ (by omega)]; omega
      have hj : min k (m - 1) ≤ m - 1 := Nat.min_le_right _ _
      have w6 : IntKind.i64.wrap (4 * (min (k : Int) ((m - 1 : Nat) : Int))) = ((4 * min k (m - 1) : Nat) : Int) := by rw [IntWalk.i64_in _ (by omega)]; omega
      have hrn : refNum x ((4 * min k (m - 1) : Nat) : Int) 2 = numAt x (4 * min k (m - 1)) 2 := by
        unfold refNum
        rw [if_pos (by rw [← HLX.out, HLZ.out]; omega), Int.toNat_natCast]
      have hr := HX.out wr HB.out ((4 * min k (m - 1) : Nat) : Int)
      rw [hrn] at hr
      have hxv : numAt x (4 * min k (m - 1)) 2 < 65536 := numAt_two_lt x _ H3.out.lt (by rw [← HLX.out, HLZ.out]; omega)
      obtain ⟨xv, hnum⟩ : ∃ xv, xv = numAt x (4 * min k (m - 1)) 2 := ⟨_, rfl⟩
      rw [← hnum] at hr hxv
      have HR := Lib.hid hr
      have HNUM := Lib.hid hnum
      have wxv : IntKind.u16.wrap (xv : Int) = (xv : Int) := by simp [IntKind.wrap, IntKind.bits, IntKind.signed]; omega
      have hsz := HB.out.size
      clear hr hrn hnum
      go_wp2_with (first | (go_at_call 50; refine HR.out.mono ?_; rintro e w' ⟨rfl, rfl⟩) | (at_builtin; refine wpl_app rfl (.tmp 82) (.tmp 91) 79 rfl w.heap.size 68 Tryz.underlying79 info_u16 rfl (by decide) (.slice A' k c') k (u16s (widRow x m k)) rfl (HO.out.alloc _) (some ⟨wr.heap.size, 0, none⟩) 1 1 [.int .u16 xv] rfl rfl (fun h => by cases h) ?c0 ?c4 ?c1 ?c2 ?c3 ?_; rotate_right; intro v' w8 hown hg; obtain ⟨A2, c2, rfl⟩ := own_form hown; have hb2 := below_grown (HB.out.alloc hsz _) (HO.out.alloc _) (by simp; omega) hg))
      case c0 =>
        intro ad had j u hu
        cases had
        match j, hu with
        | 0, hu =>
          cases hu
          exact cell_of_blk (heap_alloc_new _ _) 0
      case c4 => intro u hu; simp at hu; subst hu; rfl
      case c1 => unfold maxLen; omega
      case c2 => omega
      case c3 => simp; omega
      have hone : u16s (widRow x m k) ++ [.int .u16 (xv : Int)] = u16s (widRow x m (k + 1)) := by rw [widRow_succ, ← HNUM.out]; simp [u16s]
      rw [hone] at hown
      have HO2 := Lib.hid hown
      have HB2 := Lib.hid hb2
      clear hown hb2 hg hone
      go_roundw
      case rel => exact ⟨k + 1, A2, c2, by omega, by go_num, rfl, HO2.out, HB2.out⟩
      case measure => simp [intOf]; omega
    · have hkn : n = k := by omega
      subst hkn
      go_wp2_with (first | (go_at_call 71; with_reducible (refine (HS4.out _ HB.out).mono ?_); rintro e w' ⟨rfl, rfl⟩) | (go_at_call 71; with_reducible (refine (HS6.out _ HB.out).mono ?_); rintro e w' ⟨rfl, rfl⟩))
      (try simp only [Exit.inBlock, Exit.then])
      refine bodyPost_ret (results_tmp4 rfl _ _ _) rfl ?_
      show WidPost _ w _ _ _
      have hok : widOk p h x := ⟨by rw [← HLP.out]; exact C1.out, by rw [← HN.out]; exact c2, by rw [← HLH.out], HV0.out.symm, by rw [← HM.out]; exact c5, by rw [← HM.out, ← HN.out]; exact c6, by rw [← HM.out, ← HN.out, ← HLX.out]; exact HLZ.out⟩
      unfold widF
      rw [if_pos hok, ← HN.out, ← HM.out, ← HQ4.out, ← HQ6.out]
      have hl := widRow_length x m n
      refine ⟨A', c', by rw [hl]; rfl, ?_, HB.out⟩
      rw [hl]
      exact HO.out
end Go.Proofs.YtfbppbelcbbhlaaGreatDoor.Sf
