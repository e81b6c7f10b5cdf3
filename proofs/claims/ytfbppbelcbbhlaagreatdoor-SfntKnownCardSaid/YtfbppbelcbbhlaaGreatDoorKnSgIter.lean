/- The iterator of sfnt.segments: each character of each segment is yielded, or it gives up (printed by gen/sgiter.py). -/
import Derived.Test.YtfbppbelcbbhlaaGreatDoorKnSegs
namespace Go.Proofs.YtfbppbelcbbhlaaGreatDoor.Sf
open Go Go.RowKit

def sgLast (t : List Nat) (k : Nat) : Int := if k = 0 then -1 else (sgEnd t (k - 1) : Int)

set_option maxRecDepth 100000 in
set_option maxHeartbeats 4000000 in
theorem segs_iter (a s nb rb sb lp : Nat) (t : List Nat) (bad : Nat × Nat → Prop) (J : List (Nat × Nat) → World → Prop) (JX : World → Prop) (w : World) (hh : sgHead t)
    (Y : Yields Tryz.prog lp (sgAll t (sgN t)) bad J JX a s t (fun W => W.cell? ⟨nb, 0, none⟩ = some (.int .i64 (sgN t : Nat)) ∧ W.cell? ⟨rb, 0, none⟩ = some (.pointer (some ⟨a, 0, none⟩)) ∧ W.cell? ⟨sb, 0, none⟩ = some (.int .i64 (sgSize t : Nat)))) (h0 : J [] w) :
    Calls Tryz.prog 93 #[.func (.yield lp) #[] #[], .pointer (some ⟨nb, 0, none⟩), .pointer (some ⟨rb, 0, none⟩), .pointer (some ⟨sb, 0, none⟩)] w fun e w' => IterPost (sgAll t (sgN t)) (sgOk t) bad J JX e w' := by
  have HY := Lib.hid Y
  have HH := Lib.hid hh
  have H0 := Lib.hid h0
  obtain ⟨hrd0, q1, q2, q3⟩ := Y.rdr _ _ h0
  have h255 := Lib.hid hrd0.lt
  have hz16 : 16 + 8 * sgN t ≤ sgSize t := hh.2.2.2.1
  have hzl : sgSize t ≤ t.length := hh.2.2.2.2.1
  have hz6 : sgSize t < 65536 := numAt_two_lt t 2 hrd0.lt (by have := hh.1; omega)
  clear Y hh h0 hrd0
  generalize hgn : sgN t = n at *
  have HN := Lib.hid hgn
  generalize hgz : sgSize t = z at *
  have HZ := Lib.hid hgz
  have HL0 := Lib.hid (show sgLast t 0 = -1 from rfl)
  clear hgn hgz
  go_enter Tryz.func93, Tryz.ntmps93
  go_wp2_with fail
  go_loopw [5, 16] (fun lv iv wr => ∃ k : Nat, k ≤ n ∧ iv = .int .i64 k ∧ lv = .int .i64 (sgLast t k) ∧ J (sgAll t k) wr ∧ (∀ i, i < k → sgGood t i ∧ ∀ j, sgStart t i + j ≤ sgEnd t i → sgIn t i j) ∧ ∀ x ∈ sgAll t k, ¬ bad x) (fun _ iv _ => n - (intOf iv).toNat)
  case atStart => exact ⟨0, Nat.zero_le _, rfl, by rw [HL0.out], H0.out, fun i hi => by omega, fun x hx => by simp [sgAll] at hx⟩
  case round =>
    obtain ⟨k, hk, rfl, rfl, hJ, hgood, hbad⟩ := hrel
    have HJ := Lib.hid hJ
    have HG := Lib.hid hgood
    have HB := Lib.hid hbad
    clear hJ hgood hbad q1 q2 q3
    by_cases hlt : k < n
    · obtain ⟨hrd, q1, q2, q3⟩ := HY.out.rdr _ _ HJ.out
      go_upto_region 4 with (fail)
      have HRD := Lib.hid hrd
      have w2k : IntKind.i64.wrap (2 * (k : Int)) = 2 * (k : Int) := IntWalk.i64_in _ (by omega)
      have w2n : IntKind.i64.wrap (2 * (n : Int)) = 2 * (n : Int) := IntWalk.i64_in _ (by omega)
      have w4n : IntKind.i64.wrap (4 * (n : Int)) = 4 * (n : Int) := IntWalk.i64_in _ (by omega)
      have w6n : IntKind.i64.wrap (6 * (n : Int)) = 6 * (n : Int) := IntWalk.i64_in _ (by omega)
      have w16a : IntKind.i64.wrap (16 + 2 * (n : Int)) = 16 + 2 * (n : Int) := IntWalk.i64_in _ (by omega)
      have w16b : IntKind.i64.wrap (16 + 4 * (n : Int)) = 16 + 4 * (n : Int) := IntWalk.i64_in _ (by omega)
      have w16c : IntKind.i64.wrap (16 + 6 * (n : Int)) = 16 + 6 * (n : Int) := IntWalk.i64_in _ (by omega)
      have w14 : IntKind.i64.wrap (14 + 2 * (k : Int)) = ((14 + 2 * k : Nat) : Int) := by rw [IntWalk.i64_in _ (by omega)]; omega
      have wA : IntKind.i64.wrap (16 + 2 * (n : Int) + 2 * (k : Int)) = ((16 + 2 * n + 2 * k : Nat) : Int) := by rw [IntWalk.i64_in _ (by omega)]; omega
      have wB : IntKind.i64.wrap (16 + 4 * (n : Int) + 2 * (k : Int)) = ((16 + 4 * n + 2 * k : Nat) : Int) := by rw [IntWalk.i64_in _ (by omega)]; omega
      have wC : IntKind.i64.wrap (16 + 6 * (n : Int) + 2 * (k : Int)) = ((16 + 6 * n + 2 * k : Nat) : Int) := by rw [IntWalk.i64_in _ (by omega)]; omega
      have p1 : ∀ e : Grown wr, e.w.cell? ⟨nb, 0, none⟩ = some (.int .i64 (n : Nat)) := fun e => e.cell q1
      have p2 : ∀ e : Grown wr, e.w.cell? ⟨rb, 0, none⟩ = some (.pointer (some ⟨a, 0, none⟩)) := fun e => e.cell q2
      have HE := Lib.hid (fun e : Grown wr => (e.rdr HRD.out).wordI (14 + 2 * k) ((14 + 2 * k : Nat) : Int) rfl (by omega))
      have HS := Lib.hid (fun e : Grown wr => (e.rdr HRD.out).wordI (16 + 2 * n + 2 * k) ((16 + 2 * n + 2 * k : Nat) : Int) rfl (by omega))
      have HD := Lib.hid (fun e : Grown wr => (e.rdr HRD.out).wordI (16 + 4 * n + 2 * k) ((16 + 4 * n + 2 * k : Nat) : Int) rfl (by omega))
      have e1 : Hid (sgStart t k = numAt t (16 + 2 * n + 2 * k) 2) := Lib.hid (by unfold sgStart; rw [HN.out])
      have e2 : Hid (sgEnd t k = numAt t (14 + 2 * k) 2) := Lib.hid rfl
      have e3 : Hid (sgDelta t k = numAt t (16 + 4 * n + 2 * k) 2) := Lib.hid (by unfold sgDelta; rw [HN.out])
      have e4 : Hid (sgAt t k = 16 + 6 * n + 2 * k) := Lib.hid (by unfold sgAt; rw [HN.out])
      have m1 : numAt t (16 + 2 * n + 2 * k) 2 < 65536 := numAt_two_lt t _ h255.out (by omega)
      have m2 : numAt t (14 + 2 * k) 2 < 65536 := numAt_two_lt t _ h255.out (by omega)
      have m3 : numAt t (16 + 4 * n + 2 * k) 2 < 65536 := numAt_two_lt t _ h255.out (by omega)
      clear hrd q1 q2
      generalize numAt t (16 + 2 * n + 2 * k) 2 = v1 at *
      generalize numAt t (14 + 2 * k) 2 = v2 at *
      generalize numAt t (16 + 4 * n + 2 * k) 2 = dl at *
      obtain ⟨z1, hz1⟩ : ∃ z, z = 14 + 2 * k := ⟨_, rfl⟩
      obtain ⟨z2, hz2⟩ : ∃ z, z = 16 + 2 * n + 2 * k := ⟨_, rfl⟩
      obtain ⟨z3, hz3⟩ : ∃ z, z = 16 + 4 * n + 2 * k := ⟨_, rfl⟩
      obtain ⟨ta, hta⟩ : ∃ z, z = 16 + 6 * n + 2 * k := ⟨_, rfl⟩
      rw [← hz1] at w14 HE
      rw [← hz2] at wA HS
      rw [← hz3] at wB HD
      rw [← hta] at wC e4
      have hta2 : ta + 2 ≤ z := by omega
      clear hz1 hz2 hz3 hta
      have wv1 : IntKind.i64.wrap (v1 : Int) = (v1 : Int) := IntWalk.i64_in _ (by omega)
      have wv2 : IntKind.i64.wrap (v2 : Int) = (v2 : Int) := IntWalk.i64_in _ (by omega)
      refine wp_region_grown (by kernel_rfl) (by kernel_rfl) ?_
      repeat (go_big_quiet_step (first | (go_at_call 42; with_reducible (exact calls_grown_same (HE.out _))) | (go_at_call 42; with_reducible (exact calls_grown_same (HS.out _))) | (go_at_call 42; with_reducible (exact calls_grown_same (HD.out _)))))
      refine wpQuiet_nil ?_
      rintro _ ⟨eg, rfl⟩
      have HJ2 := Lib.hid (HY.out.grow _ _ _ HJ.out eg.below)
      obtain ⟨W2, hW2⟩ : ∃ W2, eg.w = W2 := ⟨_, rfl⟩
      rw [hW2] at HJ2 ⊢
      clear p1 p2 w2k w2n w4n w6n w16a w16b w16c w14 wA wB wC HE HS HD HJ HRD hW2 eg q3
      obtain ⟨hrd, q1, q2, q3⟩ := HY.out.rdr _ _ HJ2.out
      have HOF := Lib.hid (hrd.wordI ta ta rfl (by omega))
      have e5 : Hid (sgOff t k = numAt t ta 2) := Lib.hid (by unfold sgOff; rw [e4.out])
      have m5 : numAt t ta 2 < 65536 := numAt_two_lt t _ h255.out (by omega)
      clear hrd
      generalize numAt t ta 2 = of at *
      have wof : IntKind.i64.wrap (of : Int) = (of : Int) := IntWalk.i64_in _ (by omega)
      have hlast : Hid (sgLast t (k + 1) = (v2 : Int)) := Lib.hid (by unfold sgLast; rw [if_neg (by omega), Nat.add_sub_cancel, e2.out])
      have hlr : -1 ≤ sgLast t k ∧ sgLast t k ≤ 65536 := by
        unfold sgLast
        split
        · omega
        · have : sgEnd t (k - 1) < 65536 := numAt_two_lt t _ h255.out (by omega)
          omega
      have HGD : Hid (sgGood t k ↔ v1 ≤ v2 ∧ sgLast t k < (v1 : Int)) := Lib.hid (by
        unfold sgGood sgLast
        rw [e1.out, e2.out]
        rcases Nat.eq_zero_or_pos k with h3 | h3
        · rw [if_pos h3]
          exact ⟨fun ⟨a1, _⟩ => ⟨a1, by omega⟩, fun ⟨a1, _⟩ => ⟨a1, .inl h3⟩⟩
        · rw [if_neg (by omega)]
          exact ⟨fun ⟨a1, a2⟩ => ⟨a1, by omega⟩, fun ⟨a1, a2⟩ => ⟨a1, .inr (by omega)⟩⟩)
      have HNO : Hid (¬ sgGood t k → ¬ (sgOk t ∧ ∀ x ∈ sgAll t n, ¬ bad x)) := Lib.hid (fun h1 h2 => h1 (h2.1.2 k (by rw [HN.out]; exact hlt)).1)
      have HNI : Hid (∀ j, v1 + j ≤ v2 → ¬ sgIn t k j → ¬ (sgOk t ∧ ∀ x ∈ sgAll t n, ¬ bad x)) := Lib.hid (fun j hj h1 h2 => h1 ((h2.1.2 k (by rw [HN.out]; exact hlt)).2 j (by rw [e1.out, e2.out]; exact hj)))
      generalize sgLast t k = lst at *
      by_cases c1 : v1 ≤ v2
      case neg =>
        have hno : Hid (¬ (sgOk t ∧ ∀ x ∈ sgAll t n, ¬ bad x)) := Lib.hid (HNO.out (fun h => c1 ((HGD.out.1 h).1)))
        have d1 : decide ((v1 : Int) ≤ (v2 : Int)) = false := decide_eq_false (by omega)
        have d1b : decide (v1 ≤ v2) = false := decide_eq_false (by omega)
        go_wp2_with (first | (go_at_call 42; refine HOF.out.mono ?_; rintro e w' ⟨rfl, rfl⟩) | (go_at_call 40; refine (need_no _).mono ?_; rintro e w' ⟨rfl, rfl⟩))
        exact ⟨rfl, .inr ⟨rfl, HY.out.stop _ _ HJ2.out, hno.out⟩⟩
      have d1 : decide ((v1 : Int) ≤ (v2 : Int)) = true := decide_eq_true (by omega)
      have d1b : decide (v1 ≤ v2) = true := decide_eq_true (by omega)
      by_cases c3 : lst < (v1 : Int)
      case neg =>
        have hno : Hid (¬ (sgOk t ∧ ∀ x ∈ sgAll t n, ¬ bad x)) := Lib.hid (HNO.out (fun h => c3 ((HGD.out.1 h).2)))
        have d3 : decide (lst < (v1 : Int)) = false := decide_eq_false (by omega)
        go_wp2_with (first | (go_at_call 42; refine HOF.out.mono ?_; rintro e w' ⟨rfl, rfl⟩) | (go_at_call 40; refine (need_no _).mono ?_; rintro e w' ⟨rfl, rfl⟩))
        exact ⟨rfl, .inr ⟨rfl, HY.out.stop _ _ HJ2.out, hno.out⟩⟩
      have d3 : decide (lst < (v1 : Int)) = true := decide_eq_true (by omega)
      have hgd : Hid (sgGood t k) := Lib.hid (HGD.out.2 ⟨c1, c3⟩)
      go_wp2_with (first | (go_at_call 42; refine HOF.out.mono ?_; rintro e w' ⟨rfl, rfl⟩) | (go_at_call 40; refine (need_ok _).mono ?_; rintro e w' ⟨rfl, rfl⟩))
      have HW2s := Lib.hid (show sgAll t k ++ sgPart t k 0 = sgAll t k from by simp [sgPart])
      go_loopw [12] (fun cv wx => ∃ j c : Nat, c ≤ v2 + 1 ∧ Hid (c = v1 + j) ∧ cv = .int .i64 (c : Int) ∧ J (sgAll t k ++ sgPart t k j) wx ∧ (∀ x ∈ sgAll t k ++ sgPart t k j, ¬ bad x) ∧ ∀ i, i < j → sgIn t k i) (fun cv _ => v2 + 1 - (intOf cv).toNat)
      case atStart => exact ⟨0, v1, by omega, Lib.hid rfl, rfl, by rw [HW2s.out]; exact HJ2.out, by rw [HW2s.out]; exact HB.out, fun i hi => by omega⟩
      case round =>
        obtain ⟨j, c, hj, hc, rfl, hJj, hbj, hinj⟩ := hrel
        have HJJ := Lib.hid hJj
        have HBJ := Lib.hid hbj
        have HIJ := Lib.hid hinj
        clear hJj hbj hinj q1 q2 q3
        by_cases hle : c ≤ v2
        · obtain ⟨hrd, q1, q2, q3⟩ := HY.out.rdr _ _ HJJ.out
          have HRX := Lib.hid hrd
          clear hrd
          have d5 : decide ((c : Int) ≤ (v2 : Int)) = true := decide_eq_true (by omega)
          have d5b : decide (c ≤ v2) = true := decide_eq_true hle
          have hjv : Hid (v1 + j ≤ v2) := Lib.hid (by rw [← hc.out]; exact hle)
          have wcu : IntKind.u16.wrap (c : Int) = (c : Int) := by simp [IntKind.wrap, IntKind.bits, IntKind.signed]; omega
          obtain ⟨g0, hg0⟩ : ∃ g0, g0 = (c + dl) % 65536 := ⟨_, rfl⟩
          have wg0 : IntKind.u16.wrap ((c : Int) + (dl : Int)) = (g0 : Int) := by rw [hg0]; simp [IntKind.wrap, IntKind.bits, IntKind.signed]
          have hgl : Hid (sgGlyph t k j = if of = 0 then g0 else if numAt t (ta + of + 2 * j) 2 = 0 then 0 else (numAt t (ta + of + 2 * j) 2 + dl) % 65536) := Lib.hid (by
            unfold sgGlyph
            rw [e5.out, e1.out, e3.out, e4.out, hg0, hc.out])
          have hin : Hid (sgIn t k j ↔ (of ≠ 0 → ta + of + 2 * j + 2 ≤ z)) := Lib.hid (by
            unfold sgIn
            rw [e5.out, e4.out, HZ.out])
          have hg6 : g0 < 65536 := by omega
          obtain ⟨gl, hgle⟩ : ∃ gl, gl = sgGlyph t k j := ⟨_, rfl⟩
          have HGLE := Lib.hid hgle
          rw [← hgle] at hgl
          clear hg0 hgle
          go_upto_if 73 with (fail)
          go_cut [13, 14] from 73 to 95 (fun gv pv wc => gv = .int .u16 (gl : Int) ∧ sgIn t k j ∧ wr = wc)
          case first =>
            by_cases c6 : of = 0
            · have hv : Hid (gl = g0) := Lib.hid (by rw [hgl.out, if_pos c6])
              have hi : Hid (sgIn t k j) := Lib.hid (hin.out.2 (fun h => absurd c6 h))
              have d6 : ((of : Int) != 0) = false := by simp; omega
              have d6b : (of != 0) = false := by simp; omega
              have d6c : ((of : Int) == 0) = true := by simp; omega
              have d6d : (of == 0) = true := by simp; omega
              have d6e : decide (of = 0) = true := decide_eq_true c6
              clear c6
              go_wp2_with fail
              go_meet
              case rel => exact ⟨by rw [hv.out], hi.out, rfl⟩
            · have d6 : ((of : Int) != 0) = true := by simp; omega
              have d6b : (of != 0) = true := by simp; omega
              have d6c : ((of : Int) == 0) = false := by simp; omega
              have d6d : (of == 0) = false := by simp; omega
              have d6e : decide (of = 0) = false := decide_eq_false c6
              have C6 := Lib.hid c6
              clear c6
              have x1 : IntKind.i64.wrap ((ta : Int) + (of : Int)) = (ta : Int) + (of : Int) := IntWalk.i64_in _ (by omega)
              have x2 : IntKind.i64.wrap ((c : Int) - (v1 : Int)) = (j : Int) := by have := hc.out; rw [IntWalk.i64_in _ (by omega)]; omega
              have x3 : IntKind.i64.wrap (2 * (j : Int)) = 2 * (j : Int) := by have := hc.out; exact IntWalk.i64_in _ (by omega)
              have x4 : IntKind.i64.wrap ((ta : Int) + (of : Int) + 2 * (j : Int)) = ((ta + of + 2 * j : Nat) : Int) := by have := hc.out; rw [IntWalk.i64_in _ (by omega)]; omega
              obtain ⟨pl, hpl⟩ : ∃ pl, pl = ta + of + 2 * j := ⟨_, rfl⟩
              rw [← hpl] at x4 hgl hin
              have hplb : pl < 1000000 := by have := hc.out; omega
              have x5 : IntKind.i64.wrap ((pl : Int) + 2) = (pl : Int) + 2 := IntWalk.i64_in _ (by omega)
              clear hpl
              by_cases c7 : pl + 2 ≤ z
              case neg =>
                have hno : Hid (¬ (sgOk t ∧ ∀ x ∈ sgAll t n, ¬ bad x)) := Lib.hid (HNI.out j hjv.out (fun h => c7 (hin.out.1 h C6.out)))
                have d7 : decide ((pl : Int) + 2 ≤ (z : Int)) = false := decide_eq_false (by omega)
                go_wp2_with (go_at_call 40; refine (need_no _).mono ?_; rintro e w' ⟨rfl, rfl⟩)
                exact ⟨rfl, .inr ⟨rfl, HY.out.stop _ _ HJJ.out, hno.out⟩⟩
              have d7 : decide ((pl : Int) + 2 ≤ (z : Int)) = true := decide_eq_true (by omega)
              have hi : Hid (sgIn t k j) := Lib.hid (hin.out.2 (fun _ => c7))
              have HWP := Lib.hid (HRX.out.wordI pl pl rfl (by omega))
              have mv : numAt t pl 2 < 65536 := numAt_two_lt t _ h255.out (by omega)
              generalize numAt t pl 2 = vv at *
              by_cases c8 : vv = 0
              · have hv : Hid (gl = vv) := Lib.hid (by rw [hgl.out, if_neg C6.out, if_pos c8, c8])
                have d8 : ((vv : Int) != 0) = false := by simp; omega
                have d8b : (vv != 0) = false := by simp; omega
                have d8c : ((vv : Int) == 0) = true := by simp; omega
                have d8d : (vv == 0) = true := by simp; omega
                have d8e : decide (vv = 0) = true := decide_eq_true c8
                clear c8
                go_wp2_with (first | (go_at_call 42; refine HWP.out.mono ?_; rintro e w' ⟨rfl, rfl⟩) | (go_at_call 40; refine (need_ok _).mono ?_; rintro e w' ⟨rfl, rfl⟩))
                go_meet
                case rel => exact ⟨by rw [hv.out], hi.out, rfl⟩
              · obtain ⟨g1, hg1⟩ : ∃ g1, g1 = (vv + dl) % 65536 := ⟨_, rfl⟩
                have hv : Hid (gl = g1) := Lib.hid (by rw [hgl.out, if_neg C6.out, if_neg c8, hg1])
                have wg1 : IntKind.u16.wrap ((vv : Int) + (dl : Int)) = (g1 : Int) := by rw [hg1]; simp [IntKind.wrap, IntKind.bits, IntKind.signed]
                have d8 : ((vv : Int) != 0) = true := by simp; omega
                have d8b : (vv != 0) = true := by simp; omega
                have d8c : ((vv : Int) == 0) = false := by simp; omega
                have d8d : (vv == 0) = false := by simp; omega
                have d8e : decide (vv = 0) = false := decide_eq_false c8
                clear c8 hg1
                go_wp2_with (first | (go_at_call 42; refine HWP.out.mono ?_; rintro e w' ⟨rfl, rfl⟩) | (go_at_call 40; refine (need_ok _).mono ?_; rintro e w' ⟨rfl, rfl⟩))
                go_meet
                case rel => exact ⟨by rw [hv.out], hi.out, rfl⟩
          case rest =>
          obtain ⟨rfl, hsgin, rfl⟩ := hcut
          have HSI := Lib.hid hsgin
          have hgl6 : gl < 65536 := by
            rw [hgl.out]
            split
            · exact hg6
            · split
              · omega
              · omega
          have wgl : IntKind.i64.wrap (gl : Int) = (gl : Int) := IntWalk.i64_in _ (by omega)
          have hmem : (c, gl) ∈ sgAll t n := by
            have := sgAll_mem (t := t) (i := k) (j := j) (by rw [HN.out]; exact hlt) (by rw [e1.out, e2.out]; exact hjv.out)
            rw [e1.out, ← hc.out, ← HGLE.out, HN.out] at this
            exact this
          obtain ⟨fn, tmps, assign, body, hy, hR⟩ := HY.out.round _ _ _ HJJ.out hmem ⟨sgPre_length (fun i hi => (HG.out i hi).1) hgd.out (by rw [e1.out, e2.out]; exact hjv.out) (by rw [e2.out]; exact m2), by show c < 1114112; omega, hgl6⟩
          have HR := Lib.hid hR
          have hnew : Hid (sgAll t k ++ sgPart t k (j + 1) = sgAll t k ++ sgPart t k j ++ [(c, gl)]) := Lib.hid (by
            rw [sgPart_succ, e1.out, ← hc.out, ← HGLE.out, List.append_assoc])
          clear hR hsgin
          go_upto_region 18 with (fail)
          refine (wpIn_wide (n := 1)).1 ?_
          gi_wp2
          refine HR.out.mono ?_
          rintro e W3 (⟨rfl, hJ3, hnb⟩ | ⟨rfl, hX, hb⟩)
          · gi_wp2
            go_wp2_with fail
            go_roundw
            case rel =>
              refine ⟨j + 1, c + 1, by omega, Lib.hid (by rw [hc.out]; omega), by go_num, by rw [hnew.out]; exact hJ3, fun x hx => ?_, fun i hi => ?_⟩
              · rw [hnew.out] at hx
                rcases List.mem_append.1 hx with hx | hx
                · exact HBJ.out x hx
                · rw [List.mem_singleton.1 hx]; exact hnb
              · rcases Nat.lt_or_ge i j with h3 | h3
                · exact HIJ.out i h3
                · obtain rfl : i = j := by omega
                  exact HSI.out
            case measure => simp [intOf]; omega
          · gi_wp2
            exact ⟨rfl, .inr ⟨rfl, hX, fun h => h.2 _ hmem hb⟩⟩
        · have hdone : Hid (sgAll t (k + 1) = sgAll t k ++ sgPart t k j) := Lib.hid (by
            have h1 := hc.out
            rw [sgAll_succ, ← sgPart_full, e1.out, e2.out, show v2 + 1 - v1 = j from by omega])
          have d5 : decide ((c : Int) ≤ (v2 : Int)) = false := decide_eq_false (by omega)
          have d5b : decide (c ≤ v2) = false := decide_eq_false hle
          go_wp2_with fail
          go_roundw
          case rel =>
            refine ⟨k + 1, by omega, by go_num, by rw [hlast.out], by rw [hdone.out]; exact HJJ.out, fun i hi => ?_, by rw [hdone.out]; exact HBJ.out⟩
            rcases Nat.lt_or_ge i k with h3 | h3
            · exact HG.out i h3
            · obtain rfl : i = k := by omega
              refine ⟨hgd.out, fun j' hj' => HIJ.out j' ?_⟩
              have h1 := hc.out
              rw [e1.out, e2.out] at hj'
              omega
          case measure => simp [intOf]; omega
    · go_wp2_with fail
      go_end0
      have hkn : k = n := by omega
      subst hkn
      exact .inl ⟨rfl, HJ.out, ⟨HH.out, fun i hi => HG.out i (by rw [← HN.out]; exact hi)⟩, HB.out⟩
end Go.Proofs.YtfbppbelcbbhlaaGreatDoor.Sf
