/- sfnt.Tables: a font's tables, or a refusal. -/
import Derived.Test.YtfbppbelcbbhlaaGreatDoorKnTabs9S
import Derived.Test.YtfbppbelcbbhlaaGreatDoorKnTab9W
import Derived.Deep.CutRange
import Derived.Deep.DeepCutAuto
namespace Go.Proofs.YtfbppbelcbbhlaaGreatDoor.Sf
open Go Go.RowKit

set_option maxRecDepth 100000 in
set_option maxHeartbeats 2000000 in
theorem tables_any (A : Option Addr) (cap : Nat) (l : List Nat) (w : World) (h : Byt w A cap l) (hd : HdVar w) :
    Calls Tryz.prog 22 #[.slice A l.length cap] w fun e w' => TabPost 48 w (tablesF l) e w' := by
  have hmf : ∀ (fn : Fn) (first cap : Array Value) (w : World), (Instr.makeFunc fn first cap).run Tryz.prog w = .ok (.func fn first cap) w := fun _ _ _ _ => rfl
  have hle := h.le
  have hmax := h.max
  have H := Lib.hid h
  have HD := Lib.hid hd
  clear h hd
  -- the two variables of the results
  have hl0 : ((w.alloc (Obj.cells #[Value.slice none 0 0] 44)).alloc (Obj.cells #[Value.int IntKind.i64 0] 28)).heap[w.heap.size]? = some (.cells #[.slice none 0 0] 44 (0, 0)) := by
    rw [World.heap_alloc_lt _ _ (by simp)]; exact heap_alloc_new _ _
  have he0 : ((w.alloc (Obj.cells #[Value.slice none 0 0] 44)).alloc (Obj.cells #[Value.int IntKind.i64 0] 28)).heap[w.heap.size + 1]? = some (.cells #[.int .i64 0] 28 (0, 0)) := heap_new_at _ _ (by simp)
  have hb0 : Below w.heap.size w ((w.alloc (Obj.cells #[Value.slice none 0 0] 44)).alloc (Obj.cells #[Value.int IntKind.i64 0] 28)) := ((Below.refl _ _).alloc (Nat.le_refl _) _).alloc (by simp) _
  have HL0 := Lib.hid hl0
  have HE0 := Lib.hid he0
  have HB0 := Lib.hid hb0
  clear hl0 he0 hb0
  by_cases f1 : l.length ≤ 16777216
  case neg =>
    have d1 : decide ((l.length : Int) ≤ 16777216) = false := decide_eq_false (by omega)
    have hnone := tablesF_font (l := l) (fun h => f1 h.1)
    have HNO := Lib.hid hnone
    clear hnone
    go_enter_defers Tryz.func22, Tryz.ntmps22
    go_wp2_with (go_at_call 40; refine (need_no _).mono ?_; rintro e w' ⟨rfl, rfl⟩)
    refine door_bad (lb := w.heap.size) (eb := w.heap.size + 1) rfl rfl HL0.out HE0.out (by omega) (fun W' h1 h2 h3 h4 h5 => ?_)
    show TabPost _ w _ _ _
    rw [HNO.out]
    exact ⟨rfl, below_door HB0.out (Nat.le_refl _) (by omega) h1 h2 h3 h4 h5⟩
  have d1 : decide ((l.length : Int) ≤ 16777216) = true := decide_eq_true (by omega)
  by_cases f2 : 12 ≤ l.length
  case neg =>
    have d2 : decide ((12 : Int) ≤ (l.length : Int)) = false := decide_eq_false (by omega)
    have hnone := tablesF_font (l := l) (fun h => f2 h.2.1)
    have HNO := Lib.hid hnone
    clear hnone
    go_enter_defers Tryz.func22, Tryz.ntmps22
    go_wp2_with (go_at_call 40; refine (need_no _).mono ?_; rintro e w' ⟨rfl, rfl⟩)
    refine door_bad (lb := w.heap.size) (eb := w.heap.size + 1) rfl rfl HL0.out HE0.out (by omega) (fun W' h1 h2 h3 h4 h5 => ?_)
    show TabPost _ w _ _ _
    rw [HNO.out]
    exact ⟨rfl, below_door HB0.out (Nat.le_refl _) (by omega) h1 h2 h3 h4 h5⟩
  have d2 : decide ((12 : Int) ≤ (l.length : Int)) = true := decide_eq_true (by omega)
  obtain ⟨b, bo, rfl, hc⟩ := H.out.cells (by omega)
  have hop := open_ok (some ⟨b, bo, none⟩) cap l _ (H.out.below HB0.out) (by omega)
  have HOP := Lib.hid hop
  clear hop hc
  have hn : Hid (tabN l = numAt l 4 2) := by
    show tabN l = numAt l 4 2
    unfold tabN refNum
    rw [if_pos (by omega)]
    rfl
  have hn6 : numAt l 4 2 < 65536 := numAt_two_lt l 4 H.out.lt (by omega)
  go_enter_defers Tryz.func22, Tryz.ntmps22
  go_wp2_with (first | (go_at_call 40; refine (need_ok _).mono ?_; rintro e w' ⟨rfl, rfl⟩) | (go_at_call 41; refine HOP.out.mono ?_; rintro e w2 ⟨ra, rs, rfl, hr, hb2, hra, hrs⟩; have HR := Lib.hid hr; have HB2 := Lib.hid hb2; clear hr hb2) | (go_at_call 42; refine (HR.out.wordI 4 4 rfl (by omega)).mono ?_; rintro e w3 ⟨rfl, rfl⟩))
  simp only [World.size_alloc] at hra hrs
  have hb2 : Below w.heap.size w w2 := HB0.out.trans (HB2.out.mono HB0.out.size)
  have HY := Lib.hid (H.out.below hb2)
  have HBW := Lib.hid hb2
  have hl2 : w2.heap[w.heap.size]? = some (.cells #[.slice none 0 0] 44 (0, 0)) := (HB2.out.block _ (lt_of_heap HL0.out)).trans HL0.out
  have he2 : w2.heap[w.heap.size + 1]? = some (.cells #[.int .i64 0] 28 (0, 0)) := (HB2.out.block _ (lt_of_heap HE0.out)).trans HE0.out
  have HL2 := Lib.hid hl2
  have HE2 := Lib.hid he2
  clear hl2 he2 hb2
  generalize hnn : numAt l 4 2 = n at *
  have HNN := Lib.hid hnn
  clear hnn
  refine tab_r6 hle hmax f1 f2 hn6 HY (Lib.hid ?_) ?_ ?_
  · intro i c a v w hi hh
    exact leaves_put a.tmps i v hi _ a.defers _ w hh
  rotate_left
  · intro W hW hno
    intros
    have hnone := tablesF_font (l := l) (fun h => by rw [hn.out] at h; exact hno ⟨h.2.2.1, h.2.2.2.1, h.2.2.2.2.1, h.2.2.2.2.2⟩)
    show bodyPostD Tryz.prog Tryz.f22 _ (.panic [{ v := brokenV, recovered := false }]) _ W
    refine door_bad (lb := w.heap.size) (eb := w.heap.size + 1) rfl rfl ((hW.block _ (lt_of_heap HL2.out)).trans HL2.out) ((hW.block _ (lt_of_heap HE2.out)).trans HE2.out) (by omega) (fun W' h1 h2 h3 h4 h5 => ?_)
    show TabPost _ w _ _ _
    rw [hnone]
    exact ⟨rfl, below_door (HBW.out.trans (hW.mono HBW.out.size)) (Nat.le_refl _) (by omega) h1 h2 h3 h4 h5⟩
  intro W hW hok
  intros
  have hlW := (hW.block _ (lt_of_heap HL2.out)).trans HL2.out
  have heW := (hW.block _ (lt_of_heap HE2.out)).trans HE2.out
  have HLW := Lib.hid hlW
  have HEW := Lib.hid heW
  have HYW := Lib.hid (HY.out.below hW)
  have HRW := Lib.hid (HR.out.kept (kept_of_below hW))
  have HDW := Lib.hid (HD.out.kept (kept_of_below (HBW.out.trans (hW.mono HBW.out.size))))
  have HBWW := Lib.hid (HBW.out.trans (hW.mono HBW.out.size))
  have hsz := hW.size
  have hszw := HBW.out.size
  clear hlW heW hW
  obtain ⟨n1, n64, hhead, hfit⟩ := hok
  have HHD := Lib.hid hhead
  clear hhead
  go_wp2_with fail
  go_loopw [49] (fun v wr => ∃ (k : Nat) (A' : Option Addr) (c' : Nat), k ≤ n ∧ v = .int .i64 k ∧ Var W w.heap.size (.slice A' k c') wr ∧ wr.ownsRow W.heap.size 48 6 (.slice A' k c') k (tbs (recs l k)) ∧ ∀ i, i < k → recOk l n i) (fun v _ => n - (intOf v).toNat)
  case atStart => exact ⟨0, none, 0, by omega, rfl, Var.start HLW.out, World.ownsRow_nil _ _ _ _, fun i hi => by omega⟩
  case round =>
    obtain ⟨k, A', c', hk, rfl, hvar, hown, hrok⟩ := hrel
    have HV := Lib.hid hvar
    have HO := Lib.hid hown
    have HR0 := Lib.hid hrok
    clear hvar hown hrok
    by_cases hlt : k < n
    · have b0 : (0 : Int) ≤ (k : Int) := by omega
      have wr1 : IntKind.i64.wrap (16 * (k : Int)) = 16 * (k : Int) := IntWalk.i64_in _ (by omega)
      have wr2 : IntKind.i64.wrap (12 + 16 * (k : Int)) = ((12 + 16 * k : Nat) : Int) := by rw [IntWalk.i64_in _ (by omega)]; omega
      obtain ⟨a, ha⟩ : ∃ a : Nat, a = 12 + 16 * k := ⟨_, rfl⟩
      have HAT := Lib.hid ha
      have ha16 : a + 16 ≤ l.length := by omega
      rw [← ha] at wr2
      clear ha
      have HYR := Lib.hid (HV.out.byt HLW.out HYW.out)
      have HRR := Lib.hid (HV.out.rdr HLW.out HRW.out (by omega) (by omega))
      have HDR := Lib.hid (HD.out.kept (kept_of_below (HV.out.below HBWW.out (Nat.le_refl _))))
      obtain ⟨b', bo', he', hcb⟩ := HYR.out.cells (by omega)
      cases he'
      have hc1 := hcb a (by omega)
      have hc2 := hcb (a + 1) (by omega)
      have hc3 := hcb (a + 2) (by omega)
      have hc4 := hcb (a + 3) (by omega)
      rw [← Nat.add_assoc] at hc2 hc3 hc4
      have htag : Hid ((recAt l k).tag = ⟨l.getD a 0, l.getD (a + 1) 0, l.getD (a + 2) 0, l.getD (a + 3) 0⟩) := by
        have := HAT.out
        subst this
        rfl
      have hat_ : Hid (numAt l (a + 8) 4 = (recAt l k).at_) := by
        have := HAT.out
        subst this
        rfl
      have hln : Hid (numAt l (a + 12) 4 = (recAt l k).len) := by
        have := HAT.out
        subst this
        rfl
      have w4 : IntKind.i64.wrap ((a : Int) + 4) = (a : Int) + 4 := IntWalk.i64_in _ (by omega)
      have w8 : IntKind.i64.wrap ((a : Int) + 8) = (a : Int) + 8 := IntWalk.i64_in _ (by omega)
      have w12 : IntKind.i64.wrap ((a : Int) + 12) = (a : Int) + 12 := IntWalk.i64_in _ (by omega)
      have HL8 := Lib.hid (fun W2 (hW2 : Below wr.heap.size wr W2) => (HRR.out.kept (kept_of_below hW2)).longI (a + 8) ((a : Int) + 8) (by omega) (by omega))
      have HL12 := Lib.hid (fun W2 (hW2 : Below wr.heap.size wr W2) => (HRR.out.kept (kept_of_below hW2)).longI (a + 12) ((a : Int) + 12) (by omega) (by omega))
      have m8 : numAt l (a + 8) 4 < 4294967296 := numF_lt _
      have m12 : numAt l (a + 12) 4 < 4294967296 := numF_lt _
      generalize numAt l (a + 8) 4 = rat at *
      generalize numAt l (a + 12) 4 = rln at *
      generalize l.getD a 0 = ta at *
      generalize l.getD (a + 1) 0 = tb at *
      generalize l.getD (a + 2) 0 = tc at *
      generalize l.getD (a + 3) 0 = td at *
      have wrr : IntKind.i64.wrap (rat : Int) = (rat : Int) := IntWalk.i64_in _ (by omega)
      have wrl : IntKind.i64.wrap (rln : Int) = (rln : Int) := IntWalk.i64_in _ (by omega)
      have b2 : (0 : Int) ≤ (a : Int) := by omega
      have b3 : (a : Int) ≤ (a : Int) + 4 := by omega
      have b4 : (a : Int) + 4 ≤ (cap : Int) := by omega
      have t4 : ((a : Int) + 4).toNat = a + 4 := by omega
      have t5 : a + 4 - a = 4 := by omega
      have n1 : ¬ cap = a := by omega
      have hS0 : ∀ W2, Below wr.heap.size wr W2 → Below wr.heap.size wr W2 ∧ W2.cell? ⟨b, bo + a, none⟩ = some (.int .u8 ta) ∧ W2.cell? ⟨b, bo + a + 1, none⟩ = some (.int .u8 tb) ∧ W2.cell? ⟨b, bo + a + 2, none⟩ = some (.int .u8 tc) ∧ W2.cell? ⟨b, bo + a + 3, none⟩ = some (.int .u8 td) :=
        fun W2 hW2 => ⟨hW2, (kept_of_below hW2).cell hc1, (kept_of_below hW2).cell hc2, (kept_of_below hW2).cell hc3, (kept_of_below hW2).cell hc4⟩
      have hsp : ∀ W2, (Instr.arrayAt 23 (.slice (some ⟨b, bo + a, none⟩) 4 (cap - a))).run Tryz.prog W2 = .ok (.pointer (some ⟨b, bo + a, none⟩)) W2 := fun W2 => by
        simp [Instr.arrayAt, run_underlying Tryz.underlying23]
      have HS0 := Lib.hid hS0
      have hS1 := HS0.out wr (Below.refl _ _)
      clear hS0 hc1 hc2 hc3 hc4 hcb
      go_upto_region 11 with (fail)
      go_cut [8] from 50 to 140 (fun p wx => p = .pointer (some ⟨wr.heap.size, 0, none⟩) ∧ wx = (wr.alloc (.cells #[.int .u8 ta, .int .u8 tb, .int .u8 tc, .int .u8 td, .int .i64 rat, .int .i64 rln] 48)).drew)
      case first =>
        go_region_held3 (fun W2 => Below wr.heap.size wr W2 ∧ W2.cell? ⟨b, bo + a, none⟩ = some (.int .u8 ta) ∧ W2.cell? ⟨b, bo + a + 1, none⟩ = some (.int .u8 tb) ∧ W2.cell? ⟨b, bo + a + 2, none⟩ = some (.int .u8 tc) ∧ W2.cell? ⟨b, bo + a + 3, none⟩ = some (.int .u8 td))
          (first | assumption | exact HS0.out _ hS1.1.drew | exact HS0.out _ (((Below.refl wr.heap.size wr).alloc (Nat.le_refl _) _).drew) | (refine HS0.out _ ?_; refine Below.alloc (And.left (by assumption)) (Below.size (And.left (by assumption))) _))
          (first | (go_at_call 44; (with_reducible refine (HL8.out _ ?_).mono ?_); exact And.left (by assumption); rintro e w3 ⟨rfl, rfl⟩) | (go_at_call 44; (with_reducible refine (HL12.out _ ?_).mono ?_); exact And.left (by assumption); rintro e w3 ⟨rfl, rfl⟩))
        all_goals
          go_wp2_with fail
          go_meet
          case rel => exact ⟨rfl, rfl⟩
      case rest =>
        obtain ⟨rfl, rfl⟩ := hcut
        have hg9 : ((wr.alloc (.cells #[.int .u8 ta, .int .u8 tb, .int .u8 tc, .int .u8 td, .int .i64 rat, .int .i64 rln] 48)).drew).heap[wr.heap.size]? = some (.cells #[.int .u8 ta, .int .u8 tb, .int .u8 tc, .int .u8 td, .int .i64 rat, .int .i64 rln] 48 (0, 0)) := heap_alloc_new _ _
        have hB9 := ((Below.refl wr.heap.size wr).alloc (Nat.le_refl _) (.cells #[.int .u8 ta, .int .u8 tb, .int .u8 tc, .int .u8 td, .int .i64 rat, .int .i64 rln] 48)).drew
        have hgv := HV.out.size
        generalize hwx : ((wr.alloc (.cells #[.int .u8 ta, .int .u8 tb, .int .u8 tc, .int .u8 td, .int .i64 rat, .int .i64 rln] 48)).drew) = wx at *
        clear hwx
        have HV9 := Lib.hid (HV.out.grown hB9)
        have HO9 := Lib.hid (own_below HO.out hB9)
        generalize wr.heap.size = g at *
        have q0 := cell_of_blk hg9 0
        have q1 := cell_of_blk hg9 1
        have q2 := cell_of_blk hg9 2
        have q3 := cell_of_blk hg9 3
        have q4 := cell_of_blk hg9 4
        have q5 := cell_of_blk hg9 5
        simp at q0 q1 q2 q3 q4 q5
        go_upto_region 12 with (fail)
        refine tab_r12 f1 n64 m8 m12 q4 q5 ?_ ?_
        rotate_left
        · intro hno
          intros
          exact tab_refuse rfl rfl HLW.out HEW.out HBWW.out HV9.out (tablesF_rec hn.out hlt (fun hr => hno ⟨by rw [hat_.out]; exact hr.1, by rw [hat_.out]; exact hr.2.1, by rw [hat_.out, hln.out]; exact hr.2.2.1⟩))
        intro hok12
        intros
        obtain ⟨c1, c2, c3⟩ := hok12
        have HY9 := Lib.hid (HV9.out.byt HLW.out HYW.out)
        have HR9 := Lib.hid (HV9.out.rdr HLW.out HRW.out (by omega) (by omega))
        have HD9 := Lib.hid (HD.out.kept (kept_of_below (HV9.out.below HBWW.out (Nat.le_refl _))))
        go_wp2_with fail
        refine tab_r13 hle hmax f1 ha16 c3 HY9 HR9 HD9 q0 q1 q2 q3 q4 q5 ?_ ?_
        rotate_left
        · intro e13 hno
          intros
          exact tab_refuse rfl rfl HLW.out HEW.out HBWW.out (HV9.out.grown e13.below) (tablesF_rec hn.out hlt (fun hr => hno (by
            have h4 := hr.2.2.2.1
            rw [← hat_.out, ← hln.out, htag.out, ← HAT.out] at h4
            exact h4)))
        intro e13 hok13
        intros
        have hb13 := e13.below
        generalize e13.w = w13 at *
        have HB13 := Lib.hid hb13
        have HV13 := Lib.hid (HV9.out.grown hb13)
        have HO13 := Lib.hid (own_below HO9.out hb13)
        have q0' := (kept_of_below hb13).cell q0
        have q1' := (kept_of_below hb13).cell q1
        have q2' := (kept_of_below hb13).cell q2
        have q3' := (kept_of_below hb13).cell q3
        have q4' := (kept_of_below hb13).cell q4
        have q5' := (kept_of_below hb13).cell q5
        have HOK13 := Lib.hid hok13
        have HC := Lib.hid (show rat % 4 = 0 ∧ 12 + 16 * n ≤ rat ∧ rat + rln ≤ l.length from ⟨c1, c2, c3⟩)
        have HTT : Hid (Tg.ok ⟨ta, tb, tc, td⟩) := Lib.hid (by rw [← htag.out]; exact recAt_ok HYW.out.lt k)
        have hwx13 := hb13.size
        clear q0 q1 q2 q3 q4 q5 hok13 hb13 c1 c2 c3
        go_wp2_with fail
        refine tab_r14 (lb := w.heap.size) (by omega) (HV13.out.val HLW.out) HO13 (Lib.hid HYW.out.lt) HTT q0' q1' q2' q3' ?_ ?_
        rotate_left
        · intro e14 hno
          intros
          exact tab_refuse rfl rfl HLW.out HEW.out HBWW.out (HV13.out.grown e14.below) (tablesF_rec hn.out hlt (fun hr => hno (by
            have h4 := hr.2.2.2.2
            rw [htag.out] at h4
            exact h4)))
        intro e14 hok14
        intros
        have hb14 := e14.below
        generalize e14.w = w14 at *
        have HV14 := Lib.hid (HV13.out.grown hb14)
        have HO14 := Lib.hid (own_below HO13.out hb14)
        have q0 := (kept_of_below hb14).cell q0'
        have q1 := (kept_of_below hb14).cell q1'
        have q2 := (kept_of_below hb14).cell q2'
        have q3 := (kept_of_below hb14).cell q3'
        have q4 := (kept_of_below hb14).cell q4'
        have q5 := (kept_of_below hb14).cell q5'
        have HOK14 := Lib.hid hok14
        have hrk : Hid (recAt l k = ⟨⟨ta, tb, tc, td⟩, rat, rln⟩) := Lib.hid (by rw [← htag.out, hat_.out, hln.out])
        have hwx14 := hb14.size
        have hw14 := HV14.out.size
        have hcl := HV14.out.val HLW.out
        clear q0' q1' q2' q3' q4' q5' hok14 hb14
        have hone : tbs [(⟨⟨ta, tb, tc, td⟩, rat, rln⟩ : Tb)] = Tb.cells ⟨⟨ta, tb, tc, td⟩, rat, rln⟩ := by simp [tbs]
        go_wp2_with (at_builtin; refine wpl_app rfl (.tmp 136) (.tmp 138) 44 rfl W.heap.size 48 Tryz.underlying44 info_tabS rfl (by decide) (.slice A' k c') k (tbs (recs l k)) rfl (HO14.out.alloc _) (some ⟨w14.heap.size, 0, none⟩) 1 1 (Tb.cells ⟨⟨ta, tb, tc, td⟩, rat, rln⟩) rfl rfl (fun h => by cases h) ?c0 ?c4 ?c1 ?c2 ?c3 ?_; rotate_right; intro v' w' hown hg; obtain ⟨A2, c2, rfl⟩ := own_form hown; have hb2 := below_grown ((Below.refl W.heap.size w14).alloc hw14 _) (HO14.out.alloc _) (by simp; omega) hg; have HV15 := Lib.hid (HV14.out.on hb2); have hfz := HV15.out.frozen HLW.out; have hcv := HV15.out.val HLW.out; clear hcl)
        case c0 =>
          intro ad had j u hu
          cases had
          rw [add_lit]
          have hj : j < 6 := by
            rcases Nat.lt_or_ge j 6 with h | h
            · exact h
            · rw [List.getElem?_eq_none (by exact h)] at hu
              cases hu
          refine (cell_of_row _ w14.heap.size (0 + j) _ _ (0, 0) (heap_alloc_new w14 _)).trans ?_
          rw [← hu, Nat.zero_add, ← Array.getElem?_toList]
          rfl
        case c4 => exact Tb.one _
        case c1 => unfold maxLen; omega
        case c2 => omega
        case c3 => simp; omega
        rw [← hone, ← hrk.out, ← tbs_append, ← recs_succ] at hown
        have HO15 := Lib.hid (ownsRow_setCell_below hown (a := ⟨w.heap.size, 0, none⟩) (lt_of_heap HLW.out) (.slice A2 (k + 1) c2))
        have HV16 := Lib.hid (HV15.out.store HLW.out (.slice A2 (k + 1) c2))
        clear hown hb2 hg hone
        go_roundw
        case rel =>
          refine ⟨k + 1, A2, c2, by omega, by go_num, HV16.out, HO15.out, fun i hi => ?_⟩
          rcases Nat.lt_or_ge i k with h | h
          · exact HR0.out i h
          · have : i = k := by omega
            subst this
            have hc := HC.out
            have ht := HAT.out
            refine ⟨?_, ?_, ?_, ?_, ?_⟩
            · rw [← hat_.out]; exact hc.1
            · rw [← hat_.out]; exact hc.2.1
            · rw [← hat_.out, ← hln.out]; exact hc.2.2
            · rw [← hat_.out, ← hln.out, htag.out, ← ht]; exact HOK13.out
            · rw [htag.out]; exact HOK14.out
        case measure => simp [intOf]; omega
    · have hkn : n = k := by omega
      subst hkn
      have hcl := HV.out.val HLW.out
      have hlen := recs_length l n
      obtain ⟨qb, hA', -⟩ := own_pos HO.out (by omega)
      subst hA'
      have HCL := Lib.hid (clone_tb qb c' n (recs l n) W.heap.size wr HO.out hlen n64)
      have h32 := recs_at_lt l n
      have hfl := full_length_le (recs l n)
      go_wp2_with (first
        | (go_at_call 46; refine HCL.out.mono ?_; rintro e w5 ⟨A5, c5, rfl, hown5, hb5⟩; obtain ⟨q5, hA5, -⟩ := own_pos hown5 (by omega); subst hA5; have HO5 := Lib.hid hown5; have HB5 := Lib.hid hb5; have hsz5 := hb5.size; clear hown5 hb5)
        | (go_at_call 45; refine (delete_tb q5 c5 n (recs l n) wr.heap.size w5 HO5.out hlen n64 hsz5).mono ?_; rintro e w6 ⟨rfl, hown6, hb6⟩; have HO6 := Lib.hid hown6; have HB6 := Lib.hid (HB5.out.trans hb6); have hsz6 := (HB5.out.trans hb6).size; clear hown6 hb6)
        | (go_at_call 48; refine (sort_tb q5 c5 (full (recs l n)).length (full (recs l n)) wr.heap.size w6 HO6.out rfl (by omega) hsz6 (fun t ht => (h32 t (List.mem_filter.1 ht).1).1)).mono ?_; rintro e w7 ⟨rfl, hb7, S', hperm, hsort, hown7⟩; have HO7 := Lib.hid hown7; have HB7 := Lib.hid (HB6.out.trans hb7); have HP := Lib.hid hperm; have HS := Lib.hid hsort; clear hown7 hb7 hperm hsort))
      have hfull : Hid ((recs l n).Pairwise apart ↔ ∀ (k : Nat) (t u : Tb), S'[k]? = some t → S'[k + 1]? = some u → t.at_ + t.len ≤ u.at_) := Lib.hid (apart_sorted (recs l n) S' HP.out HS.out).symm
      have hmem : ∀ (i : Nat) (t : Tb), S'[i]? = some t → t.at_ < 4294967296 ∧ t.len < 4294967296 := fun i t h => h32 t (full_mem HP.out h)
      have hSl : Hid (S'.length = (full (recs l n)).length) := Lib.hid HP.out.length_eq
      have HMEM := Lib.hid hmem
      have HV7 := Lib.hid (HV.out.grown HB7.out)
      clear HCL HO5 HO6 HB5 HB6 HP HS h32 hmem
      generalize (full (recs l n)).length = m at *
      go_loopw [10] (fun v wl => ∃ j : Nat, v = .int .i64 j ∧ 1 ≤ j ∧ (j ≤ m ∨ j = 1) ∧ Below w7.heap.size w7 wl ∧ ∀ (i : Nat) (t u : Tb), i + 1 < j → S'[i]? = some t → S'[i + 1]? = some u → t.at_ + t.len ≤ u.at_) (fun v _ => m - (intOf v).toNat)
      case atStart => exact ⟨1, rfl, by omega, .inr rfl, Below.refl _ _, fun i _ _ hi => by omega⟩
      case round =>
        obtain ⟨j, rfl, hj1, hj2, hbl, hne⟩ := hrel
        have HBL := Lib.hid hbl
        have HNE := Lib.hid hne
        clear hbl hne
        by_cases hjm : j < m
        · have b0 : (0 : Int) ≤ (j : Int) := by omega
          obtain ⟨t, ht⟩ : ∃ t, S'[j - 1]? = some t := ⟨S'[j - 1]'(by rw [hSl.out]; omega), List.getElem?_eq_getElem _⟩
          obtain ⟨u, hu⟩ : ∃ u, S'[j]? = some u := ⟨S'[j]'(by rw [hSl.out]; omega), List.getElem?_eq_getElem _⟩
          have HT := Lib.hid ht
          have HU := Lib.hid hu
          clear ht hu
          have wj : IntKind.i64.wrap ((j : Int) + 1) = ((j + 1 : Nat) : Int) := by rw [IntWalk.i64_in _ (by omega)]; omega
          go_wp2_with fail
          refine tab_r22 (m := m) (pk := j - 1) (t := t) (u := u) (by omega) hjm (by omega) (Lib.hid (own_below HO7.out (HBL.out))) HT HU (HMEM.out _ _ HT.out).1 (HMEM.out _ _ HT.out).2 (HMEM.out _ _ HU.out).1 ?_ ?_
          rotate_left
          · intro e22 hno
            intros
            refine tab_refuse rfl rfl HLW.out HEW.out HBWW.out ((HV7.out.grown HBL.out).grown e22.below) (tablesF_pair hn.out (fun hp => hno (hfull.out.1 hp (j - 1) t u HT.out (by rw [show j - 1 + 1 = j from by omega]; exact HU.out))))
          intro e22 hok22
          intros
          have HB22 := Lib.hid (HBL.out.trans (e22.below.mono HBL.out.size))
          generalize e22.w = w22 at *
          go_wp2_with fail
          go_roundw
          case rel =>
            refine ⟨j + 1, by go_num, by omega, .inl (by omega), HB22.out, fun i t' u' hi h1 h2 => ?_⟩
            rcases Nat.lt_or_ge (i + 1) j with h | h
            · exact HNE.out i t' u' h h1 h2
            · have e1 : i = j - 1 := by omega
              have e2 : i + 1 = j := by omega
              rw [e2, HU.out] at h2
              rw [e1, HT.out] at h1
              cases h1
              cases h2
              exact hok22
          case measure => simp [intOf]; omega
        · have HVL := Lib.hid (HV7.out.grown HBL.out)
          have hcl := HVL.out.val HLW.out
          have hfz := HVL.out.frozen HLW.out
          have HVS := Lib.hid (HVL.out.store HLW.out (.slice (some ⟨qb, 0, none⟩) n c'))
          have hce := blk_cell ((HVL.out.other (lt_of_heap HEW.out) (by omega)).trans HEW.out)
          have hfe := blk_frozen ((HVL.out.other (lt_of_heap HEW.out) (by omega)).trans HEW.out)
          have HVF := Lib.hid (HVS.out.same ((HVS.out.other (lt_of_heap HEW.out) (by omega)).trans HEW.out))
          have HOF := Lib.hid (ownsRow_setCell_below (ownsRow_setCell_below (own_below HO.out (HB7.out.trans (HBL.out.mono HB7.out.size))) (a := ⟨w.heap.size, 0, none⟩) (lt_of_heap HLW.out) (.slice (some ⟨qb, 0, none⟩) n c')) (a := ⟨w.heap.size + 1, 0, none⟩) (lt_of_heap HEW.out) (.int .i64 0))
          have hsome : Hid (tablesF l = some (recs l n)) := Lib.hid (tablesF_some hn.out ⟨f1, f2, n1, n64, HHD.out, hfit⟩ HR0.out ((recs_pairwise l n).1 (hfull.out.2 (fun k t u h1 h2 => HNE.out k t u (by have := List.getElem?_eq_some_iff.1 h2; obtain ⟨h3, -⟩ := this; rw [hSl.out] at h3; omega) h1 h2))))
          go_wp2_with fail
          exact tab_done rfl rfl HLW.out HEW.out HBWW.out HVF.out hsome.out HOF.out
end Go.Proofs.YtfbppbelcbbhlaaGreatDoor.Sf
