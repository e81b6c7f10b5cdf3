/- SfntJoins answers true, whatever tables come in. -/
import Derived.Test.YtfbppbelcbbhlaaGreatDoorKnMapF
import Derived.Test.YtfbppbelcbbhlaaGreatDoorKnRound2
import Derived.Test.YtfbppbelcbbhlaaGreatDoorKnJoinRW
import Derived.Test.YtfbppbelcbbhlaaGreatDoorKnTabsBad
import Derived.Test.YtfbppbelcbbhlaaGreatDoorKnJoinR
import Derived.Deep.CutRange
import Derived.Deep.CutBlock
import Derived.Deep.DeepCutAuto
namespace Go.Proofs.YtfbppbelcbbhlaaGreatDoor.Sf
open Go Go.RowKit

set_option maxRecDepth 100000 in
set_option maxHeartbeats 2000000 in
theorem joins_law (A B : Option Addr) (ca cb : Nat) (tags : List Tg) (ls : List (List Nat)) (w : World) (hT : TagsR w A ca tags) (hB : BodsR w B cb ls) (hd : HdVar w) (hz : ∀ k, (ls.getD k []).length ≤ 140737488355328) :
    Calls Tryz.prog 6 #[.slice A tags.length ca, .slice B ls.length cb] w fun e w' => e = .returned (.bool true) ∧ Below w.heap.size w w' := by
  have HT := Lib.hid hT
  have HB := Lib.hid hB
  have HD := Lib.hid hd
  have HZ := Lib.hid hz
  have m1 := hT.le
  have m2 := hB.le
  have k1 := hT.max
  have k2 := hB.max
  clear hT hB hd hz
  go_enter Tryz.func6, Tryz.ntmps6
  go_upto_block 0 with fail
  go_cut [5, 6] from 15 to 169 (fun v i wx => ∃ k : Nat, k ≤ ls.length ∧ v = .int .i64 (lenTo ls k : Nat) ∧ i = .int .i64 k ∧ (k = ls.length ∨ 70 < k ∨ 5000 < lenTo ls k) ∧ w = wx)
  case first =>
    go_wp2_with fail
    go_loopw [5, 6] (fun v i wr => ∃ k : Nat, k ≤ ls.length ∧ k ≤ 71 ∧ v = .int .i64 (lenTo ls k : Nat) ∧ i = .int .i64 k ∧ lenTo ls k ≤ 140737488360328 ∧ w = wr) (fun _ i _ => 80 - (intOf i).toNat)
    case atStart => exact ⟨0, by omega, by omega, rfl, rfl, by simp [lenTo], rfl⟩
    case round =>
      obtain ⟨k, hk, hk2, rfl, rfl, hlen, rfl⟩ := hrel
      by_cases c1 : k < ls.length
      case neg =>
        have d1 : decide ((k : Int) < (ls.length : Int)) = false := decide_eq_false (by omega)
        have d1b : decide (k < ls.length) = false := decide_eq_false (by omega)
        go_wp2_with fail
        go_meet
        case rel => exact ⟨k, hk, rfl, rfl, .inl (by omega), rfl⟩
      have d1 : decide ((k : Int) < (ls.length : Int)) = true := decide_eq_true (by omega)
      have d1b : decide (k < ls.length) = true := decide_eq_true (by omega)
      by_cases c2 : k ≤ 70
      case neg =>
        have d2 : decide ((k : Int) ≤ 70) = false := decide_eq_false (by omega)
        have d2b : decide (k ≤ 70) = false := decide_eq_false (by omega)
        go_wp2_with fail
        go_meet
        case rel => exact ⟨k, hk, rfl, rfl, .inr (.inl (by omega)), rfl⟩
      have d2 : decide ((k : Int) ≤ 70) = true := decide_eq_true (by omega)
      have d2b : decide (k ≤ 70) = true := decide_eq_true (by omega)
      have hadd : lenTo ls (k + 1) = lenTo ls k + (ls.getD k []).length := rfl
      have hzk := HZ.out k
      by_cases c3 : lenTo ls k ≤ 5000
      case neg =>
        have hgt : 5000 < lenTo ls k := by omega
        generalize hL : lenTo ls k = L at *
        have d3 : decide ((L : Int) ≤ 5000) = false := decide_eq_false (by omega)
        have d3b : decide (L ≤ 5000) = false := decide_eq_false (by omega)
        have HL := Lib.hid hL
        clear hL hadd
        go_wp2_with fail
        go_meet
        case rel => exact ⟨k, hk, by rw [HL.out], rfl, .inr (.inr (by rw [HL.out]; exact hgt)), rfl⟩
      obtain ⟨bb, bbo, hBe, hcells⟩ := HB.out.cells (by omega)
      subst hBe
      obtain ⟨A', c', hcell, -⟩ := hcells k _ (getD_at ls k [] c1)
      clear hcells
      have b0 : (0 : Int) ≤ (k : Int) := by omega
      have b1 : (k : Int) < (ls.length : Int) := by omega
      have wk : IntKind.i64.wrap ((k : Int) + 1) = ((k + 1 : Nat) : Int) := by rw [IntWalk.i64_in _ (by omega)]; omega
      obtain ⟨m, hm⟩ : ∃ m, m = (ls.getD k []).length := ⟨_, rfl⟩
      obtain ⟨L, hL⟩ : ∃ L, L = lenTo ls k := ⟨_, rfl⟩
      rw [← hm] at hcell hzk
      rw [← hm, ← hL] at hadd
      rw [← hL] at c3 hlen ⊢
      have HA := Lib.hid hadd
      have d3 : decide ((L : Int) ≤ 5000) = true := decide_eq_true (by omega)
      have d3b : decide (L ≤ 5000) = true := decide_eq_true (by omega)
      have wL : IntKind.i64.wrap ((L : Int) + (m : Int)) = ((L + m : Nat) : Int) := by rw [IntWalk.i64_in _ (by omega)]; omega
      clear hm hL hadd
      go_wp2_with fail
      go_roundw
      case rel => exact ⟨k + 1, by omega, by omega, by rw [HA.out, Int.natCast_add], by go_num, by rw [HA.out]; omega, by simp⟩
      case measure => simp [intOf]; omega
  case rest =>
  obtain ⟨k, hk, rfl, rfl, hex, rfl⟩ := hcut
  have HWK := Lib.hid (works_any w HD.out)
  by_cases t70 : tags.length ≤ 70
  case neg =>
    have d1 : decide ((70 : Int) < (tags.length : Int)) = true := decide_eq_true (by omega)
    have d1b : decide (70 < tags.length) = true := decide_eq_true (by omega)
    go_wp2_with (go_at_call 12; refine HWK.out.mono ?_; rintro e w2 ⟨rfl, hb⟩; have HBW := Lib.hid hb; clear hb)
    go_ret
    exact ⟨rfl, HBW.out⟩
  have d1 : decide ((70 : Int) < (tags.length : Int)) = false := decide_eq_false (by omega)
  have d1b : decide (70 < tags.length) = false := decide_eq_false (by omega)
  by_cases b70 : ls.length ≤ 70
  case neg =>
    have d2 : decide ((70 : Int) < (ls.length : Int)) = true := decide_eq_true (by omega)
    have d2b : decide (70 < ls.length) = true := decide_eq_true (by omega)
    go_wp2_with (go_at_call 12; refine HWK.out.mono ?_; rintro e w2 ⟨rfl, hb⟩; have HBW := Lib.hid hb; clear hb)
    go_ret
    exact ⟨rfl, HBW.out⟩
  have d2 : decide ((70 : Int) < (ls.length : Int)) = false := decide_eq_false (by omega)
  have d2b : decide (70 < ls.length) = false := decide_eq_false (by omega)
  obtain ⟨L, hL⟩ : ∃ L, L = lenTo ls k := ⟨_, rfl⟩
  rw [← hL] at hex ⊢
  by_cases n5 : L ≤ 5000
  case neg =>
    have d3 : decide ((5000 : Int) < (L : Int)) = true := decide_eq_true (by omega)
    have d3b : decide (5000 < L) = true := decide_eq_true (by omega)
    go_wp2_with (go_at_call 12; refine HWK.out.mono ?_; rintro e w2 ⟨rfl, hb⟩; have HBW := Lib.hid hb; clear hb)
    go_ret
    exact ⟨rfl, HBW.out⟩
  have d3 : decide ((5000 : Int) < (L : Int)) = false := decide_eq_false (by omega)
  have d3b : decide (5000 < L) = false := decide_eq_false (by omega)
  have hup : upTo ls ls.length ≤ 5210 := by
    have h1 := upTo_lenTo ls ls.length
    have h2 : k = ls.length := by omega
    rw [← h2] at h1 ⊢
    omega
  clear hex hL
  have HJ := Lib.hid (join_any A B ca cb tags ls w HT.out HB.out HD.out (by omega))
  have hlt : ∀ l ∈ ls, ∀ x ∈ l, x < 256 := fun l hl => by
    obtain ⟨i, hi, he⟩ := List.getElem_of_mem hl
    obtain ⟨bb, bbo, -, hcells⟩ := HB.out.cells (by omega)
    obtain ⟨A', c', -, hy⟩ := hcells i l (by rw [List.getElem?_eq_getElem hi, he])
    exact hy.lt
  have HJR := Lib.hid (fun W (hW : Below w.heap.size w W) => join_ref A B ca cb tags ls W (HT.out.kept (kept_of_below hW)) (HB.out.kept (kept_of_below hW)) (by omega))
  by_cases hok : joinOk tags ls
  case neg =>
    have hj : joinF tags ls = none := by unfold joinF; rw [if_neg hok]
    rw [hj] at HJ HJR
    go_wp2_with fail
    refine HJ.out.mono ?_
    rintro e w2 ⟨rfl, hb2⟩
    have HB2 := Lib.hid hb2
    clear hb2 HJ
    go_wp2_with fail
    refine (HJR.out _ HB2.out).mono ?_
    rintro e w3 ⟨rfl, hb3⟩
    have HB3 := Lib.hid (HB2.out.trans (hb3.mono HB2.out.size))
    have hnil : Byt w3 none 0 [] := ⟨Nat.le_refl _, by simp, fun _ => rfl, fun h => absurd rfl h, fun _ h => by cases h⟩
    have hsb := sameBytes_any none none 0 0 [] [] w3 hnil hnil
    rw [decide_eq_true (rfl : ([] : List Nat) = [])] at hsb
    have HSB := Lib.hid hsb
    have HWK2 := Lib.hid (works_any w3 (HD.out.kept (kept_of_below HB3.out)))
    clear hb3 hnil hsb HJR
    go_wp2_with (first | (go_at_call 21; refine HSB.out.mono ?_; rintro e w' ⟨rfl, rfl⟩) | (go_at_call 12; refine HWK2.out.mono ?_; rintro e w4 ⟨rfl, hb⟩; have HB4 := Lib.hid hb; clear hb))
    go_ret
    exact ⟨rfl, HB3.out.trans (HB4.out.mono HB3.out.size)⟩
  have hj : joinF tags ls = some (fileB tags ls) := by unfold joinF; rw [if_pos hok]
  obtain ⟨ls', HJD⟩ := joined tags ls hok.1 hlt
  have HX := Lib.hid HJD
  have HOK := Lib.hid hok
  have htl : tags.length = ls.length := hok.1
  have htf := joined_tables HJD hok (by rw [htl]; omega)
  have hfl := joined_length HJD
  have hftlt : ∀ x ∈ fileB tags ls, x < 256 := by
    rw [HJD.file]
    exact rawB_lt tags ls' HT.out.ok HJD.lt
  rw [hj] at HJ HJR
  clear HJD hj hok hlt
  obtain ⟨file, hfile⟩ : ∃ file, file = fileB tags ls := ⟨_, rfl⟩
  have HF := Lib.hid hfile
  rw [← hfile] at HJ HJR htf hfl hftlt
  clear hfile
  have HTF := Lib.hid htf
  have HTL := Lib.hid htl
  have HFL := Lib.hid hfl
  have HFLT := Lib.hid hftlt
  clear htf htl hfl hftlt d1 d1b d2 d2b d3 d3b
  go_wp2_with fail
  refine HJ.out.mono ?_
  rintro e w2 ⟨A1, c1, rfl, ho1, hb⟩
  obtain ⟨-, A1', c1', hA1, hy1⟩ := byt_of_own ho1 HFLT.out
  cases hA1
  have HB2 := Lib.hid hb
  have HY1 := Lib.hid hy1
  clear hb ho1 HJ hy1
  go_wp2_with fail
  refine (HJR.out _ HB2.out).mono ?_
  rintro e w3 ⟨A2, c2, rfl, ho2, hb⟩
  obtain ⟨-, A2', c2', hA2, hy2⟩ := byt_of_own ho2 HFLT.out
  cases hA2
  have HB3 := Lib.hid (HB2.out.trans (hb.mono HB2.out.size))
  have HY3 := Lib.hid (HY1.out.below hb)
  have hsb := sameBytes_any A1 A2 c1 c2 file file w3 HY3.out hy2
  rw [decide_eq_true (rfl : file = file)] at hsb
  have HSB := Lib.hid hsb
  have hd3 := HD.out.kept (kept_of_below HB3.out)
  have ht3 := tables_any A1 c1 file w3 HY3.out hd3
  rw [HTF.out] at ht3
  have HTX := Lib.hid ht3
  have htlen : (tabsOf tags ls).length = tags.length := by simp [tabsOf]
  clear hb ho2 hy2 HJR hsb hd3 ht3
  go_wp2_with (go_at_call 21; refine HSB.out.mono ?_; rintro e w' ⟨rfl, rfl⟩)
  refine HTX.out.mono ?_
  rintro e w4 ⟨A3, c3, rfl, ho4, hb4⟩
  rw [htlen] at ho4 ⊢
  have HO4 := Lib.hid ho4
  have HB4 := Lib.hid (HB3.out.trans (hb4.mono HB3.out.size))
  have HY4 := Lib.hid (HY3.out.below hb4)
  clear ho4 hb4 HTX htlen HSB
  go_wp2_with fail
  go_loopw [12] (fun v wr => ∃ i : Nat, i ≤ tags.length ∧ v = .int .i64 i ∧ Below w4.heap.size w4 wr) (fun v _ => tags.length - (intOf v).toNat)
  case atStart => exact ⟨0, by omega, rfl, Below.refl _ _⟩
  case round =>
    obtain ⟨i, hi, rfl, hbl⟩ := hrel
    have HBL := Lib.hid hbl
    clear hbl
    by_cases ci : i < tags.length
    · obtain ⟨q, hA3, -⟩ := own_pos HO4.out (by omega)
      subst hA3
      have htab : (tabsOf tags ls)[i]? = some ⟨tags.getD i noTag, 12 + 16 * tags.length + upTo ls i, (ls.getD i []).length⟩ := by simp [tabsOf, ci]
      have htc := row_tb (own_below HO4.out HBL.out) i ci _ htab
      obtain ⟨t, ht⟩ : ∃ t, t = tags.getD i noTag := ⟨_, rfl⟩
      obtain ⟨at_, hat⟩ : ∃ at_, at_ = 12 + 16 * tags.length + upTo ls i := ⟨_, rfl⟩
      obtain ⟨m, hm⟩ : ∃ m, m = (ls.getD i []).length := ⟨_, rfl⟩
      rw [← ht, ← hat, ← hm] at htc
      have HT1 := Lib.hid ht
      have HAT := Lib.hid hat
      have HM := Lib.hid hm
      have z0 := htc.a
      have z1 := htc.b
      have z2 := htc.c
      have z3 := htc.d
      have z4 := htc.at_
      have z5 := htc.len
      have b0 : (0 : Int) ≤ (i : Int) := by omega
      have b1 : (i : Int) < (tags.length : Int) := by omega
      clear htab htc ht hat hm
      have hfit : at_ + m ≤ file.length := by
        have h1 := upTo_mono ls (i + 1) tags.length (by omega)
        have h2 := up_ge (ls.getD i []).length
        have h3 := HFL.out
        have h4 := HAT.out
        have h5 := HM.out
        simp only [upTo] at h1
        omega
      have hsmall : file.length ≤ 100000 := by have := HFL.out; have h2 := HTL.out; rw [h2] at this; omega
      go_upto_region 21 with (fail)
      have hba := heap_alloc_new wr (.cells #[.int .u8 t.a, .int .u8 t.b, .int .u8 t.c, .int .u8 t.d, .int .i64 at_, .int .i64 m] 48)
      have hbb := (Below.refl wr.heap.size wr).alloc (Nat.le_refl _) (.cells #[.int .u8 t.a, .int .u8 t.b, .int .u8 t.c, .int .u8 t.d, .int .i64 at_, .int .i64 m] 48)
      generalize (wr.alloc (.cells #[.int .u8 t.a, .int .u8 t.b, .int .u8 t.c, .int .u8 t.d, .int .i64 at_, .int .i64 m] 48)) = w21 at *
      obtain ⟨xb, hxb⟩ : ∃ xb, xb = wr.heap.size := ⟨_, rfl⟩
      have HB21 := Lib.hid (HBL.out.trans (hbb.mono HBL.out.size))
      rw [← hxb] at hba ⊢
      have y0 := cell_of_blk hba 0
      have y1 := cell_of_blk hba 1
      have y2 := cell_of_blk hba 2
      have y3 := cell_of_blk hba 3
      have y4 := cell_of_blk hba 4
      have y5 := cell_of_blk hba 5
      simp at y0 y1 y2 y3 y4 y5
      have hBw := HB4.out.trans (HB21.out.mono HB4.out.size)
      obtain ⟨tb, tbo, hTe, hcells⟩ := (HT.out.kept (kept_of_below hBw)).cells (by omega)
      obtain ⟨g0, g1, g2, g3⟩ := hcells i _ (getD_at tags i noTag ci)
      obtain ⟨bb, bbo, hBe, hbcells⟩ := (HB.out.kept (kept_of_below hBw)).cells (by have := HTL.out; omega)
      obtain ⟨A', c', hbcell, hby⟩ := hbcells i _ (getD_at ls i [] (by have := HTL.out; omega))
      subst hTe hBe
      rw [← HT1.out] at g0 g1 g2 g3
      rw [← HM.out] at hbcell
      have HBY := Lib.hid hby
      have HBW := Lib.hid hBw
      have HY21 := Lib.hid (HY4.out.below HB21.out)
      have p0 : ∀ e : Grown w21, e.w.cell? ⟨xb, 0, none⟩ = some (.int .u8 t.a) := fun e => e.cell y0
      have p1 : ∀ e : Grown w21, e.w.cell? ⟨xb, 1, none⟩ = some (.int .u8 t.b) := fun e => e.cell y1
      have p2 : ∀ e : Grown w21, e.w.cell? ⟨xb, 2, none⟩ = some (.int .u8 t.c) := fun e => e.cell y2
      have p3 : ∀ e : Grown w21, e.w.cell? ⟨xb, 3, none⟩ = some (.int .u8 t.d) := fun e => e.cell y3
      have p4 : ∀ e : Grown w21, e.w.cell? ⟨xb, 4, none⟩ = some (.int .i64 at_) := fun e => e.cell y4
      have p5 : ∀ e : Grown w21, e.w.cell? ⟨xb, 5, none⟩ = some (.int .i64 m) := fun e => e.cell y5
      have r0 : ∀ e : Grown w21, e.w.cell? ⟨tb, tbo + i * 4, none⟩ = some (.int .u8 t.a) := fun e => e.cell g0
      have r1 : ∀ e : Grown w21, e.w.cell? ⟨tb, tbo + i * 4 + 1, none⟩ = some (.int .u8 t.b) := fun e => e.cell g1
      have r2 : ∀ e : Grown w21, e.w.cell? ⟨tb, tbo + i * 4 + 2, none⟩ = some (.int .u8 t.c) := fun e => e.cell g2
      have r3 : ∀ e : Grown w21, e.w.cell? ⟨tb, tbo + i * 4 + 3, none⟩ = some (.int .u8 t.d) := fun e => e.cell g3
      have r4 : ∀ e : Grown w21, e.w.cell? ⟨bb, bbo + i, none⟩ = some (.slice A' m c') := fun e => e.cell hbcell
      have hq : ∀ w, (Op.equalIn 10000 23 (.agg #[.int .u8 t.a, .int .u8 t.b, .int .u8 t.c, .int .u8 t.d]) (.agg #[.int .u8 t.a, .int .u8 t.b, .int .u8 t.c, .int .u8 t.d])).run Tryz.prog w = .ok true w := fun w => by
        have := run_equal_tag t t w
        rw [decide_eq_true rfl] at this
        exact this
      have hg := tagGuard
      have b2 : (i : Int) < (ls.length : Int) := by have := HTL.out; omega
      have d1 : decide ((at_ : Int) < 0) = false := decide_eq_false (by omega)
      have w1 : IntKind.i64.wrap ((file.length : Int) - (m : Int)) = (file.length : Int) - (m : Int) := IntWalk.i64_in _ (by omega)
      have d3 : decide ((file.length : Int) - (m : Int) < (at_ : Int)) = false := decide_eq_false (by omega)
      clear hba hbb hBw hcells hbcells hby g0 g1 g2 g3 hxb z0 z1 z2 z3 z4 z5
      refine wp_region_grown (by kernel_rfl) (by kernel_rfl) ?_
      repeat (go_big_quiet_step (fail))
      refine wpQuiet_nil ?_
      rintro _ ⟨eg, rfl⟩
      have hbg := eg.below
      generalize eg.w = w22 at *
      have hY0 := HY21.out
      obtain ⟨fb, fbo, hA1, hfc⟩ := hY0.cells (by have := HFL.out; omega)
      subst hA1
      have HFC := Lib.hid hfc
      clear hY0 hfc p0 p1 p2 p3 p4 p5 r0 r1 r2 r3 r4 hq d1 w1 d3
      go_wp2_with fail
      go_loopw [14] (fun v wt => ∃ k : Nat, k ≤ m ∧ v = .int .i64 k ∧ Below w21.heap.size w21 wt) (fun v _ => m - (intOf v).toNat)
      case atStart => exact ⟨0, by omega, rfl, hbg⟩
      case round =>
        obtain ⟨k, hk, rfl, hbk⟩ := hrel
        have kk := kept_of_below hbk
        have HBK := Lib.hid hbk
        have x5 := kk.cell y5
        by_cases ck : k < m
        · have hbody := HBY.out
          obtain ⟨ob, obo, hA', hoc⟩ := hbody.cells (by have := HM.out; omega)
          subst hA'
          have fcell := HFC.out (at_ + k) (by omega)
          have ocell := hoc k (by have := HM.out; omega)
          have hbytes := HX.out.bytes i k
          have hpart : (file.drop at_).take m = ls'.getD i [] := by
            rw [HF.out, HAT.out, HM.out]
            exact joined_part HX.out i ci
          have hga : (ls'.getD i []).getD k 0 = file.getD (at_ + k) 0 := by
            rw [← hpart]
            simp [List.getD_eq_getElem?_getD, ck]
          rw [hga, ← HT1.out, ← HM.out] at hbytes
          obtain ⟨fa, hfa⟩ : ∃ fa, fa = file.getD (at_ + k) 0 := ⟨_, rfl⟩
          obtain ⟨oa, hoa⟩ : ∃ oa, oa = (ls.getD i []).getD k 0 := ⟨_, rfl⟩
          rw [← hfa] at fcell hbytes
          rw [← hoa] at ocell hbytes
          have c1' : (0 : Int) ≤ ((at_ + k : Nat) : Int) := by omega
          have c2' : ((at_ + k : Nat) : Int) < (file.length : Int) := by omega
          have c3' : (0 : Int) ≤ (k : Int) := by omega
          have c4' : (k : Int) < (m : Int) := by omega
          have wak : IntKind.i64.wrap ((at_ : Int) + (k : Int)) = ((at_ + k : Nat) : Int) := by rw [IntWalk.i64_in _ (by omega)]; omega
          have wk : IntKind.i64.wrap ((k : Int) + 1) = ((k + 1 : Nat) : Int) := by rw [IntWalk.i64_in _ (by omega)]; omega
          obtain ⟨ak, hak⟩ : ∃ ak, ak = at_ + k := ⟨_, rfl⟩
          rw [← hak] at fcell c1' c2' wak
          have p0 : ∀ e : Grown wr, e.w.cell? ⟨xb, 0, none⟩ = some (.int .u8 t.a) := fun e => e.cell (kk.cell y0)
          have p1 : ∀ e : Grown wr, e.w.cell? ⟨xb, 1, none⟩ = some (.int .u8 t.b) := fun e => e.cell (kk.cell y1)
          have p2 : ∀ e : Grown wr, e.w.cell? ⟨xb, 2, none⟩ = some (.int .u8 t.c) := fun e => e.cell (kk.cell y2)
          have p3 : ∀ e : Grown wr, e.w.cell? ⟨xb, 3, none⟩ = some (.int .u8 t.d) := fun e => e.cell (kk.cell y3)
          have p4 : ∀ e : Grown wr, e.w.cell? ⟨xb, 4, none⟩ = some (.int .i64 at_) := fun e => e.cell (kk.cell y4)
          have p5 : ∀ e : Grown wr, e.w.cell? ⟨xb, 5, none⟩ = some (.int .i64 m) := fun e => e.cell (kk.cell y5)
          have r4 : ∀ e : Grown wr, e.w.cell? ⟨bb, bbo + i, none⟩ = some (.slice (some ⟨ob, obo, none⟩) m c') := fun e => e.cell (kk.cell hbcell)
          have r5 : ∀ e : Grown wr, e.w.cell? ⟨fb, fbo + ak, none⟩ = some (.int .u8 fa) := fun e => e.cell (kk.cell fcell)
          have r6 : ∀ e : Grown wr, e.w.cell? ⟨ob, obo + k, none⟩ = some (.int .u8 oa) := fun e => e.cell (kk.cell ocell)
          have hq := run_equal_hd t
          clear hbody hoc fcell ocell hpart hga hfa hoa hak kk hbk
          by_cases hab : fa = oa
          · subst hab
            clear hbytes
            go_upto_region 26 with (fail)
            refine wp_region_grown (by kernel_rfl) (by kernel_rfl) ?_
            repeat (go_big_quiet_step (fail))
            refine wpQuiet_nil ?_
            rintro _ ⟨eg2, rfl⟩
            have HBG := Lib.hid (HBK.out.trans (eg2.below.mono HBK.out.size))
            go_wp2_with fail
            go_roundw
            case rel => exact ⟨k + 1, by omega, by go_num, HBG.out⟩
            case measure => simp [intOf]; omega
          · obtain ⟨e1, e2, e3, e4⟩ := hbytes.resolve_left hab
            rw [decide_eq_true e1] at hq
            have f1 : ((fa : Int) == (oa : Int)) = false := by simp; omega
            have f1b : (fa == oa) = false := by simp; omega
            have f1c : decide (fa = oa) = false := decide_eq_false hab
            have f1d : ((fa : Int) != (oa : Int)) = true := by simp; omega
            have f1e : (fa != oa) = true := by simp; omega
            have f1f : (!decide (fa = oa)) = true := by rw [f1c]; rfl
            have HAB := Lib.hid hab
            have f2 : decide ((12 : Int) ≤ (m : Int)) = true := decide_eq_true (by omega)
            have f2b : decide (12 ≤ m) = true := decide_eq_true e2
            have f3 : decide ((8 : Int) ≤ (k : Int)) = true := decide_eq_true (by omega)
            have f3b : decide (8 ≤ k) = true := decide_eq_true e3
            have f4 : decide ((k : Int) < 12) = true := decide_eq_true (by omega)
            have f4b : decide (k < 12) = true := decide_eq_true e4
            clear e1 e2 e3 e4 hbytes hab
            go_upto_region 26 with (fail)
            refine wp_region_grown (by kernel_rfl) (by kernel_rfl) ?_
            repeat (go_big_quiet_step (fail))
            refine wpQuiet_nil ?_
            rintro _ ⟨eg2, rfl⟩
            have HBG := Lib.hid (HBK.out.trans (eg2.below.mono HBK.out.size))
            go_wp2_with fail
            go_roundw
            case rel => exact ⟨k + 1, by omega, by go_num, HBG.out⟩
            case measure => simp [intOf]; omega
        · have wi : IntKind.i64.wrap ((i : Int) + 1) = ((i + 1 : Nat) : Int) := by rw [IntWalk.i64_in _ (by omega)]; omega
          go_wp2_with fail
          go_roundw
          case rel => exact ⟨i + 1, by omega, by go_num, HB21.out.trans (HBK.out.mono HB21.out.size)⟩
          case measure => simp [intOf]; omega
    · have HWX := Lib.hid (works_any wr (HD.out.kept (kept_of_below (HB4.out.trans (HBL.out.mono HB4.out.size)))))
      go_wp2_with (go_at_call 12; refine HWX.out.mono ?_; rintro e w9 ⟨rfl, hb9⟩; have HB9 := Lib.hid hb9; clear hb9)
      go_ret
      have hb := HB4.out.trans (HBL.out.mono HB4.out.size)
      exact ⟨rfl, hb.trans (HB9.out.mono hb.size)⟩
end Go.Proofs.YtfbppbelcbbhlaaGreatDoor.Sf
