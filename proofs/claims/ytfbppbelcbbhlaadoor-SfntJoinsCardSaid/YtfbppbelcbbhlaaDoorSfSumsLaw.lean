/- SfntSums answers true, whatever tables come in. -/
import Derived.Test.YtfbppbelcbbhlaaDoorSfWorks
import Derived.Test.YtfbppbelcbbhlaaDoorSfRound2
import Derived.Test.YtfbppbelcbbhlaaDoorSfSumsW
import Derived.Test.YtfbppbelcbbhlaaDoorSfTabsBad
import Derived.Deep.CutRange
import Derived.Deep.CutBlock
import Derived.Deep.DeepCutAuto
namespace Go.Proofs.YtfbppbelcbbhlaaDoor.Sf
open Go Go.RowKit

def lenTo (ls : List (List Nat)) : Nat → Nat
  | 0 => 0
  | k + 1 => lenTo ls k + (ls.getD k []).length
theorem upTo_lenTo (ls : List (List Nat)) (k : Nat) : upTo ls k ≤ lenTo ls k + 3 * k := by
  induction k with
  | zero => simp [upTo, lenTo]
  | succ k ih => have := up_ge (ls.getD k []).length; simp only [upTo, lenTo]; omega
set_option maxRecDepth 100000 in
set_option maxHeartbeats 2000000 in
theorem sums_law (A B : Option Addr) (ca cb : Nat) (tags : List Tg) (ls : List (List Nat)) (w : World) (hT : TagsR w A ca tags) (hB : BodsR w B cb ls) (hd : HdVar w) (hz : ∀ k, (ls.getD k []).length ≤ 140737488355328) :
    Calls Tryd.prog 5 #[.slice A tags.length ca, .slice B ls.length cb] w fun e w' => e = .returned (.bool true) ∧ Below w.heap.size w w' := by
  have HT := Lib.hid hT
  have HB := Lib.hid hB
  have HD := Lib.hid hd
  have HZ := Lib.hid hz
  have m1 := hT.le
  have m2 := hB.le
  have k1 := hT.max
  have k2 := hB.max
  clear hT hB hd hz
  go_enter Tryd.func5, Tryd.ntmps5
  go_upto_block 0 with fail
  go_cut [5, 6] from 16 to 193 (fun v i wx => ∃ k : Nat, k ≤ ls.length ∧ v = .int .i64 (lenTo ls k : Nat) ∧ i = .int .i64 k ∧ (k = ls.length ∨ 70 < k ∨ 5000 < lenTo ls k) ∧ w = wx)
  case first =>
    go_wp2_with fail
    go_loopw [5, 6] (fun v i wr => ∃ k : Nat, k ≤ ls.length ∧ k ≤ 71 ∧ v = .int .i64 (lenTo ls k : Nat) ∧ i = .int .i64 k ∧ lenTo ls k ≤ 140737488360328 ∧ w = wr) (fun _ i _ => 80 - (intOf i).toNat)
    case atStart => exact ⟨0, by omega, by omega, rfl, rfl, by simp [lenTo], rfl⟩
    case round =>
      obtain ⟨k, hk, hk2, rfl, rfl, hlen, rfl⟩ := hrel
      by_cases c1 : k < ls.length
      case neg =>
        have d1 : decide ((k : Int) < (ls.length : Int)) = false := decide_eq_false (by omega)
        have d1b : decide (k < ls.length) = false := decide_eq_false (by omega)
        go_wp2_with fail
        go_meet
        case rel => exact ⟨k, hk, rfl, rfl, .inl (by omega), rfl⟩
      have d1 : decide ((k : Int) < (ls.length : Int)) = true := decide_eq_true (by omega)
      have d1b : decide (k < ls.length) = true := decide_eq_true (by omega)
      by_cases c2 : k ≤ 70
      case neg =>
        have d2 : decide ((k : Int) ≤ 70) = false := decide_eq_false (by omega)
        have d2b : decide (k ≤ 70) = false := decide_eq_false (by omega)
        go_wp2_with fail
        go_meet
        case rel => exact ⟨k, hk, rfl, rfl, .inr (.inl (by omega)), rfl⟩
      have d2 : decide ((k : Int) ≤ 70) = true := decide_eq_true (by omega)
      have d2b : decide (k ≤ 70) = true := decide_eq_true (by omega)
      have hadd : lenTo ls (k + 1) = lenTo ls k + (ls.getD k []).length := rfl
      have hzk := HZ.out k
      by_cases c3 : lenTo ls k ≤ 5000
      case neg =>
        have hgt : 5000 < lenTo ls k := by omega
        generalize hL : lenTo ls k = L at *
        have d3 : decide ((L : Int) ≤ 5000) = false := decide_eq_false (by omega)
        have d3b : decide (L ≤ 5000) = false := decide_eq_false (by omega)
        have HL := Lib.hid hL
        clear hL hadd
        go_wp2_with fail
        go_meet
        case rel => exact ⟨k, hk, by rw [HL.out], rfl, .inr (.inr (by rw [HL.out]; exact hgt)), rfl⟩
      obtain ⟨bb, bbo, hBe, hcells⟩ := HB.out.cells (by omega)
      subst hBe
      obtain ⟨A', c', hcell, -⟩ := hcells k _ (getD_at ls k [] c1)
      clear hcells
      have b0 : (0 : Int) ≤ (k : Int) := by omega
      have b1 : (k : Int) < (ls.length : Int) := by omega
      have wk : IntKind.i64.wrap ((k : Int) + 1) = ((k + 1 : Nat) : Int) := by rw [IntWalk.i64_in _ (by omega)]; omega
      obtain ⟨m, hm⟩ : ∃ m, m = (ls.getD k []).length := ⟨_, rfl⟩
      obtain ⟨L, hL⟩ : ∃ L, L = lenTo ls k := ⟨_, rfl⟩
      rw [← hm] at hcell hzk
      rw [← hm, ← hL] at hadd
      rw [← hL] at c3 hlen ⊢
      have HA := Lib.hid hadd
      have d3 : decide ((L : Int) ≤ 5000) = true := decide_eq_true (by omega)
      have d3b : decide (L ≤ 5000) = true := decide_eq_true (by omega)
      have wL : IntKind.i64.wrap ((L : Int) + (m : Int)) = ((L + m : Nat) : Int) := by rw [IntWalk.i64_in _ (by omega)]; omega
      clear hm hL hadd
      go_wp2_with fail
      go_roundw
      case rel => exact ⟨k + 1, by omega, by omega, by rw [HA.out, Int.natCast_add], by go_num, by rw [HA.out]; omega, by simp⟩
      case measure => simp [intOf]; omega
  case rest =>
  obtain ⟨k, hk, rfl, rfl, hex, rfl⟩ := hcut
  have HWK := Lib.hid (works_any w HD.out)
  by_cases t70 : tags.length ≤ 70
  case neg =>
    have d1 : decide ((70 : Int) < (tags.length : Int)) = true := decide_eq_true (by omega)
    have d1b : decide (70 < tags.length) = true := decide_eq_true (by omega)
    go_wp2_with (go_at_call 8; refine HWK.out.mono ?_; rintro e w2 ⟨rfl, hb⟩; have HBW := Lib.hid hb; clear hb)
    go_ret
    exact ⟨rfl, HBW.out⟩
  have d1 : decide ((70 : Int) < (tags.length : Int)) = false := decide_eq_false (by omega)
  have d1b : decide (70 < tags.length) = false := decide_eq_false (by omega)
  by_cases b70 : ls.length ≤ 70
  case neg =>
    have d2 : decide ((70 : Int) < (ls.length : Int)) = true := decide_eq_true (by omega)
    have d2b : decide (70 < ls.length) = true := decide_eq_true (by omega)
    go_wp2_with (go_at_call 8; refine HWK.out.mono ?_; rintro e w2 ⟨rfl, hb⟩; have HBW := Lib.hid hb; clear hb)
    go_ret
    exact ⟨rfl, HBW.out⟩
  have d2 : decide ((70 : Int) < (ls.length : Int)) = false := decide_eq_false (by omega)
  have d2b : decide (70 < ls.length) = false := decide_eq_false (by omega)
  obtain ⟨L, hL⟩ : ∃ L, L = lenTo ls k := ⟨_, rfl⟩
  rw [← hL] at hex ⊢
  by_cases n5 : L ≤ 5000
  case neg =>
    have d3 : decide ((5000 : Int) < (L : Int)) = true := decide_eq_true (by omega)
    have d3b : decide (5000 < L) = true := decide_eq_true (by omega)
    go_wp2_with (go_at_call 8; refine HWK.out.mono ?_; rintro e w2 ⟨rfl, hb⟩; have HBW := Lib.hid hb; clear hb)
    go_ret
    exact ⟨rfl, HBW.out⟩
  have d3 : decide ((5000 : Int) < (L : Int)) = false := decide_eq_false (by omega)
  have d3b : decide (5000 < L) = false := decide_eq_false (by omega)
  have hup : upTo ls ls.length ≤ 5210 := by
    have h1 := upTo_lenTo ls ls.length
    have h2 : k = ls.length := by omega
    rw [← h2] at h1 ⊢
    omega
  clear hex hL
  have HJ := Lib.hid (join_any A B ca cb tags ls w HT.out HB.out HD.out (by omega))
  have hlt : ∀ l ∈ ls, ∀ x ∈ l, x < 256 := fun l hl => by
    obtain ⟨i, hi, he⟩ := List.getElem_of_mem hl
    obtain ⟨bb, bbo, -, hcells⟩ := HB.out.cells (by omega)
    obtain ⟨A', c', -, hy⟩ := hcells i l (by rw [List.getElem?_eq_getElem hi, he])
    exact hy.lt
  by_cases hok : joinOk tags ls
  case neg =>
    have hj : joinF tags ls = none := by unfold joinF; rw [if_neg hok]
    rw [hj] at HJ
    go_wp2_with (first | (go_at_call 13; refine HJ.out.mono ?_; rintro e w2 ⟨rfl, hb⟩; have HB2 := Lib.hid hb; have HWK2 := Lib.hid (works_any w2 (HD.out.kept (kept_of_below hb))); clear hb) | (go_at_call 8; refine HWK2.out.mono ?_; rintro e w3 ⟨rfl, hb⟩; have HB3 := Lib.hid hb; clear hb))
    go_ret
    exact ⟨rfl, HB2.out.trans (HB3.out.mono HB2.out.size)⟩
  have hj : joinF tags ls = some (fileB tags ls) := by unfold joinF; rw [if_pos hok]
  obtain ⟨ls', HJD⟩ := joined tags ls hok.1 hlt
  have HX := Lib.hid HJD
  have HOK := Lib.hid hok
  have htl : tags.length = ls.length := hok.1
  have htf := joined_tables HJD hok (by rw [htl]; omega)
  have hfl := joined_length HJD
  have hftlt : ∀ x ∈ fileB tags ls, x < 256 := by
    rw [HJD.file]
    exact rawB_lt tags ls' HT.out.ok HJD.lt
  have hsums := HJD.sum
  rw [hj] at HJ
  clear HJD hj hok hlt
  obtain ⟨file, hfile⟩ : ∃ file, file = fileB tags ls := ⟨_, rfl⟩
  have HF := Lib.hid hfile
  rw [← hfile] at HJ htf hfl hftlt hsums
  clear hfile
  have HSUM := Lib.hid hsums
  have HTF := Lib.hid htf
  have HTL := Lib.hid htl
  have HFL := Lib.hid hfl
  clear hsums htf htl hfl
  go_wp2_with fail
  refine HJ.out.mono ?_
  rintro e w2 ⟨A1, c1, rfl, ho1, hb⟩
  have HB2 := Lib.hid hb
  have HO1 := Lib.hid ho1
  clear hb ho1 HJ
  obtain ⟨-, A1', c1', hA1, hy1⟩ := byt_of_own HO1.out hftlt
  cases hA1
  have HY1 := Lib.hid hy1
  have HT2 := Lib.hid (HT.out.kept (kept_of_below HB2.out))
  have HB2R := Lib.hid (HB.out.kept (kept_of_below HB2.out))
  have HD2 := Lib.hid (HD.out.kept (kept_of_below HB2.out))
  have HSM := Lib.hid (sum_bin A1 c1 file w2 hy1)
  have hg := tagGuard
  clear hy1 hftlt d1 d1b d2 d2b d3 d3b
  go_wp2_with fail
  go_loopw [9] (fun v wr => ∃ i : Nat, i ≤ tags.length ∧ v = .int .i64 i ∧ w2 = wr) (fun v _ => tags.length - (intOf v).toNat)
  case atStart => exact ⟨0, by omega, rfl, rfl⟩
  case round =>
    obtain ⟨i, hi, rfl, rfl⟩ := hrel
    by_cases ci : i < tags.length
    · obtain ⟨tb, tbo, hTe, hcells⟩ := HT2.out.cells (by omega)
      have hcell := hcells i _ (getD_at tags i noTag ci)
      obtain ⟨bb, bbo, hBe, hbcells⟩ := HB2R.out.cells (by have := HTL.out; omega)
      obtain ⟨A', c', hbcell, -⟩ := hbcells i _ (getD_at ls i [] (by have := HTL.out; omega))
      have hsum := HSUM.out i ci
      subst hTe hBe
      obtain ⟨t, ht⟩ : ∃ t, t = tags.getD i noTag := ⟨_, rfl⟩
      obtain ⟨m, hm⟩ : ∃ m, m = (ls.getD i []).length := ⟨_, rfl⟩
      rw [← ht] at hcell hsum
      rw [← hm] at hbcell hsum
      obtain ⟨g0, g1, g2, g3⟩ := hcell
      have hq := run_equal_hd t
      have b0 : (0 : Int) ≤ (i : Int) := by omega
      have b1 : (i : Int) < (tags.length : Int) := by omega
      have b2 : (i : Int) < (ls.length : Int) := by have := HTL.out; omega
      have wk : IntKind.i64.wrap ((i : Int) + 1) = ((i + 1 : Nat) : Int) := by rw [IntWalk.i64_in _ (by omega)]; omega
      clear hcells hbcells ht hm
      by_cases e1 : t = hdT
      · rw [decide_eq_true e1] at hq
        by_cases e2 : 12 ≤ m
        · have hs := hsum e1 e2
          have d4 : decide ((12 : Int) ≤ (m : Int)) = true := decide_eq_true (by omega)
          have d4b : decide (12 ≤ m) = true := decide_eq_true (by omega)
          have HSM' := HSM
          rw [hs] at HSM'
          clear hsum hs e1
          go_wp2_with (go_at_call 15; refine HSM'.out.mono ?_; rintro e w' ⟨rfl, rfl⟩)
          go_roundw
          case rel => exact ⟨i + 1, by omega, by go_num, by simp⟩
          case measure => simp [intOf]; omega
        · have d4 : decide ((12 : Int) ≤ (m : Int)) = false := decide_eq_false (by omega)
          have d4b : decide (12 ≤ m) = false := decide_eq_false (by omega)
          clear hsum e1
          go_wp2_with fail
          go_roundw
          case rel => exact ⟨i + 1, by omega, by go_num, by simp⟩
          case measure => simp [intOf]; omega
      · rw [decide_eq_false e1] at hq
        clear hsum e1
        go_wp2_with fail
        go_roundw
        case rel => exact ⟨i + 1, by omega, by go_num, by simp⟩
        case measure => simp [intOf]; omega
    · have HT3 := tables_any A1 c1 file w2 HY1.out HD2.out
      rw [HTF.out] at HT3
      have htlen : (tabsOf tags ls).length = tags.length := by simp [tabsOf]
      have HTX := Lib.hid HT3
      clear HT3
      go_wp2_with fail
      refine HTX.out.mono ?_
      rintro e w3 ⟨A3, c3, rfl, ho3, hb3⟩
      rw [htlen] at ho3 ⊢
      have HO3 := Lib.hid ho3
      have HB3 := Lib.hid hb3
      have HY3 := Lib.hid (HY1.out.below hb3)
      clear ho3 hb3 HTX htlen HT2 HB2R HSM hg
      go_wp2_with fail
      go_loopw [11, 12, 13] (fun v11 v12 v13 wr => ∃ (k : Nat) (A4 : Option Addr) (c4 : Nat) (A5 : Option Addr) (c5 : Nat) (xs : List Value), k ≤ tags.length ∧ v13 = .int .i64 k ∧ v11 = .slice A4 k c4 ∧ v12 = .slice A5 k c5 ∧
        wr.ownsRow w3.heap.size 39 4 (.slice A4 k c4) k (tgs (tags.take k)) ∧ wr.ownsRow w3.heap.size 22 1 (.slice A5 k c5) k xs ∧ Below w3.heap.size w3 wr ∧
        ∀ i, i < k → ∃ A' c', xs[i]? = some (.slice A' (ls'.getD i []).length c') ∧ Byt w3 A' c' (ls'.getD i [])) (fun _ _ i _ => tags.length - (intOf i).toNat)
      case atStart => exact ⟨0, none, 0, none, 0, [], by omega, rfl, rfl, rfl, World.ownsRow_nil _ _ _ _, World.ownsRow_nil _ _ _ _, Below.refl _ _, fun i hi => by omega⟩
      case round =>
        obtain ⟨k, A4, c4, A5, c5, xs, hk, rfl, rfl, rfl, hn4, hp5, hbl, hxs⟩ := hrel
        have HN4 := Lib.hid hn4
        have HP5 := Lib.hid hp5
        have HBL := Lib.hid hbl
        have HXS := Lib.hid hxs
        clear hn4 hp5 hbl hxs
        by_cases hkn : k < tags.length
        · obtain ⟨q, hA3, -⟩ := own_pos HO3.out (by omega)
          subst hA3
          have htab : (tabsOf tags ls)[k]? = some ⟨tags.getD k noTag, 12 + 16 * tags.length + upTo ls k, (ls.getD k []).length⟩ := by simp [tabsOf, hkn]
          have htc := row_tb (own_below HO3.out HBL.out) k hkn _ htab
          obtain ⟨t, ht⟩ : ∃ t, t = tags.getD k noTag := ⟨_, rfl⟩
          obtain ⟨at_, hat⟩ : ∃ at_, at_ = 12 + 16 * tags.length + upTo ls k := ⟨_, rfl⟩
          obtain ⟨m, hm⟩ : ∃ m, m = (ls.getD k []).length := ⟨_, rfl⟩
          have hmod : at_ % 4 = 0 := by have := upTo_mod ls k; omega
          have hfit : at_ + m ≤ file.length := by
            have h1 := upTo_mono ls (k + 1) tags.length (by omega)
            have h2 := up_ge (ls.getD k []).length
            have h3 := HFL.out
            simp only [upTo] at h1
            omega
          have hsmall : file.length ≤ 100000 := by have := HFL.out; have h2 := HTL.out; rw [h2] at this; omega
          have hpart : (file.drop at_).take m = ls'.getD k [] := by
            rw [HF.out, hat, hm]
            exact joined_part HX.out k hkn
          rw [← ht, ← hat, ← hm] at htc
          have HPART := Lib.hid hpart
          have HAT := Lib.hid hat
          have HM := Lib.hid hm
          have HTG := Lib.hid ht
          clear htab hat hm hpart ht
          have b0 : (0 : Int) ≤ (k : Int) := by omega
          have b1 : (k : Int) < (tags.length : Int) := by omega
          have wk : IntKind.i64.wrap ((k : Int) + 1) = ((k + 1 : Nat) : Int) := by rw [IntWalk.i64_in _ (by omega)]; omega
          have d1 : decide ((at_ : Int) < 0) = false := decide_eq_false (by omega)
          have d2 : decide ((m : Int) < 0) = false := decide_eq_false (by omega)
          have w1 : IntKind.i64.wrap ((file.length : Int) - (m : Int)) = (file.length : Int) - (m : Int) := IntWalk.i64_in _ (by omega)
          have d3 : decide ((file.length : Int) - (m : Int) < (at_ : Int)) = false := decide_eq_false (by omega)
          have d4 : (at_ : Int).tmod 4 = 0 := by rw [Int.tmod_eq_emod_of_nonneg (by omega)]; omega
          have w2' : IntKind.i64.wrap ((at_ : Int) + (m : Int)) = (at_ : Int) + (m : Int) := IntWalk.i64_in _ (by omega)
          have p4 : ∀ e : Grown wr, e.w.cell? ⟨q, k * 6 + 4, none⟩ = some (.int .i64 at_) := fun e => e.cell htc.at_
          have p5 : ∀ e : Grown wr, e.w.cell? ⟨q, k * 6 + 5, none⟩ = some (.int .i64 m) := fun e => e.cell htc.len
          have HTC := Lib.hid htc
          clear htc
          go_upto_region 22 with (fail)
          refine wp_region_grown (by kernel_rfl) (by kernel_rfl) ?_
          repeat (go_big_quiet_step (fail))
          refine wpQuiet_nil ?_
          rintro _ ⟨eg, rfl⟩
          have hbg := eg.below
          generalize eg.w = w22 at *
          have HN22 := Lib.hid (own_below HN4.out hbg)
          have HP22 := Lib.hid (own_below HP5.out hbg)
          have HB22 := Lib.hid (HBL.out.trans (hbg.mono HBL.out.size))
          have q0 := (kept_of_below hbg).cell HTC.out.a
          have q1 := (kept_of_below hbg).cell HTC.out.b
          have q2 := (kept_of_below hbg).cell HTC.out.c
          have q3 := (kept_of_below hbg).cell HTC.out.d
          have hs22 := HB22.out.size
          clear hbg p4 p5 d1 d2 d3 d4
          go_upto_region 25 with (at_builtin; refine wpl_app rfl (.tmp 139) (.tmp 145) 34 rfl w3.heap.size 39 Tryd.underlying34 info_tag rfl (by decide) (.slice A4 k c4) k (tgs (tags.take k)) rfl (HN22.out.alloc _) (some ⟨w22.heap.size, 0, none⟩) 1 1 (Tg.cells t) rfl rfl (fun h => by cases h) (news_block _ _ _ _ rfl) (tag_one t) (by unfold maxLen; omega) (by omega) (by simp; omega) ?_; intro v' w24 hown hg24; obtain ⟨A6, c6, rfl⟩ := own_form hown; have HG24 := Lib.hid hg24; have HN24 := Lib.hid hown; clear hown hg24)
          have hnm : tgs (tags.take k) ++ t.cells = tgs (tags.take (k + 1)) := by
            rw [show tags.take (k + 1) = tags.take k ++ [t] from by rw [List.take_add_one, getD_at tags k noTag hkn, ← HTG.out]; rfl, tgs_append]
            simp [tgs]
          have hb24 := below_grown (HB22.out.alloc hs22 _) (HN22.out.alloc _) (by simp; omega) HG24.out
          have HP24 := Lib.hid (own_keep (HP22.out.alloc _) HG24.out (own_kinds HP22.out HN22.out (by decide)))
          have HN24' := HN24.out
          rw [hnm] at HN24'
          have HN25 := Lib.hid HN24'
          have HB24 := Lib.hid hb24
          have hs24 := hb24.size
          clear HN24' HN24 HG24 hnm hb24 q0 q1 q2 q3 HN22 HP22 HTC
          have htab : (tabsOf tags ls)[k]? = some ⟨tags.getD k noTag, 12 + 16 * tags.length + upTo ls k, (ls.getD k []).length⟩ := by simp [tabsOf, hkn]
          have htc := row_tb HO3.out k hkn _ htab
          rw [← HAT.out, ← HM.out] at htc
          have hp4 : ∀ W, Below w3.heap.size w3 W → W.cell? ⟨q, k * 6 + 4, none⟩ = some (.int .i64 at_) := fun W hW => (kept_of_below hW).cell htc.at_
          have hp5 : ∀ W, Below w3.heap.size w3 W → W.cell? ⟨q, k * 6 + 5, none⟩ = some (.int .i64 m) := fun W hW => (kept_of_below hW).cell htc.len
          have P4 := Lib.hid hp4
          have P5 := Lib.hid hp5
          clear hp4 hp5
          obtain ⟨Ap, hAp, hYp⟩ := HY3.out.cut at_ (at_ + m) (by omega) hfit
          rw [show at_ + m - at_ = m from by omega] at hAp hYp
          rw [HPART.out] at hYp
          have hA5 : ∀ W, (Instr.sliceAt 22 (.slice A1 file.length c1) (some (.int .i64 (at_ : Int))) (some (.int .i64 ((at_ : Int) + (m : Int)))) none).run Tryd.prog W = .ok (.slice Ap m (c1 - at_)) W := by
            intro W
            rw [run_sliceAt_slice W _ _ _ _ _ Tryd.underlying22]
            have := hAp W
            rwa [Int.natCast_add] at this
          have HYP := Lib.hid hYp
          clear hAp hYp htab htc
          refine wp_region_held_drew (S := fun W => Below w3.heap.size w3 W) (by kernel_rfl) (HB24.out.drew) (fun hHeld => ?_)
          have hbg : Below w24.heap.size w24 w24.drew := (Below.refl _ _).drew
          have HN25b := Lib.hid (own_below HN25.out hbg)
          have HP25 := Lib.hid (own_below HP24.out hbg)
          clear hbg
          generalize w24.drew = w25 at *
          have hs25 := hHeld.size
          refine heldTake 0 147 (v := ?_) rfl rfl (by kernel_rfl) (by kernel_rfl) (by kernel_rfl) (fun _ _ _ h => h) (Or.inl ⟨by rfl, ?_⟩) (by assumption) ?_
          rotate_left
          · intro W hSW
            go_simp
            try with_reducible rfl
          simp only [Act.put, List.setIfInBounds_toArray, List.set_cons_zero, List.set_cons_succ]
          refine heldTake 1 148 (v := ?_) rfl rfl (by kernel_rfl) (by kernel_rfl) (by kernel_rfl) (fun _ _ _ h => h) (Or.inl ⟨by rfl, ?_⟩) (by assumption) ?_
          rotate_left
          · intro W hSW
            go_simp
            try with_reducible rfl
          simp only [Act.put, List.setIfInBounds_toArray, List.set_cons_zero, List.set_cons_succ]
          refine heldTake 2 149 (v := ?_) rfl rfl (by kernel_rfl) (by kernel_rfl) (by kernel_rfl) (fun _ _ _ h => h) (Or.inl ⟨by rfl, ?_⟩) (by assumption) ?_
          rotate_left
          · intro W hSW
            go_simp
            try with_reducible rfl
          simp only [Act.put, List.setIfInBounds_toArray, List.set_cons_zero, List.set_cons_succ]
          refine heldTake 3 150 (v := ?_) rfl rfl (by kernel_rfl) (by kernel_rfl) (by kernel_rfl) (fun _ _ _ h => h) (Or.inl ⟨by rfl, ?_⟩) (by assumption) ?_
          rotate_left
          · intro W hSW
            go_simp
            try with_reducible rfl
          simp only [Act.put, List.setIfInBounds_toArray, List.set_cons_zero, List.set_cons_succ]
          refine heldTake 4 151 (v := ?_) rfl rfl (by kernel_rfl) (by kernel_rfl) (by kernel_rfl) (fun _ _ _ h => h) (Or.inl ⟨by rfl, ?_⟩) (by assumption) ?_
          rotate_left
          · intro W hSW
            go_simp
            try with_reducible rfl
          simp only [Act.put, List.setIfInBounds_toArray, List.set_cons_zero, List.set_cons_succ]
          refine heldTake 5 152 (v := ?_) rfl rfl (by kernel_rfl) (by kernel_rfl) (by kernel_rfl) (fun _ _ _ h => h) (Or.inl ⟨by rfl, ?_⟩) (by assumption) ?_
          rotate_left
          · intro W hSW
            go_simp
            try with_reducible rfl
          simp only [Act.put, List.setIfInBounds_toArray, List.set_cons_zero, List.set_cons_succ]
          refine heldTake 6 153 (v := ?_) rfl rfl (by kernel_rfl) (by kernel_rfl) (by kernel_rfl) (fun _ _ _ h => h) (Or.inl ⟨by rfl, ?_⟩) (by assumption) ?_
          rotate_left
          · intro W hSW
            have hp4 := P4.out W hSW
            go_simp
            try with_reducible rfl
          simp only [Act.put, List.setIfInBounds_toArray, List.set_cons_zero, List.set_cons_succ]
          refine heldTake 7 154 (v := ?_) rfl rfl (by kernel_rfl) (by kernel_rfl) (by kernel_rfl) (fun _ _ _ h => h) (Or.inl ⟨by rfl, ?_⟩) (by assumption) ?_
          rotate_left
          · intro W hSW
            go_simp
            try with_reducible rfl
          simp only [Act.put, List.setIfInBounds_toArray, List.set_cons_zero, List.set_cons_succ]
          refine heldTake 8 155 (v := ?_) rfl rfl (by kernel_rfl) (by kernel_rfl) (by kernel_rfl) (fun _ _ _ h => h) (Or.inl ⟨by rfl, ?_⟩) (by assumption) ?_
          rotate_left
          · intro W hSW
            go_simp
            try with_reducible rfl
          simp only [Act.put, List.setIfInBounds_toArray, List.set_cons_zero, List.set_cons_succ]
          refine heldTake 9 156 (v := ?_) rfl rfl (by kernel_rfl) (by kernel_rfl) (by kernel_rfl) (fun _ _ _ h => h) (Or.inl ⟨by rfl, ?_⟩) (by assumption) ?_
          rotate_left
          · intro W hSW
            go_simp
            try with_reducible rfl
          simp only [Act.put, List.setIfInBounds_toArray, List.set_cons_zero, List.set_cons_succ]
          refine heldTake 10 157 (v := ?_) rfl rfl (by kernel_rfl) (by kernel_rfl) (by kernel_rfl) (fun _ _ _ h => h) (Or.inl ⟨by rfl, ?_⟩) (by assumption) ?_
          rotate_left
          · intro W hSW
            go_simp
            try with_reducible rfl
          simp only [Act.put, List.setIfInBounds_toArray, List.set_cons_zero, List.set_cons_succ]
          refine heldTake 11 158 (v := ?_) rfl rfl (by kernel_rfl) (by kernel_rfl) (by kernel_rfl) (fun _ _ _ h => h) (Or.inl ⟨by rfl, ?_⟩) (by assumption) ?_
          rotate_left
          · intro W hSW
            have hp4 := P4.out W hSW
            go_simp
            try with_reducible rfl
          simp only [Act.put, List.setIfInBounds_toArray, List.set_cons_zero, List.set_cons_succ]
          refine heldTake 12 159 (v := ?_) rfl rfl (by kernel_rfl) (by kernel_rfl) (by kernel_rfl) (fun _ _ _ h => h) (Or.inl ⟨by rfl, ?_⟩) (by assumption) ?_
          rotate_left
          · intro W hSW
            go_simp
            try with_reducible rfl
          simp only [Act.put, List.setIfInBounds_toArray, List.set_cons_zero, List.set_cons_succ]
          refine heldTake 13 160 (v := ?_) rfl rfl (by kernel_rfl) (by kernel_rfl) (by kernel_rfl) (fun _ _ _ h => h) (Or.inl ⟨by rfl, ?_⟩) (by assumption) ?_
          rotate_left
          · intro W hSW
            go_simp
            try with_reducible rfl
          simp only [Act.put, List.setIfInBounds_toArray, List.set_cons_zero, List.set_cons_succ]
          refine heldTake 14 161 (v := ?_) rfl rfl (by kernel_rfl) (by kernel_rfl) (by kernel_rfl) (fun _ _ _ h => h) (Or.inl ⟨by rfl, ?_⟩) (by assumption) ?_
          rotate_left
          · intro W hSW
            go_simp
            try with_reducible rfl
          simp only [Act.put, List.setIfInBounds_toArray, List.set_cons_zero, List.set_cons_succ]
          refine heldTake 15 162 (v := ?_) rfl rfl (by kernel_rfl) (by kernel_rfl) (by kernel_rfl) (fun _ _ _ h => h) (Or.inl ⟨by rfl, ?_⟩) (by assumption) ?_
          rotate_left
          · intro W hSW
            go_simp
            try with_reducible rfl
          simp only [Act.put, List.setIfInBounds_toArray, List.set_cons_zero, List.set_cons_succ]
          refine heldTake 16 163 (v := ?_) rfl rfl (by kernel_rfl) (by kernel_rfl) (by kernel_rfl) (fun _ _ _ h => h) (Or.inl ⟨by rfl, ?_⟩) (by assumption) ?_
          rotate_left
          · intro W hSW
            have hp5 := P5.out W hSW
            go_simp
            try with_reducible rfl
          simp only [Act.put, List.setIfInBounds_toArray, List.set_cons_zero, List.set_cons_succ]
          refine heldTake 17 164 (v := ?_) rfl rfl (by kernel_rfl) (by kernel_rfl) (by kernel_rfl) (fun _ _ _ h => h) (Or.inl ⟨by rfl, ?_⟩) (by assumption) ?_
          rotate_left
          · intro W hSW
            go_simp
            try with_reducible rfl
          simp only [Act.put, List.setIfInBounds_toArray, List.set_cons_zero, List.set_cons_succ]
          refine heldTake 18 165 (v := ?_) rfl rfl (by kernel_rfl) (by kernel_rfl) (by kernel_rfl) (fun _ _ _ h => h) (Or.inl ⟨by rfl, ?_⟩) (by assumption) ?_
          rotate_left
          · intro W hSW
            have hp6 := hA5 W
            go_simp
            try with_reducible rfl
          simp only [Act.put, List.setIfInBounds_toArray, List.set_cons_zero, List.set_cons_succ]
          refine wpAnyH_ready (rs := [19]) (by kernel_rfl) (by simp) ?_
          refine AllReadyH.cons rfl (fun K1 hK1 => ?_) AllReadyH.nil
          go_simp
          have hS2 := hHeld.alloc hs25 (.cells #[.slice Ap m (c1 - at_)] 22)
          refine hK1.out _ _ hS2 (fun hHeld2 => ?_)
          clear hK1 K1
          try simp only [Act.put, List.setIfInBounds_toArray, List.set_cons_zero, List.set_cons_succ]
          refine wpAnyH_ready (rs := [20]) (by kernel_rfl) (by simp) ?_
          refine AllReadyH.cons rfl (fun K1 hK1 => ?_) AllReadyH.nil
          rw [if_pos (by rfl)]
          refine wp_app (.tmp 147) (.tmp 166) 35 rfl w3.heap.size 22 Tryd.underlying35 info_bs rfl (by decide) (.slice A5 k c5) k xs rfl (HP25.out.alloc _) ⟨w25.heap.size, 0, none⟩ 1 1 [.slice Ap m (c1 - at_)] rfl rfl (news_block _ _ _ _ rfl _ rfl) (fun u hu => by simp at hu; subst hu; rfl) (by unfold maxLen; omega) (by omega) (by simp; omega) ?_
          intro v' w26 hown hg26
          obtain ⟨A7, c7, rfl⟩ := own_form hown
          show K1 (Act.put _ (some 167) _) _
          have hb26 := below_grown hHeld2 (HP25.out.alloc _) (by simp; omega) hg26
          have HN26 := Lib.hid (own_keep (HN25b.out.alloc _) hg26 (own_kinds HN25b.out HP25.out (by decide)))
          have HP26 := Lib.hid hown
          refine hK1.out _ _ hb26 (fun hHeld3 => ?_)
          clear hK1 K1 hown hg26
          try simp only [Act.put, List.setIfInBounds_toArray, List.set_cons_zero, List.set_cons_succ]
          refine heldTake 21 12 (v := ?_) rfl rfl (by kernel_rfl) (by kernel_rfl) (by kernel_rfl) (fun _ _ _ h => h) (Or.inl ⟨by rfl, ?_⟩) (by assumption) ?_
          rotate_left
          · intro W hSW
            go_simp
            try with_reducible rfl
          simp only [Act.put, List.setIfInBounds_toArray, List.set_cons_zero, List.set_cons_succ]
          refine wpAnyH_done (by kernel_rfl) ?_ _
          have HB26 := Lib.hid hHeld3
          clear hHeld hHeld2 hHeld3 hS2 hA5 P4 P5 HP25 HN25b
          go_wp2_with fail
          go_roundw
          case rel =>
            refine ⟨k + 1, A6, c6, A7, c7, xs ++ [.slice Ap m (c1 - at_)], by omega, by go_num, rfl, rfl, HN26.out, HP26.out, HB26.out, fun j hj => ?_⟩
            have hxl : xs.length = k := by have := HP26.out.1; simp at this; omega
            rcases Nat.lt_or_ge j k with h | h
            · obtain ⟨A', c', h1, h2⟩ := HXS.out j h
              exact ⟨A', c', by rw [List.getElem?_append_left (by omega)]; exact h1, h2⟩
            · have hjk : j = k := by omega
              subst hjk
              refine ⟨Ap, c1 - at_, ?_, HYP.out⟩
              rw [List.getElem?_append_right (by omega), hxl, Nat.sub_self, HX.out.lens, ← HM.out]
              rfl
          case measure => simp [intOf]; omega
        · have hkn2 : k = tags.length := by omega
          subst hkn2
          have htk : tags.take tags.length = tags := List.take_length
          have hl2 : ls'.length = tags.length := by rw [HX.out.len, HTL.out]
          have hn4 := HN4.out
          rw [htk] at hn4
          have hTr := tags_of_own hn4 HT.out.ok
          have hBr : BodsR wr A5 c5 ls' := by
            have hp := HP5.out
            rw [← hl2] at hp
            exact bods_of_own hp (fun i hi => by
              obtain ⟨A', c', h1, h2⟩ := HXS.out i (by omega)
              exact ⟨A', c', h1, h2.below HBL.out⟩)
          have HDr := Lib.hid (HD2.out.kept (kept_of_below (HB3.out.trans (HBL.out.mono HB3.out.size))))
          have hj2 := join_any A4 A5 c4 c5 tags ls' wr hTr hBr HDr.out (by rw [HX.out.up, HX.out.len]; omega)
          have hjf : joinF tags ls' = some file := by
            unfold joinF
            rw [if_pos ⟨HTL.out.trans HX.out.len.symm, HOK.out.2⟩, HX.out.again, ← HF.out]
          rw [hjf, hl2] at hj2
          have HJ2 := Lib.hid hj2
          have HFLT : Hid (∀ x ∈ file, x < 256) := Lib.hid HY1.out.lt
          have HBW := Lib.hid (HB2.out.trans ((HB3.out.trans (HBL.out.mono HB3.out.size)).mono HB2.out.size))
          have HYr := Lib.hid (HY3.out.below HBL.out)
          have hm4 : file.length % 4 = 0 := by have := upTo_mod ls tags.length; have := HFL.out; omega
          have d4 : (file.length : Int).tmod 4 = 0 := by rw [Int.tmod_eq_emod_of_nonneg (by omega)]; omega
          clear hn4 hTr hBr hj2 hjf htk hl2 hm4 hkn HN4 HP5
          go_wp2_with fail
          refine HJ2.out.mono ?_
          rintro e w7 ⟨A8, c8, rfl, ho8, hb8⟩
          obtain ⟨-, A9, c9, hA9, hy9⟩ := byt_of_own ho8 HFLT.out
          cases hA9
          have HB8 := Lib.hid (HBW.out.trans (hb8.mono HBW.out.size))
          have HSB := Lib.hid (fun W (hW : Below w7.heap.size w7 W) => sameBytes_any A1 A8 c1 c8 file file W ((HYr.out.below hb8).below hW) (hy9.below hW))
          have HWX := Lib.hid (fun W (hW : Below w7.heap.size w7 W) => works_any W (HDr.out.kept (kept_of_below (hb8.trans (hW.mono hb8.size)))))
          have dl : decide (file = file) = true := decide_eq_true rfl
          rw [dl] at HSB
          clear ho8 hb8 hy9 dl HJ2
          go_wp2_with (first | (go_at_call 12; refine (HSB.out _ (Below.refl _ _)).mono ?_; rintro e w' ⟨rfl, rfl⟩) | (go_at_call 8; refine (HWX.out _ (Below.refl _ _)).mono ?_; rintro e w9 ⟨rfl, hb9⟩; have HB9 := Lib.hid hb9; clear hb9))
          go_ret
          exact ⟨rfl, HB8.out.trans (HB9.out.mono HB8.out.size)⟩
end Go.Proofs.YtfbppbelcbbhlaaDoor.Sf
