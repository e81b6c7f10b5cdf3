/- The reference's joined font. -/
import Derived.Test.YtfbppbelcbbhlaaGreatDoorKnJoinRW
import Derived.Test.YtfbppbelcbbhlaaGreatDoorKnTabsBad
import Derived.Deep.CutRange
import Derived.Deep.CutBlock
import Derived.Deep.DeepCutAuto
namespace Go.Proofs.YtfbppbelcbbhlaaGreatDoor.Sf
open Go Go.RowKit

theorem raw_len (tags : List Tg) (ls : List (List Nat)) : (rawB tags ls).length = 12 + 16 * tags.length + upTo ls tags.length := by
  simp only [rawB, List.length_append, headB_length, recsB_length, dataB_length]
set_option maxRecDepth 100000 in
set_option maxHeartbeats 1000000 in
theorem join_ref (A B : Option Addr) (ca cb : Nat) (tags : List Tg) (ls : List (List Nat)) (w : World) (hT : TagsR w A ca tags) (hB : BodsR w B cb ls) (hsz : upTo ls ls.length ≤ 16000000) :
    Calls Tryz.prog 5 #[.slice A tags.length ca, .slice B ls.length cb] w fun e w' => JoinPost 5 w (joinF tags ls) e w' := by
  have HT := Lib.hid hT
  have HB := Lib.hid hB
  have HSZ := Lib.hid hsz
  have m1 := hT.le
  have m2 := hB.le
  have k1 := hT.max
  have k2 := hB.max
  clear hT hB hsz
  have hbad : ∀ W, ¬ joinOk tags ls → Below w.heap.size w W → JoinPost 5 w (joinF tags ls) (.returned (.tuple #[.slice none 0 0, .int .i64 2])) W := fun W hno hb => by
    unfold joinF
    rw [if_neg hno]
    exact ⟨rfl, hb⟩
  have HBAD := Lib.hid hbad
  clear hbad
  obtain ⟨n, hn⟩ : ∃ n, n = tags.length := ⟨_, rfl⟩
  obtain ⟨nl, hnl⟩ : ∃ nl, nl = ls.length := ⟨_, rfl⟩
  rw [← hn] at m1 ⊢
  rw [← hnl] at m2 ⊢
  have HN := Lib.hid hn
  have HNL := Lib.hid hnl
  clear hn hnl
  go_enter Tryz.func5, Tryz.ntmps5
  go_upto_region 2 with (fail)
  by_cases e1 : n = nl
  case neg =>
    have hno : Hid (¬ joinOk tags ls) := Lib.hid (fun h => e1 (by rw [HN.out, HNL.out]; exact h.1))
    have d1 : ((n : Int) == (nl : Int)) = false := by simp; omega
    have d1b : (n == nl) = false := by simp; omega
    have d1c : decide (n = nl) = false := decide_eq_false e1
    go_wp2_with fail
    go_ret2
    exact HBAD.out _ hno.out (Below.refl _ _)
  subst e1
  by_cases e2 : 1 ≤ n
  case neg =>
    have hno : Hid (¬ joinOk tags ls) := Lib.hid (fun h => e2 (by rw [HN.out]; exact h.2.1))
    have d2 : decide ((n : Int) < 1) = true := decide_eq_true (by omega)
    go_wp2_with fail
    go_ret2
    exact HBAD.out _ hno.out (Below.refl _ _)
  have d2 : decide ((n : Int) < 1) = false := decide_eq_false (by omega)
  by_cases e3 : n ≤ 64
  case neg =>
    have hno : Hid (¬ joinOk tags ls) := Lib.hid (fun h => e3 (by rw [HN.out]; exact h.2.2.1))
    have d3 : decide ((64 : Int) < (n : Int)) = true := decide_eq_true (by omega)
    have d3b : decide (64 < n) = true := decide_eq_true (by omega)
    go_wp2_with fail
    go_ret2
    exact HBAD.out _ hno.out (Below.refl _ _)
  have d3 : decide ((64 : Int) < (n : Int)) = false := decide_eq_false (by omega)
  have d3b : decide (64 < n) = false := decide_eq_false (by omega)
  obtain ⟨bs, hbs⟩ : ∃ bs, bs = 12 + 16 * n := ⟨_, rfl⟩
  have f1 : IntKind.i64.wrap (16 * (n : Int)) = 16 * (n : Int) := IntWalk.i64_in _ (by omega)
  have f2 : IntKind.i64.wrap (12 + 16 * (n : Int)) = (bs : Int) := by rw [IntWalk.i64_in _ (by omega)]; omega
  have HBS := Lib.hid hbs
  clear hbs
  have HHD := Lib.hid (head_okR n w e2 e3)
  go_upto_region 6 with (go_at_call 14; refine HHD.out.mono ?_; rintro e w8 ⟨A8, c8, rfl, ho8, hb8⟩; have HO8 := Lib.hid ho8; have HB8 := Lib.hid hb8; clear ho8 hb8)
  clear d2 d3 d3b f1 f2 HHD
  rw [headB_length] at HO8 ⊢
  have HT8 := Lib.hid (HT.out.kept (kept_of_below HB8.out))
  have HB8R := Lib.hid (HB.out.kept (kept_of_below HB8.out))
  go_wp2_with fail
  go_loopw [11] (fun v wr => ∃ i : Nat, i ≤ n ∧ v = .int .i64 i ∧ Below w8.heap.size w8 wr ∧ ∀ j, j < i → j = 0 ∨ tagLt (tags.getD (j - 1) noTag) (tags.getD j noTag) = true) (fun v _ => n - (intOf v).toNat)
  case atStart => exact ⟨0, by omega, rfl, Below.refl _ _, fun j hj => by omega⟩
  case round =>
    obtain ⟨i, hi, rfl, hbl, hso⟩ := hrel
    have HBL := Lib.hid hbl
    have HSO := Lib.hid hso
    clear hbl hso
    by_cases ci : i < n
    · have wk : IntKind.i64.wrap ((i : Int) + 1) = ((i + 1 : Nat) : Int) := by rw [IntWalk.i64_in _ (by omega)]; omega
      rcases Nat.eq_zero_or_pos i with c0 | c0
      · have d0 : decide ((0 : Int) < (i : Int)) = false := decide_eq_false (by omega)
        have d0b : decide (0 < i) = false := decide_eq_false (by omega)
        have HC0 := Lib.hid c0
        clear c0
        go_upto_region 11 with (fail)
        refine wp_region_grown (by kernel_rfl) (by kernel_rfl) ?_
        repeat (go_big_quiet_step (fail))
        refine wpQuiet_nil ?_
        rintro _ ⟨eg, rfl⟩
        have HBG := Lib.hid (HBL.out.trans (eg.below.mono HBL.out.size))
        go_wp2_with fail
        go_roundw
        case rel => exact ⟨i + 1, by omega, by go_num, HBG.out, fun j hj => .inl (by have := HC0.out; omega)⟩
        case measure => simp [intOf]; omega
      · have d0 : decide ((0 : Int) < (i : Int)) = true := decide_eq_true (by omega)
        have d0b : decide (0 < i) = true := decide_eq_true (by omega)
        obtain ⟨pi, hpi⟩ : ∃ pi : Nat, i = pi + 1 := ⟨i - 1, by omega⟩
        have wr6 : IntKind.i64.wrap ((i : Int) - 1) = (pi : Int) := by rw [IntWalk.i64_in _ (by omega)]; omega
        obtain ⟨tb, tbo, hTe, hcells⟩ := HT8.out.cells (by have := HN.out; omega)
        obtain ⟨g0, g1, g2, g3⟩ := hcells i _ (getD_at tags i noTag (by have := HN.out; omega))
        obtain ⟨h0, h1, h2, h3⟩ := hcells pi _ (getD_at tags pi noTag (by have := HN.out; omega))
        subst hTe
        have b0 : (0 : Int) ≤ (i : Int) := by omega
        have b1 : (i : Int) < (n : Int) := by omega
        have b2 : (0 : Int) ≤ (pi : Int) := by omega
        have b3 : (pi : Int) < (n : Int) := by omega
        obtain ⟨t, ht⟩ : ∃ t, t = tags.getD i noTag := ⟨_, rfl⟩
        obtain ⟨u, hu⟩ : ∃ u, u = tags.getD pi noTag := ⟨_, rfl⟩
        rw [← ht] at g0 g1 g2 g3
        rw [← hu] at h0 h1 h2 h3
        have HT1 := Lib.hid ht
        have HU1 := Lib.hid hu
        have HPI := Lib.hid hpi
        have kk := kept_of_below HBL.out
        have p0 : ∀ e : Grown wr, e.w.cell? ⟨tb, tbo + i * 4, none⟩ = some (.int .u8 t.a) := fun e => e.cell (kk.cell g0)
        have p1 : ∀ e : Grown wr, e.w.cell? ⟨tb, tbo + i * 4 + 1, none⟩ = some (.int .u8 t.b) := fun e => e.cell (kk.cell g1)
        have p2 : ∀ e : Grown wr, e.w.cell? ⟨tb, tbo + i * 4 + 2, none⟩ = some (.int .u8 t.c) := fun e => e.cell (kk.cell g2)
        have p3 : ∀ e : Grown wr, e.w.cell? ⟨tb, tbo + i * 4 + 3, none⟩ = some (.int .u8 t.d) := fun e => e.cell (kk.cell g3)
        have r0 : ∀ e : Grown wr, e.w.cell? ⟨tb, tbo + pi * 4, none⟩ = some (.int .u8 u.a) := fun e => e.cell (kk.cell h0)
        have r1 : ∀ e : Grown wr, e.w.cell? ⟨tb, tbo + pi * 4 + 1, none⟩ = some (.int .u8 u.b) := fun e => e.cell (kk.cell h1)
        have r2 : ∀ e : Grown wr, e.w.cell? ⟨tb, tbo + pi * 4 + 2, none⟩ = some (.int .u8 u.c) := fun e => e.cell (kk.cell h2)
        have r3 : ∀ e : Grown wr, e.w.cell? ⟨tb, tbo + pi * 4 + 3, none⟩ = some (.int .u8 u.d) := fun e => e.cell (kk.cell h3)
        have hless := fun e : Grown wr => less_ok u t e.w
        unfold Tg.val at hless
        obtain ⟨bl, hbl⟩ : ∃ bl, bl = tagLt u t := ⟨_, rfl⟩
        rw [← hbl] at hless
        have HLESS := Lib.hid hless
        have HC0 := Lib.hid c0
        have HBLE := Lib.hid hbl
        clear hcells g0 g1 g2 g3 h0 h1 h2 h3 ht hu hpi hless kk c0 hbl
        cases bl with
        | true =>
          go_upto_region 11 with (fail)
          refine wp_region_grown (by kernel_rfl) (by kernel_rfl) ?_
          repeat (go_big_quiet_step (first | (go_at_call 15; exact calls_grown (HLESS.out _))))
          refine wpQuiet_nil ?_
          rintro _ ⟨eg, rfl⟩
          have HBG := Lib.hid (HBL.out.trans (eg.below.mono HBL.out.size))
          go_wp2_with fail
          go_roundw
          case rel =>
            refine ⟨i + 1, by omega, by go_num, HBG.out, fun j hj => ?_⟩
            rcases Nat.lt_or_ge j i with h | h
            · exact HSO.out j h
            · have hji : j = i := by omega
              subst hji
              right
              rw [show j - 1 = pi from by have := HPI.out; omega, ← HT1.out, ← HU1.out, ← HBLE.out]
          case measure => simp [intOf]; omega
        | false =>
          have hno : Hid (¬ joinOk tags ls) := Lib.hid (fun h => by
            rcases h.2.2.2 i (by have := HN.out; omega) with h4 | h4
            · have := HC0.out; omega
            · rw [show i - 1 = pi from by have := HPI.out; omega, ← HT1.out, ← HU1.out, ← HBLE.out] at h4
              cases h4)
          go_upto_region 11 with (fail)
          refine wp_region_grown (by kernel_rfl) (by kernel_rfl) ?_
          repeat (go_big_quiet_step (first | (go_at_call 15; exact calls_grown (HLESS.out _))))
          refine wpQuiet_nil ?_
          rintro _ ⟨eg, rfl⟩
          have HBG := Lib.hid (HBL.out.trans (eg.below.mono HBL.out.size))
          go_wp2_with fail
          go_ret2
          exact HBAD.out _ hno.out (HB8.out.trans (HBG.out.mono HB8.out.size))
    · have hin : n = i := by omega
      subst hin
      have hok : Hid (joinOk tags ls) := Lib.hid ⟨HN.out.symm.trans HNL.out, by rw [← HN.out]; exact e2, by rw [← HN.out]; exact e3, fun j hj => HSO.out j (by rw [HN.out]; exact hj)⟩
      have HBW := Lib.hid (HB8.out.trans (HBL.out.mono HB8.out.size))
      have HOW := Lib.hid (own_below HO8.out HBL.out)
      clear HT8 HB8R HSO ci
      go_wp2_with fail
      go_loopw [7, 8, 9, 10, 12] (fun v7 v8 v9 v10 v12 wr => ∃ (i : Nat) (A8 : Option Addr) (c8 : Nat) (A9 : Option Addr) (c9 : Nat), i ≤ n ∧ v12 = .int .i64 i ∧ v7 = .int .i64 (bs + upTo ls i : Nat) ∧ v10 = .int .i64 (placeV (placeOf tags ls bs i)) ∧
        v8 = .slice A8 (12 + 16 * i) c8 ∧ v9 = .slice A9 (upTo ls i) c9 ∧ wr.ownsRow w.heap.size 5 1 (.slice A8 (12 + 16 * i) c8) (12 + 16 * i) (u8s (headB n ++ recsB tags ls bs i)) ∧
        wr.ownsRow w.heap.size 5 1 (.slice A9 (upTo ls i) c9) (upTo ls i) (u8s (dataB ls i)) ∧ NeBlk (.slice A8 (12 + 16 * i) c8) (.slice A9 (upTo ls i) c9) ∧ Below w.heap.size w wr) (fun _ _ _ _ i _ => n - (intOf i).toNat)
      case atStart => exact ⟨0, A8, c8, none, 0, by omega, rfl, rfl, rfl, rfl, rfl, by simpa [recsB] using HOW.out, World.ownsRow_nil _ _ _ _, (fun g _ h => by cases h), HBW.out⟩
      case round =>
        obtain ⟨i, A8, c8, A9, c9, hi, rfl, rfl, rfl, rfl, rfl, ho8, ho9, hne, hbel⟩ := hrel
        have HR8 := Lib.hid ho8
        have HR9 := Lib.hid ho9
        have HNE := Lib.hid hne
        have HBE := Lib.hid hbel
        clear ho8 ho9 hne hbel
        have hms := upTo_mono ls i n hi
        have hsz : upTo ls n ≤ 16000000 := by rw [HNL.out]; exact HSZ.out
        by_cases ci : i < n
        · have hms1 := upTo_mono ls (i + 1) n (by omega)
          have huge := up_ge (ls.getD i []).length
          have hu1 : upTo ls (i + 1) = upTo ls i + up (ls.getD i []).length := rfl
          have hd1 : dataB ls (i + 1) = dataB ls i ++ padded (ls.getD i []) := rfl
          have hr1 : recsB tags ls bs (i + 1) = recsB tags ls bs i ++ recB (tags.getD i noTag) (ls.getD i []) (bs + upTo ls i) := rfl
          have hp1 : placeOf tags ls bs (i + 1) = if tags.getD i noTag = hdT ∧ 12 ≤ (ls.getD i []).length then some (bs + upTo ls i + 8) else placeOf tags ls bs i := rfl
          obtain ⟨tb, tbo, hTe, hcells⟩ := (HT.out.kept (kept_of_below HBE.out)).cells (by have := HN.out; omega)
          obtain ⟨g0, g1, g2, g3⟩ := hcells i _ (getD_at tags i noTag (by have := HN.out; omega))
          obtain ⟨bb, bbo, hBe, hbcells⟩ := HB.out.cells (by have := HNL.out; omega)
          obtain ⟨A', c', hbcellw, hby⟩ := hbcells i _ (getD_at ls i [] (by have := HNL.out; omega))
          have hbcell := (kept_of_below HBE.out).cell hbcellw
          have hbc0 := fun (W : World) (hW : Below w.heap.size w W) => (kept_of_below hW).cell hbcellw
          subst hTe hBe
          obtain ⟨t, ht⟩ : ∃ t, t = tags.getD i noTag := ⟨_, rfl⟩
          obtain ⟨body, hbody⟩ : ∃ body, body = ls.getD i [] := ⟨_, rfl⟩
          obtain ⟨m, hm⟩ : ∃ m, m = body.length := ⟨_, rfl⟩
          obtain ⟨at0, hat0⟩ : ∃ at0, at0 = bs + upTo ls i := ⟨_, rfl⟩
          rw [← ht] at g0 g1 g2 g3 hr1 hp1
          rw [← hbody] at hbcell hbc0 hby huge hu1 hd1 hr1 hp1
          rw [← hat0] at hr1 hp1 ⊢
          rw [← hm] at hbcell hbc0 huge hu1 hp1
          have HBC := Lib.hid hbc0
          clear hbc0 hbcellw
          have HHT := Lib.hid ht
          have HBO := Lib.hid hbody
          have HM := Lib.hid hm
          have HAT0 := Lib.hid hat0
          have HU1 := Lib.hid hu1
          have HD1 := Lib.hid hd1
          have HRE1 := Lib.hid hr1
          have HP1 := Lib.hid hp1
          have HBY := Lib.hid hby
          have hbs2 := HBS.out
          have hm16 : m ≤ 16000000 := by omega
          have hat16 : at0 ≤ 16002000 := by omega
          have HHUGE := Lib.hid huge
          clear hcells hbcells ht hbody hm hat0 hu1 hd1 hr1 hp1 hby huge hbs2
          have b0 : (0 : Int) ≤ (i : Int) := by omega
          have b1 : (i : Int) < (n : Int) := by omega
          have wk : IntKind.i64.wrap ((i : Int) + 1) = ((i + 1 : Nat) : Int) := by rw [IntWalk.i64_in _ (by omega)]; omega
          have d1 : decide ((16777216 : Int) < (m : Int)) = false := decide_eq_false (by omega)
          have d1b : decide (16777216 < m) = false := decide_eq_false (by omega)
          have d2 : decide ((16777216 : Int) < (at0 : Int)) = false := decide_eq_false (by omega)
          have d2b : decide (16777216 < at0) = false := decide_eq_false (by omega)
          go_upto_region 18 with (fail)
          have his := fun W => isHead_ok t W
          unfold Tg.val at his
          have HIS := Lib.hid his
          clear his d1 d1b d2 d2b
          go_cut [86] from 74 to 156 (fun p wx => p = .bool (decide (t = hdT ∧ 12 ≤ m)) ∧ Below wr.heap.size wr wx)
          case first =>
            by_cases e1 : t = hdT
            · rw [decide_eq_true e1] at HIS
              have HE := Lib.hid e1
              clear e1
              by_cases e2 : 12 ≤ m
              · have d4 : decide ((12 : Int) ≤ (m : Int)) = true := decide_eq_true (by omega)
                have d4b : decide (12 ≤ m) = true := decide_eq_true (by omega)
                go_wp2_with (go_at_call 16; refine (HIS.out _).mono ?_; rintro e w5 ⟨rfl, hb5⟩; have hbc5 := (kept_of_below hb5).cell hbcell; have HB5 := Lib.hid hb5; clear hb5)
                go_meet
                case rel => exact ⟨by rw [decide_eq_true ⟨HE.out, e2⟩], HB5.out⟩
              · have d4 : decide ((12 : Int) ≤ (m : Int)) = false := decide_eq_false (by omega)
                have d4b : decide (12 ≤ m) = false := decide_eq_false (by omega)
                go_wp2_with (go_at_call 16; refine (HIS.out _).mono ?_; rintro e w5 ⟨rfl, hb5⟩; have hbc5 := (kept_of_below hb5).cell hbcell; have HB5 := Lib.hid hb5; clear hb5)
                go_meet
                case rel => exact ⟨by rw [decide_eq_false (fun h => e2 h.2)], HB5.out⟩
            · rw [decide_eq_false e1] at HIS
              have HE := Lib.hid e1
              clear e1
              go_wp2_with (go_at_call 16; refine (HIS.out _).mono ?_; rintro e w5 ⟨rfl, hb5⟩; have hbc5 := (kept_of_below hb5).cell hbcell; have HB5 := Lib.hid hb5; clear hb5)
              go_meet
              case rel => exact ⟨by rw [decide_eq_false (fun h => HE.out h.1)], HB5.out⟩
          case rest =>
          obtain ⟨rfl, hB4⟩ := hcut
          go_upto_if 86 with (fail)
          have f8 : IntKind.i64.wrap ((at0 : Int) + 8) = ((at0 + 8 : Nat) : Int) := by rw [IntWalk.i64_in _ (by omega)]; omega
          go_cut [10] from 74 to 156 (fun v wx => v = .int .i64 (placeV (placeOf tags ls bs (i + 1))) ∧ wx = wc)
          case first =>
            cases hc : decide (t = hdT ∧ 12 ≤ m) with
            | true =>
              have HC := Lib.hid (of_decide_eq_true hc)
              clear hc
              go_wp2_with fail
              go_meet
              case rel => exact ⟨by rw [HP1.out, if_pos HC.out]; rfl, rfl⟩
            | false =>
              have HC := Lib.hid (of_decide_eq_false hc)
              clear hc
              go_wp2_with fail
              go_meet
              case rel => exact ⟨by rw [HP1.out, if_neg HC.out], rfl⟩
          case rest =>
          obtain ⟨rfl, hwe⟩ := hcut
          subst hwe
          have htc : ∀ W, Below w.heap.size w W → W.cell? ⟨tb, tbo + i * 4, none⟩ = some (.int .u8 t.a) ∧ W.cell? ⟨tb, tbo + i * 4 + 1, none⟩ = some (.int .u8 t.b) ∧ W.cell? ⟨tb, tbo + i * 4 + 2, none⟩ = some (.int .u8 t.c) ∧ W.cell? ⟨tb, tbo + i * 4 + 3, none⟩ = some (.int .u8 t.d) := fun W hW => by
            obtain ⟨tb', tbo', he, hc⟩ := HT.out.cells (by have := HN.out; omega)
            cases he
            obtain ⟨y0, y1, y2, y3⟩ := hc i _ (getD_at tags i noTag (by have := HN.out; omega))
            rw [← HHT.out] at y0 y1 y2 y3
            exact ⟨(kept_of_below hW).cell y0, (kept_of_below hW).cell y1, (kept_of_below hW).cell y2, (kept_of_below hW).cell y3⟩
          have HTC := Lib.hid htc
          clear htc g0 g1 g2 g3 hbcell HIS f8
          go_upto_region 20 with (fail)
          refine wp_region_held_drew (S := fun W => Below w.heap.size w W) (by kernel_rfl) ((HBE.out.trans (hB4.mono HBE.out.size)).drew) (fun hHeld => ?_)
          have hbg := (hB4.drew)
          have HQ8 := Lib.hid (own_below HR8.out hbg)
          have HQ9 := Lib.hid (own_below HR9.out hbg)
          clear hbg hB4
          obtain ⟨w20, hw20⟩ : ∃ w20, w20 = wc.drew := ⟨_, rfl⟩
          rw [← hw20] at hHeld HQ8 HQ9 ⊢
          clear hw20
          have hs20 := hHeld.size
          refine heldTake 0 89 (v := ?_) rfl rfl (by kernel_rfl) (by kernel_rfl) (by kernel_rfl) (fun _ _ _ h => h) (Or.inl ⟨by rfl, ?_⟩) (by assumption) ?_
          rotate_left
          · intro W hSW
            go_simp
            try with_reducible rfl
          simp only [Act.put, List.setIfInBounds_toArray, List.set_cons_zero, List.set_cons_succ]
          refine heldTake 1 90 (v := ?_) rfl rfl (by kernel_rfl) (by kernel_rfl) (by kernel_rfl) (fun _ _ _ h => h) (Or.inl ⟨by rfl, ?_⟩) (by assumption) ?_
          rotate_left
          · intro W hSW
            go_simp
            try with_reducible rfl
          simp only [Act.put, List.setIfInBounds_toArray, List.set_cons_zero, List.set_cons_succ]
          refine heldTake 2 91 (v := ?_) rfl rfl (by kernel_rfl) (by kernel_rfl) (by kernel_rfl) (fun _ _ _ h => h) (Or.inl ⟨by rfl, ?_⟩) (by assumption) ?_
          rotate_left
          · intro W hSW
            go_simp
            try with_reducible rfl
          simp only [Act.put, List.setIfInBounds_toArray, List.set_cons_zero, List.set_cons_succ]
          refine heldTake 3 92 (v := ?_) rfl rfl (by kernel_rfl) (by kernel_rfl) (by kernel_rfl) (fun _ _ _ h => h) (Or.inl ⟨by rfl, ?_⟩) (by assumption) ?_
          rotate_left
          · intro W hSW
            go_simp
            try with_reducible rfl
          simp only [Act.put, List.setIfInBounds_toArray, List.set_cons_zero, List.set_cons_succ]
          refine heldTake 4 93 (v := ?_) rfl rfl (by kernel_rfl) (by kernel_rfl) (by kernel_rfl) (fun _ _ _ h => h) (Or.inl ⟨by rfl, ?_⟩) (by assumption) ?_
          rotate_left
          · intro W hSW
            go_simp
            try with_reducible rfl
          simp only [Act.put, List.setIfInBounds_toArray, List.set_cons_zero, List.set_cons_succ]
          refine heldTake 5 94 (v := ?_) rfl rfl (by kernel_rfl) (by kernel_rfl) (by kernel_rfl) (fun _ _ _ h => h) (Or.inl ⟨by rfl, ?_⟩) (by assumption) ?_
          rotate_left
          · intro W hSW
            obtain ⟨x0, -, -, -⟩ := HTC.out W hSW
            go_simp
            try with_reducible rfl
          simp only [Act.put, List.setIfInBounds_toArray, List.set_cons_zero, List.set_cons_succ]
          refine heldTake 6 95 (v := ?_) rfl rfl (by kernel_rfl) (by kernel_rfl) (by kernel_rfl) (fun _ _ _ h => h) (Or.inl ⟨by rfl, ?_⟩) (by assumption) ?_
          rotate_left
          · intro W hSW
            go_simp
            try with_reducible rfl
          simp only [Act.put, List.setIfInBounds_toArray, List.set_cons_zero, List.set_cons_succ]
          refine heldTake 7 96 (v := ?_) rfl rfl (by kernel_rfl) (by kernel_rfl) (by kernel_rfl) (fun _ _ _ h => h) (Or.inl ⟨by rfl, ?_⟩) (by assumption) ?_
          rotate_left
          · intro W hSW
            go_simp
            try with_reducible rfl
          simp only [Act.put, List.setIfInBounds_toArray, List.set_cons_zero, List.set_cons_succ]
          refine heldTake 8 97 (v := ?_) rfl rfl (by kernel_rfl) (by kernel_rfl) (by kernel_rfl) (fun _ _ _ h => h) (Or.inl ⟨by rfl, ?_⟩) (by assumption) ?_
          rotate_left
          · intro W hSW
            go_simp
            try with_reducible rfl
          simp only [Act.put, List.setIfInBounds_toArray, List.set_cons_zero, List.set_cons_succ]
          refine heldTake 9 98 (v := ?_) rfl rfl (by kernel_rfl) (by kernel_rfl) (by kernel_rfl) (fun _ _ _ h => h) (Or.inl ⟨by rfl, ?_⟩) (by assumption) ?_
          rotate_left
          · intro W hSW
            go_simp
            try with_reducible rfl
          simp only [Act.put, List.setIfInBounds_toArray, List.set_cons_zero, List.set_cons_succ]
          refine heldTake 10 99 (v := ?_) rfl rfl (by kernel_rfl) (by kernel_rfl) (by kernel_rfl) (fun _ _ _ h => h) (Or.inl ⟨by rfl, ?_⟩) (by assumption) ?_
          rotate_left
          · intro W hSW
            obtain ⟨-, x1, -, -⟩ := HTC.out W hSW
            go_simp
            try with_reducible rfl
          simp only [Act.put, List.setIfInBounds_toArray, List.set_cons_zero, List.set_cons_succ]
          refine heldTake 11 100 (v := ?_) rfl rfl (by kernel_rfl) (by kernel_rfl) (by kernel_rfl) (fun _ _ _ h => h) (Or.inl ⟨by rfl, ?_⟩) (by assumption) ?_
          rotate_left
          · intro W hSW
            go_simp
            try with_reducible rfl
          simp only [Act.put, List.setIfInBounds_toArray, List.set_cons_zero, List.set_cons_succ]
          refine heldTake 12 101 (v := ?_) rfl rfl (by kernel_rfl) (by kernel_rfl) (by kernel_rfl) (fun _ _ _ h => h) (Or.inl ⟨by rfl, ?_⟩) (by assumption) ?_
          rotate_left
          · intro W hSW
            go_simp
            try with_reducible rfl
          simp only [Act.put, List.setIfInBounds_toArray, List.set_cons_zero, List.set_cons_succ]
          refine heldTake 13 102 (v := ?_) rfl rfl (by kernel_rfl) (by kernel_rfl) (by kernel_rfl) (fun _ _ _ h => h) (Or.inl ⟨by rfl, ?_⟩) (by assumption) ?_
          rotate_left
          · intro W hSW
            go_simp
            try with_reducible rfl
          simp only [Act.put, List.setIfInBounds_toArray, List.set_cons_zero, List.set_cons_succ]
          refine heldTake 14 103 (v := ?_) rfl rfl (by kernel_rfl) (by kernel_rfl) (by kernel_rfl) (fun _ _ _ h => h) (Or.inl ⟨by rfl, ?_⟩) (by assumption) ?_
          rotate_left
          · intro W hSW
            go_simp
            try with_reducible rfl
          simp only [Act.put, List.setIfInBounds_toArray, List.set_cons_zero, List.set_cons_succ]
          refine heldTake 15 104 (v := ?_) rfl rfl (by kernel_rfl) (by kernel_rfl) (by kernel_rfl) (fun _ _ _ h => h) (Or.inl ⟨by rfl, ?_⟩) (by assumption) ?_
          rotate_left
          · intro W hSW
            obtain ⟨-, -, x2, -⟩ := HTC.out W hSW
            go_simp
            try with_reducible rfl
          simp only [Act.put, List.setIfInBounds_toArray, List.set_cons_zero, List.set_cons_succ]
          refine heldTake 16 105 (v := ?_) rfl rfl (by kernel_rfl) (by kernel_rfl) (by kernel_rfl) (fun _ _ _ h => h) (Or.inl ⟨by rfl, ?_⟩) (by assumption) ?_
          rotate_left
          · intro W hSW
            go_simp
            try with_reducible rfl
          simp only [Act.put, List.setIfInBounds_toArray, List.set_cons_zero, List.set_cons_succ]
          refine heldTake 17 106 (v := ?_) rfl rfl (by kernel_rfl) (by kernel_rfl) (by kernel_rfl) (fun _ _ _ h => h) (Or.inl ⟨by rfl, ?_⟩) (by assumption) ?_
          rotate_left
          · intro W hSW
            go_simp
            try with_reducible rfl
          simp only [Act.put, List.setIfInBounds_toArray, List.set_cons_zero, List.set_cons_succ]
          refine heldTake 18 107 (v := ?_) rfl rfl (by kernel_rfl) (by kernel_rfl) (by kernel_rfl) (fun _ _ _ h => h) (Or.inl ⟨by rfl, ?_⟩) (by assumption) ?_
          rotate_left
          · intro W hSW
            go_simp
            try with_reducible rfl
          simp only [Act.put, List.setIfInBounds_toArray, List.set_cons_zero, List.set_cons_succ]
          refine heldTake 19 108 (v := ?_) rfl rfl (by kernel_rfl) (by kernel_rfl) (by kernel_rfl) (fun _ _ _ h => h) (Or.inl ⟨by rfl, ?_⟩) (by assumption) ?_
          rotate_left
          · intro W hSW
            go_simp
            try with_reducible rfl
          simp only [Act.put, List.setIfInBounds_toArray, List.set_cons_zero, List.set_cons_succ]
          refine heldTake 20 109 (v := ?_) rfl rfl (by kernel_rfl) (by kernel_rfl) (by kernel_rfl) (fun _ _ _ h => h) (Or.inl ⟨by rfl, ?_⟩) (by assumption) ?_
          rotate_left
          · intro W hSW
            obtain ⟨-, -, -, x3⟩ := HTC.out W hSW
            go_simp
            try with_reducible rfl
          simp only [Act.put, List.setIfInBounds_toArray, List.set_cons_zero, List.set_cons_succ]
          refine wpAnyH_ready (rs := [21]) (by kernel_rfl) (by simp) ?_
          refine AllReadyH.cons rfl (fun K1 hK1 => ?_) AllReadyH.nil
          go_simp
          have hS2 := hHeld.alloc hs20 (.cells #[.int .u8 t.a, .int .u8 t.b, .int .u8 t.c, .int .u8 t.d] 5)
          refine hK1.out _ _ hS2 (fun hHeld2 => ?_)
          clear hK1 K1
          try simp only [Act.put, List.setIfInBounds_toArray, List.set_cons_zero, List.set_cons_succ]
          refine wpAnyH_ready (rs := [22]) (by kernel_rfl) (by simp) ?_
          refine AllReadyH.cons rfl (fun K1 hK1 => ?_) AllReadyH.nil
          rw [if_pos (by rfl)]
          refine wp_app2 (.tmp 89) (.tmp 110) 25 rfl w.heap.size 5 Tryz.underlying25 info_u8 rfl (by decide) (.slice A8 (12 + 16 * i) c8) (12 + 16 * i) (u8s (headB n ++ recsB tags ls bs i)) rfl (HQ8.out.alloc _) ⟨w20.heap.size, 0, none⟩ 4 4 (u8s t.bytes) rfl rfl (news_block _ _ _ _ rfl _ rfl) (u8s_one _) (by unfold maxLen; omega) (by omega) (by simp; omega) ?_
          intro v' w21 hown hg21 h5
          obtain ⟨A10, c10, rfl⟩ := own_form hown
          show K1 (Act.put _ (some 111) _) _
          have hb21 := below_grown hHeld2 (HQ8.out.alloc _) (by simp; omega) hg21
          have ho21 := other_row (HQ9.out.alloc _) HNE.out.symm hg21 h5
          rw [← u8s_append] at hown
          have HN8 := Lib.hid hown
          have HN9 := Lib.hid ho21.1
          have HNE2 := Lib.hid ho21.2
          refine hK1.out _ _ hb21 (fun hHeld3 => ?_)
          clear hK1 K1 hown hg21 h5 ho21
          try simp only [Act.put, List.setIfInBounds_toArray, List.set_cons_zero, List.set_cons_succ]
          refine heldTake 23 8 (v := ?_) rfl rfl (by kernel_rfl) (by kernel_rfl) (by kernel_rfl) (fun _ _ _ h => h) (Or.inl ⟨by rfl, ?_⟩) (by assumption) ?_
          rotate_left
          · intro W hSW
            go_simp
            try with_reducible rfl
          simp only [Act.put, List.setIfInBounds_toArray, List.set_cons_zero, List.set_cons_succ]
          refine wpAnyH_done (by kernel_rfl) ?_ _
          have HB21 := Lib.hid hHeld3
          clear hHeld hHeld2 hHeld3 hS2 hb21 HQ8 HQ9 HNE HR8 HR9 hs20
          obtain ⟨sm, hsm⟩ : ∃ sm, sm = tabSum t body := ⟨_, rfl⟩
          have hsumt : ∀ W, Below w.heap.size w W → Calls Tryz.prog 17 #[.agg #[.int .u8 t.a, .int .u8 t.b, .int .u8 t.c, .int .u8 t.d], .slice A' m c'] W fun e w' => e = .returned (.int .u32 (sm : Nat)) ∧ Below W.heap.size W w' := fun W hW => by
            have := sum_refT t A' c' body W (HBY.out.below hW) (by have := HM.out; omega)
            rw [← HM.out, ← hsm] at this
            exact this
          have HSUMT := Lib.hid hsumt
          have hsm32 : sm < 4294967296 := by rw [hsm]; exact tabSum_lt2 _ _
          have HSM := Lib.hid hsm
          have wsm : IntKind.i64.wrap (sm : Int) = (sm : Int) := IntWalk.i64_in _ (by omega)
          clear hsumt hsm
          go_upto_region 21 with (fail)
          refine wp_region_held_drew (S := fun W => Below w.heap.size w W) (by kernel_rfl) (HB21.out.drew) (fun hHeld => ?_)
          have HQ8 := Lib.hid (own_below HN8.out (Below.refl _ w21).drew)
          have HQ9 := Lib.hid (own_below HN9.out (Below.refl _ w21).drew)
          obtain ⟨w22, hw22⟩ : ∃ w22, w22 = w21.drew := ⟨_, rfl⟩
          rw [← hw22] at hHeld HQ8 HQ9 ⊢
          clear hw22
          have hs22 := hHeld.size
          refine heldTake 0 113 (v := ?_) rfl rfl (by kernel_rfl) (by kernel_rfl) (by kernel_rfl) (fun _ _ _ h => h) (Or.inl ⟨by rfl, ?_⟩) (by assumption) ?_
          rotate_left
          · intro W hSW
            go_simp
            try with_reducible rfl
          simp only [Act.put, List.setIfInBounds_toArray, List.set_cons_zero, List.set_cons_succ]
          refine heldTake 1 114 (v := ?_) rfl rfl (by kernel_rfl) (by kernel_rfl) (by kernel_rfl) (fun _ _ _ h => h) (Or.inl ⟨by rfl, ?_⟩) (by assumption) ?_
          rotate_left
          · intro W hSW
            go_simp
            try with_reducible rfl
          simp only [Act.put, List.setIfInBounds_toArray, List.set_cons_zero, List.set_cons_succ]
          refine heldTake 2 115 (v := ?_) rfl rfl (by kernel_rfl) (by kernel_rfl) (by kernel_rfl) (fun _ _ _ h => h) (Or.inl ⟨by rfl, ?_⟩) (by assumption) ?_
          rotate_left
          · intro W hSW
            go_simp
            try with_reducible rfl
          simp only [Act.put, List.setIfInBounds_toArray, List.set_cons_zero, List.set_cons_succ]
          refine heldTake 3 116 (v := ?_) rfl rfl (by kernel_rfl) (by kernel_rfl) (by kernel_rfl) (fun _ _ _ h => h) (Or.inl ⟨by rfl, ?_⟩) (by assumption) ?_
          rotate_left
          · intro W hSW
            obtain ⟨x0, x1, x2, x3⟩ := HTC.out W hSW
            go_simp
            try with_reducible rfl
          simp only [Act.put, List.setIfInBounds_toArray, List.set_cons_zero, List.set_cons_succ]
          refine heldTake 4 117 (v := ?_) rfl rfl (by kernel_rfl) (by kernel_rfl) (by kernel_rfl) (fun _ _ _ h => h) (Or.inl ⟨by rfl, ?_⟩) (by assumption) ?_
          rotate_left
          · intro W hSW
            go_simp
            try with_reducible rfl
          simp only [Act.put, List.setIfInBounds_toArray, List.set_cons_zero, List.set_cons_succ]
          refine heldTake 5 118 (v := ?_) rfl rfl (by kernel_rfl) (by kernel_rfl) (by kernel_rfl) (fun _ _ _ h => h) (Or.inl ⟨by rfl, ?_⟩) (by assumption) ?_
          rotate_left
          · intro W hSW
            go_simp
            try with_reducible rfl
          simp only [Act.put, List.setIfInBounds_toArray, List.set_cons_zero, List.set_cons_succ]
          refine heldTake 6 119 (v := ?_) rfl rfl (by kernel_rfl) (by kernel_rfl) (by kernel_rfl) (fun _ _ _ h => h) (Or.inl ⟨by rfl, ?_⟩) (by assumption) ?_
          rotate_left
          · intro W hSW
            go_simp
            try with_reducible rfl
          simp only [Act.put, List.setIfInBounds_toArray, List.set_cons_zero, List.set_cons_succ]
          refine heldTake 7 120 (v := ?_) rfl rfl (by kernel_rfl) (by kernel_rfl) (by kernel_rfl) (fun _ _ _ h => h) (Or.inl ⟨by rfl, ?_⟩) (by assumption) ?_
          rotate_left
          · intro W hSW
            have x0 := HBC.out W hSW
            go_simp
            try with_reducible rfl
          simp only [Act.put, List.setIfInBounds_toArray, List.set_cons_zero, List.set_cons_succ]
          refine heldTake 10 123 (v := ?_) rfl rfl (by kernel_rfl) (by kernel_rfl) (by kernel_rfl) (fun _ _ _ h => h) (Or.inl ⟨by rfl, ?_⟩) (by assumption) ?_
          rotate_left
          · intro W hSW
            go_simp
            try with_reducible rfl
          simp only [Act.put, List.setIfInBounds_toArray, List.set_cons_zero, List.set_cons_succ]
          refine heldTake 11 124 (v := ?_) rfl rfl (by kernel_rfl) (by kernel_rfl) (by kernel_rfl) (fun _ _ _ h => h) (Or.inl ⟨by rfl, ?_⟩) (by assumption) ?_
          rotate_left
          · intro W hSW
            go_simp
            try with_reducible rfl
          simp only [Act.put, List.setIfInBounds_toArray, List.set_cons_zero, List.set_cons_succ]
          refine heldTake 12 125 (v := ?_) rfl rfl (by kernel_rfl) (by kernel_rfl) (by kernel_rfl) (fun _ _ _ h => h) (Or.inl ⟨by rfl, ?_⟩) (by assumption) ?_
          rotate_left
          · intro W hSW
            go_simp
            try with_reducible rfl
          simp only [Act.put, List.setIfInBounds_toArray, List.set_cons_zero, List.set_cons_succ]
          refine heldTake 13 126 (v := ?_) rfl rfl (by kernel_rfl) (by kernel_rfl) (by kernel_rfl) (fun _ _ _ h => h) (Or.inl ⟨by rfl, ?_⟩) (by assumption) ?_
          rotate_left
          · intro W hSW
            go_simp
            try with_reducible rfl
          simp only [Act.put, List.setIfInBounds_toArray, List.set_cons_zero, List.set_cons_succ]
          refine heldTake 14 127 (v := ?_) rfl rfl (by kernel_rfl) (by kernel_rfl) (by kernel_rfl) (fun _ _ _ h => h) (Or.inl ⟨by rfl, ?_⟩) (by assumption) ?_
          rotate_left
          · intro W hSW
            have x0 := HBC.out W hSW
            go_simp
            try with_reducible rfl
          simp only [Act.put, List.setIfInBounds_toArray, List.set_cons_zero, List.set_cons_succ]
          refine heldTake 15 128 (v := ?_) rfl rfl (by kernel_rfl) (by kernel_rfl) (by kernel_rfl) (fun _ _ _ h => h) (Or.inl ⟨by rfl, ?_⟩) (by assumption) ?_
          rotate_left
          · intro W hSW
            go_simp
            try with_reducible rfl
          simp only [Act.put, List.setIfInBounds_toArray, List.set_cons_zero, List.set_cons_succ]
          refine wpAnyH_ready (rs := [8]) (by kernel_rfl) (by simp) ?_
          refine AllReadyH.cons rfl (fun K1 hK1 => ?_) AllReadyH.nil
          go_simp
          refine (HSUMT.out _ hHeld).mono ?_
          rintro e w23 ⟨rfl, hb23⟩
          have hS2 : Below w.heap.size w w23 := hHeld.trans (hb23.mono hs22)
          have HP8 := Lib.hid (own_below HQ8.out hb23)
          have HP9 := Lib.hid (own_below HQ9.out hb23)
          have hs23 := hS2.size
          refine hK1.out _ _ hS2 (fun hHeld2 => ?_)
          clear hK1 K1 hb23 hS2 HQ8 HQ9
          try simp only [Act.put, List.setIfInBounds_toArray, List.set_cons_zero, List.set_cons_succ]
          refine heldTake 9 122 (v := ?_) rfl rfl (by kernel_rfl) (by kernel_rfl) (by kernel_rfl) (fun _ _ _ h => h) (Or.inl ⟨by rfl, ?_⟩) (by assumption) ?_
          rotate_left
          · intro W hSW
            go_simp
            try with_reducible rfl
          simp only [Act.put, List.setIfInBounds_toArray, List.set_cons_zero, List.set_cons_succ]
          refine wpAnyH_ready (rs := [16]) (by kernel_rfl) (by simp) ?_
          refine AllReadyH.cons rfl (fun K1 hK1 => ?_) AllReadyH.nil
          go_simp
          have hS3 := hHeld2.alloc hs23 (.cells #[.int .i64 sm, .int .i64 at0, .int .i64 m] 2)
          refine hK1.out _ _ hS3 (fun hHeld3 => ?_)
          clear hK1 K1
          try simp only [Act.put, List.setIfInBounds_toArray, List.set_cons_zero, List.set_cons_succ]
          refine wpAnyH_ready (rs := [17]) (by kernel_rfl) (by simp) ?_
          refine AllReadyH.cons rfl (fun K1 hK1 => ?_) AllReadyH.nil
          go_simp
          have hI : IntsR .i64 (w23.alloc (Obj.cells #[.int .i64 sm, .int .i64 at0, .int .i64 m] 2)) (some ⟨w23.heap.size, 0, none⟩) 3 [(sm : Int), at0, m] := intsR_new .i64 w23 [(sm : Int), at0, m] 2 (by simp)
          have hpr := put_ref (some ⟨w23.heap.size, 0, none⟩) 3 [(sm : Int), at0, m] ⟨#[73, 73, 73]⟩ _ hI (by simp) rfl
          rw [III_put sm at0 m (by omega) (by omega) (by omega)] at hpr
          refine hpr.mono ?_
          rintro e w24 ⟨A11, c11, rfl, ho24, hb24⟩
          have hn12 : (be (sm : Int) 4 ++ (be (at0 : Int) 4 ++ be (m : Int) 4)).length = 12 := by simp [be_length]
          rw [hn12] at ho24 ⊢
          have hS4 := hHeld3.trans (hb24.mono hHeld3.size)
          have HO8b := Lib.hid (own_below (HP8.out.alloc _) hb24)
          have HO9b := Lib.hid (own_below (HP9.out.alloc _) hb24)
          have HR24 := Lib.hid ho24
          refine hK1.out _ _ hS4 (fun hHeld4 => ?_)
          clear hK1 K1 hI hpr ho24 hb24 hS3 hS4 HP8 HP9
          try simp only [Act.put, List.setIfInBounds_toArray, List.set_cons_zero, List.set_cons_succ]
          refine heldTake 18 112 (v := ?_) rfl rfl (by kernel_rfl) (by kernel_rfl) (by kernel_rfl) (fun _ _ _ h => h) (Or.inl ⟨by rfl, ?_⟩) (by assumption) ?_
          rotate_left
          · intro W hSW
            go_simp
            try with_reducible rfl
          simp only [Act.put, List.setIfInBounds_toArray, List.set_cons_zero, List.set_cons_succ]
          refine heldTake 19 131 (v := ?_) rfl rfl (by kernel_rfl) (by kernel_rfl) (by kernel_rfl) (fun _ _ _ h => h) (Or.inl ⟨by rfl, ?_⟩) (by assumption) ?_
          rotate_left
          · intro W hSW
            go_simp
            try with_reducible rfl
          simp only [Act.put, List.setIfInBounds_toArray, List.set_cons_zero, List.set_cons_succ]
          refine heldTake 20 132 (v := ?_) rfl rfl (by kernel_rfl) (by kernel_rfl) (by kernel_rfl) (fun _ _ _ h => h) (Or.inl ⟨by rfl, ?_⟩) (by assumption) ?_
          rotate_left
          · intro W hSW
            go_simp
            try with_reducible rfl
          simp only [Act.put, List.setIfInBounds_toArray, List.set_cons_zero, List.set_cons_succ]
          refine heldTake 21 13 (v := ?_) rfl rfl (by kernel_rfl) (by kernel_rfl) (by kernel_rfl) (fun _ _ _ h => h) (Or.inl ⟨by rfl, ?_⟩) (by assumption) ?_
          rotate_left
          · intro W hSW
            go_simp
            try with_reducible rfl
          simp only [Act.put, List.setIfInBounds_toArray, List.set_cons_zero, List.set_cons_succ]
          refine heldTake 22 14 (v := ?_) rfl rfl (by kernel_rfl) (by kernel_rfl) (by kernel_rfl) (fun _ _ _ h => h) (Or.inl ⟨by rfl, ?_⟩) (by assumption) ?_
          rotate_left
          · intro W hSW
            go_simp
            try with_reducible rfl
          simp only [Act.put, List.setIfInBounds_toArray, List.set_cons_zero, List.set_cons_succ]
          refine wpAnyH_done (by kernel_rfl) ?_ _
          have HB24 := Lib.hid hHeld4
          clear hHeld hHeld2 hHeld3 hHeld4 hs22 hs23 HSUMT HN8 HN9
          have HR : Hid (recB t body at0 = t.bytes ++ (be (tabSum t body : Nat) 4 ++ (be at0 4 ++ be body.length 4))) := rfl
          have hr := HR.out
          rw [← HSM.out, ← HM.out] at hr
          obtain ⟨X, hX⟩ : ∃ X, X = be (sm : Int) 4 ++ (be (at0 : Int) 4 ++ be (m : Int) 4) := ⟨_, rfl⟩
          have hXlt : ∀ y ∈ X, y < 256 := by
            rw [hX]
            intro y hy
            simp only [List.mem_append] at hy
            rcases hy with hy | hy | hy <;> exact be_lt _ _ _ hy
          have HR25 := HR24
          rw [← hX] at HR25 hr hn12
          obtain ⟨-, A12, c12, he12, hy24⟩ := byt_of_own HR25.out hXlt
          rw [hn12] at he12
          cases he12
          have HY24 := Lib.hid hy24
          have hnew : headB n ++ recsB tags ls bs (i + 1) = headB n ++ recsB tags ls bs i ++ t.bytes ++ X := by
            rw [HRE1.out, hr]
            simp only [List.append_assoc]
          have HNEW := Lib.hid hnew
          have HXL := Lib.hid hn12
          clear hnew hX hXlt hn12 hr hy24 HR25 HR24 HR HTC hsm32
          have hs24 := HB24.out.size
          go_upto_region 23 with (at_builtin; refine wpl_app2 rfl (.tmp 133) (.tmp 134) 25 rfl w.heap.size 5 Tryz.underlying25 info_u8 rfl (by decide) (.slice A10 (12 + 16 * i + 4) c10) (12 + 16 * i + 4) (u8s (headB n ++ recsB tags ls bs i ++ t.bytes)) rfl HO8b.out A11 12 c11 (u8s X) rfl (by rw [u8s_length, HXL.out]) (by have := HY24.out.len0; rwa [HXL.out] at this) (HY24.out.news (Kept.refl _)) (u8s_one _) (by unfold maxLen; omega) (by omega) hs24 ?_; intro v' w25 hown hg25 h5; obtain ⟨A13, c13, rfl⟩ := own_form hown; have HG25 := Lib.hid hg25; have H5 := Lib.hid h5; have HW25 := Lib.hid hown; clear hown hg25 h5)
          have hb25 := below_grown HB24.out HO8b.out hs24 HG25.out
          have ho25 := other_row HO9b.out HNE2.out HG25.out H5.out
          have hw25 := HW25.out
          have hl1 : 12 + 16 * i + 4 + 12 = 12 + 16 * (i + 1) := by omega
          rw [← u8s_append, ← HNEW.out, hl1] at hw25
          rw [hl1] at ho25 ⊢
          have HB25 := Lib.hid hb25
          have HRC := Lib.hid hw25
          have HRS := Lib.hid ho25.1
          have HNE3 := Lib.hid ho25.2
          have hbc := HBC.out _ hb25
          have hs25 := hb25.size
          obtain ⟨U, hU⟩ : ∃ U, U = upTo ls i := ⟨_, rfl⟩
          have hU4 : U % 4 = 0 := by rw [hU]; exact upTo_mod ls i
          have hUsz : U ≤ 16000000 := by omega
          rw [← hU] at HRS HNE3 ⊢
          have HU := Lib.hid hU
          have HU4 := Lib.hid hU4
          clear hb25 ho25 hw25 hl1 HG25 H5 HW25 HO8b HO9b HB24 hs24 HNEW HY24 HXL HNE2 hU hU4
          go_wp2_with (at_builtin; refine wpl_app2 rfl (.tmp 136) (.tmp 140) 25 rfl w.heap.size 5 Tryz.underlying25 info_u8 rfl (by decide) (.slice A9 U c9) U (u8s (dataB ls i)) rfl HRS.out A' m c' (u8s body) rfl (by rw [u8s_length, ← HM.out]; omega) (by have := HBY.out.len0; rwa [← HM.out] at this) (HBY.out.news (kept_of_below HB25.out)) (u8s_one _) (by unfold maxLen; omega) (by omega) hs25 ?_; intro v' w26 hown hg26 h5; obtain ⟨A14, c14, rfl⟩ := own_form hown; have HG26 := Lib.hid hg26; have H5 := Lib.hid h5; have HW26 := Lib.hid hown; clear hown hg26 h5)
          have hb26 := below_grown HB25.out HRS.out hs25 HG26.out
          have ho26 := other_row HRC.out HNE3.out.symm HG26.out H5.out
          have HB26 := Lib.hid hb26
          have HRC2 := Lib.hid ho26.1
          have HNE4 := Lib.hid ho26.2
          clear hb26 ho26 HG26 H5 HRC HRS HNE3 HB25 hs25 hbc
          go_loopw [9] (fun v wr => ∃ (j : Nat) (A' : Option Addr) (c' : Nat), j ≤ up m - m ∧ v = .slice A' (U + m + j) c' ∧
            wr.ownsRow w.heap.size 5 1 (.slice A' (U + m + j) c') (U + m + j) (u8s (dataB ls i) ++ u8s body ++ u8s (List.replicate j 0)) ∧
            wr.ownsRow w.heap.size 5 1 (.slice A13 (12 + 16 * (i + 1)) c13) (12 + 16 * (i + 1)) (u8s (headB n ++ recsB tags ls bs (i + 1))) ∧ NeBlk (.slice A13 (12 + 16 * (i + 1)) c13) (.slice A' (U + m + j) c') ∧ Below w.heap.size w wr) (fun v _ => 40000000 - rowLen v)
          case atStart => exact ⟨0, A14, c14, by omega, rfl, by simp [u8s]; simpa [u8s] using HW26.out, HRC2.out, HNE4.out, HB26.out⟩
          case round =>
            obtain ⟨j, A15, c15, hj, rfl, how, horc, hne, hbel⟩ := hrel
            have HOW2 := Lib.hid how
            have HRC3 := Lib.hid horc
            have HNE5 := Lib.hid hne
            have HB27 := Lib.hid hbel
            clear how horc hne hbel
            have hsw := HB27.out.size
            have hup3 := HHUGE.out
            by_cases hj4 : (U + m + j) % 4 = 0
            · have e1 : ((U + m + j : Nat) : Int).tmod 4 = 0 := by rw [Int.tmod_eq_emod_of_nonneg (by omega)]; omega
              have hju : j = up m - m := by have := HU4.out; omega
              have hpad : u8s (dataB ls (i + 1)) = u8s (dataB ls i) ++ u8s body ++ u8s (List.replicate j 0) := by
                rw [HD1.out]
                simp only [padded, u8s_append, ← HM.out, hju, List.append_assoc]
              have hpl : upTo ls (i + 1) = U + m + j := by
                rw [HU1.out, ← HU.out, hju]
                omega
              have HPAD := Lib.hid hpad
              have HPLN := Lib.hid hpl
              obtain ⟨um, hum⟩ : ∃ um, um = up m := ⟨_, rfl⟩
              have hupk := up_ok m wr (by omega)
              rw [← hum] at hupk hup3
              have HUPK := Lib.hid hupk
              have hbc2 := HBC.out wr HB27.out
              obtain ⟨at1, hat1⟩ : ∃ at1, at1 = at0 + um := ⟨_, rfl⟩
              have wat : IntKind.i64.wrap ((at0 : Int) + (um : Int)) = (at1 : Int) := by rw [IntWalk.i64_in _ (by omega)]; omega
              have hat2 : bs + upTo ls (i + 1) = at1 := by rw [HU1.out, hat1, HAT0.out, hum]; omega
              have HAT2 := Lib.hid hat2
              clear hju hpad hpl hupk hum hat1 hat2
              generalize ((U + m + j : Nat) : Int) = z at *
              go_wp2_with (go_at_call 18; refine HUPK.out.mono ?_; rintro e w' ⟨rfl, rfl⟩)
              go_roundw
              case rel =>
                exact ⟨i + 1, A13, c13, A15, c15, by omega, by go_num, by rw [HAT2.out], rfl, rfl, by rw [HPLN.out], HRC3.out, by rw [HPLN.out, HPAD.out]; exact HOW2.out, by rw [HPLN.out]; exact HNE5.out, HB27.out⟩
              case measure => simp [intOf]; omega
            · obtain ⟨q, hq, hq1, hq2⟩ : ∃ q : Nat, ((U + m + j : Nat) : Int).tmod 4 = (q : Int) ∧ 0 < q ∧ q < 4 := ⟨(U + m + j) % 4, by rw [Int.tmod_eq_emod_of_nonneg (by omega)]; omega, by omega, by omega⟩
              have d1 : ((q : Int) != 0) = true := by simp; omega
              have wr1 : IntKind.i64.wrap (q : Int) = (q : Int) := IntWalk.i64_in _ (by omega)
              have hju : j + 1 ≤ up m - m := by have := HU4.out; omega
              have hrep : u8s (List.replicate (j + 1) 0) = u8s (List.replicate j 0) ++ u8s [0] := by rw [← u8s_append]; congr 1; exact List.replicate_succ'
              have HREP := Lib.hid hrep
              clear hrep
              generalize hz : ((U + m + j : Nat) : Int) = z at *
              have HZ := Lib.hid hz
              clear hz
              go_wp2_with (at_builtin; refine wpl_app2 rfl (.tmp 146) (.tmp 147) 25 rfl w.heap.size 5 Tryz.underlying25 info_u8 rfl (by decide) (.slice A15 (U + m + j) c15) (U + m + j) (u8s (dataB ls i) ++ u8s body ++ u8s (List.replicate j 0)) rfl (HOW2.out.alloc _) (some ⟨wr.heap.size, 0, none⟩) 1 1 (u8s [0]) rfl rfl (fun h => by cases h) (news_block _ _ _ _ rfl) (u8s_one _) (by unfold maxLen; omega) (by omega) (by simp; omega) ?_; intro v' w8 hown hg h5; obtain ⟨A16, c16, rfl⟩ := own_form hown; have HG := Lib.hid hg; have H5 := Lib.hid h5; have HOX := Lib.hid hown; clear hown hg h5)
              have hb8 := below_grown (HB27.out.alloc hsw _) (HOW2.out.alloc _) (by simp; omega) HG.out
              have ho8 := other_row (HRC3.out.alloc _) HNE5.out HG.out H5.out
              go_roundw
              case rel => exact ⟨j + 1, A16, c16, hju, rfl, by rw [HREP.out, ← List.append_assoc]; exact HOX.out, ho8.1, ho8.2, hb8⟩
              case measure => simp [rowLen]; omega
        · have hin : n = i := by omega
          subst hin
          have hbs2 := HBS.out
          obtain ⟨at0, hat0⟩ : ∃ at0, at0 = bs + upTo ls n := ⟨_, rfl⟩
          rw [← hat0]
          have d2 : decide ((16777216 : Int) < (at0 : Int)) = false := decide_eq_false (by omega)
          have d2b : decide (16777216 < at0) = false := decide_eq_false (by omega)
          have hraw : headB n ++ recsB tags ls bs n ++ dataB ls n = rawB tags ls := by
            unfold rawB
            rw [← HN.out, ← hbs2]
          have hrl : 12 + 16 * n + upTo ls n = (rawB tags ls).length := by
            rw [raw_len, ← HN.out]
          have hfile : fileB tags ls = fileOf (rawB tags ls) (placeOf tags ls bs n) := by
            unfold fileB
            rw [← HN.out, ← hbs2]
          have hlt : ∀ x ∈ rawB tags ls, x < 256 := rawB_lt tags ls HT.out.ok (fun l hl => by
            obtain ⟨k, hk, he⟩ := List.getElem_of_mem hl
            obtain ⟨bb, bbo, -, hc⟩ := HB.out.cells (by omega)
            obtain ⟨A', c', -, hy⟩ := hc k l (by rw [List.getElem?_eq_getElem hk, he])
            exact hy.lt)
          have hple := fun p (h : placeOf tags ls bs n = some p) => placeOf_le h
          have HLT := Lib.hid hlt
          have HRAW := Lib.hid hraw
          have HRL := Lib.hid hrl
          have HFI := Lib.hid hfile
          have HPL := Lib.hid hple
          have hs9 := HBE.out.size
          have hU : upTo ls n ≤ 16000000 := hsz
          obtain ⟨Y, hY⟩ : ∃ Y, Y = dataB ls n := ⟨_, rfl⟩
          have hYl : Y.length = upTo ls n := by rw [hY]; exact dataB_length ls n
          have hYlt : ∀ y ∈ Y, y < 256 := fun y hy => by
            refine HLT.out y ?_
            rw [← HRAW.out, ← hY]
            exact List.mem_append.2 (.inr hy)
          have HR9b := HR9
          rw [← hY] at HR9b
          obtain ⟨-, A17, c17, he17, hy9⟩ := byt_of_own HR9b.out hYlt
          rw [hYl] at he17
          cases he17
          have HY9 := Lib.hid hy9
          have HYL := Lib.hid hYl
          have HYE := Lib.hid hY
          clear hat0 hraw hrl hfile hlt hple hbs2 hY hYl hYlt hy9 HR9 hms ci
          go_upto_region 30 with (at_builtin; refine wpl_app2 rfl (.tmp 159) (.tmp 160) 25 rfl w.heap.size 5 Tryz.underlying25 info_u8 rfl (by decide) (.slice A8 (12 + 16 * n) c8) (12 + 16 * n) (u8s (headB n ++ recsB tags ls bs n)) rfl HR8.out A9 (upTo ls n) c9 (u8s Y) rfl (by rw [u8s_length, HYL.out]; omega) (by have := HY9.out.len0; rwa [HYL.out] at this) (HY9.out.news (Kept.refl _)) (u8s_one _) (by unfold maxLen; omega) (by omega) hs9 ?_; intro v' w30 hown hg h5; obtain ⟨A18, c18, rfl⟩ := own_form hown; have HG30 := Lib.hid hg; have HO30 := Lib.hid hown; clear hown hg h5)
          have hb30 := below_grown HBE.out HR8.out hs9 HG30.out
          have ho30 := HO30.out
          rw [← u8s_append, HYE.out, HRAW.out, HRL.out] at ho30
          rw [HRL.out]
          have HB30 := Lib.hid hb30
          have HW30 := Lib.hid ho30
          clear hb30 ho30 HG30 HO30 HR8 HR9b HY9 hs9
          obtain ⟨L, hL⟩ : ∃ L, L = rawB tags ls := ⟨_, rfl⟩
          rw [← hL] at HW30 HFI HLT ⊢
          have hLl : L.length ≤ 16002000 := by have := HRL.out; rw [← hL] at this; omega
          have hPle : ∀ p, placeOf tags ls bs n = some p → p + 4 ≤ L.length := fun p hp => by
            have h1 := HPL.out p hp
            have h2 := HRL.out
            have h3 := HBS.out
            rw [← hL] at h2
            omega
          have HPLE := Lib.hid hPle
          clear hL hPle HPL HRL HRAW
          obtain ⟨P, hP⟩ : ∃ P, P = placeOf tags ls bs n := ⟨_, rfl⟩
          rw [← hP] at HFI HPLE ⊢
          clear hP
          cases P with
          | none =>
            have hpv : placeV none = -1 := rfl
            go_wp2_with fail
            go_ret2
            show JoinPost _ w _ _ _
            rw [joinF_ok hok.out, HFI.out]
            exact ⟨A18, c18, rfl, HW30.out, HB30.out⟩
          | some p =>
            have hpv : placeV (some p) = (p : Int) := rfl
            have hp4 := HPLE.out p rfl
            obtain ⟨g, hA18, q1, q2, q3, q4⟩ := own_pos HW30.out (by omega)
            subst hA18
            go_wp2_with fail
            go_loopw [16] (fun v wr => ∃ j : Nat, j ≤ 4 ∧ v = .int .i64 j ∧ wr.ownsRow w.heap.size 5 1 (.slice (some ⟨g, 0, none⟩) L.length c18) L.length (u8s (putAt L p [0, 0, 0, 0] j)) ∧ Below w.heap.size w wr) (fun v _ => 4 - (intOf v).toNat)
            case atStart => exact ⟨0, by omega, rfl, by rw [putAt_zero]; exact HW30.out, HB30.out⟩
            case round =>
              obtain ⟨j, hj, rfl, how, hbel⟩ := hrel
              have HOW := Lib.hid how
              have HBJ := Lib.hid hbel
              clear how hbel
              by_cases cj : j < 4
              · have hox := HOW.out
                have wpj : IntKind.i64.wrap ((p : Int) + (j : Int)) = ((p + j : Nat) : Int) := by rw [IntWalk.i64_in _ (by omega)]; omega
                have wk : IntKind.i64.wrap ((j : Int) + 1) = ((j + 1 : Nat) : Int) := by rw [IntWalk.i64_in _ (by omega)]; omega
                have b0 : (0 : Int) ≤ ((p + j : Nat) : Int) := by omega
                have b1 : ((p + j : Nat) : Int) < (L.length : Int) := by omega
                have hpl2 := putAt_length L p [0, 0, 0, 0] j (by simpa using hj) (by omega)
                have hcell : (wr.cell? ⟨g, p + j, none⟩).isSome = true := by
                  rw [hox.cellAt (p + j) (by omega)]
                  simp [u8s]
                  omega
                obtain ⟨v0, hv0⟩ := Option.isSome_iff_exists.1 hcell
                have hfr := hox.frozenAt (p + j)
                have hst := (hox.stored (p + j) (.int .u8 0)).1
                have hset : (u8s (putAt L p [0, 0, 0, 0] j)).set (p + j) (.int .u8 0) = u8s (putAt L p [0, 0, 0, 0] (j + 1)) := by
                  rw [← putAt_set L p [0, 0, 0, 0] j (by simpa using cj) (by omega)]
                  have hz : ([0, 0, 0, 0] : List Nat).getD j 0 = 0 := by
                    match j, cj with
                    | 0, _ => rfl
                    | 1, _ => rfl
                    | 2, _ => rfl
                    | 3, _ => rfl
                  rw [hz]
                  simp [u8s, List.map_set]
                rw [hset] at hst
                have HST := Lib.hid hst
                have HB4 := Lib.hid (HBJ.out.setCell (p := ⟨g, p + j, none⟩) (by exact q3) (.int .u8 0))
                clear hox hst hset hcell hpl2
                obtain ⟨pj, hpj⟩ : ∃ pj, pj = p + j := ⟨_, rfl⟩
                rw [← hpj] at wpj b0 b1 hv0 hfr HST HB4
                clear hpj
                go_wp2_with fail
                go_roundw
                case rel => exact ⟨j + 1, by omega, by go_num, HST.out, HB4.out⟩
                case measure => simp [intOf]; omega
              · have hj4 : j = 4 := by omega
                subst hj4
                have how4 := HOW.out
                rw [putAt_zeros] at how4
                obtain ⟨Z, hZ⟩ : ∃ Z, Z = whole0 L p := ⟨_, rfl⟩
                have hZl : Z.length = L.length := by rw [hZ, ← putAt_zeros]; exact putAt_length L p [0, 0, 0, 0] 4 (by decide) hp4
                have hZlt : ∀ x ∈ Z, x < 256 := by
                  rw [hZ, ← putAt_zeros]
                  exact putAt_lt L p _ 4 HLT.out (by decide)
                rw [← hZ] at how4
                have hof := how4
                rw [← hZl] at hof
                obtain ⟨-, A20, c20, he20, hyz⟩ := byt_of_own hof hZlt
                cases he20
                have hsum := sum_ref (some ⟨g, 0, none⟩) c18 Z wr hyz
                rw [hZl] at hsum
                obtain ⟨sm, hsm⟩ : ∃ sm, sm = sumF Z := ⟨_, rfl⟩
                have hsm32 : sm < 4294967296 := by rw [hsm]; exact sumTo_lt _ _
                rw [← hsm] at hsum
                have HSUM := Lib.hid hsum
                obtain ⟨S, hS⟩ : ∃ S, S = wholeS L p := ⟨_, rfl⟩
                have hS2 : S = (2981146554 + 4294967296 - sm) % 4294967296 := by rw [hS, hsm, hZ]; rfl
                have ws1 : IntKind.u32.wrap (2981146554 - (sm : Int)) = (S : Int) := u32_sub sm S hsm32 hS2
                have hS32 : S < 4294967296 := by rw [hS2]; exact Nat.mod_lt _ (by decide)
                have ws2 : IntKind.i64.wrap (S : Int) = (S : Int) := IntWalk.i64_in _ (by omega)
                have hI : IntsR .i64 (wr.alloc (Obj.cells #[.int .i64 S] 2)) (some ⟨wr.heap.size, 0, none⟩) 1 [(S : Int)] := intsR_new .i64 wr [(S : Int)] 2 (by simp)
                have hpr := put_ref (some ⟨wr.heap.size, 0, none⟩) 1 [(S : Int)] ⟨#[73]⟩ _ hI (by simp) rfl
                rw [I_put S (by omega)] at hpr
                have HPR := Lib.hid hpr
                have HOZ := Lib.hid how4
                have HZE := Lib.hid hZ
                have HSE := Lib.hid hS
                have hsz4 := HBJ.out.size
                have HZL := Lib.hid hZl
                have hglt := own_block_lt how4 g rfl
                clear how4 hof hyz hsum hsm hS hS2 hI hpr hZ hZl hZlt HOW cj
                go_wp2_with (first | (go_at_call 19; refine HSUM.out.mono ?_; rintro e w' ⟨rfl, rfl⟩) | (go_at_call 13; refine HPR.out.mono ?_; rintro e w36 ⟨A17, c17, rfl, ho17, hb36⟩; rw [be_length] at ho17 ⊢; have HO17 := Lib.hid ho17; have HB36 := Lib.hid hb36; clear ho17 hb36))
                obtain ⟨X, hX⟩ : ∃ X, X = be (S : Int) 4 := ⟨_, rfl⟩
                have hXl : X.length = 4 := by rw [hX]; exact be_length _ _
                have hXlt : ∀ y ∈ X, y < 256 := by rw [hX]; exact be_lt _ _
                have ho17 := HO17.out
                rw [← hX] at ho17
                have ho17b := own_lower ho17 (base' := wr.heap.size) (by simp)
                obtain ⟨ga, hA17, -⟩ := own_pos ho17b (by decide)
                subst hA17
                have HOA := Lib.hid ho17b
                have hb37 : Below wr.heap.size wr w36 := ((Below.refl wr.heap.size wr).alloc (Nat.le_refl _) (.cells #[.int .i64 S] 2)).trans (HB36.out.mono (by simp))
                have HOB := Lib.hid (own_below HOZ.out hb37)
                have HB37 := Lib.hid (HBJ.out.trans (hb37.mono hsz4))
                have HXE := Lib.hid hX
                have HXL := Lib.hid hXl
                clear hX hXl hXlt ho17 ho17b hb37 HO17 HB36 HOZ HBJ HSUM HPR ws1 ws2
                obtain ⟨B1, hB1⟩ : ∃ B1, B1 = wr.heap.size := ⟨_, rfl⟩
                rw [← hB1] at HOA hglt
                clear hB1
                go_loopw [19] (fun v wt => ∃ j : Nat, j ≤ 4 ∧ v = .int .i64 j ∧ wt.ownsRow w.heap.size 5 1 (.slice (some ⟨g, 0, none⟩) L.length c18) L.length (u8s (putAt Z p X j)) ∧
                  wt.ownsRow B1 5 1 (.slice (some ⟨ga, 0, none⟩) 4 c17) 4 (u8s X) ∧ Below w.heap.size w wt) (fun v _ => 4 - (intOf v).toNat)
                case atStart => exact ⟨0, by omega, rfl, by rw [putAt_zero]; exact HOB.out, HOA.out, HB37.out⟩
                case round =>
                  obtain ⟨j, hj, rfl, how, hoa, hbel⟩ := hrel
                  have HOW := Lib.hid how
                  have HOA2 := Lib.hid hoa
                  have HBJ := Lib.hid hbel
                  clear how hoa hbel
                  by_cases cj : j < 4
                  · have hox := HOW.out
                    have hxl := HXL.out
                    have hzl := HZL.out
                    have wpj : IntKind.i64.wrap ((p : Int) + (j : Int)) = ((p + j : Nat) : Int) := by rw [IntWalk.i64_in _ (by omega)]; omega
                    have wk : IntKind.i64.wrap ((j : Int) + 1) = ((j + 1 : Nat) : Int) := by rw [IntWalk.i64_in _ (by omega)]; omega
                    have b0 : (0 : Int) ≤ ((p + j : Nat) : Int) := by omega
                    have b1 : ((p + j : Nat) : Int) < (L.length : Int) := by omega
                    have b2 : (0 : Int) ≤ (j : Int) := by omega
                    have b3 : (j : Int) < 4 := by omega
                    have hpl2 := putAt_length Z p X j (by omega) (by omega)
                    have hcell : (wr.cell? ⟨g, p + j, none⟩).isSome = true := by
                      rw [hox.cellAt (p + j) (by omega)]
                      simp [u8s]
                      omega
                    obtain ⟨v0, hv0⟩ := Option.isSome_iff_exists.1 hcell
                    have hfr := hox.frozenAt (p + j)
                    have hac : wr.cell? ⟨ga, j, none⟩ = some (.int .u8 (X.getD j 0 : Nat)) := by
                      rw [HOA2.out.cellAt j (by omega)]
                      have : (u8s X)[j]? = some (.int .u8 (X.getD j 0 : Nat)) := by simp [u8s, List.getD, show j < X.length by omega]
                      rw [this]
                    have hst := (hox.stored (p + j) (.int .u8 (X.getD j 0 : Nat))).1
                    have hset : (u8s (putAt Z p X j)).set (p + j) (.int .u8 (X.getD j 0 : Nat)) = u8s (putAt Z p X (j + 1)) := by
                      rw [← putAt_set Z p X j (by omega) (by omega)]
                      simp [u8s, List.map_set]
                    rw [hset] at hst
                    have HST := Lib.hid hst
                    have HB4 := Lib.hid (HBJ.out.setCell (p := ⟨g, p + j, none⟩) (by exact q3) (.int .u8 (X.getD j 0 : Nat)))
                    have HOA3 := Lib.hid (ownsRow_setCell_below HOA2.out (a := ⟨g, p + j, none⟩) hglt (.int .u8 (X.getD j 0 : Nat)))
                    obtain ⟨x0, hx0⟩ : ∃ x0, x0 = X.getD j 0 := ⟨_, rfl⟩
                    obtain ⟨pj, hpj⟩ : ∃ pj, pj = p + j := ⟨_, rfl⟩
                    rw [← hx0] at hac HST HB4 HOA3
                    rw [← hpj] at wpj b0 b1 hv0 hfr HST HB4 HOA3
                    clear hox hst hset hcell hpl2 hxl hzl hx0 hpj
                    go_wp2_with fail
                    go_roundw
                    case rel => exact ⟨j + 1, by omega, by go_num, HST.out, HOA3.out, HB4.out⟩
                    case measure => simp [intOf]; omega
                  · have hj4 : j = 4 := by omega
                    subst hj4
                    have hw := HOW.out
                    have hxe := HXE.out
                    have hze := HZE.out
                    have hse := HSE.out
                    have hwh : putAt Z p X 4 = whole4 L p := by rw [hxe, hze, hse]; exact putAt_whole L p hp4
                    rw [hwh] at hw
                    have HW := Lib.hid hw
                    clear hw hxe hze hse hwh
                    go_wp2_with fail
                    go_ret2
                    show JoinPost _ w _ _ _
                    rw [joinF_ok hok.out, HFI.out]
                    have hfl : (whole4 L p).length = L.length := by
                      simp [whole4, be_length]
                      omega
                    show JoinPost _ w (some (whole4 L p)) _ _
                    exact ⟨some ⟨g, 0, none⟩, c18, by rw [hfl]; rfl, by rw [hfl]; exact HW.out, HBJ.out⟩
end Go.Proofs.YtfbppbelcbbhlaaGreatDoor.Sf
