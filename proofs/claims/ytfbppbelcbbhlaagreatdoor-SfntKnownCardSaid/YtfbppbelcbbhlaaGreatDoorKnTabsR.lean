import Derived.Test.YtfbppbelcbbhlaaGreatDoorKnTabsBad

/- Two regions of calamusref05.Tables, each a theorem of its own (printed by gen/split_tabs.py). -/
namespace Go.Proofs.YtfbppbelcbbhlaaGreatDoor.Sf
open Go Go.RowKit
set_option linter.unusedVariables false

/-- The region of a number in a code. -/
def findRegion (n : Nat) : Code → Option Code
  | .region id ops b => if id = n then some (.region id ops b) else none
  | .seq a b => match findRegion n a with
    | some c => some c
    | none => findRegion n b
  | .loop a => findRegion n a
  | .block _ a => findRegion n a
  | .scope a => findRegion n a
  | .cond _ a b => match findRegion n a with
    | some c => some c
    | none => findRegion n b
  | _ => none
noncomputable def refReg (n : Nat) : Code := ((Tryz.f23.body.bind (findRegion n)).getD .skip)

set_option maxRecDepth 1000000 in
set_option maxHeartbeats 2000000 in
theorem ref_r10 {w wx : World} {b bo cap g a n k c' rat rln ta tb tc td : Nat} {A' : Option Addr} {l : List Nat} {x1 x2 x3 x9 x10 x11 x12 x13 x14 x15 x16 x17 x18 x19 x20 x21 x22 x23 x24 x25 x26 x27 x28 x29 x30 x31 x32 x33 x34 x35 x36 x37 x38 x39 x40 x41 x42 x43 x44 x45 x46 x47 x48 x49 x50 x51 x52 x53 x54 x55 x56 x57 x58 x59 x60 x61 x62 x63 x64 x65 x66 x67 x68 x69 x70 x71 x72 x73 x74 x75 x76 x77 x78 x79 x80 x81 x82 x83 x84 x85 x86 x87 x88 x89 x90 x91 x92 x93 x94 x95 x96 x97 x98 x99 x100 x101 x102 x103 x104 x105 x106 x107 x108 x109 x110 x111 x112 x113 x114 x115 x116 x117 x118 x119 x120 x121 x122 x123 x124 x125 x126 x127 x128 x129 x130 x131 x132 x133 x134 x135 x136 x137 x138 x139 x140 x141 x142 x143 x144 x145 x146 x147 x148 x149 x150 x151 x152 x153 x154 x155 x156 x157 x158 x159 x160 x161 x162 x163 x164 x165 x166 x167 x168 x169 x170 x171 x172 x173 x174 x175 x176 x177 x178 x179 x180 x181 x182 x183 x184 x185 x186 x187 x188 : Value} {K : Exit → Act → World → Prop}
    (hle : l.length ≤ cap) (hmax : cap ≤ 9223372036854775807) (f1 : l.length ≤ 16777216) (f3 : 1 ≤ n) (f4 : n ≤ 64) (hlt : k < n) (ha16 : a + 16 ≤ l.length) (HAT : Hid (a = 12 + 16 * k)) (HH : Hid (Byt w (some ⟨b, bo, none⟩) cap l))
    (HRA : Hid ((recAt l k).at_ = rat)) (HRL : Hid ((recAt l k).len = rln)) (et : Hid ((recAt l k).tag = ⟨ta, tb, tc, td⟩)) (HB9 : Hid (Below w.heap.size w wx)) (HW9 : Hid (wx.ownsRow w.heap.size 77 6 (.slice A' k c') k (tbs (recs l k))))
    (q0 : wx.cell? ⟨g, 0, none⟩ = some (.int .u8 ta)) (q1 : wx.cell? ⟨g, 1, none⟩ = some (.int .u8 tb)) (q2 : wx.cell? ⟨g, 2, none⟩ = some (.int .u8 tc)) (q3 : wx.cell? ⟨g, 3, none⟩ = some (.int .u8 td)) (q4 : wx.cell? ⟨g, 4, none⟩ = some (.int .i64 rat)) (q5 : wx.cell? ⟨g, 5, none⟩ = some (.int .i64 rln))
    (hK : ∀ (e : Grown wx) (y82 y83 y84 y85 y86 y87 y88 y89 y90 y91 y92 y93 y94 y95 y96 y97 y98 y99 y100 y101 y102 y103 y104 y105 y106 y107 y108 y109 y110 y111 y112 y113 y114 y115 y116 y117 y118 y119 y120 y121 y122 y123 y124 y125 y126 y127 y128 y129 y130 y131 y132 y133 y134 y135 y136 y137 : Value), K .normal ⟨List.toArray ((Value.slice (some ⟨b, bo, none⟩) l.length cap) :: x1 :: x2 :: x3 :: (Value.int .i64 n) :: (Value.slice A' k c') :: (Value.int .i64 k) :: (Value.int .i64 a) :: (Value.pointer (some ⟨g, 0, none⟩)) :: x9 :: x10 :: x11 :: x12 :: x13 :: x14 :: x15 :: x16 :: x17 :: x18 :: x19 :: x20 :: x21 :: x22 :: x23 :: x24 :: x25 :: x26 :: x27 :: x28 :: x29 :: x30 :: x31 :: x32 :: x33 :: x34 :: x35 :: x36 :: x37 :: x38 :: x39 :: x40 :: x41 :: x42 :: x43 :: x44 :: x45 :: x46 :: x47 :: x48 :: x49 :: x50 :: x51 :: x52 :: x53 :: x54 :: x55 :: x56 :: x57 :: x58 :: x59 :: x60 :: x61 :: x62 :: x63 :: x64 :: x65 :: x66 :: x67 :: x68 :: x69 :: x70 :: x71 :: x72 :: x73 :: x74 :: x75 :: x76 :: x77 :: x78 :: x79 :: x80 :: x81 :: y82 :: y83 :: y84 :: y85 :: y86 :: y87 :: y88 :: y89 :: y90 :: y91 :: y92 :: y93 :: y94 :: y95 :: y96 :: y97 :: y98 :: y99 :: y100 :: y101 :: y102 :: y103 :: y104 :: y105 :: y106 :: y107 :: y108 :: y109 :: y110 :: y111 :: y112 :: y113 :: y114 :: y115 :: y116 :: y117 :: y118 :: y119 :: y120 :: y121 :: y122 :: y123 :: y124 :: y125 :: y126 :: y127 :: y128 :: y129 :: y130 :: y131 :: y132 :: y133 :: y134 :: y135 :: y136 :: y137 :: (Value.bool (!decide (recOk l n k))) :: x139 :: x140 :: x141 :: x142 :: x143 :: x144 :: x145 :: x146 :: x147 :: x148 :: x149 :: x150 :: x151 :: x152 :: x153 :: x154 :: x155 :: x156 :: x157 :: x158 :: x159 :: x160 :: x161 :: x162 :: x163 :: x164 :: x165 :: x166 :: x167 :: x168 :: x169 :: x170 :: x171 :: x172 :: x173 :: x174 :: x175 :: x176 :: x177 :: x178 :: x179 :: x180 :: x181 :: x182 :: x183 :: x184 :: x185 :: x186 :: x187 :: x188 :: []), []⟩ e.w) :
    Code.wp Tryz.prog (refReg 10) K ⟨List.toArray ((Value.slice (some ⟨b, bo, none⟩) l.length cap) :: x1 :: x2 :: x3 :: (Value.int .i64 n) :: (Value.slice A' k c') :: (Value.int .i64 k) :: (Value.int .i64 a) :: (Value.pointer (some ⟨g, 0, none⟩)) :: x9 :: x10 :: x11 :: x12 :: x13 :: x14 :: x15 :: x16 :: x17 :: x18 :: x19 :: x20 :: x21 :: x22 :: x23 :: x24 :: x25 :: x26 :: x27 :: x28 :: x29 :: x30 :: x31 :: x32 :: x33 :: x34 :: x35 :: x36 :: x37 :: x38 :: x39 :: x40 :: x41 :: x42 :: x43 :: x44 :: x45 :: x46 :: x47 :: x48 :: x49 :: x50 :: x51 :: x52 :: x53 :: x54 :: x55 :: x56 :: x57 :: x58 :: x59 :: x60 :: x61 :: x62 :: x63 :: x64 :: x65 :: x66 :: x67 :: x68 :: x69 :: x70 :: x71 :: x72 :: x73 :: x74 :: x75 :: x76 :: x77 :: x78 :: x79 :: x80 :: x81 :: x82 :: x83 :: x84 :: x85 :: x86 :: x87 :: x88 :: x89 :: x90 :: x91 :: x92 :: x93 :: x94 :: x95 :: x96 :: x97 :: x98 :: x99 :: x100 :: x101 :: x102 :: x103 :: x104 :: x105 :: x106 :: x107 :: x108 :: x109 :: x110 :: x111 :: x112 :: x113 :: x114 :: x115 :: x116 :: x117 :: x118 :: x119 :: x120 :: x121 :: x122 :: x123 :: x124 :: x125 :: x126 :: x127 :: x128 :: x129 :: x130 :: x131 :: x132 :: x133 :: x134 :: x135 :: x136 :: x137 :: x138 :: x139 :: x140 :: x141 :: x142 :: x143 :: x144 :: x145 :: x146 :: x147 :: x148 :: x149 :: x150 :: x151 :: x152 :: x153 :: x154 :: x155 :: x156 :: x157 :: x158 :: x159 :: x160 :: x161 :: x162 :: x163 :: x164 :: x165 :: x166 :: x167 :: x168 :: x169 :: x170 :: x171 :: x172 :: x173 :: x174 :: x175 :: x176 :: x177 :: x178 :: x179 :: x180 :: x181 :: x182 :: x183 :: x184 :: x185 :: x186 :: x187 :: x188 :: []), []⟩ wx := by
  have HALL := Lib.hid (fun W => all_any (some ⟨b, bo, none⟩) l.length cap (rat : Int) (rln : Int) W (by omega))
  conv => arg 2; whnf
  
  have hrec : recOk l n k ↔ rat % 4 = 0 ∧ 12 + 16 * n ≤ rat ∧ rat + rln ≤ l.length ∧ tabSum ⟨ta, tb, tc, td⟩ ((l.drop rat).take rln) = numAt l (a + 4) 4 ∧ (k = 0 ∨ tagLt (recAt l (k - 1)).tag ⟨ta, tb, tc, td⟩ = true) := by
    unfold recOk
    rw [HRA.out, HRL.out, et.out, show 12 + 16 * k + 4 = a + 4 from by rw [← HAT.out]]
  have HREC := Lib.hid hrec
  clear hrec
  have p0 : ∀ e : Grown wx, e.w.cell? ⟨g, 0, none⟩ = some (.int .u8 ta) := fun e => e.cell q0
  have p1 : ∀ e : Grown wx, e.w.cell? ⟨g, 1, none⟩ = some (.int .u8 tb) := fun e => e.cell q1
  have p2 : ∀ e : Grown wx, e.w.cell? ⟨g, 2, none⟩ = some (.int .u8 tc) := fun e => e.cell q2
  have p3 : ∀ e : Grown wx, e.w.cell? ⟨g, 3, none⟩ = some (.int .u8 td) := fun e => e.cell q3
  have p4 : ∀ e : Grown wx, e.w.cell? ⟨g, 4, none⟩ = some (.int .i64 rat) := fun e => e.cell q4
  have p5 : ∀ e : Grown wx, e.w.cell? ⟨g, 5, none⟩ = some (.int .i64 rln) := fun e => e.cell q5
  by_cases c1 : rat % 4 = 0
  · have d1 : (rat : Int).tmod 4 = 0 := by rw [Int.tmod_eq_emod_of_nonneg (by omega)]; omega
    by_cases c2 : 12 + 16 * n ≤ rat
    · have d2 : decide ((rat : Int) < 12 + 16 * (n : Int)) = false := decide_eq_false (by omega)
      have wr1 : IntKind.i64.wrap (16 * (n : Int)) = 16 * (n : Int) := IntWalk.i64_in _ (by omega)
      have wr2 : IntKind.i64.wrap (12 + 16 * (n : Int)) = 12 + 16 * (n : Int) := IntWalk.i64_in _ (by omega)
      by_cases c3 : rat + rln ≤ l.length
      · have hall : refAll l.length rat rln = true := by unfold refAll; exact decide_eq_true (by omega)
        rw [hall] at HALL
        clear hall
        have wr3 : IntKind.i64.wrap ((rat : Int) + (rln : Int)) = (rat : Int) + (rln : Int) := IntWalk.i64_in _ (by omega)
        have wr4 : IntKind.i64.wrap ((a : Int) + 4) = (a : Int) + 4 := IntWalk.i64_in _ (by omega)
        obtain ⟨A3, hA3, hY3⟩ := HH.out.cut rat (rat + rln) (by omega) c3
        have hl3 : ((l.drop rat).take (rat + rln - rat)).length = rln := by rw [List.length_take, List.length_drop]; omega
        have er : rat + rln - rat = rln := by omega
        rw [er] at hA3 hY3 hl3
        have hA4 : ∀ W, (Instr.slice 25 (.slice (some ⟨b, bo, none⟩) l.length cap) (some (.int .i64 (rat : Int))) (some (.int .i64 ((rat : Int) + (rln : Int)))) none).run Tryz.prog W = .ok (.slice A3 rln (cap - rat)) W := by
          intro W
          have := hA3 W
          rwa [Int.natCast_add] at this
        have hA5 : ∀ W, (Instr.sliceAt 25 (.slice (some ⟨b, bo, none⟩) l.length cap) (some (.int .i64 (rat : Int))) (some (.int .i64 ((rat : Int) + (rln : Int)))) none).run Tryz.prog W = .ok (.slice A3 rln (cap - rat)) W := by
          intro W
          rw [run_sliceAt_slice W _ _ _ _ _ Tryz.underlying25]
          exact hA4 W
        clear hA3
        have HSUM := Lib.hid (fun W (hW : Below w.heap.size w W) => sum_refT ⟨ta, tb, tc, td⟩ A3 (cap - rat) ((l.drop rat).take rln) W (hY3.below hW) (by omega))
        rw [hl3] at HSUM
        have HL4 := Lib.hid (fun W (hW : Below w.heap.size w W) => l_ref (some ⟨b, bo, none⟩) cap l ((a : Int) + 4) W (HH.out.below hW))
        have e4 : refNum l ((a : Int) + 4) 4 = numAt l (a + 4) 4 := by
          unfold refNum
          rw [if_pos (by omega)]
          rfl
        rw [e4] at HL4
        have hn4 : numAt l (a + 4) 4 < 4294967296 := numF_lt _
        have hs4 : tabSum ⟨ta, tb, tc, td⟩ ((l.drop rat).take rln) < 4294967296 := by
          unfold tabSum
          split
          · exact sumTo_lt _ _
          · exact sumTo_lt _ _
        generalize tabSum ⟨ta, tb, tc, td⟩ ((l.drop rat).take rln) = sm at *
        generalize numAt l (a + 4) 4 = nm at *
        have wr5 : IntKind.u32.wrap (nm : Int) = (nm : Int) := IntWalk.u32_in _ (by omega)
        simp only [Tg.val] at HSUM
        clear e4 hl3 er hY3
        by_cases c4 : sm = nm
        · have d4 : ((nm : Int) != (nm : Int)) = false := by simp
          subst c4
          rcases Nat.eq_zero_or_pos k with c5 | c5
          · have d5 : decide ((0 : Int) < (k : Int)) = false := decide_eq_false (by omega)
            have d5b : decide (0 < k) = false := decide_eq_false (by omega)
            have HC5 := Lib.hid c5
            clear c5
            refine wp_region_grown (by as_aux_lemma => kernel_rfl) (by as_aux_lemma => kernel_rfl) ?_
            repeat (go_big_quiet_step (first | (go_at_call 52; exact calls_grown_same (HALL.out _)) | (go_at_call 51; exact calls_grown_same (HL4.out _ (Grown.outer _ HB9.out))) | (go_at_call 17; exact calls_grown (HSUM.out _ (Grown.outer _ HB9.out)))))
            refine wpQuiet_nil ?_
            rintro _ ⟨eg, rfl⟩
            have hv := hK eg
            rw [decide_eq_true (HREC.out.2 ⟨c1, c2, c3, (by first | trivial | rfl), .inl HC5.out⟩)] at hv
            apply hv
          · have d5 : decide ((0 : Int) < (k : Int)) = true := decide_eq_true (by omega)
            have d5b : decide (0 < k) = true := decide_eq_true (by omega)
            obtain ⟨pk, hpk⟩ : ∃ pk : Nat, k = pk + 1 := ⟨k - 1, by omega⟩
            have wr6 : IntKind.i64.wrap ((k : Int) - 1) = (pk : Int) := by rw [IntWalk.i64_in _ (by omega)]; omega
            have b1 : (0 : Int) ≤ (pk : Int) := by omega
            have b2 : (pk : Int) < (k : Int) := by omega
            obtain ⟨qb, rfl, o1, o2, o3, o4⟩ := own_pos HW9.out (by omega)
            have hct := row_tb HW9.out pk (by omega) _ (recs_at l k pk (by omega))
            have hc5 : (k = 0 ∨ tagLt (recAt l (k - 1)).tag ⟨ta, tb, tc, td⟩ = true) ↔ tagLt (recAt l pk).tag ⟨ta, tb, tc, td⟩ = true := by
              rw [show k - 1 = pk from by omega]
              exact ⟨fun h => h.resolve_left (by omega), .inr⟩
            have HC5 := Lib.hid hc5
            have hless := fun W => less_ok (recAt l pk).tag ⟨ta, tb, tc, td⟩ W
            clear hc5 hpk
            have g0 : ∀ e : Grown wx, e.w.cell? ⟨qb, pk * 6, none⟩ = some (.int .u8 (recAt l pk).tag.a) := fun e => e.cell hct.a
            have g1 : ∀ e : Grown wx, e.w.cell? ⟨qb, pk * 6 + 1, none⟩ = some (.int .u8 (recAt l pk).tag.b) := fun e => e.cell hct.b
            have g2 : ∀ e : Grown wx, e.w.cell? ⟨qb, pk * 6 + 2, none⟩ = some (.int .u8 (recAt l pk).tag.c) := fun e => e.cell hct.c
            have g3 : ∀ e : Grown wx, e.w.cell? ⟨qb, pk * 6 + 3, none⟩ = some (.int .u8 (recAt l pk).tag.d) := fun e => e.cell hct.d
            clear hct
            generalize (recAt l pk).tag = pt at *
            simp only [Tg.val] at hless
            cases hlt5 : tagLt pt ⟨ta, tb, tc, td⟩ with
            | true =>
              rw [hlt5] at hless
              have HLESS := Lib.hid hless
              have HT5 := Lib.hid hlt5
              clear hless hlt5
              refine wp_region_grown (by as_aux_lemma => kernel_rfl) (by as_aux_lemma => kernel_rfl) ?_
              repeat (go_big_quiet_step (first | (go_at_call 52; exact calls_grown_same (HALL.out _)) | (go_at_call 51; exact calls_grown_same (HL4.out _ (Grown.outer _ HB9.out))) | (go_at_call 17; exact calls_grown (HSUM.out _ (Grown.outer _ HB9.out))) | (go_at_call 15; exact calls_grown (HLESS.out _))))
              refine wpQuiet_nil ?_
              rintro _ ⟨eg, rfl⟩
              have hv := hK eg
              rw [decide_eq_true (HREC.out.2 ⟨c1, c2, c3, (by first | trivial | rfl), HC5.out.2 HT5.out⟩)] at hv
              apply hv
            | false =>
              rw [hlt5] at hless
              have HLESS := Lib.hid hless
              have HT5 := Lib.hid hlt5
              clear hless hlt5
              refine wp_region_grown (by as_aux_lemma => kernel_rfl) (by as_aux_lemma => kernel_rfl) ?_
              repeat (go_big_quiet_step (first | (go_at_call 52; exact calls_grown_same (HALL.out _)) | (go_at_call 51; exact calls_grown_same (HL4.out _ (Grown.outer _ HB9.out))) | (go_at_call 17; exact calls_grown (HSUM.out _ (Grown.outer _ HB9.out))) | (go_at_call 15; exact calls_grown (HLESS.out _))))
              refine wpQuiet_nil ?_
              rintro _ ⟨eg, rfl⟩
              have hv := hK eg
              rw [decide_eq_false (fun h => by have := HC5.out.1 (HREC.out.1 h).2.2.2.2; rw [HT5.out] at this; cases this)] at hv
              apply hv
        · have d4 : ((sm : Int) != (nm : Int)) = true := by simp; omega
          have HC4 := Lib.hid c4
          clear c4
          refine wp_region_grown (by as_aux_lemma => kernel_rfl) (by as_aux_lemma => kernel_rfl) ?_
          repeat (go_big_quiet_step (first | (go_at_call 52; exact calls_grown_same (HALL.out _)) | (go_at_call 51; exact calls_grown_same (HL4.out _ (Grown.outer _ HB9.out))) | (go_at_call 17; exact calls_grown (HSUM.out _ (Grown.outer _ HB9.out)))))
          refine wpQuiet_nil ?_
          rintro _ ⟨eg, rfl⟩
          have hv := hK eg
          rw [decide_eq_false (fun h => HC4.out (HREC.out.1 h).2.2.2.1)] at hv
          apply hv
      · have hall : refAll l.length rat rln = false := by unfold refAll; exact decide_eq_false (by omega)
        rw [hall] at HALL
        clear hall
        refine wp_region_grown (by as_aux_lemma => kernel_rfl) (by as_aux_lemma => kernel_rfl) ?_
        repeat (go_big_quiet_step (first | (go_at_call 52; exact calls_grown_same (HALL.out _))))
        refine wpQuiet_nil ?_
        rintro _ ⟨eg, rfl⟩
        have hv := hK eg
        rw [decide_eq_false (fun h => c3 (HREC.out.1 h).2.2.1)] at hv
        apply hv
    · have d2 : decide ((rat : Int) < 12 + 16 * (n : Int)) = true := decide_eq_true (by omega)
      have wr1 : IntKind.i64.wrap (16 * (n : Int)) = 16 * (n : Int) := IntWalk.i64_in _ (by omega)
      have wr2 : IntKind.i64.wrap (12 + 16 * (n : Int)) = 12 + 16 * (n : Int) := IntWalk.i64_in _ (by omega)
      refine wp_region_grown (by as_aux_lemma => kernel_rfl) (by as_aux_lemma => kernel_rfl) ?_
      repeat (go_big_quiet_step (fail))
      refine wpQuiet_nil ?_
      rintro _ ⟨eg, rfl⟩
      have hv := hK eg
      rw [decide_eq_false (fun h => c2 (HREC.out.1 h).2.1)] at hv
      apply hv
  · obtain ⟨m, hm, hm1⟩ : ∃ m : Nat, (rat : Int).tmod 4 = (m : Int) ∧ 0 < m ∧ m < 4 := ⟨rat % 4, by rw [Int.tmod_eq_emod_of_nonneg (by omega)]; omega, by omega, by omega⟩
    have d1 : ((m : Int) != 0) = true := by simp; omega
    have wr1 : IntKind.i64.wrap (m : Int) = (m : Int) := IntWalk.i64_in _ (by omega)
    refine wp_region_grown (by as_aux_lemma => kernel_rfl) (by as_aux_lemma => kernel_rfl) ?_
    repeat (go_big_quiet_step (fail))
    refine wpQuiet_nil ?_
    rintro _ ⟨eg, rfl⟩
    have hv := hK eg
    rw [decide_eq_false (fun h => c1 (HREC.out.1 h).1)] at hv
    apply hv
  
end Go.Proofs.YtfbppbelcbbhlaaGreatDoor.Sf
