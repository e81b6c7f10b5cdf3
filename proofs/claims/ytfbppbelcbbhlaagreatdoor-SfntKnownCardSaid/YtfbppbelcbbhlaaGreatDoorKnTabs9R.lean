import Derived.Test.YtfbppbelcbbhlaaGreatDoorKnTabsR
import Derived.Test.YtfbppbelcbbhlaaGreatDoorKnJoinW
import Derived.Test.YtfbppbelcbbhlaaGreatDoorKnJoin

/- Regions of sfnt.Tables, each a theorem of its own (printed by gen/tabs9.py). -/
namespace Go.Proofs.YtfbppbelcbbhlaaGreatDoor.Sf
open Go Go.RowKit
set_option linter.unusedVariables false

noncomputable def tabReg (n : Nat) : Code := ((Tryz.f22.body.bind (findRegion n)).getD .skip)
def gaveUp : Exit := .panic [{ v := brokenV, recovered := false }]

set_option maxRecDepth 1000000 in
set_option maxHeartbeats 2000000 in
theorem tab_r13 {wx : World} {b bo cap g a ra rs rat rln ta tb tc td : Nat} {l : List Nat} {x1 x2 x3 x5 x6 x9 x10 x11 x12 x13 x14 x15 x16 x17 x18 x19 x20 x21 x22 x23 x24 x25 x26 x27 x28 x29 x30 x31 x32 x33 x34 x35 x36 x37 x38 x39 x40 x41 x42 x43 x44 x45 x46 x47 x48 x49 x50 x51 x52 x53 x54 x55 x56 x57 x58 x59 x60 x61 x62 x63 x64 x65 x66 x67 x68 x69 x70 x71 x72 x73 x74 x75 x76 x77 x78 x79 x80 x81 x82 x83 x84 x85 x86 x87 x88 x89 x90 x91 x92 x93 x94 x95 x96 x97 x98 x99 x100 x101 x102 x103 x104 x105 x106 x107 x108 x109 x110 x111 x112 x113 x114 x115 x116 x117 x118 x119 x120 x121 x122 x123 x124 x125 x126 x127 x128 x129 x130 x131 x132 x133 x134 x135 x136 x137 x138 x139 x140 x141 x142 x143 x144 x145 x146 x147 x148 x149 x150 x151 x152 x153 x154 x155 x156 x157 x158 x159 x160 x161 x162 x163 x164 x165 x166 x167 x168 x169 x170 x171 x172 : Value} {D : List Deferred} {K : Exit → Act → World → Prop}
    (hle : l.length ≤ cap) (hmax : cap ≤ 9223372036854775807) (f1 : l.length ≤ 16777216) (ha16 : a + 16 ≤ l.length) (c3 : rat + rln ≤ l.length) (HY : Hid (Byt wx (some ⟨b, bo, none⟩) cap l)) (HR : Hid (Rdr wx ra rs l)) (HD : Hid (HdVar wx))
    (q0 : wx.cell? ⟨g, 0, none⟩ = some (.int .u8 ta)) (q1 : wx.cell? ⟨g, 1, none⟩ = some (.int .u8 tb)) (q2 : wx.cell? ⟨g, 2, none⟩ = some (.int .u8 tc)) (q3 : wx.cell? ⟨g, 3, none⟩ = some (.int .u8 td)) (q4 : wx.cell? ⟨g, 4, none⟩ = some (.int .i64 rat)) (q5 : wx.cell? ⟨g, 5, none⟩ = some (.int .i64 rln))
    (hy : ∀ (e : Grown wx) (_ : tabSum ⟨ta, tb, tc, td⟩ ((l.drop rat).take rln) = numAt l (a + 4) 4) (y103 y104 y105 y106 y107 y108 y109 y110 y111 y112 y113 y114 y115 y116 y117 y118 y119 y120 : Value), K (.normal) ⟨List.toArray ((Value.slice (some ⟨b, bo, none⟩) l.length cap) :: x1 :: x2 :: x3 :: (Value.pointer (some ⟨ra, 0, none⟩)) :: x5 :: x6 :: (Value.int .i64 a) :: (Value.pointer (some ⟨g, 0, none⟩)) :: x9 :: x10 :: x11 :: x12 :: x13 :: x14 :: x15 :: x16 :: x17 :: x18 :: x19 :: x20 :: x21 :: x22 :: x23 :: x24 :: x25 :: x26 :: x27 :: x28 :: x29 :: x30 :: x31 :: x32 :: x33 :: x34 :: x35 :: x36 :: x37 :: x38 :: x39 :: x40 :: x41 :: x42 :: x43 :: x44 :: x45 :: x46 :: x47 :: x48 :: x49 :: x50 :: x51 :: x52 :: x53 :: x54 :: x55 :: x56 :: x57 :: x58 :: x59 :: x60 :: x61 :: x62 :: x63 :: x64 :: x65 :: x66 :: x67 :: x68 :: x69 :: x70 :: x71 :: x72 :: x73 :: x74 :: x75 :: x76 :: x77 :: x78 :: x79 :: x80 :: x81 :: x82 :: x83 :: x84 :: x85 :: x86 :: x87 :: x88 :: x89 :: x90 :: x91 :: x92 :: x93 :: x94 :: x95 :: x96 :: x97 :: x98 :: x99 :: x100 :: x101 :: x102 :: y103 :: y104 :: y105 :: y106 :: y107 :: y108 :: y109 :: y110 :: y111 :: y112 :: y113 :: y114 :: y115 :: y116 :: y117 :: y118 :: y119 :: y120 :: x121 :: x122 :: x123 :: x124 :: x125 :: x126 :: x127 :: x128 :: x129 :: x130 :: x131 :: x132 :: x133 :: x134 :: x135 :: x136 :: x137 :: x138 :: x139 :: x140 :: x141 :: x142 :: x143 :: x144 :: x145 :: x146 :: x147 :: x148 :: x149 :: x150 :: x151 :: x152 :: x153 :: x154 :: x155 :: x156 :: x157 :: x158 :: x159 :: x160 :: x161 :: x162 :: x163 :: x164 :: x165 :: x166 :: x167 :: x168 :: x169 :: x170 :: x171 :: x172 :: []), D⟩ e.w)
    (hn : ∀ (e : Grown wx) (_ : ¬ tabSum ⟨ta, tb, tc, td⟩ ((l.drop rat).take rln) = numAt l (a + 4) 4) (y103 y104 y105 y106 y107 y108 y109 y110 y111 y112 y113 y114 y115 y116 y117 y118 y119 : Value), K (gaveUp) ⟨List.toArray ((Value.slice (some ⟨b, bo, none⟩) l.length cap) :: x1 :: x2 :: x3 :: (Value.pointer (some ⟨ra, 0, none⟩)) :: x5 :: x6 :: (Value.int .i64 a) :: (Value.pointer (some ⟨g, 0, none⟩)) :: x9 :: x10 :: x11 :: x12 :: x13 :: x14 :: x15 :: x16 :: x17 :: x18 :: x19 :: x20 :: x21 :: x22 :: x23 :: x24 :: x25 :: x26 :: x27 :: x28 :: x29 :: x30 :: x31 :: x32 :: x33 :: x34 :: x35 :: x36 :: x37 :: x38 :: x39 :: x40 :: x41 :: x42 :: x43 :: x44 :: x45 :: x46 :: x47 :: x48 :: x49 :: x50 :: x51 :: x52 :: x53 :: x54 :: x55 :: x56 :: x57 :: x58 :: x59 :: x60 :: x61 :: x62 :: x63 :: x64 :: x65 :: x66 :: x67 :: x68 :: x69 :: x70 :: x71 :: x72 :: x73 :: x74 :: x75 :: x76 :: x77 :: x78 :: x79 :: x80 :: x81 :: x82 :: x83 :: x84 :: x85 :: x86 :: x87 :: x88 :: x89 :: x90 :: x91 :: x92 :: x93 :: x94 :: x95 :: x96 :: x97 :: x98 :: x99 :: x100 :: x101 :: x102 :: y103 :: y104 :: y105 :: y106 :: y107 :: y108 :: y109 :: y110 :: y111 :: y112 :: y113 :: y114 :: y115 :: y116 :: y117 :: y118 :: y119 :: x120 :: x121 :: x122 :: x123 :: x124 :: x125 :: x126 :: x127 :: x128 :: x129 :: x130 :: x131 :: x132 :: x133 :: x134 :: x135 :: x136 :: x137 :: x138 :: x139 :: x140 :: x141 :: x142 :: x143 :: x144 :: x145 :: x146 :: x147 :: x148 :: x149 :: x150 :: x151 :: x152 :: x153 :: x154 :: x155 :: x156 :: x157 :: x158 :: x159 :: x160 :: x161 :: x162 :: x163 :: x164 :: x165 :: x166 :: x167 :: x168 :: x169 :: x170 :: x171 :: x172 :: []), D⟩ e.w) :
    Code.wp Tryz.prog (tabReg 13) K ⟨List.toArray ((Value.slice (some ⟨b, bo, none⟩) l.length cap) :: x1 :: x2 :: x3 :: (Value.pointer (some ⟨ra, 0, none⟩)) :: x5 :: x6 :: (Value.int .i64 a) :: (Value.pointer (some ⟨g, 0, none⟩)) :: x9 :: x10 :: x11 :: x12 :: x13 :: x14 :: x15 :: x16 :: x17 :: x18 :: x19 :: x20 :: x21 :: x22 :: x23 :: x24 :: x25 :: x26 :: x27 :: x28 :: x29 :: x30 :: x31 :: x32 :: x33 :: x34 :: x35 :: x36 :: x37 :: x38 :: x39 :: x40 :: x41 :: x42 :: x43 :: x44 :: x45 :: x46 :: x47 :: x48 :: x49 :: x50 :: x51 :: x52 :: x53 :: x54 :: x55 :: x56 :: x57 :: x58 :: x59 :: x60 :: x61 :: x62 :: x63 :: x64 :: x65 :: x66 :: x67 :: x68 :: x69 :: x70 :: x71 :: x72 :: x73 :: x74 :: x75 :: x76 :: x77 :: x78 :: x79 :: x80 :: x81 :: x82 :: x83 :: x84 :: x85 :: x86 :: x87 :: x88 :: x89 :: x90 :: x91 :: x92 :: x93 :: x94 :: x95 :: x96 :: x97 :: x98 :: x99 :: x100 :: x101 :: x102 :: x103 :: x104 :: x105 :: x106 :: x107 :: x108 :: x109 :: x110 :: x111 :: x112 :: x113 :: x114 :: x115 :: x116 :: x117 :: x118 :: x119 :: x120 :: x121 :: x122 :: x123 :: x124 :: x125 :: x126 :: x127 :: x128 :: x129 :: x130 :: x131 :: x132 :: x133 :: x134 :: x135 :: x136 :: x137 :: x138 :: x139 :: x140 :: x141 :: x142 :: x143 :: x144 :: x145 :: x146 :: x147 :: x148 :: x149 :: x150 :: x151 :: x152 :: x153 :: x154 :: x155 :: x156 :: x157 :: x158 :: x159 :: x160 :: x161 :: x162 :: x163 :: x164 :: x165 :: x166 :: x167 :: x168 :: x169 :: x170 :: x171 :: x172 :: []), D⟩ wx := by
  have wr3 : IntKind.i64.wrap ((rat : Int) + (rln : Int)) = (rat : Int) + (rln : Int) := IntWalk.i64_in _ (by omega)
  have wr4 : IntKind.i64.wrap ((a : Int) + 4) = (a : Int) + 4 := IntWalk.i64_in _ (by omega)
  have p0 : ∀ e : Grown wx, e.w.cell? ⟨g, 0, none⟩ = some (.int .u8 ta) := fun e => e.cell q0
  have p1 : ∀ e : Grown wx, e.w.cell? ⟨g, 1, none⟩ = some (.int .u8 tb) := fun e => e.cell q1
  have p2 : ∀ e : Grown wx, e.w.cell? ⟨g, 2, none⟩ = some (.int .u8 tc) := fun e => e.cell q2
  have p3 : ∀ e : Grown wx, e.w.cell? ⟨g, 3, none⟩ = some (.int .u8 td) := fun e => e.cell q3
  have p4 : ∀ e : Grown wx, e.w.cell? ⟨g, 4, none⟩ = some (.int .i64 rat) := fun e => e.cell q4
  have p5 : ∀ e : Grown wx, e.w.cell? ⟨g, 5, none⟩ = some (.int .i64 rln) := fun e => e.cell q5
  obtain ⟨A3, hA3, hY3⟩ := HY.out.cut rat (rat + rln) (by omega) c3
  have hl3 : ((l.drop rat).take (rat + rln - rat)).length = rln := by rw [List.length_take, List.length_drop]; omega
  have er : rat + rln - rat = rln := by omega
  rw [er] at hA3 hY3 hl3
  have hA5 : ∀ W, (Instr.sliceAt 25 (.slice (some ⟨b, bo, none⟩) l.length cap) (some (.int .i64 (rat : Int))) (some (.int .i64 ((rat : Int) + (rln : Int)))) none).run Tryz.prog W = .ok (.slice A3 rln (cap - rat)) W := by
    intro W
    rw [run_sliceAt_slice W _ _ _ _ _ Tryz.underlying25]
    have := hA3 W
    rwa [Int.natCast_add] at this
  have hsum := fun (e : Grown wx) => sum_any ⟨ta, tb, tc, td⟩ A3 (cap - rat) ((l.drop rat).take rln) e.w (e.byt hY3) (HD.out.kept (kept_of_below e.below)) (by omega)
  rw [hl3] at hsum
  have HL4 := Lib.hid (fun (e : Grown wx) => (e.rdr HR.out).longI (a + 4) ((a : Int) + 4) (by omega) (by omega))
  generalize tabSum ⟨ta, tb, tc, td⟩ ((l.drop rat).take rln) = sm at *
  generalize numAt l (a + 4) 4 = nm at *
  simp only [Tg.val] at hsum
  have HSUM := Lib.hid hsum
  clear hsum hA3 hY3 hl3 er q0 q1 q2 q3 q4 q5
  conv => arg 2; whnf
  by_cases c4 : sm = nm
  · have d4 : ((nm : Int) == (nm : Int)) = true := by simp
    have HK := Lib.hid (fun e => hy e c4)
    clear hy hn
    subst c4
    refine wp_region_grown_tail 17 (by kernel_rfl) (by kernel_rfl) ?_
    simp only [List.take_succ_cons, List.take_zero, List.drop_succ_cons, List.drop_zero]
    repeat (go_big_quiet_step (first | (go_at_call 36; exact calls_grown (HSUM.out _)) | (go_at_call 44; exact calls_grown_same (HL4.out _))))
    refine wpQuiet_nil ?_
    intro eg
    go_wp2_with (go_at_call 40; refine (need_ok _).mono ?_; rintro e w' ⟨rfl, rfl⟩)
    exact HK.out eg ..
  · have d4 : ((sm : Int) == (nm : Int)) = false := by simp; omega
    have HK := Lib.hid (fun e => hn e c4)
    clear hy hn c4
    refine wp_region_grown_tail 17 (by kernel_rfl) (by kernel_rfl) ?_
    simp only [List.take_succ_cons, List.take_zero, List.drop_succ_cons, List.drop_zero]
    repeat (go_big_quiet_step (first | (go_at_call 36; exact calls_grown (HSUM.out _)) | (go_at_call 44; exact calls_grown_same (HL4.out _))))
    refine wpQuiet_nil ?_
    intro eg
    go_wp2_with (go_at_call 40; refine (need_no _).mono ?_; rintro e w' ⟨rfl, rfl⟩)
    exact HK.out eg ..

theorem recAt_ok {l : List Nat} (h : ∀ x ∈ l, x < 256) (i : Nat) : (recAt l i).tag.ok :=
  ⟨getD_mem (· < 256) l _ 0 h (by decide), getD_mem (· < 256) l _ 0 h (by decide), getD_mem (· < 256) l _ 0 h (by decide), getD_mem (· < 256) l _ 0 h (by decide)⟩
set_option maxRecDepth 1000000 in
set_option maxHeartbeats 2000000 in
theorem tab_r14 {wx : World} {lb g k c' ta tb tc td B0 : Nat} {A' : Option Addr} {l : List Nat} {x0 x1 x3 x4 x5 x7 x9 x10 x11 x12 x13 x14 x15 x16 x17 x18 x19 x20 x21 x22 x23 x24 x25 x26 x27 x28 x29 x30 x31 x32 x33 x34 x35 x36 x37 x38 x39 x40 x41 x42 x43 x44 x45 x46 x47 x48 x49 x50 x51 x52 x53 x54 x55 x56 x57 x58 x59 x60 x61 x62 x63 x64 x65 x66 x67 x68 x69 x70 x71 x72 x73 x74 x75 x76 x77 x78 x79 x80 x81 x82 x83 x84 x85 x86 x87 x88 x89 x90 x91 x92 x93 x94 x95 x96 x97 x98 x99 x100 x101 x102 x103 x104 x105 x106 x107 x108 x109 x110 x111 x112 x113 x114 x115 x116 x117 x118 x119 x120 x121 x122 x123 x124 x125 x126 x127 x128 x129 x130 x131 x132 x133 x134 x135 x136 x137 x138 x139 x140 x141 x142 x143 x144 x145 x146 x147 x148 x149 x150 x151 x152 x153 x154 x155 x156 x157 x158 x159 x160 x161 x162 x163 x164 x165 x166 x167 x168 x169 x170 x171 x172 : Value} {D : List Deferred} {K : Exit → Act → World → Prop}
    (hk : k ≤ 64) (hcell : wx.cell? ⟨lb, 0, none⟩ = some (.slice A' k c')) (HW : Hid (wx.ownsRow B0 48 6 (.slice A' k c') k (tbs (recs l k)))) (HL : Hid (∀ x ∈ l, x < 256)) (HT : Hid (Tg.ok ⟨ta, tb, tc, td⟩))
    (q0 : wx.cell? ⟨g, 0, none⟩ = some (.int .u8 ta)) (q1 : wx.cell? ⟨g, 1, none⟩ = some (.int .u8 tb)) (q2 : wx.cell? ⟨g, 2, none⟩ = some (.int .u8 tc)) (q3 : wx.cell? ⟨g, 3, none⟩ = some (.int .u8 td))
    (hy : ∀ (e : Grown wx) (_ : k = 0 ∨ tagLt (recAt l (k - 1)).tag ⟨ta, tb, tc, td⟩ = true) (y121 y122 y123 y124 y125 y126 y127 y128 y129 y130 y131 y132 y133 y134 y135 : Value), K (.normal) ⟨List.toArray (x0 :: x1 :: (Value.pointer (some ⟨lb, 0, none⟩)) :: x3 :: x4 :: x5 :: (Value.int .i64 k) :: x7 :: (Value.pointer (some ⟨g, 0, none⟩)) :: x9 :: x10 :: x11 :: x12 :: x13 :: x14 :: x15 :: x16 :: x17 :: x18 :: x19 :: x20 :: x21 :: x22 :: x23 :: x24 :: x25 :: x26 :: x27 :: x28 :: x29 :: x30 :: x31 :: x32 :: x33 :: x34 :: x35 :: x36 :: x37 :: x38 :: x39 :: x40 :: x41 :: x42 :: x43 :: x44 :: x45 :: x46 :: x47 :: x48 :: x49 :: x50 :: x51 :: x52 :: x53 :: x54 :: x55 :: x56 :: x57 :: x58 :: x59 :: x60 :: x61 :: x62 :: x63 :: x64 :: x65 :: x66 :: x67 :: x68 :: x69 :: x70 :: x71 :: x72 :: x73 :: x74 :: x75 :: x76 :: x77 :: x78 :: x79 :: x80 :: x81 :: x82 :: x83 :: x84 :: x85 :: x86 :: x87 :: x88 :: x89 :: x90 :: x91 :: x92 :: x93 :: x94 :: x95 :: x96 :: x97 :: x98 :: x99 :: x100 :: x101 :: x102 :: x103 :: x104 :: x105 :: x106 :: x107 :: x108 :: x109 :: x110 :: x111 :: x112 :: x113 :: x114 :: x115 :: x116 :: x117 :: x118 :: x119 :: x120 :: y121 :: y122 :: y123 :: y124 :: y125 :: y126 :: y127 :: y128 :: y129 :: y130 :: y131 :: y132 :: y133 :: y134 :: y135 :: x136 :: x137 :: x138 :: x139 :: x140 :: x141 :: x142 :: x143 :: x144 :: x145 :: x146 :: x147 :: x148 :: x149 :: x150 :: x151 :: x152 :: x153 :: x154 :: x155 :: x156 :: x157 :: x158 :: x159 :: x160 :: x161 :: x162 :: x163 :: x164 :: x165 :: x166 :: x167 :: x168 :: x169 :: x170 :: x171 :: x172 :: []), D⟩ e.w)
    (hn : ∀ (e : Grown wx) (_ : ¬ (k = 0 ∨ tagLt (recAt l (k - 1)).tag ⟨ta, tb, tc, td⟩ = true)) (y121 y122 y123 y124 y125 y126 y127 y128 y129 y130 y131 y132 y133 y134 : Value), K (gaveUp) ⟨List.toArray (x0 :: x1 :: (Value.pointer (some ⟨lb, 0, none⟩)) :: x3 :: x4 :: x5 :: (Value.int .i64 k) :: x7 :: (Value.pointer (some ⟨g, 0, none⟩)) :: x9 :: x10 :: x11 :: x12 :: x13 :: x14 :: x15 :: x16 :: x17 :: x18 :: x19 :: x20 :: x21 :: x22 :: x23 :: x24 :: x25 :: x26 :: x27 :: x28 :: x29 :: x30 :: x31 :: x32 :: x33 :: x34 :: x35 :: x36 :: x37 :: x38 :: x39 :: x40 :: x41 :: x42 :: x43 :: x44 :: x45 :: x46 :: x47 :: x48 :: x49 :: x50 :: x51 :: x52 :: x53 :: x54 :: x55 :: x56 :: x57 :: x58 :: x59 :: x60 :: x61 :: x62 :: x63 :: x64 :: x65 :: x66 :: x67 :: x68 :: x69 :: x70 :: x71 :: x72 :: x73 :: x74 :: x75 :: x76 :: x77 :: x78 :: x79 :: x80 :: x81 :: x82 :: x83 :: x84 :: x85 :: x86 :: x87 :: x88 :: x89 :: x90 :: x91 :: x92 :: x93 :: x94 :: x95 :: x96 :: x97 :: x98 :: x99 :: x100 :: x101 :: x102 :: x103 :: x104 :: x105 :: x106 :: x107 :: x108 :: x109 :: x110 :: x111 :: x112 :: x113 :: x114 :: x115 :: x116 :: x117 :: x118 :: x119 :: x120 :: y121 :: y122 :: y123 :: y124 :: y125 :: y126 :: y127 :: y128 :: y129 :: y130 :: y131 :: y132 :: y133 :: y134 :: x135 :: x136 :: x137 :: x138 :: x139 :: x140 :: x141 :: x142 :: x143 :: x144 :: x145 :: x146 :: x147 :: x148 :: x149 :: x150 :: x151 :: x152 :: x153 :: x154 :: x155 :: x156 :: x157 :: x158 :: x159 :: x160 :: x161 :: x162 :: x163 :: x164 :: x165 :: x166 :: x167 :: x168 :: x169 :: x170 :: x171 :: x172 :: []), D⟩ e.w) :
    Code.wp Tryz.prog (tabReg 14) K ⟨List.toArray (x0 :: x1 :: (Value.pointer (some ⟨lb, 0, none⟩)) :: x3 :: x4 :: x5 :: (Value.int .i64 k) :: x7 :: (Value.pointer (some ⟨g, 0, none⟩)) :: x9 :: x10 :: x11 :: x12 :: x13 :: x14 :: x15 :: x16 :: x17 :: x18 :: x19 :: x20 :: x21 :: x22 :: x23 :: x24 :: x25 :: x26 :: x27 :: x28 :: x29 :: x30 :: x31 :: x32 :: x33 :: x34 :: x35 :: x36 :: x37 :: x38 :: x39 :: x40 :: x41 :: x42 :: x43 :: x44 :: x45 :: x46 :: x47 :: x48 :: x49 :: x50 :: x51 :: x52 :: x53 :: x54 :: x55 :: x56 :: x57 :: x58 :: x59 :: x60 :: x61 :: x62 :: x63 :: x64 :: x65 :: x66 :: x67 :: x68 :: x69 :: x70 :: x71 :: x72 :: x73 :: x74 :: x75 :: x76 :: x77 :: x78 :: x79 :: x80 :: x81 :: x82 :: x83 :: x84 :: x85 :: x86 :: x87 :: x88 :: x89 :: x90 :: x91 :: x92 :: x93 :: x94 :: x95 :: x96 :: x97 :: x98 :: x99 :: x100 :: x101 :: x102 :: x103 :: x104 :: x105 :: x106 :: x107 :: x108 :: x109 :: x110 :: x111 :: x112 :: x113 :: x114 :: x115 :: x116 :: x117 :: x118 :: x119 :: x120 :: x121 :: x122 :: x123 :: x124 :: x125 :: x126 :: x127 :: x128 :: x129 :: x130 :: x131 :: x132 :: x133 :: x134 :: x135 :: x136 :: x137 :: x138 :: x139 :: x140 :: x141 :: x142 :: x143 :: x144 :: x145 :: x146 :: x147 :: x148 :: x149 :: x150 :: x151 :: x152 :: x153 :: x154 :: x155 :: x156 :: x157 :: x158 :: x159 :: x160 :: x161 :: x162 :: x163 :: x164 :: x165 :: x166 :: x167 :: x168 :: x169 :: x170 :: x171 :: x172 :: []), D⟩ wx := by
  conv => arg 2; whnf
  rcases Nat.eq_zero_or_pos k with c5 | c5
  · have d5 : ((k : Int) == 0) = true := by simp; omega
    have d5b : (k == 0) = true := by simp; omega
    have d5c : decide (k = 0) = true := by simp; omega
    have HK := Lib.hid (fun e => hy e (.inl c5))
    clear hy hn c5
    refine wp_region_grown_tail 14 (by kernel_rfl) (by kernel_rfl) ?_
    simp only [List.take_succ_cons, List.take_zero, List.drop_succ_cons, List.drop_zero]
    repeat (go_big_quiet_step (fail))
    refine wpQuiet_nil ?_
    intro eg
    go_wp2_with (go_at_call 40; refine (need_ok _).mono ?_; rintro e w' ⟨rfl, rfl⟩)
    exact HK.out eg ..
  · have d5 : ((k : Int) == 0) = false := by simp; omega
    have d5b : (k == 0) = false := by simp; omega
    have d5c : decide (k = 0) = false := by simp; omega
    obtain ⟨pk, hpk⟩ : ∃ pk : Nat, k = pk + 1 := ⟨k - 1, by omega⟩
    have wr6 : IntKind.i64.wrap ((k : Int) - 1) = (pk : Int) := by rw [IntWalk.i64_in _ (by omega)]; omega
    have b1 : (0 : Int) ≤ (pk : Int) := by omega
    have b2 : (pk : Int) < (k : Int) := by omega
    obtain ⟨qb, rfl, o1, o2, o3, o4⟩ := own_pos HW.out (by omega)
    have hct := row_tb HW.out pk (by omega) _ (recs_at l k pk (by omega))
    have hc5 : (k = 0 ∨ tagLt (recAt l (k - 1)).tag ⟨ta, tb, tc, td⟩ = true) ↔ tagLt (recAt l pk).tag ⟨ta, tb, tc, td⟩ = true := by
      rw [show k - 1 = pk from by omega]
      exact ⟨fun h => h.resolve_left (by omega), .inr⟩
    have HC5 := Lib.hid hc5
    have hto : (recAt l pk).tag.ok := recAt_ok HL.out pk
    have y1 : Byt wx (some ⟨qb, pk * 6, none⟩) 4 (recAt l pk).tag.bytes := byt_tag ⟨hct.a, hct.b, hct.c, hct.d⟩ hto
    have y2 : Byt wx (some ⟨g, 0, none⟩) 4 (Tg.bytes ⟨ta, tb, tc, td⟩) := byt_tag ⟨q0, q1, q2, q3⟩ HT.out
    have hcmp : ∀ e : Grown wx, Calls Tryz.prog 33 #[.slice (some ⟨qb, pk * 6, none⟩) 4 4, .slice (some ⟨g, 0, none⟩) 4 4] e.w fun x w' => x = .returned (.int .i64 (cmpF (recAt l pk).tag.bytes (Tg.bytes ⟨ta, tb, tc, td⟩))) ∧ e.w = w' :=
      fun e => compare_any _ _ 4 4 _ _ e.w (e.byt y1) (e.byt y2)
    have hdec := cmp_tag _ _ hto HT.out
    have pl : ∀ e : Grown wx, e.w.cell? ⟨lb, 0, none⟩ = some (.slice (some ⟨qb, 0, none⟩) k c') := fun e => e.cell hcell
    have HCMP := Lib.hid hcmp
    clear hcmp y1 y2 hto hct hc5 hpk hcell q0 q1 q2 q3
    generalize cmpF (recAt l pk).tag.bytes (Tg.bytes ⟨ta, tb, tc, td⟩) = cc at *
    cases hlt : tagLt (recAt l pk).tag ⟨ta, tb, tc, td⟩ with
    | true =>
      rw [hlt] at hdec
      have d6 : decide (cc < 0) = true := by
        simp only [Bool.not_true] at hdec
        have := of_decide_eq_false hdec
        exact decide_eq_true (by omega)
      have HK := Lib.hid (fun e => hy e (HC5.out.2 hlt))
      clear hy hn hdec hlt
      refine wp_region_grown_tail 14 (by kernel_rfl) (by kernel_rfl) ?_
      simp only [List.take_succ_cons, List.take_zero, List.drop_succ_cons, List.drop_zero]
      repeat (go_big_quiet_step (first | (go_at_call 33; exact calls_grown_same (HCMP.out _))))
      refine wpQuiet_nil ?_
      intro eg
      go_wp2_with (go_at_call 40; refine (need_ok _).mono ?_; rintro e w' ⟨rfl, rfl⟩)
      exact HK.out eg ..
    | false =>
      rw [hlt] at hdec
      have d6 : decide (cc < 0) = false := by
        simp only [Bool.not_false] at hdec
        have := of_decide_eq_true hdec
        exact decide_eq_false (by omega)
      have HK := Lib.hid (fun e => hn e (fun h => by rw [HC5.out.1 h] at hlt; cases hlt))
      clear hy hn hdec hlt
      refine wp_region_grown_tail 14 (by kernel_rfl) (by kernel_rfl) ?_
      simp only [List.take_succ_cons, List.take_zero, List.drop_succ_cons, List.drop_zero]
      repeat (go_big_quiet_step (first | (go_at_call 33; exact calls_grown_same (HCMP.out _))))
      refine wpQuiet_nil ?_
      intro eg
      go_wp2_with (go_at_call 40; refine (need_no _).mono ?_; rintro e w' ⟨rfl, rfl⟩)
      exact HK.out eg ..

set_option maxRecDepth 1000000 in
set_option maxHeartbeats 2000000 in
theorem tab_r22 {wx : World} {k pk m c' B0 : Nat} {A' : Option Addr} {S : List Tb} {t u : Tb} {x0 x1 x2 x3 x4 x5 x6 x7 x8 x11 x12 x13 x14 x15 x16 x17 x18 x19 x20 x21 x22 x23 x24 x25 x26 x27 x28 x29 x30 x31 x32 x33 x34 x35 x36 x37 x38 x39 x40 x41 x42 x43 x44 x45 x46 x47 x48 x49 x50 x51 x52 x53 x54 x55 x56 x57 x58 x59 x60 x61 x62 x63 x64 x65 x66 x67 x68 x69 x70 x71 x72 x73 x74 x75 x76 x77 x78 x79 x80 x81 x82 x83 x84 x85 x86 x87 x88 x89 x90 x91 x92 x93 x94 x95 x96 x97 x98 x99 x100 x101 x102 x103 x104 x105 x106 x107 x108 x109 x110 x111 x112 x113 x114 x115 x116 x117 x118 x119 x120 x121 x122 x123 x124 x125 x126 x127 x128 x129 x130 x131 x132 x133 x134 x135 x136 x137 x138 x139 x140 x141 x142 x143 x144 x145 x146 x147 x148 x149 x150 x151 x152 x153 x154 x155 x156 x157 x158 x159 x160 x161 x162 x163 x164 x165 x166 x167 x168 x169 x170 x171 x172 : Value} {D : List Deferred} {K : Exit → Act → World → Prop}
    (hm : m ≤ 64) (hk : k < m) (hpk : k = pk + 1) (HW : Hid (wx.ownsRow B0 48 6 (.slice A' m c') m (tbs S))) (HT : Hid (S[pk]? = some t)) (HU : Hid (S[k]? = some u)) (ht1 : t.at_ < 4294967296) (ht2 : t.len < 4294967296) (hu1 : u.at_ < 4294967296)
    (hy : ∀ (e : Grown wx) (_ : t.at_ + t.len ≤ u.at_) (y152 y153 y154 y155 y156 y157 y158 y159 y160 y161 y162 y163 y164 y165 y166 y167 y168 y169 y170 y171 : Value), K (.normal) ⟨List.toArray (x0 :: x1 :: x2 :: x3 :: x4 :: x5 :: x6 :: x7 :: x8 :: (Value.slice A' m c') :: (Value.int .i64 k) :: x11 :: x12 :: x13 :: x14 :: x15 :: x16 :: x17 :: x18 :: x19 :: x20 :: x21 :: x22 :: x23 :: x24 :: x25 :: x26 :: x27 :: x28 :: x29 :: x30 :: x31 :: x32 :: x33 :: x34 :: x35 :: x36 :: x37 :: x38 :: x39 :: x40 :: x41 :: x42 :: x43 :: x44 :: x45 :: x46 :: x47 :: x48 :: x49 :: x50 :: x51 :: x52 :: x53 :: x54 :: x55 :: x56 :: x57 :: x58 :: x59 :: x60 :: x61 :: x62 :: x63 :: x64 :: x65 :: x66 :: x67 :: x68 :: x69 :: x70 :: x71 :: x72 :: x73 :: x74 :: x75 :: x76 :: x77 :: x78 :: x79 :: x80 :: x81 :: x82 :: x83 :: x84 :: x85 :: x86 :: x87 :: x88 :: x89 :: x90 :: x91 :: x92 :: x93 :: x94 :: x95 :: x96 :: x97 :: x98 :: x99 :: x100 :: x101 :: x102 :: x103 :: x104 :: x105 :: x106 :: x107 :: x108 :: x109 :: x110 :: x111 :: x112 :: x113 :: x114 :: x115 :: x116 :: x117 :: x118 :: x119 :: x120 :: x121 :: x122 :: x123 :: x124 :: x125 :: x126 :: x127 :: x128 :: x129 :: x130 :: x131 :: x132 :: x133 :: x134 :: x135 :: x136 :: x137 :: x138 :: x139 :: x140 :: x141 :: x142 :: x143 :: x144 :: x145 :: x146 :: x147 :: x148 :: x149 :: x150 :: x151 :: y152 :: y153 :: y154 :: y155 :: y156 :: y157 :: y158 :: y159 :: y160 :: y161 :: y162 :: y163 :: y164 :: y165 :: y166 :: y167 :: y168 :: y169 :: y170 :: y171 :: x172 :: []), D⟩ e.w)
    (hn : ∀ (e : Grown wx) (_ : ¬ (t.at_ + t.len ≤ u.at_)) (y152 y153 y154 y155 y156 y157 y158 y159 y160 y161 y162 y163 y164 y165 y166 y167 y168 y169 y170 : Value), K (gaveUp) ⟨List.toArray (x0 :: x1 :: x2 :: x3 :: x4 :: x5 :: x6 :: x7 :: x8 :: (Value.slice A' m c') :: (Value.int .i64 k) :: x11 :: x12 :: x13 :: x14 :: x15 :: x16 :: x17 :: x18 :: x19 :: x20 :: x21 :: x22 :: x23 :: x24 :: x25 :: x26 :: x27 :: x28 :: x29 :: x30 :: x31 :: x32 :: x33 :: x34 :: x35 :: x36 :: x37 :: x38 :: x39 :: x40 :: x41 :: x42 :: x43 :: x44 :: x45 :: x46 :: x47 :: x48 :: x49 :: x50 :: x51 :: x52 :: x53 :: x54 :: x55 :: x56 :: x57 :: x58 :: x59 :: x60 :: x61 :: x62 :: x63 :: x64 :: x65 :: x66 :: x67 :: x68 :: x69 :: x70 :: x71 :: x72 :: x73 :: x74 :: x75 :: x76 :: x77 :: x78 :: x79 :: x80 :: x81 :: x82 :: x83 :: x84 :: x85 :: x86 :: x87 :: x88 :: x89 :: x90 :: x91 :: x92 :: x93 :: x94 :: x95 :: x96 :: x97 :: x98 :: x99 :: x100 :: x101 :: x102 :: x103 :: x104 :: x105 :: x106 :: x107 :: x108 :: x109 :: x110 :: x111 :: x112 :: x113 :: x114 :: x115 :: x116 :: x117 :: x118 :: x119 :: x120 :: x121 :: x122 :: x123 :: x124 :: x125 :: x126 :: x127 :: x128 :: x129 :: x130 :: x131 :: x132 :: x133 :: x134 :: x135 :: x136 :: x137 :: x138 :: x139 :: x140 :: x141 :: x142 :: x143 :: x144 :: x145 :: x146 :: x147 :: x148 :: x149 :: x150 :: x151 :: y152 :: y153 :: y154 :: y155 :: y156 :: y157 :: y158 :: y159 :: y160 :: y161 :: y162 :: y163 :: y164 :: y165 :: y166 :: y167 :: y168 :: y169 :: y170 :: x171 :: x172 :: []), D⟩ e.w) :
    Code.wp Tryz.prog (tabReg 22) K ⟨List.toArray (x0 :: x1 :: x2 :: x3 :: x4 :: x5 :: x6 :: x7 :: x8 :: (Value.slice A' m c') :: (Value.int .i64 k) :: x11 :: x12 :: x13 :: x14 :: x15 :: x16 :: x17 :: x18 :: x19 :: x20 :: x21 :: x22 :: x23 :: x24 :: x25 :: x26 :: x27 :: x28 :: x29 :: x30 :: x31 :: x32 :: x33 :: x34 :: x35 :: x36 :: x37 :: x38 :: x39 :: x40 :: x41 :: x42 :: x43 :: x44 :: x45 :: x46 :: x47 :: x48 :: x49 :: x50 :: x51 :: x52 :: x53 :: x54 :: x55 :: x56 :: x57 :: x58 :: x59 :: x60 :: x61 :: x62 :: x63 :: x64 :: x65 :: x66 :: x67 :: x68 :: x69 :: x70 :: x71 :: x72 :: x73 :: x74 :: x75 :: x76 :: x77 :: x78 :: x79 :: x80 :: x81 :: x82 :: x83 :: x84 :: x85 :: x86 :: x87 :: x88 :: x89 :: x90 :: x91 :: x92 :: x93 :: x94 :: x95 :: x96 :: x97 :: x98 :: x99 :: x100 :: x101 :: x102 :: x103 :: x104 :: x105 :: x106 :: x107 :: x108 :: x109 :: x110 :: x111 :: x112 :: x113 :: x114 :: x115 :: x116 :: x117 :: x118 :: x119 :: x120 :: x121 :: x122 :: x123 :: x124 :: x125 :: x126 :: x127 :: x128 :: x129 :: x130 :: x131 :: x132 :: x133 :: x134 :: x135 :: x136 :: x137 :: x138 :: x139 :: x140 :: x141 :: x142 :: x143 :: x144 :: x145 :: x146 :: x147 :: x148 :: x149 :: x150 :: x151 :: x152 :: x153 :: x154 :: x155 :: x156 :: x157 :: x158 :: x159 :: x160 :: x161 :: x162 :: x163 :: x164 :: x165 :: x166 :: x167 :: x168 :: x169 :: x170 :: x171 :: x172 :: []), D⟩ wx := by
  conv => arg 2; whnf
  have wr6 : IntKind.i64.wrap ((k : Int) - 1) = (pk : Int) := by rw [IntWalk.i64_in _ (by omega)]; omega
  have b1 : (0 : Int) ≤ (pk : Int) := by omega
  have b2 : (pk : Int) < (m : Int) := by omega
  have b3 : (0 : Int) ≤ (k : Int) := by omega
  have b4 : (k : Int) < (m : Int) := by omega
  have wr7 : IntKind.i64.wrap ((t.at_ : Int) + (t.len : Int)) = (t.at_ : Int) + (t.len : Int) := IntWalk.i64_in _ (by omega)
  obtain ⟨qb, rfl, o1, o2, o3, o4⟩ := own_pos HW.out (by omega)
  have hc1 := row_tb HW.out pk (by omega) _ HT.out
  have hc2 := row_tb HW.out k (by omega) _ HU.out
  have g1 : ∀ e : Grown wx, e.w.cell? ⟨qb, pk * 6 + 4, none⟩ = some (.int .i64 t.at_) := fun e => e.cell hc1.at_
  have g2 : ∀ e : Grown wx, e.w.cell? ⟨qb, pk * 6 + 5, none⟩ = some (.int .i64 t.len) := fun e => e.cell hc1.len
  have g3 : ∀ e : Grown wx, e.w.cell? ⟨qb, k * 6 + 4, none⟩ = some (.int .i64 u.at_) := fun e => e.cell hc2.at_
  clear hpk hc1 hc2
  by_cases c1 : t.at_ + t.len ≤ u.at_
  · have d1 : decide ((t.at_ : Int) + (t.len : Int) ≤ (u.at_ : Int)) = true := decide_eq_true (by omega)
    have HK := Lib.hid (fun e => hy e c1)
    clear hy hn c1
    refine wp_region_grown_tail 19 (by kernel_rfl) (by kernel_rfl) ?_
    simp only [List.take_succ_cons, List.take_zero, List.drop_succ_cons, List.drop_zero]
    repeat (go_big_quiet_step (fail))
    refine wpQuiet_nil ?_
    intro eg
    go_wp2_with (go_at_call 40; refine (need_ok _).mono ?_; rintro e w' ⟨rfl, rfl⟩)
    exact HK.out eg ..
  · have d1 : decide ((t.at_ : Int) + (t.len : Int) ≤ (u.at_ : Int)) = false := decide_eq_false (by omega)
    have HK := Lib.hid (fun e => hn e c1)
    clear hy hn c1
    refine wp_region_grown_tail 19 (by kernel_rfl) (by kernel_rfl) ?_
    simp only [List.take_succ_cons, List.take_zero, List.drop_succ_cons, List.drop_zero]
    repeat (go_big_quiet_step (fail))
    refine wpQuiet_nil ?_
    intro eg
    go_wp2_with (go_at_call 40; refine (need_no _).mono ?_; rintro e w' ⟨rfl, rfl⟩)
    exact HK.out eg ..

set_option maxRecDepth 1000000 in
set_option maxHeartbeats 2000000 in
theorem tab_r12 {wx : World} {b bo cap g n rat rln : Nat} {l : List Nat} {x1 x2 x3 x4 x6 x7 x9 x10 x11 x12 x13 x14 x15 x16 x17 x18 x19 x20 x21 x22 x23 x24 x25 x26 x27 x28 x29 x30 x31 x32 x33 x34 x35 x36 x37 x38 x39 x40 x41 x42 x43 x44 x45 x46 x47 x48 x49 x50 x51 x52 x53 x54 x55 x56 x57 x58 x59 x60 x61 x62 x63 x64 x65 x66 x67 x68 x69 x70 x71 x72 x73 x74 x75 x76 x77 x78 x79 x80 x81 x82 x83 x84 x85 x86 x87 x88 x89 x90 x91 x92 x93 x94 x95 x96 x97 x98 x99 x100 x101 x102 x103 x104 x105 x106 x107 x108 x109 x110 x111 x112 x113 x114 x115 x116 x117 x118 x119 x120 x121 x122 x123 x124 x125 x126 x127 x128 x129 x130 x131 x132 x133 x134 x135 x136 x137 x138 x139 x140 x141 x142 x143 x144 x145 x146 x147 x148 x149 x150 x151 x152 x153 x154 x155 x156 x157 x158 x159 x160 x161 x162 x163 x164 x165 x166 x167 x168 x169 x170 x171 x172 : Value} {D : List Deferred} {K : Exit → Act → World → Prop}
    (f1 : l.length ≤ 16777216) (f4 : n ≤ 64) (hr1 : rat < 4294967296) (hr2 : rln < 4294967296) (q4 : wx.cell? ⟨g, 4, none⟩ = some (.int .i64 rat)) (q5 : wx.cell? ⟨g, 5, none⟩ = some (.int .i64 rln))
    (hy : ∀ (_ : rat % 4 = 0 ∧ 12 + 16 * n ≤ rat ∧ rat + rln ≤ l.length) (y73 y74 y75 y76 y77 y78 y79 y80 y81 y82 y83 y84 y85 y86 y87 y88 y89 y90 y91 y92 y93 y94 y95 y96 y97 y98 y99 y100 y101 y102 : Value), K (.normal) ⟨List.toArray ((Value.slice (some ⟨b, bo, none⟩) l.length cap) :: x1 :: x2 :: x3 :: x4 :: (Value.int .i64 n) :: x6 :: x7 :: (Value.pointer (some ⟨g, 0, none⟩)) :: x9 :: x10 :: x11 :: x12 :: x13 :: x14 :: x15 :: x16 :: x17 :: x18 :: x19 :: x20 :: x21 :: x22 :: x23 :: x24 :: x25 :: x26 :: x27 :: x28 :: x29 :: x30 :: x31 :: x32 :: x33 :: x34 :: x35 :: x36 :: x37 :: x38 :: x39 :: x40 :: x41 :: x42 :: x43 :: x44 :: x45 :: x46 :: x47 :: x48 :: x49 :: x50 :: x51 :: x52 :: x53 :: x54 :: x55 :: x56 :: x57 :: x58 :: x59 :: x60 :: x61 :: x62 :: x63 :: x64 :: x65 :: x66 :: x67 :: x68 :: x69 :: x70 :: x71 :: x72 :: y73 :: y74 :: y75 :: y76 :: y77 :: y78 :: y79 :: y80 :: y81 :: y82 :: y83 :: y84 :: y85 :: y86 :: y87 :: y88 :: y89 :: y90 :: y91 :: y92 :: y93 :: y94 :: y95 :: y96 :: y97 :: y98 :: y99 :: y100 :: y101 :: y102 :: x103 :: x104 :: x105 :: x106 :: x107 :: x108 :: x109 :: x110 :: x111 :: x112 :: x113 :: x114 :: x115 :: x116 :: x117 :: x118 :: x119 :: x120 :: x121 :: x122 :: x123 :: x124 :: x125 :: x126 :: x127 :: x128 :: x129 :: x130 :: x131 :: x132 :: x133 :: x134 :: x135 :: x136 :: x137 :: x138 :: x139 :: x140 :: x141 :: x142 :: x143 :: x144 :: x145 :: x146 :: x147 :: x148 :: x149 :: x150 :: x151 :: x152 :: x153 :: x154 :: x155 :: x156 :: x157 :: x158 :: x159 :: x160 :: x161 :: x162 :: x163 :: x164 :: x165 :: x166 :: x167 :: x168 :: x169 :: x170 :: x171 :: x172 :: []), D⟩ wx)
    (hn : ∀ (_ : ¬ (rat % 4 = 0 ∧ 12 + 16 * n ≤ rat ∧ rat + rln ≤ l.length)) (y73 y74 y75 y76 y77 y78 y79 y80 y81 y82 y83 y84 y85 y86 y87 y88 y89 y90 y91 y92 y93 y94 y95 y96 y97 y98 y99 y100 y101 : Value), K (gaveUp) ⟨List.toArray ((Value.slice (some ⟨b, bo, none⟩) l.length cap) :: x1 :: x2 :: x3 :: x4 :: (Value.int .i64 n) :: x6 :: x7 :: (Value.pointer (some ⟨g, 0, none⟩)) :: x9 :: x10 :: x11 :: x12 :: x13 :: x14 :: x15 :: x16 :: x17 :: x18 :: x19 :: x20 :: x21 :: x22 :: x23 :: x24 :: x25 :: x26 :: x27 :: x28 :: x29 :: x30 :: x31 :: x32 :: x33 :: x34 :: x35 :: x36 :: x37 :: x38 :: x39 :: x40 :: x41 :: x42 :: x43 :: x44 :: x45 :: x46 :: x47 :: x48 :: x49 :: x50 :: x51 :: x52 :: x53 :: x54 :: x55 :: x56 :: x57 :: x58 :: x59 :: x60 :: x61 :: x62 :: x63 :: x64 :: x65 :: x66 :: x67 :: x68 :: x69 :: x70 :: x71 :: x72 :: y73 :: y74 :: y75 :: y76 :: y77 :: y78 :: y79 :: y80 :: y81 :: y82 :: y83 :: y84 :: y85 :: y86 :: y87 :: y88 :: y89 :: y90 :: y91 :: y92 :: y93 :: y94 :: y95 :: y96 :: y97 :: y98 :: y99 :: y100 :: y101 :: x102 :: x103 :: x104 :: x105 :: x106 :: x107 :: x108 :: x109 :: x110 :: x111 :: x112 :: x113 :: x114 :: x115 :: x116 :: x117 :: x118 :: x119 :: x120 :: x121 :: x122 :: x123 :: x124 :: x125 :: x126 :: x127 :: x128 :: x129 :: x130 :: x131 :: x132 :: x133 :: x134 :: x135 :: x136 :: x137 :: x138 :: x139 :: x140 :: x141 :: x142 :: x143 :: x144 :: x145 :: x146 :: x147 :: x148 :: x149 :: x150 :: x151 :: x152 :: x153 :: x154 :: x155 :: x156 :: x157 :: x158 :: x159 :: x160 :: x161 :: x162 :: x163 :: x164 :: x165 :: x166 :: x167 :: x168 :: x169 :: x170 :: x171 :: x172 :: []), D⟩ wx) :
    Code.wp Tryz.prog (tabReg 12) K ⟨List.toArray ((Value.slice (some ⟨b, bo, none⟩) l.length cap) :: x1 :: x2 :: x3 :: x4 :: (Value.int .i64 n) :: x6 :: x7 :: (Value.pointer (some ⟨g, 0, none⟩)) :: x9 :: x10 :: x11 :: x12 :: x13 :: x14 :: x15 :: x16 :: x17 :: x18 :: x19 :: x20 :: x21 :: x22 :: x23 :: x24 :: x25 :: x26 :: x27 :: x28 :: x29 :: x30 :: x31 :: x32 :: x33 :: x34 :: x35 :: x36 :: x37 :: x38 :: x39 :: x40 :: x41 :: x42 :: x43 :: x44 :: x45 :: x46 :: x47 :: x48 :: x49 :: x50 :: x51 :: x52 :: x53 :: x54 :: x55 :: x56 :: x57 :: x58 :: x59 :: x60 :: x61 :: x62 :: x63 :: x64 :: x65 :: x66 :: x67 :: x68 :: x69 :: x70 :: x71 :: x72 :: x73 :: x74 :: x75 :: x76 :: x77 :: x78 :: x79 :: x80 :: x81 :: x82 :: x83 :: x84 :: x85 :: x86 :: x87 :: x88 :: x89 :: x90 :: x91 :: x92 :: x93 :: x94 :: x95 :: x96 :: x97 :: x98 :: x99 :: x100 :: x101 :: x102 :: x103 :: x104 :: x105 :: x106 :: x107 :: x108 :: x109 :: x110 :: x111 :: x112 :: x113 :: x114 :: x115 :: x116 :: x117 :: x118 :: x119 :: x120 :: x121 :: x122 :: x123 :: x124 :: x125 :: x126 :: x127 :: x128 :: x129 :: x130 :: x131 :: x132 :: x133 :: x134 :: x135 :: x136 :: x137 :: x138 :: x139 :: x140 :: x141 :: x142 :: x143 :: x144 :: x145 :: x146 :: x147 :: x148 :: x149 :: x150 :: x151 :: x152 :: x153 :: x154 :: x155 :: x156 :: x157 :: x158 :: x159 :: x160 :: x161 :: x162 :: x163 :: x164 :: x165 :: x166 :: x167 :: x168 :: x169 :: x170 :: x171 :: x172 :: []), D⟩ wx := by
  conv => arg 2; whnf
  have wr1 : IntKind.i64.wrap (16 * (n : Int)) = 16 * (n : Int) := IntWalk.i64_in _ (by omega)
  have wr2 : IntKind.i64.wrap (12 + 16 * (n : Int)) = 12 + 16 * (n : Int) := IntWalk.i64_in _ (by omega)
  by_cases c1 : rat % 4 = 0
  · have d1 : (rat : Int).tmod 4 = 0 := by rw [Int.tmod_eq_emod_of_nonneg (by omega)]; omega
    by_cases c2 : 12 + 16 * n ≤ rat
    · have d2 : decide (12 + 16 * (n : Int) ≤ (rat : Int)) = true := decide_eq_true (by omega)
      by_cases c3 : rat ≤ l.length
      · have d3 : decide ((rat : Int) ≤ (l.length : Int)) = true := decide_eq_true (by omega)
        have wr3 : IntKind.i64.wrap ((l.length : Int) - (rat : Int)) = (l.length : Int) - (rat : Int) := IntWalk.i64_in _ (by omega)
        by_cases c4 : rat + rln ≤ l.length
        · have d4 : decide ((rln : Int) ≤ (l.length : Int) - (rat : Int)) = true := decide_eq_true (by omega)
          have HK := Lib.hid (hy ⟨c1, c2, c4⟩)
          clear hy hn
          go_wp2_with (go_at_call 40; refine (need_ok _).mono ?_; rintro e w' ⟨rfl, rfl⟩)
          exact HK.out ..
        · have d4 : decide ((rln : Int) ≤ (l.length : Int) - (rat : Int)) = false := decide_eq_false (by omega)
          have HK := Lib.hid (hn (fun h => c4 h.2.2))
          clear hy hn
          go_wp2_with (go_at_call 40; refine (need_no _).mono ?_; rintro e w' ⟨rfl, rfl⟩)
          exact HK.out ..
      · have d3 : decide ((rat : Int) ≤ (l.length : Int)) = false := decide_eq_false (by omega)
        have HK := Lib.hid (hn (fun h => c3 (by omega)))
        clear hy hn
        go_wp2_with (go_at_call 40; refine (need_no _).mono ?_; rintro e w' ⟨rfl, rfl⟩)
        exact HK.out ..
    · have d2 : decide (12 + 16 * (n : Int) ≤ (rat : Int)) = false := decide_eq_false (by omega)
      have HK := Lib.hid (hn (fun h => c2 h.2.1))
      clear hy hn
      go_wp2_with (go_at_call 40; refine (need_no _).mono ?_; rintro e w' ⟨rfl, rfl⟩)
      exact HK.out ..
  · obtain ⟨m, hm, hm1⟩ : ∃ m : Nat, (rat : Int).tmod 4 = (m : Int) ∧ 0 < m ∧ m < 4 := ⟨rat % 4, by rw [Int.tmod_eq_emod_of_nonneg (by omega)]; omega, by omega, by omega⟩
    have d1 : ((m : Int) == 0) = false := by simp; omega
    have d1b : (m == 0) = false := by simp; omega
    have wr3 : IntKind.i64.wrap (m : Int) = (m : Int) := IntWalk.i64_in _ (by omega)
    have HK := Lib.hid (hn (fun h => c1 h.1))
    clear hy hn
    go_wp2_with (go_at_call 40; refine (need_no _).mono ?_; rintro e w' ⟨rfl, rfl⟩)
    exact HK.out ..

end Go.Proofs.YtfbppbelcbbhlaaGreatDoor.Sf
