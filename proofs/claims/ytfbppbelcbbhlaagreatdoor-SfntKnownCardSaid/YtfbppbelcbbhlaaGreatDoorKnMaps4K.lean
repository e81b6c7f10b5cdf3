/- The statement's maps4: subtables of the format 4. -/
import Derived.Test.YtfbppbelcbbhlaaGreatDoorKnMaps12K
namespace Go.Proofs.YtfbppbelcbbhlaaGreatDoor.Sf
open Go Go.RowKit

def bts3 : Array Value := #[.int .u8 1, .int .u8 4, .int .u8 64]
theorem bts3_get (k : Nat) (h : k < 3) : ∃ t : Nat, t < 256 ∧ bts3[k]? = some (.int .u8 (t : Int)) := by
  rcases (show k = 0 ∨ k = 1 ∨ k = 2 by omega) with rfl | rfl | rfl
  · exact ⟨1, by decide, rfl⟩
  · exact ⟨4, by decide, rfl⟩
  · exact ⟨64, by decide, rfl⟩
def objs4 (wr : World) : List Obj := [(.cells #[.int .i64 80, .int .i64 79] 2), (.cells #[.int .i64 200, .int .i64 150] 2), (.cells #[.int .i64 65534, .int .i64 150] 2), (.cells #[.int .i64 65535, .int .i64 150] 2), (.cells #[.slice (some ⟨wr.heap.size, 0, none⟩) 2 2, .slice (some ⟨wr.heap.size + 1, 0, none⟩) 2 2, .slice (some ⟨wr.heap.size + 1 + 1, 0, none⟩) 2 2, .slice (some ⟨wr.heap.size + 1 + 1 + 1, 0, none⟩) 2 2] 34)]
theorem rows4 (wr : World) (k : Nat) (hk : k < 4) : wr.heap.size + 1 + 1 + 1 + 1 < (allocs wr (objs4 wr)).heap.size ∧ ∃ (b : Nat) (x y : Int), b < (allocs wr (objs4 wr)).heap.size ∧ (allocs wr (objs4 wr)).cell? ⟨wr.heap.size + 1 + 1 + 1 + 1, k, none⟩ = some (.slice (some ⟨b, 0, none⟩) 2 2) ∧
    (allocs wr (objs4 wr)).cell? ⟨b, 0, none⟩ = some (.int .i64 x) ∧ (allocs wr (objs4 wr)).cell? ⟨b, 1, none⟩ = some (.int .i64 y) := by
  have hB := allocs_get (objs4 wr) wr 4 _ rfl
  refine ⟨lt_of_heap hB, ?_⟩
  have hc := fun j => cell_of_blk hB j
  rcases (show k = 0 ∨ k = 1 ∨ k = 2 ∨ k = 3 by omega) with rfl | rfl | rfl | rfl
  · have h := allocs_get (objs4 wr) wr 0 _ rfl
    exact ⟨wr.heap.size, _, _, lt_of_heap h, hc 0, cell_of_blk h 0, cell_of_blk h 1⟩
  · have h := allocs_get (objs4 wr) wr 1 _ rfl
    exact ⟨wr.heap.size + 1, _, _, lt_of_heap h, hc 1, cell_of_blk h 0, cell_of_blk h 1⟩
  · have h := allocs_get (objs4 wr) wr 2 _ rfl
    exact ⟨wr.heap.size + 1 + 1, _, _, lt_of_heap h, hc 2, cell_of_blk h 0, cell_of_blk h 1⟩
  · have h := allocs_get (objs4 wr) wr 3 _ rfl
    exact ⟨wr.heap.size + 1 + 1 + 1, _, _, lt_of_heap h, hc 3, cell_of_blk h 0, cell_of_blk h 1⟩
theorem wpl_appE {P : Program} {w : World} {ops : Array Oper} {rest : List Oper} {o : Oper} {a : Act} {Q : Exit → Act → World → Prop} (hgd : o.guard = none) (s x : Operand) (t : TypeId)
    (ho : o.op = .call { callee := .builtin .append, args := #[s, x], argTypes := #[t, t] }) (ht : P.underlying t = some (.slice 5)) (hinfo : (P.info? 5).map (fun i => (i.zero, i.size, i.bytes)) = some (some (.int .u8 0), 1, 1))
    (base : Nat) (A0 : Option Addr) (c0 n0 : Nat) (hs : a.eval s = .slice A0 n0 c0) (hown : OB w base A0 c0 n0)
    (A : Option Addr) (n c m : Nat) (hx : a.eval x = .slice A n c) (hb : RB w A c n) (hm : n0 + n = m) (hlen : n0 + n ≤ 140737488355328) (hbase : base ≤ w.heap.size)
    (h : ∀ A' c' w', OB w' base A' c' m → Below base w w' → wpList P ops Q rest (a.put o.dst (.slice A' m c')) w') : wpList P ops Q (o :: rest) a w := by
  subst hm
  exact wpl_appR hgd s x t ho ht hinfo base A0 c0 n0 hs hown A n c hx hb hlen hbase h
set_option maxRecDepth 100000 in
set_option maxHeartbeats 4000000 in
theorem maps4_known (w : World) (hd : HdVar w) : Calls Tryz.prog 10 #[] w fun e w' => e = .returned (.bool true) ∧ Below w.heap.size w w' := by
  have HD := Lib.hid hd
  clear hd
  go_enter Tryz.func10, Tryz.ntmps10
  have G0 : True := trivial; have HBG0 := Lib.hid (Below.refl w.heap.size w)
  go_wp2_with (first | (clear G0; go_at_call 4; refine (putN (w := w) ⟨#[72, 72, 72, 72, 72, 72, 72, 72, 72, 72, 72, 72, 72, 72, 72, 72, 72, 72, 72, 72, 72, 72]⟩ [4, 44, 0, 6, 0, 0, 0, 66, 80, 65535, 0, 65, 79, 65535, 65535, 3, 1, 0, 4, 0, 0, 7] 22 44 rfl rfl (by decide) rfl (by decide +kernel)).mono ?_; rintro e wG1 ⟨AG1, cG1, rfl, hoG1, hbG1⟩; obtain ⟨qG1, rfl⟩ := hoG1.pos (by decide); have hlG1 := hoG1.le; have HOG1 := Lib.hid hoG1; have hsG1 := hbG1.size; have HWG1 := Lib.hid hbG1; have HBG1 := Lib.hid (HBG0.out.trans (hbG1.mono HBG0.out.size)); clear hoG1 hbG1; have G1 : True := trivial))
  have hr1 := HOG1.out.rb
  have hrd := HD.out.kept (kept_of_below HBG1.out)
  have HF1 := Lib.hid (fun (W : World) (h : Below wG1.heap.size wG1 W) => hr1.below h)
  have HFD := Lib.hid (fun (W : World) (h : Below wG1.heap.size wG1 W) => hrd.kept (kept_of_below h))
  clear hr1 hrd
  go_loopw [2] (fun iv wr => ∃ (i : Int) (k : Nat), k ≤ 45 ∧ i = (k : Int) - 1 ∧ iv = .int .i64 i ∧ Below wG1.heap.size wG1 wr) (fun iv _ => 45 - (intOf iv + 1).toNat)
  case atStart => exact ⟨-1, 0, by omega, by omega, rfl, Below.refl _ _⟩
  case round =>
    obtain ⟨i, k, hk, hi, rfl, hbel⟩ := hrel
    have HB := Lib.hid hbel; clear hbel
    rcases (show k = 45 ∨ k = 0 ∨ (0 < k ∧ k < 45) by omega) with hke | h0 | ⟨hk0, hlt⟩
    rotate_left
    · have hi1 : i = -1 := by omega
      subst hi1
      clear hi
      go_wp2_with fail
      have hz : (wr.alloc (.cells #[.int .u8 1, .int .u8 4, .int .u8 64] 5)).heap[wr.heap.size]? = some (.cells bts3 5 (0, 0)) := heap_alloc_new wr (.cells #[.int .u8 1, .int .u8 4, .int .u8 64] 5)
      have HBO := Lib.hid (HB.out.alloc HB.out.size (.cells #[.int .u8 1, .int .u8 4, .int .u8 64] 5))
      generalize wr.heap.size = b20 at *
      generalize wr.alloc (.cells #[.int .u8 1, .int .u8 4, .int .u8 64] 5) = wo at *
      have HZ := Lib.hid hz; clear hz
      go_loopw [22] (fun iv wr => ∃ k : Nat, k ≤ 3 ∧ iv = .int .i64 k ∧ Below wo.heap.size wo wr) (fun iv _ => 3 - (intOf iv).toNat)
      case atStart => exact ⟨0, by omega, rfl, Below.refl _ _⟩
      case round =>
        obtain ⟨n, hn, rfl, hbel⟩ := hrel
        have HR := Lib.hid hbel; clear hbel
        have HY := Lib.hid (HBO.out.trans (HR.out.mono HBO.out.size))
        rcases (show n = 3 ∨ n < 3 by omega) with hne | hn3
        rotate_left
        · obtain ⟨t, ht, hbt⟩ := bts3_get n hn3
          have hc : wr.cell? ⟨b20, n, none⟩ = some (.int .u8 (t : Int)) := ((HR.out.cell (p := ⟨b20, n, none⟩) (lt_of_heap HZ.out)).trans (cell_of_blk HZ.out n)).trans hbt
          have f1 : decide ((n : Int) < 3) = true := decide_eq_true (by omega)
          have f2 : (0 : Int) ≤ (n : Int) := by omega
          have f3 : (n : Int) < 3 := by omega
          have fk : IntKind.i64.wrap ((n : Int) + 1) = ((n + 1 : Nat) : Int) := by rw [IntWalk.i64_in _ (by omega)]; omega
          clear hbt
          have L0 : True := trivial; have HBL0 := Lib.hid (Below.refl wr.heap.size wr)
          go_wp2_with (first | (clear L0; at_builtin; refine wpl_copyR (w0 := wr) rfl _ _ 25 rfl Tryz.underlying25 info_u8 rfl rfl _ _ _ rfl (HF1.out _ HY.out) (by omega) ?_; intro AL1 cL1 wL1 hoL1 hbL1; obtain ⟨qL1, rfl⟩ := hoL1.pos (by decide); have hlL1 := hoL1.le; have HOL1 := Lib.hid hoL1; have hsL1 := hbL1.size; have HWL1 := Lib.hid hbL1; have HBL1 := Lib.hid (HBL0.out.trans (hbL1.mono HBL0.out.size)); clear hoL1 hbL1; have L1 : True := trivial) | (clear L1; go_at_call 29; refine (cmapR 1 HOL1.out.rb (by omega)).mono ?_; rintro e wL2 ⟨AL2, cL2, mL2, rfl, hrL2, hmL2, hbL2⟩; have HOL2 := Lib.hid (HOL1.out.below hbL2); have HRL2 := Lib.hid hrL2; have HBL2 := Lib.hid (HBL1.out.trans (hbL2.mono HBL1.out.size)); clear hrL2 hbL2; have L2 : True := trivial) | (clear L2; go_at_call 28; refine (mapsR 70 HRL2.out (HFD.out _ (HY.out.trans (HBL2.out.mono HY.out.size))) hmL2).mono ?_; rintro e wL3 ⟨rfl, hbL3⟩; have HOL3 := Lib.hid (HOL2.out.below hbL3); have HBL3 := Lib.hid (HBL2.out.trans (hbL3.mono HBL2.out.size)); clear hbL3; have L3 : True := trivial) | (clear L3; go_at_call 29; refine (cmapR 1 HOL3.out.rb (by omega)).mono ?_; rintro e wL4 ⟨AL4, cL4, mL4, rfl, hrL4, hmL4, hbL4⟩; have HOL4 := Lib.hid (HOL3.out.below hbL4); have HRL4 := Lib.hid hrL4; have HBL4 := Lib.hid (HBL3.out.trans (hbL4.mono HBL3.out.size)); clear hrL4 hbL4; have L4 : True := trivial) | (clear L4; go_at_call 28; refine (mapsR 9 HRL4.out (HFD.out _ (HY.out.trans (HBL4.out.mono HY.out.size))) hmL4).mono ?_; rintro e wL5 ⟨rfl, hbL5⟩; have HOL5 := Lib.hid (HOL4.out.below hbL5); have HBL5 := Lib.hid (HBL4.out.trans (hbL5.mono HBL4.out.size)); clear hbL5; have L5 : True := trivial) | (clear L5; go_at_call 29; refine (cmapR 10 HOL5.out.rb (by omega)).mono ?_; rintro e wL6 ⟨AL6, cL6, mL6, rfl, hrL6, hmL6, hbL6⟩; have HOL6 := Lib.hid (HOL5.out.below hbL6); have HRL6 := Lib.hid hrL6; have HBL6 := Lib.hid (HBL5.out.trans (hbL6.mono HBL5.out.size)); clear hrL6 hbL6; have L6 : True := trivial) | (clear L6; go_at_call 28; refine (mapsR 70 HRL6.out (HFD.out _ (HY.out.trans (HBL6.out.mono HY.out.size))) hmL6).mono ?_; rintro e wL7 ⟨rfl, hbL7⟩; have HOL7 := Lib.hid (HOL6.out.below hbL7); have HBL7 := Lib.hid (HBL6.out.trans (hbL7.mono HBL6.out.size)); clear hbL7; have L7 : True := trivial))
          go_roundw
          case rel => exact ⟨n + 1, by omega, by go_num, HR.out.trans (HBL7.out.mono HR.out.size)⟩
          case measure => simp [intOf] <;> omega
        · have f1 : decide ((n : Int) < 3) = false := decide_eq_false (by omega)
          clear hn hne
          go_wp2_with fail
          go_roundw
          case rel => exact ⟨0, 1, by omega, by omega, by go_num, HY.out⟩
          case measure => simp [intOf] <;> omega
    · obtain ⟨j, hj⟩ : ∃ j : Nat, i = (j : Int) := ⟨k - 1, by omega⟩
      subst hj
      have hjk : k = j + 1 := by omega
      have hj44 : j < 44 := by omega
      clear hi hk hk0 hlt hjk
      have d1 : decide ((j : Int) < 44) = true := decide_eq_true (by omega)
      have b0 : (0 : Int) ≤ (j : Int) := by omega
      have b1 : (j : Int) < 44 := by omega
      have b2 : (j : Int) ≤ (cG1 : Int) := by omega
      have d2 : decide ((j : Int) ≥ 0) = true := decide_eq_true (by omega)
      have wk : IntKind.i64.wrap ((j : Int) + 1) = ((j + 1 : Nat) : Int) := by rw [IntWalk.i64_in _ (by omega)]; omega
      go_wp2_with fail
      have hz : (wr.alloc (.cells #[.int .u8 1, .int .u8 4, .int .u8 64] 5)).heap[wr.heap.size]? = some (.cells bts3 5 (0, 0)) := heap_alloc_new wr (.cells #[.int .u8 1, .int .u8 4, .int .u8 64] 5)
      have HBO := Lib.hid (HB.out.alloc HB.out.size (.cells #[.int .u8 1, .int .u8 4, .int .u8 64] 5))
      generalize wr.heap.size = b20 at *
      generalize wr.alloc (.cells #[.int .u8 1, .int .u8 4, .int .u8 64] 5) = wo at *
      have HZ := Lib.hid hz; clear hz
      go_loopw [22] (fun iv wr => ∃ k : Nat, k ≤ 3 ∧ iv = .int .i64 k ∧ Below wo.heap.size wo wr) (fun iv _ => 3 - (intOf iv).toNat)
      case atStart => exact ⟨0, by omega, rfl, Below.refl _ _⟩
      case round =>
        obtain ⟨n, hn, rfl, hbel⟩ := hrel
        have HR := Lib.hid hbel; clear hbel
        have HY := Lib.hid (HBO.out.trans (HR.out.mono HBO.out.size))
        rcases (show n = 3 ∨ n < 3 by omega) with hne | hn3
        rotate_left
        · obtain ⟨t, ht, hbt⟩ := bts3_get n hn3
          have hc : wr.cell? ⟨b20, n, none⟩ = some (.int .u8 (t : Int)) := ((HR.out.cell (p := ⟨b20, n, none⟩) (lt_of_heap HZ.out)).trans (cell_of_blk HZ.out n)).trans hbt
          have f1 : decide ((n : Int) < 3) = true := decide_eq_true (by omega)
          have f2 : (0 : Int) ≤ (n : Int) := by omega
          have f3 : (n : Int) < 3 := by omega
          have fk : IntKind.i64.wrap ((n : Int) + 1) = ((n + 1 : Nat) : Int) := by rw [IntWalk.i64_in _ (by omega)]; omega
          clear hbt
          have M0 : True := trivial; have HBM0 := Lib.hid (Below.refl wr.heap.size wr)
          go_wp2_with (first | (clear M0; at_builtin; refine wpl_copyR (w0 := wr) rfl _ _ 25 rfl Tryz.underlying25 info_u8 rfl rfl _ _ _ rfl (HF1.out _ HY.out) (by omega) ?_; intro AM1 cM1 wM1 hoM1 hbM1; obtain ⟨qM1, rfl⟩ := hoM1.pos (by decide); have hlM1 := hoM1.le; have HOM1 := Lib.hid hoM1; have hsM1 := hbM1.size; have HWM1 := Lib.hid hbM1; have HBM1 := Lib.hid (HBM0.out.trans (hbM1.mono HBM0.out.size)); clear hoM1 hbM1; obtain ⟨qx, hA, -, hqb, hqs, x, hx, hxc, hxf, hxs⟩ := HOM1.out.at_ j hj44; cases hA; obtain ⟨y, hy, hxy⟩ := xor_ex x t hx ht; have HOx := Lib.hid (hxs y hy); have HBx := Lib.hid (HBM1.out.setCell (p := ⟨qM1, j, none⟩) (by exact hqb) (.int .u8 (y : Int))); clear hxs; have M1 : True := trivial) | (clear M1; go_at_call 29; refine (cmapR 1 HOx.out.rb (by omega)).mono ?_; rintro e wM2 ⟨AM2, cM2, mM2, rfl, hrM2, hmM2, hbM2⟩; have HOM2 := Lib.hid (HOx.out.below hbM2); have HRM2 := Lib.hid hrM2; have HBM2 := Lib.hid (HBx.out.trans (hbM2.mono HBx.out.size)); clear hrM2 hbM2; have M2 : True := trivial) | (clear M2; go_at_call 28; refine (mapsR 70 HRM2.out (HFD.out _ (HY.out.trans (HBM2.out.mono HY.out.size))) hmM2).mono ?_; rintro e wM3 ⟨rfl, hbM3⟩; have HOM3 := Lib.hid (HOM2.out.below hbM3); have HBM3 := Lib.hid (HBM2.out.trans (hbM3.mono HBM2.out.size)); clear hbM3; have M3 : True := trivial) | (clear M3; go_at_call 29; refine (cmapR 1 HOM3.out.rb (by omega)).mono ?_; rintro e wM4 ⟨AM4, cM4, mM4, rfl, hrM4, hmM4, hbM4⟩; have HOM4 := Lib.hid (HOM3.out.below hbM4); have HRM4 := Lib.hid hrM4; have HBM4 := Lib.hid (HBM3.out.trans (hbM4.mono HBM3.out.size)); clear hrM4 hbM4; have M4 : True := trivial) | (clear M4; go_at_call 28; refine (mapsR 9 HRM4.out (HFD.out _ (HY.out.trans (HBM4.out.mono HY.out.size))) hmM4).mono ?_; rintro e wM5 ⟨rfl, hbM5⟩; have HOM5 := Lib.hid (HOM4.out.below hbM5); have HBM5 := Lib.hid (HBM4.out.trans (hbM5.mono HBM4.out.size)); clear hbM5; have M5 : True := trivial) | (clear M5; go_at_call 29; refine (cmapR 10 HOM5.out.rb (by omega)).mono ?_; rintro e wM6 ⟨AM6, cM6, mM6, rfl, hrM6, hmM6, hbM6⟩; have HOM6 := Lib.hid (HOM5.out.below hbM6); have HRM6 := Lib.hid hrM6; have HBM6 := Lib.hid (HBM5.out.trans (hbM6.mono HBM5.out.size)); clear hrM6 hbM6; have M6 : True := trivial) | (clear M6; go_at_call 28; refine (mapsR 70 HRM6.out (HFD.out _ (HY.out.trans (HBM6.out.mono HY.out.size))) hmM6).mono ?_; rintro e wM7 ⟨rfl, hbM7⟩; have HOM7 := Lib.hid (HOM6.out.below hbM7); have HBM7 := Lib.hid (HBM6.out.trans (hbM7.mono HBM6.out.size)); clear hbM7; have M7 : True := trivial) | (clear M7; go_at_call 29; refine (cmapR 1 ((HF1.out _ (HY.out.trans (HBM7.out.mono HY.out.size))).take j (by omega)) (by omega)).mono ?_; rintro e wM8 ⟨AM8, cM8, mM8, rfl, hrM8, hmM8, hbM8⟩; have HRM8 := Lib.hid hrM8; have HBM8 := Lib.hid (HBM7.out.trans (hbM8.mono HBM7.out.size)); clear hrM8 hbM8; have M8 : True := trivial) | (clear M8; go_at_call 28; refine (mapsR 70 HRM8.out (HFD.out _ (HY.out.trans (HBM8.out.mono HY.out.size))) hmM8).mono ?_; rintro e wM9 ⟨rfl, hbM9⟩; have HBM9 := Lib.hid (HBM8.out.trans (hbM9.mono HBM8.out.size)); clear hbM9; have M9 : True := trivial))
          go_roundw
          case rel => exact ⟨n + 1, by omega, by go_num, HR.out.trans (HBM9.out.mono HR.out.size)⟩
          case measure => simp [intOf] <;> omega
        · have f1 : decide ((n : Int) < 3) = false := decide_eq_false (by omega)
          clear hn hne
          go_wp2_with fail
          go_roundw
          case rel => exact ⟨((j + 1 : Nat) : Int), j + 2, by omega, by omega, by go_num, HY.out⟩
          case measure => simp [intOf] <;> omega
    · have hi1 : i = 44 := by omega
      subst hi1
      clear hi hk hke
      go_wp2_with fail
      have hg : ∀ k, k < 4 → wr.heap.size + 1 + 1 + 1 + 1 < (((((wr.alloc (.cells #[.int .i64 80, .int .i64 79] 2)).alloc (.cells #[.int .i64 200, .int .i64 150] 2)).alloc (.cells #[.int .i64 65534, .int .i64 150] 2)).alloc (.cells #[.int .i64 65535, .int .i64 150] 2)).alloc (.cells #[.slice (some ⟨wr.heap.size, 0, none⟩) 2 2, .slice (some ⟨wr.heap.size + 1, 0, none⟩) 2 2, .slice (some ⟨wr.heap.size + 1 + 1, 0, none⟩) 2 2, .slice (some ⟨wr.heap.size + 1 + 1 + 1, 0, none⟩) 2 2] 34)).heap.size ∧ ∃ (b : Nat) (x y : Int), b < (((((wr.alloc (.cells #[.int .i64 80, .int .i64 79] 2)).alloc (.cells #[.int .i64 200, .int .i64 150] 2)).alloc (.cells #[.int .i64 65534, .int .i64 150] 2)).alloc (.cells #[.int .i64 65535, .int .i64 150] 2)).alloc (.cells #[.slice (some ⟨wr.heap.size, 0, none⟩) 2 2, .slice (some ⟨wr.heap.size + 1, 0, none⟩) 2 2, .slice (some ⟨wr.heap.size + 1 + 1, 0, none⟩) 2 2, .slice (some ⟨wr.heap.size + 1 + 1 + 1, 0, none⟩) 2 2] 34)).heap.size ∧ (((((wr.alloc (.cells #[.int .i64 80, .int .i64 79] 2)).alloc (.cells #[.int .i64 200, .int .i64 150] 2)).alloc (.cells #[.int .i64 65534, .int .i64 150] 2)).alloc (.cells #[.int .i64 65535, .int .i64 150] 2)).alloc (.cells #[.slice (some ⟨wr.heap.size, 0, none⟩) 2 2, .slice (some ⟨wr.heap.size + 1, 0, none⟩) 2 2, .slice (some ⟨wr.heap.size + 1 + 1, 0, none⟩) 2 2, .slice (some ⟨wr.heap.size + 1 + 1 + 1, 0, none⟩) 2 2] 34)).cell? ⟨wr.heap.size + 1 + 1 + 1 + 1, k, none⟩ = some (.slice (some ⟨b, 0, none⟩) 2 2) ∧ (((((wr.alloc (.cells #[.int .i64 80, .int .i64 79] 2)).alloc (.cells #[.int .i64 200, .int .i64 150] 2)).alloc (.cells #[.int .i64 65534, .int .i64 150] 2)).alloc (.cells #[.int .i64 65535, .int .i64 150] 2)).alloc (.cells #[.slice (some ⟨wr.heap.size, 0, none⟩) 2 2, .slice (some ⟨wr.heap.size + 1, 0, none⟩) 2 2, .slice (some ⟨wr.heap.size + 1 + 1, 0, none⟩) 2 2, .slice (some ⟨wr.heap.size + 1 + 1 + 1, 0, none⟩) 2 2] 34)).cell? ⟨b, 0, none⟩ = some (.int .i64 x) ∧ (((((wr.alloc (.cells #[.int .i64 80, .int .i64 79] 2)).alloc (.cells #[.int .i64 200, .int .i64 150] 2)).alloc (.cells #[.int .i64 65534, .int .i64 150] 2)).alloc (.cells #[.int .i64 65535, .int .i64 150] 2)).alloc (.cells #[.slice (some ⟨wr.heap.size, 0, none⟩) 2 2, .slice (some ⟨wr.heap.size + 1, 0, none⟩) 2 2, .slice (some ⟨wr.heap.size + 1 + 1, 0, none⟩) 2 2, .slice (some ⟨wr.heap.size + 1 + 1 + 1, 0, none⟩) 2 2] 34)).cell? ⟨b, 1, none⟩ = some (.int .i64 y) := rows4 wr
      have hbb : Below wr.heap.size wr (((((wr.alloc (.cells #[.int .i64 80, .int .i64 79] 2)).alloc (.cells #[.int .i64 200, .int .i64 150] 2)).alloc (.cells #[.int .i64 65534, .int .i64 150] 2)).alloc (.cells #[.int .i64 65535, .int .i64 150] 2)).alloc (.cells #[.slice (some ⟨wr.heap.size, 0, none⟩) 2 2, .slice (some ⟨wr.heap.size + 1, 0, none⟩) 2 2, .slice (some ⟨wr.heap.size + 1 + 1, 0, none⟩) 2 2, .slice (some ⟨wr.heap.size + 1 + 1 + 1, 0, none⟩) 2 2] 34)) := allocs_below (objs4 wr) wr
      generalize (((((wr.alloc (.cells #[.int .i64 80, .int .i64 79] 2)).alloc (.cells #[.int .i64 200, .int .i64 150] 2)).alloc (.cells #[.int .i64 65534, .int .i64 150] 2)).alloc (.cells #[.int .i64 65535, .int .i64 150] 2)).alloc (.cells #[.slice (some ⟨wr.heap.size, 0, none⟩) 2 2, .slice (some ⟨wr.heap.size + 1, 0, none⟩) 2 2, .slice (some ⟨wr.heap.size + 1 + 1, 0, none⟩) 2 2, .slice (some ⟨wr.heap.size + 1 + 1 + 1, 0, none⟩) 2 2] 34)) = w9 at *
      generalize wr.heap.size + 1 + 1 + 1 + 1 = b9 at *
      have HG := Lib.hid hg
      have HB9 := Lib.hid (HB.out.trans (hbb.mono HB.out.size))
      clear hg hbb
      go_loopw [75] (fun iv wr => ∃ k : Nat, k ≤ 4 ∧ iv = .int .i64 k ∧ Below w9.heap.size w9 wr) (fun iv _ => 4 - (intOf iv).toNat)
      case atStart => exact ⟨0, by omega, rfl, Below.refl _ _⟩
      case round =>
        obtain ⟨k, hk, rfl, hbel⟩ := hrel
        have HR := Lib.hid hbel; clear hbel
        have HY := Lib.hid (HB9.out.trans (HR.out.mono HB9.out.size))
        rcases (show k = 4 ∨ k < 4 by omega) with hke | hlt
        rotate_left
        · obtain ⟨hB, b, x, y, hb, c0, c1, c2⟩ := HG.out k hlt
          have e0 : wr.cell? ⟨b9, k, none⟩ = some (.slice (some ⟨b, 0, none⟩) 2 2) := (HR.out.cell (p := ⟨b9, k, none⟩) hB).trans c0
          have E0 := Lib.hid (show wr.cell? ⟨b, 0, none⟩ = some (.int .i64 x) from (HR.out.cell (p := ⟨b, 0, none⟩) hb).trans c1)
          have E1 := Lib.hid (show wr.cell? ⟨b, 1, none⟩ = some (.int .i64 y) from (HR.out.cell (p := ⟨b, 1, none⟩) hb).trans c2)
          have d1 : decide ((k : Int) < 4) = true := decide_eq_true (by omega)
          have b0 : (0 : Int) ≤ (k : Int) := by omega
          have b1 : (k : Int) < 4 := by omega
          have wk : IntKind.i64.wrap ((k : Int) + 1) = ((k + 1 : Nat) : Int) := by rw [IntWalk.i64_in _ (by omega)]; omega
          clear hB hb c0 c1 c2
          have N0 : True := trivial; have HBN0 := Lib.hid (Below.refl wr.heap.size wr)
          go_wp2_with (first | (clear N0; at_builtin; refine wpl_copyR (w0 := wr) rfl _ _ 25 rfl Tryz.underlying25 info_u8 rfl rfl _ _ _ rfl (HF1.out _ HY.out) (by omega) ?_; intro AN1 cN1 wN1 hoN1 hbN1; obtain ⟨qN1, rfl⟩ := hoN1.pos (by decide); have hlN1 := hoN1.le; have HON1 := Lib.hid hoN1; have hsN1 := hbN1.size; have HWN1 := Lib.hid hbN1; have HBN1 := Lib.hid (HBN0.out.trans (hbN1.mono HBN0.out.size)); clear hoN1 hbN1; have g1 := (kept_of_below HBN1.out).cell E0.out; have N1 : True := trivial) | (clear N1; go_at_call 4; refine (putM1 (w := wN1) ⟨#[72]⟩ _ rfl).mono ?_; rintro e wN2 ⟨PN2, pN2, mN2, rfl, hmN2, hpN2, hbN2⟩; have HON2 := Lib.hid (HON1.out.below hbN2); have HPN2 := Lib.hid hpN2; have HBN2 := Lib.hid (HBN1.out.trans (hbN2.mono HBN1.out.size)); clear hpN2 hbN2; have N2 : True := trivial) | (clear N2; go_at_call 26; refine (copyR 18 HON2.out HPN2.out HON1.out.lt (by omega) (by decide)).mono ?_; rintro e wN3 ⟨rfl, hoN3, hbN3⟩; have HON3 := Lib.hid hoN3; have HBN3 := Lib.hid (HBN2.out.trans (hbN3.mono HBN0.out.size)); clear hoN3 hbN3; have g2 := (kept_of_below HBN3.out).cell E1.out; have N3 : True := trivial) | (clear N3; go_at_call 4; refine (putM1 (w := wN3) ⟨#[72]⟩ _ rfl).mono ?_; rintro e wN4 ⟨PN4, pN4, mN4, rfl, hmN4, hpN4, hbN4⟩; have HON4 := Lib.hid (HON3.out.below hbN4); have HPN4 := Lib.hid hpN4; have HBN4 := Lib.hid (HBN3.out.trans (hbN4.mono HBN3.out.size)); clear hpN4 hbN4; have N4 : True := trivial) | (clear N4; go_at_call 26; refine (copyR 26 HON4.out HPN4.out HON3.out.lt (by omega) (by decide)).mono ?_; rintro e wN5 ⟨rfl, hoN5, hbN5⟩; have HON5 := Lib.hid hoN5; have HBN5 := Lib.hid (HBN4.out.trans (hbN5.mono HBN0.out.size)); clear hoN5 hbN5; have N5 : True := trivial) | (clear N5; go_at_call 29; refine (cmapR 1 HON5.out.rb (by omega)).mono ?_; rintro e wN6 ⟨AN6, cN6, mN6, rfl, hrN6, hmN6, hbN6⟩; have HON6 := Lib.hid (HON5.out.below hbN6); have HRN6 := Lib.hid hrN6; have HBN6 := Lib.hid (HBN5.out.trans (hbN6.mono HBN5.out.size)); clear hrN6 hbN6; have N6 : True := trivial) | (clear N6; go_at_call 28; refine (mapsR 70 HRN6.out (HFD.out _ (HY.out.trans (HBN6.out.mono HY.out.size))) hmN6).mono ?_; rintro e wN7 ⟨rfl, hbN7⟩; have HON7 := Lib.hid (HON6.out.below hbN7); have HBN7 := Lib.hid (HBN6.out.trans (hbN7.mono HBN6.out.size)); clear hbN7; have N7 : True := trivial) | (clear N7; go_at_call 29; refine (cmapR 1 HON7.out.rb (by omega)).mono ?_; rintro e wN8 ⟨AN8, cN8, mN8, rfl, hrN8, hmN8, hbN8⟩; have HON8 := Lib.hid (HON7.out.below hbN8); have HRN8 := Lib.hid hrN8; have HBN8 := Lib.hid (HBN7.out.trans (hbN8.mono HBN7.out.size)); clear hrN8 hbN8; have N8 : True := trivial) | (clear N8; go_at_call 28; refine (mapsR 70000 HRN8.out (HFD.out _ (HY.out.trans (HBN8.out.mono HY.out.size))) hmN8).mono ?_; rintro e wN9 ⟨rfl, hbN9⟩; have HON9 := Lib.hid (HON8.out.below hbN9); have HBN9 := Lib.hid (HBN8.out.trans (hbN9.mono HBN8.out.size)); clear hbN9; have N9 : True := trivial))
          go_roundw
          case rel => exact ⟨k + 1, by omega, by go_num, HR.out.trans (HBN9.out.mono HR.out.size)⟩
          case measure => simp [intOf] <;> omega
        · have d1 : decide ((k : Int) < 4) = false := decide_eq_false (by omega)
          clear hk hke
          have Z0 : True := trivial; have HBZ0 := Lib.hid (Below.refl wr.heap.size wr)
          go_wp2_with (first | (clear Z0; go_at_call 4; refine (putN (w := wr) ⟨#[72, 72, 72, 72, 73, 72, 72, 73]⟩ [0, 2, 3, 1, 20, 3, 10, 64] 8 20 rfl rfl (by decide) rfl (by decide +kernel)).mono ?_; rintro e wZ1 ⟨AZ1, cZ1, rfl, hoZ1, hbZ1⟩; obtain ⟨qZ1, rfl⟩ := hoZ1.pos (by decide); have hlZ1 := hoZ1.le; have HOZ1 := Lib.hid hoZ1; have hsZ1 := hbZ1.size; have HWZ1 := Lib.hid hbZ1; have HBZ1 := Lib.hid (HBZ0.out.trans (hbZ1.mono HBZ0.out.size)); clear hoZ1 hbZ1; have Z1 : True := trivial) | (clear Z1; at_builtin; refine wpl_appE rfl _ _ 25 rfl Tryz.underlying25 info_u8 wr.heap.size _ _ _ rfl HOZ1.out _ _ _ 64 rfl (HF1.out _ (HY.out.trans (HBZ1.out.mono HY.out.size))) (by rfl) (by omega) HBZ1.out.size ?_; intro AZ2 cZ2 wZ2 hoZ2 hbZ2; obtain ⟨qZ2, rfl⟩ := hoZ2.pos (by decide); have hlZ2 := hoZ2.le; have HOZ2 := Lib.hid hoZ2; have HBZ2 := Lib.hid (HBZ1.out.trans hbZ2); clear hoZ2 hbZ2; have Z2 : True := trivial) | (clear Z2; go_at_call 4; refine (putN (w := wZ2) ⟨#[72, 72, 73, 73, 73, 73, 73, 73]⟩ [12, 0, 28, 0, 1, 100, 101, 3] 8 28 rfl rfl (by decide) rfl (by decide +kernel)).mono ?_; rintro e wZ3 ⟨AZ3, cZ3, rfl, hoZ3, hbZ3⟩; have HOZ3 := Lib.hid (HOZ2.out.below hbZ3); have HRZ3 := Lib.hid hoZ3.rb; have HBZ3 := Lib.hid (HBZ2.out.trans (hbZ3.mono HBZ2.out.size)); clear hoZ3 hbZ3; have Z3 : True := trivial) | (clear Z3; at_builtin; refine wpl_appE rfl _ _ 25 rfl Tryz.underlying25 info_u8 wr.heap.size _ _ _ rfl HOZ3.out _ _ _ 92 rfl HRZ3.out (by rfl) (by omega) HBZ3.out.size ?_; intro AZ4 cZ4 wZ4 hoZ4 hbZ4; obtain ⟨qZ4, rfl⟩ := hoZ4.pos (by decide); have hlZ4 := hoZ4.le; have HOZ4 := Lib.hid hoZ4; have HBZ4 := Lib.hid (HBZ3.out.trans hbZ4); clear hoZ4 hbZ4; have Z4 : True := trivial))
          have HYL := Lib.hid (HY.out.trans (HBZ4.out.mono HY.out.size))
          have hr9 := HOZ4.out.rb
          have HF9 := Lib.hid (fun (W : World) (h : Below wZ4.heap.size wZ4 W) => hr9.below h)
          clear hr9
          go_loopw [10] (fun iv wr => ∃ k : Nat, k ≤ 20 ∧ iv = .int .i64 k ∧ Below wZ4.heap.size wZ4 wr) (fun iv _ => 20 - (intOf iv).toNat)
          case atStart => exact ⟨0, by omega, rfl, Below.refl _ _⟩
          case round =>
            obtain ⟨k, hk, rfl, hbel⟩ := hrel
            have HS := Lib.hid hbel; clear hbel
            have HYY := Lib.hid (HYL.out.trans (HS.out.mono HYL.out.size))
            rcases (show k = 20 ∨ k < 20 by omega) with hke | hlt
            rotate_left
            · have d2 : decide ((k : Int) < 20) = true := decide_eq_true (by omega)
              have b0 : (0 : Int) ≤ (k : Int) := by omega
              have b1 : (k : Int) < 92 := by omega
              have wk : IntKind.i64.wrap ((k : Int) + 1) = ((k + 1 : Nat) : Int) := by rw [IntWalk.i64_in _ (by omega)]; omega
              have T0 : True := trivial; have HBT0 := Lib.hid (Below.refl wr.heap.size wr)
              go_wp2_with (first | (clear T0; at_builtin; refine wpl_copyR (w0 := wr) rfl _ _ 25 rfl Tryz.underlying25 info_u8 rfl rfl _ _ _ rfl (HF9.out _ HS.out) (by omega) ?_; intro AT1 cT1 wT1 hoT1 hbT1; obtain ⟨qT1, rfl⟩ := hoT1.pos (by decide); have hlT1 := hoT1.le; have HOT1 := Lib.hid hoT1; have hsT1 := hbT1.size; have HWT1 := Lib.hid hbT1; have HBT1 := Lib.hid (HBT0.out.trans (hbT1.mono HBT0.out.size)); clear hoT1 hbT1; have T1 : True := trivial) | (clear T1; go_at_call 28; refine (mapsR 70 HOT1.out.rb (HFD.out _ (HYY.out.trans (HBT1.out.mono HYY.out.size))) (by decide)).mono ?_; rintro e wT2 ⟨rfl, hbT2⟩; have HOT2 := Lib.hid (HOT1.out.below hbT2); have HBT2 := Lib.hid (HBT1.out.trans (hbT2.mono HBT1.out.size)); clear hbT2; obtain ⟨qx, hA, -, hqb, hqs, x, hx, hxc, hxf, hxs⟩ := HOT2.out.at_ k (by omega); cases hA; obtain ⟨y, hy, hxy⟩ := xor_lit x hx 1 (by decide) 1 rfl; have HOx := Lib.hid (hxs y hy); have HBx := Lib.hid (HBT2.out.setCell (p := ⟨qT1, k, none⟩) (by exact hqb) (.int .u8 (y : Int))); clear hxs; have T2 : True := trivial) | (clear T2; go_at_call 28; refine (mapsR 70 HOx.out.rb (HFD.out _ (HYY.out.trans (HBx.out.mono HYY.out.size))) (by decide)).mono ?_; rintro e wT3 ⟨rfl, hbT3⟩; have HOT3 := Lib.hid (HOx.out.below hbT3); have HBT3 := Lib.hid (HBx.out.trans (hbT3.mono HBx.out.size)); clear hbT3; have T3 : True := trivial))
              go_roundw
              case rel => exact ⟨k + 1, by omega, by go_num, HS.out.trans (HBT3.out.mono HS.out.size)⟩
              case measure => simp [intOf] <;> omega
            · have d2 : decide ((k : Int) < 20) = false := decide_eq_false (by omega)
              go_wp2_with fail
              go_ret
              exact ⟨rfl, HBG1.out.trans (HYY.out.mono HBG1.out.size)⟩
end Go.Proofs.YtfbppbelcbbhlaaGreatDoor.Sf
