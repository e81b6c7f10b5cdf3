/- The statement's maps12: subtables of the format 12. -/
import Derived.Test.YtfbppbelcbbhlaaGreatDoorKnHeadsK
namespace Go.Proofs.YtfbppbelcbbhlaaGreatDoor.Sf
open Go Go.RowKit

def allocs : World → List Obj → World
  | w, [] => w
  | w, o :: r => allocs (w.alloc o) r
theorem allocs_old : ∀ (l : List Obj) (w : World) (k : Nat), k < w.heap.size → (allocs w l).heap[k]? = w.heap[k]?
  | [], _, _, _ => rfl
  | o :: r, w, k, h => (allocs_old r (w.alloc o) k (by simp; omega)).trans (World.heap_alloc_lt w o h)
theorem allocs_get : ∀ (l : List Obj) (w : World) (i : Nat) (o : Obj), l[i]? = some o → (allocs w l).heap[w.heap.size + i]? = some o
  | [], _, _, _, h => by cases h
  | o' :: r, w, 0, o, h => by
    cases h
    exact (allocs_old r (w.alloc o') w.heap.size (by simp)).trans (heap_alloc_new w o')
  | o' :: r, w, i + 1, o, h => by
    have := allocs_get r (w.alloc o') i o h
    rw [World.size_alloc] at this
    rw [show w.heap.size + (i + 1) = w.heap.size + 1 + i by omega]
    exact this
theorem allocs_below : ∀ (l : List Obj) (w : World), Below w.heap.size w (allocs w l)
  | [], w => Below.refl _ _
  | o :: r, w => ((Below.refl w.heap.size w).alloc (Nat.le_refl _) o).trans ((allocs_below r (w.alloc o)).mono (by simp))
def objs9 (wr : World) : List Obj := [(.cells #[.int .i64 55295, .int .i64 57344, .int .i64 5] 2), (.cells #[.int .i64 1114111, .int .i64 1114111, .int .i64 1] 2), (.cells #[.int .i64 1114111, .int .i64 1114112, .int .i64 1] 2), (.cells #[.int .i64 5, .int .i64 4, .int .i64 1] 2), (.cells #[.int .i64 0, .int .i64 0, .int .i64 1] 2), (.cells #[.int .i64 1, .int .i64 2, .int .i64 65534] 2), (.cells #[.int .i64 1, .int .i64 2, .int .i64 65535] 2), (.cells #[.int .i64 0, .int .i64 4294967295, .int .i64 0] 2), (.cells #[.int .i64 9, .int .i64 9, .int .i64 4294967295] 2), (.cells #[.slice (some ⟨wr.heap.size, 0, none⟩) 3 3, .slice (some ⟨wr.heap.size + 1, 0, none⟩) 3 3, .slice (some ⟨wr.heap.size + 1 + 1, 0, none⟩) 3 3, .slice (some ⟨wr.heap.size + 1 + 1 + 1, 0, none⟩) 3 3, .slice (some ⟨wr.heap.size + 1 + 1 + 1 + 1, 0, none⟩) 3 3, .slice (some ⟨wr.heap.size + 1 + 1 + 1 + 1 + 1, 0, none⟩) 3 3, .slice (some ⟨wr.heap.size + 1 + 1 + 1 + 1 + 1 + 1, 0, none⟩) 3 3, .slice (some ⟨wr.heap.size + 1 + 1 + 1 + 1 + 1 + 1 + 1, 0, none⟩) 3 3, .slice (some ⟨wr.heap.size + 1 + 1 + 1 + 1 + 1 + 1 + 1 + 1, 0, none⟩) 3 3] 34)]
theorem rows9 (wr : World) (k : Nat) (hk : k < 9) : wr.heap.size + 1 + 1 + 1 + 1 + 1 + 1 + 1 + 1 + 1 < (allocs wr (objs9 wr)).heap.size ∧ ∃ (b : Nat) (x y z : Int), b < (allocs wr (objs9 wr)).heap.size ∧ (allocs wr (objs9 wr)).cell? ⟨wr.heap.size + 1 + 1 + 1 + 1 + 1 + 1 + 1 + 1 + 1, k, none⟩ = some (.slice (some ⟨b, 0, none⟩) 3 3) ∧
    (allocs wr (objs9 wr)).cell? ⟨b, 0, none⟩ = some (.int .i64 x) ∧ (allocs wr (objs9 wr)).cell? ⟨b, 1, none⟩ = some (.int .i64 y) ∧ (allocs wr (objs9 wr)).cell? ⟨b, 2, none⟩ = some (.int .i64 z) := by
  have hB := allocs_get (objs9 wr) wr 9 _ rfl
  refine ⟨lt_of_heap hB, ?_⟩
  have hc := fun j => cell_of_blk hB j
  rcases (show k = 0 ∨ k = 1 ∨ k = 2 ∨ k = 3 ∨ k = 4 ∨ k = 5 ∨ k = 6 ∨ k = 7 ∨ k = 8 by omega) with rfl | rfl | rfl | rfl | rfl | rfl | rfl | rfl | rfl
  · have h := allocs_get (objs9 wr) wr 0 _ rfl
    exact ⟨wr.heap.size, _, _, _, lt_of_heap h, hc 0, cell_of_blk h 0, cell_of_blk h 1, cell_of_blk h 2⟩
  · have h := allocs_get (objs9 wr) wr 1 _ rfl
    exact ⟨wr.heap.size + 1, _, _, _, lt_of_heap h, hc 1, cell_of_blk h 0, cell_of_blk h 1, cell_of_blk h 2⟩
  · have h := allocs_get (objs9 wr) wr 2 _ rfl
    exact ⟨wr.heap.size + 1 + 1, _, _, _, lt_of_heap h, hc 2, cell_of_blk h 0, cell_of_blk h 1, cell_of_blk h 2⟩
  · have h := allocs_get (objs9 wr) wr 3 _ rfl
    exact ⟨wr.heap.size + 1 + 1 + 1, _, _, _, lt_of_heap h, hc 3, cell_of_blk h 0, cell_of_blk h 1, cell_of_blk h 2⟩
  · have h := allocs_get (objs9 wr) wr 4 _ rfl
    exact ⟨wr.heap.size + 1 + 1 + 1 + 1, _, _, _, lt_of_heap h, hc 4, cell_of_blk h 0, cell_of_blk h 1, cell_of_blk h 2⟩
  · have h := allocs_get (objs9 wr) wr 5 _ rfl
    exact ⟨wr.heap.size + 1 + 1 + 1 + 1 + 1, _, _, _, lt_of_heap h, hc 5, cell_of_blk h 0, cell_of_blk h 1, cell_of_blk h 2⟩
  · have h := allocs_get (objs9 wr) wr 6 _ rfl
    exact ⟨wr.heap.size + 1 + 1 + 1 + 1 + 1 + 1, _, _, _, lt_of_heap h, hc 6, cell_of_blk h 0, cell_of_blk h 1, cell_of_blk h 2⟩
  · have h := allocs_get (objs9 wr) wr 7 _ rfl
    exact ⟨wr.heap.size + 1 + 1 + 1 + 1 + 1 + 1 + 1, _, _, _, lt_of_heap h, hc 7, cell_of_blk h 0, cell_of_blk h 1, cell_of_blk h 2⟩
  · have h := allocs_get (objs9 wr) wr 8 _ rfl
    exact ⟨wr.heap.size + 1 + 1 + 1 + 1 + 1 + 1 + 1 + 1, _, _, _, lt_of_heap h, hc 8, cell_of_blk h 0, cell_of_blk h 1, cell_of_blk h 2⟩
set_option maxRecDepth 100000 in
set_option maxHeartbeats 4000000 in
theorem maps12_known (w : World) (hd : HdVar w) : Calls Tryz.prog 11 #[] w fun e w' => e = .returned (.bool true) ∧ Below w.heap.size w w' := by
  have HD := Lib.hid hd
  clear hd
  go_enter Tryz.func11, Tryz.ntmps11
  have G0 : True := trivial; have HBG0 := Lib.hid (Below.refl w.heap.size w)
  go_wp2_with (first | (clear G0; go_at_call 4; refine (putN (w := w) ⟨#[72, 72, 73, 73, 73, 73, 73, 73, 73, 73, 73]⟩ [12, 0, 40, 0, 2, 65, 67, 5, 70, 70, 0] 11 40 rfl rfl (by decide) rfl (by decide +kernel)).mono ?_; rintro e wG1 ⟨AG1, cG1, rfl, hoG1, hbG1⟩; obtain ⟨qG1, rfl⟩ := hoG1.pos (by decide); have hlG1 := hoG1.le; have HOG1 := Lib.hid hoG1; have hsG1 := hbG1.size; have HWG1 := Lib.hid hbG1; have HBG1 := Lib.hid (HBG0.out.trans (hbG1.mono HBG0.out.size)); clear hoG1 hbG1; have G1 : True := trivial))
  have hr1 := HOG1.out.rb
  have hrd := HD.out.kept (kept_of_below HBG1.out)
  have HF1 := Lib.hid (fun (W : World) (h : Below wG1.heap.size wG1 W) => hr1.below h)
  have HFD := Lib.hid (fun (W : World) (h : Below wG1.heap.size wG1 W) => hrd.kept (kept_of_below h))
  clear hr1 hrd
  go_loopw [2] (fun iv wr => ∃ (i : Int) (k : Nat), k ≤ 41 ∧ i = (k : Int) - 1 ∧ iv = .int .i64 i ∧ Below wG1.heap.size wG1 wr) (fun iv _ => 41 - (intOf iv + 1).toNat)
  case atStart => exact ⟨-1, 0, by omega, by omega, rfl, Below.refl _ _⟩
  case round =>
    obtain ⟨i, k, hk, hi, rfl, hbel⟩ := hrel
    have HB := Lib.hid hbel; clear hbel
    have HY := Lib.hid HB.out
    rcases (show k = 41 ∨ k = 0 ∨ (0 < k ∧ k < 41) by omega) with hke | h0 | ⟨hk0, hlt⟩
    rotate_left
    · have hi1 : i = -1 := by omega
      subst hi1
      clear hi
      have L0 : True := trivial; have HBL0 := Lib.hid (Below.refl wr.heap.size wr)
      go_wp2_with (first | (clear L0; at_builtin; refine wpl_copyR (w0 := wr) rfl _ _ 25 rfl Tryz.underlying25 info_u8 rfl rfl _ _ _ rfl (HF1.out _ HB.out) (by omega) ?_; intro AL1 cL1 wL1 hoL1 hbL1; obtain ⟨qL1, rfl⟩ := hoL1.pos (by decide); have hlL1 := hoL1.le; have HOL1 := Lib.hid hoL1; have hsL1 := hbL1.size; have HWL1 := Lib.hid hbL1; have HBL1 := Lib.hid (HBL0.out.trans (hbL1.mono HBL0.out.size)); clear hoL1 hbL1; have L1 : True := trivial) | (clear L1; go_at_call 29; refine (cmapR 10 HOL1.out.rb (by omega)).mono ?_; rintro e wL2 ⟨AL2, cL2, mL2, rfl, hrL2, hmL2, hbL2⟩; have HOL2 := Lib.hid (HOL1.out.below hbL2); have HRL2 := Lib.hid hrL2; have HBL2 := Lib.hid (HBL1.out.trans (hbL2.mono HBL1.out.size)); clear hrL2 hbL2; have L2 : True := trivial) | (clear L2; go_at_call 28; refine (mapsR 9 HRL2.out (HFD.out _ (HY.out.trans (HBL2.out.mono HY.out.size))) hmL2).mono ?_; rintro e wL3 ⟨rfl, hbL3⟩; have HOL3 := Lib.hid (HOL2.out.below hbL3); have HBL3 := Lib.hid (HBL2.out.trans (hbL3.mono HBL2.out.size)); clear hbL3; have L3 : True := trivial) | (clear L3; go_at_call 29; refine (cmapR 10 HOL3.out.rb (by omega)).mono ?_; rintro e wL4 ⟨AL4, cL4, mL4, rfl, hrL4, hmL4, hbL4⟩; have HOL4 := Lib.hid (HOL3.out.below hbL4); have HRL4 := Lib.hid hrL4; have HBL4 := Lib.hid (HBL3.out.trans (hbL4.mono HBL3.out.size)); clear hrL4 hbL4; have L4 : True := trivial) | (clear L4; go_at_call 28; refine (mapsR 7 HRL4.out (HFD.out _ (HY.out.trans (HBL4.out.mono HY.out.size))) hmL4).mono ?_; rintro e wL5 ⟨rfl, hbL5⟩; have HOL5 := Lib.hid (HOL4.out.below hbL5); have HBL5 := Lib.hid (HBL4.out.trans (hbL5.mono HBL4.out.size)); clear hbL5; have L5 : True := trivial) | (clear L5; go_at_call 29; refine (cmapR 1 HOL5.out.rb (by omega)).mono ?_; rintro e wL6 ⟨AL6, cL6, mL6, rfl, hrL6, hmL6, hbL6⟩; have HOL6 := Lib.hid (HOL5.out.below hbL6); have HRL6 := Lib.hid hrL6; have HBL6 := Lib.hid (HBL5.out.trans (hbL6.mono HBL5.out.size)); clear hrL6 hbL6; have L6 : True := trivial) | (clear L6; go_at_call 28; refine (mapsR 9 HRL6.out (HFD.out _ (HY.out.trans (HBL6.out.mono HY.out.size))) hmL6).mono ?_; rintro e wL7 ⟨rfl, hbL7⟩; have HOL7 := Lib.hid (HOL6.out.below hbL7); have HBL7 := Lib.hid (HBL6.out.trans (hbL7.mono HBL6.out.size)); clear hbL7; have L7 : True := trivial))
      go_roundw
      case rel => exact ⟨0, 1, by omega, by omega, by go_num, HB.out.trans (HBL7.out.mono HB.out.size)⟩
      case measure => simp [intOf] <;> omega
    · obtain ⟨j, hj⟩ : ∃ j : Nat, i = (j : Int) := ⟨k - 1, by omega⟩
      subst hj
      have hjk : k = j + 1 := by omega
      have hj40 : j < 40 := by omega
      clear hi hk hk0 hlt hjk
      have d1 : decide ((j : Int) < 40) = true := decide_eq_true (by omega)
      have b0 : (0 : Int) ≤ (j : Int) := by omega
      have b1 : (j : Int) < 40 := by omega
      have b2 : (j : Int) ≤ (cG1 : Int) := by omega
      have d2 : decide ((j : Int) ≥ 0) = true := decide_eq_true (by omega)
      have wk : IntKind.i64.wrap ((j : Int) + 1) = ((j + 1 : Nat) : Int) := by rw [IntWalk.i64_in _ (by omega)]; omega
      have M0 : True := trivial; have HBM0 := Lib.hid (Below.refl wr.heap.size wr)
      go_wp2_with (first | (clear M0; at_builtin; refine wpl_copyR (w0 := wr) rfl _ _ 25 rfl Tryz.underlying25 info_u8 rfl rfl _ _ _ rfl (HF1.out _ HB.out) (by omega) ?_; intro AM1 cM1 wM1 hoM1 hbM1; obtain ⟨qM1, rfl⟩ := hoM1.pos (by decide); have hlM1 := hoM1.le; have HOM1 := Lib.hid hoM1; have hsM1 := hbM1.size; have HWM1 := Lib.hid hbM1; have HBM1 := Lib.hid (HBM0.out.trans (hbM1.mono HBM0.out.size)); clear hoM1 hbM1; obtain ⟨qx, hA, -, hqb, hqs, x, hx, hxc, hxf, hxs⟩ := HOM1.out.at_ j hj40; cases hA; obtain ⟨y, hy, hxy⟩ := xor_lit x hx 4 (by decide) 4 rfl; have HOx := Lib.hid (hxs y hy); have HBx := Lib.hid (HBM1.out.setCell (p := ⟨qM1, j, none⟩) (by exact hqb) (.int .u8 (y : Int))); clear hxs; have M1 : True := trivial) | (clear M1; go_at_call 29; refine (cmapR 10 HOx.out.rb (by omega)).mono ?_; rintro e wM2 ⟨AM2, cM2, mM2, rfl, hrM2, hmM2, hbM2⟩; have HOM2 := Lib.hid (HOx.out.below hbM2); have HRM2 := Lib.hid hrM2; have HBM2 := Lib.hid (HBx.out.trans (hbM2.mono HBx.out.size)); clear hrM2 hbM2; have M2 : True := trivial) | (clear M2; go_at_call 28; refine (mapsR 9 HRM2.out (HFD.out _ (HY.out.trans (HBM2.out.mono HY.out.size))) hmM2).mono ?_; rintro e wM3 ⟨rfl, hbM3⟩; have HOM3 := Lib.hid (HOM2.out.below hbM3); have HBM3 := Lib.hid (HBM2.out.trans (hbM3.mono HBM2.out.size)); clear hbM3; have M3 : True := trivial) | (clear M3; go_at_call 29; refine (cmapR 10 HOM3.out.rb (by omega)).mono ?_; rintro e wM4 ⟨AM4, cM4, mM4, rfl, hrM4, hmM4, hbM4⟩; have HOM4 := Lib.hid (HOM3.out.below hbM4); have HRM4 := Lib.hid hrM4; have HBM4 := Lib.hid (HBM3.out.trans (hbM4.mono HBM3.out.size)); clear hrM4 hbM4; have M4 : True := trivial) | (clear M4; go_at_call 28; refine (mapsR 7 HRM4.out (HFD.out _ (HY.out.trans (HBM4.out.mono HY.out.size))) hmM4).mono ?_; rintro e wM5 ⟨rfl, hbM5⟩; have HOM5 := Lib.hid (HOM4.out.below hbM5); have HBM5 := Lib.hid (HBM4.out.trans (hbM5.mono HBM4.out.size)); clear hbM5; have M5 : True := trivial) | (clear M5; go_at_call 29; refine (cmapR 1 HOM5.out.rb (by omega)).mono ?_; rintro e wM6 ⟨AM6, cM6, mM6, rfl, hrM6, hmM6, hbM6⟩; have HOM6 := Lib.hid (HOM5.out.below hbM6); have HRM6 := Lib.hid hrM6; have HBM6 := Lib.hid (HBM5.out.trans (hbM6.mono HBM5.out.size)); clear hrM6 hbM6; have M6 : True := trivial) | (clear M6; go_at_call 28; refine (mapsR 9 HRM6.out (HFD.out _ (HY.out.trans (HBM6.out.mono HY.out.size))) hmM6).mono ?_; rintro e wM7 ⟨rfl, hbM7⟩; have HOM7 := Lib.hid (HOM6.out.below hbM7); have HBM7 := Lib.hid (HBM6.out.trans (hbM7.mono HBM6.out.size)); clear hbM7; have M7 : True := trivial) | (clear M7; go_at_call 29; refine (cmapR 10 ((HF1.out _ (HY.out.trans (HBM7.out.mono HY.out.size))).take j (by omega)) (by omega)).mono ?_; rintro e wM8 ⟨AM8, cM8, mM8, rfl, hrM8, hmM8, hbM8⟩; have HRM8 := Lib.hid hrM8; have HBM8 := Lib.hid (HBM7.out.trans (hbM8.mono HBM7.out.size)); clear hrM8 hbM8; have M8 : True := trivial) | (clear M8; go_at_call 28; refine (mapsR 9 HRM8.out (HFD.out _ (HY.out.trans (HBM8.out.mono HY.out.size))) hmM8).mono ?_; rintro e wM9 ⟨rfl, hbM9⟩; have HBM9 := Lib.hid (HBM8.out.trans (hbM9.mono HBM8.out.size)); clear hbM9; have M9 : True := trivial))
      go_roundw
      case rel => exact ⟨((j + 1 : Nat) : Int), j + 2, by omega, by omega, by go_num, HB.out.trans (HBM9.out.mono HB.out.size)⟩
      case measure => simp [intOf] <;> omega
    · have hi1 : i = 40 := by omega
      subst hi1
      clear hi hk hke
      go_wp2_with fail
      have hg : ∀ k, k < 9 → wr.heap.size + 1 + 1 + 1 + 1 + 1 + 1 + 1 + 1 + 1 < ((((((((((wr.alloc (.cells #[.int .i64 55295, .int .i64 57344, .int .i64 5] 2)).alloc (.cells #[.int .i64 1114111, .int .i64 1114111, .int .i64 1] 2)).alloc (.cells #[.int .i64 1114111, .int .i64 1114112, .int .i64 1] 2)).alloc (.cells #[.int .i64 5, .int .i64 4, .int .i64 1] 2)).alloc (.cells #[.int .i64 0, .int .i64 0, .int .i64 1] 2)).alloc (.cells #[.int .i64 1, .int .i64 2, .int .i64 65534] 2)).alloc (.cells #[.int .i64 1, .int .i64 2, .int .i64 65535] 2)).alloc (.cells #[.int .i64 0, .int .i64 4294967295, .int .i64 0] 2)).alloc (.cells #[.int .i64 9, .int .i64 9, .int .i64 4294967295] 2)).alloc (.cells #[.slice (some ⟨wr.heap.size, 0, none⟩) 3 3, .slice (some ⟨wr.heap.size + 1, 0, none⟩) 3 3, .slice (some ⟨wr.heap.size + 1 + 1, 0, none⟩) 3 3, .slice (some ⟨wr.heap.size + 1 + 1 + 1, 0, none⟩) 3 3, .slice (some ⟨wr.heap.size + 1 + 1 + 1 + 1, 0, none⟩) 3 3, .slice (some ⟨wr.heap.size + 1 + 1 + 1 + 1 + 1, 0, none⟩) 3 3, .slice (some ⟨wr.heap.size + 1 + 1 + 1 + 1 + 1 + 1, 0, none⟩) 3 3, .slice (some ⟨wr.heap.size + 1 + 1 + 1 + 1 + 1 + 1 + 1, 0, none⟩) 3 3, .slice (some ⟨wr.heap.size + 1 + 1 + 1 + 1 + 1 + 1 + 1 + 1, 0, none⟩) 3 3] 34)).heap.size ∧ ∃ (b : Nat) (x y z : Int), b < ((((((((((wr.alloc (.cells #[.int .i64 55295, .int .i64 57344, .int .i64 5] 2)).alloc (.cells #[.int .i64 1114111, .int .i64 1114111, .int .i64 1] 2)).alloc (.cells #[.int .i64 1114111, .int .i64 1114112, .int .i64 1] 2)).alloc (.cells #[.int .i64 5, .int .i64 4, .int .i64 1] 2)).alloc (.cells #[.int .i64 0, .int .i64 0, .int .i64 1] 2)).alloc (.cells #[.int .i64 1, .int .i64 2, .int .i64 65534] 2)).alloc (.cells #[.int .i64 1, .int .i64 2, .int .i64 65535] 2)).alloc (.cells #[.int .i64 0, .int .i64 4294967295, .int .i64 0] 2)).alloc (.cells #[.int .i64 9, .int .i64 9, .int .i64 4294967295] 2)).alloc (.cells #[.slice (some ⟨wr.heap.size, 0, none⟩) 3 3, .slice (some ⟨wr.heap.size + 1, 0, none⟩) 3 3, .slice (some ⟨wr.heap.size + 1 + 1, 0, none⟩) 3 3, .slice (some ⟨wr.heap.size + 1 + 1 + 1, 0, none⟩) 3 3, .slice (some ⟨wr.heap.size + 1 + 1 + 1 + 1, 0, none⟩) 3 3, .slice (some ⟨wr.heap.size + 1 + 1 + 1 + 1 + 1, 0, none⟩) 3 3, .slice (some ⟨wr.heap.size + 1 + 1 + 1 + 1 + 1 + 1, 0, none⟩) 3 3, .slice (some ⟨wr.heap.size + 1 + 1 + 1 + 1 + 1 + 1 + 1, 0, none⟩) 3 3, .slice (some ⟨wr.heap.size + 1 + 1 + 1 + 1 + 1 + 1 + 1 + 1, 0, none⟩) 3 3] 34)).heap.size ∧ ((((((((((wr.alloc (.cells #[.int .i64 55295, .int .i64 57344, .int .i64 5] 2)).alloc (.cells #[.int .i64 1114111, .int .i64 1114111, .int .i64 1] 2)).alloc (.cells #[.int .i64 1114111, .int .i64 1114112, .int .i64 1] 2)).alloc (.cells #[.int .i64 5, .int .i64 4, .int .i64 1] 2)).alloc (.cells #[.int .i64 0, .int .i64 0, .int .i64 1] 2)).alloc (.cells #[.int .i64 1, .int .i64 2, .int .i64 65534] 2)).alloc (.cells #[.int .i64 1, .int .i64 2, .int .i64 65535] 2)).alloc (.cells #[.int .i64 0, .int .i64 4294967295, .int .i64 0] 2)).alloc (.cells #[.int .i64 9, .int .i64 9, .int .i64 4294967295] 2)).alloc (.cells #[.slice (some ⟨wr.heap.size, 0, none⟩) 3 3, .slice (some ⟨wr.heap.size + 1, 0, none⟩) 3 3, .slice (some ⟨wr.heap.size + 1 + 1, 0, none⟩) 3 3, .slice (some ⟨wr.heap.size + 1 + 1 + 1, 0, none⟩) 3 3, .slice (some ⟨wr.heap.size + 1 + 1 + 1 + 1, 0, none⟩) 3 3, .slice (some ⟨wr.heap.size + 1 + 1 + 1 + 1 + 1, 0, none⟩) 3 3, .slice (some ⟨wr.heap.size + 1 + 1 + 1 + 1 + 1 + 1, 0, none⟩) 3 3, .slice (some ⟨wr.heap.size + 1 + 1 + 1 + 1 + 1 + 1 + 1, 0, none⟩) 3 3, .slice (some ⟨wr.heap.size + 1 + 1 + 1 + 1 + 1 + 1 + 1 + 1, 0, none⟩) 3 3] 34)).cell? ⟨wr.heap.size + 1 + 1 + 1 + 1 + 1 + 1 + 1 + 1 + 1, k, none⟩ = some (.slice (some ⟨b, 0, none⟩) 3 3) ∧ ((((((((((wr.alloc (.cells #[.int .i64 55295, .int .i64 57344, .int .i64 5] 2)).alloc (.cells #[.int .i64 1114111, .int .i64 1114111, .int .i64 1] 2)).alloc (.cells #[.int .i64 1114111, .int .i64 1114112, .int .i64 1] 2)).alloc (.cells #[.int .i64 5, .int .i64 4, .int .i64 1] 2)).alloc (.cells #[.int .i64 0, .int .i64 0, .int .i64 1] 2)).alloc (.cells #[.int .i64 1, .int .i64 2, .int .i64 65534] 2)).alloc (.cells #[.int .i64 1, .int .i64 2, .int .i64 65535] 2)).alloc (.cells #[.int .i64 0, .int .i64 4294967295, .int .i64 0] 2)).alloc (.cells #[.int .i64 9, .int .i64 9, .int .i64 4294967295] 2)).alloc (.cells #[.slice (some ⟨wr.heap.size, 0, none⟩) 3 3, .slice (some ⟨wr.heap.size + 1, 0, none⟩) 3 3, .slice (some ⟨wr.heap.size + 1 + 1, 0, none⟩) 3 3, .slice (some ⟨wr.heap.size + 1 + 1 + 1, 0, none⟩) 3 3, .slice (some ⟨wr.heap.size + 1 + 1 + 1 + 1, 0, none⟩) 3 3, .slice (some ⟨wr.heap.size + 1 + 1 + 1 + 1 + 1, 0, none⟩) 3 3, .slice (some ⟨wr.heap.size + 1 + 1 + 1 + 1 + 1 + 1, 0, none⟩) 3 3, .slice (some ⟨wr.heap.size + 1 + 1 + 1 + 1 + 1 + 1 + 1, 0, none⟩) 3 3, .slice (some ⟨wr.heap.size + 1 + 1 + 1 + 1 + 1 + 1 + 1 + 1, 0, none⟩) 3 3] 34)).cell? ⟨b, 0, none⟩ = some (.int .i64 x) ∧ ((((((((((wr.alloc (.cells #[.int .i64 55295, .int .i64 57344, .int .i64 5] 2)).alloc (.cells #[.int .i64 1114111, .int .i64 1114111, .int .i64 1] 2)).alloc (.cells #[.int .i64 1114111, .int .i64 1114112, .int .i64 1] 2)).alloc (.cells #[.int .i64 5, .int .i64 4, .int .i64 1] 2)).alloc (.cells #[.int .i64 0, .int .i64 0, .int .i64 1] 2)).alloc (.cells #[.int .i64 1, .int .i64 2, .int .i64 65534] 2)).alloc (.cells #[.int .i64 1, .int .i64 2, .int .i64 65535] 2)).alloc (.cells #[.int .i64 0, .int .i64 4294967295, .int .i64 0] 2)).alloc (.cells #[.int .i64 9, .int .i64 9, .int .i64 4294967295] 2)).alloc (.cells #[.slice (some ⟨wr.heap.size, 0, none⟩) 3 3, .slice (some ⟨wr.heap.size + 1, 0, none⟩) 3 3, .slice (some ⟨wr.heap.size + 1 + 1, 0, none⟩) 3 3, .slice (some ⟨wr.heap.size + 1 + 1 + 1, 0, none⟩) 3 3, .slice (some ⟨wr.heap.size + 1 + 1 + 1 + 1, 0, none⟩) 3 3, .slice (some ⟨wr.heap.size + 1 + 1 + 1 + 1 + 1, 0, none⟩) 3 3, .slice (some ⟨wr.heap.size + 1 + 1 + 1 + 1 + 1 + 1, 0, none⟩) 3 3, .slice (some ⟨wr.heap.size + 1 + 1 + 1 + 1 + 1 + 1 + 1, 0, none⟩) 3 3, .slice (some ⟨wr.heap.size + 1 + 1 + 1 + 1 + 1 + 1 + 1 + 1, 0, none⟩) 3 3] 34)).cell? ⟨b, 1, none⟩ = some (.int .i64 y) ∧ ((((((((((wr.alloc (.cells #[.int .i64 55295, .int .i64 57344, .int .i64 5] 2)).alloc (.cells #[.int .i64 1114111, .int .i64 1114111, .int .i64 1] 2)).alloc (.cells #[.int .i64 1114111, .int .i64 1114112, .int .i64 1] 2)).alloc (.cells #[.int .i64 5, .int .i64 4, .int .i64 1] 2)).alloc (.cells #[.int .i64 0, .int .i64 0, .int .i64 1] 2)).alloc (.cells #[.int .i64 1, .int .i64 2, .int .i64 65534] 2)).alloc (.cells #[.int .i64 1, .int .i64 2, .int .i64 65535] 2)).alloc (.cells #[.int .i64 0, .int .i64 4294967295, .int .i64 0] 2)).alloc (.cells #[.int .i64 9, .int .i64 9, .int .i64 4294967295] 2)).alloc (.cells #[.slice (some ⟨wr.heap.size, 0, none⟩) 3 3, .slice (some ⟨wr.heap.size + 1, 0, none⟩) 3 3, .slice (some ⟨wr.heap.size + 1 + 1, 0, none⟩) 3 3, .slice (some ⟨wr.heap.size + 1 + 1 + 1, 0, none⟩) 3 3, .slice (some ⟨wr.heap.size + 1 + 1 + 1 + 1, 0, none⟩) 3 3, .slice (some ⟨wr.heap.size + 1 + 1 + 1 + 1 + 1, 0, none⟩) 3 3, .slice (some ⟨wr.heap.size + 1 + 1 + 1 + 1 + 1 + 1, 0, none⟩) 3 3, .slice (some ⟨wr.heap.size + 1 + 1 + 1 + 1 + 1 + 1 + 1, 0, none⟩) 3 3, .slice (some ⟨wr.heap.size + 1 + 1 + 1 + 1 + 1 + 1 + 1 + 1, 0, none⟩) 3 3] 34)).cell? ⟨b, 2, none⟩ = some (.int .i64 z) := rows9 wr
      have hbb : Below wr.heap.size wr ((((((((((wr.alloc (.cells #[.int .i64 55295, .int .i64 57344, .int .i64 5] 2)).alloc (.cells #[.int .i64 1114111, .int .i64 1114111, .int .i64 1] 2)).alloc (.cells #[.int .i64 1114111, .int .i64 1114112, .int .i64 1] 2)).alloc (.cells #[.int .i64 5, .int .i64 4, .int .i64 1] 2)).alloc (.cells #[.int .i64 0, .int .i64 0, .int .i64 1] 2)).alloc (.cells #[.int .i64 1, .int .i64 2, .int .i64 65534] 2)).alloc (.cells #[.int .i64 1, .int .i64 2, .int .i64 65535] 2)).alloc (.cells #[.int .i64 0, .int .i64 4294967295, .int .i64 0] 2)).alloc (.cells #[.int .i64 9, .int .i64 9, .int .i64 4294967295] 2)).alloc (.cells #[.slice (some ⟨wr.heap.size, 0, none⟩) 3 3, .slice (some ⟨wr.heap.size + 1, 0, none⟩) 3 3, .slice (some ⟨wr.heap.size + 1 + 1, 0, none⟩) 3 3, .slice (some ⟨wr.heap.size + 1 + 1 + 1, 0, none⟩) 3 3, .slice (some ⟨wr.heap.size + 1 + 1 + 1 + 1, 0, none⟩) 3 3, .slice (some ⟨wr.heap.size + 1 + 1 + 1 + 1 + 1, 0, none⟩) 3 3, .slice (some ⟨wr.heap.size + 1 + 1 + 1 + 1 + 1 + 1, 0, none⟩) 3 3, .slice (some ⟨wr.heap.size + 1 + 1 + 1 + 1 + 1 + 1 + 1, 0, none⟩) 3 3, .slice (some ⟨wr.heap.size + 1 + 1 + 1 + 1 + 1 + 1 + 1 + 1, 0, none⟩) 3 3] 34)) := allocs_below (objs9 wr) wr
      generalize ((((((((((wr.alloc (.cells #[.int .i64 55295, .int .i64 57344, .int .i64 5] 2)).alloc (.cells #[.int .i64 1114111, .int .i64 1114111, .int .i64 1] 2)).alloc (.cells #[.int .i64 1114111, .int .i64 1114112, .int .i64 1] 2)).alloc (.cells #[.int .i64 5, .int .i64 4, .int .i64 1] 2)).alloc (.cells #[.int .i64 0, .int .i64 0, .int .i64 1] 2)).alloc (.cells #[.int .i64 1, .int .i64 2, .int .i64 65534] 2)).alloc (.cells #[.int .i64 1, .int .i64 2, .int .i64 65535] 2)).alloc (.cells #[.int .i64 0, .int .i64 4294967295, .int .i64 0] 2)).alloc (.cells #[.int .i64 9, .int .i64 9, .int .i64 4294967295] 2)).alloc (.cells #[.slice (some ⟨wr.heap.size, 0, none⟩) 3 3, .slice (some ⟨wr.heap.size + 1, 0, none⟩) 3 3, .slice (some ⟨wr.heap.size + 1 + 1, 0, none⟩) 3 3, .slice (some ⟨wr.heap.size + 1 + 1 + 1, 0, none⟩) 3 3, .slice (some ⟨wr.heap.size + 1 + 1 + 1 + 1, 0, none⟩) 3 3, .slice (some ⟨wr.heap.size + 1 + 1 + 1 + 1 + 1, 0, none⟩) 3 3, .slice (some ⟨wr.heap.size + 1 + 1 + 1 + 1 + 1 + 1, 0, none⟩) 3 3, .slice (some ⟨wr.heap.size + 1 + 1 + 1 + 1 + 1 + 1 + 1, 0, none⟩) 3 3, .slice (some ⟨wr.heap.size + 1 + 1 + 1 + 1 + 1 + 1 + 1 + 1, 0, none⟩) 3 3] 34)) = w9 at *
      generalize wr.heap.size + 1 + 1 + 1 + 1 + 1 + 1 + 1 + 1 + 1 = b9 at *
      have HG := Lib.hid hg
      have HB9 := Lib.hid (HB.out.trans (hbb.mono HB.out.size))
      clear hg hbb
      go_loopw [66] (fun iv wr => ∃ k : Nat, k ≤ 9 ∧ iv = .int .i64 k ∧ Below w9.heap.size w9 wr) (fun iv _ => 9 - (intOf iv).toNat)
      case atStart => exact ⟨0, by omega, rfl, Below.refl _ _⟩
      case round =>
        obtain ⟨k, hk, rfl, hbel⟩ := hrel
        have HR := Lib.hid hbel; clear hbel
        have HY := Lib.hid (HB9.out.trans (HR.out.mono HB9.out.size))
        rcases (show k = 9 ∨ k < 9 by omega) with hke | hlt
        rotate_left
        · obtain ⟨hB, b, x, y, z, hb, c0, c1, c2, c3⟩ := HG.out k hlt
          have e0 : wr.cell? ⟨b9, k, none⟩ = some (.slice (some ⟨b, 0, none⟩) 3 3) := (HR.out.cell (p := ⟨b9, k, none⟩) hB).trans c0
          have e1 : wr.cell? ⟨b, 0, none⟩ = some (.int .i64 x) := (HR.out.cell (p := ⟨b, 0, none⟩) hb).trans c1
          have P0 : ∀ W, Below wr.heap.size wr W → W.cell? ⟨b, 0, none⟩ = some (.int .i64 x) := fun W hW => (kept_of_below hW).cell e1
          have e2 : wr.cell? ⟨b, 1, none⟩ = some (.int .i64 y) := (HR.out.cell (p := ⟨b, 1, none⟩) hb).trans c2
          have P1 : ∀ W, Below wr.heap.size wr W → W.cell? ⟨b, 1, none⟩ = some (.int .i64 y) := fun W hW => (kept_of_below hW).cell e2
          have e3 : wr.cell? ⟨b, 2, none⟩ = some (.int .i64 z) := (HR.out.cell (p := ⟨b, 2, none⟩) hb).trans c3
          have P2 : ∀ W, Below wr.heap.size wr W → W.cell? ⟨b, 2, none⟩ = some (.int .i64 z) := fun W hW => (kept_of_below hW).cell e3
          have HP0 := Lib.hid P0; have HP1 := Lib.hid P1; have HP2 := Lib.hid P2
          have d1 : decide ((k : Int) < 9) = true := decide_eq_true (by omega)
          have b0 : (0 : Int) ≤ (k : Int) := by omega
          have b1 : (k : Int) < 9 := by omega
          clear hB hb c0 c1 c2 c3 e1 e2 e3 P0 P1 P2
          go_upto_region 13 with (fail)
          refine wp_region_held_drew (S := fun W => Below wr.heap.size wr W) (by kernel_rfl) ((Below.refl _ _).drew) (fun hHeld => ?_)
          have HH := Lib.hid hHeld
          generalize wr.drew = w0 at *
          refine heldTake 0 70 (v := ?_) rfl rfl (by kernel_rfl) (by kernel_rfl) (by kernel_rfl) (fun _ _ _ h => h) (Or.inl ⟨by rfl, ?_⟩) (by assumption) ?_
          rotate_left
          · intro W hSW
            go_simp
            try with_reducible rfl
          simp only [Act.put, List.setIfInBounds_toArray, List.set_cons_zero, List.set_cons_succ]
          refine heldTake 1 71 (v := ?_) rfl rfl (by kernel_rfl) (by kernel_rfl) (by kernel_rfl) (fun _ _ _ h => h) (Or.inl ⟨by rfl, ?_⟩) (by assumption) ?_
          rotate_left
          · intro W hSW
            go_simp
            try with_reducible rfl
          simp only [Act.put, List.setIfInBounds_toArray, List.set_cons_zero, List.set_cons_succ]
          refine heldTake 2 72 (v := ?_) rfl rfl (by kernel_rfl) (by kernel_rfl) (by kernel_rfl) (fun _ _ _ h => h) (Or.inl ⟨by rfl, ?_⟩) (by assumption) ?_
          rotate_left
          · intro W hSW
            have hp := HP0.out W hSW
            go_simp
            try with_reducible rfl
          simp only [Act.put, List.setIfInBounds_toArray, List.set_cons_zero, List.set_cons_succ]
          refine heldTake 3 73 (v := ?_) rfl rfl (by kernel_rfl) (by kernel_rfl) (by kernel_rfl) (fun _ _ _ h => h) (Or.inl ⟨by rfl, ?_⟩) (by assumption) ?_
          rotate_left
          · intro W hSW
            go_simp
            try with_reducible rfl
          simp only [Act.put, List.setIfInBounds_toArray, List.set_cons_zero, List.set_cons_succ]
          refine heldTake 4 74 (v := ?_) rfl rfl (by kernel_rfl) (by kernel_rfl) (by kernel_rfl) (fun _ _ _ h => h) (Or.inl ⟨by rfl, ?_⟩) (by assumption) ?_
          rotate_left
          · intro W hSW
            go_simp
            try with_reducible rfl
          simp only [Act.put, List.setIfInBounds_toArray, List.set_cons_zero, List.set_cons_succ]
          refine heldTake 5 75 (v := ?_) rfl rfl (by kernel_rfl) (by kernel_rfl) (by kernel_rfl) (fun _ _ _ h => h) (Or.inl ⟨by rfl, ?_⟩) (by assumption) ?_
          rotate_left
          · intro W hSW
            have hp := HP1.out W hSW
            go_simp
            try with_reducible rfl
          simp only [Act.put, List.setIfInBounds_toArray, List.set_cons_zero, List.set_cons_succ]
          refine heldTake 6 76 (v := ?_) rfl rfl (by kernel_rfl) (by kernel_rfl) (by kernel_rfl) (fun _ _ _ h => h) (Or.inl ⟨by rfl, ?_⟩) (by assumption) ?_
          rotate_left
          · intro W hSW
            go_simp
            try with_reducible rfl
          simp only [Act.put, List.setIfInBounds_toArray, List.set_cons_zero, List.set_cons_succ]
          refine heldTake 7 77 (v := ?_) rfl rfl (by kernel_rfl) (by kernel_rfl) (by kernel_rfl) (fun _ _ _ h => h) (Or.inl ⟨by rfl, ?_⟩) (by assumption) ?_
          rotate_left
          · intro W hSW
            go_simp
            try with_reducible rfl
          simp only [Act.put, List.setIfInBounds_toArray, List.set_cons_zero, List.set_cons_succ]
          refine heldTake 8 78 (v := ?_) rfl rfl (by kernel_rfl) (by kernel_rfl) (by kernel_rfl) (fun _ _ _ h => h) (Or.inl ⟨by rfl, ?_⟩) (by assumption) ?_
          rotate_left
          · intro W hSW
            have hp := HP2.out W hSW
            go_simp
            try with_reducible rfl
          simp only [Act.put, List.setIfInBounds_toArray, List.set_cons_zero, List.set_cons_succ]
          refine wpAnyH_ready (rs := [9]) (by kernel_rfl) (by simp) ?_
          refine AllReadyH.cons rfl (fun K1 hK1 => ?_) AllReadyH.nil
          go_simp
          have hS1 := hHeld.alloc hHeld.size (.cells #[.int .i64 12, .int .i64 0, .int .i64 28, .int .i64 0, .int .i64 1, .int .i64 x, .int .i64 y, .int .i64 z] 2)
          refine hK1.out _ _ (hS1) (fun hHeld1 => ?_)
          clear hK1 K1
          try simp only [Act.put, List.setIfInBounds_toArray, List.set_cons_zero, List.set_cons_succ]
          refine wpAnyH_ready (rs := [10]) (by kernel_rfl) (by simp) ?_
          refine AllReadyH.cons rfl (fun K1 hK1 => ?_) AllReadyH.nil
          go_simp
          refine (putM (w := w0) ⟨#[72, 72, 73, 73, 73, 73, 73, 73]⟩ [12, 0, 28, 0, 1, x, y, z] 8 rfl rfl (by simp) rfl).mono ?_
          rintro e w2 ⟨A2, c2, m2, rfl, hm2, ho2, hb2⟩
          have hS2 := hHeld.trans (hb2.mono hHeld.size)
          have HR2 := Lib.hid ho2.rb; clear ho2 hb2
          refine hK1.out _ _ (hS2) (fun hHeld2 => ?_)
          clear hK1 K1
          try simp only [Act.put, List.setIfInBounds_toArray, List.set_cons_zero, List.set_cons_succ]
          refine wpAnyH_ready (rs := [11]) (by kernel_rfl) (by simp) ?_
          refine AllReadyH.cons rfl (fun K1 hK1 => ?_) AllReadyH.nil
          go_simp
          refine (cmapR 10 HR2.out (by omega)).mono ?_
          rintro e w3 ⟨A3, c3, m3, rfl, hr3, hm3, hb3⟩
          have hS3 := hS2.trans (hb3.mono hS2.size)
          have HR3 := Lib.hid hr3; clear hr3 hb3
          refine hK1.out _ _ (hS3) (fun hHeld3 => ?_)
          clear hK1 K1
          try simp only [Act.put, List.setIfInBounds_toArray, List.set_cons_zero, List.set_cons_succ]
          refine wpAnyH_ready (rs := [12]) (by kernel_rfl) (by simp) ?_
          refine AllReadyH.cons rfl (fun K1 hK1 => ?_) AllReadyH.nil
          go_simp
          refine (mapsR 65535 HR3.out (HFD.out _ (HY.out.trans (hS3.mono HY.out.size))) hm3).mono ?_
          rintro e w4 ⟨rfl, hb4⟩
          have hS4 := hS3.trans (hb4.mono hS3.size)
          clear hb4
          refine hK1.out _ _ (hS4) (fun hHeld4 => ?_)
          clear hK1 K1
          try simp only [Act.put, List.setIfInBounds_toArray, List.set_cons_zero, List.set_cons_succ]
          refine heldTake 13 83 (v := ?_) rfl rfl (by kernel_rfl) (by kernel_rfl) (by kernel_rfl) (fun _ _ _ h => h) (Or.inl ⟨by rfl, ?_⟩) (by assumption) ?_
          rotate_left
          · intro W hSW
            go_simp
            try with_reducible rfl
          simp only [Act.put, List.setIfInBounds_toArray, List.set_cons_zero, List.set_cons_succ]
          refine heldTake 14 84 (v := ?_) rfl rfl (by kernel_rfl) (by kernel_rfl) (by kernel_rfl) (fun _ _ _ h => h) (Or.inl ⟨by rfl, ?_⟩) (by assumption) ?_
          rotate_left
          · intro W hSW
            go_simp
            try with_reducible rfl
          simp only [Act.put, List.setIfInBounds_toArray, List.set_cons_zero, List.set_cons_succ]
          refine heldTake 15 85 (v := ?_) rfl rfl (by kernel_rfl) (by kernel_rfl) (by kernel_rfl) (fun _ _ _ h => h) (Or.inl ⟨by rfl, ?_⟩) (by assumption) ?_
          rotate_left
          · intro W hSW
            go_simp
            try with_reducible rfl
          simp only [Act.put, List.setIfInBounds_toArray, List.set_cons_zero, List.set_cons_succ]
          refine heldTake 16 86 (v := ?_) rfl rfl (by kernel_rfl) (by kernel_rfl) (by kernel_rfl) (fun _ _ _ h => h) (Or.inl ⟨by rfl, ?_⟩) (by assumption) ?_
          rotate_left
          · intro W hSW
            go_simp
            try with_reducible rfl
          simp only [Act.put, List.setIfInBounds_toArray, List.set_cons_zero, List.set_cons_succ]
          refine heldTake 17 87 (v := ?_) rfl rfl (by kernel_rfl) (by kernel_rfl) (by kernel_rfl) (fun _ _ _ h => h) (Or.inl ⟨by rfl, ?_⟩) (by assumption) ?_
          rotate_left
          · intro W hSW
            have hp := HP0.out W hSW
            go_simp
            try with_reducible rfl
          simp only [Act.put, List.setIfInBounds_toArray, List.set_cons_zero, List.set_cons_succ]
          refine heldTake 18 88 (v := ?_) rfl rfl (by kernel_rfl) (by kernel_rfl) (by kernel_rfl) (fun _ _ _ h => h) (Or.inl ⟨by rfl, ?_⟩) (by assumption) ?_
          rotate_left
          · intro W hSW
            go_simp
            try with_reducible rfl
          simp only [Act.put, List.setIfInBounds_toArray, List.set_cons_zero, List.set_cons_succ]
          refine heldTake 19 89 (v := ?_) rfl rfl (by kernel_rfl) (by kernel_rfl) (by kernel_rfl) (fun _ _ _ h => h) (Or.inl ⟨by rfl, ?_⟩) (by assumption) ?_
          rotate_left
          · intro W hSW
            go_simp
            try with_reducible rfl
          simp only [Act.put, List.setIfInBounds_toArray, List.set_cons_zero, List.set_cons_succ]
          refine heldTake 20 90 (v := ?_) rfl rfl (by kernel_rfl) (by kernel_rfl) (by kernel_rfl) (fun _ _ _ h => h) (Or.inl ⟨by rfl, ?_⟩) (by assumption) ?_
          rotate_left
          · intro W hSW
            have hp := HP1.out W hSW
            go_simp
            try with_reducible rfl
          simp only [Act.put, List.setIfInBounds_toArray, List.set_cons_zero, List.set_cons_succ]
          refine heldTake 21 91 (v := ?_) rfl rfl (by kernel_rfl) (by kernel_rfl) (by kernel_rfl) (fun _ _ _ h => h) (Or.inl ⟨by rfl, ?_⟩) (by assumption) ?_
          rotate_left
          · intro W hSW
            go_simp
            try with_reducible rfl
          simp only [Act.put, List.setIfInBounds_toArray, List.set_cons_zero, List.set_cons_succ]
          refine heldTake 22 92 (v := ?_) rfl rfl (by kernel_rfl) (by kernel_rfl) (by kernel_rfl) (fun _ _ _ h => h) (Or.inl ⟨by rfl, ?_⟩) (by assumption) ?_
          rotate_left
          · intro W hSW
            go_simp
            try with_reducible rfl
          simp only [Act.put, List.setIfInBounds_toArray, List.set_cons_zero, List.set_cons_succ]
          refine heldTake 23 93 (v := ?_) rfl rfl (by kernel_rfl) (by kernel_rfl) (by kernel_rfl) (fun _ _ _ h => h) (Or.inl ⟨by rfl, ?_⟩) (by assumption) ?_
          rotate_left
          · intro W hSW
            have hp := HP2.out W hSW
            go_simp
            try with_reducible rfl
          simp only [Act.put, List.setIfInBounds_toArray, List.set_cons_zero, List.set_cons_succ]
          refine wpAnyH_ready (rs := [24]) (by kernel_rfl) (by simp) ?_
          refine AllReadyH.cons rfl (fun K1 hK1 => ?_) AllReadyH.nil
          go_simp
          have hS5 := hS4.alloc hS4.size (.cells #[.int .i64 12, .int .i64 0, .int .i64 40, .int .i64 0, .int .i64 2, .int .i64 3, .int .i64 4, .int .i64 1, .int .i64 x, .int .i64 y, .int .i64 z] 2)
          refine hK1.out _ _ (hS5) (fun hHeld5 => ?_)
          clear hK1 K1
          try simp only [Act.put, List.setIfInBounds_toArray, List.set_cons_zero, List.set_cons_succ]
          refine wpAnyH_ready (rs := [25]) (by kernel_rfl) (by simp) ?_
          refine AllReadyH.cons rfl (fun K1 hK1 => ?_) AllReadyH.nil
          go_simp
          refine (putM (w := w4) ⟨#[72, 72, 73, 73, 73, 73, 73, 73, 73, 73, 73]⟩ [12, 0, 40, 0, 2, 3, 4, 1, x, y, z] 11 rfl rfl (by simp) rfl).mono ?_
          rintro e w6 ⟨A6, c6, m6, rfl, hm6, ho6, hb6⟩
          have hS6 := hS4.trans (hb6.mono hS4.size)
          have HR6 := Lib.hid ho6.rb; clear ho6 hb6
          refine hK1.out _ _ (hS6) (fun hHeld6 => ?_)
          clear hK1 K1
          try simp only [Act.put, List.setIfInBounds_toArray, List.set_cons_zero, List.set_cons_succ]
          refine wpAnyH_ready (rs := [26]) (by kernel_rfl) (by simp) ?_
          refine AllReadyH.cons rfl (fun K1 hK1 => ?_) AllReadyH.nil
          go_simp
          refine (cmapR 10 HR6.out (by omega)).mono ?_
          rintro e w7 ⟨A7, c7, m7, rfl, hr7, hm7, hb7⟩
          have hS7 := hS6.trans (hb7.mono hS6.size)
          have HR7 := Lib.hid hr7; clear hr7 hb7
          refine hK1.out _ _ (hS7) (fun hHeld7 => ?_)
          clear hK1 K1
          try simp only [Act.put, List.setIfInBounds_toArray, List.set_cons_zero, List.set_cons_succ]
          refine wpAnyH_ready (rs := [27]) (by kernel_rfl) (by simp) ?_
          refine AllReadyH.cons rfl (fun K1 hK1 => ?_) AllReadyH.nil
          go_simp
          refine (mapsR 65536 HR7.out (HFD.out _ (HY.out.trans (hS7.mono HY.out.size))) hm7).mono ?_
          rintro e w8 ⟨rfl, hb8⟩
          have hS8 := hS7.trans (hb8.mono hS7.size)
          clear hb8
          refine hK1.out _ _ (hS8) (fun hHeld8 => ?_)
          clear hK1 K1
          try simp only [Act.put, List.setIfInBounds_toArray, List.set_cons_zero, List.set_cons_succ]
          refine heldTake 28 98 (v := ?_) rfl rfl (by kernel_rfl) (by kernel_rfl) (by kernel_rfl) (fun _ _ _ h => h) (Or.inl ⟨by rfl, ?_⟩) (by assumption) ?_
          rotate_left
          · intro W hSW
            go_simp
            try with_reducible rfl
          simp only [Act.put, List.setIfInBounds_toArray, List.set_cons_zero, List.set_cons_succ]
          refine heldTake 29 99 (v := ?_) rfl rfl (by kernel_rfl) (by kernel_rfl) (by kernel_rfl) (fun _ _ _ h => h) (Or.inl ⟨by rfl, ?_⟩) (by assumption) ?_
          rotate_left
          · intro W hSW
            go_simp
            try with_reducible rfl
          simp only [Act.put, List.setIfInBounds_toArray, List.set_cons_zero, List.set_cons_succ]
          refine wpAnyH_done (by kernel_rfl) ?_ _
          have wk : IntKind.i64.wrap ((k : Int) + 1) = ((k + 1 : Nat) : Int) := by rw [IntWalk.i64_in _ (by omega)]; omega
          have HX := Lib.hid (HR.out.trans (hS8.mono HR.out.size))
          go_wp2_with fail
          go_roundw
          case rel => exact ⟨k + 1, by omega, by go_num, HX.out⟩
          case measure => simp [intOf] <;> omega
        · have d1 : decide ((k : Int) < 9) = false := decide_eq_false (by omega)
          have Z0 : True := trivial; have HBZ0 := Lib.hid (Below.refl wr.heap.size wr)
          go_wp2_with (first | (clear Z0; go_at_call 28; refine (mapsR 5 RB.zero (HFD.out _ (HY.out.trans (HBZ0.out.mono HY.out.size))) (by decide)).mono ?_; rintro e wZ1 ⟨rfl, hbZ1⟩; have HBZ1 := Lib.hid (HBZ0.out.trans (hbZ1.mono HBZ0.out.size)); clear hbZ1; have Z1 : True := trivial) | (clear Z1; go_at_call 28; refine (mapsR 5 (RB.ofList [0, 0, 0, 0] wZ1 (by decide) (by decide)) (HFD.out _ (HY.out.trans ((HBZ1.out.alloc HBZ1.out.size _).mono HY.out.size))) (by decide)).mono ?_; rintro e wZ2 ⟨rfl, hbZ2⟩; have HBZ2 := Lib.hid ((HBZ1.out.alloc HBZ1.out.size _).trans (hbZ2.mono (HBZ1.out.alloc HBZ1.out.size _).size)); clear hbZ2; have Z2 : True := trivial))
          go_ret
          have hy := HY.out.trans (HBZ2.out.mono HY.out.size)
          exact ⟨rfl, HBG1.out.trans (hy.mono HBG1.out.size)⟩
end Go.Proofs.YtfbppbelcbbhlaaGreatDoor.Sf
