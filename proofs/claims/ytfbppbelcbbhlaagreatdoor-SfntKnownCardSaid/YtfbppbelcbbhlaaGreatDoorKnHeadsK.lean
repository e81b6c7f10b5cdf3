/- The statement's heads: tables of widths, the table head. -/
import Derived.Test.YtfbppbelcbbhlaaGreatDoorKnTablesK
namespace Go.Proofs.YtfbppbelcbbhlaaGreatDoor.Sf
open Go Go.RowKit

theorem OB.pos {W : World} {base : Nat} {A : Option Addr} {c n : Nat} (h : OB W base A c n) (hn : 0 < n) : ∃ q, A = some ⟨q, 0, none⟩ := by
  obtain ⟨q, hA, -⟩ := h.at_ 0 hn
  exact ⟨q, hA⟩
theorem RB.ofListAt (l : List Nat) (W : World) (b : Nat) (hb : W.heap.size = b) (hlt : ∀ x ∈ l, x < 256) (hm : l.length ≤ 9223372036854775807) : RB (W.alloc (.cells (u8s l).toArray 5)) (some ⟨b, 0, none⟩) l.length l.length := by
  subst hb
  exact RB.ofList l W hlt hm
theorem xor_ex (x y : Nat) (hx : x < 256) (hy : y < 256) : ∃ z : Nat, z < 256 ∧ bits .xor .u8 (x : Int) (y : Int) = (z : Int) :=
  ⟨x ^^^ y, Nat.xor_lt_two_pow (n := 8) hx hy, u8_xor_nat x y hx hy⟩
theorem xor_lit (x : Nat) (hx : x < 256) (y : Nat) (hy : y < 256) (c : Int) (hc : c = (y : Int)) : ∃ z : Nat, z < 256 ∧ bits .xor .u8 (x : Int) c = (z : Int) := by
  subst hc
  exact xor_ex x y hx hy
theorem putM1 {w : World} (s : ByteArray) (x : Int) (hs : 1 = s.size) :
    Calls Tryz.prog 4 #[.string s, .slice (some ⟨w.heap.size, 0, none⟩) 1 1] (w.alloc (.cells #[.int .i64 x] 2)) fun e w' => ∃ A' c' m, e = .returned (.slice A' m c') ∧ m ≤ 4 ∧ OB w' w.heap.size A' c' m ∧ Below w.heap.size w w' :=
  putM s [x] 1 rfl rfl (by simp) hs
theorem wpl_zerS {P : Program} {w : World} {ops : Array Oper} {rest : List Oper} {o : Oper} {a : Act} {Q : Exit → Act → World → Prop} (hgd : Region.wanted o (yielded ops a.tmps) = true) (s x : Operand) (t tn u : TypeId)
    (ho : o.op = .call { callee := .builtin .append, args := #[s, x], argTypes := #[t, tn] }) (ht : P.underlying t = some (.slice 5)) (htn : P.underlying tn = some (.int .i64)) (hu : P.underlying u = some .string) (hinfo : (P.info? 5).map (fun i => (i.zero, i.size, i.bytes)) = some (some (.int .u8 0), 1, 1))
    (base : Nat) (A0 : Option Addr) (c0 n0 : Nat) (hs : a.eval s = .slice A0 n0 c0) (hown : OB w base A0 c0 n0) (k m : Nat) (hk : 0 < k) (hm : n0 + k = m) (hx : a.eval x = .int .i64 (k : Int)) (hlen : n0 + k ≤ 140737488355328) (hbase : base ≤ w.heap.size)
    (h : ∀ A' c' w', OB w' base A' c' m → Below base w w' → wpList P ops Q rest (a.put o.dst (.slice A' m c')) w') : wpList P ops Q (o :: rest) a w := by
  subst hm
  exact wpl_zerR hgd s x t tn u ho ht htn hu hinfo base A0 c0 n0 hs hown k hk hx hlen hbase h
def ns7 : Array Value := #[.int .i64 0, .int .i64 15, .int .i64 16, .int .i64 1000, .int .i64 16384, .int .i64 16385, .int .i64 65535]
theorem ns7_get (k : Nat) (h : k < 7) : ∃ x : Int, ns7[k]? = some (.int .i64 x) := by
  rcases (show k = 0 ∨ k = 1 ∨ k = 2 ∨ k = 3 ∨ k = 4 ∨ k = 5 ∨ k = 6 by omega) with rfl | rfl | rfl | rfl | rfl | rfl | rfl <;> exact ⟨_, rfl⟩
set_option maxRecDepth 100000 in
set_option maxHeartbeats 4000000 in
theorem heads_known (w : World) (hd : HdVar w) : Calls Tryz.prog 9 #[] w fun e w' => e = .returned (.bool true) ∧ Below w.heap.size w w' := by
  have HD := Lib.hid hd
  clear hd
  go_enter Tryz.func9, Tryz.ntmps9
  have G0 : True := trivial; have HBG0 := Lib.hid (Below.refl w.heap.size w)
  go_upto_region 4 with (first | (clear G0; go_at_call 4; refine (putN (w := w) ⟨#[73, 73, 73, 73, 72, 72]⟩ [65536, 0, 0, 1594834165, 0, 16] 6 20 rfl rfl (by decide) rfl (by decide +kernel)).mono ?_; rintro e wG1 ⟨AG1, cG1, rfl, hoG1, hbG1⟩; obtain ⟨qG1, rfl⟩ := hoG1.pos (by decide); have hlG1 := hoG1.le; have HOG1 := Lib.hid hoG1; have hsG1 := hbG1.size; have HWG1 := Lib.hid hbG1; have HBG1 := Lib.hid (HBG0.out.trans (hbG1.mono HBG0.out.size)); clear hoG1 hbG1; have G1 : True := trivial) | (clear G1; at_builtin; refine wpl_zerS rfl _ _ 25 3 9 rfl Tryz.underlying25 Tryz.underlying3 Tryz.underlying9 info_u8 w.heap.size _ _ _ rfl HOG1.out 34 54 (by decide) rfl rfl (by omega) hsG1 ?_; intro AG2 cG2 wG2 hoG2 hbG2; obtain ⟨qG2, rfl⟩ := hoG2.pos (by decide); have hlG2 := hoG2.le; have HOG2 := Lib.hid hoG2; have hsG2 := Nat.le_trans hsG1 hbG2.size; have HWG2 := Lib.hid (HWG1.out.trans hbG2); have HBG2 := Lib.hid (HBG1.out.trans (hbG2.mono HBG0.out.size)); clear hoG2 hbG2; have G2 : True := trivial) | (clear G2; go_at_call 4; refine (putN (w := wG2) ⟨#[73, 72]⟩ [20480, 2] 2 6 rfl rfl (by decide) rfl (by decide +kernel)).mono ?_; rintro e wG3 ⟨AG3, cG3, rfl, hoG3, hbG3⟩; obtain ⟨qG3, rfl⟩ := hoG3.pos (by decide); have hlG3 := hoG3.le; have HOG3 := Lib.hid hoG3; have hsG3 := hbG3.size; have HWG3 := Lib.hid hbG3; have HBG3 := Lib.hid (HBG2.out.trans (hbG3.mono HBG2.out.size)); clear hoG3 hbG3; have G3 : True := trivial) | (clear G3; go_at_call 4; refine (putN (w := wG3) ⟨#[73, 104, 104]⟩ [65536, 800, -200] 3 8 rfl rfl (by decide) rfl (by decide +kernel)).mono ?_; rintro e wG4 ⟨AG4, cG4, rfl, hoG4, hbG4⟩; obtain ⟨qG4, rfl⟩ := hoG4.pos (by decide); have hlG4 := hoG4.le; have HOG4 := Lib.hid hoG4; have hsG4 := hbG4.size; have HWG4 := Lib.hid hbG4; have HBG4 := Lib.hid (HBG3.out.trans (hbG4.mono HBG3.out.size)); clear hoG4 hbG4; have G4 : True := trivial) | (clear G4; at_builtin; refine wpl_zerS rfl _ _ 25 3 9 rfl Tryz.underlying25 Tryz.underlying3 Tryz.underlying9 info_u8 wG3.heap.size _ _ _ rfl HOG4.out 28 36 (by decide) rfl rfl (by omega) hsG4 ?_; intro AG5 cG5 wG5 hoG5 hbG5; obtain ⟨qG5, rfl⟩ := hoG5.pos (by decide); have hlG5 := hoG5.le; have HOG5 := Lib.hid hoG5; have hsG5 := Nat.le_trans hsG4 hbG5.size; have HWG5 := Lib.hid (HWG4.out.trans hbG5); have HBG5 := Lib.hid (HBG4.out.trans (hbG5.mono HBG3.out.size)); clear hoG5 hbG5; have G5 : True := trivial))
  obtain ⟨q, hA, hnc, hqb, hqs, x, hx, hxc, hxf, hxs⟩ := HOG5.out.at_ 35 (by decide)
  cases hA
  have hst := hxs 1 (by decide)
  have hbs := (Below.refl wG3.heap.size wG5).setCell (p := ⟨qG5, 35, none⟩) (by exact hqb) (.int .u8 1)
  have HST := Lib.hid (show OB (wG5.setCell ⟨qG5, 35, none⟩ (.int .u8 1)) wG3.heap.size (some ⟨qG5, 0, none⟩) cG5 36 from hst)
  have HBS := Lib.hid (HWG5.out.trans hbs)
  clear hst hbs hxs hx
  go_upto_region 6 with fail
  have hal := (Below.refl (wG5.setCell ⟨qG5, 35, none⟩ (.int .u8 1)).heap.size (wG5.setCell ⟨qG5, 35, none⟩ (.int .u8 1))).alloc (Nat.le_refl _) (.cells #[.int .u8 1, .int .u8 244, .int .u8 0, .int .u8 0, .int .u8 0, .int .u8 5] 5)
  have hr4 : RB ((wG5.setCell ⟨qG5, 35, none⟩ (.int .u8 1)).alloc (.cells #[.int .u8 1, .int .u8 244, .int .u8 0, .int .u8 0, .int .u8 0, .int .u8 5] 5)) (some ⟨(wG5.setCell ⟨qG5, 35, none⟩ (.int .u8 1)).heap.size, 0, none⟩) 6 6 := RB.ofList [1, 244, 0, 0, 0, 5] _ (by decide) (by decide)
  have hr3 := HST.out.rb.below hal
  have hrb := HBS.out.trans (hal.mono HBS.out.size)
  have hr2 := HOG3.out.rb.below hrb
  have hr1 := (HOG2.out.rb.below HWG3.out).below hrb
  have hrw := HBG3.out.trans (hrb.mono HBG3.out.size)
  have hrd := HD.out.kept (kept_of_below hrw)
  simp only [World.size_setCell] at hr4 hal
  generalize hq4 : wG5.heap.size = q4 at *
  generalize (wG5.setCell ⟨qG5, 35, none⟩ (.int .u8 1)).alloc (.cells #[.int .u8 1, .int .u8 244, .int .u8 0, .int .u8 0, .int .u8 0, .int .u8 5] 5) = wy at *
  have HF1 := Lib.hid (fun (W : World) (h : Below wy.heap.size wy W) => hr1.below h)
  have HF2 := Lib.hid (fun (W : World) (h : Below wy.heap.size wy W) => hr2.below h)
  have HF3 := Lib.hid (fun (W : World) (h : Below wy.heap.size wy W) => hr3.below h)
  have HF4 := Lib.hid (fun (W : World) (h : Below wy.heap.size wy W) => hr4.below h)
  have HFD := Lib.hid (fun (W : World) (h : Below wy.heap.size wy W) => hrd.kept (kept_of_below h))
  have HRW := Lib.hid hrw
  have l2 := hr2.le; have l3 := hr3.le; clear hr1 hr2 hr3 hr4 hrb hrd hrw hal HST HBS
  have i2 : (5 : Int) ≤ (cG3 : Int) := by omega
  have i3 : (35 : Int) ≤ (cG5 : Int) := by omega
  have K0 : True := trivial; have HBK0 := Lib.hid (Below.refl wy.heap.size wy)
  go_wp2_with (first | (clear K0; go_at_call 25; refine (widR (HF2.out _ HBK0.out) (HF3.out _ HBK0.out) (HF4.out _ HBK0.out) (HFD.out _ HBK0.out) (by decide) (by decide) (by decide)).mono ?_; rintro e wK1 ⟨rfl, hbK1⟩; have HBK1 := Lib.hid (HBK0.out.trans (hbK1.mono HBK0.out.size)); clear hbK1; have K1 : True := trivial) | (clear K1; go_at_call 4; refine (putN (w := wK1) ⟨#[73, 72]⟩ [65536, 2] 2 6 rfl rfl (by decide) rfl (by decide +kernel)).mono ?_; rintro e wK2 ⟨AK2, cK2, rfl, hoK2, hbK2⟩; obtain ⟨qK2, rfl⟩ := hoK2.pos (by decide); have hlK2 := hoK2.le; have HOK2 := Lib.hid hoK2; have hsK2 := hbK2.size; have HWK2 := Lib.hid hbK2; have HBK2 := Lib.hid (HBK1.out.trans (hbK2.mono HBK1.out.size)); clear hoK2 hbK2; have K2 : True := trivial) | (clear K2; at_builtin; refine wpl_zerS rfl _ _ 25 3 9 rfl Tryz.underlying25 Tryz.underlying3 Tryz.underlying9 info_u8 wK1.heap.size _ _ _ rfl HOK2.out 26 32 (by decide) rfl rfl (by omega) hsK2 ?_; intro AK3 cK3 wK3 hoK3 hbK3; obtain ⟨qK3, rfl⟩ := hoK3.pos (by decide); have hlK3 := hoK3.le; have HOK3 := Lib.hid hoK3; have hsK3 := Nat.le_trans hsK2 hbK3.size; have HWK3 := Lib.hid (HWK2.out.trans hbK3); have HBK3 := Lib.hid (HBK2.out.trans (hbK3.mono HBK1.out.size)); clear hoK3 hbK3; have K3 : True := trivial) | (clear K3; go_at_call 25; refine (widR HOK3.out.rb (HF3.out _ HBK3.out) (HF4.out _ HBK3.out) (HFD.out _ HBK3.out) (by decide) (by decide) (by decide)).mono ?_; rintro e wK4 ⟨rfl, hbK4⟩; have HBK4 := Lib.hid (HBK3.out.trans (hbK4.mono HBK3.out.size)); clear hbK4; have K4 : True := trivial) | (clear K4; go_at_call 4; refine (putN (w := wK4) ⟨#[73, 72]⟩ [65536, 2] 2 6 rfl rfl (by decide) rfl (by decide +kernel)).mono ?_; rintro e wK5 ⟨AK5, cK5, rfl, hoK5, hbK5⟩; obtain ⟨qK5, rfl⟩ := hoK5.pos (by decide); have hlK5 := hoK5.le; have HOK5 := Lib.hid hoK5; have hsK5 := hbK5.size; have HWK5 := Lib.hid hbK5; have HBK5 := Lib.hid (HBK4.out.trans (hbK5.mono HBK4.out.size)); clear hoK5 hbK5; have K5 : True := trivial) | (clear K5; at_builtin; refine wpl_zerS rfl _ _ 25 3 9 rfl Tryz.underlying25 Tryz.underlying3 Tryz.underlying9 info_u8 wK4.heap.size _ _ _ rfl HOK5.out 25 31 (by decide) rfl rfl (by omega) hsK5 ?_; intro AK6 cK6 wK6 hoK6 hbK6; obtain ⟨qK6, rfl⟩ := hoK6.pos (by decide); have hlK6 := hoK6.le; have HOK6 := Lib.hid hoK6; have hsK6 := Nat.le_trans hsK5 hbK6.size; have HWK6 := Lib.hid (HWK5.out.trans hbK6); have HBK6 := Lib.hid (HBK5.out.trans (hbK6.mono HBK4.out.size)); clear hoK6 hbK6; have K6 : True := trivial) | (clear K6; go_at_call 25; refine (widR HOK6.out.rb (HF3.out _ HBK6.out) (HF4.out _ HBK6.out) (HFD.out _ HBK6.out) (by decide) (by decide) (by decide)).mono ?_; rintro e wK7 ⟨rfl, hbK7⟩; have HBK7 := Lib.hid (HBK6.out.trans (hbK7.mono HBK6.out.size)); clear hbK7; have K7 : True := trivial) | (clear K7; go_at_call 25; refine (widR (HF2.out _ HBK7.out) (HF3.out _ HBK7.out) ((HF4.out _ HBK7.out).take 5 (by decide)) (HFD.out _ HBK7.out) (by decide) (by decide) (by decide)).mono ?_; rintro e wK8 ⟨rfl, hbK8⟩; have HBK8 := Lib.hid (HBK7.out.trans (hbK8.mono HBK7.out.size)); clear hbK8; have K8 : True := trivial) | (clear K8; go_at_call 25; refine (widR ((HF2.out _ HBK8.out).take 5 (by decide)) (HF3.out _ HBK8.out) (HF4.out _ HBK8.out) (HFD.out _ HBK8.out) (by decide) (by decide) (by decide)).mono ?_; rintro e wK9 ⟨rfl, hbK9⟩; have HBK9 := Lib.hid (HBK8.out.trans (hbK9.mono HBK8.out.size)); clear hbK9; have K9 : True := trivial) | (clear K9; go_at_call 25; refine (widR (HF2.out _ HBK9.out) ((HF3.out _ HBK9.out).take 35 (by decide)) (HF4.out _ HBK9.out) (HFD.out _ HBK9.out) (by decide) (by decide) (by decide)).mono ?_; rintro e wK10 ⟨rfl, hbK10⟩; have HBK10 := Lib.hid (HBK9.out.trans (hbK10.mono HBK9.out.size)); clear hbK10; have K10 : True := trivial) | (clear K10; go_at_call 25; refine (widR RB.zero RB.zero RB.zero (HFD.out _ HBK10.out) (by decide) (by decide) (by decide)).mono ?_; rintro e wK11 ⟨rfl, hbK11⟩; have HBK11 := Lib.hid (HBK10.out.trans (hbK11.mono HBK10.out.size)); clear hbK11; have K11 : True := trivial))
  have hz : (wK11.alloc (.cells #[.int .i64 0, .int .i64 15, .int .i64 16, .int .i64 1000, .int .i64 16384, .int .i64 16385, .int .i64 65535] 2)).heap[wK11.heap.size]? = some (.cells ns7 2 (0, 0)) := heap_alloc_new wK11 (.cells #[.int .i64 0, .int .i64 15, .int .i64 16, .int .i64 1000, .int .i64 16384, .int .i64 16385, .int .i64 65535] 2)
  have HBZ := Lib.hid (HBK11.out.alloc HBK11.out.size (.cells #[.int .i64 0, .int .i64 15, .int .i64 16, .int .i64 1000, .int .i64 16384, .int .i64 16385, .int .i64 65535] 2))
  generalize hb7 : wK11.heap.size = b7 at *
  generalize wK11.alloc (.cells #[.int .i64 0, .int .i64 15, .int .i64 16, .int .i64 1000, .int .i64 16384, .int .i64 16385, .int .i64 65535] 2) = wz at *
  have HZ := Lib.hid hz
  clear hz
  go_loopw [78] (fun iv wr => ∃ k : Nat, k ≤ 7 ∧ iv = .int .i64 k ∧ Below wz.heap.size wz wr) (fun iv _ => 7 - (intOf iv).toNat)
  case atStart => exact ⟨0, by omega, rfl, Below.refl _ _⟩
  case round =>
    obtain ⟨k, hk, rfl, hbel⟩ := hrel
    have HB := Lib.hid hbel; clear hbel
    rcases (show k = 7 ∨ k < 7 by omega) with hke | hlt
    rotate_left
    · obtain ⟨x, hx⟩ := ns7_get k hlt
      have hc : wr.cell? ⟨b7, k, none⟩ = some (.int .i64 x) := ((HB.out.cell (p := ⟨b7, k, none⟩) (lt_of_heap HZ.out)).trans (cell_of_blk HZ.out k)).trans hx
      have HY := Lib.hid (HBZ.out.trans (HB.out.mono HBZ.out.size))
      have d1 : decide ((k : Int) < 7) = true := decide_eq_true (by omega)
      have b0 : (0 : Int) ≤ (k : Int) := by omega
      have b1 : (k : Int) < 7 := by omega
      have wk : IntKind.i64.wrap ((k : Int) + 1) = ((k + 1 : Nat) : Int) := by rw [IntWalk.i64_in _ (by omega)]; omega
      clear hx
      have L0 : True := trivial; have HBL0 := Lib.hid (Below.refl wr.heap.size wr)
      go_wp2_with (first | (clear L0; at_builtin; refine wpl_copyR (w0 := wr) rfl _ _ 25 rfl Tryz.underlying25 info_u8 rfl rfl _ _ _ rfl (HF1.out _ HY.out) (by omega) ?_; intro AL1 cL1 wL1 hoL1 hbL1; obtain ⟨qL1, rfl⟩ := hoL1.pos (by decide); have hlL1 := hoL1.le; have HOL1 := Lib.hid hoL1; have hsL1 := hbL1.size; have HWL1 := Lib.hid hbL1; have HBL1 := Lib.hid (HBL0.out.trans (hbL1.mono HBL0.out.size)); clear hoL1 hbL1; have hi53 : (53 : Int) ≤ (cL1 : Int) := (by omega); have L1 : True := trivial) | (clear L1; go_at_call 4; refine (putM1 (w := wL1) ⟨#[72]⟩ _ rfl).mono ?_; rintro e wL2 ⟨PL2, pL2, mL2, rfl, hmL2, hpL2, hbL2⟩; have HOL2 := Lib.hid (HOL1.out.below hbL2); have HPL2 := Lib.hid hpL2; have HBL2 := Lib.hid (HBL1.out.trans (hbL2.mono HBL1.out.size)); clear hpL2 hbL2; have L2 : True := trivial) | (clear L2; go_at_call 26; refine (copyR 18 HOL2.out HPL2.out HOL1.out.lt (by omega) (by decide)).mono ?_; rintro e wL3 ⟨rfl, hoL3, hbL3⟩; have HOL3 := Lib.hid hoL3; have HBL3 := Lib.hid (HBL2.out.trans (hbL3.mono HBL0.out.size)); clear hoL3 hbL3; have L3 : True := trivial) | (clear L3; go_at_call 27; refine (headsR HOL3.out.rb (HFD.out _ (HY.out.trans (HBL3.out.mono HY.out.size)))).mono ?_; rintro e wL4 ⟨rfl, hbL4⟩; have HOL4 := Lib.hid (HOL3.out.below hbL4); have HBL4 := Lib.hid (HBL3.out.trans (hbL4.mono HBL3.out.size)); clear hbL4; have L4 : True := trivial) | (clear L4; go_at_call 27; refine (headsR (HOL4.out.rb.take 53 (by decide)) (HFD.out _ (HY.out.trans (HBL4.out.mono HY.out.size)))).mono ?_; rintro e wL5 ⟨rfl, hbL5⟩; have HOL5 := Lib.hid (HOL4.out.below hbL5); have HBL5 := Lib.hid (HBL4.out.trans (hbL5.mono HBL4.out.size)); clear hbL5; have L5 : True := trivial) | (clear L5; at_builtin; refine wpl_appK rfl _ _ 25 rfl Tryz.underlying25 info_u8 wr.heap.size _ _ _ rfl (HOL5.out.below ((Below.refl _ _).alloc (Nat.le_refl _) _)) (by decide) _ _ _ rfl (RB.ofList [0] wL5 (by decide) (by decide)) (by first | omega | (simp; omega)) (Nat.le_trans HBL5.out.size (by simp)) ?_; intro AL6 cL6 wL6 hrL6 hoL6 hbL6; have HOL6 := Lib.hid hoL6; have HRL6 := Lib.hid hrL6; have HBL6 := Lib.hid ((HBL5.out.alloc HBL5.out.size _).trans (hbL6.mono HBL0.out.size)); clear hoL6 hrL6 hbL6; have L6 : True := trivial) | (clear L6; go_at_call 27; refine (headsR HRL6.out (HFD.out _ (HY.out.trans (HBL6.out.mono HY.out.size)))).mono ?_; rintro e wL7 ⟨rfl, hbL7⟩; have HOL7 := Lib.hid (HOL6.out.below hbL7); have HBL7 := Lib.hid (HBL6.out.trans (hbL7.mono HBL6.out.size)); clear hbL7; have L7 : True := trivial) | (clear L7; go_at_call 4; refine (putM1 (w := wL7) ⟨#[72]⟩ _ rfl).mono ?_; rintro e wL8 ⟨PL8, pL8, mL8, rfl, hmL8, hpL8, hbL8⟩; have HOL8 := Lib.hid (HOL7.out.below hbL8); have HPL8 := Lib.hid hpL8; have HBL8 := Lib.hid (HBL7.out.trans (hbL8.mono HBL7.out.size)); clear hpL8 hbL8; have L8 : True := trivial) | (clear L8; go_at_call 26; refine (copyR 50 HOL8.out HPL8.out HOL7.out.lt (by omega) (by decide)).mono ?_; rintro e wL9 ⟨rfl, hoL9, hbL9⟩; have HOL9 := Lib.hid hoL9; have HBL9 := Lib.hid (HBL8.out.trans (hbL9.mono HBL0.out.size)); clear hoL9 hbL9; have L9 : True := trivial) | (clear L9; go_at_call 27; refine (headsR HOL9.out.rb (HFD.out _ (HY.out.trans (HBL9.out.mono HY.out.size)))).mono ?_; rintro e wL10 ⟨rfl, hbL10⟩; have HOL10 := Lib.hid (HOL9.out.below hbL10); have HBL10 := Lib.hid (HBL9.out.trans (hbL10.mono HBL9.out.size)); clear hbL10; have L10 : True := trivial))
      go_roundw
      case rel => exact ⟨k + 1, by omega, by go_num, HB.out.trans (HBL10.out.mono HB.out.size)⟩
      case measure => simp [intOf]; omega
    ·
      have d1 : decide ((k : Int) < 7) = false := decide_eq_false (by omega)
      have HYN := Lib.hid (HBZ.out.trans (HB.out.mono HBZ.out.size))
      clear hk hke
      go_wp2_with fail
      go_loopw [8] (fun iv wr => ∃ k : Nat, k ≤ 54 ∧ iv = .int .i64 k ∧ Below wy.heap.size wy wr) (fun iv _ => 54 - (intOf iv).toNat)
      case atStart => exact ⟨0, by omega, rfl, HYN.out⟩
      case round =>
        obtain ⟨k, hk, rfl, hbel⟩ := hrel
        have HB := Lib.hid hbel; clear hbel
        rcases (show k = 54 ∨ k < 54 by omega) with hke | hlt
        rotate_left
        ·
          have d1 : decide ((k : Int) < 54) = true := decide_eq_true (by omega)
          have b0 : (0 : Int) ≤ (k : Int) := by omega
          have b1 : (k : Int) < 54 := by omega
          have wk : IntKind.i64.wrap ((k : Int) + 1) = ((k + 1 : Nat) : Int) := by rw [IntWalk.i64_in _ (by omega)]; omega
          have HY := Lib.hid HB.out
          have M80 : True := trivial; have HBM80 := Lib.hid (Below.refl wr.heap.size wr)
          go_wp2_with (first | (clear M80; at_builtin; refine wpl_copyR (w0 := wr) rfl _ _ 25 rfl Tryz.underlying25 info_u8 rfl rfl _ _ _ rfl (HF1.out _ HB.out) (by omega) ?_; intro AM81 cM81 wM81 hoM81 hbM81; obtain ⟨qM81, rfl⟩ := hoM81.pos (by decide); have hlM81 := hoM81.le; have HOM81 := Lib.hid hoM81; have hsM81 := hbM81.size; have HWM81 := Lib.hid hbM81; have HBM81 := Lib.hid (HBM80.out.trans (hbM81.mono HBM80.out.size)); clear hoM81 hbM81; obtain ⟨qx, hA, -, hqb, hqs, x, hx, hxc, hxf, hxs⟩ := HOM81.out.at_ k hlt; cases hA; obtain ⟨y, hy, hxy⟩ := xor_lit x hx 2 (by decide) 2 rfl; have HOx := Lib.hid (hxs y hy); have HBx := Lib.hid (HBM81.out.setCell (p := ⟨qM81, k, none⟩) (by exact hqb) (.int .u8 (y : Int))); clear hxs; have M81 : True := trivial) | (clear M81; go_at_call 27; refine (headsR HOx.out.rb (HFD.out _ (HY.out.trans (HBx.out.mono HY.out.size)))).mono ?_; rintro e wM82 ⟨rfl, hbM82⟩; have HOM82 := Lib.hid (HOx.out.below hbM82); have HBM82 := Lib.hid (HBx.out.trans (hbM82.mono HBx.out.size)); clear hbM82; have M82 : True := trivial))
          go_roundw
          case rel => exact ⟨k + 1, by omega, by go_num, HB.out.trans (HBM82.out.mono HB.out.size)⟩
          case measure => simp [intOf]; omega
        ·
          have d1 : decide ((k : Int) < 54) = false := decide_eq_false (by omega)
          have HYN := Lib.hid (HB.out)
          clear hk hke
          go_wp2_with fail
          go_loopw [10] (fun iv wr => ∃ k : Nat, k ≤ 36 ∧ iv = .int .i64 k ∧ Below wy.heap.size wy wr) (fun iv _ => 36 - (intOf iv).toNat)
          case atStart => exact ⟨0, by omega, rfl, HYN.out⟩
          case round =>
            obtain ⟨k, hk, rfl, hbel⟩ := hrel
            have HB := Lib.hid hbel; clear hbel
            rcases (show k = 36 ∨ k < 36 by omega) with hke | hlt
            rotate_left
            ·
              have d1 : decide ((k : Int) < 36) = true := decide_eq_true (by omega)
              have b0 : (0 : Int) ≤ (k : Int) := by omega
              have b1 : (k : Int) < 36 := by omega
              have wk : IntKind.i64.wrap ((k : Int) + 1) = ((k + 1 : Nat) : Int) := by rw [IntWalk.i64_in _ (by omega)]; omega
              have HY := Lib.hid HB.out
              have M100 : True := trivial; have HBM100 := Lib.hid (Below.refl wr.heap.size wr)
              go_wp2_with (first | (clear M100; at_builtin; refine wpl_copyR (w0 := wr) rfl _ _ 25 rfl Tryz.underlying25 info_u8 rfl rfl _ _ _ rfl (HF3.out _ HB.out) (by omega) ?_; intro AM101 cM101 wM101 hoM101 hbM101; obtain ⟨qM101, rfl⟩ := hoM101.pos (by decide); have hlM101 := hoM101.le; have HOM101 := Lib.hid hoM101; have hsM101 := hbM101.size; have HWM101 := Lib.hid hbM101; have HBM101 := Lib.hid (HBM100.out.trans (hbM101.mono HBM100.out.size)); clear hoM101 hbM101; obtain ⟨qx, hA, -, hqb, hqs, x, hx, hxc, hxf, hxs⟩ := HOM101.out.at_ k hlt; cases hA; obtain ⟨y, hy, hxy⟩ := xor_lit x hx 2 (by decide) 2 rfl; have HOx := Lib.hid (hxs y hy); have HBx := Lib.hid (HBM101.out.setCell (p := ⟨qM101, k, none⟩) (by exact hqb) (.int .u8 (y : Int))); clear hxs; have M101 : True := trivial) | (clear M101; go_at_call 25; refine (widR (HF2.out _ (HY.out.trans (HBx.out.mono HY.out.size))) HOx.out.rb (HF4.out _ (HY.out.trans (HBx.out.mono HY.out.size))) (HFD.out _ (HY.out.trans (HBx.out.mono HY.out.size))) (by decide) (by decide) (by decide)).mono ?_; rintro e wM102 ⟨rfl, hbM102⟩; have HOM102 := Lib.hid (HOx.out.below hbM102); have HBM102 := Lib.hid (HBx.out.trans (hbM102.mono HBx.out.size)); clear hbM102; have M102 : True := trivial) | (clear M102; at_builtin; refine wpl_appG rfl _ _ 25 rfl Tryz.underlying25 info_u8 wM102.heap.size _ _ _ rfl ((OB.ofMade (Nat.le_refl _)).below ((Below.refl _ _).alloc (Nat.le_refl _) _)) _ _ _ rfl (RB.ofListAt [1, 2, 3, 4, 5, 6, 7, 8] (wM102.alloc (.cells #[] 5)) _ (by simp) (by decide) (by decide)) (by first | omega | (simp; omega)) (by simp <;> omega) ?_; intro AM103 cM103 wM103 hoM103 hbM103; have hbM103 := (((Below.refl wM102.heap.size wM102).alloc (Nat.le_refl _) (.cells #[] 5)).alloc (by simp) _).trans hbM103; have HOM103 := Lib.hid (HOM102.out.below hbM103); have HRM103 := Lib.hid hoM103.rb; have HBM103 := Lib.hid (HBM102.out.trans (hbM103.mono HBM102.out.size)); clear hoM103 hbM103; have M103 : True := trivial) | (clear M103; go_at_call 25; refine (widR (HF2.out _ (HY.out.trans (HBM103.out.mono HY.out.size))) HOM103.out.rb HRM103.out (HFD.out _ (HY.out.trans (HBM103.out.mono HY.out.size))) (by decide) (by decide) (by decide)).mono ?_; rintro e wM104 ⟨rfl, hbM104⟩; have HOM104 := Lib.hid (HOM103.out.below hbM104); have HBM104 := Lib.hid (HBM103.out.trans (hbM104.mono HBM103.out.size)); clear hbM104; have M104 : True := trivial))
              go_roundw
              case rel => exact ⟨k + 1, by omega, by go_num, HB.out.trans (HBM104.out.mono HB.out.size)⟩
              case measure => simp [intOf]; omega
            ·
              have d1 : decide ((k : Int) < 36) = false := decide_eq_false (by omega)
              have HYN := Lib.hid (HB.out)
              clear hk hke
              go_wp2_with fail
              go_loopw [12] (fun iv wr => ∃ k : Nat, k ≤ 6 ∧ iv = .int .i64 k ∧ Below wy.heap.size wy wr) (fun iv _ => 6 - (intOf iv).toNat)
              case atStart => exact ⟨0, by omega, rfl, HYN.out⟩
              case round =>
                obtain ⟨k, hk, rfl, hbel⟩ := hrel
                have HB := Lib.hid hbel; clear hbel
                rcases (show k = 6 ∨ k < 6 by omega) with hke | hlt
                rotate_left
                ·
                  have d1 : decide ((k : Int) < 6) = true := decide_eq_true (by omega)
                  have b0 : (0 : Int) ≤ (k : Int) := by omega
                  have b1 : (k : Int) < 6 := by omega
                  have wk : IntKind.i64.wrap ((k : Int) + 1) = ((k + 1 : Nat) : Int) := by rw [IntWalk.i64_in _ (by omega)]; omega
                  have HY := Lib.hid HB.out
                  have M120 : True := trivial; have HBM120 := Lib.hid (Below.refl wr.heap.size wr)
                  go_wp2_with (first | (clear M120; at_builtin; refine wpl_copyR (w0 := wr) rfl _ _ 25 rfl Tryz.underlying25 info_u8 rfl rfl _ _ _ rfl (HF2.out _ HB.out) (by omega) ?_; intro AM121 cM121 wM121 hoM121 hbM121; obtain ⟨qM121, rfl⟩ := hoM121.pos (by decide); have hlM121 := hoM121.le; have HOM121 := Lib.hid hoM121; have hsM121 := hbM121.size; have HWM121 := Lib.hid hbM121; have HBM121 := Lib.hid (HBM120.out.trans (hbM121.mono HBM120.out.size)); clear hoM121 hbM121; obtain ⟨qx, hA, -, hqb, hqs, x, hx, hxc, hxf, hxs⟩ := HOM121.out.at_ k hlt; cases hA; obtain ⟨y, hy, hxy⟩ := xor_lit x hx 2 (by decide) 2 rfl; have HOx := Lib.hid (hxs y hy); have HBx := Lib.hid (HBM121.out.setCell (p := ⟨qM121, k, none⟩) (by exact hqb) (.int .u8 (y : Int))); clear hxs; have M121 : True := trivial) | (clear M121; go_at_call 25; refine (widR HOx.out.rb (HF3.out _ (HY.out.trans (HBx.out.mono HY.out.size))) (HF4.out _ (HY.out.trans (HBx.out.mono HY.out.size))) (HFD.out _ (HY.out.trans (HBx.out.mono HY.out.size))) (by decide) (by decide) (by decide)).mono ?_; rintro e wM122 ⟨rfl, hbM122⟩; have HOM122 := Lib.hid (HOx.out.below hbM122); have HBM122 := Lib.hid (HBx.out.trans (hbM122.mono HBx.out.size)); clear hbM122; have M122 : True := trivial))
                  go_roundw
                  case rel => exact ⟨k + 1, by omega, by go_num, HB.out.trans (HBM122.out.mono HB.out.size)⟩
                  case measure => simp [intOf]; omega
                ·
                  have d1 : decide ((k : Int) < 6) = false := decide_eq_false (by omega)
                  have HYN := Lib.hid (HB.out)
                  clear hk hke
                  go_wp2_with fail
                  go_ret
                  exact ⟨rfl, HRW.out.trans (HYN.out.mono HRW.out.size)⟩
end Go.Proofs.YtfbppbelcbbhlaaGreatDoor.Sf
