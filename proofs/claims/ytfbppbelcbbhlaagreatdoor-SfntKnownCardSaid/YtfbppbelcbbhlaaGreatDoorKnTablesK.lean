/- copyTo; what is appended to a row that stays. -/
import Derived.Test.YtfbppbelcbbhlaaGreatDoorKnLawKit
namespace Go.Proofs.YtfbppbelcbbhlaaGreatDoor.Sf
open Go Go.RowKit

theorem OB.le {W : World} {base : Nat} {A : Option Addr} {c n : Nat} (h : OB W base A c n) : n ≤ c ∧ c ≤ 9223372036854775807 := h.rb.le
theorem OB.lt {W : World} {base : Nat} {A : Option Addr} {c n : Nat} (h : OB W base A c n) : ∀ q, A = some ⟨q, 0, none⟩ → q < W.heap.size := fun q hq => by
  obtain ⟨l, h⟩ := h
  subst hq
  exact (h.row.lt q rfl).2
set_option maxRecDepth 100000 in
theorem copyR {A B : Option Addr} {c n d m base base2 : Nat} {w : World} (p : Nat) (h : OB w base A c n) (h2 : OB w base2 B d m) (hq : ∀ q, A = some ⟨q, 0, none⟩ → q < base2) (hat : p + m ≤ n) (hn : n ≤ 3000) :
    Calls Tryz.prog 26 #[.slice A n c, .int .i64 (p : Int), .slice B m d] w fun e w' => e = .returned (.tuple #[]) ∧ OB w' base A c n ∧ Below base w w' := by
  have HO := Lib.hid h
  have HO2 := Lib.hid h2
  have HQ := Lib.hid hq
  clear h h2 hq
  go_enter Tryz.func26, Tryz.ntmps26
  go_wp2_with fail
  go_loopw [6] (fun iv wr => ∃ k : Nat, k ≤ m ∧ iv = .int .i64 k ∧ OB wr base A c n ∧ OB wr base2 B d m ∧ Below base w wr) (fun iv _ => m - (intOf iv).toNat)
  case atStart => exact ⟨0, Nat.zero_le _, rfl, HO.out, HO2.out, Below.refl _ _⟩
  case round =>
    obtain ⟨k, hk, rfl, ho, ho2, hbel⟩ := hrel
    have HB := Lib.hid hbel
    clear hbel
    by_cases hlt : k < m
    · have d1 : decide ((k : Int) < (m : Int)) = true := decide_eq_true (by omega)
      obtain ⟨q, hA, hnc, hqb, hqs, x, hx, hxc, hxf, hxs⟩ := ho.at_ (p + k) (by omega)
      obtain ⟨q2, hB, hnc2, hqb2, hqs2, y, hy, hyc, hyf, -⟩ := ho2.at_ k hlt
      have hlt2 := HQ.out q hA
      subst hA
      subst hB
      have HST := Lib.hid (hxs y hy)
      have HO3 := Lib.hid (ho2.imp fun l hl => OwnB.mk hl.len (ownsRow_setCell_below hl.row (a := ⟨q, p + k, none⟩) hlt2 (.int .u8 (y : Int))) hl.lt)
      have HB4 := Lib.hid (HB.out.setCell (p := ⟨q, p + k, none⟩) (by exact hqb) (.int .u8 (y : Int)))
      obtain ⟨j, hj⟩ : ∃ j, j = p + k := ⟨_, rfl⟩
      rw [← hj] at hxc hxf HST HO3 HB4
      have wj : IntKind.i64.wrap ((p : Int) + (k : Int)) = (j : Int) := by rw [IntWalk.i64_in _ (by omega)]; omega
      have wk : IntKind.i64.wrap ((k : Int) + 1) = ((k + 1 : Nat) : Int) := by rw [IntWalk.i64_in _ (by omega)]; omega
      have b0 : (0 : Int) ≤ (j : Int) := by omega
      have b1 : (j : Int) < (n : Int) := by omega
      have b2 : (0 : Int) ≤ (k : Int) := by omega
      have b3 : (k : Int) < (m : Int) := by omega
      clear hxs ho ho2 hj HO HO2
      go_wp2_with fail
      go_roundw
      case rel => exact ⟨k + 1, by omega, by go_num, HST.out, HO3.out, HB4.out⟩
      case measure => simp [intOf]; omega
    · have d1 : decide ((k : Int) < (m : Int)) = false := decide_eq_false (by omega)
      go_wp2_with fail
      go_end0
      exact ⟨rfl, ho, HB.out⟩
/-- 'append(s, x...)', where what s was stays owned. -/
theorem wpl_appK {P : Program} {w : World} {ops : Array Oper} {rest : List Oper} {o : Oper} {a : Act} {Q : Exit → Act → World → Prop} (hgd : Region.wanted o (yielded ops a.tmps) = true) (s x : Operand) (t : TypeId)
    (ho : o.op = .call { callee := .builtin .append, args := #[s, x], argTypes := #[t, t] }) (ht : P.underlying t = some (.slice 5)) (hinfo : (P.info? 5).map (fun i => (i.zero, i.size, i.bytes)) = some (some (.int .u8 0), 1, 1))
    (base : Nat) (A0 : Option Addr) (c0 n0 : Nat) (hs : a.eval s = .slice A0 n0 c0) (hown : OB w base A0 c0 n0) (h0 : 0 < n0)
    (ad : Addr) (n c : Nat) (hx : a.eval x = .slice (some ad) n c) (hb : RB w (some ad) c n) (hlen : n0 + n ≤ 140737488355328) (hbase : base ≤ w.heap.size)
    (h : ∀ A' c' w', RB w' A' c' (n0 + n) → OB w' base A0 c0 n0 → Below base w w' → wpList P ops Q rest (a.put o.dst (.slice A' (n0 + n) c')) w') : wpList P ops Q (o :: rest) a w := by
  obtain ⟨l0, h1⟩ := hown
  obtain ⟨l, hl⟩ := hb
  obtain ⟨i, hi, hz0, hz1, hz2⟩ := info_parts hinfo
  have hll := hl.len
  refine wpList_wanted hgd fun K hK => ?_
  have hnews := hl.byt.news (Kept.refl w) ad rfl
  obtain ⟨v', w', hr, h2, h3, -⟩ := run_append_own (P := P) w base t o.type 5 i (.int .u8 0) 1 1 ht hi hz0 hz1 hz2 rfl (by decide) _ n0 _ h1.row ad n c (u8s l) (by rw [u8s_length]; omega) hnews (u8s_one l) (by unfold maxLen; omega) (by omega) hbase
  have hold : w'.ownsRow base 5 1 (.slice A0 n0 c0) n0 (u8s l0) := by
    rcases h1.row.2 with ⟨hA, h00⟩ | ⟨g, cap, cur, hA, hbg, hg, hnc, hcm, hcs, htake⟩
    · omega
    · cases hA
      by_cases hroom : n0 + n ≤ c0
      · have hr2 := run_append_room (P := P) w t o.type 5 i ht hi g n0 c0 cur hg ad n c (u8s l) (by rw [u8s_length, hz1]; omega) hnews (u8s_one l) hroom (by rw [u8s_length, hcs, hz1]; omega)
        rw [hr] at hr2
        cases hr2
        have := own_cut h2 (i := n0) (by omega)
        rwa [List.take_left' (by rw [u8s_length, h1.len]; omega)] at this
      · have holds : ∀ j u, (u8s l0)[j]? = some u → w.cell? ((⟨g, 0, none⟩ : Addr).add j) = some u := h1.row.cells (g := g) rfl
        have hr2 := run_append_grow (P := P) w t o.type 5 i (.int .u8 0) ht hi hz0 ⟨g, 0, none⟩ n0 c0 (u8s l0) (by rw [hz1]; exact h1.row.1) holds ad n c (u8s l) (by rw [u8s_length, hz1]; omega) hnews (by omega) (by omega) (growslice_fits (by omega) (by rw [hz2]; omega))
        rw [hr] at hr2
        cases hr2
        exact (own_drewN h1.row 1).alloc _
  unfold Oper.wp execOp
  simp only [ho, resolve, invoke, builtin, Sem.run_bind, Sem.run_pure, Result.andThen_ok, List.map_toArray, List.map_cons, List.map_nil, hs, hx, hr]
  obtain ⟨A', c', rfl⟩ := own_form h2
  refine hK _ _ (h A' c' w' (OB.rb (base := base) ⟨l0 ++ l, by rw [List.length_append, h1.len, hl.len], by rw [u8s_append]; exact h2, fun y hy => ?_⟩) ⟨l0, h1.len, hold, h1.lt⟩ (below_grown (Below.refl _ _) h1.row hbase h3))
  rcases List.mem_append.1 hy with hy | hy
  · exact h1.lt y hy
  · exact hl.byt.lt y hy
/-- 'append(s, x...)', behind a guard or not. -/
theorem wpl_appG {P : Program} {w : World} {ops : Array Oper} {rest : List Oper} {o : Oper} {a : Act} {Q : Exit → Act → World → Prop} (hgd : Region.wanted o (yielded ops a.tmps) = true) (s x : Operand) (t : TypeId)
    (ho : o.op = .call { callee := .builtin .append, args := #[s, x], argTypes := #[t, t] }) (ht : P.underlying t = some (.slice 5)) (hinfo : (P.info? 5).map (fun i => (i.zero, i.size, i.bytes)) = some (some (.int .u8 0), 1, 1))
    (base : Nat) (A0 : Option Addr) (c0 n0 : Nat) (hs : a.eval s = .slice A0 n0 c0) (hown : OB w base A0 c0 n0)
    (ad : Addr) (n c : Nat) (hx : a.eval x = .slice (some ad) n c) (hb : RB w (some ad) c n) (hlen : n0 + n ≤ 140737488355328) (hbase : base ≤ w.heap.size)
    (h : ∀ A' c' w', OB w' base A' c' (n0 + n) → Below base w w' → wpList P ops Q rest (a.put o.dst (.slice A' (n0 + n) c')) w') : wpList P ops Q (o :: rest) a w := by
  obtain ⟨l0, h1⟩ := hown
  obtain ⟨l, hl⟩ := hb
  obtain ⟨i, hi, hz0, hz1, hz2⟩ := info_parts hinfo
  have hll := hl.len
  refine wpList_wanted hgd fun K hK => ?_
  have hnews := hl.byt.news (Kept.refl w) ad rfl
  obtain ⟨v', w', hr, h2, h3, -⟩ := run_append_own (P := P) w base t o.type 5 i (.int .u8 0) 1 1 ht hi hz0 hz1 hz2 rfl (by decide) _ n0 _ h1.row ad n c (u8s l) (by rw [u8s_length]; omega) hnews (u8s_one l) (by unfold maxLen; omega) (by omega) hbase
  unfold Oper.wp execOp
  simp only [ho, resolve, invoke, builtin, Sem.run_bind, Sem.run_pure, Result.andThen_ok, List.map_toArray, List.map_cons, List.map_nil, hs, hx, hr]
  obtain ⟨A', c', rfl⟩ := own_form h2
  refine hK _ _ (h A' c' w' ⟨l0 ++ l, by rw [List.length_append, h1.len, hl.len], by rw [u8s_append]; exact h2, fun y hy => ?_⟩ (below_grown (Below.refl _ _) h1.row hbase h3))
  rcases List.mem_append.1 hy with hy | hy
  · exact h1.lt y hy
  · exact hl.byt.lt y hy
/-- A copy: 'append([]byte{}, x...)'. -/
theorem wpl_copyR {P : Program} {w w0 : World} {ops : Array Oper} {rest : List Oper} {o : Oper} {a : Act} {Q : Exit → Act → World → Prop} (hgd : o.guard = none) (s x : Operand) (t : TypeId)
    (ho : o.op = .call { callee := .builtin .append, args := #[s, x], argTypes := #[t, t] }) (ht : P.underlying t = some (.slice 5)) (hinfo : (P.info? 5).map (fun i => (i.zero, i.size, i.bytes)) = some (some (.int .u8 0), 1, 1))
    (hw : w = w0.alloc (.cells #[] 5)) (hs : a.eval s = .slice (some ⟨w0.heap.size, 0, none⟩) 0 0)
    (A : Option Addr) (n c : Nat) (hx : a.eval x = .slice A n c) (hb : RB w0 A c n) (hlen : n ≤ 140737488355328)
    (h : ∀ A' c' w', OB w' w0.heap.size A' c' n → Below w0.heap.size w0 w' → wpList P ops Q rest (a.put o.dst (.slice A' n c')) w') : wpList P ops Q (o :: rest) a w := by
  subst hw
  refine wpl_appR hgd s x t ho ht hinfo w0.heap.size (some ⟨w0.heap.size, 0, none⟩) 0 0 hs (OB.ofMade (Nat.le_refl _)) A n c hx (hb.below ((Below.refl _ _).alloc (Nat.le_refl _) _)) (by omega) (by simp) fun A' c' w' h1 h2 => ?_
  rw [Nat.zero_add] at h1 ⊢
  exact h A' c' w' h1 (((Below.refl _ _).alloc (Nat.le_refl _) _).trans h2)
end Go.Proofs.YtfbppbelcbbhlaaGreatDoor.Sf

/- The statement's tables: nine headers, each answered. -/
namespace Go.Proofs.YtfbppbelcbbhlaaGreatDoor.Sf
open Go Go.RowKit

theorem putM3 {w : World} (s : ByteArray) (x y z : Int) (hs : 3 = s.size) :
    Calls Tryz.prog 4 #[.string s, .slice (some ⟨w.heap.size, 0, none⟩) 3 3] (w.alloc (.cells #[.int .i64 x, .int .i64 y, .int .i64 z] 2)) fun e w' => ∃ A' c' m, e = .returned (.slice A' m c') ∧ m ≤ 12 ∧ OB w' w.heap.size A' c' m ∧ Below w.heap.size w w' :=
  putM s [x, y, z] 3 rfl rfl (by simp) hs
theorem wpl_strS {P : Program} {w : World} {ops : Array Oper} {rest : List Oper} {o : Oper} {a : Act} {Q : Exit → Act → World → Prop} (hgd : o.guard = none) (s x : Operand) (t u : TypeId)
    (ho : o.op = .call { callee := .builtin .append, args := #[s, x], argTypes := #[t, u] }) (ht : P.underlying t = some (.slice 5)) (hu : P.underlying u = some .string) (hinfo : (P.info? 5).map (fun i => (i.zero, i.size, i.bytes)) = some (some (.int .u8 0), 1, 1))
    (base : Nat) (A0 : Option Addr) (c0 n0 : Nat) (hs : a.eval s = .slice A0 n0 c0) (hown : OB w base A0 c0 n0) (b : ByteArray) (hx : a.eval x = .string b) (h16 : b.size ≤ 16) (hlen : n0 ≤ 140737488355312) (hbase : base ≤ w.heap.size)
    (h : ∀ m A' c' w', m ≤ n0 + 16 → OB w' base A' c' m → Below base w w' → wpList P ops Q rest (a.put o.dst (.slice A' m c')) w') : wpList P ops Q (o :: rest) a w :=
  wpl_strR hgd s x t u ho ht hu hinfo base A0 c0 n0 hs hown b hx (by omega) hbase fun A' c' w' => h (n0 + b.size) A' c' w' (by omega)
theorem wpl_appS {P : Program} {w : World} {ops : Array Oper} {rest : List Oper} {o : Oper} {a : Act} {Q : Exit → Act → World → Prop} (hgd : o.guard = none) (s x : Operand) (t : TypeId)
    (ho : o.op = .call { callee := .builtin .append, args := #[s, x], argTypes := #[t, t] }) (ht : P.underlying t = some (.slice 5)) (hinfo : (P.info? 5).map (fun i => (i.zero, i.size, i.bytes)) = some (some (.int .u8 0), 1, 1))
    (base : Nat) (A0 : Option Addr) (c0 n0 : Nat) (hs : a.eval s = .slice A0 n0 c0) (hown : OB w base A0 c0 n0)
    (A : Option Addr) (n c : Nat) (hx : a.eval x = .slice A n c) (hb : RB w A c n) (hlen : n0 + n ≤ 140737488355328) (hbase : base ≤ w.heap.size)
    (h : ∀ m A' c' w', m ≤ n0 + n → OB w' base A' c' m → Below base w w' → wpList P ops Q rest (a.put o.dst (.slice A' m c')) w') : wpList P ops Q (o :: rest) a w :=
  wpl_appR hgd s x t ho ht hinfo base A0 c0 n0 hs hown A n c hx hb hlen hbase fun A' c' w' => h _ A' c' w' (Nat.le_refl _)
set_option maxRecDepth 100000 in
set_option maxHeartbeats 4000000 in
theorem tables_known (w : World) (hd : HdVar w) : Calls Tryz.prog 8 #[] w fun e w' => e = .returned (.bool true) ∧ Below w.heap.size w w' := by
  have HD := Lib.hid hd
  clear hd
  go_enter Tryz.func8, Tryz.ntmps8
  go_wp2_with fail
  go_loopw [1] (fun iv wr => ∃ k : Nat, k ≤ 9 ∧ iv = .int .i64 k ∧ Below w.heap.size w wr) (fun iv _ => 9 - (intOf iv).toNat)
  case atStart => exact ⟨0, by omega, rfl, Below.refl _ _⟩
  case round =>
    obtain ⟨k, hk, rfl, hbel⟩ := hrel
    have HB := Lib.hid hbel
    clear hbel
    rcases (show k = 9 ∨ k < 9 by omega) with rfl | hlt
    · go_wp2_with fail
      go_ret
      exact ⟨rfl, HB.out⟩
    · have hk9 : k = 0 ∨ k = 1 ∨ k = 2 ∨ k = 3 ∨ k = 4 ∨ k = 5 ∨ k = 6 ∨ k = 7 ∨ k = 8 := by omega
      clear hk hlt
      rcases hk9 with rfl | rfl | rfl | rfl | rfl | rfl | rfl | rfl | rfl <;> (
        have G0 : True := trivial
        go_wp2_with (first | (clear G0; go_at_call 4; refine (putM ⟨#[73, 72, 72, 72, 72]⟩ [65536, 2, 32, 1, 0] 5 rfl rfl (by decide) rfl).mono ?_; rintro e w1 ⟨A1, c1, m1, rfl, hm1, ho1, hb1⟩; have HO1 := Lib.hid ho1; have HB1 := Lib.hid hb1; clear ho1 hb1; have G1 : True := trivial) | (clear G1; at_builtin; refine wpl_strS rfl _ _ 25 9 rfl Tryz.underlying25 Tryz.underlying9 info_u8 wr.heap.size _ _ _ rfl HO1.out _ rfl (by decide) (by omega) HB1.out.size ?_; intro m2 A2 c2 w2 hm2 ho2 hb2; have HO2 := Lib.hid ho2; have HB2 := Lib.hid (HB1.out.trans hb2); clear ho2 hb2; have G2 : True := trivial) | (clear G2; at_builtin; refine wpl_strS rfl _ _ 25 9 rfl Tryz.underlying25 Tryz.underlying9 info_u8 wr.heap.size _ _ _ rfl HO2.out _ rfl (by decide) (by omega) HB2.out.size ?_; intro m3 A3 c3 w3 hm3 ho3 hb3; have HO3 := Lib.hid ho3; have HB3 := Lib.hid (HB2.out.trans hb3); clear ho3 hb3; have G3 : True := trivial) | (clear G3; go_at_call 4; refine (putM3 (w := w3) ⟨#[73, 73, 73]⟩ _ _ _ rfl).mono ?_; rintro e w4 ⟨A4, c4, m4, rfl, hm4, ho4, hb4⟩; have HO4 := Lib.hid (HO3.out.below hb4); have HR4 := Lib.hid ho4.rb; have HB4 := Lib.hid (HB3.out.trans (hb4.mono HB3.out.size)); clear ho4 hb4; have G4 : True := trivial) | (clear G4; at_builtin; refine wpl_appS rfl _ _ 25 rfl Tryz.underlying25 info_u8 wr.heap.size _ _ _ rfl HO4.out _ _ _ rfl HR4.out (by omega) (Nat.le_trans HB4.out.size (by simp)) ?_; intro m5 A5 c5 w5 hm5 ho5 hb5; have HO5 := Lib.hid ho5; have HB5 := Lib.hid (HB4.out.trans hb5); clear ho5 hb5; have G5 : True := trivial) | (clear G5; at_builtin; refine wpl_strS rfl _ _ 25 9 rfl Tryz.underlying25 Tryz.underlying9 info_u8 wr.heap.size _ _ _ rfl HO5.out _ rfl (by decide) (by omega) HB5.out.size ?_; intro m6 A6 c6 w6 hm6 ho6 hb6; have HO6 := Lib.hid ho6; have HB6 := Lib.hid (HB5.out.trans hb6); clear ho6 hb6; have G6 : True := trivial) | (clear G6; at_builtin; refine wpl_strS rfl _ _ 25 9 rfl Tryz.underlying25 Tryz.underlying9 info_u8 wr.heap.size _ _ _ rfl HO6.out _ rfl (by decide) (by omega) HB6.out.size ?_; intro m7 A7 c7 w7 hm7 ho7 hb7; have HO7 := Lib.hid ho7; have HB7 := Lib.hid (HB6.out.trans hb7); clear ho7 hb7; have G7 : True := trivial) | (clear G7; go_at_call 4; refine (putM3 (w := w7) ⟨#[73, 73, 73]⟩ _ _ _ rfl).mono ?_; rintro e w8 ⟨A8, c8, m8, rfl, hm8, ho8, hb8⟩; have HO8 := Lib.hid (HO7.out.below hb8); have HR8 := Lib.hid ho8.rb; have HB8 := Lib.hid (HB7.out.trans (hb8.mono HB7.out.size)); clear ho8 hb8; have G8 : True := trivial) | (clear G8; at_builtin; refine wpl_appS rfl _ _ 25 rfl Tryz.underlying25 info_u8 wr.heap.size _ _ _ rfl HO8.out _ _ _ rfl HR8.out (by omega) (Nat.le_trans HB8.out.size (by simp)) ?_; intro m9 A9 c9 w9 hm9 ho9 hb9; have HO9 := Lib.hid ho9; have HB9 := Lib.hid (HB8.out.trans hb9); clear ho9 hb9; have G9 : True := trivial) | (clear G9; at_builtin; refine wpl_appS rfl _ _ 25 rfl Tryz.underlying25 info_u8 wr.heap.size _ _ _ rfl (HO9.out.below ((Below.refl _ _).alloc (Nat.le_refl _) _)) _ _ _ rfl (RB.ofList [0, 0, 0, 0, 0, 0, 0, 0] w9 (by decide) (by decide)) (by first | omega | (simp; omega)) (Nat.le_trans HB9.out.size (by simp)) ?_; intro m10 A10 c10 w10 hm10 ho10 hb10; have HO10 := Lib.hid ho10; have HB10 := Lib.hid ((HB9.out.alloc HB9.out.size _).trans hb10); clear ho10 hb10; have G10 : True := trivial) | (clear G10; go_at_call 7; refine (tabsR HO10.out.rb (HD.out.kept (kept_of_below (HB.out.trans (HB10.out.mono HB.out.size))))).mono ?_; rintro e w11 ⟨rfl, hb11⟩; have HB11 := Lib.hid ((HB.out.trans (HB10.out.mono HB.out.size)).trans (hb11.mono (HB.out.trans (HB10.out.mono HB.out.size)).size)); clear hb11; have G11 : True := trivial))
        go_roundw
        case rel => first | exact ⟨1, by omega, by go_num, HB11.out⟩ | exact ⟨2, by omega, by go_num, HB11.out⟩ | exact ⟨3, by omega, by go_num, HB11.out⟩ | exact ⟨4, by omega, by go_num, HB11.out⟩ | exact ⟨5, by omega, by go_num, HB11.out⟩ | exact ⟨6, by omega, by go_num, HB11.out⟩ | exact ⟨7, by omega, by go_num, HB11.out⟩ | exact ⟨8, by omega, by go_num, HB11.out⟩ | exact ⟨9, by omega, by go_num, HB11.out⟩
        case measure => simp [intOf])
end Go.Proofs.YtfbppbelcbbhlaaGreatDoor.Sf
