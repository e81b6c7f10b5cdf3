import Derived.Test.YtfbppbelcbbhlaaGreatDoorKnTabs9R

/- Rows of tables: slices.Clone, slices.IndexFunc, slices.DeleteFunc, the closures of sfnt.Tables. -/
namespace Go.Proofs.YtfbppbelcbbhlaaGreatDoor.Sf
open Go Go.RowKit

theorem info_tabS : (Tryz.prog.info? 48).map (fun i => (i.zero, i.size, i.bytes)) = some (some (.agg #[.int .u8 0, .int .u8 0, .int .u8 0, .int .u8 0, .int .i64 0, .int .i64 0]), 6, 24) := by kernel_rfl
theorem tbs_one (l : List Tb) : ∀ u ∈ tbs l, u.oneCell' = true := by
  intro u hu
  simp only [tbs, List.mem_flatMap] at hu
  obtain ⟨t, _, h⟩ := hu
  exact Tb.one t u h
def Tb.val (t : Tb) : Value := .agg t.cells.toArray

theorem clone_tb (q c n : Nat) (S : List Tb) (B0 : Nat) (w : World) (h : w.ownsRow B0 48 6 (.slice (some ⟨q, 0, none⟩) n c) n (tbs S)) (hS : S.length = n) (hn : n ≤ 64) :
    Calls Tryz.prog 46 #[.slice (some ⟨q, 0, none⟩) n c] w fun e w' =>
      ∃ A' c', e = .returned (.slice A' n c') ∧ w'.ownsRow w.heap.size 48 6 (.slice A' n c') n (tbs S) ∧ Below w.heap.size w w' := by
  have hq := fun (w : World) => Lib.run_eql_slice_nil (P := Tryz.prog) w 44 48 (some ⟨q, 0, none⟩) n c 0 0 Tryz.underlying44
  have hcell := fun j u hu => (kept_of_below ((Below.refl w.heap.size w).alloc (Nat.le_refl _) (.cells #[] 48))).cell (b := q) (o := j) (v := u) (by have := h.cells (g := q) rfl j u hu; rwa [add_lit, Nat.zero_add] at this)
  have HC := Lib.hid hcell
  have hlen : (tbs S).length = n * 6 := by rw [tbs_length, hS]
  have HLEN := Lib.hid hlen
  clear hcell h hS hlen
  go_enter Tryz.func46, Tryz.ntmps46
  go_wp2_with (at_builtin; refine wpl_app rfl (.tmp 5) (.tmp 6) 44 rfl w.heap.size 48 Tryz.underlying44 info_tabS rfl (by decide) (.slice (some ⟨w.heap.size, 0, none⟩) 0 0) 0 [] rfl (World.ownsRow_made w #[] 0 (Nat.le_refl _) (by decide) rfl) (some ⟨q, 0, none⟩) n c (tbs S) rfl HLEN.out (fun h => by cases h) ?c0 (tbs_one S) ?c1 ?c2 ?c3 ?_; rotate_right; intro v' w' hown hg; simp only [Nat.zero_add, List.nil_append] at hown; obtain ⟨A', c', rfl⟩ := own_form hown)
  case c0 =>
    intro ad had j u hu
    cases had
    rw [add_lit, Nat.zero_add]
    exact HC.out j u hu
  case c1 => unfold maxLen; omega
  case c2 => omega
  case c3 => simp
  go_ret
  refine ⟨_, _, rfl, hown, ?_⟩
  exact ((Below.refl _ _).alloc (Nat.le_refl _) _).grown hg (by simp) (by simp [Value.ownBlock])

theorem empty_ok (t : Tb) (w : World) :
    Calls Tryz.prog 47 #[t.val] w fun e w' => e = .returned (.bool (decide (t.len = 0))) ∧ w' = w.alloc (.cells t.cells.toArray 48) := by
  have hd : ((t.len : Int) == 0) = decide (t.len = 0) := by by_cases h : t.len = 0 <;> simp [h]
  unfold Tb.val Tb.cells Tg.cells
  simp only [List.cons_append, List.nil_append]
  go_enter Tryz.func47, Tryz.ntmps47
  go_wp2
  go_ret
  exact ⟨rfl, rfl⟩
theorem order_ok (t u : Tb) (w : World) (ht : t.at_ < 4294967296) (hu : u.at_ < 4294967296) :
    Calls Tryz.prog 49 #[t.val, u.val] w fun e w' => e = .returned (.int .i64 ((t.at_ : Int) - (u.at_ : Int))) ∧ w' = (w.alloc (.cells t.cells.toArray 48)).alloc (.cells u.cells.toArray 48) := by
  have wr1 : IntKind.i64.wrap ((t.at_ : Int) - (u.at_ : Int)) = (t.at_ : Int) - (u.at_ : Int) := IntWalk.i64_in _ (by omega)
  unfold Tb.val Tb.cells Tg.cells
  simp only [List.cons_append, List.nil_append]
  go_enter Tryz.func49, Tryz.ntmps49
  go_wp2
  go_ret
  exact ⟨rfl, rfl⟩

/-! Rows of several cells an element. -/
theorem run_clear_rows {P : Program} (w : World) (t e ty : TypeId) (z : Value) (ht : P.underlying t = some (.slice e)) (hv : ∀ w, (zeroValue e).run P w = .ok z w) (k : Nat) (hk : z.cells.size = k) (h1 : ∀ v ∈ z.cells, v.oneCell' = true) (hk0 : 0 < k) (b o n c : Nat) (hn : 0 < n)
    (hc : ∀ j, j < n * k → (w.cell? ⟨b, o + j, none⟩).isSome = true) (hf : ∀ j, j < n * k → w.frozen? ⟨b, o + j, none⟩ = false) :
    ∃ zs : List Value, zs.length = n * k ∧ (Builtin.clear_ #[t] ty #[.slice (some ⟨b, o, none⟩) n c]).run P w = .ok (.tuple #[]) (w.setCells b o zs) := by
  have hl : (Builtin.zeroCells z.cells n).toList.length = n * k := by simp [Builtin.zeroCells, hk]
  refine ⟨(Builtin.zeroCells z.cells n).toList, hl, ?_⟩
  have h2 : ∀ v ∈ (Builtin.zeroCells z.cells n).toList, v.oneCell' = true := by
    intro v hv'
    simp only [Builtin.zeroCells, Array.toList_map, List.mem_map] at hv'
    obtain ⟨i, _, rfl⟩ := hv'
    have : i % z.cells.size < z.cells.size := Nat.mod_lt _ (by omega)
    rw [getElem!_pos z.cells _ this]
    exact h1 _ (Array.getElem_mem this)
  have hst := run_storeCells_cells (P := P) b o (Builtin.zeroCells z.cells n).toList 0 w (by rw [hl]; simpa using hc) (by rw [hl]; simpa using hf) h2
  simp only [Nat.add_zero] at hst
  obtain ⟨m, rfl⟩ : ∃ m, n = m + 1 := ⟨n - 1, by omega⟩
  simp [Builtin.clear_, run_underlying ht, hv, hst]

theorem own_setCellsK {base e sz g n c : Nat} : ∀ (vs : List Value) (o : Nat) (w : World) (xs : List Value), w.ownsRow base e sz (.slice (some ⟨g, 0, none⟩) n c) n xs → o + vs.length ≤ n * sz →
    (w.setCells g o vs).ownsRow base e sz (.slice (some ⟨g, 0, none⟩) n c) n (xs.take o ++ vs ++ xs.drop (o + vs.length))
  | [], o, w, xs, h, hl => by simpa [World.setCells] using h
  | v :: r, o, w, xs, h, hl => by
    have hlen : xs.length = n * sz := h.1
    simp only [List.length_cons] at hl
    have h2 := own_setCellsK r (o + 1) (w.setCell ⟨g, o, none⟩ v) (xs.set o v) (h.stored o v).1 (by omega)
    rw [World.setCells]
    have e1 : (xs.set o v).take (o + 1) ++ r ++ (xs.set o v).drop (o + 1 + r.length) = xs.take o ++ (v :: r) ++ xs.drop (o + (v :: r).length) := by
      rw [List.take_succ_eq_append_getElem (by simp; omega)]
      simp only [List.getElem_set_self, List.append_assoc, List.cons_append, List.nil_append, List.length_cons]
      rw [List.take_set, List.set_eq_of_length_le (by simp; omega), List.drop_set_of_lt (by omega), Nat.add_right_comm, Nat.add_assoc]
    rw [← e1]
    exact h2
theorem own_cut {w : World} {base e sz g n c i : Nat} {xs : List Value} (h : w.ownsRow base e sz (.slice (some ⟨g, 0, none⟩) n c) n xs) (hi : i ≤ n) : w.ownsRow base e sz (.slice (some ⟨g, 0, none⟩) i c) i (xs.take (i * sz)) := by
  have hlen := h.1
  have hm : i * sz ≤ n * sz := Nat.mul_le_mul_right sz hi
  refine ⟨by rw [List.length_take]; omega, ?_⟩
  rcases h.2 with ⟨h1, h0⟩ | ⟨g', cap, cur, h1, hg, hh, hle, hcap, hsz, htk⟩
  · cases h1
  · cases h1
    refine .inr ⟨g, c, cur, rfl, hg, hh, by omega, hcap, hsz, ?_⟩
    rw [← htk, List.take_take, Nat.min_eq_left hm]
theorem tbs_take (l : List Tb) (i : Nat) : (tbs l).take (i * 6) = tbs (l.take i) := by
  induction l generalizing i with
  | nil => simp [tbs]
  | cons t r ih =>
    cases i with
    | zero => simp [tbs]
    | succ i =>
      have hc : t.cells.length = 6 := rfl
      simp only [tbs, List.flatMap_cons, List.take_succ_cons]
      rw [List.take_append, hc, List.take_of_length_le (by rw [hc]; omega), show (i + 1) * 6 - 6 = i * 6 from by omega]
      congr 1
      exact ih i
theorem tbs_drop (l : List Tb) (i : Nat) : (tbs l).drop (i * 6) = tbs (l.drop i) := by
  induction l generalizing i with
  | nil => simp [tbs]
  | cons t r ih =>
    cases i with
    | zero => simp [tbs]
    | succ i =>
      have hc : t.cells.length = 6 := rfl
      simp only [tbs, List.flatMap_cons, List.drop_succ_cons]
      rw [List.drop_append, hc, List.drop_eq_nil_of_le (by rw [hc]; omega), show (i + 1) * 6 - 6 = i * 6 from by omega, List.nil_append]
      exact ih i
theorem tbs_set (l : List Tb) (i : Nat) (t : Tb) (h : i < l.length) : (tbs l).take (i * 6) ++ t.cells ++ (tbs l).drop (i * 6 + t.cells.length) = tbs (l.set i t) := by
  have hc : t.cells.length = 6 := rfl
  rw [hc, show i * 6 + 6 = (i + 1) * 6 from by omega, tbs_take, tbs_drop, List.set_eq_take_append_cons_drop, if_pos h]
  simp [tbs]
theorem tb_cells (l : List Tb) (t : Tb) (i : Nat) (h : l[i]? = some t) {w : World} {base e n c q : Nat} (ho : w.ownsRow base e 6 (.slice (some ⟨q, 0, none⟩) n c) n (tbs l)) (hi : i < n) : TbCells w q (i * 6) t := row_tb ho i hi t h
end Go.Proofs.YtfbppbelcbbhlaaGreatDoor.Sf

/- slices.IndexFunc and slices.DeleteFunc at tables: those without bytes go. -/
namespace Go.Proofs.YtfbppbelcbbhlaaGreatDoor.Sf
open Go Go.RowKit

def noTb : Tb := ⟨noTag, 0, 0⟩
theorem empty_lit (a b c d at_ len : Nat) (w : World) :
    Calls Tryz.prog 47 #[.agg #[.int .u8 a, .int .u8 b, .int .u8 c, .int .u8 d, .int .i64 at_, .int .i64 len]] w fun e w' => e = .returned (.bool (decide (len = 0))) ∧ w' = w.alloc (.cells #[.int .u8 a, .int .u8 b, .int .u8 c, .int .u8 d, .int .i64 at_, .int .i64 len] 48) :=
  empty_ok ⟨⟨a, b, c, d⟩, at_, len⟩ w

def IxPost (S : List Tb) (n : Nat) (w : World) (e : Ending) (w' : World) : Prop :=
  Below w.heap.size w w' ∧ ((∃ i : Nat, i < n ∧ e = .returned (.int .i64 i) ∧ (∀ j, j < i → (S.getD j noTb).len ≠ 0) ∧ (S.getD i noTb).len = 0) ∨ (e = .returned (.int .i64 (-1)) ∧ ∀ j, j < n → (S.getD j noTb).len ≠ 0))

set_option maxHeartbeats 1000000 in
theorem index_tb (q c n : Nat) (S : List Tb) (B0 : Nat) (w : World) (h : w.ownsRow B0 48 6 (.slice (some ⟨q, 0, none⟩) n c) n (tbs S)) (hS : S.length = n) (hn : n ≤ 64) :
    Calls Tryz.prog 65 #[.slice (some ⟨q, 0, none⟩) n c, .func (.func 47) #[] #[]] w fun e w' => IxPost S n w e w' := by
  have H := Lib.hid h
  have HS := Lib.hid hS
  clear h hS
  go_enter Tryz.func65, Tryz.ntmps65
  go_wp2_with fail
  go_loopw [8] (fun v wr => ∃ i : Nat, i ≤ n ∧ v = .int .i64 i ∧ Below w.heap.size w wr ∧ ∀ j, j < i → (S.getD j noTb).len ≠ 0) (fun v _ => n - (intOf v).toNat)
  case atStart => exact ⟨0, by omega, rfl, Below.refl _ _, fun j hj => by omega⟩
  case round =>
    obtain ⟨i, hi, rfl, hbel, hno⟩ := hrel
    have HB := Lib.hid hbel
    have HNO := Lib.hid hno
    clear hbel hno
    by_cases hlt : i < n
    · have b0 : (0 : Int) ≤ (i : Int) := by omega
      have b1 : (i : Int) < (n : Int) := by omega
      have hct := row_tb (own_below H.out HB.out) i hlt _ (getD_at S i noTb (by rw [HS.out]; exact hlt))
      generalize ht : S.getD i noTb = t at *
      have HT := Lib.hid ht
      obtain ⟨h1, h2, h3, h4, h5, h6⟩ := hct
      clear ht
      have hE := fun W => empty_lit t.tag.a t.tag.b t.tag.c t.tag.d t.at_ t.len W
      have HE := Lib.hid hE
      clear hE
      by_cases h0 : t.len = 0
      · have d0 : decide (t.len = 0) = true := decide_eq_true h0
        have H0 := Lib.hid h0
        clear h0
        go_wp2_with (go_at_call 47; refine (HE.out _).mono ?_; rintro e w' ⟨rfl, rfl⟩)
        go_ret
        exact ⟨HB.out.alloc HB.out.size _, .inl ⟨i, hlt, rfl, HNO.out, by rw [HT.out]; exact H0.out⟩⟩
      · have d0 : decide (t.len = 0) = false := decide_eq_false h0
        have H0 := Lib.hid h0
        clear h0
        go_wp2_with (go_at_call 47; refine (HE.out _).mono ?_; rintro e w' ⟨rfl, rfl⟩)
        go_roundw
        case rel =>
          refine ⟨i + 1, by omega, by go_num, HB.out.alloc HB.out.size _, fun j hj => ?_⟩
          rcases Nat.lt_or_ge j i with hh | hh
          · exact HNO.out j hh
          · have : j = i := by omega
            subst this
            rw [HT.out]
            exact H0.out
        case measure => simp [intOf]; omega
    · go_wp2_with fail
      go_ret
      have hin : i = n := by omega
      exact ⟨HB.out, .inr ⟨rfl, fun j hj => HNO.out j (by omega)⟩⟩

def full (S : List Tb) : List Tb := S.filter fun t => decide (t.len ≠ 0)
def DelPost (T : TypeId) (B0 q c : Nat) (S : List Tb) (w : World) (e : Ending) (w' : World) : Prop :=
  e = .returned (.slice (some ⟨q, 0, none⟩) (full S).length c) ∧ w'.ownsRow B0 T 6 (.slice (some ⟨q, 0, none⟩) (full S).length c) (full S).length (tbs (full S)) ∧ Below B0 w w'
theorem full_take_succ (S : List Tb) (j : Nat) (h : j < S.length) : full (S.take (j + 1)) = full (S.take j) ++ (if (S.getD j noTb).len ≠ 0 then [S.getD j noTb] else []) := by
  rw [take_snoc S j noTb h]
  generalize S.getD j noTb = t
  simp only [full, List.filter_append]
  by_cases h0 : t.len = 0
  · simp [h0]
  · simp [h0]
theorem full_all (S : List Tb) (h : ∀ j, j < S.length → (S.getD j noTb).len ≠ 0) : full S = S := by
  refine List.filter_eq_self.2 fun t ht => ?_
  obtain ⟨j, hj⟩ := List.getElem?_of_mem ht
  have hjl : j < S.length := (List.getElem?_eq_some_iff.1 hj).1
  have := h j hjl
  rw [List.getD, hj] at this
  simpa using this

set_option maxRecDepth 100000 in
set_option maxHeartbeats 1000000 in
theorem delete_tb (q c n : Nat) (S : List Tb) (B0 : Nat) (w : World) (h : w.ownsRow B0 48 6 (.slice (some ⟨q, 0, none⟩) n c) n (tbs S)) (hS : S.length = n) (hn : n ≤ 64) (hB : B0 ≤ w.heap.size) :
    Calls Tryz.prog 45 #[.slice (some ⟨q, 0, none⟩) n c, .func (.func 47) #[] #[]] w fun e w' => DelPost 48 B0 q c S w e w' := by
  have hix := index_tb q c n S B0 w h hS hn
  have hqB : B0 ≤ q ∧ q < w.heap.size := h.lt q rfl
  have H := Lib.hid h
  have HS := Lib.hid hS
  have HIX := Lib.hid hix
  clear h hS hix
  go_enter Tryz.func45, Tryz.ntmps45
  go_wp2_with fail
  refine HIX.out.mono ?_
  rintro e w1 ⟨hb1, ⟨i0, hi0, rfl, hno, hz⟩ | ⟨rfl, hno⟩⟩
  · have HB1 := Lib.hid (hb1.mono hB)
    have HO1 := Lib.hid (own_below H.out hb1)
    have HNO := Lib.hid hno
    have HZ := Lib.hid hz
    clear hb1 hno hz
    have d0 : ((i0 : Int) == -1) = false := by simp
    have wr0 : IntKind.i64.wrap ((i0 : Int) + 1) = ((i0 + 1 : Nat) : Int) := IntWalk.i64_in _ (by omega)
    go_wp2_with fail
    go_loopw [5, 6] (fun iv jv wr => ∃ (i j : Nat) (T : List Tb), i < j ∧ j ≤ n ∧ iv = .int .i64 i ∧ jv = .int .i64 j ∧ T.length = n ∧ T.take i = full (S.take j) ∧ T.drop j = S.drop j ∧
      wr.ownsRow B0 48 6 (.slice (some ⟨q, 0, none⟩) n c) n (tbs T) ∧ Below B0 w wr) (fun _ jv _ => n - (intOf jv).toNat)
    case atStart =>
      refine ⟨i0, i0 + 1, S, by omega, by omega, rfl, by simp, HS.out, ?_, rfl, HO1.out, HB1.out⟩
      rw [full_take_succ S i0 (by rw [HS.out]; exact hi0), if_neg (by simpa using HZ.out), List.append_nil]
      refine (full_all _ fun j hj => ?_).symm
      have hj2 : j < i0 := by simp at hj; omega
      have := HNO.out j hj2
      simpa [List.getD, hj2] using this
    case round =>
      obtain ⟨i, j, T, hij, hj, rfl, rfl, hT, htk, hdr, hown, hbel⟩ := hrel
      have HT := Lib.hid hT
      have HTK := Lib.hid htk
      have HDR := Lib.hid hdr
      have HO := Lib.hid hown
      have HB := Lib.hid hbel
      clear hT htk hdr hown hbel
      by_cases hlt : j < n
      · have b0 : (0 : Int) ≤ (j : Int) := by omega
        have b1 : (j : Int) < (n : Int) := by omega
        have b2 : (0 : Int) ≤ (i : Int) := by omega
        have b3 : (i : Int) < (n : Int) := by omega
        have htj : T[j]? = some (S.getD j noTb) := by
          have e1 : T[j]? = (T.drop j)[0]? := by simp
          rw [e1, HDR.out]
          simp [List.getD, show j < S.length from by rw [HS.out]; exact hlt]
        obtain ⟨h1, h2, h3, h4, h5, h6⟩ := row_tb HO.out j hlt _ htj
        have hti := getD_at T i noTb (by rw [HT.out]; omega)
        obtain ⟨g1, g2, g3, g4, g5, g6⟩ := row_tb HO.out i (by omega) _ hti
        have k0 := HO.out.frozenAt (i * 6)
        have k1 := HO.out.frozenAt (i * 6 + 1)
        have k2 := HO.out.frozenAt (i * 6 + 2)
        have k3 := HO.out.frozenAt (i * 6 + 3)
        have k4 := HO.out.frozenAt (i * 6 + 4)
        have k5 := HO.out.frozenAt (i * 6 + 5)
        have hfs := full_take_succ S j (by rw [HS.out]; exact hlt)
        have HFS := Lib.hid hfs
        have HTJ := Lib.hid htj
        clear hfs htj hti
        generalize S.getD j noTb = t at *
        generalize T.getD i noTb = u at *
        have hqs : q < wr.heap.size := (HO.out.lt q rfl).2
        have HE := Lib.hid (fun W => empty_lit t.tag.a t.tag.b t.tag.c t.tag.d t.at_ t.len W)
        by_cases h0 : t.len = 0
        · have d1 : decide (t.len = 0) = true := decide_eq_true h0
          have H0 := Lib.hid h0
          clear h0
          go_wp2_with (go_at_call 47; refine (HE.out _).mono ?_; rintro e w' ⟨rfl, rfl⟩)
          go_roundw
          case rel =>
            refine ⟨i, j + 1, T, by omega, by omega, rfl, by go_num, HT.out, ?_, ?_, HO.out.alloc _ |>.alloc _, (HB.out.alloc (by have := HB.out.size; omega) _).alloc (by have := HB.out.size; simp; omega) _⟩
            · rw [HFS.out, if_neg (by simpa using H0.out), List.append_nil]; exact HTK.out
            · have := congrArg (List.drop 1) HDR.out
              simpa [List.drop_drop, Nat.add_comm] using this
          case measure => simp [intOf]; omega
        · have d1 : decide (t.len = 0) = false := decide_eq_false h0
          have H0 := Lib.hid h0
          clear h0
          go_wp2_with (go_at_call 47; refine (HE.out _).mono ?_; rintro e w' ⟨rfl, rfl⟩)
          have ho6 := own_setCellsK t.cells (i * 6) wr (tbs T) HO.out (by show i * 6 + 6 ≤ n * 6; omega)
          rw [tbs_set T i t (by rw [HT.out]; omega)] at ho6
          have hb6 := below_setCells t.cells (i * 6) wr HB.out hqB.1
          have hs6 : (wr.setCells q (i * 6) t.cells).heap.size = wr.heap.size := by simp [World.setCells, Tb.cells, Tg.cells]
          go_roundw
          case rel =>
            refine ⟨i + 1, j + 1, T.set i t, by omega, by omega, by go_num, by go_num, by rw [List.length_set]; exact HT.out, ?_, ?_, (ho6.alloc _).alloc _, (hb6.alloc (by have := HB.out.size; omega) _).alloc (by have := HB.out.size; simp; omega) _⟩
            · rw [HFS.out, if_pos H0.out, ← HTK.out, List.take_succ_eq_append_getElem (by rw [List.length_set, HT.out]; omega), List.take_set, List.set_eq_of_length_le (by simp; omega)]
              simp
            · rw [List.drop_set_of_lt (by omega)]
              have := congrArg (List.drop 1) HDR.out
              simpa [List.drop_drop, Nat.add_comm] using this
          case measure => simp [intOf]; omega
      · have hjn : j = n := by omega
        have b0 : (0 : Int) ≤ (i : Int) := by omega
        have b1 : (i : Int) ≤ (n : Int) := by omega
        have hci := own_pos HO.out (by omega)
        obtain ⟨_, -, hnc, hcm, -, -⟩ := hci
        have b2 : (i : Int) ≤ (c : Int) := by omega
        have n1 : ¬ c = i := by omega
        obtain ⟨zs, hzl, hcl⟩ := run_clear_rows (P := Tryz.prog) wr 44 48 0 (.agg #[.int .u8 0, .int .u8 0, .int .u8 0, .int .u8 0, .int .i64 0, .int .i64 0]) Tryz.underlying44 Tryz.zeroValue48 6 rfl (by intro v hv; simp [Value.cells] at hv; rcases hv with rfl | rfl <;> rfl) (by decide) q (i * 6) (n - i) (c - i) (by omega) (fun k hk => by
            rw [HO.out.cellAt (i * 6 + k) (by omega), List.getElem?_eq_getElem (by rw [tbs_length, HT.out]; omega)]; rfl) (fun k hk => HO.out.frozenAt (i * 6 + k))
        have ho7 := own_cut (own_setCellsK zs (i * 6) wr (tbs T) HO.out (by rw [hzl]; omega)) (show i ≤ n by omega)
        have hb7 := below_setCells zs (i * 6) wr HB.out hqB.1
        have htk : ((tbs T).take (i * 6) ++ zs ++ (tbs T).drop (i * 6 + zs.length)).take (i * 6) = tbs (full S) := by
          rw [List.append_assoc, List.take_append_of_le_length (by rw [List.length_take, tbs_length, HT.out]; omega), List.take_take, Nat.min_self, tbs_take, HTK.out, List.take_of_length_le (by rw [HS.out]; omega)]
        rw [htk] at ho7
        have hlen : (full S).length = i := by
          have := congrArg List.length HTK.out
          rw [List.length_take, HT.out, List.take_of_length_le (by rw [HS.out]; omega)] at this
          omega
        have HO7 := Lib.hid ho7
        have HB7 := Lib.hid hb7
        have HLEN := Lib.hid hlen
        clear htk hlen ho7 hb7 hzl hjn
        go_wp2_with fail

        go_ret
        show DelPost _ B0 q c S w _ _
        unfold DelPost
        rw [HLEN.out]
        exact ⟨rfl, HO7.out, HB7.out⟩
  · have HB1 := Lib.hid (hb1.mono hB)
    have HO1 := Lib.hid (own_below H.out hb1)
    have hfull := full_all S (fun j hj => hno j (by rw [← HS.out]; exact hj))
    have HF := Lib.hid hfull
    clear hb1 hno hfull
    go_wp2_with fail
    go_ret
    show DelPost _ B0 q c S w _ _
    unfold DelPost
    rw [HF.out, HS.out]
    exact ⟨rfl, HO1.out, HB1.out⟩
end Go.Proofs.YtfbppbelcbbhlaaGreatDoor.Sf
