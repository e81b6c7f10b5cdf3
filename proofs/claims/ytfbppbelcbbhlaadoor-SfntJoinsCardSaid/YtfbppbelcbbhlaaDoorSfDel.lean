/- slices.IndexFunc and slices.DeleteFunc at tables: those without bytes go. -/
import Derived.Test.YtfbppbelcbbhlaaDoorSfSort
namespace Go.Proofs.YtfbppbelcbbhlaaDoor.Sf
open Go Go.RowKit

def noTb : Tb := ⟨noTag, 0, 0⟩
theorem empty_lit (a b c d at_ len : Nat) (w : World) :
    Calls Tryd.prog 33 #[.agg #[.int .u8 a, .int .u8 b, .int .u8 c, .int .u8 d, .int .i64 at_, .int .i64 len]] w fun e w' => e = .returned (.bool (decide (len = 0))) ∧ w' = w.alloc (.cells #[.int .u8 a, .int .u8 b, .int .u8 c, .int .u8 d, .int .i64 at_, .int .i64 len] 41) :=
  empty_ok ⟨⟨a, b, c, d⟩, at_, len⟩ w

def IxPost (S : List Tb) (n : Nat) (w : World) (e : Ending) (w' : World) : Prop :=
  Below w.heap.size w w' ∧ ((∃ i : Nat, i < n ∧ e = .returned (.int .i64 i) ∧ (∀ j, j < i → (S.getD j noTb).len ≠ 0) ∧ (S.getD i noTb).len = 0) ∨ (e = .returned (.int .i64 (-1)) ∧ ∀ j, j < n → (S.getD j noTb).len ≠ 0))

set_option maxHeartbeats 1000000 in
theorem index_tb (q c n : Nat) (S : List Tb) (B0 : Nat) (w : World) (h : w.ownsRow B0 41 6 (.slice (some ⟨q, 0, none⟩) n c) n (tbs S)) (hS : S.length = n) (hn : n ≤ 64) :
    Calls Tryd.prog 55 #[.slice (some ⟨q, 0, none⟩) n c, .func (.func 33) #[] #[]] w fun e w' => IxPost S n w e w' := by
  have H := Lib.hid h
  have HS := Lib.hid hS
  clear h hS
  go_enter Tryd.func55, Tryd.ntmps55
  go_wp2_with fail
  go_loopw [8] (fun v wr => ∃ i : Nat, i ≤ n ∧ v = .int .i64 i ∧ Below w.heap.size w wr ∧ ∀ j, j < i → (S.getD j noTb).len ≠ 0) (fun v _ => n - (intOf v).toNat)
  case atStart => exact ⟨0, by omega, rfl, Below.refl _ _, fun j hj => by omega⟩
  case round =>
    obtain ⟨i, hi, rfl, hbel, hno⟩ := hrel
    have HB := Lib.hid hbel
    have HNO := Lib.hid hno
    clear hbel hno
    by_cases hlt : i < n
    · have b0 : (0 : Int) ≤ (i : Int) := by omega
      have b1 : (i : Int) < (n : Int) := by omega
      have hct := row_tb (own_below H.out HB.out) i hlt _ (getD_at S i noTb (by rw [HS.out]; exact hlt))
      generalize ht : S.getD i noTb = t at *
      have HT := Lib.hid ht
      obtain ⟨h1, h2, h3, h4, h5, h6⟩ := hct
      clear ht
      have hE := fun W => empty_lit t.tag.a t.tag.b t.tag.c t.tag.d t.at_ t.len W
      have HE := Lib.hid hE
      clear hE
      by_cases h0 : t.len = 0
      · have d0 : decide (t.len = 0) = true := decide_eq_true h0
        have H0 := Lib.hid h0
        clear h0
        go_wp2_with (go_at_call 33; refine (HE.out _).mono ?_; rintro e w' ⟨rfl, rfl⟩)
        go_ret
        exact ⟨HB.out.alloc HB.out.size _, .inl ⟨i, hlt, rfl, HNO.out, by rw [HT.out]; exact H0.out⟩⟩
      · have d0 : decide (t.len = 0) = false := decide_eq_false h0
        have H0 := Lib.hid h0
        clear h0
        go_wp2_with (go_at_call 33; refine (HE.out _).mono ?_; rintro e w' ⟨rfl, rfl⟩)
        go_roundw
        case rel =>
          refine ⟨i + 1, by omega, by go_num, HB.out.alloc HB.out.size _, fun j hj => ?_⟩
          rcases Nat.lt_or_ge j i with hh | hh
          · exact HNO.out j hh
          · have : j = i := by omega
            subst this
            rw [HT.out]
            exact H0.out
        case measure => simp [intOf]; omega
    · go_wp2_with fail
      go_ret
      have hin : i = n := by omega
      exact ⟨HB.out, .inr ⟨rfl, fun j hj => HNO.out j (by omega)⟩⟩

def full (S : List Tb) : List Tb := S.filter fun t => decide (t.len ≠ 0)
def DelPost (T : TypeId) (B0 q c : Nat) (S : List Tb) (w : World) (e : Ending) (w' : World) : Prop :=
  e = .returned (.slice (some ⟨q, 0, none⟩) (full S).length c) ∧ w'.ownsRow B0 T 6 (.slice (some ⟨q, 0, none⟩) (full S).length c) (full S).length (tbs (full S)) ∧ Below B0 w w'
theorem full_take_succ (S : List Tb) (j : Nat) (h : j < S.length) : full (S.take (j + 1)) = full (S.take j) ++ (if (S.getD j noTb).len ≠ 0 then [S.getD j noTb] else []) := by
  rw [take_snoc S j noTb h]
  generalize S.getD j noTb = t
  simp only [full, List.filter_append]
  by_cases h0 : t.len = 0
  · simp [h0]
  · simp [h0]
theorem full_all (S : List Tb) (h : ∀ j, j < S.length → (S.getD j noTb).len ≠ 0) : full S = S := by
  refine List.filter_eq_self.2 fun t ht => ?_
  obtain ⟨j, hj⟩ := List.getElem?_of_mem ht
  have hjl : j < S.length := (List.getElem?_eq_some_iff.1 hj).1
  have := h j hjl
  rw [List.getD, hj] at this
  simpa using this

set_option maxRecDepth 100000 in
set_option maxHeartbeats 1000000 in
theorem delete_tb (q c n : Nat) (S : List Tb) (B0 : Nat) (w : World) (h : w.ownsRow B0 41 6 (.slice (some ⟨q, 0, none⟩) n c) n (tbs S)) (hS : S.length = n) (hn : n ≤ 64) (hB : B0 ≤ w.heap.size) :
    Calls Tryd.prog 31 #[.slice (some ⟨q, 0, none⟩) n c, .func (.func 33) #[] #[]] w fun e w' => DelPost 41 B0 q c S w e w' := by
  have hix := index_tb q c n S B0 w h hS hn
  have hqB : B0 ≤ q ∧ q < w.heap.size := h.lt q rfl
  have H := Lib.hid h
  have HS := Lib.hid hS
  have HIX := Lib.hid hix
  clear h hS hix
  go_enter Tryd.func31, Tryd.ntmps31
  go_wp2_with fail
  refine HIX.out.mono ?_
  rintro e w1 ⟨hb1, ⟨i0, hi0, rfl, hno, hz⟩ | ⟨rfl, hno⟩⟩
  · have HB1 := Lib.hid (hb1.mono hB)
    have HO1 := Lib.hid (own_below H.out hb1)
    have HNO := Lib.hid hno
    have HZ := Lib.hid hz
    clear hb1 hno hz
    have d0 : ((i0 : Int) == -1) = false := by simp
    have wr0 : IntKind.i64.wrap ((i0 : Int) + 1) = ((i0 + 1 : Nat) : Int) := IntWalk.i64_in _ (by omega)
    go_wp2_with fail
    go_loopw [5, 6] (fun iv jv wr => ∃ (i j : Nat) (T : List Tb), i < j ∧ j ≤ n ∧ iv = .int .i64 i ∧ jv = .int .i64 j ∧ T.length = n ∧ T.take i = full (S.take j) ∧ T.drop j = S.drop j ∧
      wr.ownsRow B0 41 6 (.slice (some ⟨q, 0, none⟩) n c) n (tbs T) ∧ Below B0 w wr) (fun _ jv _ => n - (intOf jv).toNat)
    case atStart =>
      refine ⟨i0, i0 + 1, S, by omega, by omega, rfl, by simp, HS.out, ?_, rfl, HO1.out, HB1.out⟩
      rw [full_take_succ S i0 (by rw [HS.out]; exact hi0), if_neg (by simpa using HZ.out), List.append_nil]
      refine (full_all _ fun j hj => ?_).symm
      have hj2 : j < i0 := by simp at hj; omega
      have := HNO.out j hj2
      simpa [List.getD, hj2] using this
    case round =>
      obtain ⟨i, j, T, hij, hj, rfl, rfl, hT, htk, hdr, hown, hbel⟩ := hrel
      have HT := Lib.hid hT
      have HTK := Lib.hid htk
      have HDR := Lib.hid hdr
      have HO := Lib.hid hown
      have HB := Lib.hid hbel
      clear hT htk hdr hown hbel
      by_cases hlt : j < n
      · have b0 : (0 : Int) ≤ (j : Int) := by omega
        have b1 : (j : Int) < (n : Int) := by omega
        have b2 : (0 : Int) ≤ (i : Int) := by omega
        have b3 : (i : Int) < (n : Int) := by omega
        have htj : T[j]? = some (S.getD j noTb) := by
          have e1 : T[j]? = (T.drop j)[0]? := by simp
          rw [e1, HDR.out]
          simp [List.getD, show j < S.length from by rw [HS.out]; exact hlt]
        obtain ⟨h1, h2, h3, h4, h5, h6⟩ := row_tb HO.out j hlt _ htj
        have hti := getD_at T i noTb (by rw [HT.out]; omega)
        obtain ⟨g1, g2, g3, g4, g5, g6⟩ := row_tb HO.out i (by omega) _ hti
        have k0 := HO.out.frozenAt (i * 6)
        have k1 := HO.out.frozenAt (i * 6 + 1)
        have k2 := HO.out.frozenAt (i * 6 + 2)
        have k3 := HO.out.frozenAt (i * 6 + 3)
        have k4 := HO.out.frozenAt (i * 6 + 4)
        have k5 := HO.out.frozenAt (i * 6 + 5)
        have hfs := full_take_succ S j (by rw [HS.out]; exact hlt)
        have HFS := Lib.hid hfs
        have HTJ := Lib.hid htj
        clear hfs htj hti
        generalize S.getD j noTb = t at *
        generalize T.getD i noTb = u at *
        have hqs : q < wr.heap.size := (HO.out.lt q rfl).2
        have HE := Lib.hid (fun W => empty_lit t.tag.a t.tag.b t.tag.c t.tag.d t.at_ t.len W)
        by_cases h0 : t.len = 0
        · have d1 : decide (t.len = 0) = true := decide_eq_true h0
          have H0 := Lib.hid h0
          clear h0
          go_wp2_with (go_at_call 33; refine (HE.out _).mono ?_; rintro e w' ⟨rfl, rfl⟩)
          go_roundw
          case rel =>
            refine ⟨i, j + 1, T, by omega, by omega, rfl, by go_num, HT.out, ?_, ?_, HO.out.alloc _ |>.alloc _, (HB.out.alloc (by have := HB.out.size; omega) _).alloc (by have := HB.out.size; simp; omega) _⟩
            · rw [HFS.out, if_neg (by simpa using H0.out), List.append_nil]; exact HTK.out
            · have := congrArg (List.drop 1) HDR.out
              simpa [List.drop_drop, Nat.add_comm] using this
          case measure => simp [intOf]; omega
        · have d1 : decide (t.len = 0) = false := decide_eq_false h0
          have H0 := Lib.hid h0
          clear h0
          go_wp2_with (go_at_call 33; refine (HE.out _).mono ?_; rintro e w' ⟨rfl, rfl⟩)
          have ho6 := own_setCellsK t.cells (i * 6) wr (tbs T) HO.out (by show i * 6 + 6 ≤ n * 6; omega)
          rw [tbs_set T i t (by rw [HT.out]; omega)] at ho6
          have hb6 := below_setCells t.cells (i * 6) wr HB.out hqB.1
          have hs6 : (wr.setCells q (i * 6) t.cells).heap.size = wr.heap.size := by simp [World.setCells, Tb.cells, Tg.cells]
          go_roundw
          case rel =>
            refine ⟨i + 1, j + 1, T.set i t, by omega, by omega, by go_num, by go_num, by rw [List.length_set]; exact HT.out, ?_, ?_, (ho6.alloc _).alloc _, (hb6.alloc (by have := HB.out.size; omega) _).alloc (by have := HB.out.size; simp; omega) _⟩
            · rw [HFS.out, if_pos H0.out, ← HTK.out, List.take_succ_eq_append_getElem (by rw [List.length_set, HT.out]; omega), List.take_set, List.set_eq_of_length_le (by simp; omega)]
              simp
            · rw [List.drop_set_of_lt (by omega)]
              have := congrArg (List.drop 1) HDR.out
              simpa [List.drop_drop, Nat.add_comm] using this
          case measure => simp [intOf]; omega
      · have hjn : j = n := by omega
        have b0 : (0 : Int) ≤ (i : Int) := by omega
        have b1 : (i : Int) ≤ (n : Int) := by omega
        have hci := own_pos HO.out (by omega)
        obtain ⟨_, -, hnc, hcm, -, -⟩ := hci
        have b2 : (i : Int) ≤ (c : Int) := by omega
        have n1 : ¬ c = i := by omega
        obtain ⟨zs, hzl, hcl⟩ := run_clear_rows (P := Tryd.prog) wr 24 41 0 (.agg #[.int .u8 0, .int .u8 0, .int .u8 0, .int .u8 0, .int .i64 0, .int .i64 0]) Tryd.underlying24 Tryd.zeroValue41 6 rfl (by intro v hv; simp [Value.cells] at hv; rcases hv with rfl | rfl <;> rfl) (by decide) q (i * 6) (n - i) (c - i) (by omega) (fun k hk => by
            rw [HO.out.cellAt (i * 6 + k) (by omega), List.getElem?_eq_getElem (by rw [tbs_length, HT.out]; omega)]; rfl) (fun k hk => HO.out.frozenAt (i * 6 + k))
        have ho7 := own_cut (own_setCellsK zs (i * 6) wr (tbs T) HO.out (by rw [hzl]; omega)) (show i ≤ n by omega)
        have hb7 := below_setCells zs (i * 6) wr HB.out hqB.1
        have htk : ((tbs T).take (i * 6) ++ zs ++ (tbs T).drop (i * 6 + zs.length)).take (i * 6) = tbs (full S) := by
          rw [List.append_assoc, List.take_append_of_le_length (by rw [List.length_take, tbs_length, HT.out]; omega), List.take_take, Nat.min_self, tbs_take, HTK.out, List.take_of_length_le (by rw [HS.out]; omega)]
        rw [htk] at ho7
        have hlen : (full S).length = i := by
          have := congrArg List.length HTK.out
          rw [List.length_take, HT.out, List.take_of_length_le (by rw [HS.out]; omega)] at this
          omega
        have HO7 := Lib.hid ho7
        have HB7 := Lib.hid hb7
        have HLEN := Lib.hid hlen
        clear htk hlen ho7 hb7 hzl hjn
        go_wp2_with fail

        go_ret
        show DelPost _ B0 q c S w _ _
        unfold DelPost
        rw [HLEN.out]
        exact ⟨rfl, HO7.out, HB7.out⟩
  · have HB1 := Lib.hid (hb1.mono hB)
    have HO1 := Lib.hid (own_below H.out hb1)
    have hfull := full_all S (fun j hj => hno j (by rw [← HS.out]; exact hj))
    have HF := Lib.hid hfull
    clear hb1 hno hfull
    go_wp2_with fail
    go_ret
    show DelPost _ B0 q c S w _ _
    unfold DelPost
    rw [HF.out, HS.out]
    exact ⟨rfl, HO1.out, HB1.out⟩
end Go.Proofs.YtfbppbelcbbhlaaDoor.Sf
