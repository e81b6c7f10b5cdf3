/- The reference's Maps (printed by gen/refmaps.py). -/
import Derived.Test.YtfbppbelcbbhlaaGreatDoorKnMaps
import Derived.Test.YtfbppbelcbbhlaaGreatDoorKnSgRef
import Derived.Test.YtfbppbelcbbhlaaGreatDoorKnMapF
import Derived.Laws.StructEq
namespace Go.Proofs.YtfbppbelcbbhlaaGreatDoor.Sf
open Go Go.RowKit

theorem grAll_bounds {t : List Nat} {k : Nat} (h : ∀ i, i < k → grGood t i) : ∀ x ∈ grAll t k, x.1 < 1114112 ∧ x.2 < 65536 := by
  intro x hx
  simp only [grAll, List.mem_flatMap, List.mem_range, grRow, List.mem_map] at hx
  obtain ⟨i, hi, j, hj, rfl⟩ := hx
  obtain ⟨g1, g2, g3, g4⟩ := h i hi
  simp
  omega
theorem sgAll_bounds {t : List Nat} {k : Nat} (h : ∀ i, i < k → sgEnd t i < 65536) : ∀ x ∈ sgAll t k, x.1 < 1114112 ∧ x.2 < 65536 := by
  intro x hx
  simp only [sgAll, List.mem_flatMap, List.mem_range, sgRow, List.mem_map] at hx
  obtain ⟨i, hi, j, hj, rfl⟩ := hx
  have h1 := h i hi
  refine ⟨by simp; omega, ?_⟩
  simp only [sgGlyph]
  split
  · omega
  · split
    · omega
    · omega
theorem mp_bounds {t : List Nat} {f : Nat} (h255 : ∀ x ∈ t, x < 256) (h : mpOk t f) : Rises (mpFull t f) ∧ (∀ x ∈ mpFull t f, x.1 < 1114112 ∧ x.2 < 65536) := by
  unfold mpOk at h
  unfold mpFull
  split
  · rename_i hf
    rw [if_pos hf] at h
    refine ⟨(sgAll_rises t _ (fun i hi => (h.2 i hi).1)).1, sgAll_bounds (fun i hi => ?_)⟩
    have h1 := h.1.2.2.2.1
    have h2 := h.1.2.2.2.2.1
    exact numAt_two_lt t _ h255 (by omega)
  · rename_i hf
    rw [if_neg hf] at h
    exact ⟨(grAll_rises t _ h.2).1, grAll_bounds h.2⟩
/-- A row of characters, read. -/
theorem mpCells_get (L : List (Nat × Nat)) (i : Nat) (h : i < L.length) : (mpCells L)[i * 2]? = some (.int .i32 ((L.getD i (0, 0)).1 : Nat)) ∧ (mpCells L)[i * 2 + 1]? = some (.int .u16 ((L.getD i (0, 0)).2 : Nat)) := by
  induction L generalizing i with
  | nil => simp at h
  | cons x L ih =>
    have hx : mpCells (x :: L) = .int .i32 (x.1 : Nat) :: .int .u16 (x.2 : Nat) :: mpCells L := rfl
    rw [hx]
    rcases i with _ | i
    · simp [List.getD]
    · have := ih i (by simpa using h)
      rw [show (i + 1) * 2 = i * 2 + 1 + 1 from by omega]
      simpa [List.getD] using this
theorem row_mp {W : World} {base n c : Nat} {A : Option Addr} {L : List (Nat × Nat)} (h : W.ownsRow base 93 2 (.slice A n c) n (mpCells L)) (hL : L.length = n) (i : Nat) (hi : i < n) :
    ∃ q, A = some ⟨q, 0, none⟩ ∧ n ≤ c ∧ W.cell? ⟨q, i * 2, none⟩ = some (.int .i32 ((L.getD i (0, 0)).1 : Nat)) ∧ W.cell? ⟨q, i * 2 + 1, none⟩ = some (.int .u16 ((L.getD i (0, 0)).2 : Nat)) := by
  obtain ⟨q, rfl, h1, h2, h3, h4⟩ := own_pos h (by omega)
  obtain ⟨g1, g2⟩ := mpCells_get L i (by omega)
  exact ⟨q, rfl, by assumption, (h.cellAt (i * 2) (by omega)).trans g1, (h.cellAt (i * 2 + 1) (by omega)).trans g2⟩
theorem byt_drop {W : World} {A : Option Addr} {cap p : Nat} {l : List Nat} (h : Byt W A cap l) (hp : p + 2 ≤ l.length) : ∃ b bo, A = some ⟨b, bo, none⟩ ∧ Byt W (some ⟨b, bo + p, none⟩) (cap - p) (l.drop p) := by
  obtain ⟨b, bo, rfl, hc⟩ := h.cells (by omega)
  have := h.le
  have := h.max
  exact ⟨b, bo, rfl, by simp; omega, by omega, (fun h => by cases h), fun _ => ⟨b, bo + p, rfl, Rdr.drop_by hc (by omega)⟩, fun x hx => h.lt x (List.mem_of_mem_drop hx)⟩

def ListRes (w : World) (ok : Prop) (full : List (Nat × Nat)) (lv ov : Value) (wx : World) : Prop :=
  Below w.heap.size w wx ∧ ((ok ∧ ∃ A c, lv = .slice A full.length c ∧ ov = .bool true ∧ wx.ownsRow w.heap.size 93 2 (.slice A full.length c) full.length (mpCells full)) ∨ (¬ ok ∧ lv = .slice none 0 0 ∧ ov = .bool false))

set_option maxRecDepth 100000 in
set_option maxHeartbeats 4000000 in
theorem maps_ref (A : Option Addr) (cap : Nat) (l : List Nat) (g : Int) (w : World) (hb : Byt w A cap l) (hr : l.length ≤ 140737488355328) :
    Calls Tryz.prog 59 #[.slice A l.length cap, .int .i64 g] w fun e w' => MapsPost w (mapsF l g) e w' := by
  have HB := Lib.hid hb
  have HC := Lib.hid (counts_ref A cap l w hb hr)
  have hle := hb.le
  have hmax := hb.max
  clear hb
  by_cases hno : ¬ cmOk l ∨ cmBest l (cmN l) = none
  · have hno2 : Hid (mapsF l g = none) := Lib.hid (by
      rcases hno with hno | hno
      · exact mapsF_wrong hno
      · exact mapsF_lack hno)
    have HC1 : Hid (Calls Tryz.prog 76 #[.slice A l.length cap] w fun e w' => e = .returned (.tuple #[.int .i64 (-1), .int .i64 0]) ∧ w = w') := Lib.hid (HC.out.mono (by
      rintro e w' ⟨rfl, (⟨p, f, hok, hbest, rfl⟩ | ⟨_, rfl⟩)⟩
      · exfalso
        rcases hno with hno | hno
        · exact hno hok
        · rw [hno] at hbest; cases hbest
      · exact ⟨rfl, rfl⟩))
    clear hno HC
    go_enter Tryz.func59, Tryz.ntmps59
    go_wp2_with (go_at_call 76; refine HC1.out.mono ?_; rintro e w' ⟨rfl, rfl⟩)
    go_ret2
    show MapsPost w _ _ _
    rw [hno2.out]
    exact ⟨rfl, Below.refl _ _⟩
  obtain ⟨p, f, hok, hbest⟩ : ∃ p f, cmOk l ∧ cmBest l (cmN l) = some (p, f) := by
    rcases hbk : cmBest l (cmN l) with _ | ⟨p, f⟩
    · exact absurd (.inr hbk) hno
    · exact ⟨p, f, Classical.byContradiction (fun h => hno (.inl h)), rfl⟩
  have HC1 : Hid (Calls Tryz.prog 76 #[.slice A l.length cap] w fun e w' => e = .returned (.tuple #[.int .i64 (p : Nat), .int .i64 (f : Nat)]) ∧ w = w') := Lib.hid (HC.out.mono (by
    rintro e w' ⟨rfl, (⟨p2, f2, hok, hbest2, rfl⟩ | ⟨h, _⟩)⟩
    · rw [hbest] at hbest2
      cases hbest2
      exact ⟨rfl, rfl⟩
    · exact absurd h hno))
  obtain ⟨hf, hp2, -⟩ := cmBest_form l _ p f hbest
  obtain ⟨b, bo, rfl, hyt⟩ := byt_drop HB.out hp2
  have HYT := Lib.hid hyt
  have hdl : (l.drop p).length = l.length - p := List.length_drop
  have hgr := groups_ref _ _ (l.drop p) w hyt (by omega)
  have hsr := fun (W : World) (hW : Below w.heap.size w W) => segments_ref _ _ (l.drop p) W (hyt.below hW) (by omega)
  rw [hdl] at hgr hsr
  have HGR := Lib.hid hgr
  have HSR := Lib.hid hsr
  have HOK := Lib.hid hok
  have HBEST := Lib.hid hbest
  have HF := Lib.hid hf
  have h255 := Lib.hid HYT.out.lt
  have HNO : Hid (¬ (mpOk (l.drop p) f ∧ ∀ x ∈ mpFull (l.drop p) f, ¬ mpBad g x) → mapsF l g = none) := Lib.hid (fun h => mapsF_no hbest h)
  have HYES : Hid (mpOk (l.drop p) f → (∀ x ∈ mpFull (l.drop p) f, ¬ mpBad g x) → mapsF l g = some (mpKept (mpFull (l.drop p) f))) := Lib.hid (fun h1 h2 => mapsF_yes hok hbest h1 h2)
  clear hno HC hgr hsr hok hbest hf hyt hdl
  have dp : decide ((p : Int) < 0) = false := decide_eq_false (by omega)
  have bp : (0 : Int) ≤ (p : Int) := by omega
  have bl : (p : Int) ≤ (l.length : Int) := by omega
  have n1 : ¬ cap = p := by omega
  go_enter Tryz.func59, Tryz.ntmps59
  go_upto_region 4 with (go_at_call 76; refine HC1.out.mono ?_; rintro e w' ⟨rfl, rfl⟩)
  go_cut [8, 9] from 19 to 26 (fun lv ov wx => ListRes w (grOk (l.drop p)) (grAll (l.drop p) (grN (l.drop p))) lv ov wx)
  case first =>
    go_wp2_with (go_at_call 77; refine HGR.out.mono ?_; rintro e w1 ⟨hb1, (⟨hok1, A2, c2, rfl, ho1⟩ | ⟨hno1, rfl⟩)⟩)
    · go_meet
      case rel => exact ⟨hb1, .inl ⟨hok1, A2, c2, rfl, rfl, ho1⟩⟩
    · go_meet
      case rel => exact ⟨hb1, .inr ⟨hno1, rfl, rfl⟩⟩
  case rest =>
  have HCUT := Lib.hid hcut
  have hbc := Lib.hid hcut.1
  clear hcut HGR
  go_upto_if 27 with (fail)
  go_cut [8, 9] from 26 to 35 (fun lv ov wx => ListRes w (mpOk (l.drop p) f) (mpFull (l.drop p) f) lv ov wx)
  case first =>
    rcases HF.out with rfl | rfl
    · go_wp2_with fail
      go_meet
      case rel => exact HCUT.out
    · have HS1 := Lib.hid (HSR.out _ hbc.out)
      go_wp2_with (go_at_call 78; refine HS1.out.mono ?_; rintro e w1 ⟨hb1, (⟨hok1, A2, c2, rfl, ho1⟩ | ⟨hno1, rfl⟩)⟩)
      · go_meet
        case rel => exact ⟨hbc.out.trans (hb1.mono hbc.out.size), .inl ⟨hok1, A2, c2, rfl, rfl, own_lower ho1 hbc.out.size⟩⟩
      · go_meet
        case rel => exact ⟨hbc.out.trans (hb1.mono hbc.out.size), .inr ⟨hno1, rfl, rfl⟩⟩
  case rest =>
  clear HCUT hbc HSR HF
  generalize hL : mpFull (l.drop p) f = L at *
  obtain ⟨hb2, (⟨hok2, A2, c2, rfl, rfl, ho2⟩ | ⟨hno2, rfl, rfl⟩)⟩ := hcut
  rotate_left
  · have hno3 : Hid (mapsF l g = none) := Lib.hid (HNO.out (fun h => hno2 h.1))
    have HB2 := Lib.hid hb2
    clear hno2 hb2
    go_wp2_with fail
    go_ret2
    show MapsPost w _ _ _
    rw [hno3.out]
    exact ⟨rfl, HB2.out⟩
  obtain ⟨W2, hW2⟩ : ∃ W2, W2 = wc := ⟨_, rfl⟩
  rw [← hW2] at hb2 ho2 ⊢
  clear hW2
  have hbd := mp_bounds HYT.out.lt hok2
  rw [hL] at hbd
  obtain ⟨hris, hbnd⟩ := hbd
  have hlen := rises_length hris 1114112 (fun x hx => (hbnd x hx).1)
  have HYES2 := Lib.hid (HYES.out hok2)
  have HNO2 : Hid ((∃ x ∈ L, mpBad g x) → mapsF l g = none) := Lib.hid (fun ⟨x, hx, hb⟩ => HNO.out (fun h => h.2 x hx hb))
  have HB2 := Lib.hid hb2
  have HO2 := Lib.hid ho2
  have HBND := Lib.hid hbnd
  obtain ⟨N, hN⟩ : ∃ N, N = L.length := ⟨_, rfl⟩
  rw [← hN] at HO2 hlen ⊢
  have HN := Lib.hid hN
  clear hris hbnd hb2 ho2 hok2 hL hN HYES HNO
  go_wp2_with fail
  go_loopw [10, 11] (fun v iv wr => ∃ (k m : Nat) (A' : Option Addr) (c' : Nat), k ≤ N ∧ iv = .int .i64 k ∧ v = .slice A' m c' ∧ Hid (m = (mpKept (L.take k)).length) ∧ wr.ownsRow W2.heap.size 93 2 (.slice A' m c') m (mpCells (mpKept (L.take k))) ∧ Below W2.heap.size W2 wr ∧ ∀ x ∈ L.take k, ¬ mpBad g x) (fun _ iv _ => N - (intOf iv).toNat)
  case atStart => exact ⟨0, 0, none, 0, Nat.zero_le _, rfl, rfl, Lib.hid rfl, World.ownsRow_nil _ _ _ _, Below.refl _ _, fun x hx => by simp at hx⟩
  case round =>
    obtain ⟨k, m, A', c', hk, rfl, rfl, hm, hown, hbel, hnb⟩ := hrel
    have HO3 := Lib.hid hown
    have HB3 := Lib.hid hbel
    have HNB := Lib.hid hnb
    clear hown hbel hnb
    by_cases hlt : k < N
    · obtain ⟨q, hA, hnc, r1, r2⟩ := row_mp (own_below HO2.out HB3.out) HN.out.symm k hlt
      have hmem : L.getD k (0, 0) ∈ L := by
        have h5 : k < L.length := by rw [← HN.out]; exact hlt
        simp [List.getD, h5]
      have htk : L.take (k + 1) = L.take k ++ [L.getD k (0, 0)] := take_snoc L k _ (by rw [← HN.out]; exact hlt)
      have hcb := (HBND.out _ hmem).1
      have hgb := (HBND.out _ hmem).2
      have HMEM := Lib.hid hmem
      have HTK := Lib.hid htk
      clear hmem htk
      generalize L.getD k (0, 0) = x at *
      obtain ⟨c, gl⟩ := x
      simp only at r1 r2 hcb hgb
      subst hA
      have hml : m ≤ N := by
        rw [hm.out]
        have h1 : (mpKept (L.take k)).length ≤ (L.take k).length := List.length_filter_le _ _
        rw [List.length_take] at h1
        omega
      have hsz3 := HB3.out.size
      have b0 : (0 : Int) ≤ (k : Int) := by omega
      have b1 : (k : Int) < (N : Int) := by omega
      have hSKIP : Hid (mpKeep (c, gl) = false → mpKept (L.take (k + 1)) = mpKept (L.take k) ∧ ∀ x ∈ L.take (k + 1), ¬ mpBad g x) := Lib.hid (fun h => by
        rw [HTK.out]
        refine ⟨by rw [mpKept_append, show mpKept [(c, gl)] = [] from by simp [mpKept, h], List.append_nil], fun x hx => ?_⟩
        rcases List.mem_append.1 hx with hx | hx
        · exact HNB.out x hx
        · rw [List.mem_singleton.1 hx]
          exact fun hb => by rw [hb.1] at h; cases h)
      by_cases c1 : gl = 0
      · have d1 : ((gl : Int) == 0) = true := by simp; omega
        have d1b : (gl == 0) = true := by simp; omega
        have d1c : decide (gl = 0) = true := decide_eq_true c1
        obtain ⟨s1, s2⟩ := hSKIP.out (by simp [mpKeep, c1])
        have S1 := Lib.hid s1
        have S2 := Lib.hid s2
        clear c1 s1 s2
        go_wp2_with fail
        go_roundw
        case rel => exact ⟨k + 1, m, A', c', by omega, by go_num, rfl, Lib.hid (by rw [S1.out]; exact hm.out), by rw [S1.out]; exact HO3.out, HB3.out, S2.out⟩
        case measure => simp [intOf]; omega
      have d1 : ((gl : Int) == 0) = false := by simp; omega
      have d1b : (gl == 0) = false := by simp; omega
      have d1c : decide (gl = 0) = false := decide_eq_false c1
      have C1 := Lib.hid c1
      clear c1
      have wgl : IntKind.i64.wrap (gl : Int) = (gl : Int) := IntWalk.i64_in _ (by omega)
      by_cases c2 : 55296 ≤ c
      · have d2 : decide (55296 ≤ (c : Int)) = true := decide_eq_true (by omega)
        have d2b : decide (55296 ≤ c) = true := decide_eq_true c2
        by_cases c3 : c ≤ 57343
        · have d3 : decide ((c : Int) ≤ 57343) = true := decide_eq_true (by omega)
          have d3b : decide (c ≤ 57343) = true := decide_eq_true c3
          obtain ⟨s1, s2⟩ := hSKIP.out (by simp [mpKeep]; omega)
          have S1 := Lib.hid s1
          have S2 := Lib.hid s2
          clear s1 s2
          go_wp2_with fail
          go_roundw
          case rel => exact ⟨k + 1, m, A', c', by omega, by go_num, rfl, Lib.hid (by rw [S1.out]; exact hm.out), by rw [S1.out]; exact HO3.out, HB3.out, S2.out⟩
          case measure => simp [intOf]; omega
        have d3 : decide ((c : Int) ≤ 57343) = false := decide_eq_false (by omega)
        have d3b : decide (c ≤ 57343) = false := decide_eq_false c3
        have hkp : Hid (mpKeep (c, gl) = true) := Lib.hid (by have := C1.out; simp [mpKeep]; omega)
        by_cases c5 : g ≤ (gl : Int)
        · have hno3 : Hid (mapsF l g = none) := Lib.hid (HNO2.out ⟨(c, gl), HMEM.out, hkp.out, c5⟩)
          have d5 : decide (g ≤ (gl : Int)) = true := decide_eq_true c5
          go_wp2_with fail
          go_ret2
          show MapsPost w _ _ _
          rw [hno3.out]
          exact ⟨rfl, HB2.out.trans (HB3.out.mono HB2.out.size)⟩
        have d5 : decide (g ≤ (gl : Int)) = false := decide_eq_false c5
        have hnew : Hid (mpKept (L.take (k + 1)) = mpKept (L.take k) ++ [(c, gl)]) := Lib.hid (by rw [HTK.out, mp_keep hkp.out])
        have hnb2 : Hid (∀ x ∈ L.take (k + 1), ¬ mpBad g x) := Lib.hid (fun x hx => by
          rw [HTK.out] at hx
          rcases List.mem_append.1 hx with hx | hx
          · exact HNB.out x hx
          · rw [List.mem_singleton.1 hx]
            exact fun hb => c5 hb.2)
        go_wp2_with (at_builtin; refine wpl_app rfl (.tmp 73) (.tmp 78) 88 rfl W2.heap.size 93 Tryz.underlying88 info_map rfl (by decide) (.slice A' m c') m (mpCells (mpKept (L.take k))) rfl (HO3.out.alloc _) (some ⟨wr.heap.size, 0, none⟩) 1 1 [.int .i32 (c : Int), .int .u16 (gl : Int)] rfl rfl (fun h => by cases h) ?hh0 ?hh4 ?hh1 ?hh2 ?hh3 ?_; rotate_right; intro v' w8 hown hg; obtain ⟨A4, c4, rfl⟩ := own_form hown; have hb4 := below_grown (HB3.out.alloc hsz3 _) (HO3.out.alloc _) (by simp; omega) hg)
        case hh4 => exact ⟨rfl, rfl⟩
        case hh1 => unfold maxLen; omega
        case hh2 => omega
        case hh3 => omega
        have hcells : mpCells (mpKept (L.take k)) ++ [.int .i32 (c : Int), .int .u16 (gl : Int)] = mpCells (mpKept (L.take (k + 1))) := by rw [hnew.out, mpCells_append _ [(c, gl)], mpCells_one]
        rw [hcells] at hown
        have HO4 := Lib.hid hown
        have HB4 := Lib.hid hb4
        clear hown hb4 hg hcells
        go_roundw
        case rel => exact ⟨k + 1, m + 1, A4, c4, by omega, by go_num, rfl, Lib.hid (by rw [hnew.out, List.length_append, ← hm.out]; rfl), HO4.out, HB4.out, hnb2.out⟩
        case measure => simp [intOf]; omega
      have d2 : decide (55296 ≤ (c : Int)) = false := decide_eq_false (by omega)
      have d2b : decide (55296 ≤ c) = false := decide_eq_false c2
      have hkp : Hid (mpKeep (c, gl) = true) := Lib.hid (by have := C1.out; simp [mpKeep]; omega)
      by_cases c5 : g ≤ (gl : Int)
      · have hno3 : Hid (mapsF l g = none) := Lib.hid (HNO2.out ⟨(c, gl), HMEM.out, hkp.out, c5⟩)
        have d5 : decide (g ≤ (gl : Int)) = true := decide_eq_true c5
        go_wp2_with fail
        go_ret2
        show MapsPost w _ _ _
        rw [hno3.out]
        exact ⟨rfl, HB2.out.trans (HB3.out.mono HB2.out.size)⟩
      have d5 : decide (g ≤ (gl : Int)) = false := decide_eq_false c5
      have hnew : Hid (mpKept (L.take (k + 1)) = mpKept (L.take k) ++ [(c, gl)]) := Lib.hid (by rw [HTK.out, mp_keep hkp.out])
      have hnb2 : Hid (∀ x ∈ L.take (k + 1), ¬ mpBad g x) := Lib.hid (fun x hx => by
        rw [HTK.out] at hx
        rcases List.mem_append.1 hx with hx | hx
        · exact HNB.out x hx
        · rw [List.mem_singleton.1 hx]
          exact fun hb => c5 hb.2)
      go_wp2_with (at_builtin; refine wpl_app rfl (.tmp 73) (.tmp 78) 88 rfl W2.heap.size 93 Tryz.underlying88 info_map rfl (by decide) (.slice A' m c') m (mpCells (mpKept (L.take k))) rfl (HO3.out.alloc _) (some ⟨wr.heap.size, 0, none⟩) 1 1 [.int .i32 (c : Int), .int .u16 (gl : Int)] rfl rfl (fun h => by cases h) ?kk0 ?kk4 ?kk1 ?kk2 ?kk3 ?_; rotate_right; intro v' w8 hown hg; obtain ⟨A4, c4, rfl⟩ := own_form hown; have hb4 := below_grown (HB3.out.alloc hsz3 _) (HO3.out.alloc _) (by simp; omega) hg)
      case kk4 => exact ⟨rfl, rfl⟩
      case kk1 => unfold maxLen; omega
      case kk2 => omega
      case kk3 => omega
      have hcells : mpCells (mpKept (L.take k)) ++ [.int .i32 (c : Int), .int .u16 (gl : Int)] = mpCells (mpKept (L.take (k + 1))) := by rw [hnew.out, mpCells_append _ [(c, gl)], mpCells_one]
      rw [hcells] at hown
      have HO4 := Lib.hid hown
      have HB4 := Lib.hid hb4
      clear hown hb4 hg hcells
      go_roundw
      case rel => exact ⟨k + 1, m + 1, A4, c4, by omega, by go_num, rfl, Lib.hid (by rw [hnew.out, List.length_append, ← hm.out]; rfl), HO4.out, HB4.out, hnb2.out⟩
      case measure => simp [intOf]; omega
    · have hkn : k = N := by omega
      subst hkn
      have hall : L.take k = L := List.take_of_length_le (by rw [← HN.out]; omega)
      have hyes : Hid (mapsF l g = some (mpKept L)) := Lib.hid (HYES2.out (by rw [← hall]; exact HNB.out))
      have HALL := Lib.hid hall
      clear hall
      go_wp2_with fail
      go_ret2
      show MapsPost w _ _ _
      rw [hyes.out]
      have hm2 := hm.out
      have ho := HO3.out
      rw [HALL.out] at hm2 ho
      subst hm2
      exact ⟨A', c', rfl, own_lower ho HB2.out.size, HB2.out.trans (HB3.out.mono HB2.out.size)⟩
end Go.Proofs.YtfbppbelcbbhlaaGreatDoor.Sf

/- SfntMaps answers true, whatever bytes come in. -/
namespace Go.Proofs.YtfbppbelcbbhlaaGreatDoor.Sf
open Go Go.RowKit

def mpS (r : Option (List (Nat × Nat))) : List (Nat × Nat) := r.getD []
def mpE (r : Option (List (Nat × Nat))) : Int := match r with | none => 50 | some _ => 0
theorem one_map {w w2 : World} {r : Option (List (Nat × Nat))} {e : Ending} (h : MapsPost w r e w2) :
    ∃ A c, e = .returned (.tuple #[.slice A (mpS r).length c, .int .i64 (mpE r)]) ∧ w2.ownsRow w.heap.size 93 2 (.slice A (mpS r).length c) (mpS r).length (mpCells (mpS r)) ∧ Below w.heap.size w w2 := by
  cases r with
  | none =>
    obtain ⟨h1, h2⟩ := h
    exact ⟨none, 0, h1, World.ownsRow_nil _ _ _ _, h2⟩
  | some L =>
    obtain ⟨A, c, h1, h2, h3⟩ := h
    exact ⟨A, c, h1, h2, h3⟩
theorem mapsF_some {l : List Nat} {g : Int} {L : List (Nat × Nat)} (h255 : ∀ x ∈ l, x < 256) (h : mapsF l g = some L) : Rises L ∧ L.length ≤ 1114112 := by
  unfold mapsF at h
  split at h
  · split at h
    · cases h
    · rename_i p f hb
      split at h
      · rename_i h2
        cases h
        have hbd := mp_bounds (fun x hx => h255 x (List.mem_of_mem_drop hx)) h2.1
        have h3 := mpKept_rises hbd.1
        exact ⟨h3, rises_length h3 1114112 (fun x hx => (hbd.2 x (List.mem_filter.1 hx).1).1)⟩
      · cases h
  · cases h
theorem mpS_rises {l : List Nat} {g : Int} (h255 : ∀ x ∈ l, x < 256) : Rises (mpS (mapsF l g)) ∧ (mpS (mapsF l g)).length ≤ 1114112 := by
  rcases h : mapsF l g with _ | L
  · exact ⟨List.Pairwise.nil, by simp [mpS]⟩
  · exact mapsF_some h255 h
theorem rises_at {L : List (Nat × Nat)} (h : Rises L) {i j : Nat} (hij : i < j) (hj : j < L.length) : (L.getD i (0, 0)).1 < (L.getD j (0, 0)).1 := by
  have := List.pairwise_iff_getElem.1 h i j (by omega) hj hij
  simpa [List.getD, hj, show i < L.length from by omega] using this

set_option maxRecDepth 100000 in
set_option maxHeartbeats 2000000 in
theorem maps_law (A : Option Addr) (cap : Nat) (l : List Nat) (g : Int) (w : World) (h : Byt w A cap l) (hd : HdVar w) (hn : l.length ≤ 3000) : Calls Tryz.prog 28 #[.slice A l.length cap, .int .i64 g] w fun e w' => e = .returned (.bool true) ∧ Below w.heap.size w w' := by
  have HD := Lib.hid hd
  have HY := Lib.hid h
  clear hd h
  have HOP := Lib.hid (open_ok A cap l w HY.out (by omega))
  have hd1 : decide (3000 < (l.length : Int)) = false := decide_eq_false (by omega)
  go_enter Tryz.func28, Tryz.ntmps28
  go_wp2_with fail
  refine HOP.out.mono ?_
  rintro e w2 ⟨ra, rs, rfl, hr, hb2, -, -⟩
  have HH := Lib.hid (maps_any ra rs l g w2 hr (by omega))
  have HB2 := Lib.hid hb2
  clear hr hb2 HOP
  go_wp2_with fail
  refine HH.out.mono ?_
  intro e w3 h3
  obtain ⟨A1, c1, rfl, ho1, hb3⟩ := one_map h3
  have HB3 := Lib.hid (HB2.out.trans (hb3.mono HB2.out.size))
  have HF := Lib.hid (maps_ref A cap l g w3 (HY.out.below HB3.out) (by omega))
  have HO1 := Lib.hid ho1
  clear h3 ho1 hb3 HH
  go_wp2_with fail
  refine HF.out.mono ?_
  intro e w4 h4
  obtain ⟨A2, c2, rfl, ho2, hb4⟩ := one_map h4
  have HO12 := Lib.hid (own_below HO1.out hb4)
  have HB4 := Lib.hid (HB3.out.trans (hb4.mono HB3.out.size))
  have HO2 := Lib.hid ho2
  obtain ⟨hris, hlen⟩ := mpS_rises (g := g) HY.out.lt
  generalize mpS (mapsF l g) = L at *
  generalize mpE (mapsF l g) = ev at *
  have HRIS := Lib.hid hris
  obtain ⟨N, hN⟩ : ∃ N, N = L.length := ⟨_, rfl⟩
  rw [← hN] at HO12 HO2 hlen ⊢
  have HN := Lib.hid hN
  have dN : ((N : Int) == (N : Int)) = true := by simp
  have dE : (ev == ev) = true := by simp
  have dN2 : ((N : Int) != (N : Int)) = false := by simp
  have dE2 : (ev != ev) = false := by simp
  clear h4 ho2 hb4 hris hN HO1 HF
  go_wp2_with fail
  go_loopw [9] (fun iv wr => ∃ k : Nat, k ≤ N ∧ iv = .int .i64 k ∧ Below w4.heap.size w4 wr) (fun iv _ => N - (intOf iv).toNat)
  case atStart => exact ⟨0, Nat.zero_le _, rfl, Below.refl _ _⟩
  case round =>
    obtain ⟨k, hk, rfl, hbel⟩ := hrel
    have HB5 := Lib.hid hbel
    clear hbel
    by_cases hlt : k < N
    · obtain ⟨q1, hA1, hnc1, r1, r2⟩ := row_mp (own_below HO12.out HB5.out) HN.out.symm k hlt
      obtain ⟨q2, hA2, hnc2, r3, r4⟩ := row_mp (own_below HO2.out HB5.out) HN.out.symm k hlt
      have b0 : (0 : Int) ≤ (k : Int) := by omega
      have b1 : (k : Int) < (N : Int) := by omega
      have HK := Lib.hid (show L.getD k (0, 0) = L.getD k (0, 0) from rfl)
      rcases Nat.eq_zero_or_pos k with h0 | h0
      · have e0 : decide ((0 : Int) < (k : Int)) = false := decide_eq_false (by omega)
        have e0b : decide (0 < k) = false := decide_eq_false (by omega)
        generalize L.getD k (0, 0) = x at *
        obtain ⟨c, gl⟩ := x
        simp only at r1 r2 r3 r4
        subst hA1
        subst hA2
        have H00 := Lib.hid h0
        clear h0 HK
        have p1 : ∀ e : Grown wr, e.w.cell? ⟨q1, k * 2, none⟩ = some (.int .i32 (c : Int)) := fun e => e.cell r1
        have p2 : ∀ e : Grown wr, e.w.cell? ⟨q1, k * 2 + 1, none⟩ = some (.int .u16 (gl : Int)) := fun e => e.cell r2
        have p3 : ∀ e : Grown wr, e.w.cell? ⟨q2, k * 2, none⟩ = some (.int .i32 (c : Int)) := fun e => e.cell r3
        have p4 : ∀ e : Grown wr, e.w.cell? ⟨q2, k * 2 + 1, none⟩ = some (.int .u16 (gl : Int)) := fun e => e.cell r4
        go_upto_region 10 with (fail)
        refine wp_region_grown (by kernel_rfl) (by kernel_rfl) ?_
        repeat (go_big_quiet_step (fail))
        refine wpQuiet_nil ?_
        rintro _ ⟨eg, rfl⟩
        have HB6 := Lib.hid (HB5.out.trans (eg.below.mono HB5.out.size))
        generalize eg.w = w6 at *
        go_wp2_with fail
        go_roundw
        case rel => exact ⟨k + 1, by omega, by go_num, HB6.out⟩
        case measure => simp [intOf]; omega
      · have e0 : decide ((0 : Int) < (k : Int)) = true := decide_eq_true (by omega)
        have e0b : decide (0 < k) = true := decide_eq_true (by omega)
        obtain ⟨pk, hpk⟩ : ∃ pk : Nat, k = pk + 1 := ⟨k - 1, by omega⟩
        obtain ⟨q3, hA3, hnc3, r5, r6⟩ := row_mp (own_below HO12.out HB5.out) HN.out.symm pk (by omega)
        have hlt2 := rises_at HRIS.out (show pk < k by omega) (by rw [← HN.out]; exact hlt)
        have wr6 : IntKind.i64.wrap ((k : Int) - 1) = (pk : Int) := by rw [IntWalk.i64_in _ (by omega)]; omega
        have b2 : (0 : Int) ≤ (pk : Int) := by omega
        have b3 : (pk : Int) < (N : Int) := by omega
        generalize L.getD k (0, 0) = x at *
        generalize L.getD pk (0, 0) = y at *
        obtain ⟨c, gl⟩ := x
        obtain ⟨c0, gl0⟩ := y
        simp only at r1 r2 r3 r4 r5 r6 hlt2
        have d9 : decide ((c : Int) ≤ (c0 : Int)) = false := decide_eq_false (by omega)
        have d9b : decide (c ≤ c0) = false := decide_eq_false (by omega)
        subst hA1
        subst hA2
        cases hA3
        have HPK := Lib.hid hpk
        clear hpk HK
        have p1 : ∀ e : Grown wr, e.w.cell? ⟨q1, k * 2, none⟩ = some (.int .i32 (c : Int)) := fun e => e.cell r1
        have p2 : ∀ e : Grown wr, e.w.cell? ⟨q1, k * 2 + 1, none⟩ = some (.int .u16 (gl : Int)) := fun e => e.cell r2
        have p3 : ∀ e : Grown wr, e.w.cell? ⟨q2, k * 2, none⟩ = some (.int .i32 (c : Int)) := fun e => e.cell r3
        have p4 : ∀ e : Grown wr, e.w.cell? ⟨q2, k * 2 + 1, none⟩ = some (.int .u16 (gl : Int)) := fun e => e.cell r4
        have p5 : ∀ e : Grown wr, e.w.cell? ⟨q1, pk * 2, none⟩ = some (.int .i32 (c0 : Int)) := fun e => e.cell r5
        go_upto_region 10 with (fail)
        refine wp_region_grown (by kernel_rfl) (by kernel_rfl) ?_
        repeat (go_big_quiet_step (fail))
        refine wpQuiet_nil ?_
        rintro _ ⟨eg, rfl⟩
        have HB6 := Lib.hid (HB5.out.trans (eg.below.mono HB5.out.size))
        generalize eg.w = w6 at *
        go_wp2_with fail
        go_roundw
        case rel => exact ⟨k + 1, by omega, by go_num, HB6.out⟩
        case measure => simp [intOf]; omega
    · have HW := Lib.hid (works_any wr (HD.out.kept (kept_of_below (HB4.out.trans (HB5.out.mono HB4.out.size)))))
      have hend := Lib.hid (HB4.out.trans (HB5.out.mono HB4.out.size))
      go_wp2_with (go_at_call 12; refine HW.out.mono ?_; rintro e w7 ⟨rfl, hb7⟩; have HB7 := Lib.hid hb7; clear hb7)
      go_ret
      exact ⟨rfl, hend.out.trans (HB7.out.mono hend.out.size)⟩
end Go.Proofs.YtfbppbelcbbhlaaGreatDoor.Sf
