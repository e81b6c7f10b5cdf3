/- sfnt.subtable: the subtable that counts, or a refusal. -/
import Derived.Test.YtfbppbelcbbhlaaGreatDoorKnMapF
import Derived.Test.YtfbppbelcbbhlaaGreatDoorKnJoinW
import Derived.Deep.QuietTactic
import Derived.BigQuiet
namespace Go.Proofs.YtfbppbelcbbhlaaGreatDoor.Sf
open Go Go.RowKit

theorem Rdr.drop_by {l : List Nat} {w : World} {b bo p : Nat} (h : ByteCells w b bo l) (hp : p ≤ l.length) : ByteCells w b (bo + p) (l.drop p) := by
  intro i hi
  have := h (p + i) (by simp at hi; omega)
  rw [Nat.add_assoc, this]
  simp [List.getD]

theorem Rdr.part {w : World} {a s : Nat} {l : List Nat} (h : Rdr w a s l) (p : Nat) (n : Int) (hn : n = ((l.length - p : Nat) : Int)) (hp : p + 2 ≤ l.length) :
    Calls Tryz.prog 91 #[.pointer (some ⟨a, 0, none⟩), .int .i64 p, .int .i64 n] w fun e w' =>
      e = .returned (.pointer (some ⟨w.heap.size, 0, none⟩)) ∧ Rdr w' w.heap.size s (l.drop p) ∧ Below w.heap.size w w' := by
  subst hn
  obtain ⟨A, cap, hc, h1, h2, h3⟩ := h.by_
  obtain ⟨b, bo, rfl, hb⟩ := h3 (by omega)
  have hrow := row_in a 0 b bo l.length cap p (l.length - p) w hc (by omega) h1 h2
  have hst := h.st
  have HB := Lib.hid hb
  have HH := Lib.hid h
  have hlt : a < w.heap.size := World.block_lt_of_cell? w _ hst
  clear h h3 hb
  go_enter Tryz.func91, Tryz.ntmps91
  go_wp2_with (go_at_call 82; refine hrow.mono ?_; rintro e w' ⟨⟨A, rfl, hA⟩, rfl⟩; obtain rfl := hA (by omega); clear hA)
  go_ret
  have hbel : Below w.heap.size w (w.alloc (.cells #[.pointer (some ⟨s, 0, none⟩), .slice (some ⟨b, bo + p, none⟩) (l.length - p) (cap - p)] 104)) := (Below.refl _ _).alloc (Nat.le_refl _) _
  have hk := kept_of_below hbel
  refine ⟨rfl, ⟨?_, hk.cell HH.out.bad, ⟨_, cap - p, ?_, by simp; omega, by omega, fun _ => ⟨b, bo + p, rfl, Rdr.drop_by (HB.out.kept hk) (by omega)⟩⟩, fun x hx => HH.out.lt x (List.mem_of_mem_drop hx)⟩, hbel⟩
  · exact (cell_of_row _ w.heap.size 0 _ _ (0, 0) (heap_alloc_new w _)).trans rfl
  · rw [List.length_drop]
    exact (cell_of_row _ w.heap.size 1 _ _ (0, 0) (heap_alloc_new w _)).trans rfl

/-- The best subtable so far, as the two slots have it. -/
def SubBest (W : World) (s : Nat) (l : List Nat) (r : Option (Nat × Nat)) (bv fv : Value) : Prop :=
  match r with
  | none => bv = .pointer none ∧ fv = .int .i64 0
  | some (p, f) => ∃ a2, bv = .pointer (some ⟨a2, 0, none⟩) ∧ fv = .int .i64 f ∧ Rdr W a2 s (l.drop p)
theorem SubBest.below {W W' : World} {s : Nat} {l : List Nat} {r : Option (Nat × Nat)} {bv fv : Value} (h : SubBest W s l r bv fv) (hb : Below W.heap.size W W') : SubBest W' s l r bv fv := by
  match r, h with
  | none, h => exact h
  | some (p, f), ⟨a2, h1, h2, h3⟩ => exact ⟨a2, h1, h2, h3.kept (kept_of_below hb)⟩
def SubPost (w : World) (s : Nat) (l : List Nat) (e : Ending) (w' : World) : Prop :=
  Below w.heap.size w w' ∧ ((∃ p f a2, cmOk l ∧ cmBest l (cmN l) = some (p, f) ∧ e = .returned (.tuple #[.pointer (some ⟨a2, 0, none⟩), .int .i64 (f : Nat)]) ∧ Rdr w' a2 s (l.drop p)) ∨
    ((¬ cmOk l ∨ cmBest l (cmN l) = none) ∧ e = .panicked [{ v := brokenV, recovered := false }]))
def lastId (l : List Nat) (k : Nat) : Int := if k = 0 then -1 else (cmId l (k - 1) : Int)
theorem or_i64_16 (a b : Nat) (ha : a < 65536) (hb : b < 65536) : bits .or .i64 ((a : Int) * 65536) (b : Int) = ((a * 65536 + b : Nat) : Int) := by
  have hx : (a * 65536) ||| b = a * 65536 + b := nat_join 16 _ _ (by omega) (by omega)
  have e : (a : Int) * 65536 = ((a * 65536 : Nat) : Int) := by omega
  rw [e]
  show IntKind.i64.wrap ((BitVec.ofInt 64 ((a * 65536 : Nat) : Int) ||| BitVec.ofInt 64 (b : Int)).toNat : Int) = _
  rw [BitVec.toNat_or, ofInt_u64 _ (by omega), ofInt_u64 b (by omega), hx, IntWalk.i64_in _ (by omega)]

set_option maxRecDepth 100000 in
set_option maxHeartbeats 1000000 in
theorem subtable_any (a s : Nat) (l : List Nat) (w : World) (h : Rdr w a s l) (hmax : l.length ≤ 140737488355328) :
    Calls Tryz.prog 73 #[.pointer (some ⟨a, 0, none⟩)] w fun e w' => SubPost w s l e w' := by
  have HL := Lib.hid h.len
  have H := Lib.hid h
  clear h
  go_enter Tryz.func73, Tryz.ntmps73
  by_cases c1 : 4 ≤ l.length
  case neg =>
    have hno : Hid (¬ cmOk l) := Lib.hid (fun hh => c1 hh.1)
    have d1 : decide (4 ≤ (l.length : Int)) = false := decide_eq_false (by omega)
    have d1b : decide (4 ≤ l.length) = false := decide_eq_false (by omega)
    go_wp2_with (first | (go_at_call 69; refine HL.out.mono ?_; rintro e w' ⟨rfl, rfl⟩) | (go_at_call 40; refine (need_no _).mono ?_; rintro e w' ⟨rfl, rfl⟩))
    exact ⟨rfl, Below.refl _ _, .inr ⟨.inl hno.out, rfl⟩⟩
  have HW0 := Lib.hid (H.out.wordI 0 0 rfl (by omega))
  have d1 : decide (4 ≤ (l.length : Int)) = true := decide_eq_true (by omega)
  have d1b : decide (4 ≤ l.length) = true := decide_eq_true (by omega)
  by_cases c2 : numAt l 0 2 = 0
  case neg =>
    have hno : Hid (¬ cmOk l) := Lib.hid (fun hh => c2 hh.2.1)
    generalize numAt l 0 2 = v0 at *
    have d2 : ((v0 : Int) == 0) = false := by simp; omega
    have d2b : (v0 == 0) = false := by simp; omega
    have d2c : decide (v0 = 0) = false := decide_eq_false c2
    go_wp2_with (first | (go_at_call 69; refine HL.out.mono ?_; rintro e w' ⟨rfl, rfl⟩) | (go_at_call 42; refine HW0.out.mono ?_; rintro e w' ⟨rfl, rfl⟩) | (go_at_call 40; refine (need_no _).mono ?_; rintro e w' ⟨rfl, rfl⟩))
    exact ⟨rfl, Below.refl _ _, .inr ⟨.inl hno.out, rfl⟩⟩
  rw [c2] at HW0
  have HW2 := Lib.hid (H.out.wordI 2 2 rfl (by omega))
  have hn6 : numAt l 2 2 < 65536 := numAt_two_lt l 2 H.out.lt (by omega)
  have hcn : Hid (cmN l = numAt l 2 2) := Lib.hid rfl
  have HC2 := Lib.hid c2
  clear c2
  generalize numAt l 2 2 = n at *
  have wn : IntKind.i64.wrap (n : Int) = (n : Int) := IntWalk.i64_in _ (by omega)
  by_cases c3 : 4 + 8 * n ≤ l.length
  case neg =>
    have hno : Hid (¬ cmOk l) := Lib.hid (fun hh => c3 (by rw [← hcn.out]; exact hh.2.2.1))
    have d3 : decide (4 + 8 * (n : Int) ≤ (l.length : Int)) = false := decide_eq_false (by omega)
    go_wp2_with (first | (go_at_call 69; refine HL.out.mono ?_; rintro e w' ⟨rfl, rfl⟩) | (go_at_call 42; with_reducible (refine HW0.out.mono ?_); rintro e w' ⟨rfl, rfl⟩) | (go_at_call 42; with_reducible (refine HW2.out.mono ?_); rintro e w' ⟨rfl, rfl⟩) | (go_at_call 40; with_reducible (refine (need_ok _).mono ?_); rintro e w' ⟨rfl, rfl⟩) | (go_at_call 40; with_reducible (refine (need_no _).mono ?_); rintro e w' ⟨rfl, rfl⟩))
    exact ⟨rfl, Below.refl _ _, .inr ⟨.inl hno.out, rfl⟩⟩
  have d3 : decide (4 + 8 * (n : Int) ≤ (l.length : Int)) = true := decide_eq_true (by omega)
  go_wp2_with (first | (go_at_call 69; refine HL.out.mono ?_; rintro e w' ⟨rfl, rfl⟩) | (go_at_call 42; with_reducible (refine HW0.out.mono ?_); rintro e w' ⟨rfl, rfl⟩) | (go_at_call 42; with_reducible (refine HW2.out.mono ?_); rintro e w' ⟨rfl, rfl⟩) | (go_at_call 40; with_reducible (refine (need_ok _).mono ?_); rintro e w' ⟨rfl, rfl⟩))
  have H0 := Lib.hid (show lastId l 0 = -1 from rfl)
  go_loopw [5, 6, 7, 33] (fun bv fv lv iv wr => ∃ k : Nat, k ≤ n ∧ iv = .int .i64 k ∧ lv = .int .i64 (lastId l k) ∧ cmRise l k ∧ SubBest wr s l (cmBest l k) bv fv ∧ Below w.heap.size w wr) (fun _ _ _ iv _ => n - (intOf iv).toNat)
  case atStart => exact ⟨0, Nat.zero_le _, rfl, by rw [H0.out], cmRise_zero l, ⟨rfl, rfl⟩, Below.refl _ _⟩
  case round =>
    obtain ⟨k, hk, rfl, rfl, hrise, hbest, hbel⟩ := hrel
    have HR := Lib.hid (H.out.kept (kept_of_below hbel))
    have HRISE := Lib.hid hrise
    have HBEST := Lib.hid hbest
    have HB := Lib.hid hbel
    clear hrise hbest hbel
    by_cases hlt : k < n
    · have HW1 := Lib.hid (HR.out.wordI (4 + 8 * k) (4 + 8 * (k : Int)) (by omega) (by omega))
      have HW2 := Lib.hid (HR.out.wordI (4 + 8 * k + 2) (4 + 8 * (k : Int) + 2) (by omega) (by omega))
      have HW3 := Lib.hid (HR.out.longI (4 + 8 * k + 4) (4 + 8 * (k : Int) + 4) (by omega) (by omega))
      have hid : Hid (cmId l k = numAt l (4 + 8 * k) 2 * 65536 + numAt l (4 + 8 * k + 2) 2) := Lib.hid rfl
      have hpl : Hid (cmPlace l k = numAt l (4 + 8 * k + 4) 4) := Lib.hid rfl
      have m1 : numAt l (4 + 8 * k) 2 < 65536 := numAt_two_lt l _ H.out.lt (by omega)
      have m2 : numAt l (4 + 8 * k + 2) 2 < 65536 := numAt_two_lt l _ H.out.lt (by omega)
      have m3 : numAt l (4 + 8 * k + 4) 4 < 4294967296 := numF_lt _
      generalize numAt l (4 + 8 * k) 2 = w1 at *
      generalize numAt l (4 + 8 * k + 2) 2 = w2 at *
      generalize numAt l (4 + 8 * k + 4) 4 = pl at *
      generalize hlst : lastId l k = lst at *
      have HLST := Lib.hid hlst
      clear hlst
      have hor := or_i64_16 w1 w2 m1 m2
      obtain ⟨d, hd⟩ : ∃ d, d = w1 * 65536 + w2 := ⟨_, rfl⟩
      rw [← hd] at hor hid
      clear hd
      by_cases c5 : lst < (d : Int)
      case neg =>
        have hno : Hid (¬ cmOk l) := Lib.hid (fun hh => c5 (by
          rw [← HLST.out, ← hid.out]
          unfold lastId
          split
          · omega
          · have h1 := hh.2.2.2 (k - 1) (by rw [hcn.out]; omega)
            rw [show k - 1 + 1 = k from by omega] at h1
            omega))
        have d5 : decide (lst < (d : Int)) = false := decide_eq_false c5
        go_wp2_with (first | (go_at_call 42; with_reducible (refine HW1.out.mono ?_); rintro e w' ⟨rfl, rfl⟩) | (go_at_call 42; with_reducible (refine HW2.out.mono ?_); rintro e w' ⟨rfl, rfl⟩) | (go_at_call 40; refine (need_no _).mono ?_; rintro e w' ⟨rfl, rfl⟩))
        exact ⟨rfl, HB.out, .inr ⟨.inl hno.out, rfl⟩⟩
      have hrise2 : Hid (cmRise l (k + 1)) := Lib.hid (by
        have h2 := HRISE.out
        rcases Nat.eq_zero_or_pos k with h3 | h3
        · subst h3; exact cmRise_one l
        · obtain ⟨j, rfl⟩ : ∃ j, k = j + 1 := ⟨k - 1, by omega⟩
          refine cmRise_succ h2 ?_
          have h4 := HLST.out
          unfold lastId at h4
          rw [if_neg (by omega), Nat.add_sub_cancel] at h4
          have h5 := hid.out
          omega)
      have hlast : Hid (lastId l (k + 1) = (d : Int)) := Lib.hid (by unfold lastId; rw [if_neg (by omega), Nat.add_sub_cancel, hid.out])
      have d5 : decide (lst < (d : Int)) = true := decide_eq_true c5
      clear c5
      by_cases c6 : pl + 2 ≤ l.length
      case neg =>
        have hsame : Hid (cmBest l (k + 1) = cmBest l k) := Lib.hid (by
          show (if cmPlace l k + 2 ≤ l.length then _ else _) = _
          rw [if_neg (by rw [hpl.out]; exact c6)])
        have d6 : decide ((l.length : Int) - 2 < (pl : Int)) = true := decide_eq_true (by omega)
        go_wp2_with (first | (go_at_call 42; with_reducible (refine HW1.out.mono ?_); rintro e w' ⟨rfl, rfl⟩) | (go_at_call 42; with_reducible (refine HW2.out.mono ?_); rintro e w' ⟨rfl, rfl⟩) | (go_at_call 44; with_reducible (refine HW3.out.mono ?_); rintro e w' ⟨rfl, rfl⟩) | (go_at_call 69; with_reducible (refine HR.out.len.mono ?_); rintro e w' ⟨rfl, rfl⟩) | (go_at_call 40; refine (need_ok _).mono ?_; rintro e w' ⟨rfl, rfl⟩))
        go_roundw
        case rel => exact ⟨k + 1, by omega, by go_num, by rw [hlast.out], hrise2.out, by rw [hsame.out]; exact HBEST.out, HB.out⟩
        case measure => simp [intOf]; omega
      have d6 : decide ((l.length : Int) - 2 < (pl : Int)) = false := decide_eq_false (by omega)
      have HW4 := Lib.hid (HR.out.wordI pl pl rfl (by omega))
      have m4 : numAt l pl 2 < 65536 := numAt_two_lt l _ H.out.lt (by omega)
      have hstep : Hid (cmBest l (k + 1) = if d = 196618 ∧ numAt l pl 2 = 12 then some (pl, 12) else if d = 196609 ∧ numAt l pl 2 = 4 ∧ cmBest l k = none then some (pl, 4) else cmBest l k) := Lib.hid (by
        show (if cmPlace l k + 2 ≤ l.length then _ else _) = _
        rw [if_pos (by rw [hpl.out]; exact c6), hid.out, hpl.out])
      generalize numAt l pl 2 = f at *
      have HPART := Lib.hid (HR.out.part pl ((l.length : Int) - pl) (by omega) c6)
      have hsz := HB.out.size
      rcases hbk : cmBest l k with _ | ⟨p0, f0⟩
      · have hB := HBEST.out
        rw [hbk] at hB
        obtain ⟨rfl, rfl⟩ := hB
        have HBK := Lib.hid hbk
        have HBV : Hid (SubBest wr s l none (.pointer none) (.int .i64 0)) := Lib.hid ⟨rfl, rfl⟩
        clear hbk
        by_cases c7 : d = 196618
        · by_cases c8 : f = 12
          · skip
            have d7 : ((d : Int) == 196618) = true := by simp; omega
            have d7b : (d == 196618) = true := by simp; omega
            have d7c : decide (d = 196618) = true := decide_eq_true (by omega)
            have d8 : ((f : Int) == 12) = true := by simp; omega
            have d8b : (f == 12) = true := by simp; omega
            have d8c : decide (f = 12) = true := decide_eq_true (by omega)
            have C7 := Lib.hid c7
            have C8 := Lib.hid c8
            clear c7 c8
            have hst2 : Hid (cmBest l (k + 1) = some (pl, f)) := Lib.hid (by rw [hstep.out]; exact (if_pos ⟨C7.out, C8.out⟩).trans (by rw [C8.out]))
            go_wp2_with (first | (go_at_call 42; with_reducible (refine HW1.out.mono ?_); rintro e w' ⟨rfl, rfl⟩) | (go_at_call 42; with_reducible (refine HW2.out.mono ?_); rintro e w' ⟨rfl, rfl⟩) | (go_at_call 42; with_reducible (refine HW4.out.mono ?_); rintro e w' ⟨rfl, rfl⟩) | (go_at_call 44; with_reducible (refine HW3.out.mono ?_); rintro e w' ⟨rfl, rfl⟩) | (go_at_call 69; with_reducible (refine HR.out.len.mono ?_); rintro e w' ⟨rfl, rfl⟩) | (go_at_call 40; refine (need_ok _).mono ?_; rintro e w' ⟨rfl, rfl⟩) | (go_at_call 91; refine HPART.out.mono ?_; rintro e w2 ⟨rfl, hr2, hb2⟩))
            go_roundw
            case rel => exact ⟨k + 1, by omega, by go_num, by rw [hlast.out], hrise2.out, by rw [hst2.out]; exact ⟨_, rfl, rfl, hr2⟩, HB.out.trans (hb2.mono hsz)⟩
            case measure => simp [intOf]; omega
          · skip
            have d7 : ((d : Int) == 196618) = true := by simp; omega
            have d7b : (d == 196618) = true := by simp; omega
            have d7c : decide (d = 196618) = true := decide_eq_true (by omega)
            have d8 : ((f : Int) == 12) = false := by simp; omega
            have d8b : (f == 12) = false := by simp; omega
            have d8c : decide (f = 12) = false := decide_eq_false (by omega)
            have d9 : ((d : Int) == 196609) = false := by simp; omega
            have d9b : (d == 196609) = false := by simp; omega
            have d9c : decide (d = 196609) = false := decide_eq_false (by omega)
            have C7 := Lib.hid c7
            have C8 := Lib.hid c8
            clear c7 c8
            have hst2 : Hid (cmBest l (k + 1) = cmBest l k) := Lib.hid (by rw [hstep.out]; rw [if_neg (fun h => C8.out h.2), if_neg (fun h => by have := h.1; have := C7.out; omega)])
            go_wp2_with (first | (go_at_call 42; with_reducible (refine HW1.out.mono ?_); rintro e w' ⟨rfl, rfl⟩) | (go_at_call 42; with_reducible (refine HW2.out.mono ?_); rintro e w' ⟨rfl, rfl⟩) | (go_at_call 42; with_reducible (refine HW4.out.mono ?_); rintro e w' ⟨rfl, rfl⟩) | (go_at_call 44; with_reducible (refine HW3.out.mono ?_); rintro e w' ⟨rfl, rfl⟩) | (go_at_call 69; with_reducible (refine HR.out.len.mono ?_); rintro e w' ⟨rfl, rfl⟩) | (go_at_call 40; refine (need_ok _).mono ?_; rintro e w' ⟨rfl, rfl⟩))
            go_roundw
            case rel => exact ⟨k + 1, by omega, by go_num, by rw [hlast.out], hrise2.out, by rw [hst2.out, HBK.out]; exact HBV.out, HB.out⟩
            case measure => simp [intOf]; omega
        · by_cases c8 : d = 196609
          · by_cases c9 : f = 4
            · skip
              have d7 : ((d : Int) == 196618) = false := by simp; omega
              have d7b : (d == 196618) = false := by simp; omega
              have d7c : decide (d = 196618) = false := decide_eq_false (by omega)
              have d8 : ((d : Int) == 196609) = true := by simp; omega
              have d8b : (d == 196609) = true := by simp; omega
              have d8c : decide (d = 196609) = true := decide_eq_true (by omega)
              have d9 : ((f : Int) == 4) = true := by simp; omega
              have d9b : (f == 4) = true := by simp; omega
              have d9c : decide (f = 4) = true := decide_eq_true (by omega)
              have C7 := Lib.hid c7
              have C8 := Lib.hid c8
              have C9 := Lib.hid c9
              clear c7 c8 c9
              have hst2 : Hid (cmBest l (k + 1) = some (pl, f)) := Lib.hid (by rw [hstep.out]; rw [if_neg (fun h => C7.out h.1)]; exact (if_pos ⟨C8.out, C9.out, HBK.out⟩).trans (by rw [C9.out]))
              go_wp2_with (first | (go_at_call 42; with_reducible (refine HW1.out.mono ?_); rintro e w' ⟨rfl, rfl⟩) | (go_at_call 42; with_reducible (refine HW2.out.mono ?_); rintro e w' ⟨rfl, rfl⟩) | (go_at_call 42; with_reducible (refine HW4.out.mono ?_); rintro e w' ⟨rfl, rfl⟩) | (go_at_call 44; with_reducible (refine HW3.out.mono ?_); rintro e w' ⟨rfl, rfl⟩) | (go_at_call 69; with_reducible (refine HR.out.len.mono ?_); rintro e w' ⟨rfl, rfl⟩) | (go_at_call 40; refine (need_ok _).mono ?_; rintro e w' ⟨rfl, rfl⟩) | (go_at_call 91; refine HPART.out.mono ?_; rintro e w2 ⟨rfl, hr2, hb2⟩))
              go_roundw
              case rel => exact ⟨k + 1, by omega, by go_num, by rw [hlast.out], hrise2.out, by rw [hst2.out]; exact ⟨_, rfl, rfl, hr2⟩, HB.out.trans (hb2.mono hsz)⟩
              case measure => simp [intOf]; omega
            · skip
              have d7 : ((d : Int) == 196618) = false := by simp; omega
              have d7b : (d == 196618) = false := by simp; omega
              have d7c : decide (d = 196618) = false := decide_eq_false (by omega)
              have d8 : ((d : Int) == 196609) = true := by simp; omega
              have d8b : (d == 196609) = true := by simp; omega
              have d8c : decide (d = 196609) = true := decide_eq_true (by omega)
              have d9 : ((f : Int) == 4) = false := by simp; omega
              have d9b : (f == 4) = false := by simp; omega
              have d9c : decide (f = 4) = false := decide_eq_false (by omega)
              have C7 := Lib.hid c7
              have C8 := Lib.hid c8
              have C9 := Lib.hid c9
              clear c7 c8 c9
              have hst2 : Hid (cmBest l (k + 1) = cmBest l k) := Lib.hid (by rw [hstep.out]; rw [if_neg (fun h => C7.out h.1), if_neg (fun h => C9.out h.2.1)])
              go_wp2_with (first | (go_at_call 42; with_reducible (refine HW1.out.mono ?_); rintro e w' ⟨rfl, rfl⟩) | (go_at_call 42; with_reducible (refine HW2.out.mono ?_); rintro e w' ⟨rfl, rfl⟩) | (go_at_call 42; with_reducible (refine HW4.out.mono ?_); rintro e w' ⟨rfl, rfl⟩) | (go_at_call 44; with_reducible (refine HW3.out.mono ?_); rintro e w' ⟨rfl, rfl⟩) | (go_at_call 69; with_reducible (refine HR.out.len.mono ?_); rintro e w' ⟨rfl, rfl⟩) | (go_at_call 40; refine (need_ok _).mono ?_; rintro e w' ⟨rfl, rfl⟩))
              go_roundw
              case rel => exact ⟨k + 1, by omega, by go_num, by rw [hlast.out], hrise2.out, by rw [hst2.out, HBK.out]; exact HBV.out, HB.out⟩
              case measure => simp [intOf]; omega
          · skip
            have d7 : ((d : Int) == 196618) = false := by simp; omega
            have d7b : (d == 196618) = false := by simp; omega
            have d7c : decide (d = 196618) = false := decide_eq_false (by omega)
            have d8 : ((d : Int) == 196609) = false := by simp; omega
            have d8b : (d == 196609) = false := by simp; omega
            have d8c : decide (d = 196609) = false := decide_eq_false (by omega)
            have C7 := Lib.hid c7
            have C8 := Lib.hid c8
            clear c7 c8
            have hst2 : Hid (cmBest l (k + 1) = cmBest l k) := Lib.hid (by rw [hstep.out]; rw [if_neg (fun h => C7.out h.1), if_neg (fun h => C8.out h.1)])
            go_wp2_with (first | (go_at_call 42; with_reducible (refine HW1.out.mono ?_); rintro e w' ⟨rfl, rfl⟩) | (go_at_call 42; with_reducible (refine HW2.out.mono ?_); rintro e w' ⟨rfl, rfl⟩) | (go_at_call 42; with_reducible (refine HW4.out.mono ?_); rintro e w' ⟨rfl, rfl⟩) | (go_at_call 44; with_reducible (refine HW3.out.mono ?_); rintro e w' ⟨rfl, rfl⟩) | (go_at_call 69; with_reducible (refine HR.out.len.mono ?_); rintro e w' ⟨rfl, rfl⟩) | (go_at_call 40; refine (need_ok _).mono ?_; rintro e w' ⟨rfl, rfl⟩))
            go_roundw
            case rel => exact ⟨k + 1, by omega, by go_num, by rw [hlast.out], hrise2.out, by rw [hst2.out, HBK.out]; exact HBV.out, HB.out⟩
            case measure => simp [intOf]; omega
      · have hB := HBEST.out
        rw [hbk] at hB
        obtain ⟨a2, rfl, rfl, hr0⟩ := hB
        have HBK := Lib.hid hbk
        have HBV : Hid (SubBest wr s l (some (p0, f0)) (.pointer (some ⟨a2, 0, none⟩)) (.int .i64 f0)) := Lib.hid ⟨a2, rfl, rfl, hr0⟩
        have hf0 := (cmBest_form l k p0 f0 hbk).1
        have d0 : ((f0 : Int) == 0) = false := by simp; omega
        have d0b : (f0 == 0) = false := by simp; omega
        have d0c : decide (f0 = 0) = false := decide_eq_false (by omega)
        clear hbk hf0 hr0
        by_cases c7 : d = 196618
        · by_cases c8 : f = 12
          · skip
            have d7 : ((d : Int) == 196618) = true := by simp; omega
            have d7b : (d == 196618) = true := by simp; omega
            have d7c : decide (d = 196618) = true := decide_eq_true (by omega)
            have d8 : ((f : Int) == 12) = true := by simp; omega
            have d8b : (f == 12) = true := by simp; omega
            have d8c : decide (f = 12) = true := decide_eq_true (by omega)
            have C7 := Lib.hid c7
            have C8 := Lib.hid c8
            clear c7 c8
            have hst2 : Hid (cmBest l (k + 1) = some (pl, f)) := Lib.hid (by rw [hstep.out]; exact (if_pos ⟨C7.out, C8.out⟩).trans (by rw [C8.out]))
            go_wp2_with (first | (go_at_call 42; with_reducible (refine HW1.out.mono ?_); rintro e w' ⟨rfl, rfl⟩) | (go_at_call 42; with_reducible (refine HW2.out.mono ?_); rintro e w' ⟨rfl, rfl⟩) | (go_at_call 42; with_reducible (refine HW4.out.mono ?_); rintro e w' ⟨rfl, rfl⟩) | (go_at_call 44; with_reducible (refine HW3.out.mono ?_); rintro e w' ⟨rfl, rfl⟩) | (go_at_call 69; with_reducible (refine HR.out.len.mono ?_); rintro e w' ⟨rfl, rfl⟩) | (go_at_call 40; refine (need_ok _).mono ?_; rintro e w' ⟨rfl, rfl⟩) | (go_at_call 91; refine HPART.out.mono ?_; rintro e w2 ⟨rfl, hr2, hb2⟩))
            go_roundw
            case rel => exact ⟨k + 1, by omega, by go_num, by rw [hlast.out], hrise2.out, by rw [hst2.out]; exact ⟨_, rfl, rfl, hr2⟩, HB.out.trans (hb2.mono hsz)⟩
            case measure => simp [intOf]; omega
          · skip
            have d7 : ((d : Int) == 196618) = true := by simp; omega
            have d7b : (d == 196618) = true := by simp; omega
            have d7c : decide (d = 196618) = true := decide_eq_true (by omega)
            have d8 : ((f : Int) == 12) = false := by simp; omega
            have d8b : (f == 12) = false := by simp; omega
            have d8c : decide (f = 12) = false := decide_eq_false (by omega)
            have d9 : ((d : Int) == 196609) = false := by simp; omega
            have d9b : (d == 196609) = false := by simp; omega
            have d9c : decide (d = 196609) = false := decide_eq_false (by omega)
            have C7 := Lib.hid c7
            have C8 := Lib.hid c8
            clear c7 c8
            have hst2 : Hid (cmBest l (k + 1) = cmBest l k) := Lib.hid (by rw [hstep.out]; rw [if_neg (fun h => C8.out h.2), if_neg (fun h => by have := h.1; have := C7.out; omega)])
            go_wp2_with (first | (go_at_call 42; with_reducible (refine HW1.out.mono ?_); rintro e w' ⟨rfl, rfl⟩) | (go_at_call 42; with_reducible (refine HW2.out.mono ?_); rintro e w' ⟨rfl, rfl⟩) | (go_at_call 42; with_reducible (refine HW4.out.mono ?_); rintro e w' ⟨rfl, rfl⟩) | (go_at_call 44; with_reducible (refine HW3.out.mono ?_); rintro e w' ⟨rfl, rfl⟩) | (go_at_call 69; with_reducible (refine HR.out.len.mono ?_); rintro e w' ⟨rfl, rfl⟩) | (go_at_call 40; refine (need_ok _).mono ?_; rintro e w' ⟨rfl, rfl⟩))
            go_roundw
            case rel => exact ⟨k + 1, by omega, by go_num, by rw [hlast.out], hrise2.out, by rw [hst2.out, HBK.out]; exact HBV.out, HB.out⟩
            case measure => simp [intOf]; omega
        · by_cases c8 : d = 196609
          · by_cases c9 : f = 4
            · skip
              have d7 : ((d : Int) == 196618) = false := by simp; omega
              have d7b : (d == 196618) = false := by simp; omega
              have d7c : decide (d = 196618) = false := decide_eq_false (by omega)
              have d8 : ((d : Int) == 196609) = true := by simp; omega
              have d8b : (d == 196609) = true := by simp; omega
              have d8c : decide (d = 196609) = true := decide_eq_true (by omega)
              have d9 : ((f : Int) == 4) = true := by simp; omega
              have d9b : (f == 4) = true := by simp; omega
              have d9c : decide (f = 4) = true := decide_eq_true (by omega)
              have C7 := Lib.hid c7
              have C8 := Lib.hid c8
              have C9 := Lib.hid c9
              clear c7 c8 c9
              have hst2 : Hid (cmBest l (k + 1) = cmBest l k) := Lib.hid (by rw [hstep.out]; rw [if_neg (fun h => C7.out h.1), if_neg (fun h => by have := h.2.2; rw [HBK.out] at this; cases this)])
              go_wp2_with (first | (go_at_call 42; with_reducible (refine HW1.out.mono ?_); rintro e w' ⟨rfl, rfl⟩) | (go_at_call 42; with_reducible (refine HW2.out.mono ?_); rintro e w' ⟨rfl, rfl⟩) | (go_at_call 42; with_reducible (refine HW4.out.mono ?_); rintro e w' ⟨rfl, rfl⟩) | (go_at_call 44; with_reducible (refine HW3.out.mono ?_); rintro e w' ⟨rfl, rfl⟩) | (go_at_call 69; with_reducible (refine HR.out.len.mono ?_); rintro e w' ⟨rfl, rfl⟩) | (go_at_call 40; refine (need_ok _).mono ?_; rintro e w' ⟨rfl, rfl⟩))
              go_roundw
              case rel => exact ⟨k + 1, by omega, by go_num, by rw [hlast.out], hrise2.out, by rw [hst2.out, HBK.out]; exact HBV.out, HB.out⟩
              case measure => simp [intOf]; omega
            · skip
              have d7 : ((d : Int) == 196618) = false := by simp; omega
              have d7b : (d == 196618) = false := by simp; omega
              have d7c : decide (d = 196618) = false := decide_eq_false (by omega)
              have d8 : ((d : Int) == 196609) = true := by simp; omega
              have d8b : (d == 196609) = true := by simp; omega
              have d8c : decide (d = 196609) = true := decide_eq_true (by omega)
              have d9 : ((f : Int) == 4) = false := by simp; omega
              have d9b : (f == 4) = false := by simp; omega
              have d9c : decide (f = 4) = false := decide_eq_false (by omega)
              have C7 := Lib.hid c7
              have C8 := Lib.hid c8
              have C9 := Lib.hid c9
              clear c7 c8 c9
              have hst2 : Hid (cmBest l (k + 1) = cmBest l k) := Lib.hid (by rw [hstep.out]; rw [if_neg (fun h => C7.out h.1), if_neg (fun h => C9.out h.2.1)])
              go_wp2_with (first | (go_at_call 42; with_reducible (refine HW1.out.mono ?_); rintro e w' ⟨rfl, rfl⟩) | (go_at_call 42; with_reducible (refine HW2.out.mono ?_); rintro e w' ⟨rfl, rfl⟩) | (go_at_call 42; with_reducible (refine HW4.out.mono ?_); rintro e w' ⟨rfl, rfl⟩) | (go_at_call 44; with_reducible (refine HW3.out.mono ?_); rintro e w' ⟨rfl, rfl⟩) | (go_at_call 69; with_reducible (refine HR.out.len.mono ?_); rintro e w' ⟨rfl, rfl⟩) | (go_at_call 40; refine (need_ok _).mono ?_; rintro e w' ⟨rfl, rfl⟩))
              go_roundw
              case rel => exact ⟨k + 1, by omega, by go_num, by rw [hlast.out], hrise2.out, by rw [hst2.out, HBK.out]; exact HBV.out, HB.out⟩
              case measure => simp [intOf]; omega
          · skip
            have d7 : ((d : Int) == 196618) = false := by simp; omega
            have d7b : (d == 196618) = false := by simp; omega
            have d7c : decide (d = 196618) = false := decide_eq_false (by omega)
            have d8 : ((d : Int) == 196609) = false := by simp; omega
            have d8b : (d == 196609) = false := by simp; omega
            have d8c : decide (d = 196609) = false := decide_eq_false (by omega)
            have C7 := Lib.hid c7
            have C8 := Lib.hid c8
            clear c7 c8
            have hst2 : Hid (cmBest l (k + 1) = cmBest l k) := Lib.hid (by rw [hstep.out]; rw [if_neg (fun h => C7.out h.1), if_neg (fun h => C8.out h.1)])
            go_wp2_with (first | (go_at_call 42; with_reducible (refine HW1.out.mono ?_); rintro e w' ⟨rfl, rfl⟩) | (go_at_call 42; with_reducible (refine HW2.out.mono ?_); rintro e w' ⟨rfl, rfl⟩) | (go_at_call 42; with_reducible (refine HW4.out.mono ?_); rintro e w' ⟨rfl, rfl⟩) | (go_at_call 44; with_reducible (refine HW3.out.mono ?_); rintro e w' ⟨rfl, rfl⟩) | (go_at_call 69; with_reducible (refine HR.out.len.mono ?_); rintro e w' ⟨rfl, rfl⟩) | (go_at_call 40; refine (need_ok _).mono ?_; rintro e w' ⟨rfl, rfl⟩))
            go_roundw
            case rel => exact ⟨k + 1, by omega, by go_num, by rw [hlast.out], hrise2.out, by rw [hst2.out, HBK.out]; exact HBV.out, HB.out⟩
            case measure => simp [intOf]; omega
    · have hkn : k = n := by omega
      subst hkn
      rcases hbk : cmBest l k with _ | ⟨p0, f0⟩
      · have hB := HBEST.out
        rw [hbk] at hB
        obtain ⟨rfl, rfl⟩ := hB
        have HBK := Lib.hid hbk
        clear hbk
        go_wp2_with (go_at_call 40; refine (need_no _).mono ?_; rintro e w' ⟨rfl, rfl⟩)
        exact ⟨rfl, HB.out, .inr ⟨.inr (by rw [hcn.out]; exact HBK.out), rfl⟩⟩
      · have hB := HBEST.out
        rw [hbk] at hB
        obtain ⟨a2, rfl, rfl, hr0⟩ := hB
        have HBK := Lib.hid hbk
        have HR0 := Lib.hid hr0
        clear hbk hr0
        go_wp2_with (go_at_call 40; refine (need_ok _).mono ?_; rintro e w' ⟨rfl, rfl⟩)
        go_ret2
        exact ⟨HB.out, .inl ⟨p0, f0, a2, ⟨c1, HC2.out, by rw [hcn.out]; exact c3, by rw [hcn.out]; exact HRISE.out⟩, by rw [hcn.out]; exact HBK.out, rfl, HR0.out⟩⟩
end Go.Proofs.YtfbppbelcbbhlaaGreatDoor.Sf
