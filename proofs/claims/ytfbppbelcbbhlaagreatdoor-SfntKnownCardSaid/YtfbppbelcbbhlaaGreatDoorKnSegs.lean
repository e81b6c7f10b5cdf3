/- The iterator of sfnt.groups: each character of each group is yielded, or it gives up. -/
import Derived.Test.YtfbppbelcbbhlaaGreatDoorKnRange2
import Derived.RangeFuncBound
import Derived.RangeFuncCalls
import Derived.OwnWalkIn
import Derived.TacticsInMore
import Derived.LoopNIn
import Derived.LoopIn
import Derived.Deep.RegionHeld3
namespace Go.Proofs.YtfbppbelcbbhlaaGreatDoor.Sf
open Go Go.RowKit

/-- What is yielded: not too many, numbers that fit. -/
def mpV (pre : List (Nat × Nat)) (x : Nat × Nat) : Prop := pre.length < 1114112 ∧ x.1 < 1114112 ∧ x.2 < 65536
/-- What a loop over an iterator of characters owes it: a state J of what has come, that abides growth; rounds that go on, or give up at what is bad. -/
structure Yields (P : Program) (lp : Nat) (full : List (Nat × Nat)) (bad : Nat × Nat → Prop) (J : List (Nat × Nat) → World → Prop) (JX : World → Prop) (a s : Nat) (t : List Nat) (rd : World → Prop) : Prop where
  grow : ∀ pre W W', J pre W → Below W.heap.size W W' → J pre W'
  stop : ∀ pre W, J pre W → JX W
  rdr : ∀ pre W, J pre W → Rdr W a s t ∧ rd W
  round : ∀ pre x W, J pre W → x ∈ full → mpV pre x → YieldAt Fence.wide 0 P lp #[.int .i64 (x.1 : Nat), .int .i64 (x.2 : Nat)] W fun e W' =>
    (e = .returned (.bool true) ∧ J (pre ++ [x]) W' ∧ ¬ bad x) ∨ (e = .panicked [{ v := brokenV, recovered := false }] ∧ JX W' ∧ bad x)

def grLast (t : List Nat) (k : Nat) : Int := if k = 0 then -1 else (grEnd t (k - 1) : Int)

set_option maxRecDepth 100000 in
set_option maxHeartbeats 2000000 in
theorem groups_iter (a s nb rb lp : Nat) (t : List Nat) (bad : Nat × Nat → Prop) (J : List (Nat × Nat) → World → Prop) (JX : World → Prop) (w : World) (hh : grHead t) (_hmax : t.length ≤ 140737488355328)
    (Y : Yields Tryz.prog lp (grAll t (grN t)) bad J JX a s t (fun W => W.cell? ⟨nb, 0, none⟩ = some (.int .i64 (grN t : Nat)) ∧ W.cell? ⟨rb, 0, none⟩ = some (.pointer (some ⟨a, 0, none⟩)))) (h0 : J [] w) :
    Calls Tryz.prog 92 #[.func (.yield lp) #[] #[], .pointer (some ⟨nb, 0, none⟩), .pointer (some ⟨rb, 0, none⟩)] w fun e w' => IterPost (grAll t (grN t)) (grOk t) bad J JX e w' := by
  have HY := Lib.hid Y
  have HH := Lib.hid hh
  have H0 := Lib.hid h0
  obtain ⟨_, q1, q2⟩ := Y.rdr _ _ h0
  have hn : grN t ≤ 65536 := hh.2.2.1
  have hlen : 16 + 12 * grN t ≤ t.length := hh.2.2.2.2
  clear Y hh h0
  generalize hgn : grN t = n at *
  have HN := Lib.hid hgn
  have HL0 := Lib.hid (show grLast t 0 = -1 from rfl)
  clear hgn
  go_enter Tryz.func92, Tryz.ntmps92
  go_wp2_with fail
  go_loopw [4, 11] (fun lv iv wr => ∃ k : Nat, k ≤ n ∧ iv = .int .i64 k ∧ lv = .int .i64 (grLast t k) ∧ J (grAll t k) wr ∧ (∀ i, i < k → grGood t i) ∧ ∀ x ∈ grAll t k, ¬ bad x) (fun _ iv _ => n - (intOf iv).toNat)
  case atStart => exact ⟨0, Nat.zero_le _, rfl, by rw [HL0.out], H0.out, fun i hi => by omega, fun x hx => by simp [grAll] at hx⟩
  case round =>
    obtain ⟨k, hk, rfl, rfl, hJ, hgood, hbad⟩ := hrel
    have HJ := Lib.hid hJ
    have HG := Lib.hid hgood
    have HB := Lib.hid hbad
    clear hJ hgood hbad q1 q2
    by_cases hlt : k < n
    · obtain ⟨hrd, q1, q2⟩ := HY.out.rdr _ _ HJ.out
      go_upto_region 4 with (fail)
      have HRD := Lib.hid hrd
      have w12 : IntKind.i64.wrap (12 * (k : Int)) = 12 * (k : Int) := IntWalk.i64_in _ (by omega)
      have w16 : IntKind.i64.wrap (16 + 12 * (k : Int)) = ((16 + 12 * k : Nat) : Int) := by rw [IntWalk.i64_in _ (by omega)]; omega
      have w20 : IntKind.i64.wrap (20 + 12 * (k : Int)) = ((20 + 12 * k : Nat) : Int) := by rw [IntWalk.i64_in _ (by omega)]; omega
      have w24 : IntKind.i64.wrap (24 + 12 * (k : Int)) = ((24 + 12 * k : Nat) : Int) := by rw [IntWalk.i64_in _ (by omega)]; omega
      have p1 : ∀ e : Grown wr, e.w.cell? ⟨nb, 0, none⟩ = some (.int .i64 (n : Nat)) := fun e => e.cell q1
      have p2 : ∀ e : Grown wr, e.w.cell? ⟨rb, 0, none⟩ = some (.pointer (some ⟨a, 0, none⟩)) := fun e => e.cell q2
      have HF := Lib.hid (fun e : Grown wr => (e.rdr HRD.out).longI (16 + 12 * k) ((16 + 12 * k : Nat) : Int) rfl (by omega))
      have HE := Lib.hid (fun e : Grown wr => (e.rdr HRD.out).longI (20 + 12 * k) ((20 + 12 * k : Nat) : Int) rfl (by omega))
      have HGL := Lib.hid (fun e : Grown wr => (e.rdr HRD.out).longI (24 + 12 * k) ((24 + 12 * k : Nat) : Int) rfl (by omega))
      have e1 : Hid (grFirst t k = numAt t (16 + 12 * k) 4) := Lib.hid rfl
      have e2 : Hid (grEnd t k = numAt t (20 + 12 * k) 4) := Lib.hid rfl
      have e3 : Hid (grGlyph t k = numAt t (24 + 12 * k) 4) := Lib.hid rfl
      have m1 : numAt t (16 + 12 * k) 4 < 4294967296 := numF_lt _
      have m2 : numAt t (20 + 12 * k) 4 < 4294967296 := numF_lt _
      have m3 : numAt t (24 + 12 * k) 4 < 4294967296 := numF_lt _
      clear hrd
      generalize numAt t (16 + 12 * k) 4 = v1 at *
      generalize numAt t (20 + 12 * k) 4 = v2 at *
      generalize numAt t (24 + 12 * k) 4 = v3 at *
      obtain ⟨z1, hz1⟩ : ∃ z, z = 16 + 12 * k := ⟨_, rfl⟩
      obtain ⟨z2, hz2⟩ : ∃ z, z = 20 + 12 * k := ⟨_, rfl⟩
      obtain ⟨z3, hz3⟩ : ∃ z, z = 24 + 12 * k := ⟨_, rfl⟩
      rw [← hz1] at w16 HF
      rw [← hz2] at w20 HE
      rw [← hz3] at w24 HGL
      clear hz1 hz2 hz3
      have wv1 : IntKind.i64.wrap (v1 : Int) = (v1 : Int) := IntWalk.i64_in _ (by omega)
      have wv2 : IntKind.i64.wrap (v2 : Int) = (v2 : Int) := IntWalk.i64_in _ (by omega)
      have wv3 : IntKind.i64.wrap (v3 : Int) = (v3 : Int) := IntWalk.i64_in _ (by omega)
      refine wp_region_grown (by kernel_rfl) (by kernel_rfl) ?_
      repeat (go_big_quiet_step (first | (go_at_call 44; with_reducible (exact calls_grown_same (HF.out _))) | (go_at_call 44; with_reducible (exact calls_grown_same (HE.out _))) | (go_at_call 44; with_reducible (exact calls_grown_same (HGL.out _)))))
      refine wpQuiet_nil ?_
      rintro _ ⟨eg, rfl⟩
      have hJ2 := HY.out.grow _ _ _ HJ.out eg.below
      have HJ2 := Lib.hid hJ2
      clear hJ2 p1 p2 w12 w16 w20 w24 HF HE HGL HJ HRD q1 q2
      obtain ⟨W2, hW2⟩ : ∃ W2, eg.w = W2 := ⟨_, rfl⟩
      rw [hW2] at HJ2 ⊢
      clear hW2 eg
      have hlast : Hid (grLast t (k + 1) = (v2 : Int)) := Lib.hid (by unfold grLast; rw [if_neg (by omega), Nat.add_sub_cancel, e2.out])
      have hlr : -1 ≤ grLast t k ∧ grLast t k ≤ 4294967296 := by
        unfold grLast
        split
        · omega
        · have : grEnd t (k - 1) < 4294967296 := numF_lt _
          omega
      have HGD : Hid (grGood t k ↔ v1 ≤ v2 ∧ v2 ≤ 1114111 ∧ grLast t k < (v1 : Int) ∧ v3 + v2 - v1 ≤ 65535) := Lib.hid (by
        unfold grGood grLast
        rw [e1.out, e2.out, e3.out]
        rcases Nat.eq_zero_or_pos k with h3 | h3
        · rw [if_pos h3]
          constructor
          · rintro ⟨a1, a2, a3, a4⟩; exact ⟨a1, a2, by omega, a4⟩
          · rintro ⟨a1, a2, a3, a4⟩; exact ⟨a1, a2, .inl h3, a4⟩
        · rw [if_neg (by omega)]
          constructor
          · rintro ⟨a1, a2, a3, a4⟩; exact ⟨a1, a2, by omega, a4⟩
          · rintro ⟨a1, a2, a3, a4⟩; exact ⟨a1, a2, .inr (by omega), a4⟩)
      have HNO : Hid (¬ grGood t k → ¬ (grOk t ∧ ∀ x ∈ grAll t n, ¬ bad x)) := Lib.hid (fun h1 h2 => h1 (h2.1.2 k (by rw [HN.out]; exact hlt)))
      generalize grLast t k = lst at *
      by_cases c1 : v1 ≤ v2
      case neg =>
        have hno : Hid (¬ (grOk t ∧ ∀ x ∈ grAll t n, ¬ bad x)) := Lib.hid (HNO.out (fun h => c1 ((HGD.out.1 h).1)))
        have d1 : decide ((v1 : Int) ≤ (v2 : Int)) = false := decide_eq_false (by omega)
        have d1b : decide (v1 ≤ v2) = false := decide_eq_false (by omega)
        go_wp2_with (go_at_call 40; refine (need_no _).mono ?_; rintro e w' ⟨rfl, rfl⟩)
        exact ⟨rfl, .inr ⟨rfl, HY.out.stop _ _ HJ2.out, hno.out⟩⟩
      have d1 : decide ((v1 : Int) ≤ (v2 : Int)) = true := decide_eq_true (by omega)
      have d1b : decide (v1 ≤ v2) = true := decide_eq_true (by omega)
      by_cases c2 : v2 ≤ 1114111
      case neg =>
        have hno : Hid (¬ (grOk t ∧ ∀ x ∈ grAll t n, ¬ bad x)) := Lib.hid (HNO.out (fun h => c2 ((HGD.out.1 h).2.1)))
        have d2 : decide ((v2 : Int) ≤ 1114111) = false := decide_eq_false (by omega)
        have d2b : decide (v2 ≤ 1114111) = false := decide_eq_false (by omega)
        go_wp2_with (go_at_call 40; refine (need_no _).mono ?_; rintro e w' ⟨rfl, rfl⟩)
        exact ⟨rfl, .inr ⟨rfl, HY.out.stop _ _ HJ2.out, hno.out⟩⟩
      have d2 : decide ((v2 : Int) ≤ 1114111) = true := decide_eq_true (by omega)
      have d2b : decide (v2 ≤ 1114111) = true := decide_eq_true (by omega)
      by_cases c3 : lst < (v1 : Int)
      case neg =>
        have hno : Hid (¬ (grOk t ∧ ∀ x ∈ grAll t n, ¬ bad x)) := Lib.hid (HNO.out (fun h => c3 ((HGD.out.1 h).2.2.1)))
        have d3 : decide (lst < (v1 : Int)) = false := decide_eq_false (by omega)
        go_wp2_with (go_at_call 40; refine (need_no _).mono ?_; rintro e w' ⟨rfl, rfl⟩)
        exact ⟨rfl, .inr ⟨rfl, HY.out.stop _ _ HJ2.out, hno.out⟩⟩
      have d3 : decide (lst < (v1 : Int)) = true := decide_eq_true (by omega)
      have ws : IntKind.i64.wrap ((v3 : Int) + (v2 : Int)) = (v3 : Int) + (v2 : Int) := IntWalk.i64_in _ (by omega)
      have wt : IntKind.i64.wrap ((v3 : Int) + (v2 : Int) - (v1 : Int)) = (v3 : Int) + (v2 : Int) - (v1 : Int) := IntWalk.i64_in _ (by omega)
      by_cases c4 : v3 + v2 - v1 ≤ 65535
      case neg =>
        have hno : Hid (¬ (grOk t ∧ ∀ x ∈ grAll t n, ¬ bad x)) := Lib.hid (HNO.out (fun h => c4 ((HGD.out.1 h).2.2.2)))
        have d4 : decide ((v3 : Int) + (v2 : Int) - (v1 : Int) ≤ 65535) = false := decide_eq_false (by omega)
        go_wp2_with (go_at_call 40; refine (need_no _).mono ?_; rintro e w' ⟨rfl, rfl⟩)
        exact ⟨rfl, .inr ⟨rfl, HY.out.stop _ _ HJ2.out, hno.out⟩⟩
      have d4 : decide ((v3 : Int) + (v2 : Int) - (v1 : Int) ≤ 65535) = true := decide_eq_true (by omega)
      have hgd : Hid (grGood t k) := Lib.hid (HGD.out.2 ⟨c1, c2, c3, c4⟩)
      go_wp2_with (go_at_call 40; refine (need_ok _).mono ?_; rintro e w' ⟨rfl, rfl⟩)
      have H1 := HJ2.out
      have HW2s := Lib.hid (show grAll t k ++ grPart t k 0 = grAll t k from by simp [grPart])
      go_loopw [9] (fun cv wx => ∃ j c : Nat, c ≤ v2 + 1 ∧ Hid (c = v1 + j) ∧ cv = .int .i64 (c : Int) ∧ J (grAll t k ++ grPart t k j) wx ∧ ∀ x ∈ grAll t k ++ grPart t k j, ¬ bad x) (fun cv _ => v2 + 1 - (intOf cv).toNat)
      case atStart => exact ⟨0, v1, by omega, Lib.hid rfl, rfl, by rw [HW2s.out]; exact HJ2.out, by rw [HW2s.out]; exact HB.out⟩
      case round =>
        rename_i wx
        obtain ⟨j, c, hj, hc, rfl, hJj, hbj⟩ := hrel
        have HJJ := Lib.hid hJj
        have HBJ := Lib.hid hbj
        clear hJj hbj H1
        by_cases hle : c ≤ v2
        · obtain ⟨g, hg⟩ : ∃ g, g = v3 + j := ⟨_, rfl⟩
          have hmem : (c, g) ∈ grAll t n := by
            have := grAll_mem (t := t) (i := k) (j := j) (by rw [HN.out]; exact hlt) (by rw [e1.out, e2.out, ← hc.out]; exact hle)
            rw [e1.out, e3.out, ← hc.out, ← hg, HN.out] at this
            exact this
          obtain ⟨fn, tmps, assign, body, hy, hR⟩ := HY.out.round _ _ _ HJJ.out hmem ⟨grPre_length HG.out hgd.out (by rw [e1.out, e2.out, ← hc.out]; exact hle), by show c < 1114112; omega, by show g < 65536; have := hc.out; omega⟩
          have HR := Lib.hid hR
          have u1 : IntKind.i64.wrap ((v3 : Int) + (c : Int)) = (v3 : Int) + (c : Int) := IntWalk.i64_in _ (by omega)
          have u2 : IntKind.i64.wrap ((v3 : Int) + (c : Int) - (v1 : Int)) = (g : Int) := by have := hc.out; rw [IntWalk.i64_in _ (by omega)]; omega
          have d5 : decide ((c : Int) ≤ (v2 : Int)) = true := decide_eq_true (by omega)
          have d5b : decide (c ≤ v2) = true := decide_eq_true hle
          have HG2 := Lib.hid hg
          clear hR hg
          go_upto_region 10 with (fail)
          refine (wpIn_wide (n := 1)).1 ?_
          gi_wp2
          refine HR.out.mono ?_
          rintro e W3 (⟨rfl, hJ3, hnb⟩ | ⟨rfl, hX, hb⟩)
          · have hnew : Hid (grAll t k ++ grPart t k (j + 1) = grAll t k ++ grPart t k j ++ [(c, g)]) := Lib.hid (by
              rw [grPart_succ, e1.out, e3.out, ← hc.out, ← HG2.out, List.append_assoc])
            gi_wp2
            go_wp2_with fail
            go_roundw
            case rel =>
              refine ⟨j + 1, c + 1, by omega, Lib.hid (by rw [hc.out]; omega), by go_num, by rw [hnew.out]; exact hJ3, fun x hx => ?_⟩
              rw [hnew.out] at hx
              rcases List.mem_append.1 hx with hx | hx
              · exact HBJ.out x hx
              · rw [List.mem_singleton.1 hx]; exact hnb
            case measure => simp [intOf]; omega
          · gi_wp2
            exact ⟨rfl, .inr ⟨rfl, hX, fun h => h.2 _ hmem hb⟩⟩
        · have hdone : Hid (grAll t (k + 1) = grAll t k ++ grPart t k j) := Lib.hid (by
            have h1 := hc.out
            rw [grAll_succ, ← grPart_full, e1.out, e2.out, show v2 + 1 - v1 = j from by omega])
          have d5 : decide ((c : Int) ≤ (v2 : Int)) = false := decide_eq_false (by omega)
          have d5b : decide (c ≤ v2) = false := decide_eq_false hle
          go_wp2_with fail
          go_roundw
          case rel =>
            refine ⟨k + 1, by omega, by go_num, by rw [hlast.out], by rw [hdone.out]; exact HJJ.out, fun i hi => ?_, by rw [hdone.out]; exact HBJ.out⟩
            rcases Nat.lt_or_ge i k with h3 | h3
            · exact HG.out i h3
            · obtain rfl : i = k := by omega
              exact hgd.out
          case measure => simp [intOf]; omega
    · go_wp2_with fail
      go_end0
      have hkn : k = n := by omega
      subst hkn
      exact .inl ⟨rfl, HJ.out, ⟨HH.out, fun i hi => HG.out i (by rw [← HN.out]; exact hi)⟩, HB.out⟩
end Go.Proofs.YtfbppbelcbbhlaaGreatDoor.Sf

/- sfnt.segments: the iterator over a subtable of the format 4, or a refusal (printed by gen/segs.py). -/
namespace Go.Proofs.YtfbppbelcbbhlaaGreatDoor.Sf
open Go Go.RowKit

def SegsPost (w : World) (a : Nat) (t : List Nat) (e : Ending) (w' : World) : Prop :=
  Below w.heap.size w w' ∧ ((sgHead t ∧ ∃ nb rb sb, e = .returned (.func (.func 93) #[] #[.pointer (some ⟨nb, 0, none⟩), .pointer (some ⟨rb, 0, none⟩), .pointer (some ⟨sb, 0, none⟩)]) ∧
      w'.cell? ⟨nb, 0, none⟩ = some (.int .i64 (sgN t : Nat)) ∧ w'.cell? ⟨rb, 0, none⟩ = some (.pointer (some ⟨a, 0, none⟩)) ∧ w'.cell? ⟨sb, 0, none⟩ = some (.int .i64 (sgSize t : Nat)) ∧ w.heap.size ≤ nb ∧ w.heap.size ≤ rb ∧ w.heap.size ≤ sb) ∨
    (¬ sgHead t ∧ e = .panicked [{ v := brokenV, recovered := false }]))
/-- The two variables that the iterator captures. -/
def SegVars (W1 : World) (z n : Nat) (v3 v4 : Value) (wx : World) : Prop :=
  ∃ sb nb, v3 = .pointer (some ⟨sb, 0, none⟩) ∧ v4 = .pointer (some ⟨nb, 0, none⟩) ∧ wx.cell? ⟨sb, 0, none⟩ = some (.int .i64 (z : Nat)) ∧ wx.cell? ⟨nb, 0, none⟩ = some (.int .i64 (n : Nat)) ∧ Below W1.heap.size W1 wx ∧ W1.heap.size ≤ sb ∧ W1.heap.size ≤ nb
theorem segVars_one (W1 : World) (z n : Nat) : SegVars W1 z n (.pointer (some ⟨W1.heap.size, 0, none⟩)) (.pointer (some ⟨W1.heap.size + 1, 0, none⟩)) (((W1.alloc (.cells #[.int .i64 (z : Int)] 3)).alloc (.cells #[.int .i64 (n : Int)] 3)).drew) := by
  have h2 := cell_of_row _ _ 0 _ _ (0, 0) (heap_alloc_new (W1.alloc (.cells #[.int .i64 (z : Int)] 3)) (.cells #[.int .i64 (n : Int)] 3))
  rw [World.size_alloc] at h2
  refine ⟨_, _, rfl, rfl, ?_, h2.trans rfl, (((Below.refl _ _).alloc (Nat.le_refl _) _).alloc (by simp) _).drew, Nat.le_refl _, by omega⟩
  show ((W1.alloc _).alloc _).cell? _ = _
  rw [World.cell?_alloc_lt _ _ _ (by simp)]
  exact (cell_of_row _ W1.heap.size 0 _ _ (0, 0) (heap_alloc_new W1 _)).trans rfl
theorem segVars_two (W1 : World) (z n : Nat) : SegVars W1 z n (.pointer (some ⟨W1.heap.size + 1, 0, none⟩)) (.pointer (some ⟨W1.heap.size, 0, none⟩)) (((W1.alloc (.cells #[.int .i64 (n : Int)] 3)).alloc (.cells #[.int .i64 (z : Int)] 3)).drew) := by
  obtain ⟨sb, nb, h1, h2, h3, h4, h5, h6, h7⟩ := segVars_one W1 n z
  cases h1
  cases h2
  exact ⟨_, _, rfl, rfl, h4, h3, h5, h7, h6⟩

set_option maxRecDepth 100000 in
set_option maxHeartbeats 2000000 in
theorem segs_any (a s : Nat) (t : List Nat) (w : World) (h : Rdr w a s t) (hmax : t.length ≤ 140737488355328) :
    Calls Tryz.prog 75 #[.pointer (some ⟨a, 0, none⟩)] w fun e w' => SegsPost w a t e w' := by
  have hb1 : Below w.heap.size w (w.alloc (.cells #[.pointer (some ⟨a, 0, none⟩)] 66)) := (Below.refl _ _).alloc (Nat.le_refl _) _
  have H1 := Lib.hid (h.kept (kept_of_below hb1))
  have HB1 := Lib.hid hb1
  have HL := Lib.hid H1.out.len
  clear h hb1
  go_enter Tryz.func75, Tryz.ntmps75
  by_cases c1 : 16 ≤ t.length
  case neg =>
    have hno : Hid (¬ sgHead t) := Lib.hid (fun hh => c1 hh.1)
    have d1 : decide (16 ≤ (t.length : Int)) = false := decide_eq_false (by omega)
    have d1b : decide (16 ≤ t.length) = false := decide_eq_false (by omega)
    go_wp2_with (first | (go_at_call 69; refine HL.out.mono ?_; rintro e w' ⟨rfl, rfl⟩) | (go_at_call 40; refine (need_no _).mono ?_; rintro e w' ⟨rfl, rfl⟩))
    exact ⟨rfl, HB1.out, .inr ⟨hno.out, rfl⟩⟩
  have d1 : decide (16 ≤ (t.length : Int)) = true := decide_eq_true (by omega)
  have d1b : decide (16 ≤ t.length) = true := decide_eq_true (by omega)
  go_upto_region 2 with (first | (go_at_call 69; refine HL.out.mono ?_; rintro e w' ⟨rfl, rfl⟩) | (go_at_call 40; refine (need_ok _).mono ?_; rintro e w' ⟨rfl, rfl⟩))
  obtain ⟨W1, hW1⟩ : ∃ W1, w.alloc (.cells #[.pointer (some ⟨a, 0, none⟩)] 66) = W1 := ⟨_, rfl⟩
  have q1 : W1.cell? ⟨w.heap.size, 0, none⟩ = some (.pointer (some ⟨a, 0, none⟩)) := by
    rw [← hW1]
    exact (cell_of_row _ w.heap.size 0 _ _ (0, 0) (heap_alloc_new w _)).trans rfl
  have hsz : w.heap.size ≤ W1.heap.size := by rw [← hW1]; simp
  rw [hW1] at H1 HB1
  rw [hW1]
  have m2 : numAt t 2 2 < 65536 := numAt_two_lt t 2 H1.out.lt (by omega)
  have m6 : numAt t 6 2 < 65536 := numAt_two_lt t 6 H1.out.lt (by omega)
  have hz : Hid (sgSize t = numAt t 2 2) := Lib.hid rfl
  have hn : Hid (sgN t = numAt t 6 2 / 2) := Lib.hid rfl
  have HW2 := Lib.hid (fun W (hW : Below W1.heap.size W1 W) => (H1.out.kept (kept_of_below hW)).wordI 2 2 rfl (by omega))
  have HW6 := Lib.hid (fun W (hW : Below W1.heap.size W1 W) => (H1.out.kept (kept_of_below hW)).wordI 6 6 rfl (by omega))
  clear hW1 HL
  have HV : Hid (∀ W, Below W1.heap.size W1 W → Below W1.heap.size W1 W ∧ W.cell? ⟨w.heap.size, 0, none⟩ = some (.pointer (some ⟨a, 0, none⟩))) := Lib.hid (fun W hW => ⟨hW, (kept_of_below hW).cell q1⟩)
  have q2 : Below W1.heap.size W1 W1 ∧ W1.cell? ⟨w.heap.size, 0, none⟩ = some (.pointer (some ⟨a, 0, none⟩)) := ⟨Below.refl _ _, q1⟩
  generalize numAt t 2 2 = z at *
  generalize hw6 : numAt t 6 2 = w6 at *
  have H6 := Lib.hid hw6
  clear hw6
  have wz : IntKind.i64.wrap (z : Int) = (z : Int) := IntWalk.i64_in _ (by omega)
  have w66 : IntKind.i64.wrap (w6 : Int) = (w6 : Int) := IntWalk.i64_in _ (by omega)
  obtain ⟨n, hnn⟩ : ∃ n, n = w6 / 2 := ⟨_, rfl⟩
  have wq : (w6 : Int).tdiv 2 = (n : Int) := by rw [Int.tdiv_eq_ediv_of_nonneg (by omega), hnn]; omega
  have HNN := Lib.hid hnn
  rw [← hnn] at hn
  have hn6 : n < 32768 := by omega
  have wn : IntKind.i64.wrap (n : Int) = (n : Int) := IntWalk.i64_in _ (by omega)
  clear hnn
  go_cut [3, 4] from 9 to 55 (fun v3 v4 wx => SegVars W1 z n v3 v4 wx)
  case first =>
    go_region_held3 (fun W => Below W1.heap.size W1 W ∧ W.cell? ⟨w.heap.size, 0, none⟩ = some (.pointer (some ⟨a, 0, none⟩)))
      (first | assumption | exact HV.out _ q2.1.drew | (refine HV.out _ ?_; refine Below.alloc (And.left (by assumption)) (Below.size (And.left (by assumption))) _) | exact HV.out _ (((Below.refl W1.heap.size W1).alloc (Nat.le_refl _) _).alloc (by simp) _).drew)
      (first | (go_at_call 42; (with_reducible refine (HW2.out _ ?_).mono ?_); exact And.left (by assumption); rintro e w3 ⟨rfl, rfl⟩) | (go_at_call 42; (with_reducible refine (HW6.out _ ?_).mono ?_); exact And.left (by assumption); rintro e w3 ⟨rfl, rfl⟩))
    all_goals
      go_wp2_with fail
      go_meet
      case rel => first | exact segVars_one W1 z n | exact segVars_two W1 z n
  case rest =>
  obtain ⟨sb, nb, rfl, rfl, q3, q4, hb2, hs3, hs4⟩ := hcut
  obtain ⟨W2, rfl⟩ : ∃ W2, W2 = wc := ⟨_, rfl⟩
  have HR := Lib.hid (H1.out.kept (kept_of_below hb2))
  have HB2 := Lib.hid (HB1.out.trans (hb2.mono hsz))
  have q5 := (kept_of_below hb2).cell q1
  have p1 : ∀ e : Grown W2, e.w.cell? ⟨w.heap.size, 0, none⟩ = some (.pointer (some ⟨a, 0, none⟩)) := fun e => e.cell q5
  have p2 : ∀ e : Grown W2, e.w.cell? ⟨sb, 0, none⟩ = some (.int .i64 (z : Nat)) := fun e => e.cell q3
  have p3 : ∀ e : Grown W2, e.w.cell? ⟨nb, 0, none⟩ = some (.int .i64 (n : Nat)) := fun e => e.cell q4
  have HLL := Lib.hid (fun e : Grown W2 => (e.rdr HR.out).len)
  have hl6 := fun e : Grown W2 => (e.rdr HR.out).wordI 6 6 rfl (by omega)
  rw [H6.out] at hl6
  have HL6 := Lib.hid hl6
  clear q1 q2 q3 q4 q5 hb2 HW2 HW6 HV H1 hl6
  go_upto_region 3 with (fail)
  by_cases c2 : 2 ≤ w6
  case neg =>
    have hno : Hid (¬ sgHead t) := Lib.hid (fun hh => c2 (by rw [← H6.out]; exact hh.2.1))
    have d2 : decide (2 ≤ (w6 : Int)) = false := decide_eq_false (by omega)
    have d2b : decide (2 ≤ w6) = false := decide_eq_false (by omega)
    refine wp_region_grown_tail 22 (by kernel_rfl) (by kernel_rfl) ?_
    simp only [List.take_succ_cons, List.take_zero, List.drop_succ_cons, List.drop_zero]
    repeat (go_big_quiet_step (((go_at_call 42; with_reducible (exact calls_grown_same (HL6.out _))))))
    refine wpQuiet_nil ?_
    intro eg
    go_wp2_with (go_at_call 40; refine (need_no _).mono ?_; rintro e w' ⟨rfl, rfl⟩)
    exact ⟨rfl, eg.outer HB2.out, .inr ⟨hno.out, rfl⟩⟩
  have d2 : decide (2 ≤ (w6 : Int)) = true := decide_eq_true (by omega)
  have d2b : decide (2 ≤ w6) = true := decide_eq_true (by omega)
  have wr6 : (w6 : Int).tmod 2 = (w6 : Int) % 2 := Int.tmod_eq_emod_of_nonneg (by omega)
  by_cases c3 : w6 % 2 = 0
  case neg =>
    have hno : Hid (¬ sgHead t) := Lib.hid (fun hh => c3 (by rw [← H6.out]; exact hh.2.2.1))
    have d3 : ((w6 : Int) % 2 == 0) = false := by simp; omega
    have d3b : (w6 % 2 == 0) = false := by simp; omega
    refine wp_region_grown_tail 22 (by kernel_rfl) (by kernel_rfl) ?_
    simp only [List.take_succ_cons, List.take_zero, List.drop_succ_cons, List.drop_zero]
    repeat (go_big_quiet_step (((go_at_call 42; with_reducible (exact calls_grown_same (HL6.out _))))))
    refine wpQuiet_nil ?_
    intro eg
    go_wp2_with (go_at_call 40; refine (need_no _).mono ?_; rintro e w' ⟨rfl, rfl⟩)
    exact ⟨rfl, eg.outer HB2.out, .inr ⟨hno.out, rfl⟩⟩
  have d3 : ((w6 : Int) % 2 == 0) = true := by simp; omega
  have d3b : (w6 % 2 == 0) = true := by simp; omega
  have w8 : IntKind.i64.wrap (8 * (n : Int)) = 8 * (n : Int) := IntWalk.i64_in _ (by omega)
  have w16 : IntKind.i64.wrap (16 + 8 * (n : Int)) = 16 + 8 * (n : Int) := IntWalk.i64_in _ (by omega)
  by_cases c4 : 16 + 8 * n ≤ z
  case neg =>
    have hno : Hid (¬ sgHead t) := Lib.hid (fun hh => c4 (by rw [← hn.out, ← hz.out]; exact hh.2.2.2.1))
    have d4 : decide (16 + 8 * (n : Int) ≤ (z : Int)) = false := decide_eq_false (by omega)
    refine wp_region_grown_tail 22 (by kernel_rfl) (by kernel_rfl) ?_
    simp only [List.take_succ_cons, List.take_zero, List.drop_succ_cons, List.drop_zero]
    repeat (go_big_quiet_step (((go_at_call 42; with_reducible (exact calls_grown_same (HL6.out _))))))
    refine wpQuiet_nil ?_
    intro eg
    go_wp2_with (go_at_call 40; refine (need_no _).mono ?_; rintro e w' ⟨rfl, rfl⟩)
    exact ⟨rfl, eg.outer HB2.out, .inr ⟨hno.out, rfl⟩⟩
  have d4 : decide (16 + 8 * (n : Int) ≤ (z : Int)) = true := decide_eq_true (by omega)
  by_cases c5 : z ≤ t.length
  case neg =>
    have hno : Hid (¬ sgHead t) := Lib.hid (fun hh => c5 (by rw [← hz.out]; exact hh.2.2.2.2.1))
    have d5 : decide ((z : Int) ≤ (t.length : Int)) = false := decide_eq_false (by omega)
    have d5b : decide (z ≤ t.length) = false := decide_eq_false (by omega)
    refine wp_region_grown_tail 22 (by kernel_rfl) (by kernel_rfl) ?_
    simp only [List.take_succ_cons, List.take_zero, List.drop_succ_cons, List.drop_zero]
    repeat (go_big_quiet_step (first | (go_at_call 42; with_reducible (exact calls_grown_same (HL6.out _))) | (go_at_call 69; exact calls_grown_same (HLL.out _))))
    refine wpQuiet_nil ?_
    intro eg
    go_wp2_with (go_at_call 40; refine (need_no _).mono ?_; rintro e w' ⟨rfl, rfl⟩)
    exact ⟨rfl, eg.outer HB2.out, .inr ⟨hno.out, rfl⟩⟩
  have d5 : decide ((z : Int) ≤ (t.length : Int)) = true := decide_eq_true (by omega)
  have d5b : decide (z ≤ t.length) = true := decide_eq_true (by omega)
  have hm14 : numAt t (14 + 2 * n) 2 < 65536 := numAt_two_lt t _ HR.out.lt (by omega)
  have hm12 : numAt t (12 + 2 * n) 2 < 65536 := numAt_two_lt t _ HR.out.lt (by omega)
  have HA := Lib.hid (fun e : Grown W2 => (e.rdr HR.out).wordI (14 + 2 * n) (14 + 2 * (n : Int)) (by omega) (by omega))
  have HB := Lib.hid (fun e : Grown W2 => (e.rdr HR.out).wordI (12 + 2 * n) (12 + 2 * (n : Int)) (by omega) (by omega))
  have e14 : Hid (numAt t (14 + 2 * sgN t) 2 = numAt t (14 + 2 * n) 2) := Lib.hid (by rw [hn.out])
  have e12 : Hid (numAt t (12 + 2 * sgN t) 2 = numAt t (12 + 2 * n) 2) := Lib.hid (by rw [hn.out])
  generalize numAt t (14 + 2 * n) 2 = v14 at *
  generalize numAt t (12 + 2 * n) 2 = v12 at *
  have w2 : IntKind.i64.wrap (2 * (n : Int)) = 2 * (n : Int) := IntWalk.i64_in _ (by omega)
  have w14 : IntKind.i64.wrap (14 + 2 * (n : Int)) = 14 + 2 * (n : Int) := IntWalk.i64_in _ (by omega)
  have w12 : IntKind.i64.wrap (12 + 2 * (n : Int)) = 12 + 2 * (n : Int) := IntWalk.i64_in _ (by omega)
  refine wp_region_grown_tail 22 (by kernel_rfl) (by kernel_rfl) ?_
  simp only [List.take_succ_cons, List.take_zero, List.drop_succ_cons, List.drop_zero]
  repeat (go_big_quiet_step (first | (go_at_call 42; with_reducible (exact calls_grown_same (HL6.out _))) | (go_at_call 69; exact calls_grown_same (HLL.out _))))
  refine wpQuiet_nil ?_
  intro eg
  go_wp2_with (go_at_call 40; refine (need_ok _).mono ?_; rintro e w' ⟨rfl, rfl⟩)
  have p1e := p1 eg
  have p2e := p2 eg
  have p3e := p3 eg
  have HBe := Lib.hid (eg.outer HB2.out)
  clear p1 p2 p3
  by_cases c6 : v14 = 0
  case neg =>
    have hno : Hid (¬ sgHead t) := Lib.hid (fun hh => c6 (by rw [← e14.out]; exact hh.2.2.2.2.2.1))
    have d6 : ((v14 : Int) == 0) = false := by simp; omega
    have d6b : (v14 == 0) = false := by simp; omega
    have d6c : decide (v14 = 0) = false := decide_eq_false (by omega)
    go_wp2_with (first | (go_at_call 42; with_reducible (refine (HA.out eg).mono ?_); rintro e w' ⟨rfl, rfl⟩) | (go_at_call 42; with_reducible (refine (HB.out eg).mono ?_); rintro e w' ⟨rfl, rfl⟩) | (go_at_call 40; refine (need_no _).mono ?_; rintro e w' ⟨rfl, rfl⟩))
    exact ⟨rfl, HBe.out, .inr ⟨hno.out, rfl⟩⟩
  have d6 : ((v14 : Int) == 0) = true := by simp; omega
  have d6b : (v14 == 0) = true := by simp; omega
  have d6c : decide (v14 = 0) = true := decide_eq_true (by omega)
  have C6 := Lib.hid c6
  clear c6
  by_cases c7 : v12 = 65535
  case neg =>
    have hno : Hid (¬ sgHead t) := Lib.hid (fun hh => c7 (by rw [← e12.out]; exact hh.2.2.2.2.2.2))
    have d7 : ((v12 : Int) == 65535) = false := by simp; omega
    have d7b : (v12 == 65535) = false := by simp; omega
    have d7c : decide (v12 = 65535) = false := decide_eq_false (by omega)
    go_wp2_with (first | (go_at_call 42; with_reducible (refine (HA.out eg).mono ?_); rintro e w' ⟨rfl, rfl⟩) | (go_at_call 42; with_reducible (refine (HB.out eg).mono ?_); rintro e w' ⟨rfl, rfl⟩) | (go_at_call 40; refine (need_no _).mono ?_; rintro e w' ⟨rfl, rfl⟩))
    exact ⟨rfl, HBe.out, .inr ⟨hno.out, rfl⟩⟩
  have d7 : ((v12 : Int) == 65535) = true := by simp; omega
  have d7b : (v12 == 65535) = true := by simp; omega
  have d7c : decide (v12 = 65535) = true := decide_eq_true (by omega)
  have C7 := Lib.hid c7
  clear c7
  have hyes : Hid (sgHead t) := Lib.hid ⟨c1, by rw [H6.out]; exact c2, by rw [H6.out]; exact c3, by rw [hn.out, hz.out]; exact c4, by rw [hz.out]; exact c5, by rw [e14.out]; exact C6.out, by rw [e12.out]; exact C7.out⟩
  go_wp2_with (first | (go_at_call 42; with_reducible (refine (HA.out eg).mono ?_); rintro e w' ⟨rfl, rfl⟩) | (go_at_call 42; with_reducible (refine (HB.out eg).mono ?_); rintro e w' ⟨rfl, rfl⟩) | (go_at_call 40; refine (need_ok _).mono ?_; rintro e w' ⟨rfl, rfl⟩))
  go_ret
  exact ⟨HBe.out, .inl ⟨hyes.out, _, _, _, rfl, by rw [hn.out]; exact p3e, p1e, by rw [hz.out]; exact p2e, by omega, Nat.le_refl _, by omega⟩⟩
end Go.Proofs.YtfbppbelcbbhlaaGreatDoor.Sf
