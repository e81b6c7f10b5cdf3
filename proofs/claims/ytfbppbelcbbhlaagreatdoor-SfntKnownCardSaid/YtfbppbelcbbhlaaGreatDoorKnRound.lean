/- SameWords: two rows that hold the same numbers are the same. -/
import Derived.Test.YtfbppbelcbbhlaaGreatDoorKnWid
import Derived.Test.YtfbppbelcbbhlaaGreatDoorKnMapF
import Derived.Test.YtfbppbelcbbhlaaGreatDoorKnWid2
import Derived.Test.YtfbppbelcbbhlaaGreatDoorKnWidR
import Derived.Test.YtfbppbelcbbhlaaGreatDoorKnJoinW
import Derived.Test.YtfbppbelcbbhlaaGreatDoorKnTabsW
namespace Go.Proofs.YtfbppbelcbbhlaaGreatDoor.Sf
open Go Go.RowKit

theorem u16s_at (S : List Nat) (k : Nat) (x : Nat) (h : S[k]? = some x) : (u16s S)[k]? = some (.int .u16 x) := by simp [u16s, h]
set_option maxRecDepth 100000 in
set_option maxHeartbeats 1000000 in
theorem sameWords_ok (A B : Option Addr) (ca cb B0 B1 : Nat) (S : List Nat) (w : World) (ha : w.ownsRow B0 68 1 (.slice A S.length ca) S.length (u16s S)) (hb : w.ownsRow B1 68 1 (.slice B S.length cb) S.length (u16s S)) (hn : S.length ≤ 100000) :
    Calls Tryz.prog 55 #[.slice A S.length ca, .slice B S.length cb] w fun e w' => e = .returned (.bool true) ∧ Below w.heap.size w w' := by
  have HA := Lib.hid ha
  have HB := Lib.hid hb
  clear ha hb
  obtain ⟨n, hN⟩ : ∃ n, n = S.length := ⟨_, rfl⟩
  rw [← hN] at HA HB hn ⊢
  have HN := Lib.hid hN
  clear hN
  go_enter Tryz.func55, Tryz.ntmps55
  go_wp2_with fail
  go_loopw [5] (fun v wr => ∃ k : Nat, k ≤ n ∧ v = .int .i64 k ∧ Below w.heap.size w wr) (fun v _ => n - (intOf v).toNat)
  case atStart => exact ⟨0, by omega, rfl, Below.refl _ _⟩
  case round =>
    obtain ⟨k, hk, rfl, hbel⟩ := hrel
    have HBE := Lib.hid hbel
    clear hbel
    by_cases hlt : k < n
    · have b0 : (0 : Int) ≤ (k : Int) := by omega
      have b1 : (k : Int) < (n : Int) := by omega
      have wk : IntKind.i64.wrap ((k : Int) + 1) = ((k + 1 : Nat) : Int) := by rw [IntWalk.i64_in _ (by omega)]; omega
      obtain ⟨t, ht⟩ : ∃ t, S[k]? = some t := ⟨S[k]'(by rw [← HN.out]; omega), List.getElem?_eq_getElem _⟩
      have hu := u16s_at S k t ht
      obtain ⟨qa, hA, -⟩ := own_pos HA.out (by omega)
      obtain ⟨qb, hB, -⟩ := own_pos HB.out (by omega)
      subst hA hB
      have ca1 : wr.cell? ⟨qa, k, none⟩ = some (.int .u16 t) := by rw [(own_below HA.out HBE.out).cellAt _ (by omega), hu]
      have cb1 : wr.cell? ⟨qb, k, none⟩ = some (.int .u16 t) := by rw [(own_below HB.out HBE.out).cellAt _ (by omega), hu]
      have p0 : ∀ e : Grown wr, e.w.cell? ⟨qa, k, none⟩ = some (.int .u16 t) := fun e => e.cell ca1
      have r0 : ∀ e : Grown wr, e.w.cell? ⟨qb, k, none⟩ = some (.int .u16 t) := fun e => e.cell cb1
      clear ca1 cb1 hu ht
      go_upto_region 6 with (fail)
      refine wp_region_grown (by kernel_rfl) (by kernel_rfl) ?_
      repeat (go_big_quiet_step (fail))
      refine wpQuiet_nil ?_
      rintro _ ⟨eg, rfl⟩
      have HBG := Lib.hid (HBE.out.trans (eg.below.mono HBE.out.size))
      go_wp2_with fail
      go_roundw
      case rel => exact ⟨k + 1, by omega, by go_num, HBG.out⟩
      case measure => simp [intOf]; omega
    · go_wp2_with fail
      go_ret
      exact ⟨rfl, HBE.out⟩
end Go.Proofs.YtfbppbelcbbhlaaGreatDoor.Sf

/- SfntWidths answers true, whatever bytes come in. -/
namespace Go.Proofs.YtfbppbelcbbhlaaGreatDoor.Sf
open Go Go.RowKit

theorem widths_nil (a1 s1 : Nat) (v3 : Value) (p : List Nat) (w : World) (h1 : Rdr w a1 s1 p) :
    Calls Tryz.prog 53 #[.pointer (some ⟨a1, 0, none⟩), .pointer none, v3] w fun e w' => WidPost 68 w (widF p [] []) e w' := by
  have hno : ¬ widOk p [] [] := fun h => by have := h.2.2.1; simp at this
  have H1 := Lib.hid (h1.kept (kept_of_below ((Below.refl w.heap.size w).alloc (Nat.le_refl _) (.cells #[.int .i64 0] 28))))
  clear h1
  go_enter_defers Tryz.func53, Tryz.ntmps53
  go_wp2_with (first | (go_at_call 68; with_reducible (refine H1.out.good.mono ?_); rintro e w' ⟨rfl, rfl⟩) | (go_at_call 68; with_reducible (refine (bad_nil _).mono ?_); rintro e w' ⟨rfl, rfl⟩) | (go_at_call 40; refine (need_no _).mono ?_; rintro e w' ⟨rfl, rfl⟩))
  exact wid_refuse hno rfl rfl rfl rfl rfl
def widS (r : Option (List Nat × Int × Int)) : List Nat := (r.map (·.1)).getD []
def widA (r : Option (List Nat × Int × Int)) : Int := (r.map (·.2.1)).getD 0
def widD_ (r : Option (List Nat × Int × Int)) : Int := (r.map (·.2.2)).getD 0
def widX (r : Option (List Nat × Int × Int)) : Int := if r.isSome then 0 else 50
theorem one_wid {T : TypeId} {w w2 : World} {r : Option (List Nat × Int × Int)} {e : Ending} (h : WidPost T w r e w2) :
    ∃ (A : Option Addr) (c : Nat), e = .returned (.tuple #[.slice A (widS r).length c, .int .i16 (widA r), .int .i16 (widD_ r), .int .i64 (widX r)]) ∧ w2.ownsRow w.heap.size T 1 (.slice A (widS r).length c) (widS r).length (u16s (widS r)) ∧ Below w.heap.size w w2 := by
  cases r with
  | none =>
    obtain ⟨rfl, h3⟩ := h
    exact ⟨none, 0, rfl, World.ownsRow_nil _ _ _ _, h3⟩
  | some S =>
    obtain ⟨S, a, d⟩ := S
    obtain ⟨A, c, rfl, h3, h4⟩ := h
    exact ⟨A, c, rfl, h3, h4⟩
theorem widF_len {w : World} {A : Option Addr} {ca : Nat} (p h x : List Nat) (hp : Byt w A ca p) : (widS (widF p h x)).length ≤ 65536 := by
  unfold widF widS
  split
  · simp only [Option.map_some, Option.getD_some, widRow_length]
    have : widN p < 65536 := refNum_two_lt hp _
    omega
  · simp
theorem widF_nil (p : List Nat) : widF p [] [] = none := by
  unfold widF
  rw [if_neg]
  intro h
  have := h.2.2.1
  simp at this
set_option maxRecDepth 100000 in
set_option maxHeartbeats 1000000 in
theorem widths_law (A B C : Option Addr) (ca cb cc : Nat) (p h x : List Nat) (w : World) (h1 : Byt w A ca p) (h2 : Byt w B cb h) (h3 : Byt w C cc x) (hd : HdVar w) (z1 : p.length ≤ 140737488355328) (z2 : h.length ≤ 140737488355328) (z3 : x.length ≤ 140737488355328) :
    Calls Tryz.prog 25 #[.slice A p.length ca, .slice B h.length cb, .slice C x.length cc] w fun e w' => e = .returned (.bool true) ∧ Below w.heap.size w w' := by
  have HD := Lib.hid hd
  have H1 := Lib.hid h1
  have H2 := Lib.hid h2
  have H3 := Lib.hid h3
  have m1 := h1.le
  have m2 := h2.le
  have m3 := h3.le
  have k1 := h1.max
  have k2 := h2.max
  have k3 := h3.max
  clear hd h1 h2 h3
  have w1 : IntKind.i64.wrap ((p.length : Int) + (h.length : Int)) = (p.length : Int) + (h.length : Int) := IntWalk.i64_in _ (by omega)
  have w2 : IntKind.i64.wrap ((p.length : Int) + (h.length : Int) + (x.length : Int)) = (p.length : Int) + (h.length : Int) + (x.length : Int) := IntWalk.i64_in _ (by omega)
  by_cases hn : p.length + h.length + x.length ≤ 2000
  case neg =>
    have d1 : decide ((2000 : Int) < (p.length : Int) + (h.length : Int) + (x.length : Int)) = true := decide_eq_true (by omega)
    go_enter Tryz.func25, Tryz.ntmps25
    go_wp2_with (go_at_call 12; refine (works_any _ HD.out).mono ?_; rintro e w2 ⟨rfl, hb⟩; have HB := Lib.hid hb; clear hb)
    go_ret
    exact ⟨rfl, HB.out⟩
  have d1 : decide ((2000 : Int) < (p.length : Int) + (h.length : Int) + (x.length : Int)) = false := decide_eq_false (by omega)
  have HO1 := Lib.hid (fun W (hW : Below w.heap.size w W) => open_ok A ca p W (H1.out.below hW) z1)
  have HO2 := Lib.hid (fun W (hW : Below w.heap.size w W) => open_ok B cb h W (H2.out.below hW) z2)
  have HO3 := Lib.hid (fun W (hW : Below w.heap.size w W) => open_ok C cc x W (H3.out.below hW) z3)
  go_enter Tryz.func25, Tryz.ntmps25
  go_wp2_with fail
  refine (HO1.out w (Below.refl _ _)).mono ?_
  rintro e w2 ⟨r1, s1, rfl, hr1, hb2, -, -⟩
  have HR1 := Lib.hid hr1
  have HB2 := Lib.hid hb2
  clear hr1 hb2
  go_wp2_with fail
  refine (HO2.out w2 HB2.out).mono ?_
  rintro e w3 ⟨r2, s2, rfl, hr2, hb3, -, -⟩
  have HR2 := Lib.hid hr2
  have HS1 := Lib.hid (HR1.out.kept (kept_of_below hb3))
  have HB3 := Lib.hid (HB2.out.trans (hb3.mono HB2.out.size))
  clear hr2 hb3
  go_wp2_with fail
  refine (HO3.out w3 HB3.out).mono ?_
  rintro e w4 ⟨r3, s3, rfl, hr3, hb4, -, -⟩
  have HW := Lib.hid (widths_any r1 s1 r2 s2 r3 s3 p h x w4 (HS1.out.kept (kept_of_below hb4)) (HR2.out.kept (kept_of_below hb4)) hr3)
  have HB4 := Lib.hid (HB3.out.trans (hb4.mono HB3.out.size))
  clear hr3 hb4
  have hlen := widF_len p h x H1.out
  have HREF := Lib.hid (fun W (hW : Below w.heap.size w W) => widths_ref A B C ca cb cc p h x W (H1.out.below hW) (H2.out.below hW) (H3.out.below hW))
  have hnil := widF_nil p
  generalize widF p h x = r at *
  go_wp2_with fail
  refine HW.out.mono ?_
  rintro e w5 hp5
  obtain ⟨A5, c5, rfl, ho5, hb5⟩ := one_wid hp5
  have HO5 := Lib.hid ho5
  have HB5 := Lib.hid (HB4.out.trans (hb5.mono HB4.out.size))
  clear hp5 ho5 hb5 HW
  go_wp2_with fail
  refine (HREF.out _ HB5.out).mono ?_
  rintro e w6 hp6
  obtain ⟨A6, c6, rfl, ho6, hb6⟩ := one_wid hp6
  have HO6 := Lib.hid ho6
  have HO5b := Lib.hid (own_below HO5.out hb6)
  have HB6 := Lib.hid (HB5.out.trans (hb6.mono HB5.out.size))
  clear hp6 ho6 hb6 HREF
  generalize widS r = S at *
  generalize widA r = va at *
  generalize widD_ r = vd at *
  generalize widX r = vx at *
  go_wp2_with fail
  refine (HO1.out w6 HB6.out).mono ?_
  rintro e w7 ⟨r7, s7, rfl, hr7, hb7, -, -⟩
  have HR7 := Lib.hid hr7
  have HO7 := Lib.hid hb7
  have HB7 := Lib.hid (HB6.out.trans (hb7.mono HB6.out.size))
  clear hr7 hb7
  go_wp2_with fail
  refine (HO3.out w7 HB7.out).mono ?_
  rintro e w8 ⟨r8, s8, rfl, -, hb8, -, -⟩
  have HN := Lib.hid (widths_nil r7 s7 (.pointer (some ⟨r8, 0, none⟩)) p w8 (HR7.out.kept (kept_of_below hb8)))
  have HB8 := Lib.hid (HB7.out.trans (hb8.mono HB7.out.size))
  have HO8 := Lib.hid (HO7.out.trans (hb8.mono HO7.out.size))
  rw [hnil] at HN
  clear hb8 HO1 HO2 HO3 hnil
  go_wp2_with fail
  refine HN.out.mono ?_
  rintro e w9 ⟨rfl, hb9⟩
  have HB9 := Lib.hid (HB8.out.trans (hb9.mono HB8.out.size))
  have ho9 := HO8.out.trans (hb9.mono HO8.out.size)
  have HSW := Lib.hid (sameWords_ok A5 A6 c5 c6 _ _ S w9 (own_below HO5b.out ho9) (own_below HO6.out ho9) (by omega))
  have HWK := Lib.hid (fun W (hW : Below w9.heap.size w9 W) => works_any W (HD.out.kept (kept_of_below (HB9.out.trans (hW.mono HB9.out.size)))))
  have e1 : (vx == vx) = true := by simp
  have e2 : (va == va) = true := by simp
  have e3 : (vd == vd) = true := by simp
  clear hb9 ho9 HN
  go_wp2_with (first | (go_at_call 55; refine HSW.out.mono ?_; rintro e w10 ⟨rfl, hb10⟩; have HB10 := Lib.hid hb10; clear hb10) | (go_at_call 12; refine (HWK.out _ HB10.out).mono ?_; rintro e w11 ⟨rfl, hb11⟩; have HB11 := Lib.hid hb11; clear hb11))
  go_ret
  have hb6 := HB9.out.trans (HB10.out.mono HB9.out.size)
  exact ⟨rfl, hb6.trans (HB11.out.mono hb6.size)⟩
end Go.Proofs.YtfbppbelcbbhlaaGreatDoor.Sf

/- What is joined is read as what was joined: the bytes alone. -/
namespace Go.Proofs.YtfbppbelcbbhlaaGreatDoor.Sf
open Go Go.RowKit

/-! ### The sum -/
def wt (i : Nat) : Nat := 2 ^ (24 - 8 * (i % 4))
def wsum : List Nat → Nat → Nat
  | [], _ => 0
  | x :: l, i => x * wt i + wsum l (i + 1)
theorem wsum_append (l m : List Nat) : ∀ i, wsum (l ++ m) i = wsum l i + wsum m (i + l.length) := by
  induction l with
  | nil => intro i; simp [wsum]
  | cons x l ih =>
    intro i
    simp only [List.cons_append, wsum, ih, List.length_cons]
    rw [show i + 1 + l.length = i + (l.length + 1) from by omega]
    omega
theorem wsum_four (l : List Nat) : ∀ i, wsum l (i + 4) = wsum l i := by
  induction l with
  | nil => intro i; rfl
  | cons x l ih =>
    intro i
    simp only [wsum]
    rw [show i + 4 + 1 = i + 1 + 4 from by omega, ih]
    simp [wt]
theorem wsum_mod (l : List Nat) (k : Nat) (h : k % 4 = 0) : wsum l k = wsum l 0 := by
  obtain ⟨m, rfl⟩ : ∃ m, k = 4 * m := ⟨k / 4, by omega⟩
  clear h
  induction m with
  | zero => rfl
  | succ m ih => rw [show 4 * (m + 1) = 4 * m + 4 from by omega, wsum_four, ih]
theorem sumTo_wsum (l : List Nat) (k : Nat) (hk : k ≤ l.length) : sumTo l k = wsum (l.take k) 0 % 4294967296 := by
  induction k with
  | zero => simp [sumTo, wsum]
  | succ k ih =>
    rw [take_snoc l k 0 (by omega), wsum_append]
    simp only [sumTo]
    rw [ih (by omega)]
    simp only [wsum, Nat.zero_add, List.length_take, Nat.min_eq_left (show k ≤ l.length by omega), Nat.add_zero, wt]
    generalize l.getD k 0 * 2 ^ (24 - 8 * (k % 4)) = z
    omega
theorem sumF_wsum (l : List Nat) : sumF l = wsum l 0 % 4294967296 := by
  unfold sumF
  rw [sumTo_wsum l _ (Nat.le_refl _), List.take_length]
theorem be4 (v : Nat) (h : v < 4294967296) : be (v : Int) 4 = [v / 16777216, v / 65536 % 256, v / 256 % 256, v % 256] := by
  simp [be, beTo, List.range_succ]
  omega
theorem be2 (v : Nat) (h : v < 65536) : be (v : Int) 2 = [v / 256, v % 256] := by
  simp [be, beTo, List.range_succ]
  omega
theorem numF_be4 (v : Nat) (h : v < 4294967296) : numF (be (v : Int) 4) = v := by
  rw [be4 v h]
  simp [numF]
  omega
theorem numF_be2 (v : Nat) (h : v < 65536) : numF (be (v : Int) 2) = v := by
  rw [be2 v h]
  simp [numF]
  omega
theorem wsum_be4 (v : Nat) (h : v < 4294967296) : wsum (be (v : Int) 4) 0 = v := by
  rw [be4 v h]
  simp [wsum, wt]
  omega
/-- The whole's sum. -/
theorem sum_whole (b : List Nat) (p : Nat) (hp : p % 4 = 0) (hl : p + 4 ≤ b.length) : sumF (whole4 b p) = 2981146554 := by
  have hS : wholeS b p < 4294967296 := Nat.mod_lt _ (by decide)
  have hd : (b.take p).length = p := by simp; omega
  have e4 : wsum (whole4 b p) 0 = wsum (b.take p) 0 + wholeS b p + wsum (b.drop (p + 4)) 0 := by
    unfold whole4
    rw [wsum_append, wsum_append, Nat.zero_add, hd, wsum_mod _ p hp, wsum_be4 _ hS, List.length_append, hd, be_length, wsum_mod _ (0 + (p + 4)) (by omega)]
  have e0 : wsum (whole0 b p) 0 = wsum (b.take p) 0 + wsum (b.drop (p + 4)) 0 := by
    unfold whole0
    rw [wsum_append, wsum_append, Nat.zero_add, hd, wsum_mod _ p hp, List.length_append, hd, wsum_mod _ (0 + (p + [0, 0, 0, 0].length)) (by simp; omega)]
    simp [wsum]
  rw [sumF_wsum, e4]
  have hw : wholeS b p = (2981146554 + 4294967296 - (wsum (b.take p) 0 + wsum (b.drop (p + 4)) 0) % 4294967296) % 4294967296 := by
    unfold wholeS
    rw [sumF_wsum, e0]
  omega

/-! ### The parts of a file -/
theorem recsB_split (tags : List Tg) (ls : List (List Nat)) (base i n : Nat) (h : i < n) :
    ∃ r, recsB tags ls base n = recsB tags ls base i ++ (recB (tags.getD i noTag) (ls.getD i []) (base + upTo ls i) ++ r) := by
  induction n with
  | zero => omega
  | succ n ih =>
    rcases Nat.lt_or_ge i n with h2 | h2
    · obtain ⟨r, hr⟩ := ih h2
      exact ⟨r ++ recB (tags.getD n noTag) (ls.getD n []) (base + upTo ls n), by simp only [recsB, hr, List.append_assoc]⟩
    · have : i = n := by omega
      subst this
      exact ⟨[], by simp only [recsB, List.append_nil]⟩
theorem dataB_split (ls : List (List Nat)) (i n : Nat) (h : i < n) : ∃ r, dataB ls n = dataB ls i ++ (padded (ls.getD i []) ++ r) := by
  induction n with
  | zero => omega
  | succ n ih =>
    rcases Nat.lt_or_ge i n with h2 | h2
    · obtain ⟨r, hr⟩ := ih h2
      exact ⟨r ++ padded (ls.getD n []), by simp only [dataB, hr, List.append_assoc]⟩
    · have : i = n := by omega
      subst this
      exact ⟨[], by simp only [dataB, List.append_nil]⟩
theorem rawB_length (tags : List Tg) (ls : List (List Nat)) : (rawB tags ls).length = 12 + 16 * tags.length + upTo ls tags.length := by
  simp only [rawB, List.length_append, headB_length, recsB_length, dataB_length]
theorem rawB_rec (tags : List Tg) (ls : List (List Nat)) (i : Nat) (h : i < tags.length) :
    ∃ r, (rawB tags ls).drop (12 + 16 * i) = recB (tags.getD i noTag) (ls.getD i []) (12 + 16 * tags.length + upTo ls i) ++ r := by
  obtain ⟨r, hr⟩ := recsB_split tags ls (12 + 16 * tags.length) i tags.length h
  have hl : (headB tags.length ++ recsB tags ls (12 + 16 * tags.length) i).length = 12 + 16 * i := by simp only [List.length_append, headB_length, recsB_length]
  refine ⟨r ++ dataB ls tags.length, ?_⟩
  have e : rawB tags ls = (headB tags.length ++ recsB tags ls (12 + 16 * tags.length) i) ++ (recB (tags.getD i noTag) (ls.getD i []) (12 + 16 * tags.length + upTo ls i) ++ (r ++ dataB ls tags.length)) := by
    unfold rawB
    rw [hr]
    simp only [List.append_assoc]
  rw [e, ← hl, List.drop_left]
theorem rawB_data (tags : List Tg) (ls : List (List Nat)) (i : Nat) (h : i < tags.length) : ((rawB tags ls).drop (12 + 16 * tags.length + upTo ls i)).take (ls.getD i []).length = ls.getD i [] := by
  obtain ⟨r, hr⟩ := dataB_split ls i tags.length h
  have hl : (headB tags.length ++ recsB tags ls (12 + 16 * tags.length) tags.length ++ dataB ls i).length = 12 + 16 * tags.length + upTo ls i := by simp only [List.length_append, headB_length, recsB_length, dataB_length]
  have e : rawB tags ls = (headB tags.length ++ recsB tags ls (12 + 16 * tags.length) tags.length ++ dataB ls i) ++ (ls.getD i [] ++ (List.replicate (up (ls.getD i []).length - (ls.getD i []).length) 0 ++ r)) := by
    unfold rawB
    rw [hr]
    simp only [padded, List.append_assoc]
  rw [e, ← hl, List.drop_left, List.take_left]
theorem rawB_head (tags : List Tg) (ls : List (List Nat)) : (rawB tags ls).take 12 = headB tags.length := by
  unfold rawB
  rw [List.append_assoc, List.take_append_of_le_length (Nat.le_of_eq (headB_length _).symm), List.take_of_length_le (Nat.le_of_eq (headB_length _))]
theorem get_drop (b c r : List Nat) (k j : Nat) (h : b.drop k = c ++ r) (hj : j < c.length) : b.getD (k + j) 0 = c.getD j 0 := by
  have h1 : (b.drop k).getD j 0 = b.getD (k + j) 0 := by simp [List.getD_eq_getElem?_getD]
  rw [← h1, h]
  simp only [List.getD_eq_getElem?_getD]
  rw [List.getElem?_append_left hj]
theorem num_drop (b c r : List Nat) (k j : Nat) (h : b.drop k = c ++ r) (hj : j + 4 ≤ c.length) : numAt b (k + j) 4 = numF ((c.drop j).take 4) := by
  unfold numAt
  rw [← List.drop_drop, h, List.drop_append_of_le_length (by omega), List.take_append_of_le_length (by simp; omega)]
def tabsOf (tags : List Tg) (ls : List (List Nat)) : List Tb := (List.range tags.length).map fun i => ⟨tags.getD i noTag, 12 + 16 * tags.length + upTo ls i, (ls.getD i []).length⟩
theorem tabSum_lt (t : Tg) (l : List Nat) : tabSum t l < 4294967296 := by
  unfold tabSum
  split <;> exact sumTo_lt _ _
theorem rawB_recAt (tags : List Tg) (ls : List (List Nat)) (i : Nat) (h : i < tags.length) (hs : 12 + 16 * tags.length + upTo ls tags.length ≤ 16777216) :
    recAt (rawB tags ls) i = ⟨tags.getD i noTag, 12 + 16 * tags.length + upTo ls i, (ls.getD i []).length⟩ ∧ numAt (rawB tags ls) (12 + 16 * i + 4) 4 = tabSum (tags.getD i noTag) (ls.getD i []) := by
  obtain ⟨r, hr⟩ := rawB_rec tags ls i h
  have hm := upTo_mono ls (i + 1) tags.length (by omega)
  have hu := up_ge (ls.getD i []).length
  simp only [upTo] at hm
  have hlen : (recB (tags.getD i noTag) (ls.getD i []) (12 + 16 * tags.length + upTo ls i)).length = 16 := recB_length _ _ _
  have g0 := get_drop _ _ _ _ 0 hr (by omega)
  have g1 := get_drop _ _ _ _ 1 hr (by omega)
  have g2 := get_drop _ _ _ _ 2 hr (by omega)
  have g3 := get_drop _ _ _ _ 3 hr (by omega)
  have g4 := num_drop _ _ _ _ 4 hr (by omega)
  have g8 := num_drop _ _ _ _ 8 hr (by omega)
  have g12 := num_drop _ _ _ _ 12 hr (by omega)
  have hb : ∀ v : Int, (be v 4).length = 4 := fun v => be_length v 4
  have n4 := numF_be4 (tabSum (tags.getD i noTag) (ls.getD i [])) (tabSum_lt _ _)
  have n8 := numF_be4 (12 + 16 * tags.length + upTo ls i) (by omega)
  have n12 := numF_be4 (ls.getD i []).length (by omega)
  have e4 : ((recB (tags.getD i noTag) (ls.getD i []) (12 + 16 * tags.length + upTo ls i)).drop 4).take 4 = be ((tabSum (tags.getD i noTag) (ls.getD i []) : Nat) : Int) 4 := by
    unfold recB
    rw [List.drop_append_of_le_length (by simp [Tg.bytes]), show (tags.getD i noTag).bytes.drop 4 = [] from rfl, List.nil_append, List.take_append_of_le_length (Nat.le_of_eq (hb _).symm), List.take_of_length_le (Nat.le_of_eq (hb _))]
  have e8 : ((recB (tags.getD i noTag) (ls.getD i []) (12 + 16 * tags.length + upTo ls i)).drop 8).take 4 = be ((12 + 16 * tags.length + upTo ls i : Nat) : Int) 4 := by
    have : (recB (tags.getD i noTag) (ls.getD i []) (12 + 16 * tags.length + upTo ls i)).drop 8 = be ((12 + 16 * tags.length + upTo ls i : Nat) : Int) 4 ++ be (((ls.getD i []).length : Nat) : Int) 4 := by
      unfold recB
      rw [← List.append_assoc]
      exact List.drop_left' (by simp [Tg.bytes, hb])
    rw [this, List.take_append_of_le_length (Nat.le_of_eq (hb _).symm), List.take_of_length_le (Nat.le_of_eq (hb _))]
  have e12 : ((recB (tags.getD i noTag) (ls.getD i []) (12 + 16 * tags.length + upTo ls i)).drop 12).take 4 = be (((ls.getD i []).length : Nat) : Int) 4 := by
    have : (recB (tags.getD i noTag) (ls.getD i []) (12 + 16 * tags.length + upTo ls i)).drop 12 = be (((ls.getD i []).length : Nat) : Int) 4 := by
      unfold recB
      rw [← List.append_assoc, ← List.append_assoc]
      exact List.drop_left' (by simp [Tg.bytes, hb])
    rw [this, List.take_of_length_le (Nat.le_of_eq (hb _))]
  rw [e4, n4] at g4
  rw [e8, n8] at g8
  rw [e12, n12] at g12
  refine ⟨?_, g4⟩
  unfold recAt
  rw [g8, g12, g1, g2, g3]
  rw [Nat.add_zero] at g0
  rw [g0]
  rfl
end Go.Proofs.YtfbppbelcbbhlaaGreatDoor.Sf
