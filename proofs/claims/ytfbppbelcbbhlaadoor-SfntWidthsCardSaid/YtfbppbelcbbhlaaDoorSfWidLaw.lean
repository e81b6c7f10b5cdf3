/- SfntWidths answers true, whatever bytes come in. -/
import Derived.Test.YtfbppbelcbbhlaaDoorSfWorks
import Derived.Test.YtfbppbelcbbhlaaDoorSfWid2
import Derived.Test.YtfbppbelcbbhlaaDoorSfWidR
import Derived.Test.YtfbppbelcbbhlaaDoorSfWords2
namespace Go.Proofs.YtfbppbelcbbhlaaDoor.Sf
open Go Go.RowKit

theorem widths_nil (a1 s1 : Nat) (v3 : Value) (p : List Nat) (w : World) (h1 : Rdr w a1 s1 p) :
    Calls Tryd.prog 19 #[.pointer (some ⟨a1, 0, none⟩), .pointer none, v3] w fun e w' => WidPost 45 w (widF p [] []) e w' := by
  have hno : ¬ widOk p [] [] := fun h => by have := h.2.2.1; simp at this
  have H1 := Lib.hid (h1.kept (kept_of_below ((Below.refl w.heap.size w).alloc (Nat.le_refl _) (.cells #[.int .i64 0] 25))))
  clear h1
  go_enter_defers Tryd.func19, Tryd.ntmps19
  go_wp2_with (first | (go_at_call 47; with_reducible (refine H1.out.good.mono ?_); rintro e w' ⟨rfl, rfl⟩) | (go_at_call 47; with_reducible (refine (bad_nil _).mono ?_); rintro e w' ⟨rfl, rfl⟩) | (go_at_call 24; refine (need_no _).mono ?_; rintro e w' ⟨rfl, rfl⟩))
  exact wid_refuse hno rfl rfl rfl rfl rfl
def widS (r : Option (List Nat × Int × Int)) : List Nat := (r.map (·.1)).getD []
def widA (r : Option (List Nat × Int × Int)) : Int := (r.map (·.2.1)).getD 0
def widD_ (r : Option (List Nat × Int × Int)) : Int := (r.map (·.2.2)).getD 0
def widX (r : Option (List Nat × Int × Int)) : Int := if r.isSome then 0 else 50
theorem one_wid {T : TypeId} {w w2 : World} {r : Option (List Nat × Int × Int)} {e : Ending} (h : WidPost T w r e w2) :
    ∃ (A : Option Addr) (c : Nat), e = .returned (.tuple #[.slice A (widS r).length c, .int .i16 (widA r), .int .i16 (widD_ r), .int .i64 (widX r)]) ∧ w2.ownsRow w.heap.size T 1 (.slice A (widS r).length c) (widS r).length (u16s (widS r)) ∧ Below w.heap.size w w2 := by
  cases r with
  | none =>
    obtain ⟨rfl, h3⟩ := h
    exact ⟨none, 0, rfl, World.ownsRow_nil _ _ _ _, h3⟩
  | some S =>
    obtain ⟨S, a, d⟩ := S
    obtain ⟨A, c, rfl, h3, h4⟩ := h
    exact ⟨A, c, rfl, h3, h4⟩
theorem widF_len {w : World} {A : Option Addr} {ca : Nat} (p h x : List Nat) (hp : Byt w A ca p) : (widS (widF p h x)).length ≤ 65536 := by
  unfold widF widS
  split
  · simp only [Option.map_some, Option.getD_some, widRow_length]
    have : widN p < 65536 := refNum_two_lt hp _
    omega
  · simp
theorem widF_nil (p : List Nat) : widF p [] [] = none := by
  unfold widF
  rw [if_neg]
  intro h
  have := h.2.2.1
  simp at this
set_option maxRecDepth 100000 in
set_option maxHeartbeats 1000000 in
theorem widths_law (A B C : Option Addr) (ca cb cc : Nat) (p h x : List Nat) (w : World) (h1 : Byt w A ca p) (h2 : Byt w B cb h) (h3 : Byt w C cc x) (hd : HdVar w) (z1 : p.length ≤ 140737488355328) (z2 : h.length ≤ 140737488355328) (z3 : x.length ≤ 140737488355328) :
    Calls Tryd.prog 7 #[.slice A p.length ca, .slice B h.length cb, .slice C x.length cc] w fun e w' => e = .returned (.bool true) ∧ Below w.heap.size w w' := by
  have HD := Lib.hid hd
  have H1 := Lib.hid h1
  have H2 := Lib.hid h2
  have H3 := Lib.hid h3
  have m1 := h1.le
  have m2 := h2.le
  have m3 := h3.le
  have k1 := h1.max
  have k2 := h2.max
  have k3 := h3.max
  clear hd h1 h2 h3
  have w1 : IntKind.i64.wrap ((p.length : Int) + (h.length : Int)) = (p.length : Int) + (h.length : Int) := IntWalk.i64_in _ (by omega)
  have w2 : IntKind.i64.wrap ((p.length : Int) + (h.length : Int) + (x.length : Int)) = (p.length : Int) + (h.length : Int) + (x.length : Int) := IntWalk.i64_in _ (by omega)
  by_cases hn : p.length + h.length + x.length ≤ 2000
  case neg =>
    have d1 : decide ((2000 : Int) < (p.length : Int) + (h.length : Int) + (x.length : Int)) = true := decide_eq_true (by omega)
    go_enter Tryd.func7, Tryd.ntmps7
    go_wp2_with (go_at_call 8; refine (works_any _ HD.out).mono ?_; rintro e w2 ⟨rfl, hb⟩; have HB := Lib.hid hb; clear hb)
    go_ret
    exact ⟨rfl, HB.out⟩
  have d1 : decide ((2000 : Int) < (p.length : Int) + (h.length : Int) + (x.length : Int)) = false := decide_eq_false (by omega)
  have HO1 := Lib.hid (fun W (hW : Below w.heap.size w W) => open_ok A ca p W (H1.out.below hW) z1)
  have HO2 := Lib.hid (fun W (hW : Below w.heap.size w W) => open_ok B cb h W (H2.out.below hW) z2)
  have HO3 := Lib.hid (fun W (hW : Below w.heap.size w W) => open_ok C cc x W (H3.out.below hW) z3)
  go_enter Tryd.func7, Tryd.ntmps7
  go_wp2_with fail
  refine (HO1.out w (Below.refl _ _)).mono ?_
  rintro e w2 ⟨r1, s1, rfl, hr1, hb2, -, -⟩
  have HR1 := Lib.hid hr1
  have HB2 := Lib.hid hb2
  clear hr1 hb2
  go_wp2_with fail
  refine (HO2.out w2 HB2.out).mono ?_
  rintro e w3 ⟨r2, s2, rfl, hr2, hb3, -, -⟩
  have HR2 := Lib.hid hr2
  have HS1 := Lib.hid (HR1.out.kept (kept_of_below hb3))
  have HB3 := Lib.hid (HB2.out.trans (hb3.mono HB2.out.size))
  clear hr2 hb3
  go_wp2_with fail
  refine (HO3.out w3 HB3.out).mono ?_
  rintro e w4 ⟨r3, s3, rfl, hr3, hb4, -, -⟩
  have HW := Lib.hid (widths_any r1 s1 r2 s2 r3 s3 p h x w4 (HS1.out.kept (kept_of_below hb4)) (HR2.out.kept (kept_of_below hb4)) hr3)
  have HB4 := Lib.hid (HB3.out.trans (hb4.mono HB3.out.size))
  clear hr3 hb4
  have hlen := widF_len p h x H1.out
  have HREF := Lib.hid (fun W (hW : Below w.heap.size w W) => widths_ref A B C ca cb cc p h x W (H1.out.below hW) (H2.out.below hW) (H3.out.below hW))
  have hnil := widF_nil p
  generalize widF p h x = r at *
  go_wp2_with fail
  refine HW.out.mono ?_
  rintro e w5 hp5
  obtain ⟨A5, c5, rfl, ho5, hb5⟩ := one_wid hp5
  have HO5 := Lib.hid ho5
  have HB5 := Lib.hid (HB4.out.trans (hb5.mono HB4.out.size))
  clear hp5 ho5 hb5 HW
  go_wp2_with fail
  refine (HREF.out _ HB5.out).mono ?_
  rintro e w6 hp6
  obtain ⟨A6, c6, rfl, ho6, hb6⟩ := one_wid hp6
  have HO6 := Lib.hid ho6
  have HO5b := Lib.hid (own_below HO5.out hb6)
  have HB6 := Lib.hid (HB5.out.trans (hb6.mono HB5.out.size))
  clear hp6 ho6 hb6 HREF
  generalize widS r = S at *
  generalize widA r = va at *
  generalize widD_ r = vd at *
  generalize widX r = vx at *
  go_wp2_with fail
  refine (HO1.out w6 HB6.out).mono ?_
  rintro e w7 ⟨r7, s7, rfl, hr7, hb7, -, -⟩
  have HR7 := Lib.hid hr7
  have HO7 := Lib.hid hb7
  have HB7 := Lib.hid (HB6.out.trans (hb7.mono HB6.out.size))
  clear hr7 hb7
  go_wp2_with fail
  refine (HO3.out w7 HB7.out).mono ?_
  rintro e w8 ⟨r8, s8, rfl, -, hb8, -, -⟩
  have HN := Lib.hid (widths_nil r7 s7 (.pointer (some ⟨r8, 0, none⟩)) p w8 (HR7.out.kept (kept_of_below hb8)))
  have HB8 := Lib.hid (HB7.out.trans (hb8.mono HB7.out.size))
  have HO8 := Lib.hid (HO7.out.trans (hb8.mono HO7.out.size))
  rw [hnil] at HN
  clear hb8 HO1 HO2 HO3 hnil
  go_wp2_with fail
  refine HN.out.mono ?_
  rintro e w9 ⟨rfl, hb9⟩
  have HB9 := Lib.hid (HB8.out.trans (hb9.mono HB8.out.size))
  have ho9 := HO8.out.trans (hb9.mono HO8.out.size)
  have HSW := Lib.hid (sameWords_ok A5 A6 c5 c6 _ _ S w9 (own_below HO5b.out ho9) (own_below HO6.out ho9) (by omega))
  have HWK := Lib.hid (fun W (hW : Below w9.heap.size w9 W) => works_any W (HD.out.kept (kept_of_below (HB9.out.trans (hW.mono HB9.out.size)))))
  have e1 : (vx == vx) = true := by simp
  have e2 : (va == va) = true := by simp
  have e3 : (vd == vd) = true := by simp
  clear hb9 ho9 HN
  go_wp2_with (first | (go_at_call 21; refine HSW.out.mono ?_; rintro e w10 ⟨rfl, hb10⟩; have HB10 := Lib.hid hb10; clear hb10) | (go_at_call 8; refine (HWK.out _ HB10.out).mono ?_; rintro e w11 ⟨rfl, hb11⟩; have HB11 := Lib.hid hb11; clear hb11))
  go_ret
  have hb6 := HB9.out.trans (HB10.out.mono HB9.out.size)
  exact ⟨rfl, hb6.trans (HB11.out.mono hb6.size)⟩
end Go.Proofs.YtfbppbelcbbhlaaDoor.Sf
