/- SfntHeads answers true, whatever bytes come in. -/
import Derived.Test.YtfbppbelcbbhlaaDoorSfWorks
import Derived.Test.YtfbppbelcbbhlaaDoorSfHead
namespace Go.Proofs.YtfbppbelcbbhlaaDoor.Sf
open Go Go.RowKit

theorem headOut_form (l : List Nat) : ∃ x y : Int, headOut l = .tuple #[.int .u16 x, .int .i64 y] := by
  unfold headOut
  split <;> exact ⟨_, _, rfl⟩
set_option maxRecDepth 100000 in
set_option maxHeartbeats 2000000 in
theorem heads_law (A : Option Addr) (cap : Nat) (l : List Nat) (w : World) (h : Byt w A cap l) (hd : HdVar w) : Calls Tryd.prog 6 #[.slice A l.length cap] w fun e w' => e = .returned (.bool true) ∧ Below w.heap.size w w' := by
  have HD := Lib.hid hd
  have HY := Lib.hid h
  have hle := h.le
  have hmax := h.max
  clear hd h
  by_cases hn : l.length ≤ 200
  case neg =>
    go_enter Tryd.func6, Tryd.ntmps6
    go_wp2_with (go_at_call 8; refine (works_any _ HD.out).mono ?_; rintro e w2 ⟨rfl, hb⟩; have HB := Lib.hid hb; clear hb)
    go_ret
    exact ⟨rfl, HB.out⟩
  obtain ⟨x, y, hxy⟩ := headOut_form l
  have HOP := Lib.hid (open_ok A cap l w HY.out (by omega))
  go_enter Tryd.func6, Tryd.ntmps6
  go_wp2_with fail
  refine HOP.out.mono ?_
  rintro e w2 ⟨ra, rs, rfl, hr, hb2, -, -⟩
  have HH := Lib.hid (head_any ra rs l w2 hr)
  have HF := Lib.hid (head_ref A cap l w2 (HY.out.below hb2))
  have HW := Lib.hid (works_any w2 (HD.out.kept (kept_of_below hb2)))
  have HB2 := Lib.hid hb2
  have HN := Lib.hid (head_nil w2)
  rw [hxy] at HH HF
  have d1 : (x == x) = true := by simp
  have d2 : (y == y) = true := by simp
  clear hr hb2 HOP
  go_wp2_with (first | (go_at_call 16; (with_reducible refine HH.out.mono ?_); rintro e w' ⟨rfl, rfl⟩) | (go_at_call 16; (with_reducible refine HN.out.mono ?_); rintro e w' ⟨rfl, rfl⟩) | (go_at_call 18; refine HF.out.mono ?_; rintro e w' ⟨rfl, rfl⟩) | (go_at_call 8; refine HW.out.mono ?_; rintro e w3 ⟨rfl, hb⟩; have HB := Lib.hid hb; clear hb))
  go_ret
  exact ⟨rfl, HB2.out.trans (HB.out.mono HB2.out.size)⟩
end Go.Proofs.YtfbppbelcbbhlaaDoor.Sf
