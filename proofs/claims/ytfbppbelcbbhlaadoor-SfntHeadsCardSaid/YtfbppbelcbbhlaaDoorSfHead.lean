/- sfnt.Head: on a reader, and on none. -/
import Derived.Test.YtfbppbelcbbhlaaDoorSfOpen
namespace Go.Proofs.YtfbppbelcbbhlaaDoor.Sf
open Go Go.RowKit

theorem head_nil (w : World) :
    Calls Tryd.prog 16 #[.pointer none] w fun e w' => e = .returned (.tuple #[.int .u16 0, .int .i64 50]) ∧ w = w' := by
  go_enter Tryd.func16, Tryd.ntmps16
  go_wp2_with (go_at_call 47; refine (bad_nil _).mono ?_; rintro e w' ⟨rfl, rfl⟩)
  go_ret2
  exact ⟨rfl, rfl⟩

set_option maxHeartbeats 1000000 in
theorem head_any (a s : Nat) (l : List Nat) (w : World) (h : Rdr w a s l) :
    Calls Tryd.prog 16 #[.pointer (some ⟨a, 0, none⟩)] w fun e w' => e = .returned (headOut l) ∧ w = w' := by
  have hbad := h.good
  have hlen := h.len
  by_cases h1 : l.length = 54
  · have l0 := h.longI 0 0 rfl (by omega)
    have l1 := h.longI 12 12 rfl (by omega)
    have l2 := h.wordI 18 18 rfl (by omega)
    have l3 := h.wordI 50 50 rfl (by omega)
    have hlt := numAt_two_lt l 18 h.lt (by omega)
    have ho : headOut l = if numAt l 0 4 = 65536 ∧ numAt l 12 4 = 1594834165 ∧ 16 ≤ numAt l 18 2 ∧ numAt l 18 2 ≤ 16384 ∧ numAt l 50 2 ≤ 1 then .tuple #[.int .u16 (numAt l 18 2 : Nat), .int .i64 0] else .tuple #[.int .u16 0, .int .i64 50] := by
      unfold headOut headF
      simp only [h1, true_and]
      by_cases hx : numAt l 0 4 = 65536 ∧ numAt l 12 4 = 1594834165 ∧ 16 ≤ numAt l 18 2 ∧ numAt l 18 2 ≤ 16384 ∧ numAt l 50 2 ≤ 1
      · rw [if_pos hx, if_pos hx]
      · rw [if_neg hx, if_neg hx]
    have HO := Lib.hid ho
    clear ho h
    generalize numAt l 0 4 = a0 at *
    generalize numAt l 12 4 = b0 at *
    generalize numAt l 18 2 = c at *
    generalize numAt l 50 2 = d at *
    have h1' : ((l.length : Int) != 54) = false := by simp [h1]
    clear h1
    by_cases c1 : a0 = 65536
    · by_cases c2 : b0 = 1594834165
      · by_cases c3 : 16 ≤ c
        · by_cases c4 : c ≤ 16384
          · by_cases c5 : d ≤ 1
            · go_enter Tryd.func16, Tryd.ntmps16
              go_wp2_with (first | (go_at_call 47; (with_reducible refine hbad.mono ?_); rintro e w' ⟨rfl, rfl⟩) | (go_at_call 48; (with_reducible refine hlen.mono ?_); rintro e w' ⟨rfl, rfl⟩) | (go_at_call 28; (with_reducible refine l0.mono ?_); rintro e w' ⟨rfl, rfl⟩) | (go_at_call 28; (with_reducible refine l1.mono ?_); rintro e w' ⟨rfl, rfl⟩) | (go_at_call 25; (with_reducible refine l2.mono ?_); rintro e w' ⟨rfl, rfl⟩) | (go_at_call 25; (with_reducible refine l3.mono ?_); rintro e w' ⟨rfl, rfl⟩))
              go_ret2
              exact ⟨by rw [HO.out, if_pos (by omega)]; rfl, rfl⟩
            · go_enter Tryd.func16, Tryd.ntmps16
              go_wp2_with (first | (go_at_call 47; (with_reducible refine hbad.mono ?_); rintro e w' ⟨rfl, rfl⟩) | (go_at_call 48; (with_reducible refine hlen.mono ?_); rintro e w' ⟨rfl, rfl⟩) | (go_at_call 28; (with_reducible refine l0.mono ?_); rintro e w' ⟨rfl, rfl⟩) | (go_at_call 28; (with_reducible refine l1.mono ?_); rintro e w' ⟨rfl, rfl⟩) | (go_at_call 25; (with_reducible refine l2.mono ?_); rintro e w' ⟨rfl, rfl⟩) | (go_at_call 25; (with_reducible refine l3.mono ?_); rintro e w' ⟨rfl, rfl⟩))
              go_ret2
              exact ⟨by rw [HO.out, if_neg (by omega)]; rfl, rfl⟩
          · go_enter Tryd.func16, Tryd.ntmps16
            go_wp2_with (first | (go_at_call 47; (with_reducible refine hbad.mono ?_); rintro e w' ⟨rfl, rfl⟩) | (go_at_call 48; (with_reducible refine hlen.mono ?_); rintro e w' ⟨rfl, rfl⟩) | (go_at_call 28; (with_reducible refine l0.mono ?_); rintro e w' ⟨rfl, rfl⟩) | (go_at_call 28; (with_reducible refine l1.mono ?_); rintro e w' ⟨rfl, rfl⟩) | (go_at_call 25; (with_reducible refine l2.mono ?_); rintro e w' ⟨rfl, rfl⟩) | (go_at_call 25; (with_reducible refine l3.mono ?_); rintro e w' ⟨rfl, rfl⟩))
            go_ret2
            exact ⟨by rw [HO.out, if_neg (by omega)]; rfl, rfl⟩
        · go_enter Tryd.func16, Tryd.ntmps16
          go_wp2_with (first | (go_at_call 47; (with_reducible refine hbad.mono ?_); rintro e w' ⟨rfl, rfl⟩) | (go_at_call 48; (with_reducible refine hlen.mono ?_); rintro e w' ⟨rfl, rfl⟩) | (go_at_call 28; (with_reducible refine l0.mono ?_); rintro e w' ⟨rfl, rfl⟩) | (go_at_call 28; (with_reducible refine l1.mono ?_); rintro e w' ⟨rfl, rfl⟩) | (go_at_call 25; (with_reducible refine l2.mono ?_); rintro e w' ⟨rfl, rfl⟩) | (go_at_call 25; (with_reducible refine l3.mono ?_); rintro e w' ⟨rfl, rfl⟩))
          go_ret2
          exact ⟨by rw [HO.out, if_neg (by omega)]; rfl, rfl⟩
      · go_enter Tryd.func16, Tryd.ntmps16
        go_wp2_with (first | (go_at_call 47; (with_reducible refine hbad.mono ?_); rintro e w' ⟨rfl, rfl⟩) | (go_at_call 48; (with_reducible refine hlen.mono ?_); rintro e w' ⟨rfl, rfl⟩) | (go_at_call 28; (with_reducible refine l0.mono ?_); rintro e w' ⟨rfl, rfl⟩) | (go_at_call 28; (with_reducible refine l1.mono ?_); rintro e w' ⟨rfl, rfl⟩) | (go_at_call 25; (with_reducible refine l2.mono ?_); rintro e w' ⟨rfl, rfl⟩) | (go_at_call 25; (with_reducible refine l3.mono ?_); rintro e w' ⟨rfl, rfl⟩))
        go_ret2
        exact ⟨by rw [HO.out, if_neg (by omega)]; rfl, rfl⟩
    · go_enter Tryd.func16, Tryd.ntmps16
      go_wp2_with (first | (go_at_call 47; (with_reducible refine hbad.mono ?_); rintro e w' ⟨rfl, rfl⟩) | (go_at_call 48; (with_reducible refine hlen.mono ?_); rintro e w' ⟨rfl, rfl⟩) | (go_at_call 28; (with_reducible refine l0.mono ?_); rintro e w' ⟨rfl, rfl⟩) | (go_at_call 28; (with_reducible refine l1.mono ?_); rintro e w' ⟨rfl, rfl⟩) | (go_at_call 25; (with_reducible refine l2.mono ?_); rintro e w' ⟨rfl, rfl⟩) | (go_at_call 25; (with_reducible refine l3.mono ?_); rintro e w' ⟨rfl, rfl⟩))
      go_ret2
      exact ⟨by rw [HO.out, if_neg (by omega)]; rfl, rfl⟩
  · have ho : headOut l = .tuple #[.int .u16 0, .int .i64 50] := by
      unfold headOut headF
      rw [if_neg (by omega)]
    rw [ho]
    have h1' : ((l.length : Int) != 54) = true := by simp; omega
    clear h ho
    go_enter Tryd.func16, Tryd.ntmps16
    go_wp2_with (first | (go_at_call 47; (with_reducible refine hbad.mono ?_); rintro e w' ⟨rfl, rfl⟩) | (go_at_call 48; (with_reducible refine hlen.mono ?_); rintro e w' ⟨rfl, rfl⟩))
    go_ret2
    exact ⟨rfl, rfl⟩
end Go.Proofs.YtfbppbelcbbhlaaDoor.Sf
