/- The reference's readers of numbers (calamusref04, calamusref05): what each comes to on any bytes, at any place. -/
import Derived.Test.YtfbppbelcbbhlaaDoorSfRead
namespace Go.Proofs.YtfbppbelcbbhlaaDoor.Sf
open Go Go.RowKit

def refAll (n : Nat) (at_ m : Int) : Bool := decide (0 ≤ at_ ∧ 0 ≤ m ∧ at_ + m ≤ n)
def refNum (l : List Nat) (at_ : Int) (n : Nat) : Nat := if 0 ≤ at_ ∧ at_ + n ≤ l.length then numAt l at_.toNat n else 0

theorem all_any (A : Option Addr) (len cap : Nat) (at_ m : Int) (w : World) (hl : len ≤ 9223372036854775807) :
    Calls Tryd.prog 39 #[.slice A len cap, .int .i64 at_, .int .i64 m] w fun e w' =>
      e = .returned (.bool (refAll len at_ m)) ∧ w = w' := by
  by_cases h1 : 0 ≤ at_
  · by_cases h2 : 0 ≤ m
    · by_cases h3 : at_ ≤ len
      · by_cases h4 : m ≤ len - at_
        all_goals
          go_enter Tryd.func39, Tryd.ntmps39
          go_wp2
          go_ret
          refine ⟨?_, rfl⟩
          simp [refAll]
          omega
      · go_enter Tryd.func39, Tryd.ntmps39
        go_wp2
        go_ret
        refine ⟨?_, rfl⟩
        simp [refAll]
        omega
    · go_enter Tryd.func39, Tryd.ntmps39
      go_wp2
      go_ret
      refine ⟨?_, rfl⟩
      simp [refAll]
      omega
  · go_enter Tryd.func39, Tryd.ntmps39
    go_wp2
    go_ret
    refine ⟨?_, rfl⟩
    simp [refAll]
    omega

theorem number_ref (A : Option Addr) (cap : Nat) (l : List Nat) (at_ : Int) (n : Nat) (w : World) (hb : Byt w A cap l) (hn : 0 < n) (hn2 : n ≤ 4) :
    Calls Tryd.prog 57 #[.slice A l.length cap, .int .i64 at_, .int .i64 n] w fun e w' =>
      e = .returned (.int .u32 (refNum l at_ n : Nat)) ∧ w = w' := by
  have hle := hb.le
  have hmax := hb.max
  by_cases h : 0 ≤ at_ ∧ at_ + n ≤ l.length
  · obtain ⟨b, bo, rfl, hc⟩ := hb.cells (by omega)
    have h255 := hb.lt
    clear hb
    obtain ⟨k0, rfl⟩ := Int.eq_ofNat_of_zero_le h.1
    have hr : refNum l k0 n = numAt l k0 n := by unfold refNum; rw [if_pos h]; simp
    have ht : refAll l.length k0 n = true := by simp [refAll]; omega
    rw [hr]
    have h2 : k0 + n ≤ l.length := by omega
    clear h hr
    go_enter Tryd.func57, Tryd.ntmps57
    go_wp2_with (go_at_call 39; refine (all_any _ _ _ _ _ _ (by omega)).mono ?_; rw [ht]; rintro e w' ⟨rfl, rfl⟩)
    go_loop [7, 8] (fun x i => ∃ k : Nat, k ≤ n ∧ i = .int .i64 k ∧ x = .int .u32 (numAt l k0 k : Nat)) (fun _ i => n - (intOf i).toNat)
    case atStart => exact ⟨0, Nat.zero_le _, rfl, rfl⟩
    case round =>
      obtain ⟨k, hk, rfl, rfl⟩ := hrel
      by_cases hlt : k < n
      · have hcell := hc (k0 + k) (by omega)
        have h0 : l.getD (k0 + k) 0 < 256 := by
          have hm' : l.getD (k0 + k) 0 ∈ l := by simp [List.getD, show k0 + k < l.length from by omega]
          exact h255 _ hm'
        have hs : numAt l k0 (k + 1) = (numAt l k0 k * 256 + l.getD (k0 + k) 0) % 4294967296 := by
          unfold numAt
          rw [take_snoc _ k 0 (by simp; omega), numF_snoc]
          congr 2
          simp [List.getD]
        have HS := Lib.hid hs
        clear hs ht
        generalize l.getD (k0 + k) 0 = c at *
        generalize hq : numAt l k0 k = q at *
        clear hc h255
        go_wp2
        go_round
        case rel => exact ⟨k + 1, by omega, by go_num, by rw [HS.out]; congr 1; omega⟩
        case measure => simp [intOf]; omega
      · go_wp2
        go_ret
        have hkn : k = n := by omega
        subst hkn
        exact ⟨rfl, rfl⟩
  · have hr : refNum l at_ n = 0 := by unfold refNum; rw [if_neg h]
    have ht : refAll l.length at_ n = false := by simp [refAll]; omega
    rw [hr]
    clear hb
    go_enter Tryd.func57, Tryd.ntmps57
    go_wp2_with (go_at_call 39; refine (all_any _ _ _ _ _ _ (by omega)).mono ?_; rw [ht]; rintro e w' ⟨rfl, rfl⟩)
    go_ret
    exact ⟨rfl, rfl⟩
theorem refNum_two_lt {w : World} {A : Option Addr} {cap : Nat} {l : List Nat} (hb : Byt w A cap l) (at_ : Int) : refNum l at_ 2 < 65536 := by
  unfold refNum
  split
  · exact numAt_two_lt l _ hb.lt (by omega)
  · omega
theorem refNum_lt (l : List Nat) (at_ : Int) (n : Nat) : refNum l at_ n < 4294967296 := by
  unfold refNum
  split
  · exact numF_lt _
  · omega

theorem w_ref (A : Option Addr) (cap : Nat) (l : List Nat) (at_ : Int) (w : World) (hb : Byt w A cap l) :
    Calls Tryd.prog 36 #[.slice A l.length cap, .int .i64 at_] w fun e w' =>
      e = .returned (.int .i64 (refNum l at_ 2 : Nat)) ∧ w = w' := by
  have hn := number_ref A cap l at_ 2 w hb (by omega) (by omega)
  have hlt := refNum_two_lt hb at_
  clear hb
  go_enter Tryd.func36, Tryd.ntmps36
  go_wp2_with (go_at_call 57; refine hn.mono ?_; rintro e w' ⟨rfl, rfl⟩)
  go_ret
  exact ⟨rfl, rfl⟩

theorem l_ref (A : Option Addr) (cap : Nat) (l : List Nat) (at_ : Int) (w : World) (hb : Byt w A cap l) :
    Calls Tryd.prog 38 #[.slice A l.length cap, .int .i64 at_] w fun e w' =>
      e = .returned (.int .i64 (refNum l at_ 4 : Nat)) ∧ w = w' := by
  have hn := number_ref A cap l at_ 4 w hb (by omega) (by omega)
  have hlt := refNum_lt l at_ 4
  clear hb
  go_enter Tryd.func38, Tryd.ntmps38
  go_wp2_with (go_at_call 57; refine hn.mono ?_; rintro e w' ⟨rfl, rfl⟩)
  go_ret
  exact ⟨rfl, rfl⟩

theorem sgn16_range (n : Nat) (h : n < 65536) : -32768 ≤ sgn16 n ∧ sgn16 n ≤ 32767 := by
  unfold sgn16
  split <;> omega

theorem s_ref (A : Option Addr) (cap : Nat) (l : List Nat) (at_ : Int) (w : World) (hb : Byt w A cap l) :
    Calls Tryd.prog 51 #[.slice A l.length cap, .int .i64 at_] w fun e w' =>
      e = .returned (.int .i64 (sgn16 (refNum l at_ 2))) ∧ w = w' := by
  have hn := number_ref A cap l at_ 2 w hb (by omega) (by omega)
  have hlt := refNum_two_lt hb at_
  clear hb
  go_enter Tryd.func51, Tryd.ntmps51
  go_wp2_with (go_at_call 57; refine hn.mono ?_; rintro e w' ⟨rfl, rfl⟩)
  go_ret
  refine ⟨?_, rfl⟩
  show Ending.returned (.int .i64 (wrap64 (IntKind.i16.wrap (refNum l at_ 2 : Nat)))) = _
  have hs := sgn16_range _ hlt
  rw [i16_sgn _ hlt, IntWalk.wrap64_in _ ⟨by omega, by omega⟩]

/-- A table head: the units of the em; nothing: it is none. -/
def headF (l : List Nat) : Option Nat :=
  if l.length = 54 ∧ numAt l 0 4 = 65536 ∧ numAt l 12 4 = 1594834165 ∧ 16 ≤ numAt l 18 2 ∧ numAt l 18 2 ≤ 16384 ∧ numAt l 50 2 ≤ 1 then some (numAt l 18 2) else none

def headOut (l : List Nat) : Value := match headF l with
  | some n => .tuple #[.int .u16 n, .int .i64 0]
  | none => .tuple #[.int .u16 0, .int .i64 50]

theorem head_ref (A : Option Addr) (cap : Nat) (l : List Nat) (w : World) (hb : Byt w A cap l) :
    Calls Tryd.prog 18 #[.slice A l.length cap] w fun e w' =>
      e = .returned (headOut l) ∧ w = w' := by
  have hmax := hb.max
  have hle := hb.le
  have hw := fun at_ => w_ref A cap l at_ w hb
  have hl := fun at_ => l_ref A cap l at_ w hb
  by_cases h1 : l.length = 54
  · have e0 : refNum l 0 4 = numAt l 0 4 := by simp [refNum, h1]
    have e1 : refNum l 12 4 = numAt l 12 4 := by simp [refNum, h1]
    have e2 : refNum l 18 2 = numAt l 18 2 := by simp [refNum, h1]
    have e3 : refNum l 50 2 = numAt l 50 2 := by simp [refNum, h1]
    have l0 := hl 0
    have l1 := hl 12
    have l2 := hw 18
    have l3 := hw 50
    rw [e0] at l0
    rw [e1] at l1
    rw [e2] at l2
    rw [e3] at l3
    have hlt := numAt_two_lt l 18 hb.lt (by omega)
    have ho : headOut l = if numAt l 0 4 = 65536 ∧ numAt l 12 4 = 1594834165 ∧ 16 ≤ numAt l 18 2 ∧ numAt l 18 2 ≤ 16384 ∧ numAt l 50 2 ≤ 1 then .tuple #[.int .u16 (numAt l 18 2 : Nat), .int .i64 0] else .tuple #[.int .u16 0, .int .i64 50] := by
      unfold headOut headF
      simp only [h1, true_and]
      by_cases hx : numAt l 0 4 = 65536 ∧ numAt l 12 4 = 1594834165 ∧ 16 ≤ numAt l 18 2 ∧ numAt l 18 2 ≤ 16384 ∧ numAt l 50 2 ≤ 1
      · rw [if_pos hx, if_pos hx]
      · rw [if_neg hx, if_neg hx]
    have HO := Lib.hid ho
    clear ho
    clear e0 e1 e2 e3 hl hw hb
    generalize numAt l 0 4 = a at *
    generalize numAt l 12 4 = b at *
    generalize numAt l 18 2 = c at *
    generalize numAt l 50 2 = d at *
    have h1' : ((l.length : Int) != 54) = false := by simp [h1]
    clear h1
    by_cases c1 : a = 65536
    · by_cases c2 : b = 1594834165
      · by_cases c3 : 16 ≤ c
        · by_cases c4 : c ≤ 16384
          · by_cases c5 : d ≤ 1
            · go_enter Tryd.func18, Tryd.ntmps18
              go_wp2_with (first | (go_at_call 38; (with_reducible refine l0.mono ?_); rintro e w' ⟨rfl, rfl⟩) | (go_at_call 38; (with_reducible refine l1.mono ?_); rintro e w' ⟨rfl, rfl⟩) | (go_at_call 36; (with_reducible refine l2.mono ?_); rintro e w' ⟨rfl, rfl⟩) | (go_at_call 36; (with_reducible refine l3.mono ?_); rintro e w' ⟨rfl, rfl⟩))
              go_ret2
              exact ⟨by rw [HO.out, if_pos (by omega)]; rfl, rfl⟩
            · go_enter Tryd.func18, Tryd.ntmps18
              go_wp2_with (first | (go_at_call 38; (with_reducible refine l0.mono ?_); rintro e w' ⟨rfl, rfl⟩) | (go_at_call 38; (with_reducible refine l1.mono ?_); rintro e w' ⟨rfl, rfl⟩) | (go_at_call 36; (with_reducible refine l2.mono ?_); rintro e w' ⟨rfl, rfl⟩) | (go_at_call 36; (with_reducible refine l3.mono ?_); rintro e w' ⟨rfl, rfl⟩))
              go_ret2
              exact ⟨by rw [HO.out, if_neg (by omega)]; rfl, rfl⟩
          · go_enter Tryd.func18, Tryd.ntmps18
            go_wp2_with (first | (go_at_call 38; (with_reducible refine l0.mono ?_); rintro e w' ⟨rfl, rfl⟩) | (go_at_call 38; (with_reducible refine l1.mono ?_); rintro e w' ⟨rfl, rfl⟩) | (go_at_call 36; (with_reducible refine l2.mono ?_); rintro e w' ⟨rfl, rfl⟩) | (go_at_call 36; (with_reducible refine l3.mono ?_); rintro e w' ⟨rfl, rfl⟩))
            go_ret2
            exact ⟨by rw [HO.out, if_neg (by omega)]; rfl, rfl⟩
        · go_enter Tryd.func18, Tryd.ntmps18
          go_wp2_with (first | (go_at_call 38; (with_reducible refine l0.mono ?_); rintro e w' ⟨rfl, rfl⟩) | (go_at_call 38; (with_reducible refine l1.mono ?_); rintro e w' ⟨rfl, rfl⟩) | (go_at_call 36; (with_reducible refine l2.mono ?_); rintro e w' ⟨rfl, rfl⟩) | (go_at_call 36; (with_reducible refine l3.mono ?_); rintro e w' ⟨rfl, rfl⟩))
          go_ret2
          exact ⟨by rw [HO.out, if_neg (by omega)]; rfl, rfl⟩
      · go_enter Tryd.func18, Tryd.ntmps18
        go_wp2_with (first | (go_at_call 38; (with_reducible refine l0.mono ?_); rintro e w' ⟨rfl, rfl⟩) | (go_at_call 38; (with_reducible refine l1.mono ?_); rintro e w' ⟨rfl, rfl⟩) | (go_at_call 36; (with_reducible refine l2.mono ?_); rintro e w' ⟨rfl, rfl⟩) | (go_at_call 36; (with_reducible refine l3.mono ?_); rintro e w' ⟨rfl, rfl⟩))
        go_ret2
        exact ⟨by rw [HO.out, if_neg (by omega)]; rfl, rfl⟩
    · go_enter Tryd.func18, Tryd.ntmps18
      go_wp2_with (first | (go_at_call 38; (with_reducible refine l0.mono ?_); rintro e w' ⟨rfl, rfl⟩) | (go_at_call 38; (with_reducible refine l1.mono ?_); rintro e w' ⟨rfl, rfl⟩) | (go_at_call 36; (with_reducible refine l2.mono ?_); rintro e w' ⟨rfl, rfl⟩) | (go_at_call 36; (with_reducible refine l3.mono ?_); rintro e w' ⟨rfl, rfl⟩))
      go_ret2
      exact ⟨by rw [HO.out, if_neg (by omega)]; rfl, rfl⟩
  · have ho : headOut l = .tuple #[.int .u16 0, .int .i64 50] := by
      unfold headOut headF
      rw [if_neg (by omega)]
    rw [ho]
    have h1' : ((l.length : Int) != 54) = true := by simp; omega
    clear hb hw hl
    go_enter Tryd.func18, Tryd.ntmps18
    go_wp2
    go_ret2
    exact ⟨rfl, rfl⟩
end Go.Proofs.YtfbppbelcbbhlaaDoor.Sf
