/- The reference's tables of a font that begins otherwise. -/
import Derived.Test.YtfbppbelcbbhlaaDoorSfTabsW
namespace Go.Proofs.YtfbppbelcbbhlaaDoor.Sf
open Go Go.RowKit

set_option maxRecDepth 100000 in
set_option maxHeartbeats 2000000 in
/-- A font that begins otherwise is refused. -/
theorem tables_bad (A : Option Addr) (cap : Nat) (l : List Nat) (w : World) (h : Byt w A cap l) (hbad : ¬ fontOk l (tabN l)) :
    Calls Tryd.prog 10 #[.slice A l.length cap] w fun e w' => e = .returned (.tuple #[.slice none 0 0, .int .i64 50]) ∧ Below w.heap.size w w' := by
  have hle := h.le
  have hmax := h.max
  have hW2 := w_ref A cap l 4 w h
  have hb4 : tabN l < 65536 := refNum_two_lt h _
  rw [show refNum l 4 2 = tabN l from rfl] at hW2
  have H := Lib.hid h
  clear h
  generalize hN : tabN l = n at *
  have HN := Lib.hid hN
  clear hN
  by_cases f1 : l.length ≤ 16777216
  · have d1 : decide ((16777216 : Int) < (l.length : Int)) = false := decide_eq_false (by omega)
    by_cases f2 : 12 ≤ l.length
    · have d2 : decide ((l.length : Int) < 12) = false := decide_eq_false (by omega)
      by_cases f3 : 1 ≤ n
      · have d3 : decide ((n : Int) < 1) = false := decide_eq_false (by omega)
        by_cases f4 : n ≤ 64
        · have d4 : decide ((64 : Int) < (n : Int)) = false := decide_eq_false (by omega)
          obtain ⟨b, bo, rfl, hc⟩ := H.out.cells (by omega)
          have hcut : Byt w (some ⟨b, bo, none⟩) cap (l.take 12) := ⟨by simp; omega, hmax, (fun h => by cases h), fun _ => ⟨b, bo, rfl, fun i hi => by
            simp at hi
            rw [hc i (by omega)]
            simp [List.getD, show i < 12 from by omega]⟩, fun x hx => H.out.lt x (List.mem_of_mem_take hx)⟩
          have h12 : (l.take 12).length = 12 := by simp; omega
          have HC := Lib.hid (fun W => head_okR n W f3 f4)
          have hE : ((strB (l.take 12)).toList == (strB (headB n)).toList) = decide (l.take 12 = headB n) := strB_beq _ _ (fun x hx => H.out.lt x (List.mem_of_mem_take hx)) (headB_lt n)
          have HB12 := Lib.hid (headB_lt n)
          have HV : ∀ W, Below w.heap.size w W → (convert 22 9 (.slice (some ⟨b, bo, none⟩) 12 cap)).run Tryd.prog W = .ok (.string (strB (l.take 12))) W := by
            intro W hk
            have := (hcut.below hk).convert (P := Tryd.prog) 22 5 9 Tryd.underlying22 Tryd.underlying5 Tryd.underlying9
            rw [h12] at this
            exact this
          have d6 : (12 : Int) ≤ (cap : Int) := by omega
          have wr1 : IntKind.i64.wrap (16 * (n : Int)) = 16 * (n : Int) := IntWalk.i64_in _ (by omega)
          have wr2 : IntKind.i64.wrap (12 + 16 * (n : Int)) = 12 + 16 * (n : Int) := IntWalk.i64_in _ (by omega)
          by_cases f5 : l.take 12 = headB n
          · have f6 : ¬ 12 + 16 * n ≤ l.length := fun h6 => hbad ⟨f1, f2, f3, f4, f5, h6⟩
            have d5 : decide ((l.length : Int) < 12 + 16 * (n : Int)) = true := decide_eq_true (by omega)
            rw [decide_eq_true f5] at hE
            clear hbad f5 hcut h12 hc
            go_enter Tryd.func10, Tryd.ntmps10
            go_wp2_with (go_at_call 36; refine hW2.mono ?_; rintro e w' ⟨rfl, rfl⟩)
            go_region_held3 (fun w' => Below w.heap.size w w') (first | assumption | exact (Below.refl _ _) | exact (Below.refl _ _).drew)
              (first | (go_at_call 37; refine (HC.out _).mono ?_; rintro e w2 ⟨A', c', rfl, g1, g2⟩; have g3 := (byt_of_own g1 HB12.out); obtain ⟨_, A2, c2, g4, g5⟩ := g3; cases g4; have hv2 := g5.convert (P := Tryd.prog) 22 5 9 Tryd.underlying22 Tryd.underlying5 Tryd.underlying9; have hS2 : Below w.heap.size w w2 := Below.trans (by assumption) (g2.mono (Below.size (by assumption))); clear g1 g2 g5))
            all_goals
              go_wp2_with fail
              go_ret2
              exact ⟨rfl, by assumption⟩
          · rw [decide_eq_false f5] at hE
            clear hbad f5 hcut h12 hc
            go_enter Tryd.func10, Tryd.ntmps10
            go_wp2_with (go_at_call 36; refine hW2.mono ?_; rintro e w' ⟨rfl, rfl⟩)
            first
              | (go_region_held3 (fun w' => Below w.heap.size w w') (first | assumption | exact (Below.refl _ _) | exact (Below.refl _ _).drew)
                 (first | (go_at_call 37; refine (HC.out _).mono ?_; rintro e w2 ⟨A', c', rfl, g1, g2⟩; have g3 := (byt_of_own g1 HB12.out); obtain ⟨_, A2, c2, g4, g5⟩ := g3; cases g4; have hv2 := g5.convert (P := Tryd.prog) 22 5 9 Tryd.underlying22 Tryd.underlying5 Tryd.underlying9; have hS2 : Below w.heap.size w w2 := Below.trans (by assumption) (g2.mono (Below.size (by assumption))); clear g1 g2 g5)))
              | fail
            all_goals
              go_wp2_with fail
              go_ret2
              exact ⟨rfl, by assumption⟩
        · have d4 : decide ((64 : Int) < (n : Int)) = true := decide_eq_true (by omega)
          clear hbad
          go_enter Tryd.func10, Tryd.ntmps10
          go_wp2_with (go_at_call 36; refine hW2.mono ?_; rintro e w' ⟨rfl, rfl⟩)
          go_quiet (fail)
          go_wp2_with fail
          go_ret2
          exact ⟨rfl, below_drewN' (Below.refl _ _) _⟩
      · have d3 : decide ((n : Int) < 1) = true := decide_eq_true (by omega)
        clear hbad
        go_enter Tryd.func10, Tryd.ntmps10
        go_wp2_with (go_at_call 36; refine hW2.mono ?_; rintro e w' ⟨rfl, rfl⟩)
        go_quiet (fail)
        go_wp2_with fail
        go_ret2
        exact ⟨rfl, below_drewN' (Below.refl _ _) _⟩
    · have d2 : decide ((l.length : Int) < 12) = true := decide_eq_true (by omega)
      clear hbad
      go_enter Tryd.func10, Tryd.ntmps10
      go_wp2_with (go_at_call 36; refine hW2.mono ?_; rintro e w' ⟨rfl, rfl⟩)
      go_quiet (fail)
      go_wp2_with fail
      go_ret2
      exact ⟨rfl, below_drewN' (Below.refl _ _) _⟩
  · have d1 : decide ((16777216 : Int) < (l.length : Int)) = true := decide_eq_true (by omega)
    clear hbad
    go_enter Tryd.func10, Tryd.ntmps10
    go_wp2_with (go_at_call 36; refine hW2.mono ?_; rintro e w' ⟨rfl, rfl⟩)
    go_quiet (fail)
    go_wp2_with fail
    go_ret2
    exact ⟨rfl, below_drewN' (Below.refl _ _) _⟩
end Go.Proofs.YtfbppbelcbbhlaaDoor.Sf
