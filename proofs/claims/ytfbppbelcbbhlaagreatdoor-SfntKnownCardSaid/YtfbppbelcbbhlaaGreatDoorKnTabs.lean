import Derived.Test.YtfbppbelcbbhlaaGreatDoorKnTabsR

/- The reference's table by table. -/
namespace Go.Proofs.YtfbppbelcbbhlaaGreatDoor.Sf
open Go Go.RowKit

set_option maxRecDepth 100000 in
set_option maxHeartbeats 2000000 in
theorem tables_ref (A : Option Addr) (cap : Nat) (l : List Nat) (w : World) (h : Byt w A cap l) :
    Calls Tryz.prog 23 #[.slice A l.length cap] w fun e w' => TabPost 77 w (tablesF l) e w' := by
  by_cases hfont : fontOk l (tabN l)
  case neg =>
    refine (tables_bad A cap l w h hfont).mono fun e w' hh => ?_
    show TabPost _ w _ _ _
    rw [tablesF_font hfont]
    exact hh
  have hle := h.le
  have hmax := h.max
  have hW := Lib.hid (w_ref A cap l 4 w h)
  have H := Lib.hid h
  clear h
  obtain ⟨f1, f2, f3, f4, f5, f6⟩ := hfont
  obtain ⟨b, bo, rfl, hc⟩ := H.out.cells (by omega)
  have hn : Hid (tabN l = refNum l 4 2) := rfl
  have hW2 := hW.out
  rw [← hn.out] at hW2
  have hcut : Byt w (some ⟨b, bo, none⟩) cap (l.take 12) := ⟨by simp; omega, hmax, (fun h => by cases h), fun _ => ⟨b, bo, rfl, fun i hi => by
    simp at hi
    rw [hc i (by omega)]
    simp [List.getD, show i < 12 from by omega]⟩, fun x hx => H.out.lt x (List.mem_of_mem_take hx)⟩
  have h12 : (l.take 12).length = 12 := by simp; omega
  generalize hN : tabN l = n at *
  have HN := Lib.hid hN
  clear hN hn hW
  have HC := Lib.hid (fun W => head_okR n W f3 f4)
  have hE : ((strB (l.take 12)).toList == (strB (headB n)).toList) = true := by rw [f5]; simp
  have HB12 := Lib.hid (headB_lt n)
  have HV : ∀ W, Below w.heap.size w W → (convert 25 9 (.slice (some ⟨b, bo, none⟩) 12 cap)).run Tryz.prog W = .ok (.string (strB (l.take 12))) W := by
    intro W hk
    have := (hcut.below hk).convert (P := Tryz.prog) 25 5 9 Tryz.underlying25 Tryz.underlying5 Tryz.underlying9
    rw [h12] at this
    exact this
  go_enter Tryz.func23, Tryz.ntmps23
  go_wp2_with (go_at_call 50; refine hW2.mono ?_; rintro e w' ⟨rfl, rfl⟩)
  have HH := Lib.hid H.out
  have HCB := Lib.hid hc
  have HF5 := Lib.hid f5
  clear hcut H hc f5 h12
  have d1 : decide ((16777216 : Int) < (l.length : Int)) = false := decide_eq_false (by omega)
  have d2 : decide ((l.length : Int) < 12) = false := decide_eq_false (by omega)
  have d3 : decide ((n : Int) < 1) = false := decide_eq_false (by omega)
  have d4 : decide ((64 : Int) < (n : Int)) = false := decide_eq_false (by omega)
  have d5 : decide ((l.length : Int) < 12 + 16 * (n : Int)) = false := decide_eq_false (by omega)
  have d6 : (12 : Int) ≤ (cap : Int) := by omega
  have wr1 : IntKind.i64.wrap (16 * (n : Int)) = 16 * (n : Int) := IntWalk.i64_in _ (by omega)
  have wr2 : IntKind.i64.wrap (12 + 16 * (n : Int)) = 12 + 16 * (n : Int) := IntWalk.i64_in _ (by omega)
  go_upto_region 2 with (fail)
  go_cut [44] from 12 to 188 (fun p wx => p = .bool false ∧ Below w.heap.size w wx)
  case first =>
    
    refine wp_region_held_drew (S := fun W => Below w.heap.size w W) (by kernel_rfl) ((Below.refl _ _).drew) (fun hHeld => ?_)
    refine heldTake 0 12 (v := ?_) rfl rfl (by kernel_rfl) (by kernel_rfl) (by kernel_rfl) (fun _ _ _ h => h) (Or.inl ⟨by rfl, ?_⟩) (by assumption) ?_
    rotate_left
    · intro W hSW
      go_simp
      try with_reducible rfl
    simp only [Act.put, List.setIfInBounds_toArray, List.set_cons_zero, List.set_cons_succ]
    refine heldTake 1 13 (v := ?_) rfl rfl (by kernel_rfl) (by kernel_rfl) (by kernel_rfl) (fun _ _ _ h => h) (Or.inl ⟨by rfl, ?_⟩) (by assumption) ?_
    rotate_left
    · intro W hSW
      go_simp
      try with_reducible rfl
    simp only [Act.put, List.setIfInBounds_toArray, List.set_cons_zero, List.set_cons_succ]
    refine heldTake 2 14 (v := ?_) rfl rfl (by kernel_rfl) (by kernel_rfl) (by kernel_rfl) (fun _ _ _ h => h) (Or.inl ⟨by rfl, ?_⟩) (by assumption) ?_
    rotate_left
    · intro W hSW
      go_simp
      try with_reducible rfl
    simp only [Act.put, List.setIfInBounds_toArray, List.set_cons_zero, List.set_cons_succ]
    refine heldTake 3 15 (v := ?_) rfl rfl (by kernel_rfl) (by kernel_rfl) (by kernel_rfl) (fun _ _ _ h => h) (Or.inl ⟨by rfl, ?_⟩) (by assumption) ?_
    rotate_left
    · intro W hSW
      go_simp
      try with_reducible rfl
    simp only [Act.put, List.setIfInBounds_toArray, List.set_cons_zero, List.set_cons_succ]
    refine heldTake 4 16 (v := ?_) rfl rfl (by kernel_rfl) (by kernel_rfl) (by kernel_rfl) (fun _ _ _ h => h) (Or.inl ⟨by rfl, ?_⟩) (by assumption) ?_
    rotate_left
    · intro W hSW
      go_simp
      try with_reducible rfl
    simp only [Act.put, List.setIfInBounds_toArray, List.set_cons_zero, List.set_cons_succ]
    refine heldTake 5 17 (v := ?_) rfl rfl (by kernel_rfl) (by kernel_rfl) (by kernel_rfl) (fun _ _ _ h => h) (Or.inl ⟨by rfl, ?_⟩) (by assumption) ?_
    rotate_left
    · intro W hSW
      go_simp
      try with_reducible rfl
    simp only [Act.put, List.setIfInBounds_toArray, List.set_cons_zero, List.set_cons_succ]
    refine heldTake 6 18 (v := ?_) rfl rfl (by kernel_rfl) (by kernel_rfl) (by kernel_rfl) (fun _ _ _ h => h) (Or.inl ⟨by rfl, ?_⟩) (by assumption) ?_
    rotate_left
    · intro W hSW
      go_simp
      try with_reducible rfl
    simp only [Act.put, List.setIfInBounds_toArray, List.set_cons_zero, List.set_cons_succ]
    refine heldTake 7 19 (v := ?_) rfl rfl (by kernel_rfl) (by kernel_rfl) (by kernel_rfl) (fun _ _ _ h => h) (Or.inl ⟨by rfl, ?_⟩) (by assumption) ?_
    rotate_left
    · intro W hSW
      go_simp
      try with_reducible rfl
    simp only [Act.put, List.setIfInBounds_toArray, List.set_cons_zero, List.set_cons_succ]
    refine heldTake 8 20 (v := ?_) rfl rfl (by kernel_rfl) (by kernel_rfl) (by kernel_rfl) (fun _ _ _ h => h) (Or.inl ⟨by rfl, ?_⟩) (by assumption) ?_
    rotate_left
    · intro W hSW
      go_simp
      try with_reducible rfl
    simp only [Act.put, List.setIfInBounds_toArray, List.set_cons_zero, List.set_cons_succ]
    refine heldTake 9 21 (v := ?_) rfl rfl (by kernel_rfl) (by kernel_rfl) (by kernel_rfl) (fun _ _ _ h => h) (Or.inl ⟨by rfl, ?_⟩) (by assumption) ?_
    rotate_left
    · intro W hSW
      go_simp
      try with_reducible rfl
    simp only [Act.put, List.setIfInBounds_toArray, List.set_cons_zero, List.set_cons_succ]
    refine heldTake 10 22 (v := ?_) rfl rfl (by kernel_rfl) (by kernel_rfl) (by kernel_rfl) (fun _ _ _ h => h) (Or.inl ⟨by rfl, ?_⟩) (by assumption) ?_
    rotate_left
    · intro W hSW
      go_simp
      try with_reducible rfl
    simp only [Act.put, List.setIfInBounds_toArray, List.set_cons_zero, List.set_cons_succ]
    refine heldTake 11 23 (v := ?_) rfl rfl (by kernel_rfl) (by kernel_rfl) (by kernel_rfl) (fun _ _ _ h => h) (Or.inl ⟨by rfl, ?_⟩) (by assumption) ?_
    rotate_left
    · intro W hSW
      go_simp
      try with_reducible rfl
    simp only [Act.put, List.setIfInBounds_toArray, List.set_cons_zero, List.set_cons_succ]
    refine heldTake 12 24 (v := ?_) rfl rfl (by kernel_rfl) (by kernel_rfl) (by kernel_rfl) (fun _ _ _ h => h) (Or.inl ⟨by rfl, ?_⟩) (by assumption) ?_
    rotate_left
    · intro W hSW
      go_simp
      try with_reducible rfl
    simp only [Act.put, List.setIfInBounds_toArray, List.set_cons_zero, List.set_cons_succ]
    refine heldTake 13 25 (v := ?_) rfl rfl (by kernel_rfl) (by kernel_rfl) (by kernel_rfl) (fun _ _ _ h => h) (Or.inl ⟨by rfl, ?_⟩) (by assumption) ?_
    rotate_left
    · intro W hSW
      go_simp
      try with_reducible rfl
    simp only [Act.put, List.setIfInBounds_toArray, List.set_cons_zero, List.set_cons_succ]
    refine heldTake 14 26 (v := ?_) rfl rfl (by kernel_rfl) (by kernel_rfl) (by kernel_rfl) (fun _ _ _ h => h) (Or.inl ⟨by rfl, ?_⟩) (by assumption) ?_
    rotate_left
    · intro W hSW
      go_simp
      try with_reducible rfl
    simp only [Act.put, List.setIfInBounds_toArray, List.set_cons_zero, List.set_cons_succ]
    refine heldTake 15 27 (v := ?_) rfl rfl (by kernel_rfl) (by kernel_rfl) (by kernel_rfl) (fun _ _ _ h => h) (Or.inl ⟨by rfl, ?_⟩) (by assumption) ?_
    rotate_left
    · intro W hSW
      go_simp
      try with_reducible rfl
    simp only [Act.put, List.setIfInBounds_toArray, List.set_cons_zero, List.set_cons_succ]
    refine heldTake 16 28 (v := ?_) rfl rfl (by kernel_rfl) (by kernel_rfl) (by kernel_rfl) (fun _ _ _ h => h) (Or.inl ⟨by rfl, ?_⟩) (by assumption) ?_
    rotate_left
    · intro W hSW
      go_simp
      try with_reducible rfl
    simp only [Act.put, List.setIfInBounds_toArray, List.set_cons_zero, List.set_cons_succ]
    refine heldTake 17 29 (v := ?_) rfl rfl (by kernel_rfl) (by kernel_rfl) (by kernel_rfl) (fun _ _ _ h => h) (Or.inl ⟨by rfl, ?_⟩) (by assumption) ?_
    rotate_left
    · intro W hSW
      go_simp
      try with_reducible rfl
    simp only [Act.put, List.setIfInBounds_toArray, List.set_cons_zero, List.set_cons_succ]
    refine heldTake 18 30 (v := ?_) rfl rfl (by kernel_rfl) (by kernel_rfl) (by kernel_rfl) (fun _ _ _ h => h) (Or.inl ⟨by rfl, ?_⟩) (by assumption) ?_
    rotate_left
    · intro W hSW
      go_simp
      try with_reducible rfl
    simp only [Act.put, List.setIfInBounds_toArray, List.set_cons_zero, List.set_cons_succ]
    refine heldTake 19 31 (v := ?_) rfl rfl (by kernel_rfl) (by kernel_rfl) (by kernel_rfl) (fun _ _ _ h => h) (Or.inl ⟨by rfl, ?_⟩) (by assumption) ?_
    rotate_left
    · intro W hSW
      have hv := HV W hSW
      go_simp
      try with_reducible rfl
    simp only [Act.put, List.setIfInBounds_toArray, List.set_cons_zero, List.set_cons_succ]
    refine heldTake 20 32 (v := ?_) rfl rfl (by kernel_rfl) (by kernel_rfl) (by kernel_rfl) (fun _ _ _ h => h) (Or.inl ⟨by rfl, ?_⟩) (by assumption) ?_
    rotate_left
    · intro W hSW
      go_simp
      try with_reducible rfl
    simp only [Act.put, List.setIfInBounds_toArray, List.set_cons_zero, List.set_cons_succ]
    refine wpAnyH_ready (rs := [21]) (by kernel_rfl) (by simp) ?_
    refine AllReadyH.cons rfl (fun K1 hK1 => ?_) AllReadyH.nil
    go_simp
    refine (HC.out _).mono ?_
    rintro e w2 ⟨A', c', rfl, g1, g2⟩
    have hS2 : Below w.heap.size w w2 := Below.trans hHeld (g2.mono hHeld.size)
    obtain ⟨-, A2, c2, g4, g5⟩ := byt_of_own g1 HB12.out
    cases g4
    have hv2 := g5.convert (P := Tryz.prog) 25 5 9 Tryz.underlying25 Tryz.underlying5 Tryz.underlying9
    refine hK1.out _ _ hS2 (fun hHeld2 => ?_)
    clear hK1 K1 g1 g2 g5
    try simp only [Act.put, List.setIfInBounds_toArray, List.set_cons_zero, List.set_cons_succ]
    refine wpAnyH_ready (rs := [22]) (by kernel_rfl) (by simp) ?_
    refine AllReadyH.cons rfl (fun K1 hK1 => ?_) AllReadyH.nil
    go_simp
    refine hK1.out _ _ hHeld2 (fun hHeld3 => ?_)
    clear hK1 K1 hv2
    try simp only [Act.put, List.setIfInBounds_toArray, List.set_cons_zero, List.set_cons_succ]
    refine heldTake 23 35 (v := ?_) rfl rfl (by kernel_rfl) (by kernel_rfl) (by kernel_rfl) (fun _ _ _ h => h) (Or.inl ⟨by rfl, ?_⟩) (by assumption) ?_
    rotate_left
    · intro W hSW
      go_simp
      try with_reducible rfl
    simp only [Act.put, List.setIfInBounds_toArray, List.set_cons_zero, List.set_cons_succ]
    refine heldTake 24 36 (v := ?_) rfl rfl (by kernel_rfl) (by kernel_rfl) (by kernel_rfl) (fun _ _ _ h => h) (Or.inl ⟨by rfl, ?_⟩) (by assumption) ?_
    rotate_left
    · intro W hSW
      go_simp
      try with_reducible rfl
    simp only [Act.put, List.setIfInBounds_toArray, List.set_cons_zero, List.set_cons_succ]
    refine heldTake 25 37 (v := ?_) rfl rfl (by kernel_rfl) (by kernel_rfl) (by kernel_rfl) (fun _ _ _ h => h) (Or.inl ⟨by rfl, ?_⟩) (by assumption) ?_
    rotate_left
    · intro W hSW
      go_simp
      try with_reducible rfl
    simp only [Act.put, List.setIfInBounds_toArray, List.set_cons_zero, List.set_cons_succ]
    refine heldTake 26 38 (v := ?_) rfl rfl (by kernel_rfl) (by kernel_rfl) (by kernel_rfl) (fun _ _ _ h => h) (Or.inl ⟨by rfl, ?_⟩) (by assumption) ?_
    rotate_left
    · intro W hSW
      go_simp
      try with_reducible rfl
    simp only [Act.put, List.setIfInBounds_toArray, List.set_cons_zero, List.set_cons_succ]
    refine heldTake 27 39 (v := ?_) rfl rfl (by kernel_rfl) (by kernel_rfl) (by kernel_rfl) (fun _ _ _ h => h) (Or.inl ⟨by rfl, ?_⟩) (by assumption) ?_
    rotate_left
    · intro W hSW
      go_simp
      try with_reducible rfl
    simp only [Act.put, List.setIfInBounds_toArray, List.set_cons_zero, List.set_cons_succ]
    refine heldTake 28 40 (v := ?_) rfl rfl (by kernel_rfl) (by kernel_rfl) (by kernel_rfl) (fun _ _ _ h => h) (Or.inl ⟨by rfl, ?_⟩) (by assumption) ?_
    rotate_left
    · intro W hSW
      go_simp
      try with_reducible rfl
    simp only [Act.put, List.setIfInBounds_toArray, List.set_cons_zero, List.set_cons_succ]
    refine heldTake 29 41 (v := ?_) rfl rfl (by kernel_rfl) (by kernel_rfl) (by kernel_rfl) (fun _ _ _ h => h) (Or.inl ⟨by rfl, ?_⟩) (by assumption) ?_
    rotate_left
    · intro W hSW
      go_simp
      try with_reducible rfl
    simp only [Act.put, List.setIfInBounds_toArray, List.set_cons_zero, List.set_cons_succ]
    refine heldTake 30 42 (v := ?_) rfl rfl (by kernel_rfl) (by kernel_rfl) (by kernel_rfl) (fun _ _ _ h => h) (Or.inl ⟨by rfl, ?_⟩) (by assumption) ?_
    rotate_left
    · intro W hSW
      go_simp
      try with_reducible rfl
    simp only [Act.put, List.setIfInBounds_toArray, List.set_cons_zero, List.set_cons_succ]
    refine heldTake 31 43 (v := ?_) rfl rfl (by kernel_rfl) (by kernel_rfl) (by kernel_rfl) (fun _ _ _ h => h) (Or.inl ⟨by rfl, ?_⟩) (by assumption) ?_
    rotate_left
    · intro W hSW
      go_simp
      try with_reducible rfl
    simp only [Act.put, List.setIfInBounds_toArray, List.set_cons_zero, List.set_cons_succ]
    refine heldTake 32 44 (v := ?_) rfl rfl (by kernel_rfl) (by kernel_rfl) (by kernel_rfl) (fun _ _ _ h => h) (Or.inl ⟨by rfl, ?_⟩) (by assumption) ?_
    rotate_left
    · intro W hSW
      go_simp
      try with_reducible rfl
    simp only [Act.put, List.setIfInBounds_toArray, List.set_cons_zero, List.set_cons_succ]
    refine wpAnyH_done (by kernel_rfl) ?_ _
    all_goals
      go_wp2_with fail
      go_meet
      case rel => exact ⟨rfl, by first | assumption | exact Below.drew (by assumption)⟩
    
  case rest =>
  obtain ⟨rfl, hS2⟩ := hcut
  go_wp2_with fail
  clear HC HV hE d1 d2 d3 d4 d5 d6 wr1 wr2
  have HB2 := Lib.hid hS2
  clear hS2
  go_loopw [5, 6] (fun v i wr => ∃ (k : Nat) (A' : Option Addr) (c' : Nat), k ≤ n ∧ i = .int .i64 k ∧ v = .slice A' k c' ∧ wr.ownsRow w.heap.size 77 6 (.slice A' k c') k (tbs (recs l k)) ∧ Below w.heap.size w wr ∧ (∀ i, i < k → recOk l n i) ∧ (∀ i, i < k → ∀ j, j < i → apart (recAt l i) (recAt l j))) (fun _ i _ => n - (intOf i).toNat)
  case atStart => exact ⟨0, none, 0, by omega, rfl, rfl, World.ownsRow_nil _ _ _ _, HB2.out, fun i hi => by omega, fun i hi => by omega⟩
  case round =>
    obtain ⟨k, A', c', hk, rfl, rfl, hown, hbel, hrok, hap⟩ := hrel
    have HW := Lib.hid hown
    have HB := Lib.hid hbel
    have HR := Lib.hid hrok
    have HA := Lib.hid hap
    clear hown hbel hrok hap
    by_cases hlt : k < n
    · obtain ⟨a, ha⟩ : ∃ a : Nat, a = 12 + 16 * k := ⟨_, rfl⟩
      have hai : (12 + 16 * (k : Int)) = (a : Int) := by omega
      have ha16 : a + 16 ≤ l.length := by omega
      have HAT := Lib.hid ha
      clear ha
      have hb1 := (HCB.out a (by omega))
      have hb2 := (HCB.out (a + 1) (by omega))
      have hb3 := (HCB.out (a + 2) (by omega))
      have hb4 := (HCB.out (a + 3) (by omega))
      have HL8 := Lib.hid (fun W (hW : Below w.heap.size w W) => l_ref (some ⟨b, bo, none⟩) cap l ((a : Int) + 8) W (HH.out.below hW))
      have HL12 := Lib.hid (fun W (hW : Below w.heap.size w W) => l_ref (some ⟨b, bo, none⟩) cap l ((a : Int) + 12) W (HH.out.below hW))
      have e8 : refNum l ((a : Int) + 8) 4 = (recAt l k).at_ := by
        unfold refNum recAt
        rw [if_pos (by omega), ← HAT.out]
        rfl
      have e12 : refNum l ((a : Int) + 12) 4 = (recAt l k).len := by
        unfold refNum recAt
        rw [if_pos (by omega), ← HAT.out]
        rfl
      rw [e8] at HL8
      rw [e12] at HL12
      have et : Hid ((recAt l k).tag = ⟨l.getD a 0, l.getD (a + 1) 0, l.getD (a + 2) 0, l.getD (a + 3) 0⟩) := by
        have := HAT.out
        subst this
        rfl
      have hbl : b < w.heap.size := World.block_lt_of_cell? w _ hb1
      have wr1 : IntKind.i64.wrap ((a : Int) + 1) = (a : Int) + 1 := IntWalk.i64_in _ (by omega)
      have wr2 : IntKind.i64.wrap ((a : Int) + 2) = (a : Int) + 2 := IntWalk.i64_in _ (by omega)
      have wr3 : IntKind.i64.wrap ((a : Int) + 3) = (a : Int) + 3 := IntWalk.i64_in _ (by omega)
      have wr8 : IntKind.i64.wrap ((a : Int) + 8) = (a : Int) + 8 := IntWalk.i64_in _ (by omega)
      have wr12 : IntKind.i64.wrap ((a : Int) + 12) = (a : Int) + 12 := IntWalk.i64_in _ (by omega)
      have b0 : (0 : Int) ≤ (a : Int) := by omega
      have b1 : (a : Int) < (l.length : Int) := by omega
      have b2 : (0 : Int) ≤ (a : Int) + 1 := by omega
      have b3 : (a : Int) + 1 < (l.length : Int) := by omega
      have b4 : (0 : Int) ≤ (a : Int) + 2 := by omega
      have b5 : (a : Int) + 2 < (l.length : Int) := by omega
      have b6 : (0 : Int) ≤ (a : Int) + 3 := by omega
      have b7 : (a : Int) + 3 < (l.length : Int) := by omega
      have t1 : ((a : Int) + 1).toNat = a + 1 := by omega
      have t2 : ((a : Int) + 2).toNat = a + 2 := by omega
      have t3 : ((a : Int) + 3).toNat = a + 3 := by omega
      generalize hra : (recAt l k).at_ = rat at *
      generalize hrl : (recAt l k).len = rln at *
      have HRA := Lib.hid hra
      have HRL := Lib.hid hrl
      generalize hta : l.getD a 0 = ta at *
      generalize htb : l.getD (a + 1) 0 = tb at *
      generalize htc : l.getD (a + 2) 0 = tc at *
      generalize htd : l.getD (a + 3) 0 = td at *
      clear hra hrl hta htb htc htd e8 e12
      have hS0 : ∀ W, Below w.heap.size w W → Below w.heap.size w W ∧ W.cell? ⟨b, bo + a, none⟩ = some (.int .u8 ta) ∧ W.cell? ⟨b, bo + (a + 1), none⟩ = some (.int .u8 tb) ∧ W.cell? ⟨b, bo + (a + 2), none⟩ = some (.int .u8 tc) ∧ W.cell? ⟨b, bo + (a + 3), none⟩ = some (.int .u8 td) :=
        fun W hW => ⟨hW, (kept_of_below hW).cell hb1, (kept_of_below hW).cell hb2, (kept_of_below hW).cell hb3, (kept_of_below hW).cell hb4⟩
      have HS0 := Lib.hid hS0
      have hS1 := HS0.out wr HB.out
      clear hS0 hb1 hb2 hb3 hb4
      go_upto_region 9 with (fail)
      go_cut [8] from 45 to 187 (fun p wx => p = .pointer (some ⟨wr.heap.size, 0, none⟩) ∧ wx = (wr.alloc (.cells #[.int .u8 ta, .int .u8 tb, .int .u8 tc, .int .u8 td, .int .i64 rat, .int .i64 rln] 77)).drew)
      case first =>
        
        go_region_held3 (fun W => Below w.heap.size w W ∧ W.cell? ⟨b, bo + a, none⟩ = some (.int .u8 ta) ∧ W.cell? ⟨b, bo + (a + 1), none⟩ = some (.int .u8 tb) ∧ W.cell? ⟨b, bo + (a + 2), none⟩ = some (.int .u8 tc) ∧ W.cell? ⟨b, bo + (a + 3), none⟩ = some (.int .u8 td))
          (first | assumption | exact HS0.out _ hS1.1.drew | exact HS0.out _ ((HB.out.alloc HB.out.size _).drew) | (refine HS0.out _ ?_; refine Below.alloc (And.left (by assumption)) (Below.size (And.left (by assumption))) _))
          (first | (go_at_call 51; (with_reducible refine (HL8.out _ ?_).mono ?_); exact And.left (by assumption); rintro e w3 ⟨rfl, rfl⟩) | (go_at_call 51; (with_reducible refine (HL12.out _ ?_).mono ?_); exact And.left (by assumption); rintro e w3 ⟨rfl, rfl⟩))
        all_goals
          go_wp2_with fail
          go_meet
          case rel => exact ⟨rfl, rfl⟩
        
      case rest =>
        obtain ⟨rfl, rfl⟩ := hcut
        have hg9 : ((wr.alloc (.cells #[.int .u8 ta, .int .u8 tb, .int .u8 tc, .int .u8 td, .int .i64 rat, .int .i64 rln] 77)).drew).heap[wr.heap.size]? = some (.cells #[.int .u8 ta, .int .u8 tb, .int .u8 tc, .int .u8 td, .int .i64 rat, .int .i64 rln] 77 (0, 0)) := heap_alloc_new _ _
        have hB9 : Below w.heap.size w ((wr.alloc (.cells #[.int .u8 ta, .int .u8 tb, .int .u8 tc, .int .u8 td, .int .i64 rat, .int .i64 rln] 77)).drew) := (HB.out.alloc HB.out.size _).drew
        have hW9 := own_below HW.out (((Below.refl wr.heap.size wr).alloc (Nat.le_refl _) (.cells #[.int .u8 ta, .int .u8 tb, .int .u8 tc, .int .u8 td, .int .i64 rat, .int .i64 rln] 77)).drew)
        have hgw := HB.out.size
        generalize hwx : ((wr.alloc (.cells #[.int .u8 ta, .int .u8 tb, .int .u8 tc, .int .u8 td, .int .i64 rat, .int .i64 rln] 77)).drew) = wx at *
        have HWX := Lib.hid hwx
        clear hwx
        generalize hgg : wr.heap.size = g at *
        have HGG := Lib.hid hgg
        clear hgg hS1 wr1 wr2 wr3 wr8 wr12 b0 b1 b2 b3 b4 b5 b6 b7 t1 t2 t3 hbl
        have q0 := cell_of_blk hg9 0
        have q1 := cell_of_blk hg9 1
        have q2 := cell_of_blk hg9 2
        have q3 := cell_of_blk hg9 3
        have q4 := cell_of_blk hg9 4
        have q5 := cell_of_blk hg9 5
        simp at q0 q1 q2 q3 q4 q5
        have HG9 := Lib.hid hg9
        have HB9 := Lib.hid hB9
        have HW9 := Lib.hid hW9
        clear hg9 hB9 hW9 HL8 HL12
        go_upto_region 10 with (fail)
        refine ref_r10 hle hmax f1 f3 f4 hlt ha16 HAT HH HRA HRL et HB9 HW9 q0 q1 q2 q3 q4 q5 ?_
        intro eg
        intros
        have hB10 := eg.below
        cases hrk : decide (recOk l n k) with
        | false =>
          have HRK := Lib.hid (of_decide_eq_false hrk)
          clear hrk
          go_wp2_with fail
          go_ret2
          show TabPost _ w _ _ _
          rw [tablesF_rec HN.out hlt HRK.out]
          exact ⟨rfl, HB9.out.trans (hB10.mono HB9.out.size)⟩
        | true =>
          have HRK := Lib.hid (of_decide_eq_true hrk)
          clear hrk
          have HB10 := Lib.hid hB10
          clear hB10
          go_wp2_with fail
          go_loopw [9] (fun i wi => ∃ j : Nat, j ≤ k ∧ i = .int .i64 j ∧ Below wx.heap.size wx wi ∧ (∀ i, i < j → apart (recAt l k) (recAt l i))) (fun i _ => k - (intOf i).toNat)
          case atStart => exact ⟨0, by omega, rfl, HB10.out, fun i hi => by omega⟩
          case round =>
            obtain ⟨j, hj, rfl, hbi, hapi⟩ := hrel
            have HBI := Lib.hid hbi
            have HAI := Lib.hid hapi
            clear hbi hapi
            by_cases hjk : j < k
            · obtain ⟨qb, rfl, o1, o2, o3, o4⟩ := own_pos HW9.out (by omega)
              have hct := row_tb HW9.out j (by omega) _ (recs_at l k j (by omega))
              have hq1' := (kept_of_below HBI.out).cell hct.at_
              have hq1 := fun e : Grown wr => e.cell hq1'
              have hq2' := (kept_of_below HBI.out).cell hct.len
              have hq2 := fun e : Grown wr => e.cell hq2'
              have hq3' := (kept_of_below HBI.out).cell q4
              have hq3 := fun e : Grown wr => e.cell hq3'
              have hq4' := (kept_of_below HBI.out).cell q5
              have hq4 := fun e : Grown wr => e.cell hq4'
              have hja : (recAt l j).at_ < 4294967296 := numF_lt _
              have hjl : (recAt l j).len < 4294967296 := numF_lt _
              have hra4 : rat < 4294967296 := by rw [← HRA.out]; exact numF_lt _
              have hrl4 : rln < 4294967296 := by rw [← HRL.out]; exact numF_lt _
              have hdef : apart (recAt l k) (recAt l j) ↔ ¬ (0 < rln ∧ 0 < (recAt l j).len ∧ rat < (recAt l j).at_ + (recAt l j).len ∧ (recAt l j).at_ < rat + rln) := by
                unfold apart
                rw [HRA.out, HRL.out]
              have HDEF := Lib.hid hdef
              clear hdef hct hq1' hq2' hq3' hq4'
              generalize (recAt l j).at_ = jat at *
              generalize (recAt l j).len = jln at *
              have wr1 : IntKind.i64.wrap ((jat : Int) + (jln : Int)) = (jat : Int) + (jln : Int) := IntWalk.i64_in _ (by omega)
              have wr2 : IntKind.i64.wrap ((rat : Int) + (rln : Int)) = (rat : Int) + (rln : Int) := IntWalk.i64_in _ (by omega)
              have bj0 : (0 : Int) ≤ (j : Int) := by omega
              have bj1 : (j : Int) < (k : Int) := by omega
              go_upto_region 15 with (fail)
              go_cut [183] from 139 to 183 (fun p wc => p = .bool (!decide (apart (recAt l k) (recAt l j))) ∧ Below wx.heap.size wx wc)
              case first =>
                by_cases e1 : 0 < rln
                · have d1 : decide ((0 : Int) < (rln : Int)) = true := decide_eq_true (by omega)
                  have d1b : decide (0 < rln) = true := decide_eq_true (by omega)
                  by_cases e2 : 0 < jln
                  · have d2 : decide ((0 : Int) < (jln : Int)) = true := decide_eq_true (by omega)
                    have d2b : decide (0 < jln) = true := decide_eq_true (by omega)
                    by_cases e3 : rat < jat + jln
                    · have d3 : decide ((rat : Int) < (jat : Int) + (jln : Int)) = true := decide_eq_true (by omega)
                      by_cases e4 : jat < rat + rln
                      · have d4 : decide ((jat : Int) < (rat : Int) + (rln : Int)) = true := decide_eq_true (by omega)
                        refine wp_region_grown (by as_aux_lemma => kernel_rfl) (by as_aux_lemma => kernel_rfl) ?_
                        repeat (go_big_quiet_step (fail))
                        refine wpQuiet_nil ?_
                        rintro _ ⟨eg, rfl⟩
                        go_wp2_with fail
                        go_meet
                        case rel => exact ⟨by rw [decide_eq_false (fun h => HDEF.out.1 h ⟨e1, e2, e3, e4⟩)]; rfl, HBI.out.trans (eg.below.mono HBI.out.size)⟩
                      · have d4 : decide ((jat : Int) < (rat : Int) + (rln : Int)) = false := decide_eq_false (by omega)
                        refine wp_region_grown (by as_aux_lemma => kernel_rfl) (by as_aux_lemma => kernel_rfl) ?_
                        repeat (go_big_quiet_step (fail))
                        refine wpQuiet_nil ?_
                        rintro _ ⟨eg, rfl⟩
                        go_wp2_with fail
                        go_meet
                        case rel => exact ⟨by rw [decide_eq_true (HDEF.out.2 (fun h => e4 h.2.2.2))]; rfl, HBI.out.trans (eg.below.mono HBI.out.size)⟩
                    · have d3 : decide ((rat : Int) < (jat : Int) + (jln : Int)) = false := decide_eq_false (by omega)
                      refine wp_region_grown (by as_aux_lemma => kernel_rfl) (by as_aux_lemma => kernel_rfl) ?_
                      repeat (go_big_quiet_step (fail))
                      refine wpQuiet_nil ?_
                      rintro _ ⟨eg, rfl⟩
                      go_wp2_with fail
                      go_meet
                      case rel => exact ⟨by rw [decide_eq_true (HDEF.out.2 (fun h => e3 h.2.2.1))]; rfl, HBI.out.trans (eg.below.mono HBI.out.size)⟩
                  · have d2 : decide ((0 : Int) < (jln : Int)) = false := decide_eq_false (by omega)
                    have d2b : decide (0 < jln) = false := decide_eq_false (by omega)
                    refine wp_region_grown (by as_aux_lemma => kernel_rfl) (by as_aux_lemma => kernel_rfl) ?_
                    repeat (go_big_quiet_step (fail))
                    refine wpQuiet_nil ?_
                    rintro _ ⟨eg, rfl⟩
                    go_wp2_with fail
                    go_meet
                    case rel => exact ⟨by rw [decide_eq_true (HDEF.out.2 (fun h => e2 h.2.1))]; rfl, HBI.out.trans (eg.below.mono HBI.out.size)⟩
                · have d1 : decide ((0 : Int) < (rln : Int)) = false := decide_eq_false (by omega)
                  have d1b : decide (0 < rln) = false := decide_eq_false (by omega)
                  refine wp_region_grown (by as_aux_lemma => kernel_rfl) (by as_aux_lemma => kernel_rfl) ?_
                  repeat (go_big_quiet_step (fail))
                  refine wpQuiet_nil ?_
                  rintro _ ⟨eg, rfl⟩
                  go_wp2_with fail
                  go_meet
                  case rel => exact ⟨by rw [decide_eq_true (HDEF.out.2 (fun h => e1 h.1))]; rfl, HBI.out.trans (eg.below.mono HBI.out.size)⟩
              case rest =>
                obtain ⟨rfl, hB15⟩ := hcut
                cases hap : decide (apart (recAt l k) (recAt l j)) with
                | false =>
                  have HAP := Lib.hid (of_decide_eq_false hap)
                  clear hap
                  go_wp2_with fail
                  go_ret2
                  show TabPost _ w _ _ _
                  rw [tablesF_apart HN.out hlt hjk HAP.out]
                  exact ⟨rfl, HB9.out.trans (hB15.mono HB9.out.size)⟩
                | true =>
                  have HAP := Lib.hid (of_decide_eq_true hap)
                  have HB15 := Lib.hid hB15
                  clear hap hB15
                  go_wp2_with fail
                  go_roundw
                  case rel =>
                    refine ⟨j + 1, by omega, by go_num, HB15.out, fun i hi => ?_⟩
                    rcases Nat.lt_or_ge i j with h | h
                    · exact HAI.out i h
                    · have : i = j := by omega
                      subst this
                      exact HAP.out
                  case measure => simp [intOf]; omega
            · have hjk2 : j = k := by omega
              subst hjk2
              have u0 := (kept_of_below HBI.out).cell q0
              have u1 := (kept_of_below HBI.out).cell q1
              have u2 := (kept_of_below HBI.out).cell q2
              have u3 := (kept_of_below HBI.out).cell q3
              have u4 := (kept_of_below HBI.out).cell q4
              have u5 := (kept_of_below HBI.out).cell q5
              clear q0 q1 q2 q3 q4 q5
              have HWI := Lib.hid (own_below HW9.out HBI.out)
              have HBW := Lib.hid (HB9.out.trans (HBI.out.mono HB9.out.size))
              have hrec : recAt l j = ⟨⟨ta, tb, tc, td⟩, rat, rln⟩ := by rw [← et.out, ← HRA.out, ← HRL.out]
              have HREC := Lib.hid hrec
              clear hrec
              go_wp2_with (at_builtin; refine wpl_app rfl (.tmp 184) (.tmp 186) 49 rfl w.heap.size 77 Tryz.underlying49 info_tab rfl (by decide) (.slice A' j c') j (tbs (recs l j)) rfl (HWI.out.alloc _) (some ⟨wr.heap.size, 0, none⟩) 1 1 (Tb.cells ⟨⟨ta, tb, tc, td⟩, rat, rln⟩) rfl rfl (fun h => by cases h) ?c0 ?c4 ?c1 ?c2 ?c3 ?_; rotate_right; intro v' w' hown hg; obtain ⟨A2, c2, rfl⟩ := own_form hown)
              case c0 =>
                intro ad had k u hu
                cases had
                rw [add_lit]
                have hk : k < 6 := by
                  rcases Nat.lt_or_ge k 6 with h | h
                  · exact h
                  · rw [List.getElem?_eq_none (by exact h)] at hu
                    cases hu
                refine (cell_of_row _ wr.heap.size (0 + k) _ _ (0, 0) (heap_alloc_new wr _)).trans ?_
                rw [← hu, Nat.zero_add, ← Array.getElem?_toList]
                rfl
              case c4 => exact Tb.one _
              case c1 => unfold maxLen; omega
              case c2 => omega
              case c3 => simp; exact Nat.le_succ_of_le HBW.out.size
              have hone : tbs [(⟨⟨ta, tb, tc, td⟩, rat, rln⟩ : Tb)] = Tb.cells ⟨⟨ta, tb, tc, td⟩, rat, rln⟩ := by simp [tbs]
              rw [← hone, ← HREC.out, ← tbs_append, ← recs_succ] at hown
              have hb2 := below_grown (HBW.out.alloc HBW.out.size _) (HWI.out.alloc _) (by simp; exact Nat.le_succ_of_le HBW.out.size) hg
              have HO2 := Lib.hid hown
              have HB2 := Lib.hid hb2
              clear hown hb2 hg hone
              go_wp2
              go_roundw
              case rel =>
                refine ⟨j + 1, A2, c2, by omega, by go_num, rfl, HO2.out, HB2.out, fun i hi => ?_, fun i hi => ?_⟩
                · rcases Nat.lt_or_ge i j with h | h
                  · exact HR.out i h
                  · have : i = j := by omega
                    subst this
                    exact HRK.out
                · rcases Nat.lt_or_ge i j with h | h
                  · exact HA.out i h
                  · have : i = j := by omega
                    subst this
                    exact HAI.out
              case measure => simp [intOf]; omega
    · go_wp2
      go_ret2
      have hkn : k = n := by omega
      subst hkn
      show TabPost _ w _ _ _
      rw [tablesF_some HN.out ⟨f1, f2, f3, f4, HF5.out, f6⟩ HR.out HA.out]
      refine ⟨A', c', ?_, ?_, HB.out⟩
      · simp [recs_length]
      · rw [recs_length]; exact HW.out
end Go.Proofs.YtfbppbelcbbhlaaGreatDoor.Sf
