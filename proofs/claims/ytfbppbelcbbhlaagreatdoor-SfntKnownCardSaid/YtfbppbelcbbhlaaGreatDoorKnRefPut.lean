import Derived.Test.YtfbppbelcbbhlaaGreatDoorKnBytes
import Derived.Test.YtfbppbelcbbhlaaGreatDoorKnShelf
import Derived.Deep.QuietTactic
import Derived.BigQuiet

/- What a font begins with: sfnt.put, sfnt.head; calamusref04.Put, calamusref05.head. -/
namespace Go.Proofs.YtfbppbelcbbhlaaGreatDoor.Sf
open Go Go.RowKit

/-- sfnt.put of numbers that fit. -/
theorem put_fits (A : Option Addr) (cap : Nat) (l : List Int) (s : ByteArray) (w : World) (out : List Nat) (h : IntsR .i64 w A cap l) (hl : l.length ≤ 16777216) (hs : l.length = s.size) (ho : putAll (planOf s l) = some out) :
    Calls Tryz.prog 35 #[.string s, .slice A l.length cap] w fun e w' =>
      ∃ A' c', e = .returned (.slice A' out.length c') ∧ w'.ownsRow w.heap.size 5 1 (.slice A' out.length c') out.length (u8s out) ∧ Below w.heap.size w w' := by
  have hp := put_any A cap l s w h hl hs
  rw [ho] at hp
  have HP := Lib.hid hp
  clear hp h hl hs ho
  go_enter Tryz.func35, Tryz.ntmps35
  go_wp2_with (go_at_call 62; refine HP.out.mono ?_; rintro e w' ⟨A', c', rfl, h1, h2⟩; have H1 := Lib.hid h1; have H2 := Lib.hid h2; clear h1 h2)
  go_ret
  exact ⟨A', c', rfl, H1.out, H2.out⟩

/-- The exponent of the greatest power of two not above n. -/
def lg (n : Nat) : Nat := Nat.log2 n
/-- A font's first bytes. -/
def headNums (n : Nat) : List Int := [65536, n, 16 * 2 ^ lg n, lg n, 16 * n - 16 * 2 ^ lg n]
def headB (n : Nat) : List Nat := be 65536 4 ++ be n 2 ++ be (16 * 2 ^ lg n) 2 ++ be (lg n) 2 ++ be (16 * n - 16 * 2 ^ lg n) 2
def IHHHH : ByteArray := ⟨#[73, 72, 72, 72, 72]⟩
theorem lg_facts (n : Nat) (h1 : 1 ≤ n) (h2 : n ≤ 64) : lg n ≤ 6 ∧ 2 ^ lg n ≤ n ∧ n < 2 * 2 ^ lg n ∧ Lib.bitLen n = lg n + 1 := by
  have : ∀ n : Fin 65, 1 ≤ n.val → lg n.val ≤ 6 ∧ 2 ^ lg n.val ≤ n.val ∧ n.val < 2 * 2 ^ lg n.val ∧ Lib.bitLen n.val = lg n.val + 1 := by decide +kernel
  exact this ⟨n, by omega⟩ h1
theorem putOne_H (n : Int) (h1 : 0 ≤ n) (h2 : n ≤ 65535) : putOne (72, n) = some (be n 2) := by
  have : letter 72 = some (2, 0, 65535) := rfl
  simp only [putOne, this]
  rw [if_pos ⟨h1, h2⟩]
theorem putOne_I (n : Int) (h1 : 0 ≤ n) (h2 : n ≤ 4294967295) : putOne (73, n) = some (be n 4) := by
  have : letter 73 = some (4, 0, 4294967295) := rfl
  simp only [putOne, this]
  rw [if_pos ⟨h1, h2⟩]
theorem headNums_put (n : Nat) (h1 : 1 ≤ n) (h2 : n ≤ 64) : putAll (planOf IHHHH (headNums n)) = some (headB n) := by
  obtain ⟨h3, h4, h5, _⟩ := lg_facts n h1 h2
  have e : planOf IHHHH (headNums n) = [(73, 65536), (72, (n : Int)), (72, 16 * 2 ^ lg n), (72, (lg n : Int)), (72, 16 * n - 16 * 2 ^ lg n)] := rfl
  have hp : ((2 ^ lg n : Nat) : Int) = 2 ^ lg n := by simp
  have a1 : putOne (73, 65536) = some (be 65536 4) := rfl
  have a2 : putOne (72, (n : Int)) = some (be n 2) := putOne_H _ (by omega) (by omega)
  have a3 : putOne (72, 16 * 2 ^ lg n) = some (be (16 * 2 ^ lg n) 2) := putOne_H _ (by omega) (by omega)
  have a4 : putOne (72, (lg n : Int)) = some (be (lg n) 2) := putOne_H _ (by omega) (by omega)
  have a5 : putOne (72, 16 * (n : Int) - 16 * 2 ^ lg n) = some (be (16 * n - 16 * 2 ^ lg n) 2) := putOne_H _ (by omega) (by omega)
  rw [e]
  simp only [putAll, a1, a2, a3, a4, a5, Option.bind_some, Option.map_some, headB, List.append_assoc, List.append_nil]

theorem head_ok (n : Nat) (w : World) (h1 : 1 ≤ n) (h2 : n ≤ 64) :
    Calls Tryz.prog 34 #[.int .i64 n] w fun e w' =>
      ∃ A' c', e = .returned (.slice A' (headB n).length c') ∧ w'.ownsRow w.heap.size 5 1 (.slice A' (headB n).length c') (headB n).length (u8s (headB n)) ∧ Below w.heap.size w w' := by
  obtain ⟨h3, h4, h5, h6⟩ := lg_facts n h1 h2
  have hl := (Tryz.bits_Len n w (by omega) (by omega)).mono (R' := fun e w' => e = .returned (.int .i64 (lg n + 1 : Nat)) ∧ w = w') fun _ _ ⟨a, b⟩ => ⟨by rw [a, Int.toNat_natCast, h6], b.symm⟩
  clear h6
  go_enter Tryz.func34, Tryz.ntmps34
  go_wp2_with (go_at_call 61; refine hl.mono ?_; rintro e w' ⟨rfl, rfl⟩)
  have hp : ((2 ^ lg n : Nat) : Int) = 2 ^ lg n := by simp
  have wr1 : IntKind.i64.wrap (16 * 2 ^ lg n) = 16 * 2 ^ lg n := IntWalk.i64_in _ (by omega)
  have wr2 : IntKind.i64.wrap (16 * (n : Int)) = 16 * (n : Int) := IntWalk.i64_in _ (by omega)
  have wr3 : IntKind.i64.wrap (16 * (n : Int) - 16 * 2 ^ lg n) = 16 * (n : Int) - 16 * 2 ^ lg n := IntWalk.i64_in _ (by omega)
  have hI : IntsR .i64 (w.alloc (Obj.cells #[.int .i64 65536, .int .i64 n, .int .i64 (16 * 2 ^ lg n), .int .i64 (lg n), .int .i64 (16 * n - 16 * 2 ^ lg n)] 2)).drew (some ⟨w.heap.size, 0, none⟩) 5 (headNums n) :=
    (intsR_new .i64 w (headNums n) 2 (by simp [headNums])).drew
  have HC := Lib.hid (put_fits (some ⟨w.heap.size, 0, none⟩) 5 (headNums n) IHHHH _ (headB n) hI (by simp [headNums]) rfl (headNums_put n h1 h2))
  clear hI hp
  go_region_with (go_at_call 35; refine HC.out.mono ?_; rintro e w' ⟨A', c', rfl, g1, g2⟩; have G1 := Lib.hid g1; have G2 := Lib.hid g2; clear g1 g2)
  all_goals
    go_wp2
    go_ret
    have G3 := G1.out
    have G4 := G2.out
    simp only [World.size_alloc, World.size_drew] at G3 G4
    exact ⟨A', c', rfl, own_lower G3 (by omega), (((Below.refl _ _).alloc (Nat.le_refl _) _).drew).trans (G4.mono (by omega))⟩
end Go.Proofs.YtfbppbelcbbhlaaGreatDoor.Sf

/- calamusref04.Put: the same bytes. -/
namespace Go.Proofs.YtfbppbelcbbhlaaGreatDoor.Sf
open Go Go.RowKit

def fitsB (c : Nat) (n : Int) : Bool := match letter c with
  | some (_, lo, hi) => decide (lo ≤ n ∧ n ≤ hi)
  | none => false
theorem fits_ok (c : Nat) (n : Int) (w : World) :
    Calls Tryz.prog 30 #[.int .u8 c, .int .i64 n] w fun e w' => e = .returned (.bool (fitsB c n)) ∧ w = w' := by
  by_cases c98 : c = 98
  · subst c98
    have hp : fitsB 98 n = decide (0 ≤ n ∧ n ≤ 255) := rfl
    by_cases h1 : 0 ≤ n
    · by_cases h2 : n ≤ 255
      · have hv := Lib.hid (show fitsB 98 n = true by rw [hp]; simp [h1, h2])
        clear hp
        go_enter Tryz.func30, Tryz.ntmps30
        go_wp2
        go_ret
        exact ⟨by rw [hv.out]; rfl, rfl⟩
      · have hv := Lib.hid (show fitsB 98 n = false by rw [hp]; simp [h2])
        clear hp
        go_enter Tryz.func30, Tryz.ntmps30
        go_wp2
        go_ret
        exact ⟨by rw [hv.out]; rfl, rfl⟩
    · have hv := Lib.hid (show fitsB 98 n = false by rw [hp]; simp [h1])
      clear hp
      go_enter Tryz.func30, Tryz.ntmps30
      go_wp2
      go_ret
      exact ⟨by rw [hv.out]; rfl, rfl⟩
  · skip
    by_cases c72 : c = 72
    · subst c72
      have hp : fitsB 72 n = decide (0 ≤ n ∧ n ≤ 65535) := rfl
      by_cases h1 : 0 ≤ n
      · by_cases h2 : n ≤ 65535
        · have hv := Lib.hid (show fitsB 72 n = true by rw [hp]; simp [h1, h2])
          clear hp
          go_enter Tryz.func30, Tryz.ntmps30
          go_wp2
          go_ret
          exact ⟨by rw [hv.out]; rfl, rfl⟩
        · have hv := Lib.hid (show fitsB 72 n = false by rw [hp]; simp [h2])
          clear hp
          go_enter Tryz.func30, Tryz.ntmps30
          go_wp2
          go_ret
          exact ⟨by rw [hv.out]; rfl, rfl⟩
      · have hv := Lib.hid (show fitsB 72 n = false by rw [hp]; simp [h1])
        clear hp
        go_enter Tryz.func30, Tryz.ntmps30
        go_wp2
        go_ret
        exact ⟨by rw [hv.out]; rfl, rfl⟩
    · skip
      by_cases c104 : c = 104
      · subst c104
        have hp : fitsB 104 n = decide (-32768 ≤ n ∧ n ≤ 32767) := rfl
        by_cases h1 : -32768 ≤ n
        · by_cases h2 : n ≤ 32767
          · have hv := Lib.hid (show fitsB 104 n = true by rw [hp]; simp [h1, h2])
            clear hp
            go_enter Tryz.func30, Tryz.ntmps30
            go_wp2
            go_ret
            exact ⟨by rw [hv.out]; rfl, rfl⟩
          · have hv := Lib.hid (show fitsB 104 n = false by rw [hp]; simp [h2])
            clear hp
            go_enter Tryz.func30, Tryz.ntmps30
            go_wp2
            go_ret
            exact ⟨by rw [hv.out]; rfl, rfl⟩
        · have hv := Lib.hid (show fitsB 104 n = false by rw [hp]; simp [h1])
          clear hp
          go_enter Tryz.func30, Tryz.ntmps30
          go_wp2
          go_ret
          exact ⟨by rw [hv.out]; rfl, rfl⟩
      · skip
        by_cases c73 : c = 73
        · subst c73
          have hp : fitsB 73 n = decide (0 ≤ n ∧ n ≤ 4294967295) := rfl
          by_cases h1 : 0 ≤ n
          · by_cases h2 : n ≤ 4294967295
            · have hv := Lib.hid (show fitsB 73 n = true by rw [hp]; simp [h1, h2])
              clear hp
              go_enter Tryz.func30, Tryz.ntmps30
              go_wp2
              go_ret
              exact ⟨by rw [hv.out]; rfl, rfl⟩
            · have hv := Lib.hid (show fitsB 73 n = false by rw [hp]; simp [h2])
              clear hp
              go_enter Tryz.func30, Tryz.ntmps30
              go_wp2
              go_ret
              exact ⟨by rw [hv.out]; rfl, rfl⟩
          · have hv := Lib.hid (show fitsB 73 n = false by rw [hp]; simp [h1])
            clear hp
            go_enter Tryz.func30, Tryz.ntmps30
            go_wp2
            go_ret
            exact ⟨by rw [hv.out]; rfl, rfl⟩
        · skip
          have hv := Lib.hid (show fitsB c n = false by simp [fitsB, letter, c98, c72, c104, c73])
          go_enter Tryz.func30, Tryz.ntmps30
          go_wp2
          go_ret
          exact ⟨by rw [hv.out]; rfl, rfl⟩

theorem size_ok (c s : Nat) (lo hi : Int) (w : World) (h : letter c = some (s, lo, hi)) :
    Calls Tryz.prog 31 #[.int .u8 c] w fun e w' => e = .returned (.int .i64 s) ∧ w = w' := by
  unfold letter at h
  by_cases c98 : c = 98
  · subst c98
    cases h
    go_enter Tryz.func31, Tryz.ntmps31
    go_wp2
    go_ret
    exact ⟨rfl, rfl⟩
  · rw [if_neg c98] at h
    by_cases c72 : c = 72
    · subst c72
      cases h
      go_enter Tryz.func31, Tryz.ntmps31
      go_wp2
      go_ret
      exact ⟨rfl, rfl⟩
    · rw [if_neg c72] at h
      by_cases c104 : c = 104
      · subst c104
        cases h
        go_enter Tryz.func31, Tryz.ntmps31
        go_wp2
        go_ret
        exact ⟨rfl, rfl⟩
      · rw [if_neg c104] at h
        by_cases c73 : c = 73
        · subst c73
          cases h
          go_enter Tryz.func31, Tryz.ntmps31
          go_wp2
          go_ret
          exact ⟨rfl, rfl⟩
        · rw [if_neg c73] at h; cases h

theorem be_wrap (n : Int) (s j : Nat) (hs : s ≤ 4) (hj : j < s) : (n % 4294967296) / 2 ^ (8 * (s - 1 - j)) % 256 = n / 2 ^ (8 * (s - 1 - j)) % 256 := by
  have h : s - 1 - j = 0 ∨ s - 1 - j = 1 ∨ s - 1 - j = 2 ∨ s - 1 - j = 3 := by omega
  rcases h with h | h | h | h <;> rw [h] <;> simp <;> omega

theorem fitsB_none {c : Nat} {n : Int} (h : fitsB c n = false) : putOne (c, n) = none := by
  unfold fitsB at h
  unfold putOne
  simp only
  split at h
  · rename_i s lo hi hl
    rw [hl]
    simp only
    rw [if_neg (by simpa using h)]
  · rename_i hl
    rw [hl]
theorem fitsB_some {c : Nat} {n : Int} (h : fitsB c n = true) : ∃ s lo hi, letter c = some (s, lo, hi) ∧ putOne (c, n) = some (be n s) := by
  unfold fitsB at h
  unfold putOne
  simp only
  split at h
  · rename_i s lo hi hl
    rw [hl]
    simp only
    exact ⟨s, lo, hi, rfl, if_pos (by simpa using h)⟩
  · cases h

set_option maxHeartbeats 4000000 in
theorem put_ref (A : Option Addr) (cap : Nat) (l : List Int) (s : ByteArray) (w : World) (h : IntsR .i64 w A cap l) (hl : l.length ≤ 16777216) (hs : l.length = s.size) :
    Calls Tryz.prog 13 #[.slice A l.length cap, .string s] w fun e w' => PutPost w (putAll (planOf s l)) e w' := by
  have H := Lib.hid h
  have hle := h.le
  have hmax := h.max
  have hs' : ((l.length : Int) != (s.size : Int)) = false := by simp [hs]
  have HS := Lib.hid hs
  clear h hs
  go_enter Tryz.func13, Tryz.ntmps13
  go_wp2
  go_loopw [6, 7] (fun v i wr => ∃ (k : Nat) (out : List Nat) (A' : Option Addr) (c' : Nat), k ≤ l.length ∧ i = .int .i64 k ∧ v = .slice A' out.length c' ∧ putAll ((planOf s l).take k) = some out ∧ wr.ownsRow w.heap.size 5 1 (.slice A' out.length c') out.length (u8s out) ∧ Below w.heap.size w wr) (fun _ i _ => l.length - (intOf i).toNat)
  case atStart => exact ⟨0, [], none, 0, by omega, rfl, rfl, rfl, World.ownsRow_nil _ _ _ _, Below.refl _ _⟩
  case round =>
    obtain ⟨k, out, A', c', hk, rfl, rfl, hput, hown, hbel⟩ := hrel
    have hol := (putAll_length hput).1
    rw [List.length_take] at hol
    have hol2 : out.length ≤ 100000000 := by omega
    have HP := Lib.hid hput
    have HW := Lib.hid hown
    have HB := Lib.hid hbel
    have hsz := hbel.size
    clear hput hown hbel hol
    by_cases hlt : k < l.length
    · have hks : k < s.size := by have := HS.out; omega
      obtain ⟨b, bo, rfl, hc⟩ := H.out.cells (by omega)
      have hcell := (kept_of_below HB.out).cell (hc k hlt)
      have HT := Lib.hid (planOf_take s l k hks hlt)
      clear hc
      generalize hn : l.getD k 0 = n at *
      clear hn
      cases hfit : fitsB s[k].toNat n with
      | false =>
        have hfail : putAll ((planOf s l).take (k + 1)) = none := by
          rw [HT.out, putAll_snoc, HP.out, fitsB_none hfit]
          rfl
        have HF := Lib.hid (putAll_fail _ _ hfail)
        have HY := Lib.hid (fun W => (fits_ok s[k].toNat n W).mono (R' := fun e w' => e = .returned (.bool false) ∧ w' = W) fun _ _ ⟨a, b⟩ => ⟨by rw [a, hfit], b.symm⟩)
        clear hfit hfail
        go_wp2_with fail
        go_quiet ((go_at_call 30; exact Calls.quiet_of_same (HY.out _)))
        go_wp2
        go_ret2
        show PutPost w _ _ _
        rw [HF.out]
        exact ⟨rfl, below_drewN' HB.out _⟩
      | true =>
        have HY := Lib.hid (fun W => (fits_ok s[k].toNat n W).mono (R' := fun e w' => e = .returned (.bool true) ∧ w' = W) fun _ _ ⟨a, b⟩ => ⟨by rw [a, hfit], b.symm⟩)
        obtain ⟨sz, lo, hi, hlet, hone⟩ := fitsB_some hfit
        have HZ := Lib.hid (fun W => size_ok s[k].toNat sz lo hi W hlet)
        have hsz4 := letter_le hlet
        have HL := Lib.hid hone
        clear hfit hlet hone
        go_wp2_with fail
        go_quiet ((go_at_call 30; exact Calls.quiet_of_same (HY.out _)))
        go_wp2_with (go_at_call 31; refine (HZ.out _).mono ?_; rintro e w' ⟨rfl, rfl⟩)
        have HB1 := Lib.hid (below_drewN' HB.out nq)
        have HW1 := Lib.hid (own_drewN HW.out nq)
        have hcell1 : (wr.drewN nq).cell? ⟨b, bo + k, none⟩ = some (.int .i64 n) := hcell
        have hsz1 : w.heap.size ≤ (wr.drewN nq).heap.size := hsz
        clear hcell hsz
        generalize wr.drewN nq = wo at *
        have hok : putAll ((planOf s l).take (k + 1)) = some (out ++ be n sz) := by
          rw [HT.out, putAll_snoc, HP.out, HL.out]
          rfl
        have HOK := Lib.hid hok
        clear hok
        go_loopw [6, 9] (fun v i wr => ∃ (j : Nat) (A2 : Option Addr) (c2 : Nat), j ≤ sz ∧ i = .int .i64 ((sz : Int) - 1 - j) ∧ v = .slice A2 (out ++ beTo n sz j).length c2 ∧ wr.ownsRow w.heap.size 5 1 (.slice A2 (out ++ beTo n sz j).length c2) (out ++ beTo n sz j).length (u8s (out ++ beTo n sz j)) ∧ Below w.heap.size w wr) (fun _ i _ => (intOf i + 1).toNat)
        case atStart => exact ⟨0, A', c', by omega, by simp, by simp [beTo], by simpa [beTo] using HW1.out, HB1.out⟩
        case round =>
          obtain ⟨j, A2, c2, hj, rfl, rfl, hown, hbel⟩ := hrel
          have hlen : (out ++ beTo n sz j).length ≤ 140737488355010 := by rw [List.length_append, beTo_length]; omega
          have HS2 := Lib.hid (beTo_snoc n sz j)
          have HB2 := Lib.hid hbel
          have HW2 := Lib.hid hown
          clear hbel hown
          generalize hL : out ++ beTo n sz j = L at *
          have HL2 := Lib.hid hL
          clear hL
          by_cases hlt2 : j < sz
          · have hbs := HB2.out.size
            have hX : ((((n / 2 ^ (8 * (sz - 1 - j))) % 256).toNat : Nat) : Int) = (n % 4294967296) / 2 ^ (8 * (sz - 1 - j)) % 256 :=
              (Int.toNat_of_nonneg (Int.emod_nonneg _ (by decide))).trans (be_wrap n sz j hsz4 hlt2).symm
            have HX := Lib.hid hX
            clear hX
            go_wp2_with (at_builtin; refine wpl_app rfl (.tmp 47) (.tmp 53) 25 rfl w.heap.size 5 Tryz.underlying25 info_u8 rfl (by decide) (.slice A2 L.length c2) L.length (u8s L) rfl (HW2.out.alloc _) (some ⟨wr.heap.size, 0, none⟩) 1 1 (u8s [((n / 2 ^ (8 * (sz - 1 - j))) % 256).toNat]) rfl rfl (fun h => by cases h) ?c0 (u8s_one _) ?c1 ?c2 ?c3 ?_; rotate_right; intro v' w' hown hg; obtain ⟨A3, c3, rfl⟩ := own_form hown)
            case c0 =>
              intro ad had k u hu
              cases had
              obtain ⟨hk, rfl⟩ := u8s_at hu
              have hk0 : k = 0 := by simpa using hk
              subst hk0
              rw [add_lit]
              refine (cell_of_row _ wr.heap.size (0 + 0) _ _ (0, 0) (heap_alloc_new wr _)).trans ?_
              exact congrArg (fun z => some (Value.int IntKind.u8 z)) HX.out.symm
            case c1 => unfold maxLen; omega
            case c2 => omega
            case c3 => simp; omega
            rw [← u8s_append] at hown
            have hb2 := below_grown (HB2.out.alloc (by omega) _) (HW2.out.alloc _) (by simp; omega) hg
            have hL2 : L ++ [((n / 2 ^ (8 * (sz - 1 - j))) % 256).toNat] = out ++ beTo n sz (j + 1) := by rw [HS2.out, ← HL2.out, List.append_assoc]
            have HL3 := Lib.hid hL2
            have HO3 := Lib.hid hown
            have HB3 := Lib.hid hb2
            clear hL2 hown hb2 hg
            go_wp2
            go_roundw
            case rel =>
              refine ⟨j + 1, A3, c3, by omega, by congr 1; omega, ?_, ?_, HB3.out⟩
              · rw [← HL3.out]; simp
              · rw [← HL3.out]; simpa using HO3.out
            case measure => simp [intOf]; omega
          · go_wp2
            have hjs : j = sz := by omega
            subst hjs
            go_roundw
            case rel =>
              have e : out ++ be n j = L := HL2.out
              refine ⟨k + 1, out ++ be n j, A2, c2, by omega, by go_num, ?_, HOK.out, ?_, HB2.out⟩
              · rw [e]
              · rw [e]; exact HW2.out
            case measure => simp [intOf]; omega
    · go_wp2
      go_ret2
      have hkl : k = l.length := by omega
      subst hkl
      have hp := HP.out
      rw [List.take_of_length_le (by simp only [planOf, List.length_zip]; omega)] at hp
      show PutPost w _ _ _
      rw [hp]
      exact ⟨A', c', rfl, HW.out, HB.out⟩

theorem pow_lg_unique {n e : Nat} (h1 : 1 ≤ n) (h2 : n ≤ 64) (h3 : 2 ^ e ≤ n) (h4 : n < 2 * 2 ^ e) : e = lg n := by
  obtain ⟨_, h5, h6, _⟩ := lg_facts n h1 h2
  rcases Nat.lt_trichotomy e (lg n) with h | h | h
  · have := Nat.pow_le_pow_right (show 0 < 2 by decide) h
    rw [Nat.pow_succ] at this
    omega
  · exact h
  · have := Nat.pow_le_pow_right (show 0 < 2 by decide) h
    rw [Nat.pow_succ] at this
    omega

theorem power_ok (n : Nat) (w : World) (h1 : 1 ≤ n) (h2 : n ≤ 64) :
    Calls Tryz.prog 32 #[.int .i64 n] w fun e w' => e = .returned (.tuple #[.int .i64 (2 ^ lg n : Nat), .int .i64 (lg n : Nat)]) ∧ w = w' := by
  go_enter Tryz.func32, Tryz.ntmps32
  go_wp2
  go_loop [4, 5] (fun p i => ∃ (e q : Nat), e ≤ 6 ∧ Hid (q = 2 ^ e) ∧ q ≤ n ∧ i = .int .i64 e ∧ p = .int .i64 q) (fun _ i => 7 - (intOf i).toNat)
  case atStart => exact ⟨0, 1, by omega, rfl, by omega, rfl, rfl⟩
  case round =>
    obtain ⟨e, q, he, hq, hle, rfl, rfl⟩ := hrel
    by_cases hlt : 2 * q ≤ n
    · have he5 : e ≤ 5 := by
        rcases Nat.lt_or_ge e 6 with h | h
        · omega
        · have e6 : e = 6 := by omega
          have hq' : q = 2 ^ e := hq
          rw [e6] at hq'
          omega
      have hq2 := Lib.hid (show 2 * q = 2 ^ (e + 1) by rw [Nat.pow_succ, show q = 2 ^ e from hq]; omega)
      go_wp2
      go_round
      case rel => exact ⟨e + 1, 2 * q, by omega, hq2.out, hlt, by go_num, by go_num⟩
      case measure => simp [intOf]; omega
    · go_wp2
      go_ret2
      have hq' : q = 2 ^ e := hq
      have hl := pow_lg_unique h1 h2 (by omega) (by omega : n < 2 * 2 ^ e)
      subst hl
      subst hq'
      exact ⟨rfl, rfl⟩

theorem head_okR (n : Nat) (w : World) (h1 : 1 ≤ n) (h2 : n ≤ 64) :
    Calls Tryz.prog 14 #[.int .i64 n] w fun e w' =>
      ∃ A' c', e = .returned (.slice A' (headB n).length c') ∧ w'.ownsRow w.heap.size 5 1 (.slice A' (headB n).length c') (headB n).length (u8s (headB n)) ∧ Below w.heap.size w w' := by
  obtain ⟨h3, h4, h5, _⟩ := lg_facts n h1 h2
  obtain ⟨q, hq⟩ : ∃ q : Nat, q = 2 ^ lg n := ⟨_, rfl⟩
  have hl := power_ok n w h1 h2
  have e : headNums n = [65536, (n : Int), 16 * (q : Int), (lg n : Nat), 16 * (n : Int) - 16 * (q : Int)] := by
    unfold headNums
    rw [hq]
    simp
  have hI := intsR_new .i64 w (headNums n) 2 (by simp [headNums])
  have hp := put_ref (some ⟨w.heap.size, 0, none⟩) 5 (headNums n) IHHHH _ hI (by simp [headNums]) rfl
  rw [headNums_put n h1 h2] at hp
  rw [e] at hp
  rw [← hq] at hl h4 h5
  have HC := Lib.hid hp
  clear hI hp hq e
  go_enter Tryz.func14, Tryz.ntmps14
  go_wp2_with (go_at_call 32; refine hl.mono ?_; rintro e w' ⟨rfl, rfl⟩)
  go_wp2_with (go_at_call 13; refine HC.out.mono ?_; rintro e w' ⟨A', c', rfl, g1, g2⟩; have G1 := Lib.hid g1; have G2 := Lib.hid g2; clear g1 g2)
  go_ret
  have G3 := G1.out
  have G4 := G2.out
  simp only [World.size_alloc] at G3 G4
  exact ⟨A', c', rfl, own_lower G3 (by omega), ((Below.refl _ _).alloc (Nat.le_refl _) _).trans (G4.mono (by omega))⟩
end Go.Proofs.YtfbppbelcbbhlaaGreatDoor.Sf
