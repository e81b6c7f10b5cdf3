/- What a font begins with: sfnt.put, sfnt.head; calamusref04.Put, calamusref05.head. -/
import Derived.Test.YtfbppbelcbbhlaaDoorSfBytes
import Derived.Test.YtfbppbelcbbhlaaDoorSfShelf
namespace Go.Proofs.YtfbppbelcbbhlaaDoor.Sf
open Go Go.RowKit

/-- sfnt.put of numbers that fit. -/
theorem put_fits (A : Option Addr) (cap : Nat) (l : List Int) (s : ByteArray) (w : World) (out : List Nat) (h : IntsR .i64 w A cap l) (hl : l.length ≤ 16777216) (hs : l.length = s.size) (ho : putAll (planOf s l) = some out) :
    Calls Tryd.prog 42 #[.string s, .slice A l.length cap] w fun e w' =>
      ∃ A' c', e = .returned (.slice A' out.length c') ∧ w'.ownsRow w.heap.size 5 1 (.slice A' out.length c') out.length (u8s out) ∧ Below w.heap.size w w' := by
  have hp := put_any A cap l s w h hl hs
  rw [ho] at hp
  have HP := Lib.hid hp
  clear hp h hl hs ho
  go_enter Tryd.func42, Tryd.ntmps42
  go_wp2_with (go_at_call 59; refine HP.out.mono ?_; rintro e w' ⟨A', c', rfl, h1, h2⟩; have H1 := Lib.hid h1; have H2 := Lib.hid h2; clear h1 h2)
  go_ret
  exact ⟨A', c', rfl, H1.out, H2.out⟩

/-- The exponent of the greatest power of two not above n. -/
def lg (n : Nat) : Nat := Nat.log2 n
/-- A font's first bytes. -/
def headNums (n : Nat) : List Int := [65536, n, 16 * 2 ^ lg n, lg n, 16 * n - 16 * 2 ^ lg n]
def headB (n : Nat) : List Nat := be 65536 4 ++ be n 2 ++ be (16 * 2 ^ lg n) 2 ++ be (lg n) 2 ++ be (16 * n - 16 * 2 ^ lg n) 2
def IHHHH : ByteArray := ⟨#[73, 72, 72, 72, 72]⟩
theorem lg_facts (n : Nat) (h1 : 1 ≤ n) (h2 : n ≤ 64) : lg n ≤ 6 ∧ 2 ^ lg n ≤ n ∧ n < 2 * 2 ^ lg n ∧ Lib.bitLen n = lg n + 1 := by
  have : ∀ n : Fin 65, 1 ≤ n.val → lg n.val ≤ 6 ∧ 2 ^ lg n.val ≤ n.val ∧ n.val < 2 * 2 ^ lg n.val ∧ Lib.bitLen n.val = lg n.val + 1 := by decide +kernel
  exact this ⟨n, by omega⟩ h1
theorem putOne_H (n : Int) (h1 : 0 ≤ n) (h2 : n ≤ 65535) : putOne (72, n) = some (be n 2) := by
  have : letter 72 = some (2, 0, 65535) := rfl
  simp only [putOne, this]
  rw [if_pos ⟨h1, h2⟩]
theorem putOne_I (n : Int) (h1 : 0 ≤ n) (h2 : n ≤ 4294967295) : putOne (73, n) = some (be n 4) := by
  have : letter 73 = some (4, 0, 4294967295) := rfl
  simp only [putOne, this]
  rw [if_pos ⟨h1, h2⟩]
theorem headNums_put (n : Nat) (h1 : 1 ≤ n) (h2 : n ≤ 64) : putAll (planOf IHHHH (headNums n)) = some (headB n) := by
  obtain ⟨h3, h4, h5, _⟩ := lg_facts n h1 h2
  have e : planOf IHHHH (headNums n) = [(73, 65536), (72, (n : Int)), (72, 16 * 2 ^ lg n), (72, (lg n : Int)), (72, 16 * n - 16 * 2 ^ lg n)] := rfl
  have hp : ((2 ^ lg n : Nat) : Int) = 2 ^ lg n := by simp
  have a1 : putOne (73, 65536) = some (be 65536 4) := rfl
  have a2 : putOne (72, (n : Int)) = some (be n 2) := putOne_H _ (by omega) (by omega)
  have a3 : putOne (72, 16 * 2 ^ lg n) = some (be (16 * 2 ^ lg n) 2) := putOne_H _ (by omega) (by omega)
  have a4 : putOne (72, (lg n : Int)) = some (be (lg n) 2) := putOne_H _ (by omega) (by omega)
  have a5 : putOne (72, 16 * (n : Int) - 16 * 2 ^ lg n) = some (be (16 * n - 16 * 2 ^ lg n) 2) := putOne_H _ (by omega) (by omega)
  rw [e]
  simp only [putAll, a1, a2, a3, a4, a5, Option.bind_some, Option.map_some, headB, List.append_assoc, List.append_nil]

theorem head_ok (n : Nat) (w : World) (h1 : 1 ≤ n) (h2 : n ≤ 64) :
    Calls Tryd.prog 27 #[.int .i64 n] w fun e w' =>
      ∃ A' c', e = .returned (.slice A' (headB n).length c') ∧ w'.ownsRow w.heap.size 5 1 (.slice A' (headB n).length c') (headB n).length (u8s (headB n)) ∧ Below w.heap.size w w' := by
  obtain ⟨h3, h4, h5, h6⟩ := lg_facts n h1 h2
  have hl := (Tryd.bits_Len n w (by omega) (by omega)).mono (R' := fun e w' => e = .returned (.int .i64 (lg n + 1 : Nat)) ∧ w = w') fun _ _ ⟨a, b⟩ => ⟨by rw [a, Int.toNat_natCast, h6], b.symm⟩
  clear h6
  go_enter Tryd.func27, Tryd.ntmps27
  go_wp2_with (go_at_call 53; refine hl.mono ?_; rintro e w' ⟨rfl, rfl⟩)
  have hp : ((2 ^ lg n : Nat) : Int) = 2 ^ lg n := by simp
  have wr1 : IntKind.i64.wrap (16 * 2 ^ lg n) = 16 * 2 ^ lg n := IntWalk.i64_in _ (by omega)
  have wr2 : IntKind.i64.wrap (16 * (n : Int)) = 16 * (n : Int) := IntWalk.i64_in _ (by omega)
  have wr3 : IntKind.i64.wrap (16 * (n : Int) - 16 * 2 ^ lg n) = 16 * (n : Int) - 16 * 2 ^ lg n := IntWalk.i64_in _ (by omega)
  have hI : IntsR .i64 (w.alloc (Obj.cells #[.int .i64 65536, .int .i64 n, .int .i64 (16 * 2 ^ lg n), .int .i64 (lg n), .int .i64 (16 * n - 16 * 2 ^ lg n)] 2)).drew (some ⟨w.heap.size, 0, none⟩) 5 (headNums n) :=
    (intsR_new .i64 w (headNums n) 2 (by simp [headNums])).drew
  have HC := Lib.hid (put_fits (some ⟨w.heap.size, 0, none⟩) 5 (headNums n) IHHHH _ (headB n) hI (by simp [headNums]) rfl (headNums_put n h1 h2))
  clear hI hp
  go_region_with (go_at_call 42; refine HC.out.mono ?_; rintro e w' ⟨A', c', rfl, g1, g2⟩; have G1 := Lib.hid g1; have G2 := Lib.hid g2; clear g1 g2)
  all_goals
    go_wp2
    go_ret
    have G3 := G1.out
    have G4 := G2.out
    simp only [World.size_alloc, World.size_drew] at G3 G4
    exact ⟨A', c', rfl, own_lower G3 (by omega), (((Below.refl _ _).alloc (Nat.le_refl _) _).drew).trans (G4.mono (by omega))⟩
end Go.Proofs.YtfbppbelcbbhlaaDoor.Sf
