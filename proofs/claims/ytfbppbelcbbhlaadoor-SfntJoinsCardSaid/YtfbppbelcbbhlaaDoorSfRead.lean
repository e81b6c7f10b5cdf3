/- The reader of numbers (bin.Reader): what each method comes to on bytes that are all there. -/
import Derived.Test.YtfbppbelcbbhlaaDoorProg
import Derived.Test.YtfbppbelcbbhlaaDoorProg
import Derived.Test.YtfbppbelcbbhlaaDoorSfWords
namespace Go.Proofs.YtfbppbelcbbhlaaDoor.Sf
open Go Go.RowKit

/-- The bytes from a place on, as a number (the highest byte first; 32 bits). -/
def numF (l : List Nat) : Nat := l.foldl (fun x c => (x * 256 + c) % 4294967296) 0

theorem row_in (a o : Nat) (b bo : Nat) (len cap : Nat) (at_ n : Nat) (w : World)
    (h1 : w.cell? ⟨a, o + 1, none⟩ = some (.slice (some ⟨b, bo, none⟩) len cap))
    (hle : at_ + n ≤ len) (hc : len ≤ cap) (hm : cap ≤ 9223372036854775807) :
    Calls Tryd.prog 62 #[.pointer (some ⟨a, o, none⟩), .int .i64 at_, .int .i64 n] w fun e w' =>
      (∃ A, e = .returned (.tuple #[.slice A n (cap - at_), .bool true]) ∧ (0 < n → A = some ⟨b, bo + at_, none⟩)) ∧ w = w' := by
  go_enter Tryd.func62, Tryd.ntmps62
  go_wp2
  all_goals
    go_ret2
    refine ⟨⟨_, rfl, ?_⟩, rfl⟩
    intro hn
    first | rfl | (exfalso; omega)

/-- The bytes that are asked, as a number. -/
def numAt (l : List Nat) (at_ n : Nat) : Nat := numF ((l.drop at_).take n)

theorem numF_snoc (l : List Nat) (c : Nat) : numF (l ++ [c]) = (numF l * 256 + c) % 4294967296 := by
  simp [numF, List.foldl_append]
theorem numF_lt (l : List Nat) : numF l < 4294967296 := by
  rcases List.eq_nil_or_concat l with rfl | ⟨l', c, rfl⟩
  · simp [numF]
  · rw [List.concat_eq_append, numF_snoc]; omega

theorem take_snoc {α : Type} (l : List α) (k : Nat) (d : α) (h : k < l.length) : l.take (k + 1) = l.take k ++ [l.getD k d] := by
  rw [List.take_succ_eq_append_getElem h]; simp [List.getD, h]

theorem or_u32 (q c : Nat) (hc : c < 256) : bits .or .u32 ((q : Int) * 256 % 4294967296) c = (((q * 256 + c) % 4294967296 : Nat) : Int) := by
  have e : ((q : Int) * 256 % 4294967296) = ((q * 256 % 4294967296 : Nat) : Int) := by omega
  rw [e, u32_or_nat _ _ (by omega) (by omega)]
  have e2 : q * 256 % 4294967296 = (q % 16777216) <<< 8 := by rw [Nat.shiftLeft_eq]; omega
  rw [e2, ← Nat.shiftLeft_add_eq_or_of_lt (by omega), Nat.shiftLeft_eq]
  congr 1
  omega

set_option maxHeartbeats 400000 in
theorem number_in (a o : Nat) (b bo : Nat) (cap : Nat) (l : List Nat) (at_ n : Nat) (w : World)
    (h1 : w.cell? ⟨a, o + 1, none⟩ = some (.slice (some ⟨b, bo, none⟩) l.length cap))
    (hb : ByteCells w b bo l) (h255 : ∀ x ∈ l, x < 256)
    (hn : 0 < n) (hle : at_ + n ≤ l.length) (hc : l.length ≤ cap) (hm : cap ≤ 9223372036854775807) :
    Calls Tryd.prog 52 #[.pointer (some ⟨a, o, none⟩), .int .i64 at_, .int .i64 n] w fun e w' =>
      e = .returned (.int .u32 (numAt l at_ n : Nat)) ∧ w = w' := by
  go_enter Tryd.func52, Tryd.ntmps52
  go_wp2_with (go_at_call 62; refine (row_in a o b bo l.length cap at_ n _ h1 hle hc hm).mono ?_; rintro e w' ⟨⟨A, rfl, hA⟩, rfl⟩; obtain rfl := hA hn; clear hA)
  go_loop [7, 11, 21] (fun x _ i => ∃ k : Nat, k ≤ n ∧ i = .int .i64 k ∧ x = .int .u32 (numAt l at_ k : Nat)) (fun _ _ i => n - (intOf i).toNat)
  case atStart => exact ⟨0, Nat.zero_le _, rfl, rfl⟩
  case round =>
    obtain ⟨k, hk, rfl, rfl⟩ := hrel
    by_cases hlt : k < n
    · have hcell := hb (at_ + k) (by omega)
      rw [← Nat.add_assoc] at hcell
      have h0 : l.getD (at_ + k) 0 < 256 := by
        have hm' : l.getD (at_ + k) 0 ∈ l := by simp [List.getD, show at_ + k < l.length from by omega]
        exact h255 _ hm'
      have hlt2 := numF_lt ((l.drop at_).take k)
      have hs : numAt l at_ (k + 1) = (numAt l at_ k * 256 + l.getD (at_ + k) 0) % 4294967296 := by
        unfold numAt
        rw [take_snoc _ k 0 (by simp; omega), numF_snoc]
        congr 2
        simp [List.getD]
      have HS := Lib.hid hs
      clear hs
      generalize l.getD (at_ + k) 0 = c at *
      generalize hq : numAt l at_ k = q at *
      clear hb h255
      go_wp2
      go_round
      case rel => exact ⟨k + 1, by omega, by go_num, by rw [HS.out, or_u32 q c h0]⟩
      case measure => simp [intOf]; omega
    · go_wp2
      go_ret
      have hkn : k = n := by omega
      subst hkn
      exact ⟨rfl, rfl⟩
theorem numAt_two (l : List Nat) (i : Nat) (h255 : ∀ x ∈ l, x < 256) (h : i + 2 ≤ l.length) : numAt l i 2 = l.getD i 0 * 256 + l.getD (i + 1) 0 := by
  have e : (l.drop i).take 2 = [l.getD i 0, l.getD (i + 1) 0] := by
    apply List.ext_getElem
    · simp; omega
    · intro j h1 h2
      have : j = 0 ∨ j = 1 := by simp at h2; omega
      rcases this with rfl | rfl <;> simp [List.getD, show i < l.length from by omega, show i + 1 < l.length from by omega]
  have m0 : l.getD i 0 ∈ l := by simp [List.getD, show i < l.length from by omega]
  have m1 : l.getD (i + 1) 0 ∈ l := by simp [List.getD, show i + 1 < l.length from by omega]
  have := h255 _ m0
  have := h255 _ m1
  rw [numAt, e]
  simp only [numF, List.foldl_cons, List.foldl_nil]
  omega
theorem numAt_two_lt (l : List Nat) (i : Nat) (h255 : ∀ x ∈ l, x < 256) (h : i + 2 ≤ l.length) : numAt l i 2 < 65536 := by
  have m0 : l.getD i 0 ∈ l := by simp [List.getD, show i < l.length from by omega]
  have m1 : l.getD (i + 1) 0 ∈ l := by simp [List.getD, show i + 1 < l.length from by omega]
  have := h255 _ m0
  have := h255 _ m1
  rw [numAt_two l i h255 h]; omega

/-- A reader: its two cells, its state, its bytes. -/
structure Rdr (w : World) (a s : Nat) (l : List Nat) : Prop where
  st : w.cell? ⟨a, 0, none⟩ = some (.pointer (some ⟨s, 0, none⟩))
  bad : w.cell? ⟨s, 0, none⟩ = some (.bool false)
  by_ : ∃ A cap, w.cell? ⟨a, 1, none⟩ = some (.slice A l.length cap) ∧ l.length ≤ cap ∧ cap ≤ 9223372036854775807 ∧ (l.length ≠ 0 → ∃ b bo, A = some ⟨b, bo, none⟩ ∧ ByteCells w b bo l)
  lt : ∀ x ∈ l, x < 256

theorem Rdr.num {w : World} {a s : Nat} {l : List Nat} (h : Rdr w a s l) (at_ n : Nat) (hn : 0 < n) (hle : at_ + n ≤ l.length) :
    Calls Tryd.prog 52 #[.pointer (some ⟨a, 0, none⟩), .int .i64 at_, .int .i64 n] w fun e w' =>
      e = .returned (.int .u32 (numAt l at_ n : Nat)) ∧ w = w' := by
  obtain ⟨A, cap, hc, h1, h2, h3⟩ := h.by_
  obtain ⟨b, bo, rfl, hb⟩ := h3 (by omega)
  exact number_in a 0 b bo cap l at_ n w hc hb h.lt hn hle h1 h2

theorem Rdr.long {w : World} {a s : Nat} {l : List Nat} (h : Rdr w a s l) (at_ : Nat) (hle : at_ + 4 ≤ l.length) :
    Calls Tryd.prog 28 #[.pointer (some ⟨a, 0, none⟩), .int .i64 at_] w fun e w' =>
      e = .returned (.int .u32 (numAt l at_ 4 : Nat)) ∧ w = w' := by
  have hn := h.num at_ 4 (by omega) hle
  clear h
  go_enter Tryd.func28, Tryd.ntmps28
  go_wp2_with (go_at_call 52; refine hn.mono ?_; rintro e w' ⟨rfl, rfl⟩)
  go_ret
  exact ⟨rfl, rfl⟩

theorem Rdr.word {w : World} {a s : Nat} {l : List Nat} (h : Rdr w a s l) (at_ : Nat) (hle : at_ + 2 ≤ l.length) :
    Calls Tryd.prog 25 #[.pointer (some ⟨a, 0, none⟩), .int .i64 at_] w fun e w' =>
      e = .returned (.int .u16 (numAt l at_ 2 : Nat)) ∧ w = w' := by
  have hn := h.num at_ 2 (by omega) hle
  have hlt := numAt_two_lt l at_ h.lt hle
  clear h
  go_enter Tryd.func25, Tryd.ntmps25
  go_wp2_with (go_at_call 52; refine hn.mono ?_; rintro e w' ⟨rfl, rfl⟩)
  go_ret
  exact ⟨rfl, rfl⟩

/-- A number of 16 bits with a sign. -/
def sgn16 (n : Nat) : Int := if n < 32768 then n else (n : Int) - 65536

theorem i16_sgn (n : Nat) (h : n < 65536) : IntKind.i16.wrap (n : Int) = sgn16 n := by
  simp [IntKind.wrap, IntKind.bits, IntKind.signed, sgn16]
  split <;> omega

theorem Rdr.int {w : World} {a s : Nat} {l : List Nat} (h : Rdr w a s l) (at_ : Nat) (hle : at_ + 2 ≤ l.length) :
    Calls Tryd.prog 50 #[.pointer (some ⟨a, 0, none⟩), .int .i64 at_] w fun e w' =>
      e = .returned (.int .i16 (sgn16 (numAt l at_ 2))) ∧ w = w' := by
  have hn := h.word at_ hle
  have hlt := numAt_two_lt l at_ h.lt hle
  clear h
  go_enter Tryd.func50, Tryd.ntmps50
  go_wp2_with (go_at_call 25; refine hn.mono ?_; rintro e w' ⟨rfl, rfl⟩)
  go_ret
  refine ⟨?_, rfl⟩
  show Ending.returned (.int .i16 (IntKind.i16.wrap (numAt l at_ 2 : Nat))) = _
  rw [i16_sgn _ hlt]

theorem Rdr.len {w : World} {a s : Nat} {l : List Nat} (h : Rdr w a s l) :
    Calls Tryd.prog 48 #[.pointer (some ⟨a, 0, none⟩)] w fun e w' =>
      e = .returned (.int .i64 (l.length : Nat)) ∧ w = w' := by
  obtain ⟨A, cap, hc, h1, h2, h3⟩ := h.by_
  clear h h3
  go_enter Tryd.func48, Tryd.ntmps48
  go_wp2
  go_ret
  exact ⟨rfl, rfl⟩

theorem Rdr.good {w : World} {a s : Nat} {l : List Nat} (h : Rdr w a s l) :
    Calls Tryd.prog 47 #[.pointer (some ⟨a, 0, none⟩)] w fun e w' =>
      e = .returned (.bool false) ∧ w = w' := by
  have h1 := h.st
  have h2 := h.bad
  clear h
  go_enter Tryd.func47, Tryd.ntmps47
  go_wp2
  go_ret
  exact ⟨rfl, rfl⟩

theorem Rdr.longI {w : World} {a s : Nat} {l : List Nat} (h : Rdr w a s l) (at_ : Nat) (i : Int) (hi : i = at_) (hle : at_ + 4 ≤ l.length) :
    Calls Tryd.prog 28 #[.pointer (some ⟨a, 0, none⟩), .int .i64 i] w fun e w' =>
      e = .returned (.int .u32 (numAt l at_ 4 : Nat)) ∧ w = w' := by
  subst hi; exact h.long at_ hle
theorem Rdr.wordI {w : World} {a s : Nat} {l : List Nat} (h : Rdr w a s l) (at_ : Nat) (i : Int) (hi : i = at_) (hle : at_ + 2 ≤ l.length) :
    Calls Tryd.prog 25 #[.pointer (some ⟨a, 0, none⟩), .int .i64 i] w fun e w' =>
      e = .returned (.int .u16 (numAt l at_ 2 : Nat)) ∧ w = w' := by
  subst hi; exact h.word at_ hle
theorem Rdr.intI {w : World} {a s : Nat} {l : List Nat} (h : Rdr w a s l) (at_ : Nat) (i : Int) (hi : i = at_) (hle : at_ + 2 ≤ l.length) :
    Calls Tryd.prog 50 #[.pointer (some ⟨a, 0, none⟩), .int .i64 i] w fun e w' =>
      e = .returned (.int .i16 (sgn16 (numAt l at_ 2))) ∧ w = w' := by
  subst hi; exact h.int at_ hle

theorem bad_nil (w : World) :
    Calls Tryd.prog 47 #[.pointer none] w fun e w' =>
      e = .returned (.bool true) ∧ w = w' := by
  go_enter Tryd.func47, Tryd.ntmps47
  go_wp2
  go_ret
  exact ⟨rfl, rfl⟩
end Go.Proofs.YtfbppbelcbbhlaaDoor.Sf
