import Derived.Below
import Derived.WalkKit
import Derived.OwnWalk
import Derived.KernelRfl
import Derived.Outline
import Derived.RowKit
import Derived.WalkLawsBesides
import Derived.WalkSpells
import Derived.Lib.Hide
import Derived.Laws.BitsAllLaws
import Derived.Laws.AppendOwnNone
import Derived.Laws.OwnMore
import Derived.Test.YtfbppbelcbbhlaaGreatDoorProg

/- Words that the walks share: rows of bytes that are read or owned, and one law for 'append' on what the call owns. -/
namespace Go.Proofs.YtfbppbelcbbhlaaGreatDoor.Sf
open Go Go.RowKit

/-- 'append(s, x...)' where the call owns s; what is appended is nil or lies somewhere. -/
theorem wpl_app {P : Program} {w : World} {ops : Array Oper} {rest : List Oper} {o : Oper} {a : Act} {Q : Exit → Act → World → Prop} (hgd : o.guard = none) (s x : Operand) (t : TypeId)
    (ho : o.op = .call { callee := .builtin .append, args := #[s, x], argTypes := #[t, t] })
    (base : Nat) (e : TypeId) {z : Value} {size bytes : Nat} (ht : P.underlying t = some (.slice e)) (hinfo : (P.info? e).map (fun i => (i.zero, i.size, i.bytes)) = some (some z, size, bytes))
    (hzs : z.cells.size = size) (hsz : 0 < size)
    (v : Value) (n : Nat) (xs : List Value) (hs : a.eval s = v) (hown : w.ownsRow base e size v n xs)
    (A : Option Addr) (m c : Nat) (news : List Value) (hx : a.eval x = .slice A m c) (hl : news.length = m * size)
    (hnone : A = none → m = 0 ∧ c = 0) (hnews : ∀ ad, A = some ad → ∀ j u, news[j]? = some u → w.cell? (ad.add j) = some u) (h1 : ∀ u ∈ news, u.oneCell' = true)
    (h63 : n + m ≤ maxLen) (hbytes : (n + m) * bytes ≤ 140737488355328) (hbase : base ≤ w.heap.size)
    (h : ∀ v' w', w'.ownsRow base e size v' (n + m) (xs ++ news) → w.grownBy w' v.ownBlock → wpList P ops Q rest (a.put o.dst v') w') : wpList P ops Q (o :: rest) a w := by
  obtain ⟨i, hi, hz0, hz1, hz2⟩ := info_parts hinfo
  cases A with
  | none =>
    obtain ⟨rfl, rfl⟩ := hnone rfl
    have hn0 : news = [] := List.eq_nil_of_length_eq_zero (by simpa using hl)
    subst hn0
    refine wpList_append_own_none hgd s x t ho base e i size ht hi v n xs hs hown hx ?_
    have := h v w (by simpa using hown) (World.grownBy.refl w _)
    exact this
  | some ad =>
    exact wpList_append_own w hgd s x t ho base e i z size bytes ht hi hz0 hz1 hz2 hzs hsz v n xs hs hown ad m c news hx hl (hnews ad rfl) h1 h63 hbytes hbase (fun v' w' h2 h3 _ => h v' w' h2 h3)

theorem add_lit (b o j : Nat) : (⟨b, o, none⟩ : Addr).add j = ⟨b, o + j, none⟩ := by unfold Addr.add; split <;> simp_all

/-- Cells of bytes. -/
def ByteCells (w : World) (b o : Nat) (l : List Nat) : Prop :=
  ∀ i, i < l.length → w.cell? ⟨b, o + i, none⟩ = some (.int .u8 ((l.getD i 0 : Nat) : Int))

/-- A slice of bytes that reads as a list. -/
structure Byt (w : World) (A : Option Addr) (cap : Nat) (l : List Nat) : Prop where
  le : l.length ≤ cap
  max : cap ≤ 9223372036854775807
  nil : A = none → cap = 0
  cells : l.length ≠ 0 → ∃ b bo, A = some ⟨b, bo, none⟩ ∧ ByteCells w b bo l
  lt : ∀ x ∈ l, x < 256

theorem below_drewN' {B : Nat} {w W : World} (h : Below B w W) (n : Nat) : Below B w (W.drewN n) := ⟨h.os, h.tape, h.output, h.size, h.block⟩
theorem own_drewN {w : World} {base e size n : Nat} {v : Value} {xs : List Value} (h : w.ownsRow base e size v n xs) (m : Nat) : (w.drewN m).ownsRow base e size v n xs := h
/-- What was there reads as it did. -/
def Kept (w w' : World) : Prop := ∀ b o, b < w.heap.size → w'.cell? ⟨b, o, none⟩ = w.cell? ⟨b, o, none⟩

theorem Kept.refl (w : World) : Kept w w := fun _ _ _ => rfl
theorem kept_of_below {w w' : World} (h : Below w.heap.size w w') : Kept w w' := fun b o hb => h.cell (p := ⟨b, o, none⟩) hb
theorem Kept.cell {w w' : World} (h : Kept w w') {b o : Nat} {v : Value} (hc : w.cell? ⟨b, o, none⟩ = some v) : w'.cell? ⟨b, o, none⟩ = some v :=
  (h b o (World.block_lt_of_cell? w _ hc)).trans hc

theorem ByteCells.kept {w w' : World} {b o : Nat} {l : List Nat} (h : ByteCells w b o l) (hk : Kept w w') : ByteCells w' b o l := fun i hi => hk.cell (h i hi)
theorem Byt.kept {w w' : World} {A : Option Addr} {cap : Nat} {l : List Nat} (h : Byt w A cap l) (hk : Kept w w') : Byt w' A cap l :=
  ⟨h.le, h.max, h.nil, fun hne => let ⟨b, bo, e, hc⟩ := h.cells hne; ⟨b, bo, e, hc.kept hk⟩, h.lt⟩
theorem Byt.below {w w' : World} {A : Option Addr} {cap : Nat} {l : List Nat} (h : Byt w A cap l) (hb : Below w.heap.size w w') : Byt w' A cap l := h.kept (kept_of_below hb)

/-- Bytes as cells. -/
def u8s (l : List Nat) : List Value := l.map fun x : Nat => Value.int .u8 (x : Int)
theorem u8s_length (l : List Nat) : (u8s l).length = l.length := by simp [u8s]
theorem u8s_append (l m : List Nat) : u8s (l ++ m) = u8s l ++ u8s m := by simp [u8s]
theorem u8s_one (l : List Nat) : ∀ u ∈ u8s l, u.oneCell' = true := by
  intro u hu
  simp only [u8s, List.mem_map] at hu
  obtain ⟨x, _, rfl⟩ := hu
  rfl
theorem u8s_at {l : List Nat} {j : Nat} {u : Value} (h : (u8s l)[j]? = some u) : j < l.length ∧ u = .int .u8 ((l.getD j 0 : Nat) : Int) := by
  have hj : j < l.length := by
    rcases Nat.lt_or_ge j l.length with h' | h'
    · exact h'
    · rw [List.getElem?_eq_none (by rw [u8s_length]; exact h')] at h; cases h
  refine ⟨hj, ?_⟩
  simp [u8s, hj] at h
  simp [List.getD, hj, h]

/-- The cells that are appended out of what is read. -/
theorem Byt.news {w W : World} {A : Option Addr} {cap : Nat} {l : List Nat} (h : Byt w A cap l) (hk : Kept w W) :
    ∀ ad, A = some ad → ∀ j u, (u8s l)[j]? = some u → W.cell? (ad.add j) = some u := by
  intro ad hA j u hu
  obtain ⟨hj, rfl⟩ := u8s_at hu
  obtain ⟨b, bo, hA', hc⟩ := h.cells (by omega)
  rw [hA] at hA'
  cases hA'
  rw [add_lit]
  exact hk.cell (hc j hj)
theorem Byt.len0 {w : World} {A : Option Addr} {cap : Nat} {l : List Nat} (h : Byt w A cap l) : A = none → l.length = 0 ∧ cap = 0 := by
  intro hA
  have := h.nil hA
  have := h.le
  omega

theorem own_lower {w : World} {base base' e size n : Nat} {v : Value} {xs : List Value} (h : w.ownsRow base e size v n xs) (hb : base' ≤ base) : w.ownsRow base' e size v n xs := by
  refine ⟨h.1, ?_⟩
  rcases h.2 with h2 | ⟨g, cap, cur, h1, hg, h3⟩
  · exact .inl h2
  · exact .inr ⟨g, cap, cur, h1, by omega, h3⟩
theorem own_form {w : World} {base e size n : Nat} {v : Value} {xs : List Value} (h : w.ownsRow base e size v n xs) : ∃ A c, v = .slice A n c := by
  rcases h.2 with ⟨rfl, h0⟩ | ⟨g, cap, cur, rfl, _⟩
  · exact ⟨none, 0, by rw [h0]⟩
  · exact ⟨_, _, rfl⟩
/-- What a call owns, read as bytes. -/
theorem byt_of_own {w : World} {base e n : Nat} {v : Value} {l : List Nat} (h : w.ownsRow base e 1 v n (u8s l)) (h255 : ∀ x ∈ l, x < 256) :
    n = l.length ∧ ∃ A cap, v = .slice A l.length cap ∧ Byt w A cap l := by
  have hn : n = l.length := by have := h.1; rw [u8s_length] at this; omega
  subst hn
  refine ⟨rfl, ?_⟩
  rcases h.2 with ⟨rfl, h0⟩ | ⟨g, cap, cur, rfl, hg, hh, hle, hcap, hsz, htake⟩
  · exact ⟨none, 0, by rw [h0], ⟨by omega, by omega, fun _ => rfl, fun hne => absurd h0 hne, h255⟩⟩
  · refine ⟨some ⟨g, 0, none⟩, cap, rfl, ⟨hle, by unfold maxLen at hcap; omega, (fun h => by cases h), fun hne => ⟨g, 0, rfl, ?_⟩, h255⟩⟩
    intro i hi
    rw [cell_of_row w g (0 + i) cur e (0, 0) hh, Nat.zero_add]
    have hx : (u8s l)[i]? = some (.int .u8 ((l.getD i 0 : Nat) : Int)) := by simp [u8s, List.getD, hi]
    rw [← htake, List.getElem?_take] at hx
    split at hx
    · simpa using hx
    · cases hx
end Go.Proofs.YtfbppbelcbbhlaaGreatDoor.Sf

/- The reader of numbers (bin.Reader): what each method comes to on bytes that are all there. -/
namespace Go.Proofs.YtfbppbelcbbhlaaGreatDoor.Sf
open Go Go.RowKit

/-- The bytes from a place on, as a number (the highest byte first; 32 bits). -/
def numF (l : List Nat) : Nat := l.foldl (fun x c => (x * 256 + c) % 4294967296) 0

theorem row_in (a o : Nat) (b bo : Nat) (len cap : Nat) (at_ n : Nat) (w : World)
    (h1 : w.cell? ⟨a, o + 1, none⟩ = some (.slice (some ⟨b, bo, none⟩) len cap))
    (hle : at_ + n ≤ len) (hc : len ≤ cap) (hm : cap ≤ 9223372036854775807) :
    Calls Tryz.prog 82 #[.pointer (some ⟨a, o, none⟩), .int .i64 at_, .int .i64 n] w fun e w' =>
      (∃ A, e = .returned (.tuple #[.slice A n (cap - at_), .bool true]) ∧ (0 < n → A = some ⟨b, bo + at_, none⟩)) ∧ w = w' := by
  go_enter Tryz.func82, Tryz.ntmps82
  go_wp2
  all_goals
    go_ret2
    refine ⟨⟨_, rfl, ?_⟩, rfl⟩
    intro hn
    first | rfl | (exfalso; omega)

/-- The bytes that are asked, as a number. -/
def numAt (l : List Nat) (at_ n : Nat) : Nat := numF ((l.drop at_).take n)

theorem numF_snoc (l : List Nat) (c : Nat) : numF (l ++ [c]) = (numF l * 256 + c) % 4294967296 := by
  simp [numF, List.foldl_append]
theorem numF_lt (l : List Nat) : numF l < 4294967296 := by
  rcases List.eq_nil_or_concat l with rfl | ⟨l', c, rfl⟩
  · simp [numF]
  · rw [List.concat_eq_append, numF_snoc]; omega

theorem take_snoc {α : Type} (l : List α) (k : Nat) (d : α) (h : k < l.length) : l.take (k + 1) = l.take k ++ [l.getD k d] := by
  rw [List.take_succ_eq_append_getElem h]; simp [List.getD, h]

theorem or_u32 (q c : Nat) (hc : c < 256) : bits .or .u32 ((q : Int) * 256 % 4294967296) c = (((q * 256 + c) % 4294967296 : Nat) : Int) := by
  have e : ((q : Int) * 256 % 4294967296) = ((q * 256 % 4294967296 : Nat) : Int) := by omega
  rw [e, u32_or_nat _ _ (by omega) (by omega)]
  have e2 : q * 256 % 4294967296 = (q % 16777216) <<< 8 := by rw [Nat.shiftLeft_eq]; omega
  rw [e2, ← Nat.shiftLeft_add_eq_or_of_lt (by omega), Nat.shiftLeft_eq]
  congr 1
  omega

set_option maxHeartbeats 400000 in
theorem number_in (a o : Nat) (b bo : Nat) (cap : Nat) (l : List Nat) (at_ n : Nat) (w : World)
    (h1 : w.cell? ⟨a, o + 1, none⟩ = some (.slice (some ⟨b, bo, none⟩) l.length cap))
    (hb : ByteCells w b bo l) (h255 : ∀ x ∈ l, x < 256)
    (hn : 0 < n) (hle : at_ + n ≤ l.length) (hc : l.length ≤ cap) (hm : cap ≤ 9223372036854775807) :
    Calls Tryz.prog 64 #[.pointer (some ⟨a, o, none⟩), .int .i64 at_, .int .i64 n] w fun e w' =>
      e = .returned (.int .u32 (numAt l at_ n : Nat)) ∧ w = w' := by
  go_enter Tryz.func64, Tryz.ntmps64
  go_wp2_with (go_at_call 82; refine (row_in a o b bo l.length cap at_ n _ h1 hle hc hm).mono ?_; rintro e w' ⟨⟨A, rfl, hA⟩, rfl⟩; obtain rfl := hA hn; clear hA)
  go_loop [7, 11, 21] (fun x _ i => ∃ k : Nat, k ≤ n ∧ i = .int .i64 k ∧ x = .int .u32 (numAt l at_ k : Nat)) (fun _ _ i => n - (intOf i).toNat)
  case atStart => exact ⟨0, Nat.zero_le _, rfl, rfl⟩
  case round =>
    obtain ⟨k, hk, rfl, rfl⟩ := hrel
    by_cases hlt : k < n
    · have hcell := hb (at_ + k) (by omega)
      rw [← Nat.add_assoc] at hcell
      have h0 : l.getD (at_ + k) 0 < 256 := by
        have hm' : l.getD (at_ + k) 0 ∈ l := by simp [List.getD, show at_ + k < l.length from by omega]
        exact h255 _ hm'
      have hlt2 := numF_lt ((l.drop at_).take k)
      have hs : numAt l at_ (k + 1) = (numAt l at_ k * 256 + l.getD (at_ + k) 0) % 4294967296 := by
        unfold numAt
        rw [take_snoc _ k 0 (by simp; omega), numF_snoc]
        congr 2
        simp [List.getD]
      have HS := Lib.hid hs
      clear hs
      generalize l.getD (at_ + k) 0 = c at *
      generalize hq : numAt l at_ k = q at *
      clear hb h255
      go_wp2
      go_round
      case rel => exact ⟨k + 1, by omega, by go_num, by rw [HS.out, or_u32 q c h0]⟩
      case measure => simp [intOf]; omega
    · go_wp2
      go_ret
      have hkn : k = n := by omega
      subst hkn
      exact ⟨rfl, rfl⟩
theorem numAt_two (l : List Nat) (i : Nat) (h255 : ∀ x ∈ l, x < 256) (h : i + 2 ≤ l.length) : numAt l i 2 = l.getD i 0 * 256 + l.getD (i + 1) 0 := by
  have e : (l.drop i).take 2 = [l.getD i 0, l.getD (i + 1) 0] := by
    apply List.ext_getElem
    · simp; omega
    · intro j h1 h2
      have : j = 0 ∨ j = 1 := by simp at h2; omega
      rcases this with rfl | rfl <;> simp [List.getD, show i < l.length from by omega, show i + 1 < l.length from by omega]
  have m0 : l.getD i 0 ∈ l := by simp [List.getD, show i < l.length from by omega]
  have m1 : l.getD (i + 1) 0 ∈ l := by simp [List.getD, show i + 1 < l.length from by omega]
  have := h255 _ m0
  have := h255 _ m1
  rw [numAt, e]
  simp only [numF, List.foldl_cons, List.foldl_nil]
  omega
theorem numAt_two_lt (l : List Nat) (i : Nat) (h255 : ∀ x ∈ l, x < 256) (h : i + 2 ≤ l.length) : numAt l i 2 < 65536 := by
  have m0 : l.getD i 0 ∈ l := by simp [List.getD, show i < l.length from by omega]
  have m1 : l.getD (i + 1) 0 ∈ l := by simp [List.getD, show i + 1 < l.length from by omega]
  have := h255 _ m0
  have := h255 _ m1
  rw [numAt_two l i h255 h]; omega

/-- A reader: its two cells, its state, its bytes. -/
structure Rdr (w : World) (a s : Nat) (l : List Nat) : Prop where
  st : w.cell? ⟨a, 0, none⟩ = some (.pointer (some ⟨s, 0, none⟩))
  bad : w.cell? ⟨s, 0, none⟩ = some (.bool false)
  by_ : ∃ A cap, w.cell? ⟨a, 1, none⟩ = some (.slice A l.length cap) ∧ l.length ≤ cap ∧ cap ≤ 9223372036854775807 ∧ (l.length ≠ 0 → ∃ b bo, A = some ⟨b, bo, none⟩ ∧ ByteCells w b bo l)
  lt : ∀ x ∈ l, x < 256

theorem Rdr.num {w : World} {a s : Nat} {l : List Nat} (h : Rdr w a s l) (at_ n : Nat) (hn : 0 < n) (hle : at_ + n ≤ l.length) :
    Calls Tryz.prog 64 #[.pointer (some ⟨a, 0, none⟩), .int .i64 at_, .int .i64 n] w fun e w' =>
      e = .returned (.int .u32 (numAt l at_ n : Nat)) ∧ w = w' := by
  obtain ⟨A, cap, hc, h1, h2, h3⟩ := h.by_
  obtain ⟨b, bo, rfl, hb⟩ := h3 (by omega)
  exact number_in a 0 b bo cap l at_ n w hc hb h.lt hn hle h1 h2

theorem Rdr.long {w : World} {a s : Nat} {l : List Nat} (h : Rdr w a s l) (at_ : Nat) (hle : at_ + 4 ≤ l.length) :
    Calls Tryz.prog 44 #[.pointer (some ⟨a, 0, none⟩), .int .i64 at_] w fun e w' =>
      e = .returned (.int .u32 (numAt l at_ 4 : Nat)) ∧ w = w' := by
  have hn := h.num at_ 4 (by omega) hle
  clear h
  go_enter Tryz.func44, Tryz.ntmps44
  go_wp2_with (go_at_call 64; refine hn.mono ?_; rintro e w' ⟨rfl, rfl⟩)
  go_ret
  exact ⟨rfl, rfl⟩

theorem Rdr.word {w : World} {a s : Nat} {l : List Nat} (h : Rdr w a s l) (at_ : Nat) (hle : at_ + 2 ≤ l.length) :
    Calls Tryz.prog 42 #[.pointer (some ⟨a, 0, none⟩), .int .i64 at_] w fun e w' =>
      e = .returned (.int .u16 (numAt l at_ 2 : Nat)) ∧ w = w' := by
  have hn := h.num at_ 2 (by omega) hle
  have hlt := numAt_two_lt l at_ h.lt hle
  clear h
  go_enter Tryz.func42, Tryz.ntmps42
  go_wp2_with (go_at_call 64; refine hn.mono ?_; rintro e w' ⟨rfl, rfl⟩)
  go_ret
  exact ⟨rfl, rfl⟩

/-- A number of 16 bits with a sign. -/
def sgn16 (n : Nat) : Int := if n < 32768 then n else (n : Int) - 65536

theorem i16_sgn (n : Nat) (h : n < 65536) : IntKind.i16.wrap (n : Int) = sgn16 n := by
  simp [IntKind.wrap, IntKind.bits, IntKind.signed, sgn16]
  split <;> omega

theorem Rdr.int {w : World} {a s : Nat} {l : List Nat} (h : Rdr w a s l) (at_ : Nat) (hle : at_ + 2 ≤ l.length) :
    Calls Tryz.prog 70 #[.pointer (some ⟨a, 0, none⟩), .int .i64 at_] w fun e w' =>
      e = .returned (.int .i16 (sgn16 (numAt l at_ 2))) ∧ w = w' := by
  have hn := h.word at_ hle
  have hlt := numAt_two_lt l at_ h.lt hle
  clear h
  go_enter Tryz.func70, Tryz.ntmps70
  go_wp2_with (go_at_call 42; refine hn.mono ?_; rintro e w' ⟨rfl, rfl⟩)
  go_ret
  refine ⟨?_, rfl⟩
  show Ending.returned (.int .i16 (IntKind.i16.wrap (numAt l at_ 2 : Nat))) = _
  rw [i16_sgn _ hlt]

theorem Rdr.len {w : World} {a s : Nat} {l : List Nat} (h : Rdr w a s l) :
    Calls Tryz.prog 69 #[.pointer (some ⟨a, 0, none⟩)] w fun e w' =>
      e = .returned (.int .i64 (l.length : Nat)) ∧ w = w' := by
  obtain ⟨A, cap, hc, h1, h2, h3⟩ := h.by_
  clear h h3
  go_enter Tryz.func69, Tryz.ntmps69
  go_wp2
  go_ret
  exact ⟨rfl, rfl⟩

theorem Rdr.good {w : World} {a s : Nat} {l : List Nat} (h : Rdr w a s l) :
    Calls Tryz.prog 68 #[.pointer (some ⟨a, 0, none⟩)] w fun e w' =>
      e = .returned (.bool false) ∧ w = w' := by
  have h1 := h.st
  have h2 := h.bad
  clear h
  go_enter Tryz.func68, Tryz.ntmps68
  go_wp2
  go_ret
  exact ⟨rfl, rfl⟩

theorem Rdr.longI {w : World} {a s : Nat} {l : List Nat} (h : Rdr w a s l) (at_ : Nat) (i : Int) (hi : i = at_) (hle : at_ + 4 ≤ l.length) :
    Calls Tryz.prog 44 #[.pointer (some ⟨a, 0, none⟩), .int .i64 i] w fun e w' =>
      e = .returned (.int .u32 (numAt l at_ 4 : Nat)) ∧ w = w' := by
  subst hi; exact h.long at_ hle
theorem Rdr.wordI {w : World} {a s : Nat} {l : List Nat} (h : Rdr w a s l) (at_ : Nat) (i : Int) (hi : i = at_) (hle : at_ + 2 ≤ l.length) :
    Calls Tryz.prog 42 #[.pointer (some ⟨a, 0, none⟩), .int .i64 i] w fun e w' =>
      e = .returned (.int .u16 (numAt l at_ 2 : Nat)) ∧ w = w' := by
  subst hi; exact h.word at_ hle
theorem Rdr.intI {w : World} {a s : Nat} {l : List Nat} (h : Rdr w a s l) (at_ : Nat) (i : Int) (hi : i = at_) (hle : at_ + 2 ≤ l.length) :
    Calls Tryz.prog 70 #[.pointer (some ⟨a, 0, none⟩), .int .i64 i] w fun e w' =>
      e = .returned (.int .i16 (sgn16 (numAt l at_ 2))) ∧ w = w' := by
  subst hi; exact h.int at_ hle

theorem bad_nil (w : World) :
    Calls Tryz.prog 68 #[.pointer none] w fun e w' =>
      e = .returned (.bool true) ∧ w = w' := by
  go_enter Tryz.func68, Tryz.ntmps68
  go_wp2
  go_ret
  exact ⟨rfl, rfl⟩
end Go.Proofs.YtfbppbelcbbhlaaGreatDoor.Sf
