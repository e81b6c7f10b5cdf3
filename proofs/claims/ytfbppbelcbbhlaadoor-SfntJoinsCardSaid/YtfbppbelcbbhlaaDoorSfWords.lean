/- Words that the walks share: rows of bytes that are read or owned, and one law for 'append' on what the call owns. -/
import Derived.Below
import Derived.WalkKit
import Derived.OwnWalk
import Derived.KernelRfl
import Derived.Outline
import Derived.RowKit
import Derived.WalkLawsBesides
import Derived.WalkSpells
import Derived.Lib.Hide
import Derived.Laws.BitsAllLaws
import Derived.Laws.AppendOwnNone
import Derived.Laws.OwnMore
namespace Go.Proofs.YtfbppbelcbbhlaaDoor.Sf
open Go Go.RowKit

/-- 'append(s, x...)' where the call owns s; what is appended is nil or lies somewhere. -/
theorem wpl_app {P : Program} {w : World} {ops : Array Oper} {rest : List Oper} {o : Oper} {a : Act} {Q : Exit → Act → World → Prop} (hgd : o.guard = none) (s x : Operand) (t : TypeId)
    (ho : o.op = .call { callee := .builtin .append, args := #[s, x], argTypes := #[t, t] })
    (base : Nat) (e : TypeId) {z : Value} {size bytes : Nat} (ht : P.underlying t = some (.slice e)) (hinfo : (P.info? e).map (fun i => (i.zero, i.size, i.bytes)) = some (some z, size, bytes))
    (hzs : z.cells.size = size) (hsz : 0 < size)
    (v : Value) (n : Nat) (xs : List Value) (hs : a.eval s = v) (hown : w.ownsRow base e size v n xs)
    (A : Option Addr) (m c : Nat) (news : List Value) (hx : a.eval x = .slice A m c) (hl : news.length = m * size)
    (hnone : A = none → m = 0 ∧ c = 0) (hnews : ∀ ad, A = some ad → ∀ j u, news[j]? = some u → w.cell? (ad.add j) = some u) (h1 : ∀ u ∈ news, u.oneCell' = true)
    (h63 : n + m ≤ maxLen) (hbytes : (n + m) * bytes ≤ 140737488355328) (hbase : base ≤ w.heap.size)
    (h : ∀ v' w', w'.ownsRow base e size v' (n + m) (xs ++ news) → w.grownBy w' v.ownBlock → wpList P ops Q rest (a.put o.dst v') w') : wpList P ops Q (o :: rest) a w := by
  obtain ⟨i, hi, hz0, hz1, hz2⟩ := info_parts hinfo
  cases A with
  | none =>
    obtain ⟨rfl, rfl⟩ := hnone rfl
    have hn0 : news = [] := List.eq_nil_of_length_eq_zero (by simpa using hl)
    subst hn0
    refine wpList_append_own_none hgd s x t ho base e i size ht hi v n xs hs hown hx ?_
    have := h v w (by simpa using hown) (World.grownBy.refl w _)
    exact this
  | some ad =>
    exact wpList_append_own w hgd s x t ho base e i z size bytes ht hi hz0 hz1 hz2 hzs hsz v n xs hs hown ad m c news hx hl (hnews ad rfl) h1 h63 hbytes hbase (fun v' w' h2 h3 _ => h v' w' h2 h3)

theorem add_lit (b o j : Nat) : (⟨b, o, none⟩ : Addr).add j = ⟨b, o + j, none⟩ := by unfold Addr.add; split <;> simp_all

/-- Cells of bytes. -/
def ByteCells (w : World) (b o : Nat) (l : List Nat) : Prop :=
  ∀ i, i < l.length → w.cell? ⟨b, o + i, none⟩ = some (.int .u8 ((l.getD i 0 : Nat) : Int))

/-- A slice of bytes that reads as a list. -/
structure Byt (w : World) (A : Option Addr) (cap : Nat) (l : List Nat) : Prop where
  le : l.length ≤ cap
  max : cap ≤ 9223372036854775807
  nil : A = none → cap = 0
  cells : l.length ≠ 0 → ∃ b bo, A = some ⟨b, bo, none⟩ ∧ ByteCells w b bo l
  lt : ∀ x ∈ l, x < 256

theorem below_drewN' {B : Nat} {w W : World} (h : Below B w W) (n : Nat) : Below B w (W.drewN n) := ⟨h.os, h.tape, h.output, h.size, h.block⟩
theorem own_drewN {w : World} {base e size n : Nat} {v : Value} {xs : List Value} (h : w.ownsRow base e size v n xs) (m : Nat) : (w.drewN m).ownsRow base e size v n xs := h
/-- What was there reads as it did. -/
def Kept (w w' : World) : Prop := ∀ b o, b < w.heap.size → w'.cell? ⟨b, o, none⟩ = w.cell? ⟨b, o, none⟩

theorem Kept.refl (w : World) : Kept w w := fun _ _ _ => rfl
theorem kept_of_below {w w' : World} (h : Below w.heap.size w w') : Kept w w' := fun b o hb => h.cell (p := ⟨b, o, none⟩) hb
theorem Kept.cell {w w' : World} (h : Kept w w') {b o : Nat} {v : Value} (hc : w.cell? ⟨b, o, none⟩ = some v) : w'.cell? ⟨b, o, none⟩ = some v :=
  (h b o (World.block_lt_of_cell? w _ hc)).trans hc

theorem ByteCells.kept {w w' : World} {b o : Nat} {l : List Nat} (h : ByteCells w b o l) (hk : Kept w w') : ByteCells w' b o l := fun i hi => hk.cell (h i hi)
theorem Byt.kept {w w' : World} {A : Option Addr} {cap : Nat} {l : List Nat} (h : Byt w A cap l) (hk : Kept w w') : Byt w' A cap l :=
  ⟨h.le, h.max, h.nil, fun hne => let ⟨b, bo, e, hc⟩ := h.cells hne; ⟨b, bo, e, hc.kept hk⟩, h.lt⟩
theorem Byt.below {w w' : World} {A : Option Addr} {cap : Nat} {l : List Nat} (h : Byt w A cap l) (hb : Below w.heap.size w w') : Byt w' A cap l := h.kept (kept_of_below hb)

/-- Bytes as cells. -/
def u8s (l : List Nat) : List Value := l.map fun x : Nat => Value.int .u8 (x : Int)
theorem u8s_length (l : List Nat) : (u8s l).length = l.length := by simp [u8s]
theorem u8s_append (l m : List Nat) : u8s (l ++ m) = u8s l ++ u8s m := by simp [u8s]
theorem u8s_one (l : List Nat) : ∀ u ∈ u8s l, u.oneCell' = true := by
  intro u hu
  simp only [u8s, List.mem_map] at hu
  obtain ⟨x, _, rfl⟩ := hu
  rfl
theorem u8s_at {l : List Nat} {j : Nat} {u : Value} (h : (u8s l)[j]? = some u) : j < l.length ∧ u = .int .u8 ((l.getD j 0 : Nat) : Int) := by
  have hj : j < l.length := by
    rcases Nat.lt_or_ge j l.length with h' | h'
    · exact h'
    · rw [List.getElem?_eq_none (by rw [u8s_length]; exact h')] at h; cases h
  refine ⟨hj, ?_⟩
  simp [u8s, hj] at h
  simp [List.getD, hj, h]

/-- The cells that are appended out of what is read. -/
theorem Byt.news {w W : World} {A : Option Addr} {cap : Nat} {l : List Nat} (h : Byt w A cap l) (hk : Kept w W) :
    ∀ ad, A = some ad → ∀ j u, (u8s l)[j]? = some u → W.cell? (ad.add j) = some u := by
  intro ad hA j u hu
  obtain ⟨hj, rfl⟩ := u8s_at hu
  obtain ⟨b, bo, hA', hc⟩ := h.cells (by omega)
  rw [hA] at hA'
  cases hA'
  rw [add_lit]
  exact hk.cell (hc j hj)
theorem Byt.len0 {w : World} {A : Option Addr} {cap : Nat} {l : List Nat} (h : Byt w A cap l) : A = none → l.length = 0 ∧ cap = 0 := by
  intro hA
  have := h.nil hA
  have := h.le
  omega

theorem own_lower {w : World} {base base' e size n : Nat} {v : Value} {xs : List Value} (h : w.ownsRow base e size v n xs) (hb : base' ≤ base) : w.ownsRow base' e size v n xs := by
  refine ⟨h.1, ?_⟩
  rcases h.2 with h2 | ⟨g, cap, cur, h1, hg, h3⟩
  · exact .inl h2
  · exact .inr ⟨g, cap, cur, h1, by omega, h3⟩
theorem own_form {w : World} {base e size n : Nat} {v : Value} {xs : List Value} (h : w.ownsRow base e size v n xs) : ∃ A c, v = .slice A n c := by
  rcases h.2 with ⟨rfl, h0⟩ | ⟨g, cap, cur, rfl, _⟩
  · exact ⟨none, 0, by rw [h0]⟩
  · exact ⟨_, _, rfl⟩
/-- What a call owns, read as bytes. -/
theorem byt_of_own {w : World} {base e n : Nat} {v : Value} {l : List Nat} (h : w.ownsRow base e 1 v n (u8s l)) (h255 : ∀ x ∈ l, x < 256) :
    n = l.length ∧ ∃ A cap, v = .slice A l.length cap ∧ Byt w A cap l := by
  have hn : n = l.length := by have := h.1; rw [u8s_length] at this; omega
  subst hn
  refine ⟨rfl, ?_⟩
  rcases h.2 with ⟨rfl, h0⟩ | ⟨g, cap, cur, rfl, hg, hh, hle, hcap, hsz, htake⟩
  · exact ⟨none, 0, by rw [h0], ⟨by omega, by omega, fun _ => rfl, fun hne => absurd h0 hne, h255⟩⟩
  · refine ⟨some ⟨g, 0, none⟩, cap, rfl, ⟨hle, by unfold maxLen at hcap; omega, (fun h => by cases h), fun hne => ⟨g, 0, rfl, ?_⟩, h255⟩⟩
    intro i hi
    rw [cell_of_row w g (0 + i) cur e (0, 0) hh, Nat.zero_add]
    have hx : (u8s l)[i]? = some (.int .u8 ((l.getD i 0 : Nat) : Int)) := by simp [u8s, List.getD, hi]
    rw [← htake, List.getElem?_take] at hx
    split at hx
    · simpa using hx
    · cases hx
end Go.Proofs.YtfbppbelcbbhlaaDoor.Sf
