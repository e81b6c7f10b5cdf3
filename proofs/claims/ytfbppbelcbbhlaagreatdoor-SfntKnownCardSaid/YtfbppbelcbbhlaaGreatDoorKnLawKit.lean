/- Words for the closed statement: bytes that are read or owned, of a known number; put, cmap, copyTo; each law on them. -/
import Derived.Test.YtfbppbelcbbhlaaGreatDoorKnMapsLaw
import Derived.Test.YtfbppbelcbbhlaaGreatDoorKnWid
import Derived.Test.YtfbppbelcbbhlaaGreatDoorKnRound
import Derived.Test.YtfbppbelcbbhlaaGreatDoorKnJoinsLaw
import Derived.Test.YtfbppbelcbbhlaaGreatDoorKnRefPut
import Derived.Lib.AppendStr
namespace Go.Proofs.YtfbppbelcbbhlaaGreatDoor.Sf
open Go Go.RowKit

structure BytN (W : World) (A : Option Addr) (c n : Nat) (l : List Nat) : Prop where
  len : l.length = n
  byt : Byt W A c l
structure OwnB (W : World) (base : Nat) (A : Option Addr) (c n : Nat) (l : List Nat) : Prop where
  len : l.length = n
  row : W.ownsRow base 5 1 (.slice A n c) n (u8s l)
  lt : ∀ x ∈ l, x < 256
theorem BytN.below {W W' : World} {A : Option Addr} {c n : Nat} {l : List Nat} (h : BytN W A c n l) (hb : Below W.heap.size W W') : BytN W' A c n l := ⟨h.len, h.byt.below hb⟩
theorem BytN.none {W : World} : BytN W .none 0 0 [] := ⟨rfl, Nat.le_refl _, by omega, fun _ => rfl, fun h => absurd rfl h, by simp⟩
theorem BytN.take {W : World} {A : Option Addr} {c n : Nat} {l : List Nat} (h : BytN W A c n l) (i : Nat) (hi : i ≤ n) : BytN W A c i (l.take i) := by
  have h1 := h.len
  have h2 := h.byt.le
  refine ⟨by rw [List.length_take]; omega, by rw [List.length_take]; omega, h.byt.max, h.byt.nil, fun hne => ?_, fun x hx => h.byt.lt x (List.mem_of_mem_take hx)⟩
  rw [List.length_take] at hne
  obtain ⟨b, bo, rfl, hc⟩ := h.byt.cells (by omega)
  refine ⟨b, bo, rfl, fun k hk => ?_⟩
  rw [List.length_take] at hk
  rw [hc k (by omega)]
  simp [List.getD, show k < i from by omega]
theorem OwnB.bytN {W : World} {base : Nat} {A : Option Addr} {c n : Nat} {l : List Nat} (h : OwnB W base A c n l) : BytN W A c n l := by
  obtain ⟨h1, A2, c2, h2, h3⟩ := byt_of_own h.row h.lt
  rw [← h1] at h2
  cases h2
  exact ⟨h.len, h3⟩
theorem OwnB.below {W W' : World} {base : Nat} {A : Option Addr} {c n : Nat} {l : List Nat} (h : OwnB W base A c n l) (hb : Below W.heap.size W W') : OwnB W' base A c n l := ⟨h.len, own_below h.row hb, h.lt⟩
theorem OwnB.lower {W : World} {base base' : Nat} {A : Option Addr} {c n : Nat} {l : List Nat} (h : OwnB W base A c n l) (hb : base' ≤ base) : OwnB W base' A c n l := ⟨h.len, own_lower h.row hb, h.lt⟩
/-- A place of a row that is owned: what it holds; what it holds behind a store. -/
theorem OwnB.at_ {W : World} {base : Nat} {A : Option Addr} {c n : Nat} {l : List Nat} (h : OwnB W base A c n l) (i : Nat) (hi : i < n) :
    ∃ q, A = some ⟨q, 0, none⟩ ∧ n ≤ c ∧ base ≤ q ∧ q < W.heap.size ∧ W.cell? ⟨q, i, none⟩ = some (.int .u8 ((l.getD i 0 : Nat) : Int)) ∧ W.frozen? ⟨q, i, none⟩ = false ∧ l.getD i 0 < 256 ∧
      ∀ y : Nat, y < 256 → OwnB (W.setCell ⟨q, i, none⟩ (.int .u8 (y : Int))) base (some ⟨q, 0, none⟩) c n (l.set i y) := by
  obtain ⟨q, rfl, h1, h2, h3, h4⟩ := own_pos h.row (by omega)
  have hl := h.len
  have hg : (u8s l)[i]? = some (.int .u8 ((l.getD i 0 : Nat) : Int)) := by simp [u8s, List.getD, show i < l.length from by omega]
  have hm : l.getD i 0 ∈ l := by simp [List.getD, show i < l.length from by omega]
  refine ⟨q, rfl, h1, h3, h4, (h.row.cellAt i (by omega)).trans hg, h.row.frozenAt i, h.lt _ hm, fun y hy => ⟨by rw [List.length_set]; exact hl, ?_, fun x hx => ?_⟩⟩
  · have := (h.row.stored i (.int .u8 (y : Int))).1
    rwa [show (u8s l).set i (.int .u8 (y : Int)) = u8s (l.set i y) from by simp [u8s, List.map_set]] at this
  · rcases List.mem_or_eq_of_mem_set hx with hx | hx
    · exact h.lt x hx
    · omega
theorem wpl_appB {P : Program} {w : World} {ops : Array Oper} {rest : List Oper} {o : Oper} {a : Act} {Q : Exit → Act → World → Prop} (hgd : o.guard = none) (s x : Operand) (t : TypeId)
    (ho : o.op = .call { callee := .builtin .append, args := #[s, x], argTypes := #[t, t] }) (ht : P.underlying t = some (.slice 5)) (hinfo : (P.info? 5).map (fun i => (i.zero, i.size, i.bytes)) = some (some (.int .u8 0), 1, 1))
    (base : Nat) (A0 : Option Addr) (c0 n0 : Nat) (l0 : List Nat) (hs : a.eval s = .slice A0 n0 c0) (hown : OwnB w base A0 c0 n0 l0)
    (A : Option Addr) (n c : Nat) (l : List Nat) (hx : a.eval x = .slice A n c) (hb : BytN w A c n l) (hlen : n0 + n ≤ 140737488355328) (hbase : base ≤ w.heap.size)
    (h : ∀ A' c' w', OwnB w' base A' c' (n0 + n) (l0 ++ l) → Below base w w' → wpList P ops Q rest (a.put o.dst (.slice A' (n0 + n) c')) w') : wpList P ops Q (o :: rest) a w := by
  have hbl := hb.len
  refine wpl_app hgd s x t ho base 5 ht hinfo rfl (by decide) (.slice A0 n0 c0) n0 (u8s l0) hs hown.row A n c (u8s l) hx (by rw [u8s_length]; omega) (fun hA => by have := hb.byt.len0 hA; omega) (hb.byt.news (Kept.refl _)) (u8s_one l) (by unfold maxLen; omega) (by omega) hbase ?_
  intro v' w' hown' hg
  obtain ⟨A', c', rfl⟩ := own_form hown'
  refine h A' c' w' ⟨by rw [List.length_append, hown.len, hbl], by rw [u8s_append]; exact hown', fun y hy => ?_⟩ (below_grown (Below.refl _ _) hown.row hbase hg)
  rcases List.mem_append.1 hy with hy | hy
  · exact hown.lt y hy
  · exact hb.byt.lt y hy

theorem mapsL {A : Option Addr} {c n : Nat} {l : List Nat} {w : World} (g : Int) (h : BytN w A c n l) (hd : HdVar w) (hn : n ≤ 3000) : Calls Tryz.prog 28 #[.slice A n c, .int .i64 g] w fun e w' => e = .returned (.bool true) ∧ Below w.heap.size w w' := by
  obtain ⟨rfl, hb⟩ := h
  exact maps_law A c l g w hb hd hn
theorem tabsL {A : Option Addr} {c n : Nat} {l : List Nat} {w : World} (h : BytN w A c n l) (hd : HdVar w) : Calls Tryz.prog 7 #[.slice A n c] w fun e w' => e = .returned (.bool true) ∧ Below w.heap.size w w' := by
  obtain ⟨rfl, hb⟩ := h
  exact tables_law A c l w hb hd
theorem headsL {A : Option Addr} {c n : Nat} {l : List Nat} {w : World} (h : BytN w A c n l) (hd : HdVar w) : Calls Tryz.prog 27 #[.slice A n c] w fun e w' => e = .returned (.bool true) ∧ Below w.heap.size w w' := by
  obtain ⟨rfl, hb⟩ := h
  exact heads_law A c l w hb hd
theorem widL {A B C : Option Addr} {c n d m k q : Nat} {l x z : List Nat} {w : World} (h : BytN w A c n l) (h2 : BytN w B d m x) (h3 : BytN w C k q z) (hd : HdVar w) (hn : n ≤ 3000) (hm : m ≤ 3000) (hq : q ≤ 3000) :
    Calls Tryz.prog 25 #[.slice A n c, .slice B m d, .slice C q k] w fun e w' => e = .returned (.bool true) ∧ Below w.heap.size w w' := by
  obtain ⟨rfl, hb⟩ := h
  obtain ⟨rfl, hb2⟩ := h2
  obtain ⟨rfl, hb3⟩ := h3
  exact widths_law A B C c d k l x z w hb hb2 hb3 hd (by omega) (by omega) (by omega)
/-- Bytes that are read; bytes that are owned: how many. -/
def RB (W : World) (A : Option Addr) (c n : Nat) : Prop := ∃ l, BytN W A c n l
def OB (W : World) (base : Nat) (A : Option Addr) (c n : Nat) : Prop := ∃ l, OwnB W base A c n l
theorem RB.below {W W' : World} {A : Option Addr} {c n : Nat} (h : RB W A c n) (hb : Below W.heap.size W W') : RB W' A c n := h.imp fun _ h => h.below hb
theorem RB.zero {W : World} : RB W none 0 0 := ⟨[], BytN.none⟩
theorem RB.take {W : World} {A : Option Addr} {c n : Nat} (h : RB W A c n) (i : Nat) (hi : i ≤ n) : RB W A c i := by
  obtain ⟨l, h⟩ := h
  exact ⟨_, h.take i hi⟩
theorem RB.le {W : World} {A : Option Addr} {c n : Nat} (h : RB W A c n) : n ≤ c ∧ c ≤ 9223372036854775807 := by
  obtain ⟨l, rfl, h⟩ := h
  exact ⟨h.le, h.max⟩
theorem OB.rb {W : World} {base : Nat} {A : Option Addr} {c n : Nat} (h : OB W base A c n) : RB W A c n := by
  obtain ⟨l, h⟩ := h
  exact ⟨l, h.bytN⟩
theorem OB.below {W W' : World} {base : Nat} {A : Option Addr} {c n : Nat} (h : OB W base A c n) (hb : Below W.heap.size W W') : OB W' base A c n := h.imp fun _ h => h.below hb
theorem OB.lower {W : World} {base base' : Nat} {A : Option Addr} {c n : Nat} (h : OB W base A c n) (hb : base' ≤ base) : OB W base' A c n := h.imp fun _ h => h.lower hb
theorem OB.nil {W : World} {base : Nat} : OB W base none 0 0 := ⟨[], rfl, World.ownsRow_nil _ _ _ _, by simp⟩
/-- A byte of what is read. -/
theorem RB.at_ {W : World} {A : Option Addr} {c n : Nat} (h : RB W A c n) (i : Nat) (hi : i < n) : ∃ b bo, A = some ⟨b, bo, none⟩ ∧ ∃ x : Nat, x < 256 ∧ W.cell? ⟨b, bo + i, none⟩ = some (.int .u8 (x : Int)) := by
  obtain ⟨l, rfl, h⟩ := h
  obtain ⟨b, bo, rfl, hc⟩ := h.cells (by omega)
  exact ⟨b, bo, rfl, l.getD i 0, h.lt _ (by simp [List.getD, hi]), hc i hi⟩
/-- A place of what is owned: it is read, it may be set. -/
theorem OB.at_ {W : World} {base : Nat} {A : Option Addr} {c n : Nat} (h : OB W base A c n) (i : Nat) (hi : i < n) :
    ∃ q, A = some ⟨q, 0, none⟩ ∧ n ≤ c ∧ base ≤ q ∧ q < W.heap.size ∧ ∃ x : Nat, x < 256 ∧ W.cell? ⟨q, i, none⟩ = some (.int .u8 (x : Int)) ∧ W.frozen? ⟨q, i, none⟩ = false ∧
      ∀ y : Nat, y < 256 → OB (W.setCell ⟨q, i, none⟩ (.int .u8 (y : Int))) base (some ⟨q, 0, none⟩) c n := by
  obtain ⟨l, h⟩ := h
  obtain ⟨q, hA, h1, h2, h3, h4, h5, h6, h7⟩ := h.at_ i hi
  exact ⟨q, hA, h1, h2, h3, l.getD i 0, h6, h4, h5, fun y hy => ⟨_, h7 y hy⟩⟩
theorem OB.ofMade {W : World} {base : Nat} : base ≤ W.heap.size → OB (W.alloc (.cells #[] 5)) base (some ⟨W.heap.size, 0, none⟩) 0 0 := fun h => ⟨[], rfl, World.ownsRow_made W #[] 0 h (by decide) rfl, by simp⟩
theorem RB.ofList (l : List Nat) (W : World) (hlt : ∀ x ∈ l, x < 256) (hm : l.length ≤ 9223372036854775807) : RB (W.alloc (.cells (u8s l).toArray 5)) (some ⟨W.heap.size, 0, none⟩) l.length l.length := ⟨l, rfl, byt_blk l (heap_alloc_new _ _) rfl hlt hm⟩
theorem OB.ofList (l : List Nat) (W : World) (hlt : ∀ x ∈ l, x < 256) (hm : l.length ≤ maxLen) : OB (W.alloc (.cells (u8s l).toArray 5)) W.heap.size (some ⟨W.heap.size, 0, none⟩) l.length l.length :=
  ⟨l, rfl, ⟨by simp [u8s], .inr ⟨W.heap.size, l.length, _, rfl, Nat.le_refl _, heap_alloc_new _ _, Nat.le_refl _, hm, by simp [u8s], by rw [Nat.mul_one]; exact List.take_of_length_le (by simp [u8s])⟩⟩, hlt⟩
/-- 'append(s, x...)'. -/
theorem wpl_appR {P : Program} {w : World} {ops : Array Oper} {rest : List Oper} {o : Oper} {a : Act} {Q : Exit → Act → World → Prop} (hgd : o.guard = none) (s x : Operand) (t : TypeId)
    (ho : o.op = .call { callee := .builtin .append, args := #[s, x], argTypes := #[t, t] }) (ht : P.underlying t = some (.slice 5)) (hinfo : (P.info? 5).map (fun i => (i.zero, i.size, i.bytes)) = some (some (.int .u8 0), 1, 1))
    (base : Nat) (A0 : Option Addr) (c0 n0 : Nat) (hs : a.eval s = .slice A0 n0 c0) (hown : OB w base A0 c0 n0)
    (A : Option Addr) (n c : Nat) (hx : a.eval x = .slice A n c) (hb : RB w A c n) (hlen : n0 + n ≤ 140737488355328) (hbase : base ≤ w.heap.size)
    (h : ∀ A' c' w', OB w' base A' c' (n0 + n) → Below base w w' → wpList P ops Q rest (a.put o.dst (.slice A' (n0 + n) c')) w') : wpList P ops Q (o :: rest) a w := by
  obtain ⟨l0, h0⟩ := hown
  obtain ⟨l, hl⟩ := hb
  exact wpl_appB hgd s x t ho ht hinfo base A0 c0 n0 l0 hs h0 A n c l hx hl hlen hbase fun A' c' w' h1 h2 => h A' c' w' ⟨_, h1⟩ h2
/-- 'append(s, x...)', x a string. -/
theorem wpl_strR {P : Program} {w : World} {ops : Array Oper} {rest : List Oper} {o : Oper} {a : Act} {Q : Exit → Act → World → Prop} (hgd : o.guard = none) (s x : Operand) (t u : TypeId)
    (ho : o.op = .call { callee := .builtin .append, args := #[s, x], argTypes := #[t, u] }) (ht : P.underlying t = some (.slice 5)) (hu : P.underlying u = some .string) (hinfo : (P.info? 5).map (fun i => (i.zero, i.size, i.bytes)) = some (some (.int .u8 0), 1, 1))
    (base : Nat) (A0 : Option Addr) (c0 n0 : Nat) (hs : a.eval s = .slice A0 n0 c0) (hown : OB w base A0 c0 n0) (b : ByteArray) (hx : a.eval x = .string b) (hlen : n0 + b.size ≤ 140737488355328) (hbase : base ≤ w.heap.size)
    (h : ∀ A' c' w', OB w' base A' c' (n0 + b.size) → Below base w w' → wpList P ops Q rest (a.put o.dst (.slice A' (n0 + b.size) c')) w') : wpList P ops Q (o :: rest) a w := by
  obtain ⟨l0, h0⟩ := hown
  obtain ⟨i, hi, hz0, hz1, hz2⟩ := info_parts hinfo
  refine Lib.wpList_append_own_string w hgd s x t u ho base 5 i ht hu hi hz0 hz1 hz2 _ n0 _ hs h0.row b hx (by unfold maxLen; omega) hlen hbase fun v' w' h1 h2 _ => ?_
  obtain ⟨A', c', rfl⟩ := own_form h1
  have e : Lib.strCells b = u8s (strNats b) := by simp [Lib.strCells, u8s, strNats]
  refine h A' c' w' ⟨l0 ++ strNats b, by rw [List.length_append, h0.len, strNats_length], by rw [u8s_append, ← e]; exact h1, fun y hy => ?_⟩ (below_grown (Below.refl _ _) h0.row hbase h2)
  rcases List.mem_append.1 hy with hy | hy
  · exact h0.lt y hy
  · simp only [strNats, List.mem_map] at hy
    obtain ⟨z, -, rfl⟩ := hy
    exact z.toNat_lt
/-- 'append(s, make([]byte, k)...)'. -/
theorem run_zeros {P : Program} (w : World) (t tn u ty e : TypeId) (i : TypeInfo) (ht : P.underlying t = some (.slice e)) (htn : P.underlying tn = some (.int .i64)) (hu : P.underlying u = some .string) (hi : P.info? e = some i) (hz : i.zero = some (.int .u8 0))
    (hsize : i.size = 1) (hby : i.bytes = 1) (A : Option Addr) (n c k : Nat) (hk : 0 < k) (hlen : n + k ≤ 140737488355328) (b : ByteArray) (hs : b.size = k) (hb : Lib.strCells b = List.replicate k (.int .u8 0)) :
    (Builtin.append_ #[t, tn] ty #[.slice A n c, .int .i64 (k : Int)]).run P w = (Builtin.append_ #[t, u] ty #[.slice A n c, .string b]).run P w := by
  have hw : IntKind.i64.wrap (k : Int) = k := by rw [IntKind.wrap_i64]; omega
  have hz1 : ∀ W : World, (Builtin.firstCells 1 k (.string b)).run P W = .ok (Builtin.zeroCells (Value.int .u8 0).cells k) W := fun W => by
    have := Lib.run_firstCells_string (P := P) W 1 b
    rw [hs, hb] at this
    rw [this]
    congr 1
    apply Array.ext'
    simp only [Builtin.zeroCells, Value.cells]
    apply List.ext_getElem
    · simp
    · intro j h1 h2
      simp [Nat.mod_one]
  have h1 : ¬ ((k : Int) < 0) := by omega
  have h2 : ¬ (281474976710656 < (k : Int)) := by omega
  have h3 : ¬ (k = 0) := by omega
  have h4 : ¬ (9223372036854775807 < ((n : Int) + (k : Int))) := by omega
  clear hb
  by_cases hr : n + k ≤ c
  · simp [Builtin.append_, run_underlying ht, run_underlying htn, run_underlying hu, sizeOf, typeInfo, zeroValue, hi, hz, hsize, hby, asInt, asIntOf, hw, h1, h2, h3, hs, hr, hz1, Builtin.lenOf]
  · have h5 : ¬ (281474976710656 < Builtin.nextslicecap (n + k) c) := by
      have := growslice_fits (need := n + k) (old := c) (bytes := 1) (by omega) (by omega)
      omega
    simp [Builtin.append_, run_underlying ht, run_underlying htn, run_underlying hu, sizeOf, typeInfo, zeroValue, hi, hz, hsize, hby, asInt, asIntOf, hw, h1, h2, h3, h4, h5, hs, hr, hz1, Builtin.lenOf]
theorem wpList_wanted {P : Program} {w : World} {ops : Array Oper} {rest : List Oper} {o : Oper} {a : Act} {Q : Exit → Act → World → Prop} (hg : Region.wanted o (yielded ops a.tmps) = true)
    (h : ∀ K : Act → World → Prop, (∀ a w, wpList P ops Q rest a w → K a w) → o.wp P a w K Q) : wpList P ops Q (o :: rest) a w :=
  wpList_step fun K hK => by
    rw [if_pos hg]
    exact h K hK
theorem wpl_zerR {P : Program} {w : World} {ops : Array Oper} {rest : List Oper} {o : Oper} {a : Act} {Q : Exit → Act → World → Prop} (hgd : Region.wanted o (yielded ops a.tmps) = true) (s x : Operand) (t tn u : TypeId)
    (ho : o.op = .call { callee := .builtin .append, args := #[s, x], argTypes := #[t, tn] }) (ht : P.underlying t = some (.slice 5)) (htn : P.underlying tn = some (.int .i64)) (hu : P.underlying u = some .string) (hinfo : (P.info? 5).map (fun i => (i.zero, i.size, i.bytes)) = some (some (.int .u8 0), 1, 1))
    (base : Nat) (A0 : Option Addr) (c0 n0 : Nat) (hs : a.eval s = .slice A0 n0 c0) (hown : OB w base A0 c0 n0) (k : Nat) (hk : 0 < k) (hx : a.eval x = .int .i64 (k : Int)) (hlen : n0 + k ≤ 140737488355328) (hbase : base ≤ w.heap.size)
    (h : ∀ A' c' w', OB w' base A' c' (n0 + k) → Below base w w' → wpList P ops Q rest (a.put o.dst (.slice A' (n0 + k) c')) w') : wpList P ops Q (o :: rest) a w := by
  obtain ⟨l0, h0⟩ := hown
  obtain ⟨i, hi, hz0, hz1, hz2⟩ := info_parts hinfo
  have hsz : (⟨(List.replicate k (0 : UInt8)).toArray⟩ : ByteArray).size = k := by simp [ByteArray.size]
  refine wpList_wanted hgd fun K hK => ?_
  obtain ⟨v', w', hr, h1, h2, -⟩ := Lib.run_append_own_string (P := P) w base t u o.type 5 i ht hu hi hz0 hz1 hz2 _ n0 _ h0.row ⟨(List.replicate k (0 : UInt8)).toArray⟩ (by rw [hsz]; unfold maxLen; omega) (by rw [hsz]; exact hlen) hbase
  rw [← run_zeros w t tn u o.type 5 i ht htn hu hi hz0 hz1 hz2 A0 n0 c0 k hk hlen ⟨(List.replicate k (0 : UInt8)).toArray⟩ hsz (by simp [Lib.strCells])] at hr
  rw [hsz] at h1
  unfold Oper.wp execOp
  simp only [ho, resolve, invoke, builtin, Sem.run_bind, Sem.run_pure, Result.andThen_ok, List.map_toArray, List.map_cons, List.map_nil, hs, hx, hr]
  obtain ⟨A', c', rfl⟩ := own_form h1
  have e : Lib.strCells ⟨(List.replicate k (0 : UInt8)).toArray⟩ = u8s (List.replicate k 0) := by simp [Lib.strCells, u8s]
  refine hK _ _ (h A' c' w' ⟨l0 ++ List.replicate k 0, by rw [List.length_append, h0.len, List.length_replicate], by rw [u8s_append, ← e]; exact h1, fun y hy => ?_⟩ (below_grown (Below.refl _ _) h0.row hbase h2))
  rcases List.mem_append.1 hy with hy | hy
  · exact h0.lt y hy
  · rw [(List.mem_replicate.1 hy).2]
    omega
theorem mapsR {A : Option Addr} {c n : Nat} {w : World} (g : Int) (h : RB w A c n) (hd : HdVar w) (hn : n ≤ 3000) : Calls Tryz.prog 28 #[.slice A n c, .int .i64 g] w fun e w' => e = .returned (.bool true) ∧ Below w.heap.size w w' := by
  obtain ⟨l, h⟩ := h
  exact mapsL g h hd hn
theorem tabsR {A : Option Addr} {c n : Nat} {w : World} (h : RB w A c n) (hd : HdVar w) : Calls Tryz.prog 7 #[.slice A n c] w fun e w' => e = .returned (.bool true) ∧ Below w.heap.size w w' := by
  obtain ⟨l, h⟩ := h
  exact tabsL h hd
theorem headsR {A : Option Addr} {c n : Nat} {w : World} (h : RB w A c n) (hd : HdVar w) : Calls Tryz.prog 27 #[.slice A n c] w fun e w' => e = .returned (.bool true) ∧ Below w.heap.size w w' := by
  obtain ⟨l, h⟩ := h
  exact headsL h hd
theorem widR {A B C : Option Addr} {c n d m k q : Nat} {w : World} (h : RB w A c n) (h2 : RB w B d m) (h3 : RB w C k q) (hd : HdVar w) (hn : n ≤ 3000) (hm : m ≤ 3000) (hq : q ≤ 3000) :
    Calls Tryz.prog 25 #[.slice A n c, .slice B m d, .slice C q k] w fun e w' => e = .returned (.bool true) ∧ Below w.heap.size w w' := by
  obtain ⟨l, h⟩ := h
  obtain ⟨x, h2⟩ := h2
  obtain ⟨z, h3⟩ := h3
  exact widL h h2 h3 hd hn hm hq
theorem put_form {w w' : World} {r : Option (List Nat)} {e : Ending} (h : PutPost w r e w') (hlt : ∀ out, r = some out → ∀ y ∈ out, y < 256) : ∃ (A' : Option Addr) (c' : Nat) (v : Int), e = .returned (.tuple #[.slice A' (r.getD []).length c', .int .i64 v]) ∧ OB w' w.heap.size A' c' (r.getD []).length ∧ Below w.heap.size w w' := by
  cases r with
  | none =>
    obtain ⟨h1, hb⟩ := h
    exact ⟨none, 0, 2, h1, OB.nil, hb⟩
  | some out =>
    obtain ⟨A', c', h1, ho, hb⟩ := h
    exact ⟨A', c', 0, h1, ⟨out, rfl, ho, hlt out rfl⟩, hb⟩
set_option maxRecDepth 100000 in
/-- The statement's put. -/
theorem putL {A : Option Addr} {cap n : Nat} {l : List Int} {s : ByteArray} {w : World} (h : IntsR .i64 w A cap l) (hn : l.length = n) (hl : l.length ≤ 16777216) (hs : l.length = s.size) :
    Calls Tryz.prog 4 #[.string s, .slice A n cap] w fun e w' => ∃ A' c', e = .returned (.slice A' ((putAll (planOf s l)).getD []).length c') ∧ OB w' w.heap.size A' c' ((putAll (planOf s l)).getD []).length ∧ Below w.heap.size w w' := by
  subst hn
  have HP := Lib.hid (put_ref A cap l s w h hl hs)
  have HL := Lib.hid (fun out (hq : putAll (planOf s l) = some out) => (putAll_length hq).2)
  clear h hl hs
  generalize putAll (planOf s l) = r at *
  have HX := Lib.hid (fun (e : Ending) (w' : World) (hx : PutPost w r e w') => put_form hx HL.out)
  clear HL
  generalize (r.getD []).length = m at *
  go_enter Tryz.func4, Tryz.ntmps4
  go_wp2_with fail
  refine HP.out.mono ?_
  intro e w' hx
  obtain ⟨A', c', v, rfl, ho, hb⟩ := HX.out e w' hx
  have HO := Lib.hid ho
  have HB := Lib.hid hb
  clear hx ho hb HP HX
  go_wp2_with fail
  go_ret
  exact ⟨A', c', rfl, HO.out, HB.out⟩
/-- put on numbers that were just made. -/
theorem putN {w : World} {cs : Array Value} (s : ByteArray) (l : List Int) (n m : Nat) (hc : (l.map (Value.int .i64)).toArray = cs) (hn : l.length = n) (hl : l.length ≤ 16777216) (hs : l.length = s.size) (hm : ((putAll (planOf s l)).getD []).length = m) :
    Calls Tryz.prog 4 #[.string s, .slice (some ⟨w.heap.size, 0, none⟩) n n] (w.alloc (.cells cs 2)) fun e w' => ∃ A' c', e = .returned (.slice A' m c') ∧ OB w' w.heap.size A' c' m ∧ Below w.heap.size w w' := by
  subst hc
  subst hn
  subst hm
  refine (putL (intsR_new .i64 w l 2 (by omega)) rfl hl hs).mono ?_
  rintro e w' ⟨A', c', rfl, ho, hb⟩
  exact ⟨A', c', rfl, ho.lower (by simp), ((Below.refl _ _).alloc (Nat.le_refl _) _).trans (hb.mono (by simp))⟩
theorem putM {w : World} {cs : Array Value} (s : ByteArray) (l : List Int) (n : Nat) (hc : (l.map (Value.int .i64)).toArray = cs) (hn : l.length = n) (hl : l.length ≤ 16777216) (hs : l.length = s.size) :
    Calls Tryz.prog 4 #[.string s, .slice (some ⟨w.heap.size, 0, none⟩) n n] (w.alloc (.cells cs 2)) fun e w' => ∃ A' c' m, e = .returned (.slice A' m c') ∧ m ≤ 4 * n ∧ OB w' w.heap.size A' c' m ∧ Below w.heap.size w w' := by
  refine (putN s l n _ hc hn hl hs rfl).mono ?_
  rintro e w' ⟨A', c', rfl, ho, hb⟩
  refine ⟨A', c', _, rfl, ?_, ho, hb⟩
  rcases hq : putAll (planOf s l) with _ | out
  · simp
  · have := (putAll_length hq).1
    simp only [Option.getD_some]
    have h2 : (planOf s l).length ≤ n := by simp [planOf, strNats_length]; omega
    omega
set_option maxRecDepth 100000 in
/-- A cmap with one subtable. -/
theorem cmapR {A : Option Addr} {c n : Nat} {w : World} (enc : Int) (h : RB w A c n) (hn : n ≤ 2000) :
    Calls Tryz.prog 29 #[.int .i64 enc, .slice A n c] w fun e w' => ∃ A' c' m, e = .returned (.slice A' m c') ∧ RB w' A' c' m ∧ m ≤ 3000 ∧ Below w.heap.size w w' := by
  have HY := Lib.hid h
  clear h
  go_enter Tryz.func29, Tryz.ntmps29
  go_wp2_with fail
  refine (putM _ [0, 1, 3, enc, 12] 5 rfl rfl (by simp) rfl).mono ?_
  rintro e w2 ⟨A1, c1, m, rfl, hm, ho, hb⟩
  have HO := Lib.hid ho
  have HB := Lib.hid hb
  have HY2 := Lib.hid (HY.out.below hb)
  have hsz := hb.size
  clear ho hb
  go_wp2_with (at_builtin; refine wpl_appR rfl (.tmp 7) (.tmp 8) 25 rfl Tryz.underlying25 info_u8 w.heap.size A1 c1 m rfl HO.out A n c rfl HY2.out (by omega) hsz ?_; intro A' c' w' ho3 hb3; have HO3 := Lib.hid ho3; have HB3 := Lib.hid hb3; clear ho3 hb3)
  go_ret
  exact ⟨A', c', m + n, rfl, HO3.out.rb, by omega, HB.out.trans HB3.out⟩
end Go.Proofs.YtfbppbelcbbhlaaGreatDoor.Sf
