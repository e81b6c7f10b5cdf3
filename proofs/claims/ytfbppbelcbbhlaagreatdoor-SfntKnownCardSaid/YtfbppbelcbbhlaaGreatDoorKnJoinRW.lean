/- How many bytes rows have together. -/
import Derived.Test.YtfbppbelcbbhlaaGreatDoorKnRound2
import Derived.Test.YtfbppbelcbbhlaaGreatDoorKnJoin
import Derived.Test.YtfbppbelcbbhlaaGreatDoorKnTabsW
import Derived.Lib.OwnKind
import Derived.Test.YtfbppbelcbbhlaaGreatDoorKnRefPut
import Derived.Maps.AppendAt
namespace Go.Proofs.YtfbppbelcbbhlaaGreatDoor.Sf
open Go Go.RowKit

def lenTo (ls : List (List Nat)) : Nat → Nat
  | 0 => 0
  | k + 1 => lenTo ls k + (ls.getD k []).length
theorem upTo_lenTo (ls : List (List Nat)) (k : Nat) : upTo ls k ≤ lenTo ls k + 3 * k := by
  induction k with
  | zero => simp [upTo, lenTo]
  | succ k ih => have := up_ge (ls.getD k []).length; simp only [upTo, lenTo]; omega
end Go.Proofs.YtfbppbelcbbhlaaGreatDoor.Sf

/- Two rows that grow side by side: names and parts. -/
namespace Go.Proofs.YtfbppbelcbbhlaaGreatDoor.Sf
open Go Go.RowKit

theorem own_keep {w w' : World} {base e size n : Nat} {v : Value} {xs : List Value} {row : Option Nat} (h : w.ownsRow base e size v n xs) (hg : w.grownBy w' row) (hne : ∀ g, v.ownBlock = some g → some g ≠ row) : w'.ownsRow base e size v n xs := by
  refine ⟨h.1, ?_⟩
  rcases h.2 with h0 | ⟨g, cap, cur, rfl, h1, h2, h3⟩
  · exact .inl h0
  · exact .inr ⟨g, cap, cur, rfl, h1, (hg.block g (lt_of_heap h2) (hne g rfl)).trans h2, h3⟩
theorem own_kinds {w : World} {b1 b2 e1 e2 s1 s2 n1 n2 : Nat} {v1 v2 : Value} {x1 x2 : List Value} (h1 : w.ownsRow b1 e1 s1 v1 n1 x1) (h2 : w.ownsRow b2 e2 s2 v2 n2 x2) (he : e1 ≠ e2) : ∀ g, v1.ownBlock = some g → some g ≠ v2.ownBlock := by
  intro g hg h
  obtain ⟨c1, f1, hc1⟩ := Lib.ownsRow_kind h1 g hg
  obtain ⟨c2, f2, hc2⟩ := Lib.ownsRow_kind h2 g h.symm
  rw [hc1] at hc2
  cases hc2
  exact he rfl
def tgs (l : List Tg) : List Value := l.flatMap Tg.cells
theorem tgs_append (l m : List Tg) : tgs (l ++ m) = tgs l ++ tgs m := by simp [tgs]
theorem tgs_at : ∀ (l : List Tg) (i : Nat) (t : Tg), l[i]? = some t → ∀ j, j < 4 → (tgs l)[i * 4 + j]? = t.cells[j]?
  | [], _, _, h, _, _ => by cases h
  | x :: l, 0, t, h, j, hj => by
    cases h
    show (x.cells ++ tgs l)[0 * 4 + j]? = _
    rw [List.getElem?_append_left (by show _ < 4; omega), Nat.zero_mul, Nat.zero_add]
  | x :: l, i + 1, t, h, j, hj => by
    have ih := tgs_at l i t h j hj
    show (x.cells ++ tgs l)[(i + 1) * 4 + j]? = _
    rw [List.getElem?_append_right (by show 4 ≤ _; omega), show (i + 1) * 4 + j - x.cells.length = i * 4 + j from by show (i + 1) * 4 + j - 4 = _; omega]
    exact ih
theorem tgs_one (l : List Tg) : ∀ u ∈ tgs l, u.oneCell' = true := by
  intro u hu
  obtain ⟨t, -, h⟩ := List.mem_flatMap.1 hu
  simp only [Tg.cells, List.mem_cons, List.not_mem_nil, or_false] at h
  rcases h with rfl | rfl | rfl | rfl <;> rfl
theorem own_bounds {w : World} {base e size n c : Nat} {A : Option Addr} {xs : List Value} (h : w.ownsRow base e size (.slice A n c) n xs) : n ≤ c ∧ c ≤ 9223372036854775807 ∧ (A = none → c = 0) := by
  rcases h.2 with ⟨h0, h1⟩ | ⟨g, cap, cur, h0, h1, h2, h3, h4, h5, h6⟩
  · cases h0
    exact ⟨by omega, by omega, fun _ => rfl⟩
  · cases h0
    unfold maxLen at h4
    exact ⟨h3, by omega, fun h => by cases h⟩
theorem tags_of_own {w : World} {base e c : Nat} {A : Option Addr} {l : List Tg} (h : w.ownsRow base e 4 (.slice A l.length c) l.length (tgs l)) (hok : ∀ t ∈ l, t.ok) : TagsR w A c l := by
  obtain ⟨h1, h2, h3⟩ := own_bounds h
  refine ⟨h1, h2, h3, fun hn => ?_, hok⟩
  obtain ⟨g, hA, -⟩ := own_pos h (by omega)
  subst hA
  refine ⟨g, 0, rfl, fun i t ht => ?_⟩
  have hi : i < l.length := (List.getElem?_eq_some_iff.1 ht).1
  have hx := tgs_at l i t ht
  rw [Nat.zero_add]
  refine ⟨?_, ?_, ?_, ?_⟩
  · have := hx 0 (by omega); rw [show i * 4 = i * 4 + 0 from rfl, h.cellAt _ (by omega), this]; rfl
  · rw [h.cellAt _ (by omega), hx 1 (by omega)]; rfl
  · rw [h.cellAt _ (by omega), hx 2 (by omega)]; rfl
  · rw [h.cellAt _ (by omega), hx 3 (by omega)]; rfl
theorem bods_of_own {w : World} {base e c : Nat} {A : Option Addr} {l : List (List Nat)} {xs : List Value} (h : w.ownsRow base e 1 (.slice A l.length c) l.length xs) (hx : ∀ i, i < l.length → ∃ A' c', xs[i]? = some (.slice A' (l.getD i []).length c') ∧ Byt w A' c' (l.getD i [])) : BodsR w A c l := by
  obtain ⟨h1, h2, h3⟩ := own_bounds h
  refine ⟨h1, h2, h3, fun hn => ?_⟩
  obtain ⟨g, hA, -⟩ := own_pos h (by omega)
  subst hA
  refine ⟨g, 0, rfl, fun i t ht => ?_⟩
  have hi : i < l.length := (List.getElem?_eq_some_iff.1 ht).1
  obtain ⟨A', c', hx1, hy⟩ := hx i hi
  have hg : l.getD i [] = t := by rw [List.getD_eq_getElem?_getD, ht]; rfl
  rw [hg] at hx1 hy
  exact ⟨A', c', by rw [Nat.zero_add, h.cellAt _ (by omega), hx1], hy⟩
theorem info_tag : (Tryz.prog.info? 23).map (fun i => (i.zero, i.size, i.bytes)) = some (some (.agg #[.int .u8 0, .int .u8 0, .int .u8 0, .int .u8 0]), 4, 4) := by kernel_rfl
theorem info_bs : (Tryz.prog.info? 25).map (fun i => (i.zero, i.size, i.bytes)) = some (some (.slice none 0 0), 1, 24) := by kernel_rfl
theorem wp_app {P : Program} {w : World} {o : Oper} {a : Act} {K : Act → World → Prop} {Q : Exit → Act → World → Prop} (s x : Operand) (t : TypeId)
    (ho : o.op = .call { callee := .builtin .append, args := #[s, x], argTypes := #[t, t] })
    (base : Nat) (e : TypeId) {z : Value} {size bytes : Nat} (ht : P.underlying t = some (.slice e)) (hinfo : (P.info? e).map (fun i => (i.zero, i.size, i.bytes)) = some (some z, size, bytes))
    (hzs : z.cells.size = size) (hsz : 0 < size)
    (v : Value) (n : Nat) (xs : List Value) (hs : a.eval s = v) (hown : w.ownsRow base e size v n xs)
    (ad : Addr) (m c : Nat) (news : List Value) (hx : a.eval x = .slice (some ad) m c) (hl : news.length = m * size)
    (hnews : ∀ j u, news[j]? = some u → w.cell? (ad.add j) = some u) (h1 : ∀ u ∈ news, u.oneCell' = true)
    (h63 : n + m ≤ maxLen) (hbytes : (n + m) * bytes ≤ 140737488355328) (hbase : base ≤ w.heap.size)
    (h : ∀ v' w', w'.ownsRow base e size v' (n + m) (xs ++ news) → w.grownBy w' v.ownBlock → K (a.put o.dst v') w') : o.wp P a w K Q := by
  obtain ⟨i, hi, hz0, hz1, hz2⟩ := info_parts hinfo
  exact wp_append_own w s x t ho base e i z size bytes ht hi hz0 hz1 hz2 hzs hsz v n xs hs hown ad m c news hx hl hnews h1 h63 hbytes hbase (fun v' w' h2 h3 _ => h v' w' h2 h3)
theorem news_block (w : World) (c : Array Value) (T : TypeId) (cs : List Value) (hc : c.toList = cs) : ∀ ad, some (⟨w.heap.size, 0, none⟩ : Addr) = some ad → ∀ j u, cs[j]? = some u → (w.alloc (.cells c T)).cell? (ad.add j) = some u := by
  intro ad had j u hu
  cases had
  rw [add_lit, Nat.zero_add]
  refine (cell_of_blk (heap_alloc_new w _) j).trans ?_
  rw [← hu, ← hc, Array.getElem?_toList]
theorem tag_one (t : Tg) : ∀ u ∈ t.cells, u.oneCell' = true := by
  intro u hu
  simp only [Tg.cells, List.mem_cons, List.not_mem_nil, or_false] at hu
  rcases hu with rfl | rfl | rfl | rfl <;> rfl
end Go.Proofs.YtfbppbelcbbhlaaGreatDoor.Sf

/- Two rows of bytes that grow side by side: where an append lies. -/
namespace Go.Proofs.YtfbppbelcbbhlaaGreatDoor.Sf
open Go Go.RowKit

def NeBlk (u v : Value) : Prop := ∀ g, u.ownBlock = some g → v.ownBlock ≠ some g
theorem NeBlk.symm {u v : Value} (h : NeBlk u v) : NeBlk v u := fun g h1 h2 => h g h2 h1
theorem own_block_lt {w : World} {base e size n : Nat} {v : Value} {xs : List Value} (h : w.ownsRow base e size v n xs) : ∀ g, v.ownBlock = some g → g < w.heap.size := fun g hg => by
  obtain ⟨c, f, hc⟩ := Lib.ownsRow_kind h g hg
  exact lt_of_heap hc
/-- The other row stays, and stays another one. -/
theorem other_row {w w' : World} {b e s n : Nat} {u v v' : Value} {xs : List Value} (hu : w.ownsRow b e s u n xs) (hne : NeBlk u v) (hg : w.grownBy w' v.ownBlock) (h5 : v'.ownBlock = v.ownBlock ∨ v'.ownBlock = some w.heap.size) :
    w'.ownsRow b e s u n xs ∧ NeBlk u v' :=
  ⟨own_keep hu hg (fun g h1 h2 => hne g h1 h2.symm), fun g h1 h2 => by
    rcases h5 with h | h
    · exact hne g h1 (h.symm.trans h2)
    · have := own_block_lt hu g h1
      rw [h] at h2
      cases h2
      omega⟩
theorem wpl_app2 {P : Program} {w : World} {ops : Array Oper} {rest : List Oper} {o : Oper} {a : Act} {Q : Exit → Act → World → Prop} (hgd : o.guard = none) (s x : Operand) (t : TypeId)
    (ho : o.op = .call { callee := .builtin .append, args := #[s, x], argTypes := #[t, t] })
    (base : Nat) (e : TypeId) {z : Value} {size bytes : Nat} (ht : P.underlying t = some (.slice e)) (hinfo : (P.info? e).map (fun i => (i.zero, i.size, i.bytes)) = some (some z, size, bytes))
    (hzs : z.cells.size = size) (hsz : 0 < size)
    (v : Value) (n : Nat) (xs : List Value) (hs : a.eval s = v) (hown : w.ownsRow base e size v n xs)
    (A : Option Addr) (m c : Nat) (news : List Value) (hx : a.eval x = .slice A m c) (hl : news.length = m * size)
    (hnone : A = none → m = 0 ∧ c = 0) (hnews : ∀ ad, A = some ad → ∀ j u, news[j]? = some u → w.cell? (ad.add j) = some u) (h1 : ∀ u ∈ news, u.oneCell' = true)
    (h63 : n + m ≤ maxLen) (hbytes : (n + m) * bytes ≤ 140737488355328) (hbase : base ≤ w.heap.size)
    (h : ∀ v' w', w'.ownsRow base e size v' (n + m) (xs ++ news) → w.grownBy w' v.ownBlock → (v'.ownBlock = v.ownBlock ∨ v'.ownBlock = some w.heap.size) → wpList P ops Q rest (a.put o.dst v') w') : wpList P ops Q (o :: rest) a w := by
  obtain ⟨i, hi, hz0, hz1, hz2⟩ := info_parts hinfo
  cases A with
  | none =>
    obtain ⟨rfl, rfl⟩ := hnone rfl
    have hn0 : news = [] := List.eq_nil_of_length_eq_zero (by simpa using hl)
    subst hn0
    refine wpList_append_own_none hgd s x t ho base e i size ht hi v n xs hs hown hx ?_
    have := h v w (by simpa using hown) (World.grownBy.refl w _) (.inl rfl)
    exact this
  | some ad => exact wpList_append_own_at w hgd s x t ho base e i z size bytes ht hi hz0 hz1 hz2 hzs hsz v n xs hs hown ad m c news hx hl (hnews ad rfl) h1 h63 hbytes hbase (fun v' w' h2 h3 _ h5 => h v' w' h2 h3 h5)
theorem wp_app2 {P : Program} {w : World} {o : Oper} {a : Act} {K : Act → World → Prop} {Q : Exit → Act → World → Prop} (s x : Operand) (t : TypeId)
    (ho : o.op = .call { callee := .builtin .append, args := #[s, x], argTypes := #[t, t] })
    (base : Nat) (e : TypeId) {z : Value} {size bytes : Nat} (ht : P.underlying t = some (.slice e)) (hinfo : (P.info? e).map (fun i => (i.zero, i.size, i.bytes)) = some (some z, size, bytes))
    (hzs : z.cells.size = size) (hsz : 0 < size)
    (v : Value) (n : Nat) (xs : List Value) (hs : a.eval s = v) (hown : w.ownsRow base e size v n xs)
    (ad : Addr) (m c : Nat) (news : List Value) (hx : a.eval x = .slice (some ad) m c) (hl : news.length = m * size)
    (hnews : ∀ j u, news[j]? = some u → w.cell? (ad.add j) = some u) (h1 : ∀ u ∈ news, u.oneCell' = true)
    (h63 : n + m ≤ maxLen) (hbytes : (n + m) * bytes ≤ 140737488355328) (hbase : base ≤ w.heap.size)
    (h : ∀ v' w', w'.ownsRow base e size v' (n + m) (xs ++ news) → w.grownBy w' v.ownBlock → (v'.ownBlock = v.ownBlock ∨ v'.ownBlock = some w.heap.size) → K (a.put o.dst v') w') : o.wp P a w K Q := by
  obtain ⟨i, hi, hz0, hz1, hz2⟩ := info_parts hinfo
  obtain ⟨v', w', hr, h2, h3, _, h5⟩ := run_append_own_at (P := P) w base t o.type e i z size bytes ht hi hz0 hz1 hz2 hzs hsz v n xs hown ad m c news hl hnews h1 h63 hbytes hbase
  unfold Oper.wp execOp
  simp only [ho, resolve, invoke, builtin, Sem.run_bind, Sem.run_pure, Result.andThen_ok, List.map_toArray, List.map_cons, List.map_nil, hs, hx, hr]
  exact h v' w' h2 h3 h5
theorem tabSum_lt2 (t : Tg) (l : List Nat) : tabSum t l < 4294967296 := by
  unfold tabSum
  split <;> exact sumTo_lt _ _
/-- Bytes set one after the other. -/
def putAt (l : List Nat) (p : Nat) (X : List Nat) (j : Nat) : List Nat := l.take p ++ X.take j ++ l.drop (p + j)
theorem putAt_length (l : List Nat) (p : Nat) (X : List Nat) (j : Nat) (h1 : j ≤ X.length) (h2 : p + j ≤ l.length) : (putAt l p X j).length = l.length := by
  simp [putAt]
  omega
theorem putAt_zero (l : List Nat) (p : Nat) (X : List Nat) : putAt l p X 0 = l := by simp [putAt]
theorem putAt_set (l : List Nat) (p : Nat) (X : List Nat) (j : Nat) (h1 : j < X.length) (h2 : p + j < l.length) : (putAt l p X j).set (p + j) (X.getD j 0) = putAt l p X (j + 1) := by
  have e1 : (l.take p ++ X.take j).length = p + j := by simp; omega
  have e2 : X.take (j + 1) = X.take j ++ [X.getD j 0] := take_snoc X j 0 h1
  have e3 : l.drop (p + j) = l.getD (p + j) 0 :: l.drop (p + (j + 1)) := by
    rw [List.drop_eq_getElem_cons h2, List.getD_eq_getElem?_getD, List.getElem?_eq_getElem h2]
    rfl
  unfold putAt
  rw [e2, e3, List.set_append_right _ _ (by omega), e1, Nat.sub_self, List.set_cons_zero]
  simp only [List.append_assoc, List.singleton_append]
theorem putAt_lt (l : List Nat) (p : Nat) (X : List Nat) (j : Nat) (h1 : ∀ x ∈ l, x < 256) (h2 : ∀ x ∈ X, x < 256) : ∀ x ∈ putAt l p X j, x < 256 := by
  intro x hx
  simp only [putAt, List.mem_append] at hx
  rcases hx with (h | h) | h
  · exact h1 x (List.mem_of_mem_take h)
  · exact h2 x (List.mem_of_mem_take h)
  · exact h1 x (List.mem_of_mem_drop h)
theorem putAt_zeros (l : List Nat) (p : Nat) : putAt l p [0, 0, 0, 0] 4 = whole0 l p := rfl
theorem putAt_whole (l : List Nat) (p : Nat) (h : p + 4 ≤ l.length) : putAt (whole0 l p) p (be (wholeS l p) 4) 4 = whole4 l p := by
  have hd : (l.take p).length = p := by simp; omega
  have h1 : (whole0 l p).take p = l.take p := by
    unfold whole0
    rw [List.append_assoc]
    exact List.take_left' hd
  have h2 : (whole0 l p).drop (p + 4) = l.drop (p + 4) := by
    unfold whole0
    exact List.drop_left' (by rw [List.length_append, hd]; rfl)
  unfold putAt
  rw [h1, h2, List.take_of_length_le (Nat.le_of_eq (be_length _ _))]
  rfl
theorem I_put (a : Nat) (ha : a ≤ 4294967295) : putAll (planOf ⟨#[73]⟩ [(a : Int)]) = some (be a 4) := by
  have e : planOf ⟨#[73]⟩ [(a : Int)] = [(73, (a : Int))] := rfl
  have a1 : putOne (73, (a : Int)) = some (be a 4) := putOne_I _ (by omega) (by omega)
  rw [e]
  simp only [putAll, a1, Option.bind_some, Option.map_some, List.append_nil]
theorem u32_sub (sm S : Nat) (h1 : sm < 4294967296) (h2 : S = (2981146554 + 4294967296 - sm) % 4294967296) : IntKind.u32.wrap (2981146554 - (sm : Int)) = (S : Int) := by
  simp [IntKind.wrap, IntKind.bits, IntKind.signed]
  omega
theorem up_ok (n : Nat) (w : World) (h : n ≤ 4611686018427387904) : Calls Tryz.prog 18 #[.int .i64 n] w fun e w' => e = .returned (.int .i64 (up n : Nat)) ∧ w = w' := by
  have w1 : IntKind.i64.wrap ((n : Int) + 3) = ((n + 3 : Nat) : Int) := by rw [IntWalk.i64_in _ (by omega)]; omega
  have w2 : IntKind.i64.wrap ((((n + 3 : Nat) : Int)).tdiv 4) = (((n + 3) / 4 : Nat) : Int) := by
    rw [show (((n + 3 : Nat) : Int)).tdiv 4 = (((n + 3) / 4 : Nat) : Int) from by rw [Int.tdiv_eq_ediv_of_nonneg (by omega)]; omega, IntWalk.i64_in _ (by omega)]
  have w2b : (((n + 3 : Nat) : Int)).tdiv 4 = (((n + 3) / 4 : Nat) : Int) := by rw [Int.tdiv_eq_ediv_of_nonneg (by omega)]; omega
  have w3 : IntKind.i64.wrap ((((n + 3) / 4 : Nat) : Int) * 4) = (((n + 3) / 4 * 4 : Nat) : Int) := by rw [IntWalk.i64_in _ (by omega)]; omega
  have HU : Hid (up n = (n + 3) / 4 * 4) := Lib.hid rfl
  go_enter Tryz.func18, Tryz.ntmps18
  go_wp2
  go_ret
  refine ⟨?_, rfl⟩
  show Ending.returned (Value.int .i64 (((n : Int) + 3) / 4 * 4)) = _
  rw [HU.out]
  congr 2
end Go.Proofs.YtfbppbelcbbhlaaGreatDoor.Sf
