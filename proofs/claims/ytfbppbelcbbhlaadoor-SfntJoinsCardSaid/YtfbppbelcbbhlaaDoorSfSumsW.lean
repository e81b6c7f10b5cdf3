/- Two rows that grow side by side: names and parts. -/
import Derived.Test.YtfbppbelcbbhlaaDoorSfJoin
import Derived.Test.YtfbppbelcbbhlaaDoorSfTabsW
import Derived.Lib.OwnKind
namespace Go.Proofs.YtfbppbelcbbhlaaDoor.Sf
open Go Go.RowKit

theorem own_keep {w w' : World} {base e size n : Nat} {v : Value} {xs : List Value} {row : Option Nat} (h : w.ownsRow base e size v n xs) (hg : w.grownBy w' row) (hne : ∀ g, v.ownBlock = some g → some g ≠ row) : w'.ownsRow base e size v n xs := by
  refine ⟨h.1, ?_⟩
  rcases h.2 with h0 | ⟨g, cap, cur, rfl, h1, h2, h3⟩
  · exact .inl h0
  · exact .inr ⟨g, cap, cur, rfl, h1, (hg.block g (lt_of_heap h2) (hne g rfl)).trans h2, h3⟩
theorem own_kinds {w : World} {b1 b2 e1 e2 s1 s2 n1 n2 : Nat} {v1 v2 : Value} {x1 x2 : List Value} (h1 : w.ownsRow b1 e1 s1 v1 n1 x1) (h2 : w.ownsRow b2 e2 s2 v2 n2 x2) (he : e1 ≠ e2) : ∀ g, v1.ownBlock = some g → some g ≠ v2.ownBlock := by
  intro g hg h
  obtain ⟨c1, f1, hc1⟩ := Lib.ownsRow_kind h1 g hg
  obtain ⟨c2, f2, hc2⟩ := Lib.ownsRow_kind h2 g h.symm
  rw [hc1] at hc2
  cases hc2
  exact he rfl
def tgs (l : List Tg) : List Value := l.flatMap Tg.cells
theorem tgs_append (l m : List Tg) : tgs (l ++ m) = tgs l ++ tgs m := by simp [tgs]
theorem tgs_at : ∀ (l : List Tg) (i : Nat) (t : Tg), l[i]? = some t → ∀ j, j < 4 → (tgs l)[i * 4 + j]? = t.cells[j]?
  | [], _, _, h, _, _ => by cases h
  | x :: l, 0, t, h, j, hj => by
    cases h
    show (x.cells ++ tgs l)[0 * 4 + j]? = _
    rw [List.getElem?_append_left (by show _ < 4; omega), Nat.zero_mul, Nat.zero_add]
  | x :: l, i + 1, t, h, j, hj => by
    have ih := tgs_at l i t h j hj
    show (x.cells ++ tgs l)[(i + 1) * 4 + j]? = _
    rw [List.getElem?_append_right (by show 4 ≤ _; omega), show (i + 1) * 4 + j - x.cells.length = i * 4 + j from by show (i + 1) * 4 + j - 4 = _; omega]
    exact ih
theorem tgs_one (l : List Tg) : ∀ u ∈ tgs l, u.oneCell' = true := by
  intro u hu
  obtain ⟨t, -, h⟩ := List.mem_flatMap.1 hu
  simp only [Tg.cells, List.mem_cons, List.not_mem_nil, or_false] at h
  rcases h with rfl | rfl | rfl | rfl <;> rfl
theorem own_bounds {w : World} {base e size n c : Nat} {A : Option Addr} {xs : List Value} (h : w.ownsRow base e size (.slice A n c) n xs) : n ≤ c ∧ c ≤ 9223372036854775807 ∧ (A = none → c = 0) := by
  rcases h.2 with ⟨h0, h1⟩ | ⟨g, cap, cur, h0, h1, h2, h3, h4, h5, h6⟩
  · cases h0
    exact ⟨by omega, by omega, fun _ => rfl⟩
  · cases h0
    unfold maxLen at h4
    exact ⟨h3, by omega, fun h => by cases h⟩
theorem tags_of_own {w : World} {base e c : Nat} {A : Option Addr} {l : List Tg} (h : w.ownsRow base e 4 (.slice A l.length c) l.length (tgs l)) (hok : ∀ t ∈ l, t.ok) : TagsR w A c l := by
  obtain ⟨h1, h2, h3⟩ := own_bounds h
  refine ⟨h1, h2, h3, fun hn => ?_, hok⟩
  obtain ⟨g, hA, -⟩ := own_pos h (by omega)
  subst hA
  refine ⟨g, 0, rfl, fun i t ht => ?_⟩
  have hi : i < l.length := (List.getElem?_eq_some_iff.1 ht).1
  have hx := tgs_at l i t ht
  rw [Nat.zero_add]
  refine ⟨?_, ?_, ?_, ?_⟩
  · have := hx 0 (by omega); rw [show i * 4 = i * 4 + 0 from rfl, h.cellAt _ (by omega), this]; rfl
  · rw [h.cellAt _ (by omega), hx 1 (by omega)]; rfl
  · rw [h.cellAt _ (by omega), hx 2 (by omega)]; rfl
  · rw [h.cellAt _ (by omega), hx 3 (by omega)]; rfl
theorem bods_of_own {w : World} {base e c : Nat} {A : Option Addr} {l : List (List Nat)} {xs : List Value} (h : w.ownsRow base e 1 (.slice A l.length c) l.length xs) (hx : ∀ i, i < l.length → ∃ A' c', xs[i]? = some (.slice A' (l.getD i []).length c') ∧ Byt w A' c' (l.getD i [])) : BodsR w A c l := by
  obtain ⟨h1, h2, h3⟩ := own_bounds h
  refine ⟨h1, h2, h3, fun hn => ?_⟩
  obtain ⟨g, hA, -⟩ := own_pos h (by omega)
  subst hA
  refine ⟨g, 0, rfl, fun i t ht => ?_⟩
  have hi : i < l.length := (List.getElem?_eq_some_iff.1 ht).1
  obtain ⟨A', c', hx1, hy⟩ := hx i hi
  have hg : l.getD i [] = t := by rw [List.getD_eq_getElem?_getD, ht]; rfl
  rw [hg] at hx1 hy
  exact ⟨A', c', by rw [Nat.zero_add, h.cellAt _ (by omega), hx1], hy⟩
theorem info_tag : (Tryd.prog.info? 39).map (fun i => (i.zero, i.size, i.bytes)) = some (some (.agg #[.int .u8 0, .int .u8 0, .int .u8 0, .int .u8 0]), 4, 4) := by kernel_rfl
theorem info_bs : (Tryd.prog.info? 22).map (fun i => (i.zero, i.size, i.bytes)) = some (some (.slice none 0 0), 1, 24) := by kernel_rfl
theorem wp_app {P : Program} {w : World} {o : Oper} {a : Act} {K : Act → World → Prop} {Q : Exit → Act → World → Prop} (s x : Operand) (t : TypeId)
    (ho : o.op = .call { callee := .builtin .append, args := #[s, x], argTypes := #[t, t] })
    (base : Nat) (e : TypeId) {z : Value} {size bytes : Nat} (ht : P.underlying t = some (.slice e)) (hinfo : (P.info? e).map (fun i => (i.zero, i.size, i.bytes)) = some (some z, size, bytes))
    (hzs : z.cells.size = size) (hsz : 0 < size)
    (v : Value) (n : Nat) (xs : List Value) (hs : a.eval s = v) (hown : w.ownsRow base e size v n xs)
    (ad : Addr) (m c : Nat) (news : List Value) (hx : a.eval x = .slice (some ad) m c) (hl : news.length = m * size)
    (hnews : ∀ j u, news[j]? = some u → w.cell? (ad.add j) = some u) (h1 : ∀ u ∈ news, u.oneCell' = true)
    (h63 : n + m ≤ maxLen) (hbytes : (n + m) * bytes ≤ 140737488355328) (hbase : base ≤ w.heap.size)
    (h : ∀ v' w', w'.ownsRow base e size v' (n + m) (xs ++ news) → w.grownBy w' v.ownBlock → K (a.put o.dst v') w') : o.wp P a w K Q := by
  obtain ⟨i, hi, hz0, hz1, hz2⟩ := info_parts hinfo
  exact wp_append_own w s x t ho base e i z size bytes ht hi hz0 hz1 hz2 hzs hsz v n xs hs hown ad m c news hx hl hnews h1 h63 hbytes hbase (fun v' w' h2 h3 _ => h v' w' h2 h3)
theorem news_block (w : World) (c : Array Value) (T : TypeId) (cs : List Value) (hc : c.toList = cs) : ∀ ad, some (⟨w.heap.size, 0, none⟩ : Addr) = some ad → ∀ j u, cs[j]? = some u → (w.alloc (.cells c T)).cell? (ad.add j) = some u := by
  intro ad had j u hu
  cases had
  rw [add_lit, Nat.zero_add]
  refine (cell_of_blk (heap_alloc_new w _) j).trans ?_
  rw [← hu, ← hc, Array.getElem?_toList]
theorem tag_one (t : Tg) : ∀ u ∈ t.cells, u.oneCell' = true := by
  intro u hu
  simp only [Tg.cells, List.mem_cons, List.not_mem_nil, or_false] at hu
  rcases hu with rfl | rfl | rfl | rfl <;> rfl
end Go.Proofs.YtfbppbelcbbhlaaDoor.Sf
