/- Rows of tables: slices.Clone, slices.IndexFunc, slices.DeleteFunc, the closures of sfnt.Tables. -/
import Derived.Test.YtfbppbelcbbhlaaDoorSfTabs9R
namespace Go.Proofs.YtfbppbelcbbhlaaDoor.Sf
open Go Go.RowKit

theorem info_tabS : (Tryd.prog.info? 41).map (fun i => (i.zero, i.size, i.bytes)) = some (some (.agg #[.int .u8 0, .int .u8 0, .int .u8 0, .int .u8 0, .int .i64 0, .int .i64 0]), 6, 24) := by kernel_rfl
theorem tbs_one (l : List Tb) : ∀ u ∈ tbs l, u.oneCell' = true := by
  intro u hu
  simp only [tbs, List.mem_flatMap] at hu
  obtain ⟨t, _, h⟩ := hu
  exact Tb.one t u h
def Tb.val (t : Tb) : Value := .agg t.cells.toArray

theorem clone_tb (q c n : Nat) (S : List Tb) (B0 : Nat) (w : World) (h : w.ownsRow B0 41 6 (.slice (some ⟨q, 0, none⟩) n c) n (tbs S)) (hS : S.length = n) (hn : n ≤ 64) :
    Calls Tryd.prog 32 #[.slice (some ⟨q, 0, none⟩) n c] w fun e w' =>
      ∃ A' c', e = .returned (.slice A' n c') ∧ w'.ownsRow w.heap.size 41 6 (.slice A' n c') n (tbs S) ∧ Below w.heap.size w w' := by
  have hq := fun (w : World) => Lib.run_eql_slice_nil (P := Tryd.prog) w 24 41 (some ⟨q, 0, none⟩) n c 0 0 Tryd.underlying24
  have hcell := fun j u hu => (kept_of_below ((Below.refl w.heap.size w).alloc (Nat.le_refl _) (.cells #[] 41))).cell (b := q) (o := j) (v := u) (by have := h.cells (g := q) rfl j u hu; rwa [add_lit, Nat.zero_add] at this)
  have HC := Lib.hid hcell
  have hlen : (tbs S).length = n * 6 := by rw [tbs_length, hS]
  have HLEN := Lib.hid hlen
  clear hcell h hS hlen
  go_enter Tryd.func32, Tryd.ntmps32
  go_wp2_with (at_builtin; refine wpl_app rfl (.tmp 5) (.tmp 6) 24 rfl w.heap.size 41 Tryd.underlying24 info_tabS rfl (by decide) (.slice (some ⟨w.heap.size, 0, none⟩) 0 0) 0 [] rfl (World.ownsRow_made w #[] 0 (Nat.le_refl _) (by decide) rfl) (some ⟨q, 0, none⟩) n c (tbs S) rfl HLEN.out (fun h => by cases h) ?c0 (tbs_one S) ?c1 ?c2 ?c3 ?_; rotate_right; intro v' w' hown hg; simp only [Nat.zero_add, List.nil_append] at hown; obtain ⟨A', c', rfl⟩ := own_form hown)
  case c0 =>
    intro ad had j u hu
    cases had
    rw [add_lit, Nat.zero_add]
    exact HC.out j u hu
  case c1 => unfold maxLen; omega
  case c2 => omega
  case c3 => simp
  go_ret
  refine ⟨_, _, rfl, hown, ?_⟩
  exact ((Below.refl _ _).alloc (Nat.le_refl _) _).grown hg (by simp) (by simp [Value.ownBlock])

theorem empty_ok (t : Tb) (w : World) :
    Calls Tryd.prog 33 #[t.val] w fun e w' => e = .returned (.bool (decide (t.len = 0))) ∧ w' = w.alloc (.cells t.cells.toArray 41) := by
  have hd : ((t.len : Int) == 0) = decide (t.len = 0) := by by_cases h : t.len = 0 <;> simp [h]
  unfold Tb.val Tb.cells Tg.cells
  simp only [List.cons_append, List.nil_append]
  go_enter Tryd.func33, Tryd.ntmps33
  go_wp2
  go_ret
  exact ⟨rfl, rfl⟩
theorem order_ok (t u : Tb) (w : World) (ht : t.at_ < 4294967296) (hu : u.at_ < 4294967296) :
    Calls Tryd.prog 35 #[t.val, u.val] w fun e w' => e = .returned (.int .i64 ((t.at_ : Int) - (u.at_ : Int))) ∧ w' = (w.alloc (.cells t.cells.toArray 41)).alloc (.cells u.cells.toArray 41) := by
  have wr1 : IntKind.i64.wrap ((t.at_ : Int) - (u.at_ : Int)) = (t.at_ : Int) - (u.at_ : Int) := IntWalk.i64_in _ (by omega)
  unfold Tb.val Tb.cells Tg.cells
  simp only [List.cons_append, List.nil_append]
  go_enter Tryd.func35, Tryd.ntmps35
  go_wp2
  go_ret
  exact ⟨rfl, rfl⟩

/-! Rows of several cells an element. -/
theorem run_clear_rows {P : Program} (w : World) (t e ty : TypeId) (z : Value) (ht : P.underlying t = some (.slice e)) (hv : ∀ w, (zeroValue e).run P w = .ok z w) (k : Nat) (hk : z.cells.size = k) (h1 : ∀ v ∈ z.cells, v.oneCell' = true) (hk0 : 0 < k) (b o n c : Nat) (hn : 0 < n)
    (hc : ∀ j, j < n * k → (w.cell? ⟨b, o + j, none⟩).isSome = true) (hf : ∀ j, j < n * k → w.frozen? ⟨b, o + j, none⟩ = false) :
    ∃ zs : List Value, zs.length = n * k ∧ (Builtin.clear_ #[t] ty #[.slice (some ⟨b, o, none⟩) n c]).run P w = .ok (.tuple #[]) (w.setCells b o zs) := by
  have hl : (Builtin.zeroCells z.cells n).toList.length = n * k := by simp [Builtin.zeroCells, hk]
  refine ⟨(Builtin.zeroCells z.cells n).toList, hl, ?_⟩
  have h2 : ∀ v ∈ (Builtin.zeroCells z.cells n).toList, v.oneCell' = true := by
    intro v hv'
    simp only [Builtin.zeroCells, Array.toList_map, List.mem_map] at hv'
    obtain ⟨i, _, rfl⟩ := hv'
    have : i % z.cells.size < z.cells.size := Nat.mod_lt _ (by omega)
    rw [getElem!_pos z.cells _ this]
    exact h1 _ (Array.getElem_mem this)
  have hst := run_storeCells_cells (P := P) b o (Builtin.zeroCells z.cells n).toList 0 w (by rw [hl]; simpa using hc) (by rw [hl]; simpa using hf) h2
  simp only [Nat.add_zero] at hst
  obtain ⟨m, rfl⟩ : ∃ m, n = m + 1 := ⟨n - 1, by omega⟩
  simp [Builtin.clear_, run_underlying ht, hv, hst]

theorem own_setCellsK {base e sz g n c : Nat} : ∀ (vs : List Value) (o : Nat) (w : World) (xs : List Value), w.ownsRow base e sz (.slice (some ⟨g, 0, none⟩) n c) n xs → o + vs.length ≤ n * sz →
    (w.setCells g o vs).ownsRow base e sz (.slice (some ⟨g, 0, none⟩) n c) n (xs.take o ++ vs ++ xs.drop (o + vs.length))
  | [], o, w, xs, h, hl => by simpa [World.setCells] using h
  | v :: r, o, w, xs, h, hl => by
    have hlen : xs.length = n * sz := h.1
    simp only [List.length_cons] at hl
    have h2 := own_setCellsK r (o + 1) (w.setCell ⟨g, o, none⟩ v) (xs.set o v) (h.stored o v).1 (by omega)
    rw [World.setCells]
    have e1 : (xs.set o v).take (o + 1) ++ r ++ (xs.set o v).drop (o + 1 + r.length) = xs.take o ++ (v :: r) ++ xs.drop (o + (v :: r).length) := by
      rw [List.take_succ_eq_append_getElem (by simp; omega)]
      simp only [List.getElem_set_self, List.append_assoc, List.cons_append, List.nil_append, List.length_cons]
      rw [List.take_set, List.set_eq_of_length_le (by simp; omega), List.drop_set_of_lt (by omega), Nat.add_right_comm, Nat.add_assoc]
    rw [← e1]
    exact h2
theorem own_cut {w : World} {base e sz g n c i : Nat} {xs : List Value} (h : w.ownsRow base e sz (.slice (some ⟨g, 0, none⟩) n c) n xs) (hi : i ≤ n) : w.ownsRow base e sz (.slice (some ⟨g, 0, none⟩) i c) i (xs.take (i * sz)) := by
  have hlen := h.1
  have hm : i * sz ≤ n * sz := Nat.mul_le_mul_right sz hi
  refine ⟨by rw [List.length_take]; omega, ?_⟩
  rcases h.2 with ⟨h1, h0⟩ | ⟨g', cap, cur, h1, hg, hh, hle, hcap, hsz, htk⟩
  · cases h1
  · cases h1
    refine .inr ⟨g, c, cur, rfl, hg, hh, by omega, hcap, hsz, ?_⟩
    rw [← htk, List.take_take, Nat.min_eq_left hm]
theorem tbs_take (l : List Tb) (i : Nat) : (tbs l).take (i * 6) = tbs (l.take i) := by
  induction l generalizing i with
  | nil => simp [tbs]
  | cons t r ih =>
    cases i with
    | zero => simp [tbs]
    | succ i =>
      have hc : t.cells.length = 6 := rfl
      simp only [tbs, List.flatMap_cons, List.take_succ_cons]
      rw [List.take_append, hc, List.take_of_length_le (by rw [hc]; omega), show (i + 1) * 6 - 6 = i * 6 from by omega]
      congr 1
      exact ih i
theorem tbs_drop (l : List Tb) (i : Nat) : (tbs l).drop (i * 6) = tbs (l.drop i) := by
  induction l generalizing i with
  | nil => simp [tbs]
  | cons t r ih =>
    cases i with
    | zero => simp [tbs]
    | succ i =>
      have hc : t.cells.length = 6 := rfl
      simp only [tbs, List.flatMap_cons, List.drop_succ_cons]
      rw [List.drop_append, hc, List.drop_eq_nil_of_le (by rw [hc]; omega), show (i + 1) * 6 - 6 = i * 6 from by omega, List.nil_append]
      exact ih i
theorem tbs_set (l : List Tb) (i : Nat) (t : Tb) (h : i < l.length) : (tbs l).take (i * 6) ++ t.cells ++ (tbs l).drop (i * 6 + t.cells.length) = tbs (l.set i t) := by
  have hc : t.cells.length = 6 := rfl
  rw [hc, show i * 6 + 6 = (i + 1) * 6 from by omega, tbs_take, tbs_drop, List.set_eq_take_append_cons_drop, if_pos h]
  simp [tbs]
theorem tb_cells (l : List Tb) (t : Tb) (i : Nat) (h : l[i]? = some t) {w : World} {base e n c q : Nat} (ho : w.ownsRow base e 6 (.slice (some ⟨q, 0, none⟩) n c) n (tbs l)) (hi : i < n) : TbCells w q (i * 6) t := row_tb ho i hi t h
end Go.Proofs.YtfbppbelcbbhlaaDoor.Sf
