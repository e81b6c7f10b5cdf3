import Derived.Test.YtfbppbelcbbhlaaGreatDoorKnDel
import Derived.Test.YtfbppbelcbbhlaaGreatDoorKnShelf
import Derived.Test.YtfbppbelcbbhlaaGreatDoorKnJoinW
import Derived.Test.YtfbppbelcbbhlaaGreatDoorKnJoin

/- slices.SortFunc at tables, by their places. -/
namespace Go.Proofs.YtfbppbelcbbhlaaGreatDoor.Sf
open Go Go.RowKit Go.Proofs
open Go.Sort (SWO flatK get_flatK size_flatK HoldsK alloc_eq_grow grow_grow SortedIn PermIn)

/-- A table whose place is a number of 32 bits. -/
abbrev Tb32 := { t : Tb // t.at_ < 4294967296 }
instance : Inhabited Tb32 := ⟨⟨noTb, by decide⟩⟩
def enc32 (x : Tb32) : List Value := x.1.cells
def cf32 (x y : Tb32) : Int := (x.1.at_ : Int) - (y.1.at_ : Int)
theorem swo32 : SWO (ltOf cf32) where
  irrefl x := by simp [ltOf, cf32]
  trans x y z h1 h2 := by
    have a : (x.1.at_ : Int) - (y.1.at_ : Int) < 0 := of_decide_eq_true h1
    have b : (y.1.at_ : Int) - (z.1.at_ : Int) < 0 := of_decide_eq_true h2
    exact decide_eq_true (show (x.1.at_ : Int) - (z.1.at_ : Int) < 0 by omega)
  ntrans x y z h1 h2 := by
    have a : ¬ (x.1.at_ : Int) - (y.1.at_ : Int) < 0 := of_decide_eq_false h1
    have b : ¬ (y.1.at_ : Int) - (z.1.at_ : Int) < 0 := of_decide_eq_false h2
    exact decide_eq_false (show ¬ (x.1.at_ : Int) - (z.1.at_ : Int) < 0 by omega)
theorem cmp32 (q n : Nat) (w : World) : CmpLays Tryz.prog 49 #[] enc32 6 cf32 q 0 n w := by
  intro m os dk hs x y
  refine (order_ok x.1 y.1 _ x.2 y.2).mono ?_
  rintro e w' ⟨rfl, rfl⟩
  refine ⟨rfl, 0, #[.cells x.1.cells.toArray 48, .cells y.1.cells.toArray 48], ?_⟩
  rw [alloc_eq_grow, alloc_eq_grow, grow_grow]
  rfl
theorem flat32 (d : Array Tb32) (j : Nat) (h : j < d.size * 6) : (flatK enc32 6 d)[j]! = ((tbs (d.toList.map (·.1)))[j]?).getD undef := by
  rw [get_flatK _ _ _ _ h]
  have hd : j / 6 < d.size := by omega
  have hx := tbs_at (d.toList.map (·.1)) (j / 6) d[j / 6]!.1 (by rw [getElem!_pos d _ hd]; simp [hd]) (j % 6) (by omega)
  rw [show j / 6 * 6 + j % 6 = j from by omega] at hx
  rw [hx]
  have hc : (enc32 d[j / 6]!).length = 6 := rfl
  rw [getElem!_pos (enc32 d[j / 6]!) (j % 6) (by rw [hc]; omega)]
  show _ = ((enc32 d[j / 6]!)[j % 6]?).getD undef
  rw [List.getElem?_eq_getElem (by rw [hc]; omega)]
  rfl
theorem holds32 {w : World} {B0 e n c q : Nat} {d : Array Tb32} (h : w.ownsRow B0 e 6 (.slice (some ⟨q, 0, none⟩) n c) n (tbs (d.toList.map (·.1)))) (hd : d.size = n) : HoldsK enc32 6 w q 0 d := by
  intro j hj
  rw [size_flatK, hd] at hj
  refine ⟨?_, h.frozenAt _⟩
  rw [Nat.zero_add, h.cellAt j hj, show (id (flatK enc32 6 d)[j]!) = (flatK enc32 6 d)[j]! from rfl, flat32 d j (by rw [hd]; exact hj)]
  have : j < (tbs (d.toList.map (·.1))).length := by rw [tbs_length]; simp [hd]; omega
  rw [List.getElem?_eq_getElem this]
  rfl
theorem block32 {w : World} {q t : Nat} {cur : Array Value} (hg : w.heap[q]? = some (.cells cur t (0, 0))) (m : Nat) (d : Array Tb32) (os : Array Obj) :
    ∃ cur', (sortWorldK enc32 6 w q 0 m d os).heap[q]? = some (.cells cur' t (0, 0)) ∧ cur'.size = cur.size := by
  have hlt := lt_of_heap hg
  have h2 : w.heap[q] = .cells cur t (0, 0) := (Array.getElem?_eq_some_iff.1 hg).2
  refine ⟨Go.Sort.putCells id 0 (flatK enc32 6 d) cur, ?_, by simp [Go.Sort.putCells]⟩
  show ((w.heap.modify q (Go.Sort.onCells (Go.Sort.putCells id 0 (flatK enc32 6 d)))) ++ os)[q]? = _
  rw [Array.getElem?_append_left (by simpa using hlt), Array.getElem?_modify, if_pos rfl, hg]
  rfl
theorem below32 {w : World} {B0 q : Nat} (hB : B0 ≤ q) (hB2 : B0 ≤ w.heap.size) (m : Nat) (d : Array Tb32) (os : Array Obj) : Below B0 w (sortWorldK enc32 6 w q 0 m d os) := by
  refine ⟨rfl, rfl, rfl, ?_, fun k hk => ?_⟩
  · show w.heap.size ≤ ((w.heap.modify q (Go.Sort.onCells (Go.Sort.putCells id 0 (flatK enc32 6 d)))) ++ os).size
    simp
  · show ((w.heap.modify q (Go.Sort.onCells (Go.Sort.putCells id 0 (flatK enc32 6 d)))) ++ os)[k]? = _
    rw [Array.getElem?_append_left (by simp; omega), Array.getElem?_modify, if_neg (by omega)]
theorem own32 {w W : World} {B0 e n c q : Nat} {d : Array Tb32} {xs : List Value} (h : w.ownsRow B0 e 6 (.slice (some ⟨q, 0, none⟩) n c) n xs) (hd : d.size = n)
    (hb : ∀ cur, w.heap[q]? = some (.cells cur e (0, 0)) → ∃ cur', W.heap[q]? = some (.cells cur' e (0, 0)) ∧ cur'.size = cur.size) (hH : HoldsK enc32 6 W q 0 d) :
    W.ownsRow B0 e 6 (.slice (some ⟨q, 0, none⟩) n c) n (tbs (d.toList.map (·.1))) := by
  have hlen : (tbs (d.toList.map (·.1))).length = n * 6 := by rw [tbs_length]; simp [hd]
  refine ⟨hlen, ?_⟩
  rcases h.2 with ⟨h1, h0⟩ | ⟨g, cap, cur, h1, hg, hh, hle, hcap, hsz, htk⟩
  · cases h1
  · cases h1
    obtain ⟨cur', hh2, hs2⟩ := hb cur hh
    refine .inr ⟨q, c, cur', rfl, hg, hh2, hle, hcap, by rw [hs2]; exact hsz, ?_⟩
    apply List.ext_getElem?
    intro j
    rcases Nat.lt_or_ge j (n * 6) with hj | hj
    · have h3 := (hH j (by rw [size_flatK, hd]; exact hj)).1
      rw [Nat.zero_add, show (id (flatK enc32 6 d)[j]!) = (flatK enc32 6 d)[j]! from rfl, flat32 d j (by rw [hd]; exact hj), cell_of_blk hh2 j] at h3
      rw [List.getElem?_take_of_lt hj, Array.getElem?_toList, h3, List.getElem?_eq_getElem (by rw [hlen]; exact hj)]
      rfl
    · rw [List.getElem?_eq_none (by rw [List.length_take]; omega), List.getElem?_eq_none (by rw [hlen]; omega)]

def SortPost (T : TypeId) (B0 q c n : Nat) (S : List Tb) (w : World) (e : Ending) (w' : World) : Prop :=
  e = .returned (.tuple #[]) ∧ Below B0 w w' ∧ ∃ S' : List Tb, S'.Perm S ∧ (∀ (i j : Nat) (t u : Tb), i < j → S'[i]? = some t → S'[j]? = some u → t.at_ ≤ u.at_) ∧ w'.ownsRow B0 T 6 (.slice (some ⟨q, 0, none⟩) n c) n (tbs S')
theorem sort_tb (q c n : Nat) (S : List Tb) (B0 : Nat) (w : World) (h : w.ownsRow B0 48 6 (.slice (some ⟨q, 0, none⟩) n c) n (tbs S)) (hS : S.length = n) (hn : n ≤ 64) (hB : B0 ≤ w.heap.size) (h32 : ∀ t ∈ S, t.at_ < 4294967296) :
    Calls Tryz.prog 48 #[.slice (some ⟨q, 0, none⟩) n c, .func (.func 49) #[] #[]] w fun e w' => SortPost 48 B0 q c n S w e w' := by
  obtain ⟨D, hD⟩ : ∃ D : List Tb32, D.map (·.1) = S := ⟨S.attach.map fun t => ⟨t.1, h32 t.1 t.2⟩, by simp⟩
  have hDn : D.toArray.size = n := by rw [← hS, ← hD]; simp
  have hq := h.lt q rfl
  have h2 : w.ownsRow B0 48 6 (.slice (some ⟨q, 0, none⟩) n c) n (tbs (D.toArray.toList.map (·.1))) := by rw [List.toList_toArray, hD]; exact h
  have hH := holds32 h2 hDn
  have := AnyQ.slices_SortFunc Tryz.sortT 6 (fun w => Tryz.isAgg48 w) (fun w => Tryz.sizeOf48 w) enc32 (fun _ => rfl) (fun x => Tb.one x.1) cf32 swo32 49 #[] q 0 c D.toArray w (fun args w => enters_of Tryz.func49 (by kernel_rfl) rfl args w) (cmp32 q D.toArray.size w) hH hq.2 (by omega)
  rw [hDn] at this
  refine this.mono ?_
  rintro e w' ⟨rfl, d', m, os, hp, hs, rfl⟩
  have hsz : d'.size = n := by rw [hp.1, hDn]
  refine ⟨rfl, below32 hq.1 hB _ _ _, d'.toList.map (·.1), ?_, ?_, own32 h2 hsz (fun cur hc => block32 hc _ _ _) ?_⟩
  · have h3 := hp.2.2
    have e1 : (d'.extract 0 n).toList = d'.toList := by rw [← hsz]; simp
    have e2 : (D.toArray.extract 0 n).toList = D := by rw [← hDn]; simp
    have h4 : d'.toList.Perm D := by rw [← e1, ← e2]; exact h3
    have := h4.map (fun x : Tb32 => x.1)
    rwa [hD] at this
  · intro i j t u hij hi hj
    simp only [List.getElem?_map, Array.getElem?_toList, Option.map_eq_some_iff] at hi hj
    obtain ⟨x, hx, rfl⟩ := hi
    obtain ⟨y, hy, rfl⟩ := hj
    have hjl : j < n := by rw [← hsz]; exact (Array.getElem?_eq_some_iff.1 hy).1
    have h5 := hs i j (Nat.zero_le _) hij hjl
    have ex : d'[i]! = x := by rw [getElem!_pos d' i (Array.getElem?_eq_some_iff.1 hx).1]; exact (Array.getElem?_eq_some_iff.1 hx).2
    have ey : d'[j]! = y := by rw [getElem!_pos d' j (Array.getElem?_eq_some_iff.1 hy).1]; exact (Array.getElem?_eq_some_iff.1 hy).2
    rw [ex, ey] at h5
    have h6 : ¬ (y.1.at_ : Int) - (x.1.at_ : Int) < 0 := of_decide_eq_false h5
    omega
  · exact holdsK_sortWorldK_c enc32 6 w q 0 D.toArray d' m os hH hq.2 (by rw [hsz, hDn])
end Go.Proofs.YtfbppbelcbbhlaaGreatDoor.Sf

/- Neighbours of the sorted row lie apart just where any two tables lie apart. (No program in sight.) -/
namespace Go.Proofs.YtfbppbelcbbhlaaGreatDoor.Sf
open Go Go.RowKit

theorem apart_symm {t u : Tb} (h : apart t u) : apart u t := fun ⟨h1, h2, h3, h4⟩ => h ⟨h2, h1, h4, h3⟩
theorem apart_empty {t u : Tb} (h : t.len = 0) : apart t u := fun ⟨h1, _⟩ => by omega
theorem pairwise_full (L : List Tb) : L.Pairwise apart ↔ (full L).Pairwise apart := by
  induction L with
  | nil => simp [full]
  | cons t r ih =>
    by_cases h : t.len = 0
    · have e : full (t :: r) = full r := by simp [full, h]
      rw [e, List.pairwise_cons, ih]
      exact ⟨fun h2 => h2.2, fun h2 => ⟨fun u _ => apart_empty h, h2⟩⟩
    · have e : full (t :: r) = t :: full r := by simp [full, h]
      rw [e, List.pairwise_cons, List.pairwise_cons, ih]
      refine and_congr_left fun _ => ⟨fun h2 u hu => h2 u (List.mem_filter.1 hu).1, fun h2 u hu => ?_⟩
      by_cases h3 : u.len = 0
      · exact apart_symm (apart_empty h3)
      · exact h2 u (List.mem_filter.2 ⟨hu, by simpa using h3⟩)
theorem apart_sorted (L S' : List Tb) (hp : S'.Perm (full L)) (hs : ∀ (i j : Nat) (t u : Tb), i < j → S'[i]? = some t → S'[j]? = some u → t.at_ ≤ u.at_) :
    (∀ (k : Nat) (t u : Tb), S'[k]? = some t → S'[k + 1]? = some u → t.at_ + t.len ≤ u.at_) ↔ L.Pairwise apart := by
  have hlen : ∀ t ∈ S', t.len ≠ 0 := fun t ht => by
    have := (List.mem_filter.1 (hp.mem_iff.1 ht)).2
    simpa using this
  rw [pairwise_full, ← hp.pairwise_iff (fun h => apart_symm h), List.pairwise_iff_getElem]
  constructor
  · intro h i j hi hj hij
    have h1 := h i S'[i] S'[i + 1] (List.getElem?_eq_getElem hi) (List.getElem?_eq_getElem (by omega))
    have h2 : S'[i + 1].at_ ≤ S'[j].at_ := by
      rcases Nat.lt_or_ge (i + 1) j with h3 | h3
      · exact hs (i + 1) j _ _ h3 (List.getElem?_eq_getElem (by omega)) (List.getElem?_eq_getElem hj)
      · have : j = i + 1 := by omega
        subst this
        exact Nat.le_refl _
    intro ⟨_, _, _, h4⟩
    omega
  · intro h k t u ht hu
    obtain ⟨hk, rfl⟩ := List.getElem?_eq_some_iff.1 ht
    obtain ⟨hk2, rfl⟩ := List.getElem?_eq_some_iff.1 hu
    have h1 := h k (k + 1) hk hk2 (by omega)
    have h2 := hs k (k + 1) _ _ (by omega) (List.getElem?_eq_getElem hk) (List.getElem?_eq_getElem hk2)
    have h3 := hlen _ (List.getElem_mem hk)
    have h4 := hlen _ (List.getElem_mem hk2)
    rcases Nat.lt_or_ge S'[k + 1].at_ (S'[k].at_ + S'[k].len) with h5 | h5
    · exact absurd ⟨by omega, by omega, by omega, h5⟩ h1
    · exact h5
/-- Of a font's records. -/
theorem recs_pairwise (l : List Nat) (n : Nat) : (recs l n).Pairwise apart ↔ ∀ i, i < n → ∀ k, k < i → apart (recAt l i) (recAt l k) := by
  rw [List.pairwise_iff_getElem]
  constructor
  · intro h i hi k hk
    have := h k i (by rw [recs_length]; omega) (by rw [recs_length]; exact hi) hk
    simp only [recs, List.getElem_map, List.getElem_range] at this
    exact apart_symm this
  · intro h i j hi hj hij
    rw [recs_length] at hi hj
    simp only [recs, List.getElem_map, List.getElem_range]
    exact apart_symm (h j hj i hij)
end Go.Proofs.YtfbppbelcbbhlaaGreatDoor.Sf

/- The door of sfnt.Tables: what was given up is caught; what was done goes out. -/
namespace Go.Proofs.YtfbppbelcbbhlaaGreatDoor.Sf
open Go Go.RowKit

def doorD (lb eb : Nat) : List Deferred := [{ target := .fn (.func 39) #[], args := #[.pointer (some ⟨eb, 0, none⟩)] }, { target := .fn (.func 38) #[.pointer (some ⟨eb, 0, none⟩), .pointer (some ⟨lb, 0, none⟩)], args := #[] }]
theorem blk_set {W : World} {b t : Nat} {v : Value} (h : W.heap[b]? = some (.cells #[v] t (0, 0))) (u : Value) : (W.setCell ⟨b, 0, none⟩ u).heap[b]? = some (.cells #[u] t (0, 0)) := by
  have := heap_setCell_same W b 0 #[v] t u h
  simpa using this
theorem blk_cell {W : World} {b t : Nat} {v : Value} (h : W.heap[b]? = some (.cells #[v] t (0, 0))) : W.cell? ⟨b, 0, none⟩ = some v := (cell_of_blk h 0).trans rfl
theorem blk_frozen {W : World} {b t : Nat} {v : Value} (h : W.heap[b]? = some (.cells #[v] t (0, 0))) : W.frozen? ⟨b, 0, none⟩ = false := by
  simp [World.frozen?, h]
theorem results_door {tmps : Array Value} {lb eb tl te : Nat} {W : World} {v x : Value} (h2 : tmps[2]? = some (.pointer (some ⟨lb, 0, none⟩))) (h3 : tmps[3]? = some (.pointer (some ⟨eb, 0, none⟩)))
    (hl : W.heap[lb]? = some (.cells #[v] tl (0, 0))) (he : W.heap[eb]? = some (.cells #[x] te (0, 0))) : (results Tryz.f22 tmps).run Tryz.prog W = .ok (.tuple #[v, x]) W := by
  have c1 := blk_cell hl
  have c2 := blk_cell he
  simp [results, Tryz.results22, go_sem, h2, h3, c1, c2]
theorem door_bad {tmps : Array Value} {lb eb : Nat} {W : World} {R : Ending → World → Prop} {v : Value} (h2 : tmps[2]? = some (.pointer (some ⟨lb, 0, none⟩))) (h3 : tmps[3]? = some (.pointer (some ⟨eb, 0, none⟩)))
    (hl : W.heap[lb]? = some (.cells #[v] 44 (0, 0))) (he : W.heap[eb]? = some (.cells #[.int .i64 0] 28 (0, 0))) (hne : lb ≠ eb)
    (hR : ∀ W', W'.heap.size = W.heap.size + 1 → (∀ k, k < W.heap.size → k ≠ lb → k ≠ eb → W'.heap[k]? = W.heap[k]?) → W'.os = W.os → W'.tape = W.tape → W'.output = W.output → R (.returned (.tuple #[.slice none 0 0, .int .i64 50])) W') :
    bodyPostD Tryz.prog Tryz.f22 R (.panic [{ v := brokenV, recovered := false }]) ⟨tmps, doorD lb eb⟩ W := by
  show Leaves _ _ _ _ _ _ _
  unfold doorD
  refine leaves_cons (f := 39) (args := #[.pointer (some ⟨eb, 0, none⟩)]) (by simp) (by simp [go_sem]) ?_
  refine (guard_catch eb W _ (blk_cell he) (blk_frozen he)).mono ?_
  rintro e u' w2 ⟨rfl, rfl, rfl⟩
  have hea : (W.alloc (.cells #[] 98)).heap[eb]? = some (.cells #[.int .i64 0] 28 (0, 0)) := by rw [World.heap_alloc_lt _ _ (lt_of_heap he)]; exact he
  have hla : (W.alloc (.cells #[] 98)).heap[lb]? = some (.cells #[v] 44 (0, 0)) := by rw [World.heap_alloc_lt _ _ (lt_of_heap hl)]; exact hl
  have he2 := blk_set hea (.int .i64 50)
  have hl2 : ((W.alloc (.cells #[] 98)).setCell ⟨eb, 0, none⟩ (.int .i64 50)).heap[lb]? = some (.cells #[v] 44 (0, 0)) := by rw [heap_setCell_other _ _ _ _ hne]; exact hla
  show Leaves _ _ _ _ _ .returning _
  refine leaves_cons (f := 38) (args := #[.pointer (some ⟨eb, 0, none⟩), .pointer (some ⟨lb, 0, none⟩)]) (by simp) (by simp [go_sem]) ?_
  refine (close_bad lb eb _ 50 (by decide) v (blk_cell he2) (blk_cell hl2) (blk_frozen hl2) _).mono ?_
  rintro e u' w3 ⟨rfl, rfl, rfl⟩
  have hl3 := blk_set hl2 (.slice none 0 0)
  have he3 : ((((W.alloc (.cells #[] 98)).setCell ⟨eb, 0, none⟩ (.int .i64 50))).setCell ⟨lb, 0, none⟩ (.slice none 0 0)).heap[eb]? = some (.cells #[.int .i64 50] 28 (0, 0)) := by rw [heap_setCell_other _ _ _ _ hne.symm]; exact he2
  refine ⟨_, results_door h2 h3 hl3 he3, hR _ (by simp) (fun k hk h4 h5 => ?_) rfl rfl rfl⟩
  rw [heap_setCell_other _ _ _ _ h4, heap_setCell_other _ _ _ _ h5, World.heap_alloc_lt _ _ hk]
theorem door_ok {tmps : Array Value} {lb eb : Nat} {W : World} {R : Ending → World → Prop} {v : Value} (h2 : tmps[2]? = some (.pointer (some ⟨lb, 0, none⟩))) (h3 : tmps[3]? = some (.pointer (some ⟨eb, 0, none⟩)))
    (hl : W.heap[lb]? = some (.cells #[v] 44 (0, 0))) (he : W.heap[eb]? = some (.cells #[.int .i64 0] 28 (0, 0))) (hR : R (.returned (.tuple #[v, .int .i64 0])) W) :
    bodyPostD Tryz.prog Tryz.f22 R .ret ⟨tmps, doorD lb eb⟩ W := by
  show Leaves _ _ _ _ _ _ _
  unfold doorD
  refine leaves_cons (f := 39) (args := #[.pointer (some ⟨eb, 0, none⟩)]) (by simp) (by simp [go_sem]) ?_
  refine (guard_idle eb W).mono ?_
  rintro e u' w2 ⟨rfl, rfl, rfl⟩
  show Leaves _ _ _ _ _ .returning _
  refine leaves_cons (f := 38) (args := #[.pointer (some ⟨eb, 0, none⟩), .pointer (some ⟨lb, 0, none⟩)]) (by simp) (by simp [go_sem]) ?_
  refine (close_ok lb eb _ (blk_cell he) _).mono ?_
  rintro e u' w3 ⟨rfl, rfl, rfl⟩
  exact ⟨_, results_door h2 h3 hl he, hR⟩
theorem results_put (tmps : Array Value) (i : Nat) (v : Value) (hi : 26 ≤ i) (W : World) : (results Tryz.f22 (tmps.setIfInBounds i v)).run Tryz.prog W = (results Tryz.f22 tmps).run Tryz.prog W := by
  have e2 : (tmps.setIfInBounds i v)[2]? = tmps[2]? := by rw [Array.getElem?_setIfInBounds_ne (by omega)]
  have e3 : (tmps.setIfInBounds i v)[3]? = tmps[3]? := by rw [Array.getElem?_setIfInBounds_ne (by omega)]
  simp only [results, Tryz.results22]
  simp [e2, e3, go_sem]
theorem leaves_put (tmps : Array Value) (i : Nat) (v : Value) (hi : 26 ≤ i) (R : Ending → World → Prop) : ∀ (ds : List Deferred) (u : FrameMode) (W : World),
    Leaves Tryz.prog Tryz.f22 (tmps.setIfInBounds i v) R ds u W → Leaves Tryz.prog Tryz.f22 tmps R ds u W
  | [], .returning, W, ⟨x, h1, h2⟩ => ⟨x, by rw [← results_put tmps i v hi W]; exact h1, h2⟩
  | [], .panicking chain, W, h => h
  | [], .run, _, h => h.elim
  | d :: ds, u, W, ⟨h1, fv, cap, f, args, h2, h3, h4⟩ => ⟨h1, fv, cap, f, args, h2, h3, h4.mono fun e u' w' h => by
      cases e with
      | returned x => exact leaves_put tmps i v hi R ds _ w' h
      | panicked chain => exact leaves_put tmps i v hi R ds _ w' h
      | outgrown => exact h⟩
theorem below_door {w W W' : World} {lb eb : Nat} (h : Below w.heap.size w W) (hl : w.heap.size ≤ lb) (he : w.heap.size ≤ eb) (h1 : W'.heap.size = W.heap.size + 1) (h2 : ∀ k, k < W.heap.size → k ≠ lb → k ≠ eb → W'.heap[k]? = W.heap[k]?) (h3 : W'.os = W.os) (h4 : W'.tape = W.tape) (h5 : W'.output = W.output) :
    Below w.heap.size w W' :=
  ⟨h3.trans h.os, h4.trans h.tape, h5.trans h.output, by have := h.size; omega, fun k hk => (h2 k (Nat.lt_of_lt_of_le hk h.size) (by omega) (by omega)).trans (h.block k hk)⟩
end Go.Proofs.YtfbppbelcbbhlaaGreatDoor.Sf

/- Worlds of a loop that fills a row of its own and stores it into one variable. -/
namespace Go.Proofs.YtfbppbelcbbhlaaGreatDoor.Sf
open Go Go.RowKit

/-- What is as it was when the variable lb is given v: wr has grown out of W4 with v in it. -/
def Var (W4 : World) (lb : Nat) (v : Value) (wr : World) : Prop := Below W4.heap.size (W4.setCell ⟨lb, 0, none⟩ v) wr
theorem Var.start {W4 : World} {lb t : Nat} {v : Value} (h : W4.heap[lb]? = some (.cells #[v] t (0, 0))) : Var W4 lb v W4 :=
  ⟨rfl, rfl, rfl, by simp, fun k hk => by
    by_cases e : k = lb
    · subst e; rw [blk_set h, h]
    · rw [heap_setCell_other _ _ _ _ e]⟩
theorem Var.size {W4 : World} {lb : Nat} {v : Value} {wr : World} (h : Var W4 lb v wr) : W4.heap.size ≤ wr.heap.size := by
  have := Below.size h
  simpa using this
theorem Var.block {W4 : World} {lb t : Nat} {v x : Value} {wr : World} (h : Var W4 lb v wr) (h0 : W4.heap[lb]? = some (.cells #[x] t (0, 0))) : wr.heap[lb]? = some (.cells #[v] t (0, 0)) :=
  (Below.block h lb (lt_of_heap h0)).trans (blk_set h0 v)
theorem Var.other {W4 : World} {lb k : Nat} {v : Value} {wr : World} (h : Var W4 lb v wr) (hk : k < W4.heap.size) (hne : k ≠ lb) : wr.heap[k]? = W4.heap[k]? :=
  (Below.block h k hk).trans (heap_setCell_other _ _ _ _ hne)
theorem Var.cell {W4 : World} {lb b o : Nat} {v u : Value} {wr : World} (h : Var W4 lb v wr) (hne : b ≠ lb) (hc : W4.cell? ⟨b, o, none⟩ = some u) : wr.cell? ⟨b, o, none⟩ = some u :=
  (World.cell?_of_block (h.other (World.block_lt_of_cell? W4 _ hc) hne)).trans hc
theorem Var.on {W4 : World} {lb : Nat} {v : Value} {wr w2 : World} (h : Var W4 lb v wr) (k : Below W4.heap.size wr w2) : Var W4 lb v w2 := Below.trans h k
theorem Var.grown {W4 : World} {lb : Nat} {v : Value} {wr w2 : World} (h : Var W4 lb v wr) (k : Below wr.heap.size wr w2) : Var W4 lb v w2 := h.on (k.mono h.size)
theorem Var.store {W4 : World} {lb t : Nat} {v x : Value} {wr : World} (h : Var W4 lb v wr) (h0 : W4.heap[lb]? = some (.cells #[x] t (0, 0))) (u : Value) : Var W4 lb u (wr.setCell ⟨lb, 0, none⟩ u) :=
  have hb : Below W4.heap.size (W4.setCell ⟨lb, 0, none⟩ v) wr := h
  ⟨hb.os, hb.tape, hb.output, by have := h.size; simpa using this, fun k hk => by
    by_cases e : k = lb
    · subst e; rw [blk_set (h.block h0), blk_set h0]
    · rw [heap_setCell_other _ _ _ _ e, heap_setCell_other _ _ _ _ e, h.other hk e]⟩
theorem Var.below {w W4 : World} {lb : Nat} {v : Value} {wr : World} (h : Var W4 lb v wr) (h0 : Below w.heap.size w W4) (hl : w.heap.size ≤ lb) : Below w.heap.size w wr :=
  (Below.setCell h0 (p := ⟨lb, 0, none⟩) hl v).trans (Below.mono h h0.size)
/-- Bytes do not lie in the variable. -/
theorem bytes_off {W4 : World} {lb t b bo : Nat} {A : Option Addr} {n c : Nat} {l : List Nat} (h0 : W4.heap[lb]? = some (.cells #[.slice A n c] t (0, 0))) (hc : ByteCells W4 b bo l) (hl : l.length ≠ 0) : b ≠ lb := by
  intro e
  subst e
  have h1 := hc 0 (by omega)
  rw [cell_of_blk h0] at h1
  rcases Nat.eq_zero_or_pos (bo + 0) with h2 | h2
  · rw [h2] at h1; simp at h1
  · rw [Array.getElem?_eq_none (by simp; omega)] at h1; cases h1
theorem Var.byt {W4 : World} {lb t : Nat} {A0 : Option Addr} {n c : Nat} {v : Value} {wr : World} (h : Var W4 lb v wr) (h0 : W4.heap[lb]? = some (.cells #[.slice A0 n c] t (0, 0))) {A : Option Addr} {cap : Nat} {l : List Nat} (hy : Byt W4 A cap l) : Byt wr A cap l :=
  ⟨hy.le, hy.max, hy.nil, fun hn => by
    obtain ⟨b, bo, rfl, hc⟩ := hy.cells hn
    exact ⟨b, bo, rfl, fun i hi => h.cell (bytes_off h0 hc hn) (hc i hi)⟩, hy.lt⟩
theorem Var.rdr {W4 : World} {lb t : Nat} {A0 : Option Addr} {n c : Nat} {v : Value} {wr : World} (h : Var W4 lb v wr) (h0 : W4.heap[lb]? = some (.cells #[.slice A0 n c] t (0, 0))) {a s : Nat} {l : List Nat} (hr : Rdr W4 a s l) (ha : a ≠ lb) (hs : s ≠ lb) : Rdr wr a s l :=
  ⟨h.cell ha hr.st, h.cell hs hr.bad, by
    obtain ⟨A, cap, h1, h2, h3, h4⟩ := hr.by_
    exact ⟨A, cap, h.cell ha h1, h2, h3, fun hn => by
      obtain ⟨b, bo, rfl, hc⟩ := h4 hn
      exact ⟨b, bo, rfl, fun i hi => h.cell (bytes_off h0 hc hn) (hc i hi)⟩⟩, hr.lt⟩
theorem Var.hd {W4 : World} {lb : Nat} {v : Value} {wr : World} (h : Var W4 lb v wr) (hd : HdVar W4) (hne : 0 ≠ lb) : HdVar wr := ⟨h.cell hne hd.c0, h.cell hne hd.c1, h.cell hne hd.c2, h.cell hne hd.c3⟩
end Go.Proofs.YtfbppbelcbbhlaaGreatDoor.Sf

/- The door of sfnt.Tables, out of any world of its loop: a refusal, and what is done. -/
namespace Go.Proofs.YtfbppbelcbbhlaaGreatDoor.Sf
open Go Go.RowKit

theorem tab_refuse {l : List Nat} {w W wx : World} {v v0 : Value} {tmps : Array Value} (h2 : tmps[2]? = some (.pointer (some ⟨w.heap.size, 0, none⟩))) (h3 : tmps[3]? = some (.pointer (some ⟨w.heap.size + 1, 0, none⟩)))
    (HL : W.heap[w.heap.size]? = some (.cells #[v0] 44 (0, 0))) (HE : W.heap[w.heap.size + 1]? = some (.cells #[.int .i64 0] 28 (0, 0))) (HB : Below w.heap.size w W) (hv : Var W w.heap.size v wx) (hnone : tablesF l = none) :
    bodyPostD Tryz.prog Tryz.f22 (fun e w' => TabPost 48 w (tablesF l) e w') (.panic [{ v := brokenV, recovered := false }]) ⟨tmps, doorD w.heap.size (w.heap.size + 1)⟩ wx := by
  refine door_bad (lb := w.heap.size) (eb := w.heap.size + 1) h2 h3 (hv.block HL) ((hv.other (lt_of_heap HE) (by omega)).trans HE) (by omega) (fun W' h1 h2 h3 h4 h5 => ?_)
  show TabPost _ w _ _ _
  rw [hnone]
  exact ⟨rfl, below_door (hv.below HB (Nat.le_refl _)) (Nat.le_refl _) (by omega) h1 h2 h3 h4 h5⟩
theorem tab_done {l : List Nat} {w W wx : World} {v0 : Value} {A : Option Addr} {n c : Nat} {tmps : Array Value} (h2 : tmps[2]? = some (.pointer (some ⟨w.heap.size, 0, none⟩))) (h3 : tmps[3]? = some (.pointer (some ⟨w.heap.size + 1, 0, none⟩)))
    (HL : W.heap[w.heap.size]? = some (.cells #[v0] 44 (0, 0))) (HE : W.heap[w.heap.size + 1]? = some (.cells #[.int .i64 0] 28 (0, 0))) (HB : Below w.heap.size w W) (hv : Var W w.heap.size (.slice A n c) wx)
    (hsome : tablesF l = some (recs l n)) (ho : wx.ownsRow W.heap.size 48 6 (.slice A n c) n (tbs (recs l n))) :
    bodyPostD Tryz.prog Tryz.f22 (fun e w' => TabPost 48 w (tablesF l) e w') .ret ⟨tmps, doorD w.heap.size (w.heap.size + 1)⟩ wx := by
  refine door_ok (lb := w.heap.size) (eb := w.heap.size + 1) h2 h3 (hv.block HL) ((hv.other (lt_of_heap HE) (by omega)).trans HE) ?_
  show TabPost _ w _ _ _
  rw [hsome]
  have hl := recs_length l n
  refine ⟨A, c, by rw [hl], ?_, hv.below HB (Nat.le_refl _)⟩
  rw [hl]
  exact own_lower ho HB.size
theorem Var.frozen {W4 : World} {lb t : Nat} {v x : Value} {wr : World} (h : Var W4 lb v wr) (h0 : W4.heap[lb]? = some (.cells #[x] t (0, 0))) : wr.frozen? ⟨lb, 0, none⟩ = false := blk_frozen (h.block h0)
theorem Var.val {W4 : World} {lb t : Nat} {v x : Value} {wr : World} (h : Var W4 lb v wr) (h0 : W4.heap[lb]? = some (.cells #[x] t (0, 0))) : wr.cell? ⟨lb, 0, none⟩ = some v := blk_cell (h.block h0)
theorem Var.same {W4 : World} {lb k t : Nat} {v u : Value} {wr : World} (h : Var W4 lb v wr) (h0 : wr.heap[k]? = some (.cells #[u] t (0, 0))) : Var W4 lb v (wr.setCell ⟨k, 0, none⟩ u) :=
  have hb : Below W4.heap.size (W4.setCell ⟨lb, 0, none⟩ v) wr := h
  ⟨hb.os, hb.tape, hb.output, by have := Below.size hb; simpa using this, fun j hj => by
    by_cases e : j = k
    · subst e
      rw [blk_set h0, ← h0]
      exact Below.block hb j hj
    · rw [heap_setCell_other _ _ _ _ e]
      exact Below.block hb j hj⟩
theorem tablesF_pair {l : List Nat} {n : Nat} (hn : tabN l = n) (h : ¬ (recs l n).Pairwise apart) : tablesF l = none := by
  unfold tablesF
  rw [if_neg]
  rintro ⟨_, _, h3⟩
  subst hn
  exact h ((recs_pairwise l (tabN l)).2 h3)
theorem recs_at_lt (l : List Nat) (n : Nat) : ∀ t ∈ recs l n, t.at_ < 4294967296 ∧ t.len < 4294967296 := by
  intro t ht
  obtain ⟨i, _, rfl⟩ := List.mem_map.1 ht
  exact ⟨numF_lt _, numF_lt _⟩
theorem full_mem {L S' : List Tb} (hp : S'.Perm (full L)) {i : Nat} {t : Tb} (h : S'[i]? = some t) : t ∈ L :=
  (List.mem_filter.1 (hp.mem_iff.1 (List.mem_of_getElem? h))).1
theorem full_length_le (L : List Tb) : (full L).length ≤ L.length := List.length_filter_le _ _
end Go.Proofs.YtfbppbelcbbhlaaGreatDoor.Sf
