/- slices.SortFunc at tables, by their places. -/
import Derived.Test.YtfbppbelcbbhlaaDoorSfDel
import Derived.Test.YtfbppbelcbbhlaaDoorSfShelf
namespace Go.Proofs.YtfbppbelcbbhlaaDoor.Sf
open Go Go.RowKit Go.Proofs
open Go.Sort (SWO flatK get_flatK size_flatK HoldsK alloc_eq_grow grow_grow SortedIn PermIn)

/-- A table whose place is a number of 32 bits. -/
abbrev Tb32 := { t : Tb // t.at_ < 4294967296 }
instance : Inhabited Tb32 := ⟨⟨noTb, by decide⟩⟩
def enc32 (x : Tb32) : List Value := x.1.cells
def cf32 (x y : Tb32) : Int := (x.1.at_ : Int) - (y.1.at_ : Int)
theorem swo32 : SWO (ltOf cf32) where
  irrefl x := by simp [ltOf, cf32]
  trans x y z h1 h2 := by
    have a : (x.1.at_ : Int) - (y.1.at_ : Int) < 0 := of_decide_eq_true h1
    have b : (y.1.at_ : Int) - (z.1.at_ : Int) < 0 := of_decide_eq_true h2
    exact decide_eq_true (show (x.1.at_ : Int) - (z.1.at_ : Int) < 0 by omega)
  ntrans x y z h1 h2 := by
    have a : ¬ (x.1.at_ : Int) - (y.1.at_ : Int) < 0 := of_decide_eq_false h1
    have b : ¬ (y.1.at_ : Int) - (z.1.at_ : Int) < 0 := of_decide_eq_false h2
    exact decide_eq_false (show ¬ (x.1.at_ : Int) - (z.1.at_ : Int) < 0 by omega)
theorem cmp32 (q n : Nat) (w : World) : CmpLays Tryd.prog 35 #[] enc32 6 cf32 q 0 n w := by
  intro m os dk hs x y
  refine (order_ok x.1 y.1 _ x.2 y.2).mono ?_
  rintro e w' ⟨rfl, rfl⟩
  refine ⟨rfl, 0, #[.cells x.1.cells.toArray 41, .cells y.1.cells.toArray 41], ?_⟩
  rw [alloc_eq_grow, alloc_eq_grow, grow_grow]
  rfl
theorem flat32 (d : Array Tb32) (j : Nat) (h : j < d.size * 6) : (flatK enc32 6 d)[j]! = ((tbs (d.toList.map (·.1)))[j]?).getD undef := by
  rw [get_flatK _ _ _ _ h]
  have hd : j / 6 < d.size := by omega
  have hx := tbs_at (d.toList.map (·.1)) (j / 6) d[j / 6]!.1 (by rw [getElem!_pos d _ hd]; simp [hd]) (j % 6) (by omega)
  rw [show j / 6 * 6 + j % 6 = j from by omega] at hx
  rw [hx]
  have hc : (enc32 d[j / 6]!).length = 6 := rfl
  rw [getElem!_pos (enc32 d[j / 6]!) (j % 6) (by rw [hc]; omega)]
  show _ = ((enc32 d[j / 6]!)[j % 6]?).getD undef
  rw [List.getElem?_eq_getElem (by rw [hc]; omega)]
  rfl
theorem holds32 {w : World} {B0 e n c q : Nat} {d : Array Tb32} (h : w.ownsRow B0 e 6 (.slice (some ⟨q, 0, none⟩) n c) n (tbs (d.toList.map (·.1)))) (hd : d.size = n) : HoldsK enc32 6 w q 0 d := by
  intro j hj
  rw [size_flatK, hd] at hj
  refine ⟨?_, h.frozenAt _⟩
  rw [Nat.zero_add, h.cellAt j hj, show (id (flatK enc32 6 d)[j]!) = (flatK enc32 6 d)[j]! from rfl, flat32 d j (by rw [hd]; exact hj)]
  have : j < (tbs (d.toList.map (·.1))).length := by rw [tbs_length]; simp [hd]; omega
  rw [List.getElem?_eq_getElem this]
  rfl
theorem block32 {w : World} {q t : Nat} {cur : Array Value} (hg : w.heap[q]? = some (.cells cur t (0, 0))) (m : Nat) (d : Array Tb32) (os : Array Obj) :
    ∃ cur', (sortWorldK enc32 6 w q 0 m d os).heap[q]? = some (.cells cur' t (0, 0)) ∧ cur'.size = cur.size := by
  have hlt := lt_of_heap hg
  have h2 : w.heap[q] = .cells cur t (0, 0) := (Array.getElem?_eq_some_iff.1 hg).2
  refine ⟨Go.Sort.putCells id 0 (flatK enc32 6 d) cur, ?_, by simp [Go.Sort.putCells]⟩
  show ((w.heap.modify q (Go.Sort.onCells (Go.Sort.putCells id 0 (flatK enc32 6 d)))) ++ os)[q]? = _
  rw [Array.getElem?_append_left (by simpa using hlt), Array.getElem?_modify, if_pos rfl, hg]
  rfl
theorem below32 {w : World} {B0 q : Nat} (hB : B0 ≤ q) (hB2 : B0 ≤ w.heap.size) (m : Nat) (d : Array Tb32) (os : Array Obj) : Below B0 w (sortWorldK enc32 6 w q 0 m d os) := by
  refine ⟨rfl, rfl, rfl, ?_, fun k hk => ?_⟩
  · show w.heap.size ≤ ((w.heap.modify q (Go.Sort.onCells (Go.Sort.putCells id 0 (flatK enc32 6 d)))) ++ os).size
    simp
  · show ((w.heap.modify q (Go.Sort.onCells (Go.Sort.putCells id 0 (flatK enc32 6 d)))) ++ os)[k]? = _
    rw [Array.getElem?_append_left (by simp; omega), Array.getElem?_modify, if_neg (by omega)]
theorem own32 {w W : World} {B0 e n c q : Nat} {d : Array Tb32} {xs : List Value} (h : w.ownsRow B0 e 6 (.slice (some ⟨q, 0, none⟩) n c) n xs) (hd : d.size = n)
    (hb : ∀ cur, w.heap[q]? = some (.cells cur e (0, 0)) → ∃ cur', W.heap[q]? = some (.cells cur' e (0, 0)) ∧ cur'.size = cur.size) (hH : HoldsK enc32 6 W q 0 d) :
    W.ownsRow B0 e 6 (.slice (some ⟨q, 0, none⟩) n c) n (tbs (d.toList.map (·.1))) := by
  have hlen : (tbs (d.toList.map (·.1))).length = n * 6 := by rw [tbs_length]; simp [hd]
  refine ⟨hlen, ?_⟩
  rcases h.2 with ⟨h1, h0⟩ | ⟨g, cap, cur, h1, hg, hh, hle, hcap, hsz, htk⟩
  · cases h1
  · cases h1
    obtain ⟨cur', hh2, hs2⟩ := hb cur hh
    refine .inr ⟨q, c, cur', rfl, hg, hh2, hle, hcap, by rw [hs2]; exact hsz, ?_⟩
    apply List.ext_getElem?
    intro j
    rcases Nat.lt_or_ge j (n * 6) with hj | hj
    · have h3 := (hH j (by rw [size_flatK, hd]; exact hj)).1
      rw [Nat.zero_add, show (id (flatK enc32 6 d)[j]!) = (flatK enc32 6 d)[j]! from rfl, flat32 d j (by rw [hd]; exact hj), cell_of_blk hh2 j] at h3
      rw [List.getElem?_take_of_lt hj, Array.getElem?_toList, h3, List.getElem?_eq_getElem (by rw [hlen]; exact hj)]
      rfl
    · rw [List.getElem?_eq_none (by rw [List.length_take]; omega), List.getElem?_eq_none (by rw [hlen]; omega)]

def SortPost (T : TypeId) (B0 q c n : Nat) (S : List Tb) (w : World) (e : Ending) (w' : World) : Prop :=
  e = .returned (.tuple #[]) ∧ Below B0 w w' ∧ ∃ S' : List Tb, S'.Perm S ∧ (∀ (i j : Nat) (t u : Tb), i < j → S'[i]? = some t → S'[j]? = some u → t.at_ ≤ u.at_) ∧ w'.ownsRow B0 T 6 (.slice (some ⟨q, 0, none⟩) n c) n (tbs S')
theorem sort_tb (q c n : Nat) (S : List Tb) (B0 : Nat) (w : World) (h : w.ownsRow B0 41 6 (.slice (some ⟨q, 0, none⟩) n c) n (tbs S)) (hS : S.length = n) (hn : n ≤ 64) (hB : B0 ≤ w.heap.size) (h32 : ∀ t ∈ S, t.at_ < 4294967296) :
    Calls Tryd.prog 34 #[.slice (some ⟨q, 0, none⟩) n c, .func (.func 35) #[] #[]] w fun e w' => SortPost 41 B0 q c n S w e w' := by
  obtain ⟨D, hD⟩ : ∃ D : List Tb32, D.map (·.1) = S := ⟨S.attach.map fun t => ⟨t.1, h32 t.1 t.2⟩, by simp⟩
  have hDn : D.toArray.size = n := by rw [← hS, ← hD]; simp
  have hq := h.lt q rfl
  have h2 : w.ownsRow B0 41 6 (.slice (some ⟨q, 0, none⟩) n c) n (tbs (D.toArray.toList.map (·.1))) := by rw [List.toList_toArray, hD]; exact h
  have hH := holds32 h2 hDn
  have := AnyQ.slices_SortFunc Tryd.sortT 6 (fun w => Tryd.isAgg41 w) (fun w => Tryd.sizeOf41 w) enc32 (fun _ => rfl) (fun x => Tb.one x.1) cf32 swo32 35 #[] q 0 c D.toArray w (fun args w => enters_of Tryd.func35 (by kernel_rfl) rfl args w) (cmp32 q D.toArray.size w) hH hq.2 (by omega)
  rw [hDn] at this
  refine this.mono ?_
  rintro e w' ⟨rfl, d', m, os, hp, hs, rfl⟩
  have hsz : d'.size = n := by rw [hp.1, hDn]
  refine ⟨rfl, below32 hq.1 hB _ _ _, d'.toList.map (·.1), ?_, ?_, own32 h2 hsz (fun cur hc => block32 hc _ _ _) ?_⟩
  · have h3 := hp.2.2
    have e1 : (d'.extract 0 n).toList = d'.toList := by rw [← hsz]; simp
    have e2 : (D.toArray.extract 0 n).toList = D := by rw [← hDn]; simp
    have h4 : d'.toList.Perm D := by rw [← e1, ← e2]; exact h3
    have := h4.map (fun x : Tb32 => x.1)
    rwa [hD] at this
  · intro i j t u hij hi hj
    simp only [List.getElem?_map, Array.getElem?_toList, Option.map_eq_some_iff] at hi hj
    obtain ⟨x, hx, rfl⟩ := hi
    obtain ⟨y, hy, rfl⟩ := hj
    have hjl : j < n := by rw [← hsz]; exact (Array.getElem?_eq_some_iff.1 hy).1
    have h5 := hs i j (Nat.zero_le _) hij hjl
    have ex : d'[i]! = x := by rw [getElem!_pos d' i (Array.getElem?_eq_some_iff.1 hx).1]; exact (Array.getElem?_eq_some_iff.1 hx).2
    have ey : d'[j]! = y := by rw [getElem!_pos d' j (Array.getElem?_eq_some_iff.1 hy).1]; exact (Array.getElem?_eq_some_iff.1 hy).2
    rw [ex, ey] at h5
    have h6 : ¬ (y.1.at_ : Int) - (x.1.at_ : Int) < 0 := of_decide_eq_false h5
    omega
  · exact holdsK_sortWorldK_c enc32 6 w q 0 D.toArray d' m os hH hq.2 (by rw [hsz, hDn])
end Go.Proofs.YtfbppbelcbbhlaaDoor.Sf
