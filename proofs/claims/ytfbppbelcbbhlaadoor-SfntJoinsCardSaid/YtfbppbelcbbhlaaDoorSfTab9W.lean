/- The door of sfnt.Tables, out of any world of its loop: a refusal, and what is done. -/
import Derived.Test.YtfbppbelcbbhlaaDoorSfApart
import Derived.Test.YtfbppbelcbbhlaaDoorSfLoopW
namespace Go.Proofs.YtfbppbelcbbhlaaDoor.Sf
open Go Go.RowKit

theorem tab_refuse {l : List Nat} {w W wx : World} {v v0 : Value} {tmps : Array Value} (h2 : tmps[2]? = some (.pointer (some ⟨w.heap.size, 0, none⟩))) (h3 : tmps[3]? = some (.pointer (some ⟨w.heap.size + 1, 0, none⟩)))
    (HL : W.heap[w.heap.size]? = some (.cells #[v0] 24 (0, 0))) (HE : W.heap[w.heap.size + 1]? = some (.cells #[.int .i64 0] 25 (0, 0))) (HB : Below w.heap.size w W) (hv : Var W w.heap.size v wx) (hnone : tablesF l = none) :
    bodyPostD Tryd.prog Tryd.f9 (fun e w' => TabPost 41 w (tablesF l) e w') (.panic [{ v := brokenV, recovered := false }]) ⟨tmps, doorD w.heap.size (w.heap.size + 1)⟩ wx := by
  refine door_bad (lb := w.heap.size) (eb := w.heap.size + 1) h2 h3 (hv.block HL) ((hv.other (lt_of_heap HE) (by omega)).trans HE) (by omega) (fun W' h1 h2 h3 h4 h5 => ?_)
  show TabPost _ w _ _ _
  rw [hnone]
  exact ⟨rfl, below_door (hv.below HB (Nat.le_refl _)) (Nat.le_refl _) (by omega) h1 h2 h3 h4 h5⟩
theorem tab_done {l : List Nat} {w W wx : World} {v0 : Value} {A : Option Addr} {n c : Nat} {tmps : Array Value} (h2 : tmps[2]? = some (.pointer (some ⟨w.heap.size, 0, none⟩))) (h3 : tmps[3]? = some (.pointer (some ⟨w.heap.size + 1, 0, none⟩)))
    (HL : W.heap[w.heap.size]? = some (.cells #[v0] 24 (0, 0))) (HE : W.heap[w.heap.size + 1]? = some (.cells #[.int .i64 0] 25 (0, 0))) (HB : Below w.heap.size w W) (hv : Var W w.heap.size (.slice A n c) wx)
    (hsome : tablesF l = some (recs l n)) (ho : wx.ownsRow W.heap.size 41 6 (.slice A n c) n (tbs (recs l n))) :
    bodyPostD Tryd.prog Tryd.f9 (fun e w' => TabPost 41 w (tablesF l) e w') .ret ⟨tmps, doorD w.heap.size (w.heap.size + 1)⟩ wx := by
  refine door_ok (lb := w.heap.size) (eb := w.heap.size + 1) h2 h3 (hv.block HL) ((hv.other (lt_of_heap HE) (by omega)).trans HE) ?_
  show TabPost _ w _ _ _
  rw [hsome]
  have hl := recs_length l n
  refine ⟨A, c, by rw [hl], ?_, hv.below HB (Nat.le_refl _)⟩
  rw [hl]
  exact own_lower ho HB.size
theorem Var.frozen {W4 : World} {lb t : Nat} {v x : Value} {wr : World} (h : Var W4 lb v wr) (h0 : W4.heap[lb]? = some (.cells #[x] t (0, 0))) : wr.frozen? ⟨lb, 0, none⟩ = false := blk_frozen (h.block h0)
theorem Var.val {W4 : World} {lb t : Nat} {v x : Value} {wr : World} (h : Var W4 lb v wr) (h0 : W4.heap[lb]? = some (.cells #[x] t (0, 0))) : wr.cell? ⟨lb, 0, none⟩ = some v := blk_cell (h.block h0)
theorem Var.same {W4 : World} {lb k t : Nat} {v u : Value} {wr : World} (h : Var W4 lb v wr) (h0 : wr.heap[k]? = some (.cells #[u] t (0, 0))) : Var W4 lb v (wr.setCell ⟨k, 0, none⟩ u) :=
  have hb : Below W4.heap.size (W4.setCell ⟨lb, 0, none⟩ v) wr := h
  ⟨hb.os, hb.tape, hb.output, by have := Below.size hb; simpa using this, fun j hj => by
    by_cases e : j = k
    · subst e
      rw [blk_set h0, ← h0]
      exact Below.block hb j hj
    · rw [heap_setCell_other _ _ _ _ e]
      exact Below.block hb j hj⟩
theorem tablesF_pair {l : List Nat} {n : Nat} (hn : tabN l = n) (h : ¬ (recs l n).Pairwise apart) : tablesF l = none := by
  unfold tablesF
  rw [if_neg]
  rintro ⟨_, _, h3⟩
  subst hn
  exact h ((recs_pairwise l (tabN l)).2 h3)
theorem recs_at_lt (l : List Nat) (n : Nat) : ∀ t ∈ recs l n, t.at_ < 4294967296 ∧ t.len < 4294967296 := by
  intro t ht
  obtain ⟨i, _, rfl⟩ := List.mem_map.1 ht
  exact ⟨numF_lt _, numF_lt _⟩
theorem full_mem {L S' : List Tb} (hp : S'.Perm (full L)) {i : Nat} {t : Tb} (h : S'[i]? = some t) : t ∈ L :=
  (List.mem_filter.1 (hp.mem_iff.1 (List.mem_of_getElem? h))).1
theorem full_length_le (L : List Tb) : (full L).length ≤ L.length := List.length_filter_le _ _
end Go.Proofs.YtfbppbelcbbhlaaDoor.Sf
