/- Neighbours of the sorted row lie apart just where any two tables lie apart. (No program in sight.) -/
import Derived.Test.YtfbppbelcbbhlaaDoorSfSortF
namespace Go.Proofs.YtfbppbelcbbhlaaDoor.Sf
open Go Go.RowKit

theorem apart_symm {t u : Tb} (h : apart t u) : apart u t := fun ⟨h1, h2, h3, h4⟩ => h ⟨h2, h1, h4, h3⟩
theorem apart_empty {t u : Tb} (h : t.len = 0) : apart t u := fun ⟨h1, _⟩ => by omega
theorem pairwise_full (L : List Tb) : L.Pairwise apart ↔ (full L).Pairwise apart := by
  induction L with
  | nil => simp [full]
  | cons t r ih =>
    by_cases h : t.len = 0
    · have e : full (t :: r) = full r := by simp [full, h]
      rw [e, List.pairwise_cons, ih]
      exact ⟨fun h2 => h2.2, fun h2 => ⟨fun u _ => apart_empty h, h2⟩⟩
    · have e : full (t :: r) = t :: full r := by simp [full, h]
      rw [e, List.pairwise_cons, List.pairwise_cons, ih]
      refine and_congr_left fun _ => ⟨fun h2 u hu => h2 u (List.mem_filter.1 hu).1, fun h2 u hu => ?_⟩
      by_cases h3 : u.len = 0
      · exact apart_symm (apart_empty h3)
      · exact h2 u (List.mem_filter.2 ⟨hu, by simpa using h3⟩)
theorem apart_sorted (L S' : List Tb) (hp : S'.Perm (full L)) (hs : ∀ (i j : Nat) (t u : Tb), i < j → S'[i]? = some t → S'[j]? = some u → t.at_ ≤ u.at_) :
    (∀ (k : Nat) (t u : Tb), S'[k]? = some t → S'[k + 1]? = some u → t.at_ + t.len ≤ u.at_) ↔ L.Pairwise apart := by
  have hlen : ∀ t ∈ S', t.len ≠ 0 := fun t ht => by
    have := (List.mem_filter.1 (hp.mem_iff.1 ht)).2
    simpa using this
  rw [pairwise_full, ← hp.pairwise_iff (fun h => apart_symm h), List.pairwise_iff_getElem]
  constructor
  · intro h i j hi hj hij
    have h1 := h i S'[i] S'[i + 1] (List.getElem?_eq_getElem hi) (List.getElem?_eq_getElem (by omega))
    have h2 : S'[i + 1].at_ ≤ S'[j].at_ := by
      rcases Nat.lt_or_ge (i + 1) j with h3 | h3
      · exact hs (i + 1) j _ _ h3 (List.getElem?_eq_getElem (by omega)) (List.getElem?_eq_getElem hj)
      · have : j = i + 1 := by omega
        subst this
        exact Nat.le_refl _
    intro ⟨_, _, _, h4⟩
    omega
  · intro h k t u ht hu
    obtain ⟨hk, rfl⟩ := List.getElem?_eq_some_iff.1 ht
    obtain ⟨hk2, rfl⟩ := List.getElem?_eq_some_iff.1 hu
    have h1 := h k (k + 1) hk hk2 (by omega)
    have h2 := hs k (k + 1) _ _ (by omega) (List.getElem?_eq_getElem hk) (List.getElem?_eq_getElem hk2)
    have h3 := hlen _ (List.getElem_mem hk)
    have h4 := hlen _ (List.getElem_mem hk2)
    rcases Nat.lt_or_ge S'[k + 1].at_ (S'[k].at_ + S'[k].len) with h5 | h5
    · exact absurd ⟨by omega, by omega, by omega, h5⟩ h1
    · exact h5
/-- Of a font's records. -/
theorem recs_pairwise (l : List Nat) (n : Nat) : (recs l n).Pairwise apart ↔ ∀ i, i < n → ∀ k, k < i → apart (recAt l i) (recAt l k) := by
  rw [List.pairwise_iff_getElem]
  constructor
  · intro h i hi k hk
    have := h k i (by rw [recs_length]; omega) (by rw [recs_length]; exact hi) hk
    simp only [recs, List.getElem_map, List.getElem_range] at this
    exact apart_symm this
  · intro h i j hi hj hij
    rw [recs_length] at hi hj
    simp only [recs, List.getElem_map, List.getElem_range]
    exact apart_symm (h j hj i hij)
end Go.Proofs.YtfbppbelcbbhlaaDoor.Sf
