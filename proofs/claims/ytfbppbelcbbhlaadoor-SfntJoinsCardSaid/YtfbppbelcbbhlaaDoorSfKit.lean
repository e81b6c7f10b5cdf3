/- What the cards of this chapter share: the variable headTag as the row lays it; bytes that came in. -/
import Derived.Test.YtfbppbelcbbhlaaDoorTie
import Derived.Test.YtfbppbelcbbhlaaDoorSfSum
import Derived.ProofKit
import Derived.LaidMore
import Derived.OpenShut
import Derived.Stop.Joined
import Derived.SevenTiedAt
import Derived.SizedLaws
namespace Go.Proofs.YtfbppbelcbbhlaaDoor.Sf
open Go Go.ChangeShapes Go.WideShapes Go.ChangeAt Go.WideMaps Go.WideElems Go.RowKit

theorem ownK : ownKnob Tryd.prog.godebug = none := by kernel_rfl
theorem laidOutK : laidOutB Tryd.prog = true := by kernel_rfl
theorem cells_u8 : Tryd.prog.cellsOf 5 = 1 := by kernel_rfl
theorem cells_tag : Tryd.prog.cellsOf 39 = 4 := by kernel_rfl
theorem g_hd : Tryd.prog.globalNamed "calamus/sfnt.headTag" = some 0 := by kernel_rfl
theorem t_hd : (Tryd.prog.globals[0]?).map (·.type) = some 39 := by kernel_rfl
theorem door_met (os : Os) (args : Array Value) : laidMetH Tryd.prog [("calamus/sfnt.headTag", Rows.laid_calamus_sfnt_headTag)] ((World.doorLaid Tryd.prog 400 os).forCall (fun _ _ => 0) ⟨#[], args, []⟩).memory :=
  laidMetH_of_parts3 (fuel := 8) (laidMet_of_run' 8 (by kernel_rfl) (by kernel_rfl)) (by kernel_rfl) (by kernel_rfl)
theorem cell_hd {W : World} {m i : Nat} {k : Int} {cs : List Value} (hv : ∀ i v, cs[i]? = some v → W.cell? ⟨0, i, none⟩ = some v) {x : DataW Unit × List MemPlace}
    (h : DataW.trod (fun _ => ()) Tryd.prog W 0 (fun _ => true) false m 5 ((cs.drop (i * 1)).take 1) = some x) (hx : x.1 = .lit (.int .u8 k)) : W.cell? ⟨0, i, none⟩ = some (.int .u8 k) := by
  obtain ⟨z, e1, e2, _⟩ := DataW.trod_int Tryd.underlying5 h
  rw [e2] at hx
  have hz : z = k := by simpa using hx
  subst hz
  refine hv i _ ?_
  rw [Nat.mul_one] at e1
  have := congrArg (fun l => l[0]?) e1
  simpa using this
theorem hd_of_laid {W : World} (h : laidMetH Tryd.prog [("calamus/sfnt.headTag", Rows.laid_calamus_sfnt_headTag)] W) : HdVar W := by
  rw [MakeChecks.laidMetH_plain _ _ _ (by kernel_rfl)] at h
  obtain ⟨ps, ⟨g0, t0, cs0, f0, p0, q0, hg0, ht0, hv0, hd0, _, _⟩, _, _⟩ := h
  obtain rfl := Option.some.inj (g_hd.symm.trans hg0)
  obtain rfl := Option.some.inj (t_hd.symm.trans ht0)
  obtain ⟨xs, m1, rfl, hx1, hlen, hn4, hel⟩ := DataW.trod_array Tryd.underlying39 hd0
  simp only [Prod.mk.injEq, DataW.agg.injEq, Rows.laid_calamus_sfnt_headTag] at hx1
  rw [cells_u8] at hel
  have hcell := World.var?_cell hg0 hv0
  have hv : ∀ i v, cs0.toList[i]? = some v → W.cell? ⟨0, i, none⟩ = some v := fun i v h => (hcell i).trans (by rw [← Array.getElem?_toList]; exact h)
  match xs, hn4, hx1, hel with
  | [x0, x1, x2, x3], _, hx1, hel =>
    simp only [List.map_cons, List.map_nil, List.cons.injEq] at hx1
    exact ⟨cell_hd hv (hel 0 (by decide)) hx1.1.1.symm, cell_hd hv (hel 1 (by decide)) hx1.1.2.1.symm, cell_hd hv (hel 2 (by decide)) hx1.1.2.2.1.symm, cell_hd hv (hel 3 (by decide)) hx1.1.2.2.2.1.symm⟩
/-- Bytes that came in. -/
theorem byt_open {H : Type} {enc : TypeId × Value → H} {W : World} {a0 : Option Addr} {len cap : Nat} {d0 : DataW H} {p : List MemPlace}
    (h0 : DataW.Trod enc Tryd.prog W 0 (fun _ => true) true 22 (.slice a0 len cap) d0 p) : ∃ l : List Nat, l.length = len ∧ Byt W a0 cap l := by
  obtain ⟨fuel, hf⟩ := h0
  rcases open_ints Tryd.underlying22 Tryd.underlying5 cells_u8 hf with ⟨hcs, hx⟩ | ⟨a, len', cap', zs, hcs, _, hl, hm, hz, hx, hcell, hwz⟩
  · simp [Value.cells] at hcs
    obtain ⟨rfl, rfl, rfl⟩ := hcs
    exact ⟨[], rfl, Nat.le_refl _, by simp, fun _ => rfl, fun h => absurd rfl h, fun _ h => by cases h⟩
  · simp [Value.cells] at hcs
    obtain ⟨rfl, rfl, rfl⟩ := hcs
    simp only [if_true] at hz
    have hb : ∀ x ∈ zs, 0 ≤ x ∧ x < 256 := fun x hx => by
      have h := hwz x hx
      have h1 : IntKind.u8.min = 0 := rfl
      have h2 : IntKind.u8.max = 255 := rfl
      simp only [Lit.wf, Bool.and_eq_true, decide_eq_true_eq] at h
      omega
    obtain ⟨ab, ao, ai⟩ := a
    refine ⟨(zs.take len).map Int.toNat, by simp; omega, by simp; omega, by unfold maxLen at hm; omega, by simp, fun _ => ?_, fun x hx => ?_⟩
    · have hlen : 0 < len := by
        rename_i h
        simp at h
        omega
      have h0 := World.cell?_spot (hcell 0 (by omega))
      simp only [Addr.add, if_true] at h0
      subst h0
      refine ⟨ab, ao, rfl, fun i hi => ?_⟩
      simp only [List.length_map, List.length_take] at hi
      have hc := hcell i (by omega)
      have e1 : (Addr.add ⟨ab, ao, none⟩ i) = ⟨ab, ao + i, none⟩ := by
        unfold Addr.add
        split
        · subst_vars; rfl
        · rfl
      rw [e1] at hc
      rw [hc]
      have hi2 : i < zs.length := by omega
      have hz2 := hb zs[i] (List.getElem_mem _)
      simp only [List.getD_eq_getElem?_getD, List.getElem?_map, List.getElem?_take, if_pos (show i < len by omega), List.getElem?_eq_getElem hi2, Option.map_some, Option.getD_some]
      rw [Int.toNat_of_nonneg hz2.1]
    · obtain ⟨z, hz1, rfl⟩ := List.mem_map.1 hx
      have := hb z (List.mem_of_mem_take hz1)
      omega
theorem bytes_u8 : Tryd.prog.bytesOf 5 = 1 := by kernel_rfl
/-- .. and their size. -/
theorem byt_open2 {H : Type} {enc : TypeId × Value → H} {W : World} {a0 : Option Addr} {len cap j : Nat} {d0 : DataW H} {p : List MemPlace} {ts : List TypeId} {ds : List (DataW H)} (hz : (DataW.weightsEach Tryd.prog ts ds).all (· ≤ reachBytes) = true)
    (ht : ts[j]? = some 22) (hd : ds[j]? = some d0) (h0 : DataW.Trod enc Tryd.prog W 0 (fun _ => true) true 22 (.slice a0 len cap) d0 p) : ∃ l : List Nat, l.length = len ∧ Byt W a0 cap l ∧ l.length ≤ 140737488355328 := by
  obtain ⟨l, hl, hy⟩ := byt_open h0
  refine ⟨l, hl, hy, ?_⟩
  obtain ⟨fuel, hf⟩ := h0
  rcases open_ints Tryd.underlying22 Tryd.underlying5 cells_u8 hf with ⟨hcs, -⟩ | ⟨a, len', cap', zs, hcs, _, hl2, -, hzs, hx, -, -⟩
  · simp [Value.cells] at hcs
    omega
  · simp [Value.cells] at hcs
    obtain ⟨-, rfl, rfl⟩ := hcs
    simp only [if_true] at hzs
    simp only [Prod.mk.injEq] at hx
    rw [hx.1] at hd
    have := sized_slice hz ht hd Tryd.underlying22
    rw [bytes_u8] at this
    simp [lits] at this
    have h47 := reachBytes_lt
    omega
end Go.Proofs.YtfbppbelcbbhlaaDoor.Sf
