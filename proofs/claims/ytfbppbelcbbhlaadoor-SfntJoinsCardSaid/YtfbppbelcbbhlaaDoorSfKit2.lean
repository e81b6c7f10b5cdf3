/- Tables that came in: names and bodies, opened. -/
import Derived.Test.YtfbppbelcbbhlaaDoorSfKit
import Derived.Test.YtfbppbelcbbhlaaDoorSfJoinW
namespace Go.Proofs.YtfbppbelcbbhlaaDoor.Sf
open Go Go.ChangeShapes Go.WideShapes Go.ChangeAt Go.WideMaps Go.WideElems Go.RowKit

theorem cells_bytes : Tryd.prog.cellsOf 22 = 1 := by kernel_rfl
theorem list_choose {α : Type} (P : Nat → α → Prop) : ∀ n, (∀ i, i < n → ∃ t, P i t) → ∃ l : List α, l.length = n ∧ ∀ i t, l[i]? = some t → P i t
  | 0, _ => ⟨[], rfl, fun i t h => by cases h⟩
  | n + 1, h => by
    obtain ⟨l, hl, hp⟩ := list_choose P n (fun i hi => h i (by omega))
    obtain ⟨t, ht⟩ := h n (by omega)
    refine ⟨l ++ [t], by simp [hl], fun i u hu => ?_⟩
    rcases Nat.lt_or_ge i n with h2 | h2
    · rw [List.getElem?_append_left (by omega)] at hu
      exact hp i u hu
    · rw [List.getElem?_append_right (by omega), hl] at hu
      rcases Nat.eq_zero_or_pos (i - n) with h3 | h3
      · rw [h3] at hu
        cases hu
        have : i = n := by omega
        subst this
        exact ht
      · rw [List.getElem?_eq_none (by simp; omega)] at hu
        cases hu
theorem addr_lit {a : Addr} (h : a.spot = none) (n : Nat) : a.add n = ⟨a.block, a.off + n, none⟩ := by
  obtain ⟨b, o, s⟩ := a
  simp only at h
  subst h
  exact add_lit b o n
theorem add_add {a : Addr} (h : a.spot = none) (m n : Nat) : (a.add m).add n = ⟨a.block, a.off + m + n, none⟩ := by
  rw [addr_lit h m]
  exact add_lit _ _ n
/-- One name. -/
theorem tag_open {H : Type} {enc : TypeId × Value → H} {W : World} {a : Addr} {n : Nat} {sp : Nat → Bool} {hd : Bool} {x : DataW H × List MemPlace}
    (h : (W.cells? 0 a 4).bind (DataW.trod enc Tryd.prog W 0 sp hd n 39) = some x) :
    ∃ t : Tg, t.ok ∧ W.cell? (a.add 0) = some (.int .u8 t.a) ∧ W.cell? (a.add 1) = some (.int .u8 t.b) ∧ W.cell? (a.add 2) = some (.int .u8 t.c) ∧ W.cell? (a.add 3) = some (.int .u8 t.d) := by
  obtain ⟨cs, hcs, hx⟩ := Option.bind_eq_some_iff.1 h
  obtain ⟨-, hl, hc⟩ := World.cells?_some hcs
  obtain ⟨xs, m1, rfl, hx1, hlen, hn4, hel⟩ := DataW.trod_array Tryd.underlying39 hx
  rw [cells_u8] at hel
  have hone : ∀ i, i < 4 → ∃ z : Nat, z < 256 ∧ W.cell? (a.add i) = some (.int .u8 z) := fun i hi => by
    obtain ⟨y, hy⟩ : ∃ y, xs[i]? = some y := ⟨xs[i]'(by omega), List.getElem?_eq_getElem _⟩
    have h1 := hel i hi
    rw [hy] at h1
    obtain ⟨z, e1, e2, e3⟩ := DataW.trod_int Tryd.underlying5 h1
    have hz : 0 ≤ z ∧ z < 256 := by
      have q1 : IntKind.u8.min = 0 := rfl
      have q2 : IntKind.u8.max = 255 := rfl
      simp only [Lit.wf, Bool.and_eq_true, decide_eq_true_eq] at e3
      omega
    refine ⟨z.toNat, by omega, ?_⟩
    rw [hc i hi, Int.toNat_of_nonneg hz.1]
    rw [Nat.mul_one] at e1
    have := congrArg (fun l => l[0]?) e1
    simpa using this
  obtain ⟨za, ha1, ha2⟩ := hone 0 (by decide)
  obtain ⟨zb, hb1, hb2⟩ := hone 1 (by decide)
  obtain ⟨zc, hc1, hc2⟩ := hone 2 (by decide)
  obtain ⟨zd, hd1, hd2⟩ := hone 3 (by decide)
  exact ⟨⟨za, zb, zc, zd⟩, ⟨ha1, hb1, hc1, hd1⟩, ha2, hb2, hc2, hd2⟩
theorem tags_open {H : Type} {enc : TypeId × Value → H} {W : World} {a0 : Option Addr} {len cap : Nat} {d0 : DataW H} {p : List MemPlace}
    (h0 : DataW.Trod enc Tryd.prog W 0 (fun _ => true) true 34 (.slice a0 len cap) d0 p) : ∃ l : List Tg, l.length = len ∧ TagsR W a0 cap l := by
  obtain ⟨fuel, hf⟩ := h0
  rcases DataW.trod_slice Tryd.underlying34 hf with ⟨hcs, -⟩ | ⟨a, len', cap', elems, rest, n, -, hcs, -, -, hle, hm, hlen, hel, -, -⟩
  · simp [Value.cells] at hcs
    obtain ⟨rfl, rfl, rfl⟩ := hcs
    exact ⟨[], rfl, Nat.le_refl _, by simp, fun _ => rfl, fun h => absurd rfl h, fun _ h => by cases h⟩
  · simp [Value.cells] at hcs
    obtain ⟨rfl, rfl, rfl⟩ := hcs
    rw [cells_tag] at hel
    obtain ⟨l, hl, hp⟩ := list_choose (fun i (t : Tg) => t.ok ∧ W.cell? ((a.add (i * 4)).add 0) = some (.int .u8 t.a) ∧ W.cell? ((a.add (i * 4)).add 1) = some (.int .u8 t.b) ∧ W.cell? ((a.add (i * 4)).add 2) = some (.int .u8 t.c) ∧ W.cell? ((a.add (i * 4)).add 3) = some (.int .u8 t.d)) len (fun i hi => by
      have h1 := hel i hi
      rw [List.getElem?_eq_getElem (show i < elems.length by omega)] at h1
      exact tag_open h1)
    refine ⟨l, hl, by omega, by unfold maxLen at hm; omega, by simp, fun hn => ?_, fun t ht => ?_⟩
    · have hs : a.spot = none := by
        obtain ⟨t, ht⟩ : ∃ t, l[0]? = some t := ⟨l[0]'(by omega), List.getElem?_eq_getElem _⟩
        have := World.cell?_spot (hp 0 t ht).2.1
        simpa [Addr.add] using this
      refine ⟨a.block, a.off, ?_, fun i t ht => ?_⟩
      · obtain ⟨b, o, s⟩ := a
        simp only at hs
        subst hs
        rfl
      · obtain ⟨-, h1, h2, h3, h4⟩ := hp i t ht
        rw [add_add hs] at h1 h2 h3 h4
        exact ⟨h1, h2, h3, h4⟩
    · obtain ⟨i, hi, rfl⟩ := List.getElem_of_mem ht
      exact (hp i _ (List.getElem?_eq_getElem hi)).1
theorem weightsAll_mem {H : Type} {P : Program} {e : TypeId} : ∀ (l : List (DataW H)) (d : DataW H), d ∈ l → ∀ n, n ∈ d.weights P e → n ∈ DataW.weightsAll P e l
  | [], _, h, _, _ => by cases h
  | x :: l, d, h, n, hn => by
    simp only [DataW.weightsAll, List.mem_append]
    rcases List.mem_cons.1 h with rfl | h2
    · exact .inl hn
    · exact .inr (weightsAll_mem l d h2 n hn)
theorem bods_open {H : Type} {enc : TypeId × Value → H} {W : World} {a0 : Option Addr} {len cap j : Nat} {d0 : DataW H} {p : List MemPlace} {ts : List TypeId} {ds : List (DataW H)} (hz : (DataW.weightsEach Tryd.prog ts ds).all (· ≤ reachBytes) = true)
    (ht : ts[j]? = some 35) (hd : ds[j]? = some d0) (h0 : DataW.Trod enc Tryd.prog W 0 (fun _ => true) true 35 (.slice a0 len cap) d0 p) :
    ∃ ls : List (List Nat), ls.length = len ∧ BodsR W a0 cap ls ∧ ∀ k, (ls.getD k []).length ≤ 140737488355328 := by
  obtain ⟨fuel, hf⟩ := h0
  rcases DataW.trod_slice Tryd.underlying35 hf with ⟨hcs, -⟩ | ⟨a, len', cap', elems, rest, n, -, hcs, hx, -, hle, hm, hlen, hel, -, -⟩
  · simp [Value.cells] at hcs
    obtain ⟨rfl, rfl, rfl⟩ := hcs
    exact ⟨[], rfl, ⟨Nat.le_refl _, by simp, fun _ => rfl, fun h => absurd rfl h⟩, fun k => by simp⟩
  · simp [Value.cells] at hcs
    obtain ⟨rfl, rfl, rfl⟩ := hcs
    rw [cells_bytes] at hel
    simp only [Prod.mk.injEq] at hx
    have hd0 := hx.1
    subst hd0
    have hw : ∀ d ∈ elems.map (·.1), ∀ m, m ∈ d.weights Tryd.prog 22 → m ≤ reachBytes := fun d hdm m hm2 => by
      have h1 : m ∈ DataW.weights Tryd.prog 35 (.slice (elems.map (·.1)) (rest.map (·.1))) := by
        simp only [DataW.weights, Tryd.underlying35, List.mem_cons, List.mem_append]
        exact .inr (.inl (weightsAll_mem _ d hdm m hm2))
      have := List.all_eq_true.1 hz _ (DataW.weights_mem_each ht hd m h1)
      simpa using this
    obtain ⟨l, hl, hp⟩ := list_choose (fun i (x : List Nat) => (∃ A' c', W.cell? (a.add (i * 1)) = some (.slice A' x.length c') ∧ Byt W A' c' x) ∧ x.length ≤ 140737488355328) len (fun i hi => by
      have h1 := hel i hi
      rw [List.getElem?_eq_getElem (show i < elems.length by omega)] at h1
      obtain ⟨cs, hcs, hx2⟩ := Option.bind_eq_some_iff.1 h1
      have hcs1 := World.cells?_some hcs
      rcases open_ints Tryd.underlying22 Tryd.underlying5 cells_u8 hx2 with ⟨hc0, -⟩ | ⟨a2, len2, cap2, zs, hc0, -, hle2, -, hzs, hxe, -, -⟩
      · subst hc0
        exact ⟨[], ⟨none, 0, cell_of_cells?_one hcs, Nat.le_refl _, by simp, fun _ => rfl, fun h => absurd rfl h, fun _ h => by cases h⟩, by simp⟩
      · subst hc0
        simp only [if_true] at hzs
        have hcell := cell_of_cells?_one hcs
        obtain ⟨y, hy1, hy2⟩ := byt_open (enc := enc) (d0 := elems[i].1) (p := elems[i].2) ⟨n, by simpa [Value.cells] using hx2⟩
        subst hy1
        refine ⟨y, ⟨_, _, hcell, hy2⟩, ?_⟩
        have hm1 := hw elems[i].1 (List.mem_map_of_mem (List.getElem_mem _))
        rw [hxe] at hm1
        have hm2 := hm1 (((lits (H := H) .u8 (zs.take y.length)).length + (lits (H := H) .u8 (zs.drop y.length)).length) * Tryd.prog.bytesOf 5) (by simp only [DataW.weights, Tryd.underlying22, List.mem_cons, true_or])
        rw [bytes_u8] at hm2
        simp [lits] at hm2
        have h47 := reachBytes_lt
        omega)
    refine ⟨l, hl, ⟨by omega, by unfold maxLen at hm; omega, by simp, fun hn => ?_⟩, fun k => ?_⟩
    · have hs : a.spot = none := by
        obtain ⟨t, ht⟩ : ∃ t, l[0]? = some t := ⟨l[0]'(by omega), List.getElem?_eq_getElem _⟩
        obtain ⟨⟨A', c', hc, -⟩, -⟩ := hp 0 t ht
        have := World.cell?_spot hc
        simpa [Addr.add] using this
      refine ⟨a.block, a.off, ?_, fun i t ht => ?_⟩
      · obtain ⟨b, o, s⟩ := a
        simp only at hs
        subst hs
        rfl
      · obtain ⟨⟨A', c', h1, h2⟩, -⟩ := hp i t ht
        rw [addr_lit hs, Nat.mul_one] at h1
        exact ⟨A', c', h1, h2⟩
    · rcases Nat.lt_or_ge k l.length with hk | hk
      · rw [List.getD_eq_getElem?_getD, List.getElem?_eq_getElem hk]
        exact (hp k _ (List.getElem?_eq_getElem hk)).2
      · rw [List.getD_eq_getElem?_getD, List.getElem?_eq_none hk]
        simp
end Go.Proofs.YtfbppbelcbbhlaaDoor.Sf
