import Derived.Test.YtfbppbelcbbhlaaGreatDoorTie
import Derived.Test.YtfbppbelcbbhlaaGreatDoorKnSum
import Derived.ProofKit
import Derived.LaidMore
import Derived.OpenShut
import Derived.Stop.Joined
import Derived.SevenTiedAt
import Derived.SizedLaws
import Derived.Test.YtfbppbelcbbhlaaGreatDoorKnRead
import Derived.BigQuiet
import Derived.Deep.RegionHeld3
import Derived.Deep.CutRange
import Derived.Deep.DeepCutAuto
import Derived.Deep.CutBlock

/- What the cards of this chapter share: the variable headTag as the row lays it; bytes that came in. -/
namespace Go.Proofs.YtfbppbelcbbhlaaGreatDoor.Sf
open Go Go.ChangeShapes Go.WideShapes Go.ChangeAt Go.WideMaps Go.WideElems Go.RowKit

theorem ownK : ownKnob Tryz.prog.godebug = none := by kernel_rfl
theorem laidOutK : laidOutB Tryz.prog = true := by kernel_rfl
theorem cells_u8 : Tryz.prog.cellsOf 5 = 1 := by kernel_rfl
theorem cells_tag : Tryz.prog.cellsOf 23 = 4 := by kernel_rfl
theorem g_hd : Tryz.prog.globalNamed "calamus/sfnt.headTag" = some 0 := by kernel_rfl
theorem t_hd : (Tryz.prog.globals[0]?).map (·.type) = some 23 := by kernel_rfl
theorem door_met (os : Os) (args : Array Value) : laidMetH Tryz.prog [("calamus/sfnt.headTag", Rows.laid_calamus_sfnt_headTag)] ((World.doorLaid Tryz.prog 400 os).forCall (fun _ _ => 0) ⟨#[], args, []⟩).memory :=
  laidMetH_of_parts3 (fuel := 8) (laidMet_of_run' 8 (by kernel_rfl) (by kernel_rfl)) (by kernel_rfl) (by kernel_rfl)
theorem cell_hd {W : World} {m i : Nat} {k : Int} {cs : List Value} (hv : ∀ i v, cs[i]? = some v → W.cell? ⟨0, i, none⟩ = some v) {x : DataW Unit × List MemPlace}
    (h : DataW.trod (fun _ => ()) Tryz.prog W 0 (fun _ => true) false m 5 ((cs.drop (i * 1)).take 1) = some x) (hx : x.1 = .lit (.int .u8 k)) : W.cell? ⟨0, i, none⟩ = some (.int .u8 k) := by
  obtain ⟨z, e1, e2, _⟩ := DataW.trod_int Tryz.underlying5 h
  rw [e2] at hx
  have hz : z = k := by simpa using hx
  subst hz
  refine hv i _ ?_
  rw [Nat.mul_one] at e1
  have := congrArg (fun l => l[0]?) e1
  simpa using this
theorem hd_of_laid {W : World} (h : laidMetH Tryz.prog [("calamus/sfnt.headTag", Rows.laid_calamus_sfnt_headTag)] W) : HdVar W := by
  rw [MakeChecks.laidMetH_plain _ _ _ (by kernel_rfl)] at h
  obtain ⟨ps, ⟨g0, t0, cs0, f0, p0, q0, hg0, ht0, hv0, hd0, _, _⟩, _, _⟩ := h
  obtain rfl := Option.some.inj (g_hd.symm.trans hg0)
  obtain rfl := Option.some.inj (t_hd.symm.trans ht0)
  obtain ⟨xs, m1, rfl, hx1, hlen, hn4, hel⟩ := DataW.trod_array Tryz.underlying23 hd0
  simp only [Prod.mk.injEq, DataW.agg.injEq, Rows.laid_calamus_sfnt_headTag] at hx1
  rw [cells_u8] at hel
  have hcell := World.var?_cell hg0 hv0
  have hv : ∀ i v, cs0.toList[i]? = some v → W.cell? ⟨0, i, none⟩ = some v := fun i v h => (hcell i).trans (by rw [← Array.getElem?_toList]; exact h)
  match xs, hn4, hx1, hel with
  | [x0, x1, x2, x3], _, hx1, hel =>
    simp only [List.map_cons, List.map_nil, List.cons.injEq] at hx1
    exact ⟨cell_hd hv (hel 0 (by decide)) hx1.1.1.symm, cell_hd hv (hel 1 (by decide)) hx1.1.2.1.symm, cell_hd hv (hel 2 (by decide)) hx1.1.2.2.1.symm, cell_hd hv (hel 3 (by decide)) hx1.1.2.2.2.1.symm⟩
/-- Bytes that came in. -/
theorem byt_open {H : Type} {enc : TypeId × Value → H} {W : World} {a0 : Option Addr} {len cap : Nat} {d0 : DataW H} {p : List MemPlace}
    (h0 : DataW.Trod enc Tryz.prog W 0 (fun _ => true) true 25 (.slice a0 len cap) d0 p) : ∃ l : List Nat, l.length = len ∧ Byt W a0 cap l := by
  obtain ⟨fuel, hf⟩ := h0
  rcases open_ints Tryz.underlying25 Tryz.underlying5 cells_u8 hf with ⟨hcs, hx⟩ | ⟨a, len', cap', zs, hcs, _, hl, hm, hz, hx, hcell, hwz⟩
  · simp [Value.cells] at hcs
    obtain ⟨rfl, rfl, rfl⟩ := hcs
    exact ⟨[], rfl, Nat.le_refl _, by simp, fun _ => rfl, fun h => absurd rfl h, fun _ h => by cases h⟩
  · simp [Value.cells] at hcs
    obtain ⟨rfl, rfl, rfl⟩ := hcs
    simp only [if_true] at hz
    have hb : ∀ x ∈ zs, 0 ≤ x ∧ x < 256 := fun x hx => by
      have h := hwz x hx
      have h1 : IntKind.u8.min = 0 := rfl
      have h2 : IntKind.u8.max = 255 := rfl
      simp only [Lit.wf, Bool.and_eq_true, decide_eq_true_eq] at h
      omega
    obtain ⟨ab, ao, ai⟩ := a
    refine ⟨(zs.take len).map Int.toNat, by simp; omega, by simp; omega, by unfold maxLen at hm; omega, by simp, fun _ => ?_, fun x hx => ?_⟩
    · have hlen : 0 < len := by
        rename_i h
        simp at h
        omega
      have h0 := World.cell?_spot (hcell 0 (by omega))
      simp only [Addr.add, if_true] at h0
      subst h0
      refine ⟨ab, ao, rfl, fun i hi => ?_⟩
      simp only [List.length_map, List.length_take] at hi
      have hc := hcell i (by omega)
      have e1 : (Addr.add ⟨ab, ao, none⟩ i) = ⟨ab, ao + i, none⟩ := by
        unfold Addr.add
        split
        · subst_vars; rfl
        · rfl
      rw [e1] at hc
      rw [hc]
      have hi2 : i < zs.length := by omega
      have hz2 := hb zs[i] (List.getElem_mem _)
      simp only [List.getD_eq_getElem?_getD, List.getElem?_map, List.getElem?_take, if_pos (show i < len by omega), List.getElem?_eq_getElem hi2, Option.map_some, Option.getD_some]
      rw [Int.toNat_of_nonneg hz2.1]
    · obtain ⟨z, hz1, rfl⟩ := List.mem_map.1 hx
      have := hb z (List.mem_of_mem_take hz1)
      omega
theorem bytes_u8 : Tryz.prog.bytesOf 5 = 1 := by kernel_rfl
/-- .. and their size. -/
theorem byt_open2 {H : Type} {enc : TypeId × Value → H} {W : World} {a0 : Option Addr} {len cap j : Nat} {d0 : DataW H} {p : List MemPlace} {ts : List TypeId} {ds : List (DataW H)} (hz : (DataW.weightsEach Tryz.prog ts ds).all (· ≤ reachBytes) = true)
    (ht : ts[j]? = some 25) (hd : ds[j]? = some d0) (h0 : DataW.Trod enc Tryz.prog W 0 (fun _ => true) true 25 (.slice a0 len cap) d0 p) : ∃ l : List Nat, l.length = len ∧ Byt W a0 cap l ∧ l.length ≤ 140737488355328 := by
  obtain ⟨l, hl, hy⟩ := byt_open h0
  refine ⟨l, hl, hy, ?_⟩
  obtain ⟨fuel, hf⟩ := h0
  rcases open_ints Tryz.underlying25 Tryz.underlying5 cells_u8 hf with ⟨hcs, -⟩ | ⟨a, len', cap', zs, hcs, _, hl2, -, hzs, hx, -, -⟩
  · simp [Value.cells] at hcs
    omega
  · simp [Value.cells] at hcs
    obtain ⟨-, rfl, rfl⟩ := hcs
    simp only [if_true] at hzs
    simp only [Prod.mk.injEq] at hx
    rw [hx.1] at hd
    have := sized_slice hz ht hd Tryz.underlying25
    rw [bytes_u8] at this
    simp [lits] at this
    have h47 := reachBytes_lt
    omega
end Go.Proofs.YtfbppbelcbbhlaaGreatDoor.Sf

/- Regions that draw their order, whose own operations only read, and whose callees may make memory: one walk, in the text's order. -/
namespace Go.Proofs.YtfbppbelcbbhlaaGreatDoor.Sf
open Go Go.RowKit

/-- A world that has grown out of another one. -/
structure Grown (w0 : World) where
  w : World
  below : Below w0.heap.size w0 w
instance (w0 : World) : Inhabited (Grown w0) := ⟨⟨w0, Below.refl _ _⟩⟩
theorem wp_region_grown {P : Program} {id : Nat} {Q : Exit → Act → World → Prop} {a : Act} {w : World} {l : List Oper} (hm : P.follows .mixedOrders = true) (hB : Region.lexB .any l.toArray = true)
    (h : wpQuiet P l.toArray (fun w' => ∃ e : Grown w, w' = e.w) (fun a' => ∀ w', (∃ e : Grown w, w' = e.w) → Q .normal a' w') l a) : (Code.region id l.toArray true).wp P Q a w :=
  wp_region_quiet (C := fun w' => ∃ e : Grown w, w' = e.w) hm hB ⟨⟨w.drew, (Below.refl _ _).drew⟩, rfl⟩ (by simpa using h)
theorem calls_grown {P : Program} {f : FuncId} {args : Array Value} {w0 : World} {e : Grown w0} {v : Value} (h : Calls P f args e.w fun x w' => x = .returned v ∧ Below e.w.heap.size e.w w') :
    Calls P f args e.w fun x w'' => x = .returned v ∧ ∃ e2 : Grown w0, w'' = e2.w :=
  h.mono fun _ _ ⟨a, b⟩ => ⟨a, ⟨⟨_, e.below.trans (b.mono e.below.size)⟩, rfl⟩⟩
theorem calls_grown_same {P : Program} {f : FuncId} {args : Array Value} {w0 : World} {e : Grown w0} {v : Value} (h : Calls P f args e.w fun x w' => x = .returned v ∧ e.w = w') :
    Calls P f args e.w fun x w'' => x = .returned v ∧ ∃ e2 : Grown w0, w'' = e2.w :=
  h.mono fun _ _ ⟨a, b⟩ => ⟨a, ⟨e, b.symm⟩⟩
theorem Grown.cell {w0 : World} (e : Grown w0) {b o : Nat} {v : Value} (h : w0.cell? ⟨b, o, none⟩ = some v) : e.w.cell? ⟨b, o, none⟩ = some v := (kept_of_below e.below).cell h
theorem Grown.byt {w0 : World} (e : Grown w0) {A : Option Addr} {cap : Nat} {l : List Nat} (h : Byt w0 A cap l) : Byt e.w A cap l := h.below e.below
theorem Grown.outer {w w0 : World} (e : Grown w0) (h : Below w.heap.size w w0) : Below w.heap.size w e.w := h.trans (e.below.mono h.size)
end Go.Proofs.YtfbppbelcbbhlaaGreatDoor.Sf

/- Tables of a font: the order of names; the reference's table by table. -/
namespace Go.Proofs.YtfbppbelcbbhlaaGreatDoor.Sf
open Go Go.RowKit

/-- Is a name ahead of another one? -/
def tagLt (t u : Tg) : Bool :=
  if t.a ≠ u.a then decide (t.a < u.a) else if t.b ≠ u.b then decide (t.b < u.b) else if t.c ≠ u.c then decide (t.c < u.c) else decide (t.d < u.d)
def Tg.at_ (t : Tg) (k : Nat) : Nat := match k with | 0 => t.a | 1 => t.b | 2 => t.c | _ => t.d
theorem tagLt_at (t u : Tg) (k : Nat) (hk : k < 4) (h : ∀ j, j < k → t.at_ j = u.at_ j) (hne : t.at_ k ≠ u.at_ k) : tagLt t u = decide (t.at_ k < u.at_ k) := by
  match k, hk with
  | 0, _ => simp only [Tg.at_] at hne ⊢; unfold tagLt; rw [if_pos hne]
  | 1, _ => have h0 := h 0 (by omega); simp only [Tg.at_] at hne h0 ⊢; unfold tagLt; rw [if_neg (by simpa using h0), if_pos hne]
  | 2, _ => have h0 := h 0 (by omega); have h1 := h 1 (by omega); simp only [Tg.at_] at hne h0 h1 ⊢; unfold tagLt; rw [if_neg (by simpa using h0), if_neg (by simpa using h1), if_pos hne]
  | 3, _ => have h0 := h 0 (by omega); have h1 := h 1 (by omega); have h2 := h 2 (by omega); simp only [Tg.at_] at hne h0 h1 h2 ⊢; unfold tagLt; rw [if_neg (by simpa using h0), if_neg (by simpa using h1), if_neg (by simpa using h2)]
theorem tagLt_same (t u : Tg) (h : ∀ j, j < 4 → t.at_ j = u.at_ j) : tagLt t u = false := by
  have h0 := h 0 (by omega)
  have h1 := h 1 (by omega)
  have h2 := h 2 (by omega)
  have h3 := h 3 (by omega)
  simp only [Tg.at_] at h0 h1 h2 h3
  unfold tagLt
  rw [if_neg (by simpa using h0), if_neg (by simpa using h1), if_neg (by simpa using h2), h3]
  simp
theorem tag_cell {w : World} {b : Nat} {t : Tg} {ty : TypeId} {f : Nat × Nat} (h : w.heap[b]? = some (.cells #[.int .u8 t.a, .int .u8 t.b, .int .u8 t.c, .int .u8 t.d] ty f)) (k : Nat) (hk : k < 4) :
    w.cell? ⟨b, k, none⟩ = some (.int .u8 (t.at_ k : Nat)) := by
  rw [cell_of_blk h k]
  match k, hk with
  | 0, _ => rfl
  | 1, _ => rfl
  | 2, _ => rfl
  | 3, _ => rfl

set_option maxHeartbeats 1000000 in
theorem less_ok (t u : Tg) (w : World) :
    Calls Tryz.prog 15 #[t.val, u.val] w fun e w' => e = .returned (.bool (tagLt t u)) ∧ Below w.heap.size w w' := by
  unfold Tg.val
  go_enter Tryz.func15, Tryz.ntmps15
  go_wp2
  go_loopw [5] (fun i wr => ∃ k : Nat, k ≤ 4 ∧ i = .int .i64 k ∧ (∀ j, j < k → t.at_ j = u.at_ j) ∧ wr.heap[w.heap.size]? = some (.cells #[.int .u8 t.a, .int .u8 t.b, .int .u8 t.c, .int .u8 t.d] 23 (0, 0)) ∧
    wr.heap[w.heap.size + 1]? = some (.cells #[.int .u8 u.a, .int .u8 u.b, .int .u8 u.c, .int .u8 u.d] 23 (0, 0)) ∧ Below w.heap.size w wr) (fun i _ => 4 - (intOf i).toNat)
  case atStart =>
    refine ⟨0, by omega, rfl, fun j hj => by omega, ?_, heap_new_at _ _ (by simp), ((Below.refl _ _).alloc (Nat.le_refl _) _).alloc (by simp) _⟩
    rw [World.heap_alloc_lt _ _ (by simp)]
    exact heap_alloc_new _ _
  case round =>
    obtain ⟨k, hk, rfl, heq, h1, h2, hbel⟩ := hrel
    have HE := Lib.hid heq
    have HB := Lib.hid hbel
    have H1 := Lib.hid h1
    have H2 := Lib.hid h2
    clear heq hbel h1 h2
    by_cases hlt : k < 4
    · have c1 := tag_cell H1.out k hlt
      have c2 := tag_cell H2.out k hlt
      have hk0 : (0 : Int) ≤ (k : Int) := by omega
      have hk4 : (k : Int) < 4 := by omega
      by_cases hne : t.at_ k = u.at_ k
      · have HN := Lib.hid hne
        rw [← hne] at c2
        clear hne
        go_wp2_with fail
        go_quiet (fail)
        go_wp2
        go_roundw
        case rel =>
          refine ⟨k + 1, by omega, by go_num, fun j hj => ?_, H1.out, H2.out, below_drewN' HB.out _⟩
          rcases Nat.lt_or_ge j k with h | h
          · exact HE.out j h
          · have : j = k := by omega
            subst this
            exact HN.out
        case measure => simp [intOf]; omega
      · have HT := Lib.hid (tagLt_at t u k hlt HE.out hne)
        have hne2 : ((t.at_ k : Int) != (u.at_ k : Int)) = true := by simp; omega
        clear hne
        go_wp2_with fail
        go_quiet (fail)
        go_wp2_with fail
        go_quiet (fail)
        go_wp2
        go_ret
        exact ⟨by rw [HT.out]; rfl, by repeat first | exact HB.out | refine below_drewN' ?_ _⟩
    · go_wp2
      go_ret
      have hk4 : k = 4 := by omega
      subst hk4
      exact ⟨by rw [tagLt_same t u HE.out]; rfl, HB.out⟩

/-- A table of a font. -/
structure Tb where
  tag : Tg
  at_ : Nat
  len : Nat
  deriving DecidableEq
def Tb.cells (t : Tb) : List Value := t.tag.cells ++ [.int .i64 t.at_, .int .i64 t.len]
def tbs (l : List Tb) : List Value := l.flatMap Tb.cells
def recAt (b : List Nat) (i : Nat) : Tb :=
  ⟨⟨b.getD (12 + 16 * i) 0, b.getD (12 + 16 * i + 1) 0, b.getD (12 + 16 * i + 2) 0, b.getD (12 + 16 * i + 3) 0⟩, numAt b (12 + 16 * i + 8) 4, numAt b (12 + 16 * i + 12) 4⟩
def recOk (b : List Nat) (n i : Nat) : Prop :=
  (recAt b i).at_ % 4 = 0 ∧ 12 + 16 * n ≤ (recAt b i).at_ ∧ (recAt b i).at_ + (recAt b i).len ≤ b.length ∧
    tabSum (recAt b i).tag ((b.drop (recAt b i).at_).take (recAt b i).len) = numAt b (12 + 16 * i + 4) 4 ∧ (i = 0 ∨ tagLt (recAt b (i - 1)).tag (recAt b i).tag = true)
instance (b : List Nat) (n i : Nat) : Decidable (recOk b n i) := by unfold recOk; infer_instance
def apart (t u : Tb) : Prop := ¬ (0 < t.len ∧ 0 < u.len ∧ t.at_ < u.at_ + u.len ∧ u.at_ < t.at_ + t.len)
instance (t u : Tb) : Decidable (apart t u) := by unfold apart; infer_instance
def fontOk (b : List Nat) (n : Nat) : Prop := b.length ≤ 16777216 ∧ 12 ≤ b.length ∧ 1 ≤ n ∧ n ≤ 64 ∧ b.take 12 = headB n ∧ 12 + 16 * n ≤ b.length
instance (b : List Nat) (n : Nat) : Decidable (fontOk b n) := by unfold fontOk; infer_instance
def tabN (b : List Nat) : Nat := refNum b 4 2
def tablesOk (b : List Nat) : Prop := fontOk b (tabN b) ∧ (∀ i, i < tabN b → recOk b (tabN b) i) ∧ (∀ i, i < tabN b → ∀ k, k < i → apart (recAt b i) (recAt b k))
instance (b : List Nat) : Decidable (tablesOk b) := by unfold tablesOk; infer_instance
def recs (b : List Nat) (k : Nat) : List Tb := (List.range k).map (recAt b)
def tablesF (b : List Nat) : Option (List Tb) := if tablesOk b then some (recs b (tabN b)) else none
def TabPost (T : TypeId) (w : World) (r : Option (List Tb)) (e : Ending) (w' : World) : Prop :=
  match r with
  | none => e = .returned (.tuple #[.slice none 0 0, .int .i64 50]) ∧ Below w.heap.size w w'
  | some l => ∃ A c, e = .returned (.tuple #[.slice A l.length c, .int .i64 0]) ∧ w'.ownsRow w.heap.size T 6 (.slice A l.length c) l.length (tbs l) ∧ Below w.heap.size w w'
theorem recs_length (b : List Nat) (k : Nat) : (recs b k).length = k := by simp [recs]
theorem recs_succ (b : List Nat) (k : Nat) : recs b (k + 1) = recs b k ++ [recAt b k] := by simp [recs, List.range_succ]
theorem tbs_append (l m : List Tb) : tbs (l ++ m) = tbs l ++ tbs m := by simp [tbs]
theorem tbs_length (l : List Tb) : (tbs l).length = l.length * 6 := by
  induction l with
  | nil => rfl
  | cons t r ih => simp [tbs] at ih ⊢; rw [ih]; simp [Tb.cells, Tg.cells]; omega

set_option maxRecDepth 100000 in
/-- `s[i:j]` of a row of bytes. -/
theorem Byt.cut {w : World} {A : Option Addr} {cap : Nat} {l : List Nat} (h : Byt w A cap l) (i j : Nat) (hij : i ≤ j) (hj : j ≤ l.length) :
    ∃ A', (∀ W, (Instr.slice 25 (.slice A l.length cap) (some (.int .i64 i)) (some (.int .i64 j)) none).run Tryz.prog W = .ok (.slice A' (j - i) (cap - i)) W) ∧ Byt w A' (cap - i) ((l.drop i).take (j - i)) := by
  have hle := h.le
  have hmax := h.max
  refine ⟨if cap = i then A else A.map (·.add (i * 1)), fun W => ?_, ?_⟩
  · rw [run_slice_lh W 25 A l.length cap Tryz.underlying25 .i64 .i64 _ _ (by omega) (by omega) (by omega)]
    have he : Tryz.prog.elem 25 = 5 := by simp [Program.elem, Tryz.underlying25]
    rw [he, Tryz.sizeOf5]
    simp only [Result.andThen, sliced, Int.toNat_natCast]
  · refine ⟨by rw [List.length_take, List.length_drop]; omega, Nat.le_trans (Nat.sub_le _ _) hmax, ?_, ?_, fun x hx => h.lt x (List.mem_of_mem_drop (List.mem_of_mem_take hx))⟩
    · intro hn
      have : A = none := by
        split at hn
        · exact hn
        · simpa using hn
      have := h.nil this
      omega
    · intro hne
      have hne' : l.length ≠ 0 := by simp at hne; omega
      obtain ⟨b, o, rfl, hc⟩ := h.cells hne'
      have hci : cap ≠ i := by simp at hne; omega
      refine ⟨b, o + i, by rw [if_neg hci]; simp [add_lit], fun k hk => ?_⟩
      have hk' : k < j - i := by simp at hk; omega
      have := hc (i + k) (by omega)
      rw [← Nat.add_assoc] at this
      rw [this]
      simp [List.getD, hk', List.getElem?_drop]

theorem bel_and {w wx W : World} {P : Prop} (h : Below w.heap.size w wx) (hs : Below wx.heap.size wx W ∧ P) : Below w.heap.size w W := h.trans (hs.1.mono h.size)
theorem bel_and2 {wx W w2 : World} {P : Prop} (hs : Below wx.heap.size wx W ∧ P) (g : Below W.heap.size W w2) : Below wx.heap.size wx w2 := hs.1.trans (g.mono hs.1.size)
theorem tbs_at : ∀ (l : List Tb) (i : Nat) (t : Tb), l[i]? = some t → ∀ j, j < 6 → (tbs l)[i * 6 + j]? = t.cells[j]?
  | [], i, t, h, _, _ => by simp at h
  | x :: r, 0, t, h, j, hj => by
    simp at h
    subst h
    have : x.cells.length = 6 := rfl
    simp only [tbs, List.flatMap_cons, Nat.zero_mul, Nat.zero_add]
    rw [List.getElem?_append_left (by omega)]
  | x :: r, i + 1, t, h, j, hj => by
    simp at h
    have ih := tbs_at r i t h j hj
    have : x.cells.length = 6 := rfl
    simp only [tbs, List.flatMap_cons]
    rw [List.getElem?_append_right (by omega), this, show (i + 1) * 6 + j - 6 = i * 6 + j from by omega]
    exact ih
structure TbCells (w : World) (q o : Nat) (t : Tb) : Prop where
  a : w.cell? ⟨q, o, none⟩ = some (.int .u8 t.tag.a)
  b : w.cell? ⟨q, o + 1, none⟩ = some (.int .u8 t.tag.b)
  c : w.cell? ⟨q, o + 2, none⟩ = some (.int .u8 t.tag.c)
  d : w.cell? ⟨q, o + 3, none⟩ = some (.int .u8 t.tag.d)
  at_ : w.cell? ⟨q, o + 4, none⟩ = some (.int .i64 t.at_)
  len : w.cell? ⟨q, o + 5, none⟩ = some (.int .i64 t.len)
theorem row_tb {w : World} {base e n c q : Nat} {l : List Tb} (h : w.ownsRow base e 6 (.slice (some ⟨q, 0, none⟩) n c) n (tbs l)) (i : Nat) (hi : i < n) (t : Tb) (ht : l[i]? = some t) : TbCells w q (i * 6) t := by
  have hx := tbs_at l i t ht
  refine ⟨?_, ?_, ?_, ?_, ?_, ?_⟩
  · have := hx 0 (by omega); rw [show i * 6 = i * 6 + 0 from rfl, h.cellAt _ (by omega), this]; rfl
  · rw [h.cellAt _ (by omega), hx 1 (by omega)]; rfl
  · rw [h.cellAt _ (by omega), hx 2 (by omega)]; rfl
  · rw [h.cellAt _ (by omega), hx 3 (by omega)]; rfl
  · rw [h.cellAt _ (by omega), hx 4 (by omega)]; rfl
  · rw [h.cellAt _ (by omega), hx 5 (by omega)]; rfl
theorem recs_at (b : List Nat) (k i : Nat) (h : i < k) : (recs b k)[i]? = some (recAt b i) := by simp [recs, h]
theorem headB_lt (n : Nat) : ∀ x ∈ headB n, x < 256 := by
  intro x hx
  simp only [headB, List.mem_append] at hx
  rcases hx with (((hx | hx) | hx) | hx) | hx <;> exact be_lt _ _ _ hx

theorem info_tab : (Tryz.prog.info? 77).map (fun i => (i.zero, i.size, i.bytes)) = some (some (.agg #[.int .u8 0, .int .u8 0, .int .u8 0, .int .u8 0, .int .i64 0, .int .i64 0]), 6, 24) := by kernel_rfl
theorem Tb.one (t : Tb) : ∀ u ∈ t.cells, u.oneCell' = true := by
  intro u hu
  simp only [Tb.cells, Tg.cells, List.mem_append, List.mem_cons, List.not_mem_nil, or_false] at hu
  rcases hu with (rfl | rfl | rfl | rfl) | rfl | rfl <;> rfl
theorem tablesF_some {l : List Nat} {n : Nat} (hn : tabN l = n) (h1 : fontOk l n) (h2 : ∀ i, i < n → recOk l n i) (h3 : ∀ i, i < n → ∀ j, j < i → apart (recAt l i) (recAt l j)) : tablesF l = some (recs l n) := by
  subst hn
  unfold tablesF
  rw [if_pos ⟨h1, h2, h3⟩]
theorem tablesF_rec {l : List Nat} {n k : Nat} (hn : tabN l = n) (hk : k < n) (h : ¬ recOk l n k) : tablesF l = none := by
  unfold tablesF
  rw [if_neg]
  rintro ⟨_, h2, _⟩
  subst hn
  exact h (h2 k hk)
theorem tablesF_apart {l : List Nat} {n k j : Nat} (hn : tabN l = n) (hk : k < n) (hj : j < k) (h : ¬ apart (recAt l k) (recAt l j)) : tablesF l = none := by
  unfold tablesF
  rw [if_neg]
  rintro ⟨_, _, h2⟩
  subst hn
  exact h (h2 k hk j hj)

theorem tablesF_font {l : List Nat} (h : ¬ fontOk l (tabN l)) : tablesF l = none := by
  unfold tablesF
  rw [if_neg]
  rintro ⟨h2, _⟩
  exact h h2
end Go.Proofs.YtfbppbelcbbhlaaGreatDoor.Sf
