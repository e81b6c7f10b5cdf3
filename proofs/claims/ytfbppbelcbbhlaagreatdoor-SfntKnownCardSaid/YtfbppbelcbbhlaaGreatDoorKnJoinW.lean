import Derived.Test.YtfbppbelcbbhlaaGreatDoorKnTabsW
import Derived.Test.YtfbppbelcbbhlaaGreatDoorKnRead
import Derived.StillTail
import Derived.Recover

/- A region that draws its order: all but its last operations only read, callees may make memory; the last ones come behind all others. -/
namespace Go.Proofs.YtfbppbelcbbhlaaGreatDoor.Sf
open Go Go.RowKit

section
variable {P : Program} {ops : Array Oper} {md : Region.Mode} {C : World → Prop}

/-- The first n operations, in whatever order, each of them quiet in the class; then L. -/
def quietHead (P : Program) (md : Region.Mode) (ops : Array Oper) (C : World → Prop) (n : Nat) (L : Array Bool → Act → Prop) : Nat → Array Bool → Act → Prop
  | 0, listed, a => L listed a
  | f + 1, listed, a => Region.ready md ops listed ≠ [] ∧ ∀ i ∈ Region.ready md ops listed, i < n ∧ qOp P ops C i (quietHead P md ops C n L f (listed.setIfInBounds i true)) a

theorem any_of_quietHead {n g : Nat} {L : Array Bool → Act → Prop} {Q : Exit → Act → World → Prop} (hL : ∀ listed a w, C w → L listed a → wpAny P md ops Q g listed a w) :
    ∀ (f : Nat) (listed : Array Bool) (a : Act) (w : World), C w → quietHead P md ops C n L f listed a → wpAny P md ops Q (f + g) listed a w := by
  intro f
  induction f with
  | zero => intro listed a w hw h; rw [Nat.zero_add]; exact hL _ _ _ hw h
  | succ f ih =>
    intro listed a w hw h
    rw [Nat.add_right_comm]
    exact ⟨fun e => absurd e h.1, fun i hi => wpOp_of_qOp hw (fun a' w' hw' hh => ih _ a' w' hw' hh) (h.2 i hi).2⟩

theorem quietHead_take {n i : Nat} {oi : Oper} {v : Value} {L : Array Bool → Act → Prop} (ho : ops[i]? = some oi) (hsel : ∀ (j : Nat) (o : Oper) cs b, ops[j]? = some o → o.op ≠ .select cs b)
    (hs : Region.sinkB md ops n = true) (hc : Region.chainB md ops n = true) (hn : n < ops.size) (hin : i < n) (hdone : ∀ listed a, L listed a → ∀ j ∈ Region.ready md ops listed, n ≤ j) (f : Nat) :
    ∀ (listed : Array Bool) (a : Act), HeadInv md ops n listed →
      (∀ j oj, ops[j]? = some oj → j ≠ i → listed.getD j true = false → (∀ e ∈ oj.after, Region.binds md e = true → e.on ≠ i) → oi.apart ops oj = true) →
      i ∈ Region.ready md ops listed → YieldsIn P ops C oi v a → quietHead P md ops C n L f (listed.setIfInBounds i true) (a.put oi.dst v) → quietHead P md ops C n L (f + 1) listed a := by
  induction f with
  | zero =>
    intro listed a inv _ hr hy H
    refine ⟨fun e => (by rw [e] at hr; cases hr), fun j hj => ?_⟩
    have hjn : j < n := Nat.lt_of_not_le fun hle => tail_waits hs hc hn inv _ i rfl hin (mem_ready.1 hr).1 j hle hj
    by_cases e : j = i
    · cases e; exact ⟨hjn, hy.qOp ho H⟩
    · have := hdone _ _ H j (ready_mono hj e); omega
  | succ f ih =>
    intro listed a inv hap hr hy H
    have hun := (mem_ready.1 hr).1
    refine ⟨fun e => (by rw [e] at hr; cases hr), fun j hj => ?_⟩
    have hjn : j < n := Nat.lt_of_not_le fun hle => tail_waits hs hc hn inv _ i rfl hin hun j hle hj
    by_cases e : j = i
    · cases e; exact ⟨hjn, hy.qOp ho H⟩
    · refine ⟨hjn, ?_⟩
      obtain ⟨hju, oj, hoj, hall⟩ := mem_ready.1 hj
      have hoff : ∀ e ∈ oj.after, Region.binds md e = true → e.on ≠ i := fun e he hb hh => by
        have h1 := hall e he hb
        rw [hh, getD_both hun] at h1
        cases h1
      refine qOp_mono (fun a' h3 => ih (listed.setIfInBounds j true) a' (inv.set hj hjn) (fun k ok hk hki hku hkn => hap k ok hk hki ?_ hkn) (ready_mono hr (Ne.symm e)) h3.1 ?_)
        (qOp_put hoj (hap j oj hoj e hju hoff) (fun cs b => hsel i oi cs b ho) (fun cs b => hsel j oj cs b hoj) hy (H.2 j (ready_mono hj e)).2)
      · by_cases hjk : j = k
        · cases hjk; exact hju
        · rwa [getD_set_ne true hjk] at hku
      · rw [Array.setIfInBounds_comm _ _ e]; exact h3.2

theorem quietHead_text {n g : Nat} {Lq : Act → Prop} (hsel : Region.noSelect ops = true) (hs : Region.sinkB md ops n = true) (hc : Region.chainB md ops n = true) (hn : n < ops.size) (l : List Oper) :
    ∀ (k : Nat) (listed : Array Bool) (a : Act), (∀ j, j < l.length → l[j]? = ops[k + j]?) → k + l.length = n → HeadInv md ops n listed → Region.lexHead md ops g l.length k listed = true →
      wpQuiet P ops C Lq l a → quietHead P md ops C n (fun listed' a' => Region.seqB md ops g n listed' = true ∧ Lq a') l.length listed a := by
  induction l with
  | nil =>
    intro k listed a _ hk _ hB h
    obtain rfl : k = n := by simpa using hk
    exact ⟨by simpa [Region.lexHead] using hB, h⟩
  | cons o l ih =>
    intro k listed a hl hk inv hB h
    have h0 : ops[k]? = some o := by simpa using (hl 0 (by simp)).symm
    simp only [List.length_cons, Region.lexHead, Bool.and_eq_true] at hB hk
    have hr : k ∈ Region.ready md ops listed := by simpa using hB.1.1
    obtain ⟨v, hy, hK⟩ := yieldsIn_of_qOp (K := wpQuiet P ops C Lq l) h0 (by unfold qOp; simp only [h0]; exact h)
    refine quietHead_take h0 (Region.noSelect_spec hsel) hs hc hn (by omega) (fun _ _ hL => seqB_ready hL.1) l.length listed a inv (Region.free_spec h0 hB.1.2) hr hy
      (ih (k + 1) _ _ (fun j hj => ?_) (by omega) (inv.set hr (by omega)) hB.2 hK)
    have := hl (j + 1) (by simp; omega)
    simpa [Nat.add_assoc, Nat.add_comm 1 j] using this

/-- One walk of the first n operations in the text's order, in worlds grown out of the one at hand; then the last ones, from any such world. -/
theorem wp_region_grown_tail {id : Nat} {Q : Exit → Act → World → Prop} {a : Act} {w : World} {l : List Oper} (n : Nat) (hm : P.follows .mixedOrders = true) (hB : Region.lexTailB .any l.toArray n = true)
    (h : wpQuiet P l.toArray (fun w' => ∃ e : Grown w, w' = e.w) (fun a' => ∀ e : Grown w, wpList P l.toArray Q (l.drop n) a' e.w) (l.take n) a) : (Code.region id l.toArray true).wp P Q a w := by
  simp only [Region.lexTailB, Bool.and_eq_true, decide_eq_true_eq] at hB
  obtain ⟨⟨⟨⟨hsel, hn⟩, hs⟩, hc⟩, hlex⟩ := hB
  have hn2 : n < l.length := by simpa using hn
  have htl : (l.take n).length = n := by simp; omega
  have hdl : (l.drop n).length = l.toArray.size - n := by simp
  have inv0 : HeadInv .any l.toArray n (Array.replicate l.toArray.size false) :=
    ⟨by simp, fun j oj _ hl => (by rw [getD_replicate_false] at hl; cases hl), fun t _ ht => getD_in (by simpa using ht) (getD_replicate_false _ _)⟩
  have H := quietHead_text (md := .any) (g := l.toArray.size - n) hsel hs hc hn (l.take n) 0 _ a (fun j hj => by rw [htl] at hj; simp [hj]) (by simpa using htl) inv0 (by rw [htl]; exact hlex) h
  refine wp_region_any hm ?_
  have := any_of_quietHead (Q := Q) (g := l.toArray.size - n) (fun listed a' w' hw' hL => by
    obtain ⟨e, rfl⟩ := hw'
    have := wpAny_of_seq (md := .any) (l.drop n) n listed a' e.w (fun j => by simp) (by rw [hdl]; exact hL.1) (hL.2 e)
    rwa [hdl] at this) _ _ _ _ ⟨⟨w.drew, (Below.refl _ _).drew⟩, rfl⟩ H
  rw [htl] at this
  have e : n + (l.toArray.size - n) = l.toArray.size := by simp; omega
  rw [e] at this
  exact this
end
theorem Rdr.kept {w w' : World} {a s : Nat} {l : List Nat} (h : Rdr w a s l) (hk : Kept w w') : Rdr w' a s l :=
  ⟨hk.cell h.st, hk.cell h.bad, by
    obtain ⟨A, cap, h1, h2, h3, h4⟩ := h.by_
    exact ⟨A, cap, hk.cell h1, h2, h3, fun hn => by
      obtain ⟨b, bo, rfl, hc⟩ := h4 hn
      exact ⟨b, bo, rfl, hc.kept hk⟩⟩, h.lt⟩
theorem Grown.rdr {w0 : World} (e : Grown w0) {a s : Nat} {l : List Nat} (h : Rdr w0 a s l) : Rdr e.w a s l := h.kept (kept_of_below e.below)
end Go.Proofs.YtfbppbelcbbhlaaGreatDoor.Sf

/- Giving up: sfnt.need. -/
namespace Go.Proofs.YtfbppbelcbbhlaaGreatDoor.Sf
open Go Go.RowKit

def brokenV : Value := .iface 98 (.agg #[])
theorem need_ok (w : World) : Calls Tryz.prog 40 #[.bool true] w fun e w' => e = .returned (.tuple #[]) ∧ w = w' := by
  go_enter Tryz.func40, Tryz.ntmps40
  go_wp2
  go_end0
  exact ⟨rfl, rfl⟩
theorem need_no (w : World) : Calls Tryz.prog 40 #[.bool false] w fun e w' => e = .panicked [{ v := brokenV, recovered := false }] ∧ w = w' := by
  go_enter Tryz.func40, Tryz.ntmps40
  go_wp2
  exact ⟨rfl, rfl, rfl⟩
end Go.Proofs.YtfbppbelcbbhlaaGreatDoor.Sf

/- Giving up, and what catches it: sfnt.need, sfnt.guard, the closure of sfnt.Tables. -/
namespace Go.Proofs.YtfbppbelcbbhlaaGreatDoor.Sf
open Go Go.RowKit

/-- The closure behind a panic that was caught: the row goes. -/
theorem close_bad (lb eb : Nat) (w : World) (x : Int) (hx : x ≠ 0) (v : Value) (he : w.cell? ⟨eb, 0, none⟩ = some (.int .i64 x)) (hl : w.cell? ⟨lb, 0, none⟩ = some v) (hf : w.frozen? ⟨lb, 0, none⟩ = false) (u : FrameMode) :
    CallsD Tryz.prog 38 #[.pointer (some ⟨eb, 0, none⟩), .pointer (some ⟨lb, 0, none⟩)] u w fun e u' w' => u' = u ∧ (e = .returned (.tuple #[]) ∧ w' = w.setCell ⟨lb, 0, none⟩ (.slice none 0 0)) := by
  have d1 : (x != 0) = true := by simp [hx]
  go_enter_d Tryz.func38, Tryz.ntmps38
  go_wp2
  go_end0
  exact ⟨rfl, rfl⟩
theorem close_ok (lb eb : Nat) (w : World) (he : w.cell? ⟨eb, 0, none⟩ = some (.int .i64 0)) (u : FrameMode) :
    CallsD Tryz.prog 38 #[.pointer (some ⟨eb, 0, none⟩), .pointer (some ⟨lb, 0, none⟩)] u w fun e u' w' => u' = u ∧ (e = .returned (.tuple #[]) ∧ w' = w) := by
  go_enter_d Tryz.func38, Tryz.ntmps38
  go_wp2
  go_end0
  exact ⟨rfl, rfl⟩
theorem guard_idle (eb : Nat) (w : World) :
    CallsD Tryz.prog 39 #[.pointer (some ⟨eb, 0, none⟩)] .returning w fun e u' w' => e = .returned (.tuple #[]) ∧ u' = .returning ∧ w' = w := by
  refine callsD_of_wpS Tryz.func39 rfl fun c₀ cs hu => ?_
  apply wpS_seq
  apply wpS_region
  simp [wpOpsS, go_sem, recoverD, hu, Tryz.ntmps39, Exit.thenS]
  refine wpS_of_wp ?_
  change Code.wp _ _ _ { tmps := #[.pointer (some ⟨eb, 0, none⟩), undef, .nilIface, undef, undef, .nilIface, undef, undef, undef, undef, undef, undef, undef, undef, undef, undef, undef, undef], defers := [] } w
  go_wp2
  cases c₀
  simp_all [bodyPostS, results, Tryz.results39]
set_option maxRecDepth 100000 in
set_option maxHeartbeats 1000000 in
theorem guard_catch (eb : Nat) (w : World) (v : Value) (he : w.cell? ⟨eb, 0, none⟩ = some v) (hf : w.frozen? ⟨eb, 0, none⟩ = false) :
    CallsD Tryz.prog 39 #[.pointer (some ⟨eb, 0, none⟩)] (.panicking [{ v := brokenV, recovered := false }]) w fun e u' w' => e = .returned (.tuple #[]) ∧ u' = .panicking [{ v := brokenV, recovered := true }] ∧
      w' = (w.alloc (.cells #[] 98)).setCell ⟨eb, 0, none⟩ (.int .i64 50) := by
  refine callsD_of_wpS Tryz.func39 rfl fun c₀ cs hu => ?_
  apply wpS_seq
  apply wpS_region
  simp [wpOpsS, go_sem, recoverD, hu, Tryz.ntmps39, Exit.thenS]
  refine wpS_of_wp ?_
  change Code.wp _ _ _ { tmps := #[.pointer (some ⟨eb, 0, none⟩), undef, brokenV, undef, undef, brokenV, undef, undef, undef, undef, undef, undef, undef, undef, undef, undef, undef, undef], defers := [] } w
  unfold brokenV
  have hta : ∀ w : World, (Instr.typeAssert (.iface 98 (.agg #[])) 20 98 true).run Tryz.prog w = .ok (.tuple #[.agg #[], .bool true]) w := fun _ => by kernel_rfl
  have he2 : (w.alloc (.cells #[] 98)).cell? ⟨eb, 0, none⟩ = some v := by rw [World.cell?_alloc_lt _ _ _ (World.block_lt_of_cell? w _ he)]; exact he
  have hf2 : (w.alloc (.cells #[] 98)).frozen? ⟨eb, 0, none⟩ = false := by rw [frozen?_alloc_cells]; exact hf
  go_wp2
  cases c₀
  simp_all [bodyPostS, results, Tryz.results39]
end Go.Proofs.YtfbppbelcbbhlaaGreatDoor.Sf

/- Words of joining: rows of names and of bodies; what is joined. -/
namespace Go.Proofs.YtfbppbelcbbhlaaGreatDoor.Sf
open Go Go.RowKit

theorem testBit_high (i : Nat) : (18446744073709551612 : Nat).testBit i = (decide (2 ≤ i) && decide (i - 2 < 62)) := by
  rw [show (18446744073709551612 : Nat) = (2 ^ 62 - 1) * 2 ^ 2 from by decide, Nat.testBit_mul_two_pow, Nat.testBit_two_pow_sub_one]
theorem and_high (a : Nat) (h : a < 18446744073709551616) : a &&& 18446744073709551612 = a / 4 * 4 := by
  apply Nat.eq_of_testBit_eq
  intro i
  rw [Nat.testBit_and, testBit_high, show a / 4 * 4 = a / 2 ^ 2 * 2 ^ 2 from by omega, Nat.testBit_mul_two_pow, Nat.testBit_div_two_pow]
  by_cases h2 : 2 ≤ i
  · rw [show i - 2 + 2 = i from by omega]
    by_cases h64 : i - 2 < 62
    · simp [h2, h64]
    · have : a.testBit i = false := Nat.testBit_lt_two_pow (Nat.lt_of_lt_of_le h (by rw [show (18446744073709551616 : Nat) = 2 ^ 64 from by decide]; exact Nat.pow_le_pow_right (by decide) (by omega)))
      simp [this]
  · simp [h2]
def up (n : Nat) : Nat := (n + 3) / 4 * 4
theorem andNot3 (n : Nat) (h : n ≤ 4611686018427387904) : bits .andNot .i64 ((n : Int) + 3) 3 = ((up n : Nat) : Int) := by
  show IntKind.i64.wrap ((BitVec.ofInt 64 ((n : Int) + 3) &&& ~~~BitVec.ofInt 64 3).toNat : Int) = _
  have e1 : (BitVec.ofInt 64 ((n : Int) + 3)).toNat = n + 3 := by
    rw [show ((n : Int) + 3) = ((n + 3 : Nat) : Int) from by omega]
    simp [BitVec.toNat_ofInt]
    omega
  have e2 : (~~~BitVec.ofInt 64 3).toNat = 18446744073709551612 := by decide
  rw [BitVec.toNat_and, e1, e2, and_high _ (by omega)]
  exact IntWalk.i64_in _ (by omega)

theorem cmp_find (p : Nat → Bool) : (List.range 4).find? p = if p 0 then some 0 else if p 1 then some 1 else if p 2 then some 2 else if p 3 then some 3 else none := by
  simp only [List.range, List.range.loop, List.find?]
  cases p 0 <;> cases p 1 <;> cases p 2 <;> cases p 3 <;> rfl
structure Tg.ok (t : Tg) : Prop where
  a : t.a < 256
  b : t.b < 256
  c : t.c < 256
  d : t.d < 256
theorem tgb0 (v : Tg) : (strB v.bytes)[0]! = UInt8.ofNat v.a := rfl
theorem tgb1 (v : Tg) : (strB v.bytes)[1]! = UInt8.ofNat v.b := rfl
theorem tgb2 (v : Tg) : (strB v.bytes)[2]! = UInt8.ofNat v.c := rfl
theorem tgb3 (v : Tg) : (strB v.bytes)[3]! = UInt8.ofNat v.d := rfl
theorem u8_ne (a b : Nat) (ha : a < 256) (hb : b < 256) : (UInt8.ofNat a != UInt8.ofNat b) = decide (a ≠ b) := by
  by_cases h : a = b
  · subst h; simp
  · have : UInt8.ofNat a ≠ UInt8.ofNat b := fun e => h (ofNat_inj ha hb e)
    simp [h, this]
theorem u8_lt (a b : Nat) (ha : a < 256) (hb : b < 256) : (UInt8.ofNat a < UInt8.ofNat b) ↔ a < b := by
  rw [UInt8.lt_iff_toNat_lt, UInt8.toNat_ofNat', UInt8.toNat_ofNat']
  omega
theorem cmp_tag (t u : Tg) (ht : t.ok) (hu : u.ok) : decide (0 ≤ cmpF t.bytes u.bytes) = !tagLt t u := by
  have es : ∀ v : Tg, (strB v.bytes).size = 4 := fun v => rfl
  unfold cmpF Extern.BytealgCompare.cmp
  rw [es, es, show min 4 4 = 4 from rfl, cmp_find]
  simp only [tgb0, tgb1, tgb2, tgb3, u8_ne _ _ ht.a hu.a, u8_ne _ _ ht.b hu.b, u8_ne _ _ ht.c hu.c, u8_ne _ _ ht.d hu.d]
  unfold tagLt
  by_cases ha : t.a = u.a
  · by_cases hb : t.b = u.b
    · by_cases hc : t.c = u.c
      · by_cases hd : t.d = u.d
        · simp [ha, hb, hc, hd]
        · simp only [ha, hb, hc, hd, ne_eq, not_true_eq_false, not_false_eq_true, decide_false, decide_true, if_true, if_false, Bool.false_eq_true, tgb3, u8_lt _ _ ht.d hu.d]
          by_cases h : t.d < u.d <;> simp [h]
      · simp only [ha, hb, hc, ne_eq, not_true_eq_false, not_false_eq_true, decide_false, decide_true, if_true, if_false, Bool.false_eq_true, tgb2, u8_lt _ _ ht.c hu.c]
        by_cases h : t.c < u.c <;> simp [h]
    · simp only [ha, hb, ne_eq, not_true_eq_false, not_false_eq_true, decide_false, decide_true, if_true, if_false, Bool.false_eq_true, tgb1, u8_lt _ _ ht.b hu.b]
      by_cases h : t.b < u.b <;> simp [h]
  · simp only [ha, ne_eq, not_false_eq_true, decide_true, if_true, tgb0, u8_lt _ _ ht.a hu.a]
    by_cases h : t.a < u.a <;> simp [h]

/-- A row of names. -/
structure TagsR (w : World) (A : Option Addr) (cap : Nat) (l : List Tg) : Prop where
  le : l.length ≤ cap
  max : cap ≤ 9223372036854775807
  nil : A = none → cap = 0
  cells : l.length ≠ 0 → ∃ b bo, A = some ⟨b, bo, none⟩ ∧ ∀ i t, l[i]? = some t → w.cell? ⟨b, bo + i * 4, none⟩ = some (.int .u8 t.a) ∧ w.cell? ⟨b, bo + i * 4 + 1, none⟩ = some (.int .u8 t.b) ∧
    w.cell? ⟨b, bo + i * 4 + 2, none⟩ = some (.int .u8 t.c) ∧ w.cell? ⟨b, bo + i * 4 + 3, none⟩ = some (.int .u8 t.d)
  ok : ∀ t ∈ l, t.ok
theorem TagsR.kept {w w' : World} {A : Option Addr} {cap : Nat} {l : List Tg} (h : TagsR w A cap l) (hk : Kept w w') : TagsR w' A cap l :=
  ⟨h.le, h.max, h.nil, fun hn => by
    obtain ⟨b, bo, rfl, hc⟩ := h.cells hn
    exact ⟨b, bo, rfl, fun i t ht => by
      obtain ⟨h1, h2, h3, h4⟩ := hc i t ht
      exact ⟨hk.cell h1, hk.cell h2, hk.cell h3, hk.cell h4⟩⟩, h.ok⟩
/-- A row of rows of bytes. -/
structure BodsR (w : World) (A : Option Addr) (cap : Nat) (l : List (List Nat)) : Prop where
  le : l.length ≤ cap
  max : cap ≤ 9223372036854775807
  nil : A = none → cap = 0
  cells : l.length ≠ 0 → ∃ b bo, A = some ⟨b, bo, none⟩ ∧ ∀ i x, l[i]? = some x → ∃ A' c', w.cell? ⟨b, bo + i, none⟩ = some (.slice A' x.length c') ∧ Byt w A' c' x
theorem BodsR.kept {w w' : World} {A : Option Addr} {cap : Nat} {l : List (List Nat)} (h : BodsR w A cap l) (hk : Kept w w') : BodsR w' A cap l :=
  ⟨h.le, h.max, h.nil, fun hn => by
    obtain ⟨b, bo, rfl, hc⟩ := h.cells hn
    exact ⟨b, bo, rfl, fun i t ht => by
      obtain ⟨A', c', h1, h2⟩ := hc i t ht
      exact ⟨A', c', hk.cell h1, h2.kept hk⟩⟩⟩
/-- Four bytes that lie in a row of names. -/
theorem byt_tag {w : World} {b o : Nat} {t : Tg} (h : w.cell? ⟨b, o, none⟩ = some (.int .u8 t.a) ∧ w.cell? ⟨b, o + 1, none⟩ = some (.int .u8 t.b) ∧
    w.cell? ⟨b, o + 2, none⟩ = some (.int .u8 t.c) ∧ w.cell? ⟨b, o + 3, none⟩ = some (.int .u8 t.d)) (ok : t.ok) : Byt w (some ⟨b, o, none⟩) 4 t.bytes := by
  refine ⟨Nat.le_refl _, by decide, (fun h => by cases h), fun _ => ⟨b, o, rfl, fun i hi => ?_⟩, ?_⟩
  · have hi4 : i < 4 := hi
    obtain ⟨h1, h2, h3, h4⟩ := h
    match i, hi4 with
    | 0, _ => exact h1
    | 1, _ => exact h2
    | 2, _ => exact h3
    | 3, _ => exact h4
  · intro x hx
    simp only [Tg.bytes, List.mem_cons, List.not_mem_nil, or_false] at hx
    rcases hx with rfl | rfl | rfl | rfl
    · exact ok.a
    · exact ok.b
    · exact ok.c
    · exact ok.d

/-! What is joined. -/
def upTo (ls : List (List Nat)) : Nat → Nat
  | 0 => 0
  | k + 1 => upTo ls k + up (ls.getD k []).length
def padded (l : List Nat) : List Nat := l ++ List.replicate (up l.length - l.length) 0
def noTag : Tg := ⟨0, 0, 0, 0⟩
def recB (t : Tg) (l : List Nat) (at_ : Nat) : List Nat := t.bytes ++ (be (tabSum t l : Nat) 4 ++ (be at_ 4 ++ be l.length 4))
def recsB (tags : List Tg) (ls : List (List Nat)) (base : Nat) : Nat → List Nat
  | 0 => []
  | k + 1 => recsB tags ls base k ++ recB (tags.getD k noTag) (ls.getD k []) (base + upTo ls k)
def dataB (ls : List (List Nat)) : Nat → List Nat
  | 0 => []
  | k + 1 => dataB ls k ++ padded (ls.getD k [])
def placeOf (tags : List Tg) (ls : List (List Nat)) (base : Nat) : Nat → Option Nat
  | 0 => none
  | k + 1 => if tags.getD k noTag = hdT ∧ 12 ≤ (ls.getD k []).length then some (base + upTo ls k + 8) else placeOf tags ls base k
def whole0 (b : List Nat) (p : Nat) : List Nat := b.take p ++ [0, 0, 0, 0] ++ b.drop (p + 4)
def wholeS (b : List Nat) (p : Nat) : Nat := ((2981146554 + 4294967296 - sumF (whole0 b p)) % 4294967296)
def whole4 (b : List Nat) (p : Nat) : List Nat := b.take p ++ be (wholeS b p) 4 ++ b.drop (p + 4)
def rawB (tags : List Tg) (ls : List (List Nat)) : List Nat := headB tags.length ++ recsB tags ls (12 + 16 * tags.length) tags.length ++ dataB ls tags.length
def fileOf (raw : List Nat) : Option Nat → List Nat
  | none => raw
  | some p => whole4 raw p
def fileB (tags : List Tg) (ls : List (List Nat)) : List Nat := fileOf (rawB tags ls) (placeOf tags ls (12 + 16 * tags.length) tags.length)
def sortedT (tags : List Tg) : Prop := ∀ i, i < tags.length → i = 0 ∨ tagLt (tags.getD (i - 1) noTag) (tags.getD i noTag) = true
instance (tags : List Tg) : Decidable (sortedT tags) := by unfold sortedT; infer_instance
def joinOk (tags : List Tg) (ls : List (List Nat)) : Prop := tags.length = ls.length ∧ 1 ≤ tags.length ∧ tags.length ≤ 64 ∧ sortedT tags
instance (tags : List Tg) (ls : List (List Nat)) : Decidable (joinOk tags ls) := by unfold joinOk; infer_instance
def joinF (tags : List Tg) (ls : List (List Nat)) : Option (List Nat) := if joinOk tags ls then some (fileB tags ls) else none
def JoinPost (T : TypeId) (w : World) (r : Option (List Nat)) (e : Ending) (w' : World) : Prop :=
  match r with
  | none => e = .returned (.tuple #[.slice none 0 0, .int .i64 2]) ∧ Below w.heap.size w w'
  | some l => ∃ A c, e = .returned (.tuple #[.slice A l.length c, .int .i64 0]) ∧ w'.ownsRow w.heap.size T 1 (.slice A l.length c) l.length (u8s l) ∧ Below w.heap.size w w'
theorem up_ge (n : Nat) : n ≤ up n ∧ up n % 4 = 0 ∧ up n ≤ n + 3 := by unfold up; omega
theorem upTo_mod (ls : List (List Nat)) (k : Nat) : upTo ls k % 4 = 0 := by
  induction k with
  | zero => rfl
  | succ k ih => have := up_ge (ls.getD k []).length; simp only [upTo]; omega
theorem upTo_mono (ls : List (List Nat)) (k j : Nat) (h : k ≤ j) : upTo ls k ≤ upTo ls j := by
  induction j with
  | zero => have : k = 0 := by omega
            subst this; exact Nat.le_refl _
  | succ j ih =>
    rcases Nat.lt_or_ge j k with h2 | h2
    · have : k = j + 1 := by omega
      subst this; exact Nat.le_refl _
    · simp only [upTo]; have := ih h2; omega
theorem padded_length (l : List Nat) : (padded l).length = up l.length := by have := up_ge l.length; simp [padded]; omega
theorem dataB_length (ls : List (List Nat)) (k : Nat) : (dataB ls k).length = upTo ls k := by
  induction k with
  | zero => rfl
  | succ k ih => simp only [dataB, upTo, List.length_append, ih, padded_length]
theorem recB_length (t : Tg) (l : List Nat) (a : Nat) : (recB t l a).length = 16 := by simp [recB, Tg.bytes, be_length]
theorem recsB_length (tags : List Tg) (ls : List (List Nat)) (base k : Nat) : (recsB tags ls base k).length = 16 * k := by
  induction k with
  | zero => rfl
  | succ k ih => simp only [recsB, List.length_append, ih, recB_length]; omega
theorem headB_length (n : Nat) : (headB n).length = 12 := by simp [headB, be_length]
theorem placeOf_some {tags : List Tg} {ls : List (List Nat)} {base k p : Nat} (h : placeOf tags ls base k = some p) : ∃ i, i < k ∧ tags.getD i noTag = hdT ∧ 12 ≤ (ls.getD i []).length ∧ p = base + upTo ls i + 8 := by
  induction k with
  | zero => cases h
  | succ k ih =>
    simp only [placeOf] at h
    split at h
    · rename_i hc
      cases h
      exact ⟨k, by omega, hc.1, hc.2, rfl⟩
    · obtain ⟨i, h1, h2⟩ := ih h
      exact ⟨i, by omega, h2⟩
theorem placeOf_le {tags : List Tg} {ls : List (List Nat)} {base k p : Nat} (h : placeOf tags ls base k = some p) : p + 4 ≤ base + upTo ls k := by
  obtain ⟨i, h1, _, h3, rfl⟩ := placeOf_some h
  have := upTo_mono ls (i + 1) k (by omega)
  have h4 := up_ge (ls.getD i []).length
  simp only [upTo] at this
  omega
end Go.Proofs.YtfbppbelcbbhlaaGreatDoor.Sf
