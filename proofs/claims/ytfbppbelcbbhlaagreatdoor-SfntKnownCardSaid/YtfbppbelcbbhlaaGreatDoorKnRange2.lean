/- sfnt.groups: the iterator over a subtable of the format 12, or a refusal. -/
import Derived.Test.YtfbppbelcbbhlaaGreatDoorKnSub
import Derived.Test.YtfbppbelcbbhlaaGreatDoorKnRange
import Derived.Test.YtfbppbelcbbhlaaGreatDoorKnBytes
import Derived.Deep.CutRange
import Derived.Deep.DeepCutAuto
import Derived.Deep.CutBlock
import Derived.Test.YtfbppbelcbbhlaaGreatDoorKnJoinW
namespace Go.Proofs.YtfbppbelcbbhlaaGreatDoor.Sf
open Go Go.RowKit

def GroupsPost (w : World) (a : Nat) (t : List Nat) (e : Ending) (w' : World) : Prop :=
  Below w.heap.size w w' ∧ ((grHead t ∧ ∃ nb rb, e = .returned (.func (.func 92) #[] #[.pointer (some ⟨nb, 0, none⟩), .pointer (some ⟨rb, 0, none⟩)]) ∧
      w'.cell? ⟨nb, 0, none⟩ = some (.int .i64 (grN t : Nat)) ∧ w'.cell? ⟨rb, 0, none⟩ = some (.pointer (some ⟨a, 0, none⟩)) ∧ w.heap.size ≤ nb ∧ w.heap.size ≤ rb) ∨
    (¬ grHead t ∧ e = .panicked [{ v := brokenV, recovered := false }]))

set_option maxRecDepth 100000 in
set_option maxHeartbeats 1000000 in
theorem groups_any (a s : Nat) (t : List Nat) (w : World) (h : Rdr w a s t) (hmax : t.length ≤ 140737488355328) :
    Calls Tryz.prog 74 #[.pointer (some ⟨a, 0, none⟩)] w fun e w' => GroupsPost w a t e w' := by
  have hb1 : Below w.heap.size w (w.alloc (.cells #[.pointer (some ⟨a, 0, none⟩)] 66)) := (Below.refl _ _).alloc (Nat.le_refl _) _
  have H1 := Lib.hid (h.kept (kept_of_below hb1))
  have HB1 := Lib.hid hb1
  have HL := Lib.hid H1.out.len
  clear h hb1
  go_enter Tryz.func74, Tryz.ntmps74
  by_cases c1 : 16 ≤ t.length
  case neg =>
    have hno : Hid (¬ grHead t) := Lib.hid (fun hh => c1 hh.1)
    have d1 : decide (16 ≤ (t.length : Int)) = false := decide_eq_false (by omega)
    have d1b : decide (16 ≤ t.length) = false := decide_eq_false (by omega)
    go_wp2_with (first | (go_at_call 69; refine HL.out.mono ?_; rintro e w' ⟨rfl, rfl⟩) | (go_at_call 40; refine (need_no _).mono ?_; rintro e w' ⟨rfl, rfl⟩))
    exact ⟨rfl, HB1.out, .inr ⟨hno.out, rfl⟩⟩
  have d1 : decide (16 ≤ (t.length : Int)) = true := decide_eq_true (by omega)
  have d1b : decide (16 ≤ t.length) = true := decide_eq_true (by omega)
  have HW2 := Lib.hid (H1.out.wordI 2 2 rfl (by omega))
  by_cases c2 : numAt t 2 2 = 0
  case neg =>
    have hno : Hid (¬ grHead t) := Lib.hid (fun hh => c2 hh.2.1)
    generalize numAt t 2 2 = v0 at *
    have d2 : ((v0 : Int) == 0) = false := by simp; omega
    have d2b : (v0 == 0) = false := by simp; omega
    have d2c : decide (v0 = 0) = false := decide_eq_false c2
    go_wp2_with (first | (go_at_call 69; refine HL.out.mono ?_; rintro e w' ⟨rfl, rfl⟩) | (go_at_call 42; refine HW2.out.mono ?_; rintro e w' ⟨rfl, rfl⟩) | (go_at_call 40; refine (need_no _).mono ?_; rintro e w' ⟨rfl, rfl⟩))
    exact ⟨rfl, HB1.out, .inr ⟨hno.out, rfl⟩⟩
  rw [c2] at HW2
  have HC2 := Lib.hid c2
  clear c2
  have HLN := Lib.hid (H1.out.longI 12 12 rfl (by omega))
  have hgn : Hid (grN t = numAt t 12 4) := Lib.hid rfl
  have hn : numAt t 12 4 < 4294967296 := numF_lt _
  generalize numAt t 12 4 = n at *
  have wn : IntKind.i64.wrap (n : Int) = (n : Int) := IntWalk.i64_in _ (by omega)
  go_upto_region 3 with (first | (go_at_call 69; refine HL.out.mono ?_; rintro e w' ⟨rfl, rfl⟩) | (go_at_call 42; refine HW2.out.mono ?_; rintro e w' ⟨rfl, rfl⟩) | (go_at_call 44; refine HLN.out.mono ?_; rintro e w' ⟨rfl, rfl⟩) | (go_at_call 40; refine (need_ok _).mono ?_; rintro e w' ⟨rfl, rfl⟩))
  obtain ⟨W1, hW1⟩ : ∃ W1, (w.alloc (.cells #[.pointer (some ⟨a, 0, none⟩)] 66)).alloc (.cells #[.int .i64 (n : Int)] 3) = W1 := ⟨_, rfl⟩
  have hb2 : Below w.heap.size w W1 := by rw [← hW1]; exact HB1.out.alloc (by simp) _
  have q1 : W1.cell? ⟨w.heap.size, 0, none⟩ = some (.pointer (some ⟨a, 0, none⟩)) := by
    rw [← hW1, World.cell?_alloc_lt _ _ _ (by simp)]
    exact (cell_of_row _ w.heap.size 0 _ _ (0, 0) (heap_alloc_new w _)).trans rfl
  have q2 : W1.cell? ⟨w.heap.size + 1, 0, none⟩ = some (.int .i64 (n : Int)) := by
    rw [← hW1]
    have := cell_of_row _ _ 0 _ _ (0, 0) (heap_alloc_new (w.alloc (.cells #[.pointer (some ⟨a, 0, none⟩)] 66)) (.cells #[.int .i64 (n : Int)] 3))
    rw [World.size_alloc] at this
    exact this.trans rfl
  have hr1 : Rdr W1 a s t := by rw [← hW1]; exact H1.out.kept (kept_of_below ((Below.refl _ _).alloc (by simp) _))
  rw [hW1]
  have HB2 := Lib.hid hb2
  have p1 : ∀ e : Grown W1, e.w.cell? ⟨w.heap.size, 0, none⟩ = some (.pointer (some ⟨a, 0, none⟩)) := fun e => e.cell q1
  have p2 : ∀ e : Grown W1, e.w.cell? ⟨w.heap.size + 1, 0, none⟩ = some (.int .i64 (n : Int)) := fun e => e.cell q2
  have HLL := Lib.hid (fun e : Grown W1 => (e.rdr hr1).len)
  have HL4 := Lib.hid (fun e : Grown W1 => (e.rdr hr1).longI 4 4 rfl (by omega))
  clear hW1 hb2 q1 q2 hr1 HL HLN HW2 HB1 H1
  by_cases c3 : n ≤ 65536
  case neg =>
    have hno : Hid (¬ grHead t) := Lib.hid (fun hh => c3 (by rw [← hgn.out]; exact hh.2.2.1))
    have d3 : decide ((n : Int) ≤ 65536) = false := decide_eq_false (by omega)
    have d3b : decide (n ≤ 65536) = false := decide_eq_false c3
    refine wp_region_grown_tail 19 (by kernel_rfl) (by kernel_rfl) ?_
    simp only [List.take_succ_cons, List.take_zero, List.drop_succ_cons, List.drop_zero]
    repeat (go_big_quiet_step (fail))
    refine wpQuiet_nil ?_
    intro eg
    go_wp2_with (go_at_call 40; refine (need_no _).mono ?_; rintro e w' ⟨rfl, rfl⟩)
    exact ⟨rfl, eg.outer HB2.out, .inr ⟨hno.out, rfl⟩⟩
  have d3 : decide ((n : Int) ≤ 65536) = true := decide_eq_true (by omega)
  have d3b : decide (n ≤ 65536) = true := decide_eq_true c3
  have m4 : numAt t 4 4 < 4294967296 := numF_lt _
  have h44 : Hid (numAt t 4 4 = 16 + 12 * n → numAt t 4 4 = 16 + 12 * grN t) := Lib.hid (fun h => by rw [hgn.out]; exact h)
  have h45 : Hid (numAt t 4 4 = 16 + 12 * grN t → numAt t 4 4 = 16 + 12 * n) := Lib.hid (fun h => by rw [← hgn.out]; exact h)
  obtain ⟨v4, hv4⟩ : ∃ v4, v4 = numAt t 4 4 := ⟨_, rfl⟩
  have HV4 := Lib.hid hv4
  rw [← hv4] at HL4 m4 h44 h45
  clear hv4
  have wv : IntKind.i64.wrap (v4 : Int) = (v4 : Int) := IntWalk.i64_in _ (by omega)
  have w12 : IntKind.i64.wrap (12 * (n : Int)) = 12 * (n : Int) := IntWalk.i64_in _ (by omega)
  have w16 : IntKind.i64.wrap (16 + 12 * (n : Int)) = ((16 + 12 * n : Nat) : Int) := by rw [IntWalk.i64_in _ (by omega)]; omega
  obtain ⟨z, hz⟩ : ∃ z, z = 16 + 12 * n := ⟨_, rfl⟩
  rw [← hz] at w16 h44 h45
  by_cases c4 : v4 = z
  case neg =>
    have hno : Hid (¬ grHead t) := Lib.hid (fun hh => c4 (h45.out (by rw [HV4.out]; exact hh.2.2.2.1)))
    clear hz
    have d4 : ((v4 : Int) == (z : Int)) = false := by simp; omega
    have d4b : (v4 == z) = false := by simp; omega
    have d4c : decide (v4 = z) = false := decide_eq_false c4
    refine wp_region_grown_tail 19 (by kernel_rfl) (by kernel_rfl) ?_
    simp only [List.take_succ_cons, List.take_zero, List.drop_succ_cons, List.drop_zero]
    repeat (go_big_quiet_step ((go_at_call 44; exact calls_grown_same (HL4.out _))))
    refine wpQuiet_nil ?_
    intro eg
    go_wp2_with (go_at_call 40; refine (need_no _).mono ?_; rintro e w' ⟨rfl, rfl⟩)
    exact ⟨rfl, eg.outer HB2.out, .inr ⟨hno.out, rfl⟩⟩
  have h4 : Hid (numAt t 4 4 = 16 + 12 * grN t) := Lib.hid (by rw [← HV4.out]; exact h44.out c4)
  subst c4
  have d4 : ((v4 : Int) == (v4 : Int)) = true := by simp
  by_cases c5 : v4 ≤ t.length
  case neg =>
    have hno : Hid (¬ grHead t) := Lib.hid (fun hh => c5 (by rw [hz, ← hgn.out]; exact hh.2.2.2.2))
    clear hz
    have d5 : decide ((v4 : Int) ≤ (t.length : Int)) = false := decide_eq_false (by omega)
    have d5b : decide (v4 ≤ t.length) = false := decide_eq_false c5
    refine wp_region_grown_tail 19 (by kernel_rfl) (by kernel_rfl) ?_
    simp only [List.take_succ_cons, List.take_zero, List.drop_succ_cons, List.drop_zero]
    repeat (go_big_quiet_step (first | (go_at_call 44; exact calls_grown_same (HL4.out _)) | (go_at_call 69; exact calls_grown_same (HLL.out _))))
    refine wpQuiet_nil ?_
    intro eg
    go_wp2_with (go_at_call 40; refine (need_no _).mono ?_; rintro e w' ⟨rfl, rfl⟩)
    exact ⟨rfl, eg.outer HB2.out, .inr ⟨hno.out, rfl⟩⟩
  have hyes : Hid (grHead t) := Lib.hid ⟨c1, HC2.out, by rw [hgn.out]; exact c3, h4.out, by rw [hgn.out, ← hz]; exact c5⟩
  clear hz
  have d5 : decide ((v4 : Int) ≤ (t.length : Int)) = true := decide_eq_true (by omega)
  have d5b : decide (v4 ≤ t.length) = true := decide_eq_true c5
  refine wp_region_grown_tail 19 (by kernel_rfl) (by kernel_rfl) ?_
  simp only [List.take_succ_cons, List.take_zero, List.drop_succ_cons, List.drop_zero]
  repeat (go_big_quiet_step (first | (go_at_call 44; exact calls_grown_same (HL4.out _)) | (go_at_call 69; exact calls_grown_same (HLL.out _))))
  refine wpQuiet_nil ?_
  intro eg
  go_wp2_with (go_at_call 40; refine (need_ok _).mono ?_; rintro e w' ⟨rfl, rfl⟩)
  go_ret
  exact ⟨eg.outer HB2.out, .inl ⟨hyes.out, _, _, rfl, by rw [hgn.out]; exact p2 eg, p1 eg, by omega, Nat.le_refl _⟩⟩
end Go.Proofs.YtfbppbelcbbhlaaGreatDoor.Sf

/- A range over a function in a function that defers: the statement, where rounds go on, or give up, and the iterator comes to its end, or gives up. -/
namespace Go.Proofs.YtfbppbelcbbhlaaGreatDoor.Sf
open Go Go.RowKit

def gaveUpE : Ending := .panicked [{ v := brokenV, recovered := false }]
/-- What an iterator comes to: all have come, and all is right; or it has given up, and something is not. -/
def IterPost {α : Type} (full : List α) (ok : Prop) (bad : α → Prop) (J : List α → World → Prop) (JX : World → Prop) (e : Ending) (w' : World) : Prop :=
  (e = .returned (.tuple #[]) ∧ J full w' ∧ ok ∧ ∀ x ∈ full, ¬ bad x) ∨ (e = .panicked [{ v := brokenV, recovered := false }] ∧ JX w' ∧ ¬ (ok ∧ ∀ x ∈ full, ¬ bad x))
/-- How a round of the body is left. -/
def roundEnd {α : Type} (B : Nat) (bad : α → Prop) (I : List α → World → Prop) (IX : World → Prop) (pre : List α) (x : α) (W : World) : Exit → Act → World → Prop
  | .normal, _, W' => KeepsFrom B W W' ∧ I (pre ++ [x]) W' ∧ ¬ bad x
  | .panic ch, a, W' => a.defers = [] ∧ ch = [{ v := brokenV, recovered := false }] ∧ KeepsFrom B W W' ∧ IX W' ∧ bad x
  | _, _, _ => False

theorem wpAt_block {P : Program} {f : FuncId} {id : Nat} {c : Code} {Q : Exit → Act → World → Prop} {a : Act} {w : World} (h : WpAt P f c (Exit.inBlock id Q) a w) : WpAt P f (Code.block id c) Q a w := by
  intro b k cs hb hr
  obtain ⟨e, a₁, w₁, hq, harr⟩ := h b (.inBlock id :: k) cs hb hr
  cases e with
  | normal => exact ⟨.normal, a₁, w₁, hq, .head step_block (Steps.trans harr (.one step_inBlock))⟩
  | exit id' =>
    by_cases hid : id' = id
    · simp only [Exit.inBlock, hid, if_true] at hq
      exact ⟨.normal, a₁, w₁, hq, .head step_block (harr k (by simp [exitTo, hid]))⟩
    · simp only [Exit.inBlock, hid, if_false] at hq
      refine ⟨.exit id', a₁, w₁, hq, fun k' hk => .head step_block (harr k' ?_)⟩
      have : (id == id') = false := by simp; exact fun h => hid h.symm
      simp [exitTo, this, hk]
  | goto l => exact ⟨_, a₁, w₁, hq, fun k' hk => .head step_block (harr k' (by simp [gotoIn, hk]))⟩
  | ret => exact ⟨_, a₁, w₁, hq, .of_steps (.one step_block) harr⟩
  | panic ch => exact ⟨_, a₁, w₁, hq, .of_steps (.one step_block) harr⟩
  | outgrown => exact ⟨_, a₁, w₁, hq, .of_steps (b := b) (k := k) (cs := cs) (e := .outgrown) (.one step_block) harr⟩

theorem wpAt_range_p {P : Program} {α : Type} {f₀ : FuncId} {fn₀ : Func} (hf₀ : P.funcs[f₀]? = some fn₀) {g : Operand} {ps : Array Tmp} {assign body : Code} {Q : Exit → Act → World → Prop} {a : Act} {w : World}
    {gf : Nat} {lb : Array Value} (hg : a.eval g = .func (.func gf) #[] lb) (eg : ∀ args w, (callFunc gf args).run P w = .ok (.enter gf args) w)
    {encs : α → Array Value} (hps : ∀ x, (encs x).size = ps.size) {full : List α} {V : List α → α → Prop} {ok : Prop} {bad : α → Prop}
    (I : List α → World → Prop) (IX : World → Prop)
    (hI : ∀ s W l o o', I s W → w.heap.size ≤ l → W.heap[l]? = some o → o.isCells = false → I s (W.putObj l o')) (hIa : ∀ s W o, I s W → I s (W.alloc o))
    (h0 : I [] w) (a₁ : α → Act)
    (hassign : ∀ (l : Nat) (x : α) (W : World) (K : Act → World → Prop), K (a₁ x) W →
      assign.wpIn (Fence.wide.inRound l) 0 P (Exit.then K (fun _ _ _ => False)) { tmps := (ps.zip (encs x)).foldl (fun t (p, v) => t.setIfInBounds p v) a.tmps, defers := [] } W)
    (hbody : ∀ (l : Nat) (pre : List α) (x : α) (W : World), I pre W → x ∈ full → V pre x → body.wpIn (Fence.wide.inRound l) 0 P (roundEnd w.heap.size bad I IX pre x W) (a₁ x) W)
    (hiter : ∀ (lp D : Nat) (rec : Loop) (W1 : World), w.heap.size ≤ lp → w.heap.size ≤ D → I [] W1 → W1.heap[lp]? = some (.loop rec) → W1.heap[D]? = some (.deferred (some [])) →
      (∀ pre x W, (I pre W ∧ W.heap[lp]? = some (.loop rec) ∧ W.heap[D]? = some (.deferred (some []))) → x ∈ full → V pre x → YieldAt Fence.wide 0 P lp (encs x) W fun e W' =>
        (e = .returned (.bool true) ∧ (I (pre ++ [x]) W' ∧ W'.heap[lp]? = some (.loop rec) ∧ W'.heap[D]? = some (.deferred (some []))) ∧ ¬ bad x) ∨
        (e = .panicked [{ v := brokenV, recovered := false }] ∧ (IX W' ∧ W'.heap[D]? = some (.deferred (some []))) ∧ bad x)) →
      Calls P gf (#[.func (.yield lp) #[] #[]] ++ lb) W1 (IterPost full ok bad (fun pre W => I pre W ∧ W.heap[lp]? = some (.loop rec) ∧ W.heap[D]? = some (.deferred (some []))) (fun W => IX W ∧ W.heap[D]? = some (.deferred (some [])))))
    (hdone : ∀ (D : Nat) (W : World), w.heap.size ≤ D → I full W → ok → (∀ x ∈ full, ¬ bad x) → W.heap[D]? = some (.deferred (some [])) → Q .normal { a with defers := { target := .collected D, args := #[] } :: a.defers } W)
    (hstop : ∀ (D : Nat) (W : World), w.heap.size ≤ D → IX W → ¬ (ok ∧ ∀ x ∈ full, ¬ bad x) → W.heap[D]? = some (.deferred (some [])) → Q (.panic [{ v := brokenV, recovered := false }]) { a with defers := { target := .collected D, args := #[] } :: a.defers } W) :
    WpAt P f₀ (Code.rangeFunc g ps assign body) Q a w := by
  obtain ⟨rec, hrec⟩ : ∃ rec : LoopState → Option Code → Loop, rec = fun st pe => { state := st, pending := pe, fn := f₀, tmps := a.tmps, params := ps, assign, body, defers := w.heap.size } := ⟨_, rfl⟩
  obtain ⟨W1, hW1⟩ : ∃ W1, (w.alloc (.deferred (some []))).alloc (.loop (rec .ready none)) = W1 := ⟨_, rfl⟩
  have hL1 : W1.heap[w.heap.size + 1]? = some (.loop (rec .ready none)) := by
    rw [← hW1]; have := World.alloc_heap_new (w.alloc (.deferred (some []))) (.loop (rec .ready none)); rwa [World.size_alloc] at this
  have hK1 : W1.heap[w.heap.size]? = some (.deferred (some [])) := by
    rw [← hW1]; exact (Below.heap_alloc _ _ _ (by simp)).trans (World.alloc_heap_new w _)
  have hI1 : I [] W1 := by rw [← hW1]; exact hIa _ _ _ (hIa _ _ _ h0)
  have hround : ∀ (pre : List α) (x : α) (W : World), (I pre W ∧ W.heap[w.heap.size + 1]? = some (.loop (rec .ready none)) ∧ W.heap[w.heap.size]? = some (.deferred (some []))) → x ∈ full → V pre x → YieldAt Fence.wide 0 P (w.heap.size + 1) (encs x) W fun e W' =>
        (e = .returned (.bool true) ∧ (I (pre ++ [x]) W' ∧ W'.heap[w.heap.size + 1]? = some (.loop (rec .ready none)) ∧ W'.heap[w.heap.size]? = some (.deferred (some []))) ∧ ¬ bad x) ∨
        (e = .panicked [{ v := brokenV, recovered := false }] ∧ (IX W' ∧ W'.heap[w.heap.size]? = some (.deferred (some []))) ∧ bad x) := by
    rintro pre x W ⟨hi, hl, hk⟩ hx hN
    have hlt : w.heap.size + 1 < W.heap.size := (Array.getElem?_eq_some_iff.1 hl).1
    have hy := run_yield (P := P) (args := encs x) hl (by rw [hrec]; exact hps x)
    rw [hrec] at hy
    have hl2 : (W.putObj (w.heap.size + 1) (.loop { rec .ready none with state := .busy })).heap[w.heap.size + 1]? = some (.loop { rec .ready none with state := .busy }) := World.putObj_heap_same hlt
    have hk2 : (W.putObj (w.heap.size + 1) (.loop { rec .ready none with state := .busy })).heap[w.heap.size]? = some (.deferred (some [])) := (World.putObj_heap_other (by omega)).trans hk
    have hin : I pre (W.putObj (w.heap.size + 1) (.loop { rec .ready none with state := .busy })) := hI _ _ _ _ _ hi (by omega) hl rfl
    have hbeg := run_beginRound (P := P) hl (by rw [hrec])
    have hb := hbody (w.heap.size + 1) pre x _ hin hx hN
    generalize W.putObj (w.heap.size + 1) (.loop { rec .ready none with state := .busy }) = Wb at hl2 hk2 hin hbeg hb
    have hpost : ∀ (e : Exit) (a3 : Act) (W3 : World), roundEnd w.heap.size bad I IX pre x Wb e a3 W3 → roundPostP P (w.heap.size + 1) (fun e W' =>
        (e = .returned (.bool true) ∧ (I (pre ++ [x]) W' ∧ W'.heap[w.heap.size + 1]? = some (.loop (rec .ready none)) ∧ W'.heap[w.heap.size]? = some (.deferred (some []))) ∧ ¬ bad x) ∨
        (e = .panicked [{ v := brokenV, recovered := false }] ∧ (IX W' ∧ W'.heap[w.heap.size]? = some (.deferred (some []))) ∧ bad x)) e a3 W3 := by
      rintro e a3 W3 hp
      cases e with
      | normal =>
        obtain ⟨hk3, hi3, hnb⟩ := hp
        have hl3 := hk3.same _ _ (by omega) hl2 rfl
        have hr := run_endRound (P := P) none hl3
        refine ⟨_, _, hr, .inl ⟨rfl, ⟨hI _ _ _ _ _ hi3 (by omega) hl3 rfl, ?_, ?_⟩, hnb⟩⟩
        · rw [World.putObj_heap_same (Array.getElem?_eq_some_iff.1 hl3).1, hrec]; rfl
        · exact (World.putObj_heap_other (by omega)).trans (hk3.same _ _ (Nat.le_refl _) hk2 rfl)
      | panic ch =>
        obtain ⟨hd, rfl, hk3, hx3, hb⟩ := hp
        exact ⟨hd, .inr ⟨rfl, ⟨hx3, hk3.same _ _ (Nat.le_refl _) hk2 rfl⟩, hb⟩⟩
      | ret => exact hp.elim
      | exit id => exact hp.elim
      | goto t => exact hp.elim
      | outgrown => exact hp.elim
    exact ⟨f₀, _, assign, body, hy, roundIn_of_wpIn_p trivial hf₀ (hassign _ x W _ ⟨_, hbeg, wpIn_mono hb hpost⟩)⟩
  have hc := hiter (w.heap.size + 1) w.heap.size (rec .ready none) W1 (by omega) (Nat.le_refl _) hI1 hL1 hK1 hround
  have hend : ∀ (e : Ending) (W2 : World), IterPost full ok bad (fun pre W => I pre W ∧ W.heap[w.heap.size + 1]? = some (.loop (rec .ready none)) ∧ W.heap[w.heap.size]? = some (.deferred (some []))) (fun W => IX W ∧ W.heap[w.heap.size]? = some (.deferred (some []))) e W2 →
      rangePost Fence.wide 0 P (w.heap.size + 1) Q { a with defers := [{ target := .collected w.heap.size, args := #[] }] ++ a.defers } e W2 := by
    rintro e W2 (⟨rfl, ⟨hi, hl, hk⟩, hok, hbad⟩ | ⟨rfl, ⟨hx, hk⟩, hno⟩)
    · have hr := run_endLoop (P := P) hl (by rw [hrec]; simp)
      have hp : (rec .ready none).pending = none := by rw [hrec]
      rw [hp] at hr
      exact ⟨none, _, hr, hdone _ _ (Nat.le_refl _) (hI _ _ _ _ _ hi (by omega) hl rfl) hok hbad ((World.putObj_heap_other (by omega)).trans hk)⟩
    · exact hstop _ _ (Nat.le_refl _) hx hno hk
  have h5 : CallsIn Fence.wide 0 P gf (#[.func (.yield (w.heap.size + 1)) #[] #[]] ++ lb) W1 (rangePost Fence.wide 0 P (w.heap.size + 1) Q { a with defers := [{ target := .collected w.heap.size, args := #[] }] ++ a.defers }) := callsIn_wide.2 (hc.mono hend)
  have h1 : (Instr.enterLoop f₀ a.tmps ps assign body none).run P w = .ok (w.heap.size + 1, [{ target := .collected w.heap.size, args := #[] }]) W1 := by
    rw [← hW1, hrec]; exact run_enterLoop_outer _ _ _ _ _
  have h2 : (resolve a.eval (rangeCall g (w.heap.size + 1)) 0).run P W1 = .ok { target := .fn (.func gf) lb, args := #[.func (.yield (w.heap.size + 1)) #[] #[]] } W1 := by
    simp only [resolve, hg]
    simp [go_sem]
  have h3 : (invoke (.fn (.func gf) lb) #[.func (.yield (w.heap.size + 1)) #[] #[]]).run P W1 = .ok (.enter gf (#[.func (.yield (w.heap.size + 1)) #[] #[]] ++ lb)) W1 := by
    simp [invoke, go_sem, eg]
  clear hc hend hround hiter hdone hstop hbody hassign
  exact wpAt_rangeFunc _ _ _ _ _ _ _ _ h1 h2 h3 h5
end Go.Proofs.YtfbppbelcbbhlaaGreatDoor.Sf
