import Derived.Test.YtfbppbelcbbhlaaGreatDoorKnRefPut
import Derived.Laws.StructEq
import Derived.Lib.SliceRun
import Derived.Laws.IdiomCopy

/- A table's sum, with the four bytes of the whole's taken as 0: sfnt.sum, calamusref05.sum; names of tables. -/
namespace Go.Proofs.YtfbppbelcbbhlaaGreatDoor.Sf
open Go Go.RowKit

/-- A table's name. -/
structure Tg where
  a : Nat
  b : Nat
  c : Nat
  d : Nat
  deriving DecidableEq
def Tg.val (t : Tg) : Value := .agg #[.int .u8 t.a, .int .u8 t.b, .int .u8 t.c, .int .u8 t.d]
def Tg.cells (t : Tg) : List Value := [.int .u8 t.a, .int .u8 t.b, .int .u8 t.c, .int .u8 t.d]
def Tg.bytes (t : Tg) : List Nat := [t.a, t.b, t.c, t.d]
def hdT : Tg := ⟨104, 101, 97, 100⟩
/-- What the program's variable headTag holds. -/
structure HdVar (w : World) : Prop where
  c0 : w.cell? ⟨0, 0, none⟩ = some (.int .u8 104)
  c1 : w.cell? ⟨0, 1, none⟩ = some (.int .u8 101)
  c2 : w.cell? ⟨0, 2, none⟩ = some (.int .u8 97)
  c3 : w.cell? ⟨0, 3, none⟩ = some (.int .u8 100)
theorem HdVar.kept {w w' : World} (h : HdVar w) (k : Kept w w') : HdVar w' := ⟨k.cell h.c0, k.cell h.c1, k.cell h.c2, k.cell h.c3⟩

theorem run_equalIn_tag {P : Program} (w : World) (d : Nat) (t e : TypeId) (ht : P.underlying t = some (.array 4 e)) (he : P.underlying e = some (.int .u8)) (hs : ∀ w, (sizeOf e).run P w = .ok 1 w) (ha : ∀ w, (isAgg e).run P w = .ok false w)
    (a0 a1 a2 a3 b0 b1 b2 b3 : Int) :
    (Op.equalIn (d + 1 + 1) t (.agg #[.int .u8 a0, .int .u8 a1, .int .u8 a2, .int .u8 a3]) (.agg #[.int .u8 b0, .int .u8 b1, .int .u8 b2, .int .u8 b3])).run P w = .ok (decide (a0 = b0 ∧ a1 = b1 ∧ a2 = b2 ∧ a3 = b3)) w := by
  have hp : ∀ (xs : Array Value) (i : Nat) (v : Value) (w : World), xs[i]? = some v → (part e xs i).run P w = .ok v w := by
    intro xs i v w hi
    simp [part, ha, hi]
  have hq : ∀ (x y : Int) (w : World), (Op.equalIn (d + 1) e (.int .u8 x) (.int .u8 y)).run P w = .ok (x == y) w := fun x y w => run_equalIn_int w d e .u8 .u8 x y he
  rw [Op.equalIn]
  simp only [Sem.run_bind, run_underlying ht, Result.andThen_ok, hs]
  simp [Std.Legacy.Range.forIn_eq_forIn_range', Std.Legacy.Range.size, List.range', hp, hq]
  by_cases h0 : a0 = b0 <;> by_cases h1 : a1 = b1 <;> by_cases h2 : a2 = b2 <;> by_cases h3 : a3 = b3 <;> simp [h0, h1, h2, h3]
theorem run_equal_tag (t u : Tg) (w : World) : (Op.equalIn 10000 23 t.val u.val).run Tryz.prog w = .ok (decide (t = u)) w := by
  have h := run_equalIn_tag (P := Tryz.prog) w 9998 23 5 Tryz.underlying23 Tryz.underlying5 Tryz.sizeOf5 Tryz.isAgg5 t.a t.b t.c t.d u.a u.b u.c u.d
  unfold Tg.val
  rw [h]
  have e : ((t.a : Int) = u.a ∧ (t.b : Int) = u.b ∧ (t.c : Int) = u.c ∧ (t.d : Int) = u.d) ↔ t = u := by
    obtain ⟨ta, tb, tc, td⟩ := t
    obtain ⟨ua, ub, uc, ud⟩ := u
    simp only [Tg.mk.injEq]
    omega
  rw [decide_eq_decide.2 e]
theorem run_equal_hd (t : Tg) (w : World) : (Op.equalIn 10000 23 (.agg #[.int .u8 t.a, .int .u8 t.b, .int .u8 t.c, .int .u8 t.d]) (.agg #[.int .u8 104, .int .u8 101, .int .u8 97, .int .u8 100])).run Tryz.prog w = .ok (decide (t = hdT)) w :=
  run_equal_tag t hdT w
theorem tagGuard : Tryz.prog.eqGuardType Tryz.prog.depth 23 = false := by kernel_rfl

theorem isHead_ok (t : Tg) (w : World) :
    Calls Tryz.prog 16 #[t.val] w fun e w' => e = .returned (.bool (decide (t = hdT))) ∧ Below w.heap.size w w' := by
  have hq := run_equal_hd t
  have hg := tagGuard
  unfold Tg.val
  generalize decide (t = hdT) = r at *
  go_enter Tryz.func16, Tryz.ntmps16
  go_wp2
  go_ret
  exact ⟨rfl, (Below.refl _ _).alloc (Nat.le_refl _) _⟩

theorem own_pos {w : World} {base e size n c : Nat} {A : Option Addr} {xs : List Value} (h : w.ownsRow base e size (.slice A n c) n xs) (hn : 0 < n) :
    ∃ g, A = some ⟨g, 0, none⟩ ∧ n ≤ c ∧ c ≤ 9223372036854775807 ∧ base ≤ g ∧ g < w.heap.size := by
  have hlt := h.lt
  rcases h.2 with ⟨h1, h0⟩ | ⟨g, cap, cur, h1, hg, hh, hle, hcap, _⟩
  · omega
  · cases h1
    exact ⟨g, rfl, hle, by unfold maxLen at hcap; omega, hg, (hlt g rfl).2⟩
theorem own_setCells {base e g n c : Nat} : ∀ (vs : List Value) (o : Nat) (w : World) (xs : List Value), w.ownsRow base e 1 (.slice (some ⟨g, 0, none⟩) n c) n xs → o + vs.length ≤ n →
    (w.setCells g o vs).ownsRow base e 1 (.slice (some ⟨g, 0, none⟩) n c) n (xs.take o ++ vs ++ xs.drop (o + vs.length))
  | [], o, w, xs, h, hl => by simpa [World.setCells] using h
  | v :: r, o, w, xs, h, hl => by
    have hlen : xs.length = n := by have := h.1; omega
    simp only [List.length_cons] at hl
    have h2 := own_setCells r (o + 1) (w.setCell ⟨g, o, none⟩ v) (xs.set o v) (h.stored o v).1 (by omega)
    rw [World.setCells]
    have e1 : (xs.set o v).take (o + 1) ++ r ++ (xs.set o v).drop (o + 1 + r.length) = xs.take o ++ (v :: r) ++ xs.drop (o + (v :: r).length) := by
      rw [List.take_succ_eq_append_getElem (by simp; omega)]
      simp only [List.getElem_set_self, List.append_assoc, List.cons_append, List.nil_append, List.length_cons]
      rw [List.take_set, List.set_eq_of_length_le (by simp; omega), List.drop_set_of_lt (by omega), Nat.add_right_comm, Nat.add_assoc]
    rw [← e1]
    exact h2
theorem below_setCells {B g : Nat} {w0 : World} : ∀ (vs : List Value) (o : Nat) (w : World), Below B w0 w → B ≤ g → Below B w0 (w.setCells g o vs)
  | [], _, _, h, _ => h
  | v :: r, o, _, h, hg => below_setCells r (o + 1) _ (h.setCell hg v) hg

def zeroed (l : List Nat) : List Nat := l.take 8 ++ List.replicate (min 12 l.length - 8) 0 ++ l.drop (min 12 l.length)
def tabSum (t : Tg) (l : List Nat) : Nat := if t = hdT ∧ 8 < l.length then sumF (zeroed l) else sumF l

theorem zeroed_cells (l : List Nat) (m : Nat) (hm : m = min 12 l.length) (h8 : 8 ≤ m) :
    (u8s l).take 8 ++ List.replicate (m - 8) (.int .u8 0) ++ (u8s l).drop (8 + (List.replicate (m - 8) (Value.int .u8 0)).length) = u8s (zeroed l) := by
  have e : zeroed l = l.take 8 ++ List.replicate (m - 8) 0 ++ l.drop m := by rw [hm]; rfl
  rw [e, List.length_replicate, show 8 + (m - 8) = m from by omega, u8s_append, u8s_append]
  simp [u8s, List.map_take, List.map_drop]

set_option maxRecDepth 100000 in
set_option maxHeartbeats 1000000 in
theorem sum_any (t : Tg) (A : Option Addr) (cap : Nat) (l : List Nat) (w : World) (h : Byt w A cap l) (hd : HdVar w) (hr : l.length ≤ 140737488355328) :
    Calls Tryz.prog 36 #[t.val, .slice A l.length cap] w fun e w' => e = .returned (.int .u32 (tabSum t l : Nat)) ∧ Below w.heap.size w w' := by
  have hq := run_equal_hd t
  have hg := tagGuard
  have hle := h.le
  have hmax := h.max
  unfold Tg.val
  have hk := kept_of_below ((Below.refl w.heap.size w).alloc (Nat.le_refl _) (.cells #[.int .u8 t.a, .int .u8 t.b, .int .u8 t.c, .int .u8 t.d] 23))
  have g0 := hk.cell hd.c0
  have g1 := hk.cell hd.c1
  have g2 := hk.cell hd.c2
  have g3 := hk.cell hd.c3
  have H := Lib.hid (h.kept hk)
  clear h hk hd
  by_cases ht : t = hdT
  · have he : decide (t = hdT) = true := by simp [ht]
    rw [he] at hq
    by_cases h8 : 8 < l.length
    · have e : tabSum t l = sumF (zeroed l) := by unfold tabSum; rw [if_pos ⟨ht, h8⟩]
      rw [e]
      have HC := Lib.hid (clone_u8 A cap l _ H.out hr)
      clear e he ht
      go_enter Tryz.func36, Tryz.ntmps36
      go_wp2_with fail
      refine HC.out.mono ?_
      rintro e w1 ⟨A', c', rfl, h1, h2⟩
      obtain ⟨g, rfl, q1, q2, q3, q4⟩ := own_pos h1 (by omega)
      obtain ⟨m, hm⟩ : ∃ m : Nat, m = min 12 l.length := ⟨_, rfl⟩
      have hmi : min (12 : Int) (l.length : Int) = (m : Int) := by omega
      have m1 : 8 < m := by omega
      have m2 : m ≤ l.length := by omega
      have hcl := fun ty => Lib.run_clear_slice (P := Tryz.prog) w1 25 5 ty (.int .u8 0) Tryz.underlying25 Tryz.zeroValue5 rfl rfl g 8 (m - 8) (c' - 8) (by omega) (fun j hj => by rw [h1.cellAt (8 + j) (by omega)]; simp [u8s]; omega) (fun j hj => h1.frozenAt (8 + j))
      have HS := Lib.hid (own_setCells (List.replicate (m - 8) (.int .u8 0)) 8 w1 _ h1 (by simp; omega))
      have HB := Lib.hid (below_setCells (List.replicate (m - 8) (.int .u8 0)) 8 w1 h2 (by omega))
      have H1 := Lib.hid h1
      have H2 := Lib.hid h2
      have HM := Lib.hid hm
      clear h1 h2 hm
      have hz : (zeroed l).length = l.length := by simp [zeroed]; omega
      have hu := zeroed_cells l m HM.out (by omega)
      have hs := HS.out
      rw [hu] at hs
      have h255 : ∀ x ∈ zeroed l, x < 256 := by
        intro x hx
        have hlt := H.out.lt
        simp only [zeroed, List.mem_append, List.mem_replicate] at hx
        rcases hx with (hx | hx) | hx
        · exact hlt x (List.mem_of_mem_take hx)
        · omega
        · exact hlt x (List.mem_of_mem_drop hx)
      obtain ⟨hx0, A2, c2, he2, hbyt⟩ := byt_of_own hs h255
      clear hx0
      rw [hz] at he2
      simp only [Value.slice.injEq, true_and] at he2
      obtain ⟨rfl, rfl⟩ := he2
      have hsum := sum_bin (some ⟨g, 0, none⟩) c' (zeroed l) _ hbyt
      rw [hz] at hsum
      have HU := Lib.hid hsum
      clear hsum hbyt h255 hs hu hz
      go_wp2_with fail
      refine HU.out.mono ?_
      rintro e w2 ⟨rfl, rfl⟩
      go_wp2
      go_ret
      refine ⟨rfl, ?_⟩
      have hb1 := HB.out
      simp only [World.size_alloc] at hb1
      exact ((Below.refl _ _).alloc (Nat.le_refl _) _).trans (hb1.mono (by omega))
    · have e : tabSum t l = sumF l := by unfold tabSum; rw [if_neg (fun c => h8 c.2)]
      have HS := Lib.hid (sum_bin A cap l _ H.out)
      rw [e]
      clear e he ht
      go_enter Tryz.func36, Tryz.ntmps36
      go_wp2_with (go_at_call 37; refine HS.out.mono ?_; rintro e w' ⟨rfl, rfl⟩)
      go_ret
      exact ⟨rfl, (Below.refl _ _).alloc (Nat.le_refl _) _⟩
  · have e : tabSum t l = sumF l := by unfold tabSum; rw [if_neg (fun c => ht c.1)]
    have he : decide (t = hdT) = false := by simp [ht]
    have HS := Lib.hid (sum_bin A cap l _ H.out)
    rw [e]
    rw [he] at hq
    clear e he ht
    go_enter Tryz.func36, Tryz.ntmps36
    go_wp2_with (go_at_call 37; refine HS.out.mono ?_; rintro e w' ⟨rfl, rfl⟩)
    go_ret
    exact ⟨rfl, (Below.refl _ _).alloc (Nat.le_refl _) _⟩

theorem KeepT.own_set {e base n c g : Nat} {a w : World} {xs : List Value} (h : KeepT e a w) (hown : w.ownsRow base e 1 (.slice (some ⟨g, 0, none⟩) n c) n xs) (j : Nat) (u : Value) : KeepT e a (w.setCell ⟨g, j, none⟩ u) :=
  h.trans ⟨by simp, fun k cs t f hk ht => by
    have hne : k ≠ g := fun e0 => by
      subst e0
      obtain ⟨cur, hcur⟩ := own_typed hown k rfl
      rw [hcur] at hk
      cases hk
      exact ht rfl
    exact (Below.heap_setCell w ⟨g, j, none⟩ u k hne).trans hk⟩

def zt (l : List Nat) (j : Nat) : List Nat := l.take 8 ++ List.replicate j 0 ++ l.drop (8 + j)
theorem zt_length (l : List Nat) (j : Nat) (h : 8 + j ≤ l.length) : (zt l j).length = l.length := by simp [zt]; omega
theorem zt_zero (l : List Nat) : zt l 0 = l := by simp [zt]
theorem zt_succ (l : List Nat) (j : Nat) (h : 8 + j < l.length) : (zt l j).set (8 + j) 0 = zt l (j + 1) := by
  unfold zt
  rw [List.set_append_right _ _ (by simp; omega)]
  have e : (l.drop (8 + j)) = l[8 + j] :: l.drop (8 + (j + 1)) := by rw [List.drop_eq_getElem_cons h]; rfl
  have e0 : 8 + j - (l.take 8 ++ List.replicate j 0).length = 0 := by simp; omega
  rw [e, e0, List.set_cons_zero, List.replicate_succ', List.append_assoc, List.append_assoc, List.append_assoc]
  rfl
theorem zt_lt (l : List Nat) (j : Nat) (h : ∀ x ∈ l, x < 256) : ∀ x ∈ zt l j, x < 256 := by
  intro x hx
  simp only [zt, List.mem_append, List.mem_replicate] at hx
  rcases hx with (hx | hx) | hx
  · exact h x (List.mem_of_mem_take hx)
  · omega
  · exact h x (List.mem_of_mem_drop hx)
theorem zt_zeroed (l : List Nat) (h : 8 < l.length) : zt l (min 12 l.length - 8) = zeroed l := by
  unfold zt zeroed
  rw [show 8 + (min 12 l.length - 8) = min 12 l.length from by omega]

theorem zt_exit (t : Tg) (l : List Nat) (j : Nat) (hj : j = 0 ∨ (t = hdT ∧ 8 + j ≤ min 12 l.length)) (hx : 12 ≤ 8 + j ∨ l.length ≤ 8 + j ∨ t ≠ hdT) :
    tabSum t l = sumF (zt l j) ∧ (zt l j).length = l.length := by
  rcases hj with rfl | ⟨ht, hj⟩
  · rw [zt_zero]
    refine ⟨?_, rfl⟩
    unfold tabSum
    rw [if_neg]
    rintro ⟨h1, h2⟩
    rcases hx with hx | hx | hx
    · omega
    · omega
    · exact hx h1
  · refine ⟨?_, zt_length l j (by omega)⟩
    rcases Nat.eq_zero_or_pos j with rfl | hj0
    · rw [zt_zero]
      unfold tabSum
      rw [if_neg]
      rintro ⟨h1, h2⟩
      rcases hx with hx | hx | hx
      · omega
      · omega
      · exact hx h1
    · unfold tabSum
      rw [if_pos ⟨ht, by omega⟩, ← zt_zeroed l (by omega)]
      congr 2
      rcases hx with hx | hx | hx
      · omega
      · omega
      · exact absurd ht hx
theorem sum_zt {t : Tg} {l : List Nat} {j base : Nat} {A : Option Addr} {c : Nat} {w : World} (hown : w.ownsRow base 5 1 (.slice A l.length c) l.length (u8s (zt l j))) (h255 : ∀ x ∈ l, x < 256)
    (hx : tabSum t l = sumF (zt l j) ∧ (zt l j).length = l.length) :
    Calls Tryz.prog 19 #[.slice A l.length c] w fun e w' => e = .returned (.int .u32 (tabSum t l : Nat)) ∧ w = w' := by
  obtain ⟨h0, A2, c2, he2, hbyt⟩ := byt_of_own hown (zt_lt l j h255)
  rw [hx.2] at he2
  simp only [Value.slice.injEq, true_and] at he2
  obtain ⟨rfl, rfl⟩ := he2
  have hs := sum_ref A c (zt l j) w hbyt
  rw [hx.2, ← hx.1] at hs
  exact hs

set_option maxRecDepth 100000 in
set_option maxHeartbeats 1000000 in
theorem sum_refT (t : Tg) (A : Option Addr) (cap : Nat) (l : List Nat) (w : World) (h : Byt w A cap l) (hr : l.length ≤ 140737488355328) :
    Calls Tryz.prog 17 #[t.val, .slice A l.length cap] w fun e w' => e = .returned (.int .u32 (tabSum t l : Nat)) ∧ Below w.heap.size w w' := by
  have hle := h.le
  have hmax := h.max
  have HL := Lib.hid h.lt
  have hk := kept_of_below ((Below.refl w.heap.size w).alloc (Nat.le_refl _) (.cells #[.int .u8 t.a, .int .u8 t.b, .int .u8 t.c, .int .u8 t.d] 23))
  have H := Lib.hid (h.kept hk)
  have HI := Lib.hid (fun W => isHead_ok t W)
  unfold Tg.val at *
  clear h hk
  go_enter Tryz.func17, Tryz.ntmps17
  go_wp2_with (at_builtin; refine wpl_app rfl (.tmp 7) (.tmp 8) 25 rfl w.heap.size 5 Tryz.underlying25 info_u8 rfl (by decide) (.slice none 0 0) 0 [] rfl (World.ownsRow_nil _ _ _ _) A l.length cap (u8s l) rfl (by rw [u8s_length]; omega) H.out.len0 (H.out.news (Kept.refl _)) (u8s_one l) ?c1 ?c2 ?c3 ?_; rotate_right; intro v' w1 hown hg; simp only [Nat.zero_add, List.nil_append] at hown; obtain ⟨A', c', rfl⟩ := own_form hown; have H1 := Lib.hid hown; have H2 := Lib.hid hg; clear hown hg)
  case c1 => unfold maxLen; omega
  case c2 => omega
  case c3 => simp
  have hb0 := ((Below.refl w.heap.size w).alloc (Nat.le_refl _) (.cells #[.int .u8 t.a, .int .u8 t.b, .int .u8 t.c, .int .u8 t.d] 23)).grown H2.out (by simp) (by simp [Value.ownBlock])
  have hk0 : KeepT 5 (w.alloc (.cells #[.int .u8 t.a, .int .u8 t.b, .int .u8 t.c, .int .u8 t.d] 23)) w1 := (KeepT.refl _ _).grown (World.ownsRow_nil _ 0 _ 1) H2.out
  have hbox0 := hk0.blk w.heap.size _ _ _ (heap_alloc_new w _) (by decide)
  have HB0 := Lib.hid hb0
  have HX0 := Lib.hid hbox0
  clear hb0 hk0 hbox0
  go_wp2_with fail
  go_loopw [6] (fun i wr => ∃ j : Nat, i = .int .i64 ((8 + j : Nat) : Int) ∧ (j = 0 ∨ (t = hdT ∧ 8 + j ≤ min 12 l.length)) ∧ wr.ownsRow w.heap.size 5 1 (.slice A' l.length c') l.length (u8s (zt l j)) ∧ Below w.heap.size w wr ∧ wr.heap[w.heap.size]? = some (.cells #[.int .u8 t.a, .int .u8 t.b, .int .u8 t.c, .int .u8 t.d] 23 (0, 0))) (fun i _ => 12 - (intOf i).toNat)
  case atStart => exact ⟨0, rfl, .inl rfl, by rw [zt_zero]; exact H1.out, HB0.out, HX0.out⟩
  case round =>
    obtain ⟨j, rfl, hj, hown, hbel, hbox⟩ := hrel
    have HJ := Lib.hid hj
    have x0 := cell_of_blk hbox 0
    have x1 := cell_of_blk hbox 1
    have x2 := cell_of_blk hbox 2
    have x3 := cell_of_blk hbox 3
    simp only [List.getElem?_toArray, List.getElem?_cons_zero, List.getElem?_cons_succ] at x0 x1 x2 x3
    have HX := Lib.hid hbox
    have HW := Lib.hid hown
    have HB := Lib.hid hbel
    have hsz := hbel.size
    have hj4 : j ≤ 4 := by omega
    clear hbox hown hbel hj
    by_cases hlt : 8 + j < 12
    · by_cases hlt2 : 8 + j < l.length
      · go_wp2_with fail
        refine (HI.out _).mono ?_
        rintro e w2 ⟨rfl, hb2⟩
        have hox := own_below HW.out hb2
        obtain ⟨g, rfl, q1, q2, q3, q4⟩ := own_pos hox (by omega)
        have hbx2 := (hb2.block w.heap.size (lt_of_heap HX.out)).trans HX.out
        have hb3 := HB.out.trans (hb2.mono hsz)
        by_cases ht : t = hdT
        · have he : decide (t = hdT) = true := by simp [ht]
          rw [he]
          have hcell : (w2.cell? ⟨g, 8 + j, none⟩).isSome = true := by
            rw [hox.cellAt (8 + j) (by omega)]
            simp [u8s, zt]
            omega
          obtain ⟨v0, hv0⟩ := Option.isSome_iff_exists.1 hcell
          have hfr := hox.frozenAt (8 + j)
          have hst := (hox.stored (8 + j) (.int .u8 0)).1
          have hset : (u8s (zt l j)).set (8 + j) (.int .u8 0) = u8s (zt l (j + 1)) := by
            rw [← zt_succ l j hlt2]
            simp [u8s, List.map_set]
          rw [hset] at hst
          have hkt := ((KeepT.refl 5 w2).own_set hox (8 + j) (.int .u8 0)).blk _ _ _ _ hbx2 (by decide)
          have hb4 := hb3.setCell (p := ⟨g, 8 + j, none⟩) (by exact q3) (.int .u8 0)
          have HO := Lib.hid hst
          have HK := Lib.hid hkt
          have HB4 := Lib.hid hb4
          have HT := Lib.hid ht
          clear hst hkt hb4 hox hbx2 hb3 hb2 hset hcell ht he
          go_wp2
          go_roundw
          case rel => exact ⟨j + 1, by go_num, .inr ⟨HT.out, by omega⟩, HO.out, HB4.out, HK.out⟩
          case measure => simp [intOf]; omega
        · have he : decide (t = hdT) = false := by simp [ht]
          rw [he]
          have HS := Lib.hid (sum_zt (own_below HW.out hb2) HL.out (zt_exit t l j HJ.out (.inr (.inr ht))))
          have HB3 := Lib.hid hb3
          clear he ht hox hbx2 hb3 hb2
          go_wp2_with (go_at_call 19; refine HS.out.mono ?_; rintro e w3 ⟨rfl, rfl⟩)
          go_ret
          exact ⟨rfl, HB3.out⟩
      · have HS := Lib.hid (sum_zt HW.out HL.out (zt_exit t l j HJ.out (.inr (.inl (by omega)))))
        go_wp2_with (go_at_call 19; refine HS.out.mono ?_; rintro e w3 ⟨rfl, rfl⟩)
        go_ret
        exact ⟨rfl, HB.out⟩
    · have HS := Lib.hid (sum_zt HW.out HL.out (zt_exit t l j HJ.out (.inl (by omega))))
      go_wp2_with (go_at_call 19; refine HS.out.mono ?_; rintro e w3 ⟨rfl, rfl⟩)
      go_ret
      exact ⟨rfl, HB.out⟩
end Go.Proofs.YtfbppbelcbbhlaaGreatDoor.Sf
