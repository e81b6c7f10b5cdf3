/- bin.Put: numbers into bytes, by a plan. -/
import Derived.Test.YtfbppbelcbbhlaaDoorSfOpen
namespace Go.Proofs.YtfbppbelcbbhlaaDoor.Sf
open Go Go.RowKit

/-- Blocks of other elements than e are as they were. -/
structure KeepT (e : TypeId) (w w' : World) : Prop where
  size : w.heap.size ≤ w'.heap.size
  blk : ∀ (k : Nat) (c : Array Value) (t : TypeId) (f : Nat × Nat), w.heap[k]? = some (Obj.cells c t f) → t ≠ e → w'.heap[k]? = some (Obj.cells c t f)
theorem KeepT.refl (e : TypeId) (w : World) : KeepT e w w := ⟨Nat.le_refl _, fun _ _ _ _ h _ => h⟩
theorem KeepT.trans {e : TypeId} {a b c : World} (h : KeepT e a b) (k : KeepT e b c) : KeepT e a c :=
  ⟨Nat.le_trans h.size k.size, fun i cs t f hi ht => k.blk i cs t f (h.blk i cs t f hi ht) ht⟩
theorem World.heap_alloc_lt (w : World) (o : Obj) {k : Nat} (h : k < w.heap.size) : (w.alloc o).heap[k]? = w.heap[k]? := Below.heap_alloc w o k h
theorem heap_new_at (w : World) (o : Obj) {k : Nat} (h : k = w.heap.size) : (w.alloc o).heap[k]? = some o := by subst h; exact heap_alloc_new w o
theorem lt_of_heap {w : World} {k : Nat} {o : Obj} (h : w.heap[k]? = some o) : k < w.heap.size := (Array.getElem?_eq_some_iff.1 h).1
theorem KeepT.alloc {e : TypeId} {a b : World} (h : KeepT e a b) (o : Obj) : KeepT e a (b.alloc o) :=
  h.trans ⟨by simp, fun k c t f hk _ => (World.heap_alloc_lt b o (lt_of_heap hk)).trans hk⟩
theorem KeepT.drew {e : TypeId} {a b : World} (h : KeepT e a b) (n : Nat) : KeepT e a (b.drewN n) := ⟨h.size, h.blk⟩
theorem own_typed {w : World} {base e size n : Nat} {v : Value} {xs : List Value} (h : w.ownsRow base e size v n xs) (k : Nat) (hk : v.ownBlock = some k) : ∃ cells, w.heap[k]? = some (.cells cells e (0, 0)) := by
  rcases h.2 with ⟨rfl, _⟩ | ⟨g, cap, cur, rfl, hg, hh, r⟩
  · simp [Value.ownBlock] at hk
  · have : g = k := by simpa [Value.ownBlock] using hk
    subst this
    exact ⟨cur, hh⟩
theorem KeepT.grown {e base size n : Nat} {a w w' : World} {v : Value} {xs : List Value} (h : KeepT e a w) (hown : w.ownsRow base e size v n xs) (hg : w.grownBy w' v.ownBlock) : KeepT e a w' :=
  h.trans ⟨hg.size, fun k c t f hk ht => (hg.block k (lt_of_heap hk) (fun hkv => by
    obtain ⟨cs, hcs⟩ := own_typed hown k hkv.symm
    rw [hcs] at hk
    cases hk
    exact ht rfl)).trans hk⟩
theorem below_grown {base e size n : Nat} {a w w' : World} {v : Value} {xs : List Value} (h : Below base a w) (hown : w.ownsRow base e size v n xs) (hb : base ≤ w.heap.size) (hg : w.grownBy w' v.ownBlock) : Below base a w' :=
  h.grown hg hb (fun k hk => (hown.lt k hk).1)
theorem KeepT.of_below {e : TypeId} {w w' : World} (h : Below w.heap.size w w') : KeepT e w w' := ⟨h.size, fun k _ _ _ hk _ => (h.block k (lt_of_heap hk)).trans hk⟩
theorem cell_of_blk {w : World} {k : Nat} {c : Array Value} {t : TypeId} {f : Nat × Nat} (h : w.heap[k]? = some (.cells c t f)) (i : Nat) : w.cell? ⟨k, i, none⟩ = c[i]? := cell_of_row w k i c t f h

/-- The first j bytes of a number of s bytes. -/
def beTo (n : Int) (s j : Nat) : List Nat := (List.range j).map fun i => ((n / 2 ^ (8 * (s - 1 - i))) % 256).toNat
def be (n : Int) (s : Nat) : List Nat := beTo n s s
theorem beTo_snoc (n : Int) (s j : Nat) : beTo n s (j + 1) = beTo n s j ++ [((n / 2 ^ (8 * (s - 1 - j))) % 256).toNat] := by
  simp [beTo, List.range_succ]
theorem beTo_length (n : Int) (s j : Nat) : (beTo n s j).length = j := by simp [beTo]
theorem beTo_lt (n : Int) (s j : Nat) : ∀ x ∈ beTo n s j, x < 256 := by
  intro x hx
  simp only [beTo, List.mem_map] at hx
  obtain ⟨i, _, rfl⟩ := hx
  omega

set_option maxHeartbeats 1000000 in
theorem put1_in (base : Nat) (A : Option Addr) (c : Nat) (l : List Nat) (n low high : Int) (s : Nat) (lo hi sz : Nat) (w : World)
    (hown : w.ownsRow base 5 1 (.slice A l.length c) l.length (u8s l)) (hbase : base ≤ w.heap.size)
    (hlo : w.heap[lo]? = some (.cells #[.int .i64 low] 2 (0, 0))) (hhi : w.heap[hi]? = some (.cells #[.int .i64 high] 2 (0, 0)))
    (hsz : w.heap[sz]? = some (.cells #[.int .i64 s] 3 (0, 0)))
    (h1 : low ≤ n) (h2 : n ≤ high) (hs : s ≤ 4) (hl : l.length ≤ 140737488355000) :
    Calls Tryd.prog 81 #[.slice A l.length c, .int .i64 n, .pointer (some ⟨lo, 0, none⟩), .pointer (some ⟨hi, 0, none⟩), .pointer (some ⟨sz, 0, none⟩)] w fun e w' =>
      ∃ A' c', e = .returned (.tuple #[.slice A' (l ++ be n s).length c', .bool true]) ∧ w'.ownsRow base 5 1 (.slice A' (l ++ be n s).length c') (l ++ be n s).length (u8s (l ++ be n s)) ∧ Below base w w' ∧ KeepT 5 w w' := by
  have clo := cell_of_blk hlo 0
  have chi := cell_of_blk hhi 0
  have csz := cell_of_blk hsz 0
  have HO := Lib.hid hown
  clear hown hlo hhi hsz
  simp only [List.getElem?_toArray, List.getElem?_cons_zero] at clo chi csz
  go_enter Tryd.func81, Tryd.ntmps81
  go_wp2
  go_loopw [0, 9] (fun v i wr => ∃ (j : Nat) (A' : Option Addr) (c' : Nat), j ≤ s ∧ i = .int .i64 ((s : Int) - 1 - j) ∧ v = .slice A' (l ++ beTo n s j).length c' ∧ wr.ownsRow base 5 1 (.slice A' (l ++ beTo n s j).length c') (l ++ beTo n s j).length (u8s (l ++ beTo n s j)) ∧ Below base w wr ∧ KeepT 5 w wr) (fun _ i _ => (intOf i + 1).toNat)
  case atStart => exact ⟨0, A, c, by omega, by simp, by simp [beTo], by simpa [beTo] using HO.out, Below.refl _ _, KeepT.refl _ _⟩
  case round =>
    obtain ⟨j, A', c', hj, rfl, rfl, hown, hbel, hkt⟩ := hrel
    have hlen : (l ++ beTo n s j).length ≤ 140737488355010 := by rw [List.length_append, beTo_length]; omega
    have hsn := beTo_snoc n s j
    have HS := Lib.hid hsn
    have HB := Lib.hid hbel
    have HK := Lib.hid hkt
    have HW := Lib.hid hown
    clear hsn hbel hkt hown HO clo chi csz
    generalize hL : l ++ beTo n s j = L at *
    have HL := Lib.hid hL
    clear hL
    by_cases hlt : j < s
    · have hbs := HB.out.size
      have hX : ((((n / 2 ^ (8 * (s - 1 - j))) % 256).toNat : Nat) : Int) = (n / 2 ^ (8 * (s - 1 - j))) % 256 := Int.toNat_of_nonneg (Int.emod_nonneg _ (by decide))
      have HX := Lib.hid hX
      clear hX
      go_wp2_with (at_builtin; refine wpl_app rfl (.tmp 25) (.tmp 31) 22 rfl base 5 Tryd.underlying22 info_u8 rfl (by decide) (.slice A' L.length c') L.length (u8s L) rfl (HW.out.alloc _) (some ⟨wr.heap.size, 0, none⟩) 1 1 (u8s [((n / 2 ^ (8 * (s - 1 - j))) % 256).toNat]) rfl rfl (fun h => by cases h) ?c0 (u8s_one _) ?c1 ?c2 ?c3 ?_; rotate_right; intro v' w' hown hg; obtain ⟨A2, c2, rfl⟩ := own_form hown)
      case c0 =>
        intro ad had k u hu
        cases had
        obtain ⟨hk, rfl⟩ := u8s_at hu
        have hk0 : k = 0 := by simpa using hk
        subst hk0
        rw [add_lit]
        refine (cell_of_row _ wr.heap.size (0 + 0) _ _ (0, 0) (heap_alloc_new wr _)).trans ?_
        simp [HX.out]
      case c1 => unfold maxLen; omega
      case c2 => omega
      case c3 => simp; omega
      rw [← u8s_append] at hown
      have hb2 := below_grown (HB.out.alloc (by omega) _) (HW.out.alloc _) (by simp; omega) hg
      have hk2 := (HK.out.alloc _).grown (HW.out.alloc _) hg
      have hL2 : L ++ [((n / 2 ^ (8 * (s - 1 - j))) % 256).toNat] = l ++ beTo n s (j + 1) := by rw [HS.out, ← HL.out, List.append_assoc]
      have HL2 := Lib.hid hL2
      have HO2 := Lib.hid hown
      have HB2 := Lib.hid hb2
      have HK2 := Lib.hid hk2
      clear hL2 hown hb2 hk2 hg
      go_wp2
      go_roundw
      case rel =>
        refine ⟨j + 1, A2, c2, by omega, by congr 1; omega, ?_, ?_, HB2.out, HK2.out⟩
        · rw [← HL2.out]; simp
        · rw [← HL2.out]; simpa using HO2.out
      case measure => simp [intOf]; omega
    · go_wp2
      go_ret2
      have hjs : j = s := by omega
      subst hjs
      refine ⟨A', c', ?_, ?_, HB.out, HK.out⟩
      · rw [show l ++ be n j = L from HL.out]; rfl
      · rw [show l ++ be n j = L from HL.out]; exact HW.out

theorem put1_out (v : Value) (n low high : Int) (lo hi sz : Nat) (w : World)
    (hlo : w.heap[lo]? = some (.cells #[.int .i64 low] 2 (0, 0))) (hhi : w.heap[hi]? = some (.cells #[.int .i64 high] 2 (0, 0)))
    (h1 : n < low ∨ high < n) :
    Calls Tryd.prog 81 #[v, .int .i64 n, .pointer (some ⟨lo, 0, none⟩), .pointer (some ⟨hi, 0, none⟩), .pointer (some ⟨sz, 0, none⟩)] w fun e w' =>
      e = .returned (.tuple #[v, .bool false]) ∧ w = w' := by
  have clo := cell_of_blk hlo 0
  have chi := cell_of_blk hhi 0
  clear hlo hhi
  simp only [List.getElem?_toArray, List.getElem?_cons_zero] at clo chi
  by_cases h2 : n < low
  · clear h1
    go_enter Tryd.func81, Tryd.ntmps81
    go_wp2
    go_ret2
    exact ⟨rfl, rfl⟩
  · have h3 : high < n := by omega
    clear h1
    go_enter Tryd.func81, Tryd.ntmps81
    go_wp2
    go_ret2
    exact ⟨rfl, rfl⟩

theorem of_any (s low high : Int) (w : World) :
    Calls Tryd.prog 80 #[.int .i64 s, .int .i64 low, .int .i64 high] w fun e w' =>
      ∃ lo hi sz, e = .returned (.func (.func 81) #[] #[.pointer (some ⟨lo, 0, none⟩), .pointer (some ⟨hi, 0, none⟩), .pointer (some ⟨sz, 0, none⟩)]) ∧
        w'.heap[lo]? = some (.cells #[.int .i64 low] 2 (0, 0)) ∧ w'.heap[hi]? = some (.cells #[.int .i64 high] 2 (0, 0)) ∧
        w'.heap[sz]? = some (.cells #[.int .i64 s] 3 (0, 0)) ∧ Below w.heap.size w w' := by
  have hmf : ∀ (fn : Fn) (first cap : Array Value) (w : World), (Instr.makeFunc fn first cap).run Tryd.prog w = .ok (.func fn first cap) w := fun _ _ _ _ => rfl
  go_enter Tryd.func80, Tryd.ntmps80
  go_wp2
  go_ret
  refine ⟨_, _, _, rfl, ?_, ?_, ?_, ?_⟩
  · rw [World.heap_alloc_lt _ _ (by simp <;> omega)]
    exact heap_new_at _ _ (by simp)
  · exact heap_new_at _ _ (by simp)
  · rw [World.heap_alloc_lt _ _ (by simp <;> omega), World.heap_alloc_lt _ _ (by simp)]
    exact heap_alloc_new _ _
  · exact (((Below.refl _ _).alloc (Nat.le_refl _) _).alloc (by simp) _).alloc (by simp <;> omega) _

/-- A letter's number: how many bytes, from where, up to where. -/
def letter (c : Nat) : Option (Nat × Int × Int) :=
  if c = 98 then some (1, 0, 255) else if c = 72 then some (2, 0, 65535) else if c = 104 then some (2, -32768, 32767) else if c = 73 then some (4, 0, 4294967295) else none

theorem by_some (c : Nat) (s : Nat) (low high : Int) (w : World) (h : letter c = some (s, low, high)) :
    Calls Tryd.prog 73 #[.int .u8 c] w fun e w' =>
      ∃ lo hi sz, e = .returned (.tuple #[.func (.func 81) #[] #[.pointer (some ⟨lo, 0, none⟩), .pointer (some ⟨hi, 0, none⟩), .pointer (some ⟨sz, 0, none⟩)], .bool true]) ∧
        w'.heap[lo]? = some (.cells #[.int .i64 low] 2 (0, 0)) ∧ w'.heap[hi]? = some (.cells #[.int .i64 high] 2 (0, 0)) ∧
        w'.heap[sz]? = some (.cells #[.int .i64 s] 3 (0, 0)) ∧ Below w.heap.size w w' := by
  unfold letter at h
  by_cases c98 : c = 98
  · subst c98
    cases h
    go_enter Tryd.func73, Tryd.ntmps73
    go_wp2_with (go_at_call 80; refine (of_any _ _ _ _).mono ?_; rintro e w' ⟨lo, hi, sz, rfl, h1, h2, h3, h4⟩; have H1 := Lib.hid h1; have H2 := Lib.hid h2; have H3 := Lib.hid h3; have H4 := Lib.hid h4; clear h1 h2 h3 h4)
    go_ret2
    exact ⟨lo, hi, sz, rfl, H1.out, H2.out, H3.out, H4.out⟩
  · rw [if_neg c98] at h
    by_cases c72 : c = 72
    · subst c72
      cases h
      go_enter Tryd.func73, Tryd.ntmps73
      go_wp2_with (go_at_call 80; refine (of_any _ _ _ _).mono ?_; rintro e w' ⟨lo, hi, sz, rfl, h1, h2, h3, h4⟩; have H1 := Lib.hid h1; have H2 := Lib.hid h2; have H3 := Lib.hid h3; have H4 := Lib.hid h4; clear h1 h2 h3 h4)
      go_ret2
      exact ⟨lo, hi, sz, rfl, H1.out, H2.out, H3.out, H4.out⟩
    · rw [if_neg c72] at h
      by_cases c104 : c = 104
      · subst c104
        cases h
        go_enter Tryd.func73, Tryd.ntmps73
        go_wp2_with (go_at_call 80; refine (of_any _ _ _ _).mono ?_; rintro e w' ⟨lo, hi, sz, rfl, h1, h2, h3, h4⟩; have H1 := Lib.hid h1; have H2 := Lib.hid h2; have H3 := Lib.hid h3; have H4 := Lib.hid h4; clear h1 h2 h3 h4)
        go_ret2
        exact ⟨lo, hi, sz, rfl, H1.out, H2.out, H3.out, H4.out⟩
      · rw [if_neg c104] at h
        by_cases c73 : c = 73
        · subst c73
          cases h
          go_enter Tryd.func73, Tryd.ntmps73
          go_wp2_with (go_at_call 80; refine (of_any _ _ _ _).mono ?_; rintro e w' ⟨lo, hi, sz, rfl, h1, h2, h3, h4⟩; have H1 := Lib.hid h1; have H2 := Lib.hid h2; have H3 := Lib.hid h3; have H4 := Lib.hid h4; clear h1 h2 h3 h4)
          go_ret2
          exact ⟨lo, hi, sz, rfl, H1.out, H2.out, H3.out, H4.out⟩
        · rw [if_neg c73] at h; cases h

theorem by_none (c : Nat) (w : World) (h : letter c = none) :
    Calls Tryd.prog 73 #[.int .u8 c] w fun e w' => e = .returned (.tuple #[.nilFunc, .bool false]) ∧ w = w' := by
  have c1 : ¬ c = 98 := fun e => by subst e; cases h
  have c2 : ¬ c = 72 := fun e => by subst e; cases h
  have c3 : ¬ c = 104 := fun e => by subst e; cases h
  have c4 : ¬ c = 73 := fun e => by subst e; cases h
  clear h
  go_enter Tryd.func73, Tryd.ntmps73
  go_wp2
  go_ret2
  exact ⟨rfl, rfl⟩
end Go.Proofs.YtfbppbelcbbhlaaDoor.Sf
