import Derived.Test.YtfbppbelcbbhlaaGreatDoorKnRead

/- The reference's readers of numbers (calamusref04, calamusref05): what each comes to on any bytes, at any place. -/
namespace Go.Proofs.YtfbppbelcbbhlaaGreatDoor.Sf
open Go Go.RowKit

def refAll (n : Nat) (at_ m : Int) : Bool := decide (0 ≤ at_ ∧ 0 ≤ m ∧ at_ + m ≤ n)
def refNum (l : List Nat) (at_ : Int) (n : Nat) : Nat := if 0 ≤ at_ ∧ at_ + n ≤ l.length then numAt l at_.toNat n else 0

theorem all_any (A : Option Addr) (len cap : Nat) (at_ m : Int) (w : World) (hl : len ≤ 9223372036854775807) :
    Calls Tryz.prog 52 #[.slice A len cap, .int .i64 at_, .int .i64 m] w fun e w' =>
      e = .returned (.bool (refAll len at_ m)) ∧ w = w' := by
  by_cases h1 : 0 ≤ at_
  · by_cases h2 : 0 ≤ m
    · by_cases h3 : at_ ≤ len
      · by_cases h4 : m ≤ len - at_
        all_goals
          go_enter Tryz.func52, Tryz.ntmps52
          go_wp2
          go_ret
          refine ⟨?_, rfl⟩
          simp [refAll]
          omega
      · go_enter Tryz.func52, Tryz.ntmps52
        go_wp2
        go_ret
        refine ⟨?_, rfl⟩
        simp [refAll]
        omega
    · go_enter Tryz.func52, Tryz.ntmps52
      go_wp2
      go_ret
      refine ⟨?_, rfl⟩
      simp [refAll]
      omega
  · go_enter Tryz.func52, Tryz.ntmps52
    go_wp2
    go_ret
    refine ⟨?_, rfl⟩
    simp [refAll]
    omega

theorem number_ref (A : Option Addr) (cap : Nat) (l : List Nat) (at_ : Int) (n : Nat) (w : World) (hb : Byt w A cap l) (hn : 0 < n) (hn2 : n ≤ 4) :
    Calls Tryz.prog 67 #[.slice A l.length cap, .int .i64 at_, .int .i64 n] w fun e w' =>
      e = .returned (.int .u32 (refNum l at_ n : Nat)) ∧ w = w' := by
  have hle := hb.le
  have hmax := hb.max
  by_cases h : 0 ≤ at_ ∧ at_ + n ≤ l.length
  · obtain ⟨b, bo, rfl, hc⟩ := hb.cells (by omega)
    have h255 := hb.lt
    clear hb
    obtain ⟨k0, rfl⟩ := Int.eq_ofNat_of_zero_le h.1
    have hr : refNum l k0 n = numAt l k0 n := by unfold refNum; rw [if_pos h]; simp
    have ht : refAll l.length k0 n = true := by simp [refAll]; omega
    rw [hr]
    have h2 : k0 + n ≤ l.length := by omega
    clear h hr
    go_enter Tryz.func67, Tryz.ntmps67
    go_wp2_with (go_at_call 52; refine (all_any _ _ _ _ _ _ (by omega)).mono ?_; rw [ht]; rintro e w' ⟨rfl, rfl⟩)
    go_loop [7, 8] (fun x i => ∃ k : Nat, k ≤ n ∧ i = .int .i64 k ∧ x = .int .u32 (numAt l k0 k : Nat)) (fun _ i => n - (intOf i).toNat)
    case atStart => exact ⟨0, Nat.zero_le _, rfl, rfl⟩
    case round =>
      obtain ⟨k, hk, rfl, rfl⟩ := hrel
      by_cases hlt : k < n
      · have hcell := hc (k0 + k) (by omega)
        have h0 : l.getD (k0 + k) 0 < 256 := by
          have hm' : l.getD (k0 + k) 0 ∈ l := by simp [List.getD, show k0 + k < l.length from by omega]
          exact h255 _ hm'
        have hs : numAt l k0 (k + 1) = (numAt l k0 k * 256 + l.getD (k0 + k) 0) % 4294967296 := by
          unfold numAt
          rw [take_snoc _ k 0 (by simp; omega), numF_snoc]
          congr 2
          simp [List.getD]
        have HS := Lib.hid hs
        clear hs ht
        generalize l.getD (k0 + k) 0 = c at *
        generalize hq : numAt l k0 k = q at *
        clear hc h255
        go_wp2
        go_round
        case rel => exact ⟨k + 1, by omega, by go_num, by rw [HS.out]; congr 1; omega⟩
        case measure => simp [intOf]; omega
      · go_wp2
        go_ret
        have hkn : k = n := by omega
        subst hkn
        exact ⟨rfl, rfl⟩
  · have hr : refNum l at_ n = 0 := by unfold refNum; rw [if_neg h]
    have ht : refAll l.length at_ n = false := by simp [refAll]; omega
    rw [hr]
    clear hb
    go_enter Tryz.func67, Tryz.ntmps67
    go_wp2_with (go_at_call 52; refine (all_any _ _ _ _ _ _ (by omega)).mono ?_; rw [ht]; rintro e w' ⟨rfl, rfl⟩)
    go_ret
    exact ⟨rfl, rfl⟩
theorem refNum_two_lt {w : World} {A : Option Addr} {cap : Nat} {l : List Nat} (hb : Byt w A cap l) (at_ : Int) : refNum l at_ 2 < 65536 := by
  unfold refNum
  split
  · exact numAt_two_lt l _ hb.lt (by omega)
  · omega
theorem refNum_lt (l : List Nat) (at_ : Int) (n : Nat) : refNum l at_ n < 4294967296 := by
  unfold refNum
  split
  · exact numF_lt _
  · omega

theorem w_ref (A : Option Addr) (cap : Nat) (l : List Nat) (at_ : Int) (w : World) (hb : Byt w A cap l) :
    Calls Tryz.prog 50 #[.slice A l.length cap, .int .i64 at_] w fun e w' =>
      e = .returned (.int .i64 (refNum l at_ 2 : Nat)) ∧ w = w' := by
  have hn := number_ref A cap l at_ 2 w hb (by omega) (by omega)
  have hlt := refNum_two_lt hb at_
  clear hb
  go_enter Tryz.func50, Tryz.ntmps50
  go_wp2_with (go_at_call 67; refine hn.mono ?_; rintro e w' ⟨rfl, rfl⟩)
  go_ret
  exact ⟨rfl, rfl⟩

theorem l_ref (A : Option Addr) (cap : Nat) (l : List Nat) (at_ : Int) (w : World) (hb : Byt w A cap l) :
    Calls Tryz.prog 51 #[.slice A l.length cap, .int .i64 at_] w fun e w' =>
      e = .returned (.int .i64 (refNum l at_ 4 : Nat)) ∧ w = w' := by
  have hn := number_ref A cap l at_ 4 w hb (by omega) (by omega)
  have hlt := refNum_lt l at_ 4
  clear hb
  go_enter Tryz.func51, Tryz.ntmps51
  go_wp2_with (go_at_call 67; refine hn.mono ?_; rintro e w' ⟨rfl, rfl⟩)
  go_ret
  exact ⟨rfl, rfl⟩

theorem sgn16_range (n : Nat) (h : n < 65536) : -32768 ≤ sgn16 n ∧ sgn16 n ≤ 32767 := by
  unfold sgn16
  split <;> omega

theorem s_ref (A : Option Addr) (cap : Nat) (l : List Nat) (at_ : Int) (w : World) (hb : Byt w A cap l) :
    Calls Tryz.prog 71 #[.slice A l.length cap, .int .i64 at_] w fun e w' =>
      e = .returned (.int .i64 (sgn16 (refNum l at_ 2))) ∧ w = w' := by
  have hn := number_ref A cap l at_ 2 w hb (by omega) (by omega)
  have hlt := refNum_two_lt hb at_
  clear hb
  go_enter Tryz.func71, Tryz.ntmps71
  go_wp2_with (go_at_call 67; refine hn.mono ?_; rintro e w' ⟨rfl, rfl⟩)
  go_ret
  refine ⟨?_, rfl⟩
  show Ending.returned (.int .i64 (wrap64 (IntKind.i16.wrap (refNum l at_ 2 : Nat)))) = _
  have hs := sgn16_range _ hlt
  rw [i16_sgn _ hlt, IntWalk.wrap64_in _ ⟨by omega, by omega⟩]

/-- A table head: the units of the em; nothing: it is none. -/
def headF (l : List Nat) : Option Nat :=
  if l.length = 54 ∧ numAt l 0 4 = 65536 ∧ numAt l 12 4 = 1594834165 ∧ 16 ≤ numAt l 18 2 ∧ numAt l 18 2 ≤ 16384 ∧ numAt l 50 2 ≤ 1 then some (numAt l 18 2) else none

def headOut (l : List Nat) : Value := match headF l with
  | some n => .tuple #[.int .u16 n, .int .i64 0]
  | none => .tuple #[.int .u16 0, .int .i64 50]

theorem head_ref (A : Option Addr) (cap : Nat) (l : List Nat) (w : World) (hb : Byt w A cap l) :
    Calls Tryz.prog 57 #[.slice A l.length cap] w fun e w' =>
      e = .returned (headOut l) ∧ w = w' := by
  have hmax := hb.max
  have hle := hb.le
  have hw := fun at_ => w_ref A cap l at_ w hb
  have hl := fun at_ => l_ref A cap l at_ w hb
  by_cases h1 : l.length = 54
  · have e0 : refNum l 0 4 = numAt l 0 4 := by simp [refNum, h1]
    have e1 : refNum l 12 4 = numAt l 12 4 := by simp [refNum, h1]
    have e2 : refNum l 18 2 = numAt l 18 2 := by simp [refNum, h1]
    have e3 : refNum l 50 2 = numAt l 50 2 := by simp [refNum, h1]
    have l0 := hl 0
    have l1 := hl 12
    have l2 := hw 18
    have l3 := hw 50
    rw [e0] at l0
    rw [e1] at l1
    rw [e2] at l2
    rw [e3] at l3
    have hlt := numAt_two_lt l 18 hb.lt (by omega)
    have ho : headOut l = if numAt l 0 4 = 65536 ∧ numAt l 12 4 = 1594834165 ∧ 16 ≤ numAt l 18 2 ∧ numAt l 18 2 ≤ 16384 ∧ numAt l 50 2 ≤ 1 then .tuple #[.int .u16 (numAt l 18 2 : Nat), .int .i64 0] else .tuple #[.int .u16 0, .int .i64 50] := by
      unfold headOut headF
      simp only [h1, true_and]
      by_cases hx : numAt l 0 4 = 65536 ∧ numAt l 12 4 = 1594834165 ∧ 16 ≤ numAt l 18 2 ∧ numAt l 18 2 ≤ 16384 ∧ numAt l 50 2 ≤ 1
      · rw [if_pos hx, if_pos hx]
      · rw [if_neg hx, if_neg hx]
    have HO := Lib.hid ho
    clear ho
    clear e0 e1 e2 e3 hl hw hb
    generalize numAt l 0 4 = a at *
    generalize numAt l 12 4 = b at *
    generalize numAt l 18 2 = c at *
    generalize numAt l 50 2 = d at *
    have h1' : ((l.length : Int) != 54) = false := by simp [h1]
    clear h1
    by_cases c1 : a = 65536
    · by_cases c2 : b = 1594834165
      · by_cases c3 : 16 ≤ c
        · by_cases c4 : c ≤ 16384
          · by_cases c5 : d ≤ 1
            · go_enter Tryz.func57, Tryz.ntmps57
              go_wp2_with (first | (go_at_call 51; (with_reducible refine l0.mono ?_); rintro e w' ⟨rfl, rfl⟩) | (go_at_call 51; (with_reducible refine l1.mono ?_); rintro e w' ⟨rfl, rfl⟩) | (go_at_call 50; (with_reducible refine l2.mono ?_); rintro e w' ⟨rfl, rfl⟩) | (go_at_call 50; (with_reducible refine l3.mono ?_); rintro e w' ⟨rfl, rfl⟩))
              go_ret2
              exact ⟨by rw [HO.out, if_pos (by omega)]; rfl, rfl⟩
            · go_enter Tryz.func57, Tryz.ntmps57
              go_wp2_with (first | (go_at_call 51; (with_reducible refine l0.mono ?_); rintro e w' ⟨rfl, rfl⟩) | (go_at_call 51; (with_reducible refine l1.mono ?_); rintro e w' ⟨rfl, rfl⟩) | (go_at_call 50; (with_reducible refine l2.mono ?_); rintro e w' ⟨rfl, rfl⟩) | (go_at_call 50; (with_reducible refine l3.mono ?_); rintro e w' ⟨rfl, rfl⟩))
              go_ret2
              exact ⟨by rw [HO.out, if_neg (by omega)]; rfl, rfl⟩
          · go_enter Tryz.func57, Tryz.ntmps57
            go_wp2_with (first | (go_at_call 51; (with_reducible refine l0.mono ?_); rintro e w' ⟨rfl, rfl⟩) | (go_at_call 51; (with_reducible refine l1.mono ?_); rintro e w' ⟨rfl, rfl⟩) | (go_at_call 50; (with_reducible refine l2.mono ?_); rintro e w' ⟨rfl, rfl⟩) | (go_at_call 50; (with_reducible refine l3.mono ?_); rintro e w' ⟨rfl, rfl⟩))
            go_ret2
            exact ⟨by rw [HO.out, if_neg (by omega)]; rfl, rfl⟩
        · go_enter Tryz.func57, Tryz.ntmps57
          go_wp2_with (first | (go_at_call 51; (with_reducible refine l0.mono ?_); rintro e w' ⟨rfl, rfl⟩) | (go_at_call 51; (with_reducible refine l1.mono ?_); rintro e w' ⟨rfl, rfl⟩) | (go_at_call 50; (with_reducible refine l2.mono ?_); rintro e w' ⟨rfl, rfl⟩) | (go_at_call 50; (with_reducible refine l3.mono ?_); rintro e w' ⟨rfl, rfl⟩))
          go_ret2
          exact ⟨by rw [HO.out, if_neg (by omega)]; rfl, rfl⟩
      · go_enter Tryz.func57, Tryz.ntmps57
        go_wp2_with (first | (go_at_call 51; (with_reducible refine l0.mono ?_); rintro e w' ⟨rfl, rfl⟩) | (go_at_call 51; (with_reducible refine l1.mono ?_); rintro e w' ⟨rfl, rfl⟩) | (go_at_call 50; (with_reducible refine l2.mono ?_); rintro e w' ⟨rfl, rfl⟩) | (go_at_call 50; (with_reducible refine l3.mono ?_); rintro e w' ⟨rfl, rfl⟩))
        go_ret2
        exact ⟨by rw [HO.out, if_neg (by omega)]; rfl, rfl⟩
    · go_enter Tryz.func57, Tryz.ntmps57
      go_wp2_with (first | (go_at_call 51; (with_reducible refine l0.mono ?_); rintro e w' ⟨rfl, rfl⟩) | (go_at_call 51; (with_reducible refine l1.mono ?_); rintro e w' ⟨rfl, rfl⟩) | (go_at_call 50; (with_reducible refine l2.mono ?_); rintro e w' ⟨rfl, rfl⟩) | (go_at_call 50; (with_reducible refine l3.mono ?_); rintro e w' ⟨rfl, rfl⟩))
      go_ret2
      exact ⟨by rw [HO.out, if_neg (by omega)]; rfl, rfl⟩
  · have ho : headOut l = .tuple #[.int .u16 0, .int .i64 50] := by
      unfold headOut headF
      rw [if_neg (by omega)]
    rw [ho]
    have h1' : ((l.length : Int) != 54) = true := by simp; omega
    clear hb hw hl
    go_enter Tryz.func57, Tryz.ntmps57
    go_wp2
    go_ret2
    exact ⟨rfl, rfl⟩
end Go.Proofs.YtfbppbelcbbhlaaGreatDoor.Sf

/- bin.Open: a reader of a copy of the bytes; sfnt.Head on it, and on none. -/
namespace Go.Proofs.YtfbppbelcbbhlaaGreatDoor.Sf
open Go Go.RowKit

theorem info_u8 : (Tryz.prog.info? 5).map (fun i => (i.zero, i.size, i.bytes)) = some (some (.int .u8 0), 1, 1) := by kernel_rfl

theorem clone_u8 (A : Option Addr) (cap : Nat) (l : List Nat) (w : World) (hb : Byt w A cap l) (hr : l.length ≤ 140737488355328) :
    Calls Tryz.prog 63 #[.slice A l.length cap] w fun e w' =>
      ∃ A' c', e = .returned (.slice A' l.length c') ∧ w'.ownsRow w.heap.size 5 1 (.slice A' l.length c') l.length (u8s l) ∧ Below w.heap.size w w' := by
  cases A with
  | none =>
    obtain ⟨h0, rfl⟩ := hb.len0 rfl
    have hl : l = [] := List.eq_nil_of_length_eq_zero h0
    subst hl
    clear hb h0 hr
    have hq := fun (w : World) => Lib.run_eql_slice_nil (P := Tryz.prog) w 25 5 none 0 0 0 0 Tryz.underlying25
    show Calls Tryz.prog 63 #[.slice none 0 0] w _
    go_enter Tryz.func63, Tryz.ntmps63
    go_wp2
    go_ret
    exact ⟨none, 0, rfl, World.ownsRow_nil _ _ _ _, Below.refl _ _⟩
  | some ad =>
    have hq := fun (w : World) => Lib.run_eql_slice_nil (P := Tryz.prog) w 25 5 (some ad) l.length cap 0 0 Tryz.underlying25
    have HB := Lib.hid hb
    clear hb
    go_enter Tryz.func63, Tryz.ntmps63
    go_wp2_with (at_builtin; refine wpl_app rfl (.tmp 5) (.tmp 6) 25 rfl w.heap.size 5 Tryz.underlying25 info_u8 rfl (by decide) (.slice (some ⟨w.heap.size, 0, none⟩) 0 0) 0 [] rfl (World.ownsRow_made w #[] 0 (Nat.le_refl _) (by decide) rfl) (some ad) l.length cap (u8s l) rfl (by rw [u8s_length]; omega) (fun h => by cases h) (HB.out.news (kept_of_below ((Below.refl _ _).alloc (Nat.le_refl _) _))) (u8s_one l) ?c1 ?c2 ?c3 ?_; rotate_right; intro v' w' hown hg; simp only [Nat.zero_add, List.nil_append] at hown; obtain ⟨A', c', rfl⟩ := own_form hown)
    case c1 => unfold maxLen; omega
    case c2 => omega
    case c3 => simp
    go_ret
    refine ⟨_, _, rfl, hown, ?_⟩
    exact ((Below.refl _ _).alloc (Nat.le_refl _) _).grown hg (by simp) (by simp [Value.ownBlock])

theorem open_ok (A : Option Addr) (cap : Nat) (l : List Nat) (w : World) (hb : Byt w A cap l) (hr : l.length ≤ 140737488355328) :
    Calls Tryz.prog 41 #[.slice A l.length cap] w fun e w' =>
      ∃ a s, e = .returned (.pointer (some ⟨a, 0, none⟩)) ∧ Rdr w' a s l ∧ Below w.heap.size w w' ∧ w.heap.size ≤ a ∧ w.heap.size ≤ s := by
  have HC := Lib.hid (clone_u8 A cap l (w.alloc (.cells #[.bool false] 102)) (hb.below ((Below.refl _ _).alloc (Nat.le_refl _) _)) hr)
  have h255 := Lib.hid hb.lt
  clear hb
  go_enter Tryz.func41, Tryz.ntmps41
  go_wp2_with (go_at_call 63; refine HC.out.mono ?_; rintro e w1 ⟨A', c', rfl, hown, hbel⟩)
  go_ret
  have hs := hbel.size
  simp only [World.size_alloc] at hs hbel hown
  have hb0 : Below w.heap.size w (w1.alloc (.cells #[.pointer (some ⟨w.heap.size, 0, none⟩), .slice A' l.length c'] 104)) :=
    (((Below.refl _ _).alloc (Nat.le_refl _) _).trans (hbel.mono (by omega))).alloc (by omega) _
  obtain ⟨_, A2, c2, he, hbyt⟩ := byt_of_own hown h255.out
  cases he
  have hw1 : Below w1.heap.size w1 (w1.alloc (.cells #[.pointer (some ⟨w.heap.size, 0, none⟩), .slice A' l.length c'] 104)) := (Below.refl _ _).alloc (Nat.le_refl _) _
  have hbyt2 := hbyt.below hw1
  refine ⟨w1.heap.size, w.heap.size, rfl, ⟨?_, ?_, ⟨A', c', ?_, hbyt2.le, hbyt2.max, hbyt2.cells⟩, h255.out⟩, hb0, by omega, Nat.le_refl _⟩
  · exact (cell_of_row _ w1.heap.size 0 _ _ (0, 0) (heap_alloc_new w1 _)).trans rfl
  · refine (kept_of_below hw1 _ _ (by omega)).trans ((hbel.cell (p := ⟨w.heap.size, 0, none⟩) (by simp)).trans ?_)
    exact (cell_of_row _ w.heap.size 0 _ _ (0, 0) (heap_alloc_new w _)).trans rfl
  · exact (cell_of_row _ w1.heap.size 1 _ _ (0, 0) (heap_alloc_new w1 _)).trans rfl
end Go.Proofs.YtfbppbelcbbhlaaGreatDoor.Sf

/- bin.Put: numbers into bytes, by a plan. -/
namespace Go.Proofs.YtfbppbelcbbhlaaGreatDoor.Sf
open Go Go.RowKit

/-- Blocks of other elements than e are as they were. -/
structure KeepT (e : TypeId) (w w' : World) : Prop where
  size : w.heap.size ≤ w'.heap.size
  blk : ∀ (k : Nat) (c : Array Value) (t : TypeId) (f : Nat × Nat), w.heap[k]? = some (Obj.cells c t f) → t ≠ e → w'.heap[k]? = some (Obj.cells c t f)
theorem KeepT.refl (e : TypeId) (w : World) : KeepT e w w := ⟨Nat.le_refl _, fun _ _ _ _ h _ => h⟩
theorem KeepT.trans {e : TypeId} {a b c : World} (h : KeepT e a b) (k : KeepT e b c) : KeepT e a c :=
  ⟨Nat.le_trans h.size k.size, fun i cs t f hi ht => k.blk i cs t f (h.blk i cs t f hi ht) ht⟩
theorem World.heap_alloc_lt (w : World) (o : Obj) {k : Nat} (h : k < w.heap.size) : (w.alloc o).heap[k]? = w.heap[k]? := Below.heap_alloc w o k h
theorem heap_new_at (w : World) (o : Obj) {k : Nat} (h : k = w.heap.size) : (w.alloc o).heap[k]? = some o := by subst h; exact heap_alloc_new w o
theorem lt_of_heap {w : World} {k : Nat} {o : Obj} (h : w.heap[k]? = some o) : k < w.heap.size := (Array.getElem?_eq_some_iff.1 h).1
theorem KeepT.alloc {e : TypeId} {a b : World} (h : KeepT e a b) (o : Obj) : KeepT e a (b.alloc o) :=
  h.trans ⟨by simp, fun k c t f hk _ => (World.heap_alloc_lt b o (lt_of_heap hk)).trans hk⟩
theorem KeepT.drew {e : TypeId} {a b : World} (h : KeepT e a b) (n : Nat) : KeepT e a (b.drewN n) := ⟨h.size, h.blk⟩
theorem own_typed {w : World} {base e size n : Nat} {v : Value} {xs : List Value} (h : w.ownsRow base e size v n xs) (k : Nat) (hk : v.ownBlock = some k) : ∃ cells, w.heap[k]? = some (.cells cells e (0, 0)) := by
  rcases h.2 with ⟨rfl, _⟩ | ⟨g, cap, cur, rfl, hg, hh, r⟩
  · simp [Value.ownBlock] at hk
  · have : g = k := by simpa [Value.ownBlock] using hk
    subst this
    exact ⟨cur, hh⟩
theorem KeepT.grown {e base size n : Nat} {a w w' : World} {v : Value} {xs : List Value} (h : KeepT e a w) (hown : w.ownsRow base e size v n xs) (hg : w.grownBy w' v.ownBlock) : KeepT e a w' :=
  h.trans ⟨hg.size, fun k c t f hk ht => (hg.block k (lt_of_heap hk) (fun hkv => by
    obtain ⟨cs, hcs⟩ := own_typed hown k hkv.symm
    rw [hcs] at hk
    cases hk
    exact ht rfl)).trans hk⟩
theorem below_grown {base e size n : Nat} {a w w' : World} {v : Value} {xs : List Value} (h : Below base a w) (hown : w.ownsRow base e size v n xs) (hb : base ≤ w.heap.size) (hg : w.grownBy w' v.ownBlock) : Below base a w' :=
  h.grown hg hb (fun k hk => (hown.lt k hk).1)
theorem KeepT.of_below {e : TypeId} {w w' : World} (h : Below w.heap.size w w') : KeepT e w w' := ⟨h.size, fun k _ _ _ hk _ => (h.block k (lt_of_heap hk)).trans hk⟩
theorem cell_of_blk {w : World} {k : Nat} {c : Array Value} {t : TypeId} {f : Nat × Nat} (h : w.heap[k]? = some (.cells c t f)) (i : Nat) : w.cell? ⟨k, i, none⟩ = c[i]? := cell_of_row w k i c t f h

/-- The first j bytes of a number of s bytes. -/
def beTo (n : Int) (s j : Nat) : List Nat := (List.range j).map fun i => ((n / 2 ^ (8 * (s - 1 - i))) % 256).toNat
def be (n : Int) (s : Nat) : List Nat := beTo n s s
theorem beTo_snoc (n : Int) (s j : Nat) : beTo n s (j + 1) = beTo n s j ++ [((n / 2 ^ (8 * (s - 1 - j))) % 256).toNat] := by
  simp [beTo, List.range_succ]
theorem beTo_length (n : Int) (s j : Nat) : (beTo n s j).length = j := by simp [beTo]
theorem beTo_lt (n : Int) (s j : Nat) : ∀ x ∈ beTo n s j, x < 256 := by
  intro x hx
  simp only [beTo, List.mem_map] at hx
  obtain ⟨i, _, rfl⟩ := hx
  omega

set_option maxHeartbeats 1000000 in
theorem put1_in (base : Nat) (A : Option Addr) (c : Nat) (l : List Nat) (n low high : Int) (s : Nat) (lo hi sz : Nat) (w : World)
    (hown : w.ownsRow base 5 1 (.slice A l.length c) l.length (u8s l)) (hbase : base ≤ w.heap.size)
    (hlo : w.heap[lo]? = some (.cells #[.int .i64 low] 2 (0, 0))) (hhi : w.heap[hi]? = some (.cells #[.int .i64 high] 2 (0, 0)))
    (hsz : w.heap[sz]? = some (.cells #[.int .i64 s] 3 (0, 0)))
    (h1 : low ≤ n) (h2 : n ≤ high) (hs : s ≤ 4) (hl : l.length ≤ 140737488355000) :
    Calls Tryz.prog 95 #[.slice A l.length c, .int .i64 n, .pointer (some ⟨lo, 0, none⟩), .pointer (some ⟨hi, 0, none⟩), .pointer (some ⟨sz, 0, none⟩)] w fun e w' =>
      ∃ A' c', e = .returned (.tuple #[.slice A' (l ++ be n s).length c', .bool true]) ∧ w'.ownsRow base 5 1 (.slice A' (l ++ be n s).length c') (l ++ be n s).length (u8s (l ++ be n s)) ∧ Below base w w' ∧ KeepT 5 w w' := by
  have clo := cell_of_blk hlo 0
  have chi := cell_of_blk hhi 0
  have csz := cell_of_blk hsz 0
  have HO := Lib.hid hown
  clear hown hlo hhi hsz
  simp only [List.getElem?_toArray, List.getElem?_cons_zero] at clo chi csz
  go_enter Tryz.func95, Tryz.ntmps95
  go_wp2
  go_loopw [0, 9] (fun v i wr => ∃ (j : Nat) (A' : Option Addr) (c' : Nat), j ≤ s ∧ i = .int .i64 ((s : Int) - 1 - j) ∧ v = .slice A' (l ++ beTo n s j).length c' ∧ wr.ownsRow base 5 1 (.slice A' (l ++ beTo n s j).length c') (l ++ beTo n s j).length (u8s (l ++ beTo n s j)) ∧ Below base w wr ∧ KeepT 5 w wr) (fun _ i _ => (intOf i + 1).toNat)
  case atStart => exact ⟨0, A, c, by omega, by simp, by simp [beTo], by simpa [beTo] using HO.out, Below.refl _ _, KeepT.refl _ _⟩
  case round =>
    obtain ⟨j, A', c', hj, rfl, rfl, hown, hbel, hkt⟩ := hrel
    have hlen : (l ++ beTo n s j).length ≤ 140737488355010 := by rw [List.length_append, beTo_length]; omega
    have hsn := beTo_snoc n s j
    have HS := Lib.hid hsn
    have HB := Lib.hid hbel
    have HK := Lib.hid hkt
    have HW := Lib.hid hown
    clear hsn hbel hkt hown HO clo chi csz
    generalize hL : l ++ beTo n s j = L at *
    have HL := Lib.hid hL
    clear hL
    by_cases hlt : j < s
    · have hbs := HB.out.size
      have hX : ((((n / 2 ^ (8 * (s - 1 - j))) % 256).toNat : Nat) : Int) = (n / 2 ^ (8 * (s - 1 - j))) % 256 := Int.toNat_of_nonneg (Int.emod_nonneg _ (by decide))
      have HX := Lib.hid hX
      clear hX
      go_wp2_with (at_builtin; refine wpl_app rfl (.tmp 25) (.tmp 31) 25 rfl base 5 Tryz.underlying25 info_u8 rfl (by decide) (.slice A' L.length c') L.length (u8s L) rfl (HW.out.alloc _) (some ⟨wr.heap.size, 0, none⟩) 1 1 (u8s [((n / 2 ^ (8 * (s - 1 - j))) % 256).toNat]) rfl rfl (fun h => by cases h) ?c0 (u8s_one _) ?c1 ?c2 ?c3 ?_; rotate_right; intro v' w' hown hg; obtain ⟨A2, c2, rfl⟩ := own_form hown)
      case c0 =>
        intro ad had k u hu
        cases had
        obtain ⟨hk, rfl⟩ := u8s_at hu
        have hk0 : k = 0 := by simpa using hk
        subst hk0
        rw [add_lit]
        refine (cell_of_row _ wr.heap.size (0 + 0) _ _ (0, 0) (heap_alloc_new wr _)).trans ?_
        simp [HX.out]
      case c1 => unfold maxLen; omega
      case c2 => omega
      case c3 => simp; omega
      rw [← u8s_append] at hown
      have hb2 := below_grown (HB.out.alloc (by omega) _) (HW.out.alloc _) (by simp; omega) hg
      have hk2 := (HK.out.alloc _).grown (HW.out.alloc _) hg
      have hL2 : L ++ [((n / 2 ^ (8 * (s - 1 - j))) % 256).toNat] = l ++ beTo n s (j + 1) := by rw [HS.out, ← HL.out, List.append_assoc]
      have HL2 := Lib.hid hL2
      have HO2 := Lib.hid hown
      have HB2 := Lib.hid hb2
      have HK2 := Lib.hid hk2
      clear hL2 hown hb2 hk2 hg
      go_wp2
      go_roundw
      case rel =>
        refine ⟨j + 1, A2, c2, by omega, by congr 1; omega, ?_, ?_, HB2.out, HK2.out⟩
        · rw [← HL2.out]; simp
        · rw [← HL2.out]; simpa using HO2.out
      case measure => simp [intOf]; omega
    · go_wp2
      go_ret2
      have hjs : j = s := by omega
      subst hjs
      refine ⟨A', c', ?_, ?_, HB.out, HK.out⟩
      · rw [show l ++ be n j = L from HL.out]; rfl
      · rw [show l ++ be n j = L from HL.out]; exact HW.out

theorem put1_out (v : Value) (n low high : Int) (lo hi sz : Nat) (w : World)
    (hlo : w.heap[lo]? = some (.cells #[.int .i64 low] 2 (0, 0))) (hhi : w.heap[hi]? = some (.cells #[.int .i64 high] 2 (0, 0)))
    (h1 : n < low ∨ high < n) :
    Calls Tryz.prog 95 #[v, .int .i64 n, .pointer (some ⟨lo, 0, none⟩), .pointer (some ⟨hi, 0, none⟩), .pointer (some ⟨sz, 0, none⟩)] w fun e w' =>
      e = .returned (.tuple #[v, .bool false]) ∧ w = w' := by
  have clo := cell_of_blk hlo 0
  have chi := cell_of_blk hhi 0
  clear hlo hhi
  simp only [List.getElem?_toArray, List.getElem?_cons_zero] at clo chi
  by_cases h2 : n < low
  · clear h1
    go_enter Tryz.func95, Tryz.ntmps95
    go_wp2
    go_ret2
    exact ⟨rfl, rfl⟩
  · have h3 : high < n := by omega
    clear h1
    go_enter Tryz.func95, Tryz.ntmps95
    go_wp2
    go_ret2
    exact ⟨rfl, rfl⟩

theorem of_any (s low high : Int) (w : World) :
    Calls Tryz.prog 94 #[.int .i64 s, .int .i64 low, .int .i64 high] w fun e w' =>
      ∃ lo hi sz, e = .returned (.func (.func 95) #[] #[.pointer (some ⟨lo, 0, none⟩), .pointer (some ⟨hi, 0, none⟩), .pointer (some ⟨sz, 0, none⟩)]) ∧
        w'.heap[lo]? = some (.cells #[.int .i64 low] 2 (0, 0)) ∧ w'.heap[hi]? = some (.cells #[.int .i64 high] 2 (0, 0)) ∧
        w'.heap[sz]? = some (.cells #[.int .i64 s] 3 (0, 0)) ∧ Below w.heap.size w w' := by
  have hmf : ∀ (fn : Fn) (first cap : Array Value) (w : World), (Instr.makeFunc fn first cap).run Tryz.prog w = .ok (.func fn first cap) w := fun _ _ _ _ => rfl
  go_enter Tryz.func94, Tryz.ntmps94
  go_wp2
  go_ret
  refine ⟨_, _, _, rfl, ?_, ?_, ?_, ?_⟩
  · rw [World.heap_alloc_lt _ _ (by simp <;> omega)]
    exact heap_new_at _ _ (by simp)
  · exact heap_new_at _ _ (by simp)
  · rw [World.heap_alloc_lt _ _ (by simp <;> omega), World.heap_alloc_lt _ _ (by simp)]
    exact heap_alloc_new _ _
  · exact (((Below.refl _ _).alloc (Nat.le_refl _) _).alloc (by simp) _).alloc (by simp <;> omega) _

/-- A letter's number: how many bytes, from where, up to where. -/
def letter (c : Nat) : Option (Nat × Int × Int) :=
  if c = 98 then some (1, 0, 255) else if c = 72 then some (2, 0, 65535) else if c = 104 then some (2, -32768, 32767) else if c = 73 then some (4, 0, 4294967295) else none

theorem by_some (c : Nat) (s : Nat) (low high : Int) (w : World) (h : letter c = some (s, low, high)) :
    Calls Tryz.prog 81 #[.int .u8 c] w fun e w' =>
      ∃ lo hi sz, e = .returned (.tuple #[.func (.func 95) #[] #[.pointer (some ⟨lo, 0, none⟩), .pointer (some ⟨hi, 0, none⟩), .pointer (some ⟨sz, 0, none⟩)], .bool true]) ∧
        w'.heap[lo]? = some (.cells #[.int .i64 low] 2 (0, 0)) ∧ w'.heap[hi]? = some (.cells #[.int .i64 high] 2 (0, 0)) ∧
        w'.heap[sz]? = some (.cells #[.int .i64 s] 3 (0, 0)) ∧ Below w.heap.size w w' := by
  unfold letter at h
  by_cases c98 : c = 98
  · subst c98
    cases h
    go_enter Tryz.func81, Tryz.ntmps81
    go_wp2_with (go_at_call 94; refine (of_any _ _ _ _).mono ?_; rintro e w' ⟨lo, hi, sz, rfl, h1, h2, h3, h4⟩; have H1 := Lib.hid h1; have H2 := Lib.hid h2; have H3 := Lib.hid h3; have H4 := Lib.hid h4; clear h1 h2 h3 h4)
    go_ret2
    exact ⟨lo, hi, sz, rfl, H1.out, H2.out, H3.out, H4.out⟩
  · rw [if_neg c98] at h
    by_cases c72 : c = 72
    · subst c72
      cases h
      go_enter Tryz.func81, Tryz.ntmps81
      go_wp2_with (go_at_call 94; refine (of_any _ _ _ _).mono ?_; rintro e w' ⟨lo, hi, sz, rfl, h1, h2, h3, h4⟩; have H1 := Lib.hid h1; have H2 := Lib.hid h2; have H3 := Lib.hid h3; have H4 := Lib.hid h4; clear h1 h2 h3 h4)
      go_ret2
      exact ⟨lo, hi, sz, rfl, H1.out, H2.out, H3.out, H4.out⟩
    · rw [if_neg c72] at h
      by_cases c104 : c = 104
      · subst c104
        cases h
        go_enter Tryz.func81, Tryz.ntmps81
        go_wp2_with (go_at_call 94; refine (of_any _ _ _ _).mono ?_; rintro e w' ⟨lo, hi, sz, rfl, h1, h2, h3, h4⟩; have H1 := Lib.hid h1; have H2 := Lib.hid h2; have H3 := Lib.hid h3; have H4 := Lib.hid h4; clear h1 h2 h3 h4)
        go_ret2
        exact ⟨lo, hi, sz, rfl, H1.out, H2.out, H3.out, H4.out⟩
      · rw [if_neg c104] at h
        by_cases c73 : c = 73
        · subst c73
          cases h
          go_enter Tryz.func81, Tryz.ntmps81
          go_wp2_with (go_at_call 94; refine (of_any _ _ _ _).mono ?_; rintro e w' ⟨lo, hi, sz, rfl, h1, h2, h3, h4⟩; have H1 := Lib.hid h1; have H2 := Lib.hid h2; have H3 := Lib.hid h3; have H4 := Lib.hid h4; clear h1 h2 h3 h4)
          go_ret2
          exact ⟨lo, hi, sz, rfl, H1.out, H2.out, H3.out, H4.out⟩
        · rw [if_neg c73] at h; cases h

theorem by_none (c : Nat) (w : World) (h : letter c = none) :
    Calls Tryz.prog 81 #[.int .u8 c] w fun e w' => e = .returned (.tuple #[.nilFunc, .bool false]) ∧ w = w' := by
  have c1 : ¬ c = 98 := fun e => by subst e; cases h
  have c2 : ¬ c = 72 := fun e => by subst e; cases h
  have c3 : ¬ c = 104 := fun e => by subst e; cases h
  have c4 : ¬ c = 73 := fun e => by subst e; cases h
  clear h
  go_enter Tryz.func81, Tryz.ntmps81
  go_wp2
  go_ret2
  exact ⟨rfl, rfl⟩
end Go.Proofs.YtfbppbelcbbhlaaGreatDoor.Sf
