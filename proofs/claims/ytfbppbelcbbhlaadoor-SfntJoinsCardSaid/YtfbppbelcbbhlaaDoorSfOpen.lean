/- bin.Open: a reader of a copy of the bytes; sfnt.Head on it, and on none. -/
import Derived.Test.YtfbppbelcbbhlaaDoorSfRef
namespace Go.Proofs.YtfbppbelcbbhlaaDoor.Sf
open Go Go.RowKit

theorem info_u8 : (Tryd.prog.info? 5).map (fun i => (i.zero, i.size, i.bytes)) = some (some (.int .u8 0), 1, 1) := by kernel_rfl

theorem clone_u8 (A : Option Addr) (cap : Nat) (l : List Nat) (w : World) (hb : Byt w A cap l) (hr : l.length ≤ 140737488355328) :
    Calls Tryd.prog 49 #[.slice A l.length cap] w fun e w' =>
      ∃ A' c', e = .returned (.slice A' l.length c') ∧ w'.ownsRow w.heap.size 5 1 (.slice A' l.length c') l.length (u8s l) ∧ Below w.heap.size w w' := by
  cases A with
  | none =>
    obtain ⟨h0, rfl⟩ := hb.len0 rfl
    have hl : l = [] := List.eq_nil_of_length_eq_zero h0
    subst hl
    clear hb h0 hr
    have hq := fun (w : World) => Lib.run_eql_slice_nil (P := Tryd.prog) w 22 5 none 0 0 0 0 Tryd.underlying22
    show Calls Tryd.prog 49 #[.slice none 0 0] w _
    go_enter Tryd.func49, Tryd.ntmps49
    go_wp2
    go_ret
    exact ⟨none, 0, rfl, World.ownsRow_nil _ _ _ _, Below.refl _ _⟩
  | some ad =>
    have hq := fun (w : World) => Lib.run_eql_slice_nil (P := Tryd.prog) w 22 5 (some ad) l.length cap 0 0 Tryd.underlying22
    have HB := Lib.hid hb
    clear hb
    go_enter Tryd.func49, Tryd.ntmps49
    go_wp2_with (at_builtin; refine wpl_app rfl (.tmp 5) (.tmp 6) 22 rfl w.heap.size 5 Tryd.underlying22 info_u8 rfl (by decide) (.slice (some ⟨w.heap.size, 0, none⟩) 0 0) 0 [] rfl (World.ownsRow_made w #[] 0 (Nat.le_refl _) (by decide) rfl) (some ad) l.length cap (u8s l) rfl (by rw [u8s_length]; omega) (fun h => by cases h) (HB.out.news (kept_of_below ((Below.refl _ _).alloc (Nat.le_refl _) _))) (u8s_one l) ?c1 ?c2 ?c3 ?_; rotate_right; intro v' w' hown hg; simp only [Nat.zero_add, List.nil_append] at hown; obtain ⟨A', c', rfl⟩ := own_form hown)
    case c1 => unfold maxLen; omega
    case c2 => omega
    case c3 => simp
    go_ret
    refine ⟨_, _, rfl, hown, ?_⟩
    exact ((Below.refl _ _).alloc (Nat.le_refl _) _).grown hg (by simp) (by simp [Value.ownBlock])

theorem open_ok (A : Option Addr) (cap : Nat) (l : List Nat) (w : World) (hb : Byt w A cap l) (hr : l.length ≤ 140737488355328) :
    Calls Tryd.prog 17 #[.slice A l.length cap] w fun e w' =>
      ∃ a s, e = .returned (.pointer (some ⟨a, 0, none⟩)) ∧ Rdr w' a s l ∧ Below w.heap.size w w' ∧ w.heap.size ≤ a ∧ w.heap.size ≤ s := by
  have HC := Lib.hid (clone_u8 A cap l (w.alloc (.cells #[.bool false] 83)) (hb.below ((Below.refl _ _).alloc (Nat.le_refl _) _)) hr)
  have h255 := Lib.hid hb.lt
  clear hb
  go_enter Tryd.func17, Tryd.ntmps17
  go_wp2_with (go_at_call 49; refine HC.out.mono ?_; rintro e w1 ⟨A', c', rfl, hown, hbel⟩)
  go_ret
  have hs := hbel.size
  simp only [World.size_alloc] at hs hbel hown
  have hb0 : Below w.heap.size w (w1.alloc (.cells #[.pointer (some ⟨w.heap.size, 0, none⟩), .slice A' l.length c'] 86)) :=
    (((Below.refl _ _).alloc (Nat.le_refl _) _).trans (hbel.mono (by omega))).alloc (by omega) _
  obtain ⟨_, A2, c2, he, hbyt⟩ := byt_of_own hown h255.out
  cases he
  have hw1 : Below w1.heap.size w1 (w1.alloc (.cells #[.pointer (some ⟨w.heap.size, 0, none⟩), .slice A' l.length c'] 86)) := (Below.refl _ _).alloc (Nat.le_refl _) _
  have hbyt2 := hbyt.below hw1
  refine ⟨w1.heap.size, w.heap.size, rfl, ⟨?_, ?_, ⟨A', c', ?_, hbyt2.le, hbyt2.max, hbyt2.cells⟩, h255.out⟩, hb0, by omega, Nat.le_refl _⟩
  · exact (cell_of_row _ w1.heap.size 0 _ _ (0, 0) (heap_alloc_new w1 _)).trans rfl
  · refine (kept_of_below hw1 _ _ (by omega)).trans ((hbel.cell (p := ⟨w.heap.size, 0, none⟩) (by simp)).trans ?_)
    exact (cell_of_row _ w.heap.size 0 _ _ (0, 0) (heap_alloc_new w _)).trans rfl
  · exact (cell_of_row _ w1.heap.size 1 _ _ (0, 0) (heap_alloc_new w1 _)).trans rfl
end Go.Proofs.YtfbppbelcbbhlaaDoor.Sf
