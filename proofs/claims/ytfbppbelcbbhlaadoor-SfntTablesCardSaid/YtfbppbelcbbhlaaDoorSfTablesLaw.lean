/- SfntTables answers true, whatever bytes come in. -/
import Derived.Test.YtfbppbelcbbhlaaDoorSfWorks
import Derived.Test.YtfbppbelcbbhlaaDoorSfTabs
import Derived.Test.YtfbppbelcbbhlaaDoorSfSame
namespace Go.Proofs.YtfbppbelcbbhlaaDoor.Sf
open Go Go.RowKit

def tabS (r : Option (List Tb)) : List Tb := r.getD []
def tabX (r : Option (List Tb)) : Int := if r.isSome then 0 else 50
/-- What an answer is, refused or not: a number, a row. -/
theorem one_tab {T : TypeId} {w w2 : World} {r : Option (List Tb)} {e : Ending} (h : TabPost T w r e w2) :
    ∃ (A : Option Addr) (c : Nat), e = .returned (.tuple #[.slice A (tabS r).length c, .int .i64 (tabX r)]) ∧ w2.ownsRow w.heap.size T 6 (.slice A (tabS r).length c) (tabS r).length (tbs (tabS r)) ∧ Below w.heap.size w w2 := by
  cases r with
  | none =>
    obtain ⟨rfl, h3⟩ := h
    exact ⟨none, 0, rfl, World.ownsRow_nil _ _ _ _, h3⟩
  | some S =>
    obtain ⟨A, c, rfl, h3, h4⟩ := h
    exact ⟨A, c, rfl, h3, h4⟩
theorem tablesF_len (l : List Nat) : (tabS (tablesF l)).length ≤ 64 := by
  unfold tablesF tabS
  split
  · rename_i hok
    rw [Option.getD_some, recs_length]
    exact hok.1.2.2.2.1
  · simp
set_option maxRecDepth 100000 in
set_option maxHeartbeats 1000000 in
theorem tables_law (A : Option Addr) (cap : Nat) (l : List Nat) (w : World) (h : Byt w A cap l) (hd : HdVar w) : Calls Tryd.prog 3 #[.slice A l.length cap] w fun e w' => e = .returned (.bool true) ∧ Below w.heap.size w w' := by
  have HD := Lib.hid hd
  have HY := Lib.hid h
  have hle := h.le
  have hmax := h.max
  clear hd h
  by_cases hn : l.length ≤ 5000
  case neg =>
    go_enter Tryd.func3, Tryd.ntmps3
    go_wp2_with (go_at_call 8; refine (works_any _ HD.out).mono ?_; rintro e w2 ⟨rfl, hb⟩; have HB := Lib.hid hb; clear hb)
    go_ret
    exact ⟨rfl, HB.out⟩
  have HY0 := Lib.hid (HY.out.below ((Below.refl _ _).alloc (Nat.le_refl _) (.cells #[] 5)))
  go_enter Tryd.func3, Tryd.ntmps3
  go_upto_region 3 with (fail)
  go_wp2_with (at_builtin; refine wpl_app rfl (.tmp 12) (.tmp 13) 22 rfl w.heap.size 5 Tryd.underlying22 info_u8 rfl (by decide) (.slice (some ⟨w.heap.size, 0, none⟩) 0 0) 0 [] rfl (World.ownsRow_made w #[] 0 (Nat.le_refl _) (by decide) rfl) A l.length cap (u8s l) rfl (by rw [u8s_length]; omega) HY.out.len0 (HY0.out.news (Kept.refl _)) (u8s_one l) ?c1 ?c2 ?c3 ?_; rotate_right; intro v' w1 hown hg; simp only [Nat.zero_add, List.nil_append] at hown; obtain ⟨A1, c1, rfl⟩ := own_form hown; have hb1 := ((Below.refl w.heap.size w).alloc (Nat.le_refl _) (.cells #[] 5)).grown hg (by simp) (by simp [Value.ownBlock]); have HB1 := Lib.hid hb1; have HO1 := Lib.hid hown; clear hown hg hb1)
  case c1 => unfold maxLen; omega
  case c2 => omega
  case c3 => simp
  obtain ⟨-, A2, c2, hA2, hy1⟩ := byt_of_own HO1.out HY.out.lt
  cases hA2
  have HY1 := Lib.hid hy1
  have HT := Lib.hid (tables_any A1 c1 l w1 hy1 (HD.out.kept (kept_of_below HB1.out)))
  clear hy1
  have HT2 := Lib.hid (fun W (hW : Below w.heap.size w W) => tables_ref A cap l W (HY.out.below hW))
  have hS := tablesF_len l
  generalize tablesF l = r at *
  refine HT.out.mono ?_
  rintro e w2 ht
  obtain ⟨A4, c4, rfl, ho4, hb4⟩ := one_tab ht
  have HO4 := Lib.hid ho4
  have HB4 := Lib.hid (HB1.out.trans (hb4.mono HB1.out.size))
  have HY4 := Lib.hid (HY1.out.below hb4)
  clear ht ho4 hb4 HT
  go_wp2_with fail
  refine (HT2.out _ HB4.out).mono ?_
  rintro e w3 ht
  obtain ⟨A5, c5, rfl, ho5, hb5⟩ := one_tab ht
  generalize tabS r = S at *
  generalize tabX r = xv at *
  have HB5 := Lib.hid (HB4.out.trans (hb5.mono HB4.out.size))
  have HSM := Lib.hid (sameTables_ok A4 A5 c4 c5 _ _ S w3 (own_below HO4.out hb5) ho5 (by omega))
  have HBY := Lib.hid (fun W (hW : Below w3.heap.size w3 W) => sameBytes_any A1 A c1 cap l l W ((HY4.out.below hb5).below hW) (HY.out.below (HB5.out.trans (hW.mono HB5.out.size))))
  have HWK := Lib.hid (fun W (hW : Below w3.heap.size w3 W) => works_any W (HD.out.kept (kept_of_below (HB5.out.trans (hW.mono HB5.out.size)))))
  have dl : decide (l = l) = true := decide_eq_true rfl
  rw [dl] at HBY
  have d1 : (xv == xv) = true := by simp
  clear ht ho5 hb5 HT2 dl
  go_wp2_with (first | (go_at_call 11; refine HSM.out.mono ?_; rintro e w6 ⟨rfl, hb6⟩; have HB6 := Lib.hid hb6; clear hb6) | (go_at_call 12; refine (HBY.out _ HB6.out).mono ?_; rintro e w' ⟨rfl, rfl⟩) | (go_at_call 8; refine (HWK.out _ HB6.out).mono ?_; rintro e w8 ⟨rfl, hb8⟩; have HB8 := Lib.hid hb8; clear hb8))
  go_ret
  have hb6 := HB5.out.trans (HB6.out.mono HB5.out.size)
  exact ⟨rfl, hb6.trans (HB8.out.mono hb6.size)⟩
end Go.Proofs.YtfbppbelcbbhlaaDoor.Sf
