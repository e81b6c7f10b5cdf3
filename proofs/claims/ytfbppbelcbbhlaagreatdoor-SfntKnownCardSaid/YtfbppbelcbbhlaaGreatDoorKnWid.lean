/- sameTables: two rows that hold the same tables are the same. -/
import Derived.Test.YtfbppbelcbbhlaaGreatDoorKnTabsW
import Derived.Test.YtfbppbelcbbhlaaGreatDoorKnJoinW
import Derived.Test.YtfbppbelcbbhlaaGreatDoorKnMapF
import Derived.Test.YtfbppbelcbbhlaaGreatDoorKnTabs
import Derived.Test.YtfbppbelcbbhlaaGreatDoorKnPut
import Derived.Test.YtfbppbelcbbhlaaGreatDoorKnTab9W
namespace Go.Proofs.YtfbppbelcbbhlaaGreatDoor.Sf
open Go Go.RowKit

set_option maxRecDepth 100000 in
set_option maxHeartbeats 1000000 in
theorem sameTables_ok (A B : Option Addr) (ca cb B0 B1 : Nat) (S : List Tb) (w : World) (ha : w.ownsRow B0 48 6 (.slice A S.length ca) S.length (tbs S)) (hb : w.ownsRow B1 77 6 (.slice B S.length cb) S.length (tbs S)) (hn : S.length ≤ 1000) :
    Calls Tryz.prog 24 #[.slice A S.length ca, .slice B S.length cb] w fun e w' => e = .returned (.bool true) ∧ Below w.heap.size w w' := by
  have HA := Lib.hid ha
  have HB := Lib.hid hb
  clear ha hb
  obtain ⟨n, hN⟩ : ∃ n, n = S.length := ⟨_, rfl⟩
  rw [← hN] at HA HB hn ⊢
  have HN := Lib.hid hN
  clear hN
  go_enter Tryz.func24, Tryz.ntmps24
  go_wp2_with fail
  go_loopw [5] (fun v wr => ∃ k : Nat, k ≤ n ∧ v = .int .i64 k ∧ Below w.heap.size w wr) (fun v _ => n - (intOf v).toNat)
  case atStart => exact ⟨0, by omega, rfl, Below.refl _ _⟩
  case round =>
    obtain ⟨k, hk, rfl, hbel⟩ := hrel
    have HBE := Lib.hid hbel
    clear hbel
    by_cases hlt : k < n
    · have b0 : (0 : Int) ≤ (k : Int) := by omega
      have b1 : (k : Int) < (n : Int) := by omega
      have wk : IntKind.i64.wrap ((k : Int) + 1) = ((k + 1 : Nat) : Int) := by rw [IntWalk.i64_in _ (by omega)]; omega
      obtain ⟨t, ht⟩ : ∃ t, S[k]? = some t := ⟨S[k]'(by rw [← HN.out]; omega), List.getElem?_eq_getElem _⟩
      have HT := Lib.hid ht
      clear ht
      obtain ⟨qa, hA, -⟩ := own_pos HA.out (by omega)
      obtain ⟨qb, hB, -⟩ := own_pos HB.out (by omega)
      subst hA hB
      have ca1 := row_tb (own_below HA.out HBE.out) k hlt t HT.out
      have cb1 := row_tb (own_below HB.out HBE.out) k hlt t HT.out
      have p0 : ∀ e : Grown wr, e.w.cell? ⟨qa, k * 6, none⟩ = some (.int .u8 t.tag.a) := fun e => e.cell ca1.a
      have p1 : ∀ e : Grown wr, e.w.cell? ⟨qa, k * 6 + 1, none⟩ = some (.int .u8 t.tag.b) := fun e => e.cell ca1.b
      have p2 : ∀ e : Grown wr, e.w.cell? ⟨qa, k * 6 + 2, none⟩ = some (.int .u8 t.tag.c) := fun e => e.cell ca1.c
      have p3 : ∀ e : Grown wr, e.w.cell? ⟨qa, k * 6 + 3, none⟩ = some (.int .u8 t.tag.d) := fun e => e.cell ca1.d
      have p4 : ∀ e : Grown wr, e.w.cell? ⟨qa, k * 6 + 4, none⟩ = some (.int .i64 t.at_) := fun e => e.cell ca1.at_
      have p5 : ∀ e : Grown wr, e.w.cell? ⟨qa, k * 6 + 5, none⟩ = some (.int .i64 t.len) := fun e => e.cell ca1.len
      have r0 : ∀ e : Grown wr, e.w.cell? ⟨qb, k * 6, none⟩ = some (.int .u8 t.tag.a) := fun e => e.cell cb1.a
      have r1 : ∀ e : Grown wr, e.w.cell? ⟨qb, k * 6 + 1, none⟩ = some (.int .u8 t.tag.b) := fun e => e.cell cb1.b
      have r2 : ∀ e : Grown wr, e.w.cell? ⟨qb, k * 6 + 2, none⟩ = some (.int .u8 t.tag.c) := fun e => e.cell cb1.c
      have r3 : ∀ e : Grown wr, e.w.cell? ⟨qb, k * 6 + 3, none⟩ = some (.int .u8 t.tag.d) := fun e => e.cell cb1.d
      have r4 : ∀ e : Grown wr, e.w.cell? ⟨qb, k * 6 + 4, none⟩ = some (.int .i64 t.at_) := fun e => e.cell cb1.at_
      have r5 : ∀ e : Grown wr, e.w.cell? ⟨qb, k * 6 + 5, none⟩ = some (.int .i64 t.len) := fun e => e.cell cb1.len
      clear ca1 cb1
      have hq : ∀ w, (Op.equalIn 10000 23 (.agg #[.int .u8 t.tag.a, .int .u8 t.tag.b, .int .u8 t.tag.c, .int .u8 t.tag.d]) (.agg #[.int .u8 t.tag.a, .int .u8 t.tag.b, .int .u8 t.tag.c, .int .u8 t.tag.d])).run Tryz.prog w = .ok true w := fun w => by
        have := run_equal_tag t.tag t.tag w
        rw [decide_eq_true rfl] at this
        exact this
      have hg := tagGuard
      generalize t.tag.a = ta at *
      generalize t.tag.b = tb at *
      generalize t.tag.c = tc at *
      generalize t.tag.d = td at *
      generalize t.at_ = tat at *
      generalize t.len = tln at *
      go_upto_region 6 with (fail)
      refine wp_region_grown (by kernel_rfl) (by kernel_rfl) ?_
      repeat (go_big_quiet_step (fail))
      refine wpQuiet_nil ?_
      rintro _ ⟨eg, rfl⟩
      have HBG := Lib.hid (HBE.out.trans (eg.below.mono HBE.out.size))
      go_wp2_with fail
      go_roundw
      case rel => exact ⟨k + 1, by omega, by go_num, HBG.out⟩
      case measure => simp [intOf]; omega
    · go_wp2_with fail
      go_ret
      exact ⟨rfl, HBE.out⟩
end Go.Proofs.YtfbppbelcbbhlaaGreatDoor.Sf

/- SfntTables answers true, whatever bytes come in. -/
namespace Go.Proofs.YtfbppbelcbbhlaaGreatDoor.Sf
open Go Go.RowKit

def tabS (r : Option (List Tb)) : List Tb := r.getD []
def tabX (r : Option (List Tb)) : Int := if r.isSome then 0 else 50
/-- What an answer is, refused or not: a number, a row. -/
theorem one_tab {T : TypeId} {w w2 : World} {r : Option (List Tb)} {e : Ending} (h : TabPost T w r e w2) :
    ∃ (A : Option Addr) (c : Nat), e = .returned (.tuple #[.slice A (tabS r).length c, .int .i64 (tabX r)]) ∧ w2.ownsRow w.heap.size T 6 (.slice A (tabS r).length c) (tabS r).length (tbs (tabS r)) ∧ Below w.heap.size w w2 := by
  cases r with
  | none =>
    obtain ⟨rfl, h3⟩ := h
    exact ⟨none, 0, rfl, World.ownsRow_nil _ _ _ _, h3⟩
  | some S =>
    obtain ⟨A, c, rfl, h3, h4⟩ := h
    exact ⟨A, c, rfl, h3, h4⟩
theorem tablesF_len (l : List Nat) : (tabS (tablesF l)).length ≤ 64 := by
  unfold tablesF tabS
  split
  · rename_i hok
    rw [Option.getD_some, recs_length]
    exact hok.1.2.2.2.1
  · simp
set_option maxRecDepth 100000 in
set_option maxHeartbeats 1000000 in
theorem tables_law (A : Option Addr) (cap : Nat) (l : List Nat) (w : World) (h : Byt w A cap l) (hd : HdVar w) : Calls Tryz.prog 7 #[.slice A l.length cap] w fun e w' => e = .returned (.bool true) ∧ Below w.heap.size w w' := by
  have HD := Lib.hid hd
  have HY := Lib.hid h
  have hle := h.le
  have hmax := h.max
  clear hd h
  by_cases hn : l.length ≤ 5000
  case neg =>
    go_enter Tryz.func7, Tryz.ntmps7
    go_wp2_with (go_at_call 12; refine (works_any _ HD.out).mono ?_; rintro e w2 ⟨rfl, hb⟩; have HB := Lib.hid hb; clear hb)
    go_ret
    exact ⟨rfl, HB.out⟩
  have HY0 := Lib.hid (HY.out.below ((Below.refl _ _).alloc (Nat.le_refl _) (.cells #[] 5)))
  go_enter Tryz.func7, Tryz.ntmps7
  go_upto_region 3 with (fail)
  go_wp2_with (at_builtin; refine wpl_app rfl (.tmp 12) (.tmp 13) 25 rfl w.heap.size 5 Tryz.underlying25 info_u8 rfl (by decide) (.slice (some ⟨w.heap.size, 0, none⟩) 0 0) 0 [] rfl (World.ownsRow_made w #[] 0 (Nat.le_refl _) (by decide) rfl) A l.length cap (u8s l) rfl (by rw [u8s_length]; omega) HY.out.len0 (HY0.out.news (Kept.refl _)) (u8s_one l) ?c1 ?c2 ?c3 ?_; rotate_right; intro v' w1 hown hg; simp only [Nat.zero_add, List.nil_append] at hown; obtain ⟨A1, c1, rfl⟩ := own_form hown; have hb1 := ((Below.refl w.heap.size w).alloc (Nat.le_refl _) (.cells #[] 5)).grown hg (by simp) (by simp [Value.ownBlock]); have HB1 := Lib.hid hb1; have HO1 := Lib.hid hown; clear hown hg hb1)
  case c1 => unfold maxLen; omega
  case c2 => omega
  case c3 => simp
  obtain ⟨-, A2, c2, hA2, hy1⟩ := byt_of_own HO1.out HY.out.lt
  cases hA2
  have HY1 := Lib.hid hy1
  have HT := Lib.hid (tables_any A1 c1 l w1 hy1 (HD.out.kept (kept_of_below HB1.out)))
  clear hy1
  have HT2 := Lib.hid (fun W (hW : Below w.heap.size w W) => tables_ref A cap l W (HY.out.below hW))
  have hS := tablesF_len l
  generalize tablesF l = r at *
  refine HT.out.mono ?_
  rintro e w2 ht
  obtain ⟨A4, c4, rfl, ho4, hb4⟩ := one_tab ht
  have HO4 := Lib.hid ho4
  have HB4 := Lib.hid (HB1.out.trans (hb4.mono HB1.out.size))
  have HY4 := Lib.hid (HY1.out.below hb4)
  clear ht ho4 hb4 HT
  go_wp2_with fail
  refine (HT2.out _ HB4.out).mono ?_
  rintro e w3 ht
  obtain ⟨A5, c5, rfl, ho5, hb5⟩ := one_tab ht
  generalize tabS r = S at *
  generalize tabX r = xv at *
  have HB5 := Lib.hid (HB4.out.trans (hb5.mono HB4.out.size))
  have HSM := Lib.hid (sameTables_ok A4 A5 c4 c5 _ _ S w3 (own_below HO4.out hb5) ho5 (by omega))
  have HBY := Lib.hid (fun W (hW : Below w3.heap.size w3 W) => sameBytes_any A1 A c1 cap l l W ((HY4.out.below hb5).below hW) (HY.out.below (HB5.out.trans (hW.mono HB5.out.size))))
  have HWK := Lib.hid (fun W (hW : Below w3.heap.size w3 W) => works_any W (HD.out.kept (kept_of_below (HB5.out.trans (hW.mono HB5.out.size)))))
  have dl : decide (l = l) = true := decide_eq_true rfl
  rw [dl] at HBY
  have d1 : (xv == xv) = true := by simp
  clear ht ho5 hb5 HT2 dl
  go_wp2_with (first | (go_at_call 24; refine HSM.out.mono ?_; rintro e w6 ⟨rfl, hb6⟩; have HB6 := Lib.hid hb6; clear hb6) | (go_at_call 21; refine (HBY.out _ HB6.out).mono ?_; rintro e w' ⟨rfl, rfl⟩) | (go_at_call 12; refine (HWK.out _ HB6.out).mono ?_; rintro e w8 ⟨rfl, hb8⟩; have HB8 := Lib.hid hb8; clear hb8))
  go_ret
  have hb6 := HB5.out.trans (HB6.out.mono HB5.out.size)
  exact ⟨rfl, hb6.trans (HB8.out.mono hb6.size)⟩
end Go.Proofs.YtfbppbelcbbhlaaGreatDoor.Sf

/- sfnt.Head: on a reader, and on none. -/
namespace Go.Proofs.YtfbppbelcbbhlaaGreatDoor.Sf
open Go Go.RowKit

theorem head_nil (w : World) :
    Calls Tryz.prog 56 #[.pointer none] w fun e w' => e = .returned (.tuple #[.int .u16 0, .int .i64 50]) ∧ w = w' := by
  go_enter Tryz.func56, Tryz.ntmps56
  go_wp2_with (go_at_call 68; refine (bad_nil _).mono ?_; rintro e w' ⟨rfl, rfl⟩)
  go_ret2
  exact ⟨rfl, rfl⟩

set_option maxHeartbeats 1000000 in
theorem head_any (a s : Nat) (l : List Nat) (w : World) (h : Rdr w a s l) :
    Calls Tryz.prog 56 #[.pointer (some ⟨a, 0, none⟩)] w fun e w' => e = .returned (headOut l) ∧ w = w' := by
  have hbad := h.good
  have hlen := h.len
  by_cases h1 : l.length = 54
  · have l0 := h.longI 0 0 rfl (by omega)
    have l1 := h.longI 12 12 rfl (by omega)
    have l2 := h.wordI 18 18 rfl (by omega)
    have l3 := h.wordI 50 50 rfl (by omega)
    have hlt := numAt_two_lt l 18 h.lt (by omega)
    have ho : headOut l = if numAt l 0 4 = 65536 ∧ numAt l 12 4 = 1594834165 ∧ 16 ≤ numAt l 18 2 ∧ numAt l 18 2 ≤ 16384 ∧ numAt l 50 2 ≤ 1 then .tuple #[.int .u16 (numAt l 18 2 : Nat), .int .i64 0] else .tuple #[.int .u16 0, .int .i64 50] := by
      unfold headOut headF
      simp only [h1, true_and]
      by_cases hx : numAt l 0 4 = 65536 ∧ numAt l 12 4 = 1594834165 ∧ 16 ≤ numAt l 18 2 ∧ numAt l 18 2 ≤ 16384 ∧ numAt l 50 2 ≤ 1
      · rw [if_pos hx, if_pos hx]
      · rw [if_neg hx, if_neg hx]
    have HO := Lib.hid ho
    clear ho h
    generalize numAt l 0 4 = a0 at *
    generalize numAt l 12 4 = b0 at *
    generalize numAt l 18 2 = c at *
    generalize numAt l 50 2 = d at *
    have h1' : ((l.length : Int) != 54) = false := by simp [h1]
    clear h1
    by_cases c1 : a0 = 65536
    · by_cases c2 : b0 = 1594834165
      · by_cases c3 : 16 ≤ c
        · by_cases c4 : c ≤ 16384
          · by_cases c5 : d ≤ 1
            · go_enter Tryz.func56, Tryz.ntmps56
              go_wp2_with (first | (go_at_call 68; (with_reducible refine hbad.mono ?_); rintro e w' ⟨rfl, rfl⟩) | (go_at_call 69; (with_reducible refine hlen.mono ?_); rintro e w' ⟨rfl, rfl⟩) | (go_at_call 44; (with_reducible refine l0.mono ?_); rintro e w' ⟨rfl, rfl⟩) | (go_at_call 44; (with_reducible refine l1.mono ?_); rintro e w' ⟨rfl, rfl⟩) | (go_at_call 42; (with_reducible refine l2.mono ?_); rintro e w' ⟨rfl, rfl⟩) | (go_at_call 42; (with_reducible refine l3.mono ?_); rintro e w' ⟨rfl, rfl⟩))
              go_ret2
              exact ⟨by rw [HO.out, if_pos (by omega)]; rfl, rfl⟩
            · go_enter Tryz.func56, Tryz.ntmps56
              go_wp2_with (first | (go_at_call 68; (with_reducible refine hbad.mono ?_); rintro e w' ⟨rfl, rfl⟩) | (go_at_call 69; (with_reducible refine hlen.mono ?_); rintro e w' ⟨rfl, rfl⟩) | (go_at_call 44; (with_reducible refine l0.mono ?_); rintro e w' ⟨rfl, rfl⟩) | (go_at_call 44; (with_reducible refine l1.mono ?_); rintro e w' ⟨rfl, rfl⟩) | (go_at_call 42; (with_reducible refine l2.mono ?_); rintro e w' ⟨rfl, rfl⟩) | (go_at_call 42; (with_reducible refine l3.mono ?_); rintro e w' ⟨rfl, rfl⟩))
              go_ret2
              exact ⟨by rw [HO.out, if_neg (by omega)]; rfl, rfl⟩
          · go_enter Tryz.func56, Tryz.ntmps56
            go_wp2_with (first | (go_at_call 68; (with_reducible refine hbad.mono ?_); rintro e w' ⟨rfl, rfl⟩) | (go_at_call 69; (with_reducible refine hlen.mono ?_); rintro e w' ⟨rfl, rfl⟩) | (go_at_call 44; (with_reducible refine l0.mono ?_); rintro e w' ⟨rfl, rfl⟩) | (go_at_call 44; (with_reducible refine l1.mono ?_); rintro e w' ⟨rfl, rfl⟩) | (go_at_call 42; (with_reducible refine l2.mono ?_); rintro e w' ⟨rfl, rfl⟩) | (go_at_call 42; (with_reducible refine l3.mono ?_); rintro e w' ⟨rfl, rfl⟩))
            go_ret2
            exact ⟨by rw [HO.out, if_neg (by omega)]; rfl, rfl⟩
        · go_enter Tryz.func56, Tryz.ntmps56
          go_wp2_with (first | (go_at_call 68; (with_reducible refine hbad.mono ?_); rintro e w' ⟨rfl, rfl⟩) | (go_at_call 69; (with_reducible refine hlen.mono ?_); rintro e w' ⟨rfl, rfl⟩) | (go_at_call 44; (with_reducible refine l0.mono ?_); rintro e w' ⟨rfl, rfl⟩) | (go_at_call 44; (with_reducible refine l1.mono ?_); rintro e w' ⟨rfl, rfl⟩) | (go_at_call 42; (with_reducible refine l2.mono ?_); rintro e w' ⟨rfl, rfl⟩) | (go_at_call 42; (with_reducible refine l3.mono ?_); rintro e w' ⟨rfl, rfl⟩))
          go_ret2
          exact ⟨by rw [HO.out, if_neg (by omega)]; rfl, rfl⟩
      · go_enter Tryz.func56, Tryz.ntmps56
        go_wp2_with (first | (go_at_call 68; (with_reducible refine hbad.mono ?_); rintro e w' ⟨rfl, rfl⟩) | (go_at_call 69; (with_reducible refine hlen.mono ?_); rintro e w' ⟨rfl, rfl⟩) | (go_at_call 44; (with_reducible refine l0.mono ?_); rintro e w' ⟨rfl, rfl⟩) | (go_at_call 44; (with_reducible refine l1.mono ?_); rintro e w' ⟨rfl, rfl⟩) | (go_at_call 42; (with_reducible refine l2.mono ?_); rintro e w' ⟨rfl, rfl⟩) | (go_at_call 42; (with_reducible refine l3.mono ?_); rintro e w' ⟨rfl, rfl⟩))
        go_ret2
        exact ⟨by rw [HO.out, if_neg (by omega)]; rfl, rfl⟩
    · go_enter Tryz.func56, Tryz.ntmps56
      go_wp2_with (first | (go_at_call 68; (with_reducible refine hbad.mono ?_); rintro e w' ⟨rfl, rfl⟩) | (go_at_call 69; (with_reducible refine hlen.mono ?_); rintro e w' ⟨rfl, rfl⟩) | (go_at_call 44; (with_reducible refine l0.mono ?_); rintro e w' ⟨rfl, rfl⟩) | (go_at_call 44; (with_reducible refine l1.mono ?_); rintro e w' ⟨rfl, rfl⟩) | (go_at_call 42; (with_reducible refine l2.mono ?_); rintro e w' ⟨rfl, rfl⟩) | (go_at_call 42; (with_reducible refine l3.mono ?_); rintro e w' ⟨rfl, rfl⟩))
      go_ret2
      exact ⟨by rw [HO.out, if_neg (by omega)]; rfl, rfl⟩
  · have ho : headOut l = .tuple #[.int .u16 0, .int .i64 50] := by
      unfold headOut headF
      rw [if_neg (by omega)]
    rw [ho]
    have h1' : ((l.length : Int) != 54) = true := by simp; omega
    clear h ho
    go_enter Tryz.func56, Tryz.ntmps56
    go_wp2_with (first | (go_at_call 68; (with_reducible refine hbad.mono ?_); rintro e w' ⟨rfl, rfl⟩) | (go_at_call 69; (with_reducible refine hlen.mono ?_); rintro e w' ⟨rfl, rfl⟩))
    go_ret2
    exact ⟨rfl, rfl⟩
end Go.Proofs.YtfbppbelcbbhlaaGreatDoor.Sf

/- SfntHeads answers true, whatever bytes come in. -/
namespace Go.Proofs.YtfbppbelcbbhlaaGreatDoor.Sf
open Go Go.RowKit

theorem headOut_form (l : List Nat) : ∃ x y : Int, headOut l = .tuple #[.int .u16 x, .int .i64 y] := by
  unfold headOut
  split <;> exact ⟨_, _, rfl⟩
set_option maxRecDepth 100000 in
set_option maxHeartbeats 2000000 in
theorem heads_law (A : Option Addr) (cap : Nat) (l : List Nat) (w : World) (h : Byt w A cap l) (hd : HdVar w) : Calls Tryz.prog 27 #[.slice A l.length cap] w fun e w' => e = .returned (.bool true) ∧ Below w.heap.size w w' := by
  have HD := Lib.hid hd
  have HY := Lib.hid h
  have hle := h.le
  have hmax := h.max
  clear hd h
  by_cases hn : l.length ≤ 200
  case neg =>
    go_enter Tryz.func27, Tryz.ntmps27
    go_wp2_with (go_at_call 12; refine (works_any _ HD.out).mono ?_; rintro e w2 ⟨rfl, hb⟩; have HB := Lib.hid hb; clear hb)
    go_ret
    exact ⟨rfl, HB.out⟩
  obtain ⟨x, y, hxy⟩ := headOut_form l
  have HOP := Lib.hid (open_ok A cap l w HY.out (by omega))
  go_enter Tryz.func27, Tryz.ntmps27
  go_wp2_with fail
  refine HOP.out.mono ?_
  rintro e w2 ⟨ra, rs, rfl, hr, hb2, -, -⟩
  have HH := Lib.hid (head_any ra rs l w2 hr)
  have HF := Lib.hid (head_ref A cap l w2 (HY.out.below hb2))
  have HW := Lib.hid (works_any w2 (HD.out.kept (kept_of_below hb2)))
  have HB2 := Lib.hid hb2
  have HN := Lib.hid (head_nil w2)
  rw [hxy] at HH HF
  have d1 : (x == x) = true := by simp
  have d2 : (y == y) = true := by simp
  clear hr hb2 HOP
  go_wp2_with (first | (go_at_call 56; (with_reducible refine HH.out.mono ?_); rintro e w' ⟨rfl, rfl⟩) | (go_at_call 56; (with_reducible refine HN.out.mono ?_); rintro e w' ⟨rfl, rfl⟩) | (go_at_call 57; refine HF.out.mono ?_; rintro e w' ⟨rfl, rfl⟩) | (go_at_call 12; refine HW.out.mono ?_; rintro e w3 ⟨rfl, hb⟩; have HB := Lib.hid hb; clear hb))
  go_ret
  exact ⟨rfl, HB2.out.trans (HB.out.mono HB2.out.size)⟩
end Go.Proofs.YtfbppbelcbbhlaaGreatDoor.Sf

/- sfnt.Widths: the advances, or a refusal. -/
namespace Go.Proofs.YtfbppbelcbbhlaaGreatDoor.Sf
open Go Go.RowKit

def widN (p : List Nat) : Nat := refNum p 4 2
def widM (h : List Nat) : Nat := refNum h 34 2
def widOk (p h x : List Nat) : Prop := ((p.length = 6 ∧ numAt p 0 4 = 20480) ∨ (p.length = 32 ∧ numAt p 0 4 = 65536)) ∧ 1 ≤ widN p ∧ h.length = 36 ∧ numAt h 0 4 = 65536 ∧ 1 ≤ widM h ∧ widM h ≤ widN p ∧
  x.length = 4 * widM h + 2 * (widN p - widM h)
instance (p h x : List Nat) : Decidable (widOk p h x) := by unfold widOk; infer_instance
def widRow (x : List Nat) (m n : Nat) : List Nat := (List.range n).map fun i => numAt x (4 * min i (m - 1)) 2
def widF (p h x : List Nat) : Option (List Nat × Int × Int) := if widOk p h x then some (widRow x (widM h) (widN p), sgn16 (numAt h 4 2), sgn16 (numAt h 6 2)) else none
def u16s (l : List Nat) : List Value := l.map fun (x : Nat) => .int .u16 (x : Int)
def WidPost (T : TypeId) (w : World) (r : Option (List Nat × Int × Int)) (e : Ending) (w' : World) : Prop :=
  match r with
  | none => e = .returned (.tuple #[.slice none 0 0, .int .i16 0, .int .i16 0, .int .i64 50]) ∧ Below w.heap.size w w'
  | some (l, a, d) => ∃ A c, e = .returned (.tuple #[.slice A l.length c, .int .i16 a, .int .i16 d, .int .i64 0]) ∧ w'.ownsRow w.heap.size T 1 (.slice A l.length c) l.length (u16s l) ∧ Below w.heap.size w w'
theorem widRow_succ (x : List Nat) (m n : Nat) : widRow x m (n + 1) = widRow x m n ++ [numAt x (4 * min n (m - 1)) 2] := by simp [widRow, List.range_succ]
theorem widRow_length (x : List Nat) (m n : Nat) : (widRow x m n).length = n := by simp [widRow]
theorem info_u16 : (Tryz.prog.info? 68).map (fun i => (i.zero, i.size, i.bytes)) = some (some (.int .u16 0), 1, 2) := by kernel_rfl
def widD (eb : Nat) : List Deferred := [{ target := .fn (.func 39) #[], args := #[.pointer (some ⟨eb, 0, none⟩)] }]
theorem results_wid {tmps : Array Value} {eb te : Nat} {W : World} {v6 v7 v8 x : Value} (h6 : tmps[6]? = some v6) (h7 : tmps[7]? = some v7) (h8 : tmps[8]? = some v8) (h9 : tmps[9]? = some (.pointer (some ⟨eb, 0, none⟩)))
    (he : W.heap[eb]? = some (.cells #[x] te (0, 0))) : (results Tryz.f53 tmps).run Tryz.prog W = .ok (.tuple #[v6, v7, v8, x]) W := by
  have c1 := blk_cell he
  simp [results, Tryz.results53, go_sem, h6, h7, h8, h9, c1]
theorem wid_bad {tmps : Array Value} {eb : Nat} {W : World} {R : Ending → World → Prop} {v6 v7 v8 : Value} (h6 : tmps[6]? = some v6) (h7 : tmps[7]? = some v7) (h8 : tmps[8]? = some v8) (h9 : tmps[9]? = some (.pointer (some ⟨eb, 0, none⟩)))
    (he : W.heap[eb]? = some (.cells #[.int .i64 0] 28 (0, 0)))
    (hR : ∀ W', W'.heap.size = W.heap.size + 1 → (∀ k, k < W.heap.size → k ≠ eb → W'.heap[k]? = W.heap[k]?) → W'.os = W.os → W'.tape = W.tape → W'.output = W.output → R (.returned (.tuple #[v6, v7, v8, .int .i64 50])) W') :
    bodyPostD Tryz.prog Tryz.f53 R (.panic [{ v := brokenV, recovered := false }]) ⟨tmps, widD eb⟩ W := by
  show Leaves _ _ _ _ _ _ _
  unfold widD
  refine leaves_cons (f := 39) (args := #[.pointer (some ⟨eb, 0, none⟩)]) (by simp) (by simp [go_sem]) ?_
  refine (guard_catch eb W _ (blk_cell he) (blk_frozen he)).mono ?_
  rintro e u' w2 ⟨rfl, rfl, rfl⟩
  have hea : (W.alloc (.cells #[] 98)).heap[eb]? = some (.cells #[.int .i64 0] 28 (0, 0)) := by rw [World.heap_alloc_lt _ _ (lt_of_heap he)]; exact he
  have he2 := blk_set hea (.int .i64 50)
  exact ⟨_, results_wid h6 h7 h8 h9 he2, hR _ (by simp) (fun k hk h5 => by rw [heap_setCell_other _ _ _ _ h5, World.heap_alloc_lt _ _ hk]) rfl rfl rfl⟩
theorem wid_done {tmps : Array Value} {eb : Nat} {W : World} {R : Ending → World → Prop} {v6 v7 v8 : Value} (h6 : tmps[6]? = some v6) (h7 : tmps[7]? = some v7) (h8 : tmps[8]? = some v8) (h9 : tmps[9]? = some (.pointer (some ⟨eb, 0, none⟩)))
    (he : W.heap[eb]? = some (.cells #[.int .i64 0] 28 (0, 0))) (hR : R (.returned (.tuple #[v6, v7, v8, .int .i64 0])) W) :
    bodyPostD Tryz.prog Tryz.f53 R .ret ⟨tmps, widD eb⟩ W := by
  show Leaves _ _ _ _ _ _ _
  unfold widD
  refine leaves_cons (f := 39) (args := #[.pointer (some ⟨eb, 0, none⟩)]) (by simp) (by simp [go_sem]) ?_
  refine (guard_idle eb W).mono ?_
  rintro e u' w2 ⟨rfl, rfl, rfl⟩
  exact ⟨_, results_wid h6 h7 h8 h9 he, hR⟩
theorem wid_refuse {w W : World} {p h x : List Nat} {tmps : Array Value} (hno : ¬ widOk p h x) (h6 : tmps[6]? = some (.slice none 0 0)) (h7 : tmps[7]? = some (.int .i16 0)) (h8 : tmps[8]? = some (.int .i16 0)) (h9 : tmps[9]? = some (.pointer (some ⟨w.heap.size, 0, none⟩)))
    (hW : W = w.alloc (.cells #[.int .i64 0] 28)) :
    bodyPostD Tryz.prog Tryz.f53 (fun e w' => WidPost 68 w (widF p h x) e w') (.panic [{ v := brokenV, recovered := false }]) ⟨tmps, widD w.heap.size⟩ W := by
  subst hW
  refine wid_bad h6 h7 h8 h9 (heap_alloc_new _ _) (fun W' h1 h2 h3 h4 h5 => ?_)
  show WidPost _ w _ _ _
  unfold widF
  rw [if_neg hno]
  simp only [World.size_alloc] at h1 h2
  exact ⟨rfl, h3, h4, h5, by omega, fun k hk => (h2 k (by omega) (by omega)).trans (World.heap_alloc_lt _ _ hk)⟩
end Go.Proofs.YtfbppbelcbbhlaaGreatDoor.Sf
