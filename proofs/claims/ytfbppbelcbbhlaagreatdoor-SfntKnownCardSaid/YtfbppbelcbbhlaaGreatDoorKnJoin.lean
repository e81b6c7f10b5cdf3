import Derived.Test.YtfbppbelcbbhlaaGreatDoorKnJoinW

/- sfnt.Join: what is joined. -/
namespace Go.Proofs.YtfbppbelcbbhlaaGreatDoor.Sf
open Go Go.RowKit

theorem joinF_bad {tags : List Tg} {ls : List (List Nat)} (h : ¬ joinOk tags ls) : joinF tags ls = none := by unfold joinF; rw [if_neg h]
theorem joinF_ok {tags : List Tg} {ls : List (List Nat)} (h : joinOk tags ls) : joinF tags ls = some (fileB tags ls) := by unfold joinF; rw [if_pos h]
theorem III_put (a b c : Nat) (ha : a ≤ 4294967295) (hb : b ≤ 4294967295) (hc : c ≤ 4294967295) : putAll (planOf ⟨#[73, 73, 73]⟩ [(a : Int), b, c]) = some (be a 4 ++ (be b 4 ++ be c 4)) := by
  have e : planOf ⟨#[73, 73, 73]⟩ [(a : Int), b, c] = [(73, (a : Int)), (73, (b : Int)), (73, (c : Int))] := rfl
  have a1 : putOne (73, (a : Int)) = some (be a 4) := putOne_I _ (by omega) (by omega)
  have a2 : putOne (73, (b : Int)) = some (be b 4) := putOne_I _ (by omega) (by omega)
  have a3 : putOne (73, (c : Int)) = some (be c 4) := putOne_I _ (by omega) (by omega)
  rw [e]
  simp only [putAll, a1, a2, a3, Option.bind_some, Option.map_some, List.append_nil]
theorem getD_at {α : Type} (l : List α) (i : Nat) (d : α) (h : i < l.length) : l[i]? = some (l.getD i d) := by simp [List.getD, h]
theorem tag_bytes_lt {t : Tg} (h : t.ok) : ∀ x ∈ t.bytes, x < 256 := by
  intro x hx
  simp only [Tg.bytes, List.mem_cons, List.not_mem_nil, or_false] at hx
  rcases hx with rfl | rfl | rfl | rfl
  · exact h.a
  · exact h.b
  · exact h.c
  · exact h.d
theorem noTag_ok : noTag.ok := ⟨by decide, by decide, by decide, by decide⟩
theorem getD_mem {α : Type} (P : α → Prop) (l : List α) (i : Nat) (d : α) (h : ∀ x ∈ l, P x) (hd : P d) : P (l.getD i d) := by
  rcases Nat.lt_or_ge i l.length with hi | hi
  · exact h _ (List.mem_of_getElem? (getD_at l i d hi))
  · rw [List.getD, List.getElem?_eq_none hi]; exact hd
theorem recsB_lt (tags : List Tg) (ls : List (List Nat)) (ht : ∀ t ∈ tags, t.ok) (base k : Nat) : ∀ x ∈ recsB tags ls base k, x < 256 := by
  induction k with
  | zero => intro x hx; cases hx
  | succ k ih =>
    intro x hx
    simp only [recsB, List.mem_append] at hx
    rcases hx with hx | hx
    · exact ih x hx
    · simp only [recB, List.mem_append] at hx
      rcases hx with hx | hx | hx | hx
      · exact tag_bytes_lt (getD_mem _ _ _ _ ht noTag_ok) x hx
      · exact be_lt _ _ _ hx
      · exact be_lt _ _ _ hx
      · exact be_lt _ _ _ hx
theorem dataB_lt (ls : List (List Nat)) (hb : ∀ l ∈ ls, ∀ y ∈ l, y < 256) (k : Nat) : ∀ x ∈ dataB ls k, x < 256 := by
  induction k with
  | zero => intro x hx; cases hx
  | succ k ih =>
    intro x hx
    simp only [dataB, List.mem_append, padded, List.mem_replicate] at hx
    rcases hx with hx | hx | hx
    · exact ih x hx
    · exact getD_mem (fun l => ∀ y ∈ l, y < 256) ls k [] hb (fun y hy => by cases hy) x hx
    · omega
theorem rawB_lt (tags : List Tg) (ls : List (List Nat)) (ht : ∀ t ∈ tags, t.ok) (hb : ∀ l ∈ ls, ∀ y ∈ l, y < 256) : ∀ x ∈ rawB tags ls, x < 256 := by
  intro x hx
  simp only [rawB, List.mem_append] at hx
  rcases hx with (hx | hx) | hx
  · exact headB_lt _ x hx
  · exact recsB_lt tags ls ht _ _ x hx
  · exact dataB_lt ls hb _ x hx
theorem whole0_cells (l : List Nat) (p : Nat) : (u8s l).take p ++ [Value.int IntKind.u8 0, Value.int IntKind.u8 0, Value.int IntKind.u8 0, Value.int IntKind.u8 0] ++ (u8s l).drop (p + 4) = u8s (whole0 l p) := by
  simp [whole0, u8s, List.map_take, List.map_drop]
theorem whole0_length (l : List Nat) (p : Nat) (h : p + 4 ≤ l.length) : (whole0 l p).length = l.length := by simp [whole0]; omega
theorem whole0_take (l : List Nat) (p : Nat) (h : p + 4 ≤ l.length) : (whole0 l p).take p = l.take p := by
  rw [whole0, List.append_assoc, List.take_append_of_le_length (by simp; omega), List.take_take, Nat.min_self]
theorem whole0_drop (l : List Nat) (p : Nat) (h : p + 4 ≤ l.length) : (whole0 l p).drop (p + 4) = l.drop (p + 4) := by
  rw [whole0, List.drop_append, List.drop_eq_nil_of_le (by simp; omega)]
  simp
  omega
def rowLen : Value → Nat
  | .slice _ n _ => n
  | _ => 0
def placeV (o : Option Nat) : Int := match o with
  | none => -1
  | some p => p

set_option maxRecDepth 100000 in
set_option maxHeartbeats 2000000 in
theorem join_any (A B : Option Addr) (ca cb : Nat) (tags : List Tg) (ls : List (List Nat)) (w : World) (hT : TagsR w A ca tags) (hB : BodsR w B cb ls) (hd : HdVar w) (hsz : upTo ls ls.length ≤ 16000000) :
    Calls Tryz.prog 20 #[.slice A tags.length ca, .slice B ls.length cb] w fun e w' => JoinPost 5 w (joinF tags ls) e w' := by
  have la := hT.le
  have ma := hT.max
  have lb := hB.le
  have mb := hB.max
  by_cases f1 : tags.length = ls.length
  case neg =>
    rw [joinF_bad (fun h => f1 h.1)]
    have d1 : ((tags.length : Int) != (ls.length : Int)) = true := by simp; omega
    clear hT hB hd
    go_enter Tryz.func20, Tryz.ntmps20
    go_wp2
    go_ret2
    exact ⟨rfl, Below.refl _ _⟩
  by_cases f2 : 1 ≤ tags.length
  case neg =>
    rw [joinF_bad (fun h => f2 h.2.1)]
    have d1 : ((tags.length : Int) != (ls.length : Int)) = false := by simp; omega
    have d2 : decide ((tags.length : Int) < 1) = true := decide_eq_true (by omega)
    clear hT hB hd
    go_enter Tryz.func20, Tryz.ntmps20
    go_wp2
    go_ret2
    exact ⟨rfl, Below.refl _ _⟩
  by_cases f3 : tags.length ≤ 64
  case neg =>
    rw [joinF_bad (fun h => f3 h.2.2.1)]
    have d1 : ((tags.length : Int) != (ls.length : Int)) = false := by simp; omega
    have d2 : decide ((tags.length : Int) < 1) = false := decide_eq_false (by omega)
    have d3 : decide ((64 : Int) < (tags.length : Int)) = true := decide_eq_true (by omega)
    clear hT hB hd
    go_enter Tryz.func20, Tryz.ntmps20
    go_wp2
    go_ret2
    exact ⟨rfl, Below.refl _ _⟩
  obtain ⟨tb, tbo, rfl, hct⟩ := hT.cells (by omega)
  obtain ⟨bb, bbo, rfl, hcb⟩ := hB.cells (by omega)
  have HOK := Lib.hid hT.ok
  have HCT := Lib.hid hct
  have HCB := Lib.hid hcb
  have h255 : ∀ x ∈ ls, ∀ y ∈ x, y < 256 := by
    intro x hx
    obtain ⟨i, hi⟩ := List.getElem?_of_mem hx
    obtain ⟨_, _, _, hy⟩ := hcb i x hi
    exact hy.lt
  have HB255 := Lib.hid h255
  clear h255
  have HD := Lib.hid hd
  clear hT hB hd hct hcb
  have d1 : ((tags.length : Int) != (ls.length : Int)) = false := by simp; omega
  have HL := Lib.hid f1
  clear f1
  obtain ⟨n, hn⟩ : ∃ n, n = tags.length := ⟨_, rfl⟩
  have HN := Lib.hid hn
  rw [← hn] at f2 f3 d1 la
  have hnl : ls.length = n := by rw [hn, HL.out]
  have HNL := Lib.hid hnl
  rw [hnl] at hsz lb d1
  rw [← hn, hnl]
  clear hn hnl
  have d2 : decide ((n : Int) < 1) = false := decide_eq_false (by omega)
  have d3 : decide ((64 : Int) < (n : Int)) = false := decide_eq_false (by omega)
  go_enter Tryz.func20, Tryz.ntmps20
  go_wp2_with fail
  go_loopw [7] (fun i wr => ∃ k : Nat, 1 ≤ k ∧ k ≤ n ∧ i = .int .i64 k ∧ Below w.heap.size w wr ∧ ∀ j, j < k → j = 0 ∨ tagLt (tags.getD (j - 1) noTag) (tags.getD j noTag) = true) (fun i _ => n - (intOf i).toNat)
  case atStart => exact ⟨1, by omega, by omega, rfl, Below.refl _ _, fun j hj => by omega⟩
  case round =>
    obtain ⟨k, hk1, hk, rfl, hbel, hsort⟩ := hrel
    have HB := Lib.hid hbel
    have HS := Lib.hid hsort
    clear hbel hsort
    by_cases hlt : k < n
    · obtain ⟨pk, hpk⟩ : ∃ pk, k = pk + 1 := ⟨k - 1, by omega⟩
      have wr1 : IntKind.i64.wrap ((k : Int) - 1) = (pk : Int) := by rw [IntWalk.i64_in _ (by omega)]; omega
      have b0 : (0 : Int) ≤ (k : Int) := by omega
      have b1 : (k : Int) < (n : Int) := by omega
      have b2 : (0 : Int) ≤ (pk : Int) := by omega
      have b3 : (pk : Int) < (n : Int) := by omega
      have ht1 := getD_at tags pk noTag (by rw [← HN.out]; omega)
      have ht2 := getD_at tags k noTag (by rw [← HN.out]; omega)
      have hkk : k - 1 = pk := by omega
      have HK := Lib.hid hkk
      have o1 := HOK.out _ (List.mem_of_getElem? ht1)
      have o2 := HOK.out _ (List.mem_of_getElem? ht2)
      have y1 := byt_tag (HCT.out pk _ ht1) o1
      have y2 := byt_tag (HCT.out k _ ht2) o2
      have hcmp : ∀ W, Below w.heap.size w W → Calls Tryz.prog 33 #[.slice (some ⟨tb, tbo + pk * 4, none⟩) 4 4, .slice (some ⟨tb, tbo + k * 4, none⟩) 4 4] W fun e w' => e = .returned (.int .i64 (cmpF (tags.getD pk noTag).bytes (tags.getD k noTag).bytes)) ∧ W = w' :=
        fun W hW => compare_any _ _ 4 4 _ _ W (y1.below hW) (y2.below hW)
      have hdec := cmp_tag _ _ o1 o2
      have HCMP := Lib.hid hcmp
      clear hcmp y1 y2 ht1 ht2 hpk hkk o1 o2
      generalize cmpF (tags.getD pk noTag).bytes (tags.getD k noTag).bytes = cc at *
      go_wp2_with fail
      cases hlt2 : tagLt (tags.getD pk noTag) (tags.getD k noTag) with
      | false =>
        rw [hlt2] at hdec
        have HT2 := Lib.hid hlt2
        clear hlt2
        simp only [Bool.not_false] at hdec
        refine wp_region_grown (by kernel_rfl) (by kernel_rfl) ?_
        repeat (go_big_quiet_step (first | (go_at_call 33; exact calls_grown_same (HCMP.out _ (Grown.outer _ HB.out)))))
        refine wpQuiet_nil ?_
        rintro _ ⟨eg, rfl⟩
        go_wp2
        go_ret2
        show JoinPost _ w _ _ _
        rw [joinF_bad (fun h => by
          have := h.2.2.2 k (by rw [← HN.out]; omega)
          rcases this with h0 | h0
          · omega
          · rw [HK.out, HT2.out] at h0; cases h0)]
        exact ⟨rfl, eg.outer HB.out⟩
      | true =>
        rw [hlt2] at hdec
        have HT2 := Lib.hid hlt2
        clear hlt2
        simp only [Bool.not_true] at hdec
        refine wp_region_grown (by kernel_rfl) (by kernel_rfl) ?_
        repeat (go_big_quiet_step (first | (go_at_call 33; exact calls_grown_same (HCMP.out _ (Grown.outer _ HB.out)))))
        refine wpQuiet_nil ?_
        rintro _ ⟨eg, rfl⟩
        go_wp2
        go_roundw
        case rel =>
          refine ⟨k + 1, by omega, by omega, by go_num, eg.outer HB.out, fun j hj => ?_⟩
          rcases Nat.lt_or_ge j k with h | h
          · exact HS.out j h
          · have : j = k := by omega
            subst this
            rw [HK.out]
            exact .inr HT2.out
        case measure => simp [intOf]; omega
    · have hkn : k = n := by omega
      have HKN := Lib.hid hkn
      clear hkn
      have hjo : joinOk tags ls := ⟨HL.out, by rw [← HN.out]; exact f2, by rw [← HN.out]; exact f3, fun i hi => HS.out i (by rw [HKN.out, HN.out]; exact hi)⟩
      have HJO := Lib.hid hjo
      clear hjo
      go_wp2_with fail
      go_loopw [8, 53] (fun v i wr => ∃ k : Nat, k ≤ n ∧ i = .int .i64 k ∧ v = .int .i64 ((12 + 16 * n + upTo ls k : Nat) : Int) ∧ Below w.heap.size w wr) (fun _ i _ => n - (intOf i).toNat)
      case atStart => exact ⟨0, by omega, rfl, by simp [upTo], HB.out⟩
      case round =>
        obtain ⟨k2, hk2, rfl, rfl, hbel2⟩ := hrel
        have HB2 := Lib.hid hbel2
        clear hbel2
        by_cases hlt2 : k2 < n
        · obtain ⟨A', c', hcell, hy⟩ := HCB.out k2 _ (getD_at ls k2 [] (by rw [HNL.out]; exact hlt2))
          have hcell2 := (kept_of_below HB2.out).cell hcell
          have hmono := upTo_mono ls (k2 + 1) n (by omega)
          have hup := up_ge (ls.getD k2 []).length
          have hsucc : upTo ls (k2 + 1) = upTo ls k2 + up (ls.getD k2 []).length := rfl
          have HSU := Lib.hid hsucc
          rw [hsucc] at hmono
          have han := andNot3 (ls.getD k2 []).length (by omega)
          clear hcell hy hsucc
          generalize (ls.getD k2 []).length = m at *
          generalize upTo ls k2 = s2 at *
          generalize up m = um at *
          have b0 : (0 : Int) ≤ (k2 : Int) := by omega
          have b1 : (k2 : Int) < (n : Int) := by omega
          have e1 : decide ((16777216 : Int) < (m : Int)) = false := decide_eq_false (by omega)
          have wr1 : IntKind.i64.wrap ((m : Int) + 3) = (m : Int) + 3 := IntWalk.i64_in _ (by omega)
          have wr2 : IntKind.i64.wrap (((12 + 16 * n + s2 : Nat) : Int) + (um : Int)) = ((12 + 16 * n + (s2 + um) : Nat) : Int) := by rw [IntWalk.i64_in _ (by omega)]; omega
          have e2 : decide ((16777216 : Int) < ((12 + 16 * n + (s2 + um) : Nat) : Int)) = false := decide_eq_false (by omega)
          generalize hz1 : ((12 + 16 * n + s2 : Nat) : Int) = z1 at *
          generalize hz2 : ((12 + 16 * n + (s2 + um) : Nat) : Int) = z2 at *
          have HZ2 := Lib.hid hz2
          clear hz1 hz2
          go_wp2_with fail
          go_roundw
          case rel => exact ⟨k2 + 1, by omega, by go_num, by rw [HSU.out, ← HZ2.out], HB2.out⟩
          case measure => simp [intOf]; omega
        · go_wp2_with fail
          have hk2n : k2 = n := by omega
          refine (head_ok n _ f2 f3).mono ?_
          rintro e w2 ⟨A2, c2, rfl, g1, g2⟩
          have G1 := Lib.hid (own_lower g1 HB2.out.size)
          have G2 := Lib.hid (HB2.out.trans (g2.mono HB2.out.size))
          clear g1 g2 hk2n
          generalize upTo ls k2 = junk
          go_wp2_with fail
          go_loopw [11, 12, 13, 76] (fun v at_ pl i wr => ∃ (k : Nat) (A' : Option Addr) (c' : Nat), k ≤ n ∧ i = .int .i64 k ∧ v = .slice A' (headB n ++ recsB tags ls (12 + 16 * n) k).length c' ∧
            at_ = .int .i64 ((12 + 16 * n + upTo ls k : Nat) : Int) ∧ pl = .int .i64 (placeV (placeOf tags ls (12 + 16 * n) k)) ∧
            wr.ownsRow w.heap.size 5 1 (.slice A' (headB n ++ recsB tags ls (12 + 16 * n) k).length c') (headB n ++ recsB tags ls (12 + 16 * n) k).length (u8s (headB n ++ recsB tags ls (12 + 16 * n) k)) ∧ Below w.heap.size w wr) (fun _ _ _ i _ => n - (intOf i).toNat)
          case atStart => exact ⟨0, A2, c2, by omega, rfl, by simp [recsB], by simp [upTo], by simp [placeOf, placeV], by simp [recsB]; exact G1.out, G2.out⟩
          case round =>
            obtain ⟨k3, A3, c3, hk3, rfl, rfl, rfl, rfl, hown3, hbel3⟩ := hrel
            have HO3 := Lib.hid hown3
            have HB3 := Lib.hid hbel3
            clear hown3 hbel3
            by_cases hlt3 : k3 < n
            · have hgt := getD_at tags k3 noTag (by rw [← HN.out]; omega)
              have hgl := getD_at ls k3 [] (by rw [HNL.out]; exact hlt3)
              obtain ⟨A', c', hcell, hy⟩ := HCB.out k3 _ hgl
              have hcell3 := (kept_of_below HB3.out).cell hcell
              have hmono := upTo_mono ls (k3 + 1) n (by omega)
              have hup := up_ge (ls.getD k3 []).length
              have HSU : Hid (upTo ls (k3 + 1) = upTo ls k3 + up (ls.getD k3 []).length) := rfl
              have HPL : Hid (placeOf tags ls (12 + 16 * n) (k3 + 1) = if tags.getD k3 noTag = hdT ∧ 12 ≤ (ls.getD k3 []).length then some (12 + 16 * n + upTo ls k3 + 8) else placeOf tags ls (12 + 16 * n) k3) := rfl
              have HRE : Hid (recsB tags ls (12 + 16 * n) (k3 + 1) = recsB tags ls (12 + 16 * n) k3 ++ recB (tags.getD k3 noTag) (ls.getD k3 []) (12 + 16 * n + upTo ls k3)) := rfl
              rw [show upTo ls (k3 + 1) = upTo ls k3 + up (ls.getD k3 []).length from rfl] at hmono
              have han := andNot3 (ls.getD k3 []).length (by omega)
              have hok := HOK.out _ (List.mem_of_getElem? hgt)
              have hty := byt_tag (HCT.out k3 _ hgt) hok
              obtain ⟨t0, t1, t2, t3⟩ := HCT.out k3 _ hgt
              generalize tags.getD k3 noTag = t at *
              generalize ls.getD k3 [] = body at *
              have HT0 := Lib.hid t0
              have HT1 := Lib.hid t1
              have HT2 := Lib.hid t2
              have HT3 := Lib.hid t3
              have HTY := Lib.hid hty
              have HBY := Lib.hid hy
              have ht0 := (kept_of_below HB3.out).cell t0
              have ht1 := (kept_of_below HB3.out).cell t1
              have ht2 := (kept_of_below HB3.out).cell t2
              have ht3 := (kept_of_below HB3.out).cell t3
              have hd0 := (kept_of_below HB3.out).cell HD.out.c0
              have hd1 := (kept_of_below HB3.out).cell HD.out.c1
              have hd2 := (kept_of_below HB3.out).cell HD.out.c2
              have hd3 := (kept_of_below HB3.out).cell HD.out.c3
              clear hy hty hcell hgt hgl t0 t1 t2 t3 hok
              have b0 : (0 : Int) ≤ (k3 : Int) := by omega
              have b1 : (k3 : Int) < (n : Int) := by omega
              have wr1 : IntKind.i64.wrap ((body.length : Int) + 3) = (body.length : Int) + 3 := IntWalk.i64_in _ (by omega)
              have wr2 : IntKind.i64.wrap (((12 + 16 * n + upTo ls k3 : Nat) : Int) + (up body.length : Int)) = ((12 + 16 * n + (upTo ls k3 + up body.length) : Nat) : Int) := by rw [IntWalk.i64_in _ (by omega)]; omega
              have wr3 : IntKind.i64.wrap (((12 + 16 * n + upTo ls k3 : Nat) : Int) + 8) = ((12 + 16 * n + upTo ls k3 + 8 : Nat) : Int) := by rw [IntWalk.i64_in _ (by omega)]; omega
              obtain ⟨at0, hat0⟩ : ∃ at0 : Nat, at0 = 12 + 16 * n + upTo ls k3 := ⟨_, rfl⟩
              obtain ⟨at1, hat1⟩ : ∃ at1 : Nat, at1 = 12 + 16 * n + (upTo ls k3 + up body.length) := ⟨_, rfl⟩
              have hatb : at0 ≤ 16777216 := by omega
              rw [← hat0, ← hat1] at wr2
              rw [← hat0] at wr3
              rw [← hat0]
              rw [← hat0] at HPL HRE
              have HA0 := Lib.hid hat0
              have HA1 := Lib.hid hat1
              generalize hL : headB n ++ recsB tags ls (12 + 16 * n) k3 = L at *
              have HLL := Lib.hid hL
              have hlen : L.length = 12 + 16 * k3 := by rw [← hL, List.length_append, headB_length, recsB_length]
              have hlen1 : L.length ≤ 2000 := by omega
              have HLEN := Lib.hid hlen
              generalize hml : body.length = m at *
              have HML := Lib.hid hml
              have hm16 : m ≤ 16000000 := by omega
              clear hat0 hat1 hL hml hmono hup hlen
              generalize hum : up m = um at *
              have HUM := Lib.hid hum
              clear hum
              generalize hpl : placeOf tags ls (12 + 16 * n) k3 = pl at *
              have HPP := Lib.hid hpl
              clear hpl
              go_upto_region 24 with (fail)
              have hq := run_equal_hd t
              have hg := tagGuard
              go_cut [91] from 77 to 120 (fun p wx => p = .bool (decide (t = hdT ∧ 12 ≤ m)) ∧ Below wr.heap.size wr wx)
              case first =>
                by_cases e1 : t = hdT
                · rw [decide_eq_true e1] at hq
                  by_cases e2 : 12 ≤ m
                  · have d4 : decide ((12 : Int) ≤ (m : Int)) = true := decide_eq_true (by omega)
                    have HE := Lib.hid e1
                    clear e1
                    go_quiet (fail)
                    go_wp2_with fail
                    go_meet
                    case rel => exact ⟨by rw [decide_eq_true ⟨HE.out, e2⟩], below_drewN' (Below.refl _ _) _⟩
                  · have d4 : decide ((12 : Int) ≤ (m : Int)) = false := decide_eq_false (by omega)
                    have HE := Lib.hid e1
                    clear e1
                    go_quiet (fail)
                    go_wp2_with fail
                    go_meet
                    case rel => exact ⟨by rw [decide_eq_false (fun h => e2 h.2)], below_drewN' (Below.refl _ _) _⟩
                · rw [decide_eq_false e1] at hq
                  have HE := Lib.hid e1
                  clear e1
                  go_quiet (fail)
                  go_wp2_with fail
                  go_meet
                  case rel => exact ⟨by rw [decide_eq_false (fun h => HE.out h.1)], below_drewN' (Below.refl _ _) _⟩
              case rest =>
                obtain ⟨rfl, hB4⟩ := hcut
                go_upto_if 91 with (fail)
                go_cut [13] from 77 to 120 (fun v wx => v = .int .i64 (placeV (placeOf tags ls (12 + 16 * n) (k3 + 1))) ∧ wx = wc)
                case first =>
                  cases hc : decide (t = hdT ∧ 12 ≤ m) with
                  | true =>
                    have HC := Lib.hid (of_decide_eq_true hc)
                    clear hc
                    go_wp2_with fail
                    go_meet
                    case rel => exact ⟨by rw [HPL.out, if_pos HC.out]; rfl, rfl⟩
                  | false =>
                    have HC := Lib.hid (of_decide_eq_false hc)
                    clear hc
                    go_wp2_with fail
                    go_meet
                    case rel => exact ⟨by rw [HPL.out, if_neg HC.out], rfl⟩
                case rest =>
                  obtain ⟨rfl, hwe⟩ := hcut
                  subst hwe
                  have hB5 := HB3.out.trans (hB4.mono HB3.out.size)
                  have hO5 := own_below HO3.out hB4
                  have HB5 := Lib.hid hB5
                  have HO5 := Lib.hid hO5
                  clear hq hg hB4 hB5 hO5 ht0 ht1 ht2 ht3 hd0 hd1 hd2 hd3 hcell3
                  go_wp2_with (at_builtin; refine wpl_app rfl (.tmp 94) (.tmp 98) 25 rfl w.heap.size 5 Tryz.underlying25 info_u8 rfl (by decide) (.slice A3 L.length c3) L.length (u8s L) rfl HO5.out (some ⟨tb, tbo + k3 * 4, none⟩) 4 4 (u8s t.bytes) rfl rfl (fun h => by cases h) (HTY.out.news (kept_of_below HB5.out)) (u8s_one _) ?c1 ?c2 ?c3 ?_; rotate_right; intro v' w' hown hg; obtain ⟨A6, c6, rfl⟩ := own_form hown; have hb6 := below_grown HB5.out HO5.out HB5.out.size hg; have k0 := (kept_of_below hb6).cell HT0.out; have k1 := (kept_of_below hb6).cell HT1.out; have k2' := (kept_of_below hb6).cell HT2.out; have k3' := (kept_of_below hb6).cell HT3.out; have HB6 := Lib.hid hb6; have HO6 := Lib.hid hown; clear hb6 hown hg)
                  case c1 => unfold maxLen; omega
                  case c2 => omega
                  case c3 => exact HB5.out.size
                  have hsum := sum_any t A' c' body w' (HBY.out.below HB6.out) (HD.out.kept (kept_of_below HB6.out)) (by rw [HML.out]; omega)
                  rw [HML.out] at hsum
                  have hs4 : tabSum t body < 4294967296 := by
                    unfold tabSum
                    split
                    · exact sumTo_lt _ _
                    · exact sumTo_lt _ _
                  generalize hsm : tabSum t body = sm at *
                  have HSM := Lib.hid hsm
                  clear hsm
                  unfold Tg.val at hsum
                  refine hsum.mono ?_
                  rintro e w7 ⟨rfl, hb7⟩
                  have HB7 := Lib.hid (HB6.out.trans (hb7.mono HB6.out.size))
                  have HO7 := Lib.hid (own_below HO6.out hb7)
                  clear hsum hb7 k0 k1 k2' k3'
                  have wr4 : IntKind.i64.wrap (sm : Int) = (sm : Int) := IntWalk.i64_in _ (by omega)
                  go_wp2_with fail
                  have hI : IntsR .i64 (w7.alloc (Obj.cells #[.int .i64 sm, .int .i64 at0, .int .i64 m] 2)) (some ⟨w7.heap.size, 0, none⟩) 3 [(sm : Int), at0, m] :=
                    intsR_new .i64 w7 [(sm : Int), at0, m] 2 (by simp)
                  refine (put_fits (some ⟨w7.heap.size, 0, none⟩) 3 [(sm : Int), at0, m] ⟨#[73, 73, 73]⟩ _ _ hI (by simp) rfl (III_put sm at0 m (by omega) (by omega) (by omega))).mono ?_
                  rintro e w8 ⟨A8, c8, rfl, hown8, hb8⟩
                  have hb78 := ((Below.refl w7.heap.size w7).alloc (Nat.le_refl _) (Obj.cells #[.int .i64 sm, .int .i64 at0, .int .i64 m] 2)).trans (hb8.mono (by simp))
                  have hn12 : (be (sm : Int) 4 ++ (be (at0 : Int) 4 ++ be (m : Int) 4)).length = 12 := by simp [be_length]
                  obtain ⟨-, A9, c9, he9, hy8⟩ := byt_of_own hown8 (by
                    intro x hx
                    simp only [List.mem_append] at hx
                    rcases hx with hx | hx | hx <;> exact be_lt _ _ _ hx)
                  cases he9
                  have HY8 := Lib.hid hy8
                  have HB8 := Lib.hid (HB7.out.trans (hb78.mono HB7.out.size))
                  have HO8 := Lib.hid (own_below HO7.out hb78)
                  have HR : Hid (recB t body at0 = t.bytes ++ (be (tabSum t body : Nat) 4 ++ (be at0 4 ++ be body.length 4))) := rfl
                  have hr := HR.out
                  rw [HSM.out, HML.out] at hr
                  have HR2 := Lib.hid hr
                  clear hr hown8 hb8 hb78 hI hy8
                  generalize (be (sm : Int) 4 ++ (be (at0 : Int) 4 ++ be (m : Int) 4)) = X at *
                  have HX := Lib.hid hn12
                  have hxl : X.length ≤ 12 := by omega
                  clear hn12
                  go_wp2_with (at_builtin; refine wpl_app rfl (.tmp 100) (.tmp 112) 25 rfl w.heap.size 5 Tryz.underlying25 info_u8 rfl (by decide) (.slice A6 (L.length + 4) c6) (L.length + 4) (u8s L ++ u8s t.bytes) rfl HO8.out A8 X.length c8 (u8s X) rfl (by rw [u8s_length]; omega) HY8.out.len0 (HY8.out.news (Kept.refl _)) (u8s_one _) ?e1 ?e2 ?e3 ?_; rotate_right; intro v' w9 hown hg; obtain ⟨A10, c10, rfl⟩ := own_form hown)
                  case e1 => unfold maxLen; omega
                  case e2 => omega
                  case e3 => exact HB8.out.size
                  have hb9 := below_grown HB8.out HO8.out HB8.out.size hg
                  rw [← u8s_append, ← u8s_append] at hown
                  have HB9 := Lib.hid hb9
                  have hnew : headB n ++ recsB tags ls (12 + 16 * n) (k3 + 1) = L ++ t.bytes ++ X := by
                    rw [HRE.out, ← List.append_assoc, HLL.out, HR2.out, ← List.append_assoc]
                  have hnl : L.length + 4 + X.length = (headB n ++ recsB tags ls (12 + 16 * n) (k3 + 1)).length := by
                    rw [hnew, List.length_append, List.length_append]
                    rfl
                  rw [hnl, ← hnew] at hown
                  rw [hnl]
                  have HO9 := Lib.hid hown
                  clear hown hg hb9 hnew hnl
                  generalize hL2 : headB n ++ recsB tags ls (12 + 16 * n) (k3 + 1) = L2 at *
                  have HL2 := Lib.hid hL2
                  clear hL2
                  generalize hz : ((12 + 16 * n + upTo ls (k3 + 1) : Nat) : Int) = z at *
                  have hat1 : ((at1 : Nat) : Int) = z := by rw [← hz, HA1.out, HSU.out]
                  have HAT := Lib.hid hat1
                  have HZ := Lib.hid hz
                  clear hz hat1
                  go_wp2_with fail
                  go_roundw
                  case rel => exact ⟨k3 + 1, A10, c10, by omega, by go_num, by rw [HL2.out], by rw [HAT.out, HZ.out], rfl, by rw [HL2.out]; exact HO9.out, HB9.out⟩
                  case measure => simp [intOf]; omega
            · have hk3n : k3 = n := by omega
              go_wp2_with fail
              subst hk3n
              have hpv : placeV (placeOf tags ls (12 + 16 * k3) k3) = placeV (placeOf tags ls (12 + 16 * k3) k3) := rfl
              generalize hP : placeOf tags ls (12 + 16 * k3) k3 = P at *
              have HP := Lib.hid hP
              generalize hH : headB k3 ++ recsB tags ls (12 + 16 * k3) k3 = H0 at *
              have HH := Lib.hid hH
              have hh : H0.length = 12 + 16 * k3 := by rw [← hH, List.length_append, headB_length, recsB_length]
              have HHL := Lib.hid hh
              have hh2 : H0.length ≤ 2000 := by omega
              clear hP hH hpv hh
              go_loopw [11, 123] (fun v i wr => ∃ (k : Nat) (A' : Option Addr) (c' : Nat), k ≤ k3 ∧ i = .int .i64 k ∧ v = .slice A' (H0 ++ dataB ls k).length c' ∧
                wr.ownsRow w.heap.size 5 1 (.slice A' (H0 ++ dataB ls k).length c') (H0 ++ dataB ls k).length (u8s (H0 ++ dataB ls k)) ∧ Below w.heap.size w wr) (fun _ i _ => k3 - (intOf i).toNat)
              case atStart => exact ⟨0, A3, c3, by omega, rfl, by simp [dataB], by simp [dataB]; exact HO3.out, HB3.out⟩
              case round =>
                obtain ⟨k4, A4, c4, hk4, rfl, rfl, hown4, hbel4⟩ := hrel
                have HO4 := Lib.hid hown4
                have HB4 := Lib.hid hbel4
                clear hown4 hbel4
                by_cases hlt4 : k4 < k3
                · have hgl := getD_at ls k4 [] (by rw [HNL.out]; exact hlt4)
                  obtain ⟨A', c', hcell, hy⟩ := HCB.out k4 _ hgl
                  have hcell4 := (kept_of_below HB4.out).cell hcell
                  have hmono := upTo_mono ls k4 k3 (by omega)
                  have hmono2 := upTo_mono ls (k4 + 1) k3 (by omega)
                  rw [show upTo ls (k4 + 1) = upTo ls k4 + up (ls.getD k4 []).length from rfl] at hmono2
                  have hup := up_ge (ls.getD k4 []).length
                  have HDE : Hid (dataB ls (k4 + 1) = dataB ls k4 ++ padded (ls.getD k4 [])) := rfl
                  have hdl := dataB_length ls k4
                  have hum4 := upTo_mod ls k4
                  generalize ls.getD k4 [] = body at *
                  have HBY := Lib.hid hy
                  clear hcell hgl hy
                  have b0 : (0 : Int) ≤ (k4 : Int) := by omega
                  have b1 : (k4 : Int) < (k3 : Int) := by omega
                  generalize hL : H0 ++ dataB ls k4 = L at *
                  have hlen : L.length = 12 + 16 * k3 + upTo ls k4 := by rw [← hL, List.length_append, HHL.out, hdl]
                  have hlen1 : L.length ≤ 16002000 := by omega
                  have hl4 : L.length % 4 = 0 := by omega
                  have HL := Lib.hid hL
                  have HLEN := Lib.hid hl4
                  generalize hml : body.length = m at *
                  have HML := Lib.hid hml
                  have hm16 : m ≤ 16000000 := by omega
                  clear hL hlen hml hmono hmono2 hup hl4 hdl hum4
                  go_wp2_with (at_builtin; refine wpl_app rfl (.tmp 127) (.tmp 128) 25 rfl w.heap.size 5 Tryz.underlying25 info_u8 rfl (by decide) (.slice A4 L.length c4) L.length (u8s L) rfl HO4.out A' m c' (u8s body) rfl (by rw [u8s_length, HML.out]; omega) (by have := HBY.out.len0; rwa [HML.out] at this) (HBY.out.news (kept_of_below HB4.out)) (u8s_one _) ?h1 ?h2 ?h3 ?_; rotate_right; intro v' w' hown hg; obtain ⟨A6, c6, rfl⟩ := own_form hown; have hb6 := below_grown HB4.out HO4.out HB4.out.size hg; have HB6 := Lib.hid hb6; have HO6 := Lib.hid hown; clear hb6 hown hg)
                  case h1 => unfold maxLen; omega
                  case h2 => omega
                  case h3 => exact HB4.out.size
                  go_loopw [11] (fun v wr => ∃ (j : Nat) (A' : Option Addr) (c' : Nat), j ≤ up m - m ∧ v = .slice A' (L.length + m + j) c' ∧
                    wr.ownsRow w.heap.size 5 1 (.slice A' (L.length + m + j) c') (L.length + m + j) (u8s L ++ u8s body ++ u8s (List.replicate j 0)) ∧ Below w.heap.size w wr) (fun v _ => 40000000 - rowLen v)
                  case atStart => exact ⟨0, A6, c6, by omega, rfl, by simp [u8s]; simpa [u8s] using HO6.out, HB6.out⟩
                  case round =>
                    obtain ⟨j, A7, c7, hj, rfl, hown7, hbel7⟩ := hrel
                    have HO7 := Lib.hid hown7
                    have HB7 := Lib.hid hbel7
                    clear hown7 hbel7
                    have HUP := Lib.hid (up_ge m)
                    by_cases hj4 : (L.length + m + j) % 4 = 0
                    · have e1 : ((L.length + m + j : Nat) : Int).tmod 4 = 0 := by rw [Int.tmod_eq_emod_of_nonneg (by omega)]; omega
                      have hju : j = up m - m := by have := HUP.out; have := HLEN.out; omega
                      have hpad : u8s (H0 ++ dataB ls (k4 + 1)) = u8s L ++ u8s body ++ u8s (List.replicate j 0) := by
                        rw [HDE.out, ← List.append_assoc, HL.out]
                        simp only [padded, u8s_append, HML.out, hju, List.append_assoc]
                      have hpl : (H0 ++ dataB ls (k4 + 1)).length = L.length + m + j := by
                        rw [HDE.out, ← List.append_assoc, HL.out]
                        simp [padded, HML.out, hju]
                        omega
                      have HPAD := Lib.hid hpad
                      have HPLN := Lib.hid hpl
                      clear hju hpad hpl
                      generalize ((L.length + m + j : Nat) : Int) = z at *
                      go_wp2_with fail
                      go_roundw
                      case rel =>
                        (repeat apply Exists.intro)
                        exact ⟨⟨k4 + 1, A7, c7, by omega, by go_num, by rw [HPLN.out], by rw [HPLN.out, HPAD.out]; exact HO7.out, HB7.out⟩, rfl⟩
                      case measure => simp [intOf]; omega
                    · obtain ⟨q, hq, hq1, hq2⟩ : ∃ q : Nat, ((L.length + m + j : Nat) : Int).tmod 4 = (q : Int) ∧ 0 < q ∧ q < 4 := ⟨(L.length + m + j) % 4, by rw [Int.tmod_eq_emod_of_nonneg (by omega)]; omega, by omega, by omega⟩
                      have d1 : ((q : Int) != 0) = true := by simp; omega
                      have wr1 : IntKind.i64.wrap (q : Int) = (q : Int) := IntWalk.i64_in _ (by omega)
                      have hju : j + 1 ≤ up m - m := by have := HUP.out; have := HLEN.out; omega
                      have hjm : up m - m ≤ 3 := by have := HUP.out; omega
                      have hrep : u8s (List.replicate (j + 1) 0) = u8s (List.replicate j 0) ++ u8s [0] := by rw [← u8s_append]; congr 1; exact List.replicate_succ'
                      have HREP := Lib.hid hrep
                      clear hrep
                      generalize hz : ((L.length + m + j : Nat) : Int) = z at *
                      have HZ := Lib.hid hz
                      clear hz
                      go_wp2_with (at_builtin; refine wpl_app rfl (.tmp 134) (.tmp 135) 25 rfl w.heap.size 5 Tryz.underlying25 info_u8 rfl (by decide) (.slice A7 (L.length + m + j) c7) (L.length + m + j) (u8s L ++ u8s body ++ u8s (List.replicate j 0)) rfl (HO7.out.alloc _) (some ⟨wr.heap.size, 0, none⟩) 1 1 (u8s [0]) rfl rfl (fun h => by cases h) ?i0 (u8s_one _) ?i1 ?i2 ?i3 ?_; rotate_right; intro v' w8 hown hg; obtain ⟨A8, c8, rfl⟩ := own_form hown)
                      case i0 =>
                        intro ad had k u hu
                        cases had
                        obtain ⟨hk, rfl⟩ := u8s_at hu
                        have hk0 : k = 0 := by simpa using hk
                        subst hk0
                        rw [add_lit]
                        refine (cell_of_row _ wr.heap.size (0 + 0) _ _ (0, 0) (heap_alloc_new wr _)).trans ?_
                        rfl
                      case i1 => unfold maxLen; omega
                      case i2 => omega
                      case i3 => simp; exact Nat.le_succ_of_le HB7.out.size
                      have hb8 := below_grown (HB7.out.alloc HB7.out.size _) (HO7.out.alloc _) (by simp; exact Nat.le_succ_of_le HB7.out.size) hg
                      have HB8 := Lib.hid hb8
                      have HO8 := Lib.hid hown
                      clear hb8 hown hg
                      go_wp2_with fail
                      go_roundw
                      case rel => exact ⟨j + 1, A8, c8, hju, rfl, by rw [HREP.out, ← List.append_assoc]; exact HO8.out, HB8.out⟩
                      case measure => simp [rowLen]; omega
                · have hk4n : k4 = k3 := by omega
                  subst hk4n
                  have hraw : rawB tags ls = H0 ++ dataB ls k4 := by rw [rawB, ← HN.out, HH.out]
                  have hfile : fileB tags ls = fileOf (H0 ++ dataB ls k4) P := by rw [fileB, ← HN.out, HP.out, hraw]
                  have hdl := dataB_length ls k4
                  have hlen : (H0 ++ dataB ls k4).length = 12 + 16 * k4 + upTo ls k4 := by rw [List.length_append, HHL.out, hdl]
                  have h255 : ∀ x ∈ H0 ++ dataB ls k4, x < 256 := by
                    rw [← hraw]
                    exact rawB_lt tags ls HOK.out HB255.out
                  have HFI := Lib.hid hfile
                  have HLT := Lib.hid h255
                  have hplace := fun p (h : P = some p) => placeOf_le (HP.out.trans h)
                  have HPLE := Lib.hid hplace
                  clear hraw hfile hdl h255 hplace
                  generalize H0 ++ dataB ls k4 = L at *
                  have hl16 : L.length ≤ 16002000 := by omega
                  cases P with
                  | none =>
                    have hpv : placeV none = -1 := rfl
                    clear hlen
                    go_wp2_with fail
                    go_ret2
                    show JoinPost _ w _ _ _
                    rw [joinF_ok HJO.out, HFI.out]
                    exact ⟨A4, c4, rfl, HO4.out, HB4.out⟩
                  | some p =>
                    have hpv : placeV (some p) = (p : Int) := rfl
                    have hpl := HPLE.out p rfl
                    have hp4 : p + 4 ≤ L.length := by omega
                    obtain ⟨g, rfl, q1, q2, q3, q4⟩ := own_pos HO4.out (by omega)
                    have hown := HO4.out
                    have hcl := fun ty => Lib.run_clear_slice (P := Tryz.prog) wr 25 5 ty (.int .u8 0) Tryz.underlying25 Tryz.zeroValue5 rfl rfl g p 4 (c4 - p) (by omega) (fun j hj => by rw [hown.cellAt (p + j) (by omega)]; simp [u8s]; omega) (fun j hj => hown.frozenAt (p + j))
                    have HS1 := Lib.hid (own_setCells [Value.int IntKind.u8 0, Value.int IntKind.u8 0, Value.int IntKind.u8 0, Value.int IntKind.u8 0] p wr _ hown (by simp; omega))
                    have HBS := Lib.hid (below_setCells [Value.int IntKind.u8 0, Value.int IntKind.u8 0, Value.int IntKind.u8 0, Value.int IntKind.u8 0] p wr HB4.out q3)
                    have hl4 : (Lib.hid (whole0_cells L p)).out = (Lib.hid (whole0_cells L p)).out := rfl
                    clear hown hl4 hlen hpl
                    have d0 : decide ((0 : Int) ≤ (p : Int)) = true := decide_eq_true (by omega)
                    have wr1 : IntKind.i64.wrap ((p : Int) + 4) = (p : Int) + 4 := IntWalk.i64_in _ (by omega)
                    have b0 : (0 : Int) ≤ (p : Int) := by omega
                    have b1 : (p : Int) ≤ (p : Int) + 4 := by omega
                    have b2 : (p : Int) + 4 ≤ (c4 : Int) := by omega
                    have b3 : (p : Int) ≤ (L.length : Int) := by omega
                    have t1 : ((p : Int) + 4).toNat = p + 4 := by omega
                    have t2 : p + 4 - p = 4 := by omega
                    have n1 : ¬ c4 = p := by omega
                    go_upto_region 39 with (fail)
                    have hs1 := HS1.out
                    rw [show [Value.int IntKind.u8 0, Value.int IntKind.u8 0, Value.int IntKind.u8 0, Value.int IntKind.u8 0].length = 4 from rfl, whole0_cells] at hs1
                    have hw0 := whole0_length L p hp4
                    have h256 : ∀ x ∈ whole0 L p, x < 256 := by
                      intro x hx
                      simp only [whole0, List.mem_append, List.mem_cons, List.not_mem_nil, or_false] at hx
                      rcases hx with (hx | hx) | hx
                      · exact HLT.out x (List.mem_of_mem_take hx)
                      · omega
                      · exact HLT.out x (List.mem_of_mem_drop hx)
                    obtain ⟨-, A9, c9, he9, hy1⟩ := byt_of_own hs1 h256
                    rw [hw0] at he9
                    cases he9
                    have hsum : ∀ W, Kept (wr.setCells g p [Value.int IntKind.u8 0, Value.int IntKind.u8 0, Value.int IntKind.u8 0, Value.int IntKind.u8 0]) W → Calls Tryz.prog 37 #[.slice (some ⟨g, 0, none⟩) L.length c4] W fun e w' => e = .returned (.int .u32 (sumF (whole0 L p) : Nat)) ∧ W = w' := by
                      intro W hW
                      have := sum_bin _ _ _ W (hy1.kept hW)
                      rwa [hw0] at this
                    have hx4 : wholeS L p = (2981146554 + 4294967296 - sumF (whole0 L p)) % 4294967296 := rfl
                    have hslt : sumF (whole0 L p) < 4294967296 := sumTo_lt _ _
                    have hxlt : wholeS L p < 4294967296 := by rw [hx4]; omega
                    have hwx : IntKind.u32.wrap (2981146554 - (sumF (whole0 L p) : Int)) = ((wholeS L p : Nat) : Int) := by
                      have hu : ∀ z : Int, IntKind.u32.wrap z = z % 4294967296 := fun z => rfl
                      rw [hu, hx4]
                      omega
                    have hput : putAll (planOf ⟨#[73]⟩ [((wholeS L p : Nat) : Int)]) = some (be (wholeS L p : Nat) 4) := by
                      have e : planOf ⟨#[73]⟩ [((wholeS L p : Nat) : Int)] = [(73, ((wholeS L p : Nat) : Int))] := rfl
                      rw [e]
                      simp only [putAll, putOne_I _ (show (0 : Int) ≤ ((wholeS L p : Nat) : Int) by omega) (show ((wholeS L p : Nat) : Int) ≤ 4294967295 by omega), Option.bind_some, Option.map_some, List.append_nil]
                    have HW4 : Hid (whole4 L p = L.take p ++ be (wholeS L p) 4 ++ L.drop (p + 4)) := rfl
                    have HS2 := Lib.hid hs1
                    have HSUM := Lib.hid hsum
                    have HPUT := Lib.hid hput
                    have HTK := Lib.hid (whole0_take L p hp4)
                    have HDR := Lib.hid (whole0_drop L p hp4)
                    have HW0 := Lib.hid hw0
                    clear hs1 hw0 h256 hy1 hsum hx4 hput
                    generalize sumF (whole0 L p) = sm at *
                    generalize wholeS L p = xs at *
                    generalize whole0 L p = Z at *
                    have wr2 : IntKind.i64.wrap (xs : Int) = (xs : Int) := IntWalk.i64_in _ (by omega)
                    generalize hw1 : wr.setCells g p [Value.int IntKind.u8 0, Value.int IntKind.u8 0, Value.int IntKind.u8 0, Value.int IntKind.u8 0] = w1 at *
                    clear hw1
                    have hI : ∀ W, IntsR .i64 (World.alloc W (Obj.cells #[.int .i64 xs] 2)) (some ⟨W.heap.size, 0, none⟩) 1 [(xs : Int)] := fun W => intsR_new .i64 W [(xs : Int)] 2 (by simp)
                    have HI := Lib.hid hI
                    clear hI
                    have n2 : Nat.min 4 (L.length - p) = 4 := Nat.min_eq_left (by omega)
                    have HN2 := Lib.hid n2
                    clear n2
                    have hpc : Calls Tryz.prog 35 #[.string ⟨#[73]⟩, .slice (some ⟨w1.heap.size, 0, none⟩) 1 1] ((w1.alloc (Obj.cells #[.int .i64 xs] 2)).drew) fun e w5 => ∃ g5 c5, e = .returned (.slice (some ⟨g5, 0, none⟩) 4 c5) ∧
                        (∀ ty, (Builtin.copy_ #[25, 25] ty #[.slice (some ⟨g, p, none⟩) (L.length - p) (c4 - p), .slice (some ⟨g5, 0, none⟩) 4 c5]).run Tryz.prog w5 = .ok (goInt 4) (w5.setCells g p (u8s (be xs 4)))) ∧
                        (w5.setCells g p (u8s (be xs 4))).ownsRow w.heap.size 5 1 (.slice (some ⟨g, 0, none⟩) L.length c4) L.length (u8s (L.take p ++ be xs 4 ++ L.drop (p + 4))) ∧ Below w.heap.size w (w5.setCells g p (u8s (be xs 4))) := by
                      refine (put_fits _ 1 [(xs : Int)] ⟨#[73]⟩ _ (be xs 4) (HI.out w1).drew (by simp) rfl HPUT.out).mono ?_
                      rintro e w5 ⟨A5, c5, rfl, g1, g2⟩
                      obtain ⟨g5, rfl, r1, r2, r3, r4⟩ := own_pos g1 (by rw [be_length]; omega)
                      have hb5 := (((Below.refl w1.heap.size w1).alloc (Nat.le_refl _) (Obj.cells #[.int .i64 xs] 2)).drew).trans (g2.mono (by simp))
                      have ho5 := own_below HS2.out hb5
                      obtain ⟨-, A9, c9, he9, hy5⟩ := byt_of_own g1 (be_lt _ _)
                      cases he9
                      have hl : (u8s (be (xs : Int) 4)).length = 4 := by rw [u8s_length, be_length]
                      refine ⟨g5, c5, by rw [be_length], fun ty => ?_, ?_, below_setCells (u8s (be xs 4)) p w5 (HBS.out.trans (hb5.mono HBS.out.size)) q3⟩
                      · have := run_copy_cells (P := Tryz.prog) w5 25 25 ty 5 g p (L.length - p) (c4 - p) ⟨g5, 0, none⟩ 4 c5 (u8s (be xs 4)) Tryz.underlying25 (by kernel_rfl) (by rw [hl]; exact HN2.out.symm) (hy5.news (Kept.refl _) _ rfl)
                          (fun j hj => by rw [hl] at hj; rw [ho5.cellAt (p + j) (by omega)]; simp [u8s, HW0.out]; omega) (fun j hj => ho5.frozenAt (p + j)) (u8s_one _)
                        rw [hl] at this
                        exact this
                      · have := own_setCells (u8s (be xs 4)) p w5 _ ho5 (by rw [hl]; omega)
                        rw [hl] at this
                        rw [u8s_append, u8s_append, ← HTK.out, ← HDR.out]
                        simp only [u8s, List.map_take, List.map_drop] at this ⊢
                        exact this
                    have HPC := Lib.hid hpc
                    clear hpc
                    go_region_with (first | (go_at_call 37; (with_reducible refine (HSUM.out _ ?_).mono ?_); exact (fun _ _ _ => rfl); rintro e w3 ⟨rfl, rfl⟩) | (go_at_call 35; refine HPC.out.mono ?_; rintro e w5 ⟨g5, c5, rfl, hcp, ho5, hb5⟩; have HO5 := Lib.hid ho5; have HB5 := Lib.hid hb5; clear ho5 hb5))
                    all_goals
                      go_wp2_with fail
                      go_ret2
                      show JoinPost _ w _ _ _
                      rw [joinF_ok HJO.out, HFI.out]
                      show JoinPost _ w (some (whole4 L p)) _ _
                      have hlw : (whole4 L p).length = L.length := by rw [HW4.out]; simp [be_length]; omega
                      refine ⟨some ⟨g, 0, none⟩, c4, ?_, ?_, HB5.out⟩
                      · first | (rw [hlw]; done) | (rw [hlw]; rfl)
                      · rw [hlw, HW4.out]
                        exact HO5.out
end Go.Proofs.YtfbppbelcbbhlaaGreatDoor.Sf
