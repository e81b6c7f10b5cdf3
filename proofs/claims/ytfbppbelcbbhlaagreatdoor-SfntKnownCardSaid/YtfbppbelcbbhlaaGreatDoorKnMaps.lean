/- sfnt.Maps: what a cmap tells, or a refusal. -/
import Derived.Test.YtfbppbelcbbhlaaGreatDoorKnMapsI
namespace Go.Proofs.YtfbppbelcbbhlaaGreatDoor.Sf
open Go Go.RowKit
attribute [local go_sem] Oper.semAt_some

def MapsPost (w : World) (r : Option (List (Nat × Nat))) (e : Ending) (w' : World) : Prop :=
  match r with
  | none => e = .returned (.tuple #[.slice none 0 0, .int .i64 50]) ∧ Below w.heap.size w w'
  | some L => ∃ A c, e = .returned (.tuple #[.slice A L.length c, .int .i64 0]) ∧ w'.ownsRow w.heap.size 93 2 (.slice A L.length c) L.length (mpCells L) ∧ Below w.heap.size w w'

theorem mp_skip {w0 W : World} {lb : Nat} {pre : List (Nat × Nat)} {x : Nat × Nat} {g : Int} (h : mpI w0 lb pre W) (hx : mpKeep x = false) : mpI w0 lb (pre ++ [x]) W ∧ ¬ mpBad g x := by
  refine ⟨?_, fun hb => by rw [hb.1] at hx; cases hx⟩
  unfold mpI at h ⊢
  rw [mpKept_append, show mpKept [x] = [] from by simp [mpKept, hx], List.append_nil]
  exact h
theorem mp_keep {pre : List (Nat × Nat)} {x : Nat × Nat} (hx : mpKeep x = true) : mpKept (pre ++ [x]) = mpKept pre ++ [x] := by
  rw [mpKept_append, show mpKept [x] = [x] from by simp [mpKept, hx]]
theorem maps_out {w W : World} {tmps : Array Value} {l : List Nat} {g : Int} {lb eb : Nat} {v : Value} (h4 : tmps[4]? = some (.pointer (some ⟨lb, 0, none⟩))) (h5 : tmps[5]? = some (.pointer (some ⟨eb, 0, none⟩)))
    (hl : W.heap[lb]? = some (.cells #[v] 88 (0, 0))) (he : W.heap[eb]? = some (.cells #[.int .i64 0] 28 (0, 0))) (hne : lb ≠ eb) (hbel : Below w.heap.size w W) (hlb : w.heap.size ≤ lb) (heb : w.heap.size ≤ eb) (hno : mapsF l g = none) :
    Leaves Tryz.prog Tryz.f58 tmps (fun e w' => MapsPost w (mapsF l g) e w') (doorM lb eb) (.panicking [{ v := brokenV, recovered := false }]) W :=
  doorM_bad h4 h5 hl he hne (fun W' g1 g2 g3 g4 g5 => by
    show MapsPost w _ _ _
    rw [hno]
    exact ⟨rfl, below_door hbel hlb heb g1 g2 g3 g4 g5⟩)

set_option maxRecDepth 100000 in
set_option maxHeartbeats 2000000 in
theorem maps_any (a s : Nat) (l : List Nat) (g : Int) (w : World) (h : Rdr w a s l) (hmax : l.length ≤ 140737488355328) :
    Calls Tryz.prog 58 #[.pointer (some ⟨a, 0, none⟩), .int .i64 g] w fun e w' => MapsPost w (mapsF l g) e w' := by
  have hb1 : Below w.heap.size w (((w.alloc (.cells #[.int .i64 g] 3)).alloc (.cells #[.slice none 0 0] 88)).alloc (.cells #[.int .i64 0] 28)) :=
    (((Below.refl _ _).alloc (Nat.le_refl _) _).alloc (by simp) _).alloc (by simp; omega) _
  have H1 := Lib.hid (h.kept (kept_of_below hb1))
  have HB1 := Lib.hid hb1
  clear h hb1
  refine calls_of_wpAt Tryz.func58 rfl ?_
  simp only [Tryz.ntmps58, List.size_toArray, List.length_cons, List.length_nil, Nat.reduceAdd, Nat.reduceSub, Array.replicate_succ, Array.replicate_zero, List.push_toArray, List.append_toArray, List.nil_append, List.cons_append]
  refine wpAt_seq (wpAt_of_wp ?_)
  go_wp2
  refine wpAt_seq (wpAt_of_wp ?_)
  go_wp2
  refine wpAt_seq (wpAt_of_wp ?_)
  go_wp2
  obtain ⟨WA, hWA⟩ : ∃ WA, ((w.alloc (.cells #[.int .i64 g] 3)).alloc (.cells #[.slice none 0 0] 88)).alloc (.cells #[.int .i64 0] 28) = WA := ⟨_, rfl⟩
  have hgb : WA.heap[w.heap.size]? = some (.cells #[.int .i64 g] 3 (0, 0)) := by
    rw [← hWA, World.heap_alloc_lt _ _ (by simp; omega), World.heap_alloc_lt _ _ (by simp)]
    exact heap_alloc_new w _
  have hlb : WA.heap[w.heap.size + 1]? = some (.cells #[.slice none 0 0] 88 (0, 0)) := by
    rw [← hWA, World.heap_alloc_lt _ _ (by simp)]
    have := heap_alloc_new (w.alloc (.cells #[.int .i64 g] 3)) (.cells #[.slice none 0 0] 88)
    rwa [World.size_alloc] at this
  have heb : WA.heap[w.heap.size + 2]? = some (.cells #[.int .i64 0] 28 (0, 0)) := by
    rw [← hWA]
    have := heap_alloc_new ((w.alloc (.cells #[.int .i64 g] 3)).alloc (.cells #[.slice none 0 0] 88)) (.cells #[.int .i64 0] 28)
    rwa [World.size_alloc, World.size_alloc] at this
  rw [hWA] at H1 HB1
  rw [hWA]
  have HGB := Lib.hid hgb
  have HLB := Lib.hid hlb
  have HEB := Lib.hid heb
  clear hWA hgb hlb heb
  refine wpAt_seq (wpAt_of_wp ?_)
  go_wp2_with (first | (go_at_call 68; refine H1.out.good.mono ?_; rintro e w' ⟨rfl, rfl⟩) | (go_at_call 40; refine (need_ok _).mono ?_; rintro e w' ⟨rfl, rfl⟩))
  have HSUB := Lib.hid (subtable_any a s l WA H1.out hmax)
  refine wpAt_seq (wpAt_of_wp ?_)
  go_wp2_with (go_at_call 73; refine HSUB.out.mono ?_; rintro e w1 ⟨hb2, (⟨p, f, a2, hok, hbest, rfl, hr2⟩ | ⟨hno, rfl⟩)⟩)
  rotate_left
  · have hno2 : mapsF l g = none := by
      rcases hno with hno | hno
      · exact mapsF_wrong hno
      · exact mapsF_lack hno
    exact .inl (maps_out rfl rfl ((hb2.block _ (lt_of_heap HLB.out)).trans HLB.out) ((hb2.block _ (lt_of_heap HEB.out)).trans HEB.out) (by omega) (HB1.out.trans (hb2.mono HB1.out.size)) (by omega) (by omega) hno2)
  have hfm := cmBest_form l _ p f hbest
  have HOK := Lib.hid hok
  have HBEST := Lib.hid hbest
  have HB2 := Lib.hid (HB1.out.trans (hb2.mono HB1.out.size))
  have HGB2 := Lib.hid ((hb2.block _ (lt_of_heap HGB.out)).trans HGB.out)
  have HLB2 := Lib.hid ((hb2.block _ (lt_of_heap HLB.out)).trans HLB.out)
  have HEB2 := Lib.hid ((hb2.block _ (lt_of_heap HEB.out)).trans HEB.out)
  have HR2 := Lib.hid hr2
  have hdl : (l.drop p).length ≤ 140737488355328 := by rw [List.length_drop]; omega
  clear hok hbest hr2 hb2 H1 HB1 HGB HLB HEB HSUB
  refine wpAt_split (fun b W0 => ∃ (gf : Nat) (caps : Array Value) (x0 x1 x6 x7 x8 x11 x12 x13 x14 x15 x16 x17 x18 x19 x20 x21 x22 x23 x24 : Value), b = ⟨#[x0, x1, undef, .pointer (some ⟨w.heap.size, 0, none⟩), .pointer (some ⟨w.heap.size + 1, 0, none⟩), .pointer (some ⟨w.heap.size + 2, 0, none⟩), x6, x7, x8, undef, undef, x11, x12, x13, x14, x15, x16, x17, x18, x19, x20, x21, x22, x23, x24, .func (.func gf) #[] caps, undef, undef, undef, undef, undef, undef, undef, undef, undef, undef, undef, undef, undef, undef, undef, undef, undef, undef, undef, undef, undef, undef, undef, undef, undef], doorM (w.heap.size + 1) (w.heap.size + 2)⟩ ∧
      MapsIter W0 (w.heap.size + 1) gf caps (mpFull (l.drop p) f) (mpOk (l.drop p) f) (mpBad g) ∧ Go.Proofs.Enters Tryz.prog gf ∧ Below w.heap.size w W0 ∧ W0.heap[w.heap.size]? = some (.cells #[.int .i64 g] 3 (0, 0)) ∧ W0.heap[w.heap.size + 1]? = some (.cells #[.slice none 0 0] 88 (0, 0)) ∧
      W0.heap[w.heap.size + 2]? = some (.cells #[.int .i64 0] 28 (0, 0))) ?_ ?_
  · obtain ⟨hf, hp2, -⟩ := hfm
    rcases hf with rfl | rfl
    · have HGR := Lib.hid (groups_any a2 s (l.drop p) w1 HR2.out hdl)
      refine wpAt_of_wp ?_
      go_wp2
      refine wpAt_of_wp ?_
      go_wp2
      refine wpAt_of_wp ?_
      go_wp2_with (go_at_call 74; refine HGR.out.mono ?_; rintro e w3 ⟨hb3, (⟨hh, nb, rb, rfl, hn1, hn2, hn3, hn4⟩ | ⟨hno, rfl⟩)⟩)
      · have hl3 := (hb3.block _ (lt_of_heap HLB2.out)).trans HLB2.out
        exact ⟨_, _, _, _, _, _, _, _, _, _, _, _, _, _, _, _, _, _, _, _, _, rfl, mp_groups hl3 (HR2.out.kept (kept_of_below hb3)) hh hdl hn1 hn2, Go.Proofs.enters_of Tryz.func92 (by kernel_rfl) rfl, HB2.out.trans (hb3.mono HB2.out.size), (hb3.block _ (lt_of_heap HGB2.out)).trans HGB2.out, hl3, (hb3.block _ (lt_of_heap HEB2.out)).trans HEB2.out⟩
      · exact .inl (maps_out rfl rfl ((hb3.block _ (lt_of_heap HLB2.out)).trans HLB2.out) ((hb3.block _ (lt_of_heap HEB2.out)).trans HEB2.out) (by omega) (HB2.out.trans (hb3.mono HB2.out.size)) (by omega) (by omega) (mapsF_no HBEST.out (fun h => hno h.1.1)))
    · have HGR := Lib.hid (segs_any a2 s (l.drop p) w1 HR2.out hdl)
      refine wpAt_of_wp ?_
      go_wp2
      refine wpAt_of_wp ?_
      go_wp2
      refine wpAt_of_wp ?_
      go_wp2_with (go_at_call 75; refine HGR.out.mono ?_; rintro e w3 ⟨hb3, (⟨hh, nb, rb, sb, rfl, hn1, hn2, hn3, hn4, hn5, hn6⟩ | ⟨hno, rfl⟩)⟩)
      · have hl3 := (hb3.block _ (lt_of_heap HLB2.out)).trans HLB2.out
        exact ⟨_, _, _, _, _, _, _, _, _, _, _, _, _, _, _, _, _, _, _, _, _, rfl, mp_segs hl3 (HR2.out.kept (kept_of_below hb3)) hh hn1 hn2 hn3, Go.Proofs.enters_of Tryz.func93 (by kernel_rfl) rfl, HB2.out.trans (hb3.mono HB2.out.size), (hb3.block _ (lt_of_heap HGB2.out)).trans HGB2.out, hl3, (hb3.block _ (lt_of_heap HEB2.out)).trans HEB2.out⟩
      · exact .inl (maps_out rfl rfl ((hb3.block _ (lt_of_heap HLB2.out)).trans HLB2.out) ((hb3.block _ (lt_of_heap HEB2.out)).trans HEB2.out) (by omega) (HB2.out.trans (hb3.mono HB2.out.size)) (by omega) (by omega) (mapsF_no HBEST.out (fun h => hno h.1.1)))
  · rintro _ W0 ⟨gf, caps, x0, x1, x6, x7, x8, x11, x12, x13, x14, x15, x16, x17, x18, x19, x20, x21, x22, x23, x24, rfl, hit, hent, hb, q1, q2, q3⟩
    have HQ1 := Lib.hid q1
    have HQ2 := Lib.hid q2
    have HQ3 := Lib.hid q3
    have HB0 := Lib.hid hb
    clear q1 q2 q3 hb HGB2 HLB2 HEB2 HB2 HR2 hdl
    refine wpAt_block (wpAt_range_p Tryz.func58 (gf := gf) (lb := caps) rfl hent (encs := mpEnc) (fun _ => rfl) (full := mpFull (l.drop p) f) (V := mpV) (ok := mpOk (l.drop p) f) (bad := mpBad g) (mpI W0 (w.heap.size + 1)) (mpX W0 (w.heap.size + 1))
      (fun s W l o o' h1 h2 h3 h4 => MapsInv.putObj h1 o' h2 h3 h4) (fun s W o h1 => MapsInv.grown h1 ((Below.refl _ _).alloc (Nat.le_refl _) _)) (MapsInv.start W0 _ HQ2.out)
      (fun x => ⟨#[x0, x1, undef, .pointer (some ⟨w.heap.size, 0, none⟩), .pointer (some ⟨w.heap.size + 1, 0, none⟩), .pointer (some ⟨w.heap.size + 2, 0, none⟩), x6, x7, x8, .int .i64 (x.1 : Nat), .int .i64 (x.2 : Nat), x11, x12, x13, x14, x15, x16, x17, x18, x19, x20, x21, x22, x23, x24, .func (.func gf) #[] caps, .int .i64 (x.1 : Nat), .int .i64 (x.2 : Nat), undef, undef, undef, undef, undef, undef, undef, undef, undef, undef, undef, undef, undef, undef, undef, undef, undef, undef, undef, undef, undef, undef, undef], []⟩) ?assign ?body hit ?done ?stop)
    case assign =>
      intro l x W K hK
      unfold mpEnc
      gi_wp2
      exact hK
    case body =>
      rintro l pre ⟨c, gl⟩ W hi hx ⟨hv1, hv2, hv3⟩
      have hcg := hi.cell HQ2.out (by simp) (blk_cell HQ1.out)
      have HI := Lib.hid hi
      have hkl : (mpKept pre).length ≤ pre.length := List.length_filter_le _ _
      simp only at hv2 hv3
      clear hi
      by_cases c1 : gl = 0
      · have d1 : ((gl : Int) == 0) = true := by simp; omega
        have d1b : (gl == 0) = true := by simp; omega
        have d1c : decide (gl = 0) = true := decide_eq_true c1
        have C1 := Lib.hid c1
        clear c1
        gi_wp2_with fail
        obtain ⟨h1, h2⟩ := mp_skip (g := g) HI.out (show mpKeep (c, gl) = false from by simp [mpKeep, C1.out])
        exact ⟨KeepsFrom.refl _ _, h1, h2⟩
      have d1 : ((gl : Int) == 0) = false := by simp; omega
      have d1b : (gl == 0) = false := by simp; omega
      have d1c : decide (gl = 0) = false := decide_eq_false c1
      have C1 := Lib.hid c1
      clear c1
      obtain ⟨i0, hi0, hz0, hz1, hz2⟩ := info_parts info_map
      obtain ⟨v, hv, hrow⟩ := HI.out.box
      obtain ⟨A, cc, rfl⟩ := own_form hrow
      have hcl := blk_cell hv
      have hfl := blk_frozen hv
      have HV := Lib.hid hv
      have HROW := Lib.hid hrow
      have wc : IntKind.i32.wrap (c : Int) = (c : Int) := by simp [IntKind.wrap, IntKind.bits, IntKind.signed]; omega
      have wg : IntKind.u16.wrap (gl : Int) = (gl : Int) := by simp [IntKind.wrap, IntKind.bits, IntKind.signed]; omega
      have hsz := HI.out.size
      clear hv hrow
      generalize hkn : (mpKept pre).length = kn at *
      have HKN := Lib.hid hkn
      clear hkn
      have hYES : Hid (mpKeep (c, gl) = true → (gl : Int) < g → mpKept (pre ++ [(c, gl)]) = mpKept pre ++ [(c, gl)] ∧ ¬ mpBad g (c, gl)) := Lib.hid (fun h1 h2 => ⟨mp_keep h1, fun hb => by have := hb.2; simp at this; omega⟩)
      by_cases c2 : 55296 ≤ c
      · have d2 : decide (55296 ≤ (c : Int)) = true := decide_eq_true (by omega)
        have d2b : decide (55296 ≤ c) = true := decide_eq_true c2
        by_cases c3 : c ≤ 57343
        · have d3 : decide ((c : Int) ≤ 57343) = true := decide_eq_true (by omega)
          have d3b : decide (c ≤ 57343) = true := decide_eq_true c3
          gi_wp2_with fail
          obtain ⟨h1, h2⟩ := mp_skip (g := g) HI.out (show mpKeep (c, gl) = false from by simp [mpKeep]; omega)
          exact ⟨KeepsFrom.refl _ _, h1, h2⟩
        have d3 : decide ((c : Int) ≤ 57343) = false := decide_eq_false (by omega)
        have d3b : decide (c ≤ 57343) = false := decide_eq_false c3
        have hkp : Hid (mpKeep (c, gl) = true) := Lib.hid (by have := C1.out; simp [mpKeep]; omega)
        by_cases c4 : (gl : Int) < g
        case neg =>
          have hbd : Hid (mpBad g (c, gl)) := Lib.hid ⟨hkp.out, by simp; omega⟩
          have d4 : decide ((gl : Int) < g) = false := decide_eq_false c4
          gi_wp2_with (refine ⟨trivial, rfl, ?_⟩; gi_at_call 40; refine (CallsIn.inRound l (callsIn_wide.2 (need_no _))).mono ?_; rintro e w' ⟨rfl, rfl⟩)
          exact ⟨rfl, rfl, KeepsFrom.refl _ _, ⟨_, HI.out⟩, hbd.out⟩
        have d4 : decide ((gl : Int) < g) = true := decide_eq_true c4
        obtain ⟨hk1, hnb⟩ := hYES.out hkp.out c4
        have HK1 := Lib.hid hk1
        have HNB := Lib.hid hnb
        clear hk1 hnb
        gi_wp2_with (first | (refine ⟨trivial, rfl, ?_⟩; gi_at_call 40; refine (CallsIn.inRound l (callsIn_wide.2 (need_ok _))).mono ?_; rintro e w' ⟨rfl, rfl⟩) | (gi_at_builtin; refine wpListIn_append_own _ rfl (.tmp 42) (.tmp 48) 88 rfl W0.heap.size 93 i0 (.agg #[.int .i32 0, .int .u16 0]) 2 8 Tryz.underlying88 hi0 hz0 hz1 hz2 rfl (by decide) (.slice A kn cc) kn (mpCells (mpKept pre)) rfl (HROW.out.alloc _) ⟨W.heap.size, 0, none⟩ 1 1 [.int .i32 (c : Int), .int .u16 (gl : Int)] rfl rfl ?c0 ?c4 ?c1 ?c2 ?c3 ?_; rotate_right; intro v' w1 hown hgrow _; obtain ⟨g', cap', rfl⟩ := ownsRow_succ hown; have hap := HI.out.append (x := (c, gl)) HV.out (by rw [HKN.out]; exact HROW.out) (by rw [HKN.out]; exact hown) hgrow; obtain ⟨hv2, hk2, hi2⟩ := hap; have hc1 := blk_cell hv2; have hf1 := blk_frozen hv2; have HK2 := Lib.hid hk2; have HI2 := Lib.hid hi2; clear hv2 hk2 hi2 hown hgrow))
        case c0 =>
          intro j u hu
          rw [add_lit, Nat.zero_add]
          rw [cell_of_blk (heap_alloc_new W _) j]
          rcases j with _ | _ | j
          · simpa using hu
          · simpa using hu
          · simp at hu
        case c4 =>
          intro u hu
          simp at hu
          rcases hu with rfl | rfl <;> rfl
        case c1 => unfold maxLen; omega
        case c2 => omega
        case c3 => simp; omega
        exact ⟨HK2.out.from _, by unfold mpI; rw [HK1.out]; exact HI2.out, HNB.out⟩
      have d2 : decide (55296 ≤ (c : Int)) = false := decide_eq_false (by omega)
      have d2b : decide (55296 ≤ c) = false := decide_eq_false c2
      have hkp : Hid (mpKeep (c, gl) = true) := Lib.hid (by have := C1.out; simp [mpKeep]; omega)
      by_cases c4 : (gl : Int) < g
      case neg =>
        have hbd : Hid (mpBad g (c, gl)) := Lib.hid ⟨hkp.out, by simp; omega⟩
        have d4 : decide ((gl : Int) < g) = false := decide_eq_false c4
        gi_wp2_with (refine ⟨trivial, rfl, ?_⟩; gi_at_call 40; refine (CallsIn.inRound l (callsIn_wide.2 (need_no _))).mono ?_; rintro e w' ⟨rfl, rfl⟩)
        exact ⟨rfl, rfl, KeepsFrom.refl _ _, ⟨_, HI.out⟩, hbd.out⟩
      have d4 : decide ((gl : Int) < g) = true := decide_eq_true c4
      obtain ⟨hk1, hnb⟩ := hYES.out hkp.out c4
      have HK1 := Lib.hid hk1
      have HNB := Lib.hid hnb
      clear hk1 hnb
      gi_wp2_with (first | (refine ⟨trivial, rfl, ?_⟩; gi_at_call 40; refine (CallsIn.inRound l (callsIn_wide.2 (need_ok _))).mono ?_; rintro e w' ⟨rfl, rfl⟩) | (gi_at_builtin; refine wpListIn_append_own _ rfl (.tmp 42) (.tmp 48) 88 rfl W0.heap.size 93 i0 (.agg #[.int .i32 0, .int .u16 0]) 2 8 Tryz.underlying88 hi0 hz0 hz1 hz2 rfl (by decide) (.slice A kn cc) kn (mpCells (mpKept pre)) rfl (HROW.out.alloc _) ⟨W.heap.size, 0, none⟩ 1 1 [.int .i32 (c : Int), .int .u16 (gl : Int)] rfl rfl ?c0 ?c4 ?c1 ?c2 ?c3 ?_; rotate_right; intro v' w1 hown hgrow _; obtain ⟨g', cap', rfl⟩ := ownsRow_succ hown; have hap := HI.out.append (x := (c, gl)) HV.out (by rw [HKN.out]; exact HROW.out) (by rw [HKN.out]; exact hown) hgrow; obtain ⟨hv2, hk2, hi2⟩ := hap; have hc1 := blk_cell hv2; have hf1 := blk_frozen hv2; have HK2 := Lib.hid hk2; have HI2 := Lib.hid hi2; clear hv2 hk2 hi2 hown hgrow))
      case c0 =>
        intro j u hu
        rw [add_lit, Nat.zero_add]
        rw [cell_of_blk (heap_alloc_new W _) j]
        rcases j with _ | _ | j
        · simpa using hu
        · simpa using hu
        · simp at hu
      case c4 =>
        intro u hu
        simp at hu
        rcases hu with rfl | rfl <;> rfl
      case c1 => unfold maxLen; omega
      case c2 => omega
      case c3 => simp; omega
      exact ⟨HK2.out.from _, by unfold mpI; rw [HK1.out]; exact HI2.out, HNB.out⟩
    case done =>
      rintro D W hD hi hok hbad hK
      have hyes := mapsF_yes HOK.out HBEST.out hok hbad
      have HK := Lib.hid hK
      have HYES := Lib.hid hyes
      have HI := Lib.hid hi
      clear hK hyes hi hok hbad
      obtain ⟨v, hv, hrow⟩ := HI.out.box
      obtain ⟨A, cc, rfl⟩ := own_form hrow
      have hcl := blk_cell hv
      have hfl := blk_frozen hv
      have he := (HI.out.same _ (lt_of_heap HQ3.out) (by omega)).trans HQ3.out
      have hce := blk_cell he
      have hfe := blk_frozen he
      have HV := Lib.hid hv
      have HE := Lib.hid he
      have HROW := Lib.hid hrow
      clear hv he hrow
      show WpAt _ _ _ _ _ _
      refine wpAt_of_wp ?_
      go_wp2
      obtain ⟨WF, hWF⟩ : ∃ WF, ((W.setCell ⟨w.heap.size + 1, 0, none⟩ (.slice A (mpKept (mpFull (l.drop p) f)).length cc)).setCell ⟨w.heap.size + 2, 0, none⟩ (.int .i64 0)) = WF := ⟨_, rfl⟩
      have hs0 := HB0.out.size
      have hlb2 := lt_of_heap HQ2.out
      have heb2 := lt_of_heap HQ3.out
      have hf1 : WF.heap[w.heap.size + 1]? = some (.cells #[.slice A (mpKept (mpFull (l.drop p) f)).length cc] 88 (0, 0)) := by
        rw [← hWF, heap_setCell_other _ _ _ _ (by simp)]
        exact blk_set HV.out _
      have hf2 : WF.heap[w.heap.size + 2]? = some (.cells #[.int .i64 0] 28 (0, 0)) := by
        rw [← hWF]
        exact blk_set (by rw [heap_setCell_other _ _ _ _ (by simp)]; exact HE.out) _
      have hfd : WF.heap[D]? = some (.deferred (some [])) := by
        rw [← hWF, heap_setCell_other _ _ _ _ (by simp; omega), heap_setCell_other _ _ _ _ (by simp; omega)]
        exact HK.out
      have hfo : WF.ownsRow W0.heap.size 93 2 (.slice A (mpKept (mpFull (l.drop p) f)).length cc) (mpKept (mpFull (l.drop p) f)).length (mpCells (mpKept (mpFull (l.drop p) f))) := by
        rw [← hWF]
        exact ownsRow_setCell_below (ownsRow_setCell_below HROW.out (a := ⟨w.heap.size + 1, 0, none⟩) hlb2 _) (a := ⟨w.heap.size + 2, 0, none⟩) heb2 _
      have hbe : Below w.heap.size w WF := by
        rw [← hWF]
        exact ((HI.out.below HB0.out (by omega)).setCell (p := ⟨w.heap.size + 1, 0, none⟩) (by simp) _).setCell (p := ⟨w.heap.size + 2, 0, none⟩) (by simp) _
      rw [hWF]
      have hDn : D ≠ w.heap.size + 1 ∧ D ≠ w.heap.size + 2 := by omega
      refine .inr ⟨by simp, _, D, _, _, rfl, rfl, run_takeDeferred hfd, ?_⟩
      refine doorM_ok rfl rfl ((World.putObj_heap_other hDn.1.symm).trans hf1) ((World.putObj_heap_other hDn.2.symm).trans hf2) ?_
      show MapsPost w _ _ _
      rw [HYES.out]
      refine ⟨A, cc, rfl, own_lower (ownsRow_putObj hfo _ hfd rfl) hs0, ?_⟩
      exact hbe.trans ((belowK_b (Nat.le_refl _) WF D _ _ (by omega) hfd rfl rfl).mono (Nat.le_refl _))
    case stop =>
      rintro D W hD ⟨L, hi⟩ hno hK
      obtain ⟨v, hv, hrow⟩ := hi.box
      have hs0 := HB0.out.size
      have hl2 := lt_of_heap HQ2.out
      have hl3 := lt_of_heap HQ3.out
      refine .inr ⟨by simp, _, D, _, _, rfl, rfl, run_takeDeferred hK, ?_⟩
      have hi2 := hi.putObj (.deferred none) hD hK rfl
      exact maps_out rfl rfl ((World.putObj_heap_other (by omega)).trans hv) ((hi2.same _ hl3 (by omega)).trans HQ3.out) (by omega) (hi2.below HB0.out (by omega)) (by omega) (by omega) (mapsF_no HBEST.out hno)
end Go.Proofs.YtfbppbelcbbhlaaGreatDoor.Sf
