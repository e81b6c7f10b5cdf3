import Derived.Test.YtfbppbelcbbhlaaGreatDoorKnPut
import Derived.Laws.BytesArg
import Derived.Laws.Externs
import Derived.Lib.BytesEntry

/- bin.Put, the loop over a plan; sfnt.put. -/
namespace Go.Proofs.YtfbppbelcbbhlaaGreatDoor.Sf
open Go Go.RowKit

/-- A slice of numbers that reads as a list. -/
structure IntsR (k : IntKind) (w : World) (A : Option Addr) (cap : Nat) (l : List Int) : Prop where
  le : l.length ≤ cap
  max : cap ≤ 9223372036854775807
  nil : A = none → cap = 0
  cells : l.length ≠ 0 → ∃ b bo, A = some ⟨b, bo, none⟩ ∧ ∀ i, i < l.length → w.cell? ⟨b, bo + i, none⟩ = some (.int k (l.getD i 0))
theorem IntsR.kept {k : IntKind} {w w' : World} {A : Option Addr} {cap : Nat} {l : List Int} (h : IntsR k w A cap l) (hk : Kept w w') : IntsR k w' A cap l :=
  ⟨h.le, h.max, h.nil, fun hne => let ⟨b, bo, e, hc⟩ := h.cells hne; ⟨b, bo, e, fun i hi => hk.cell (hc i hi)⟩⟩
theorem IntsR.at_ {k : IntKind} {w : World} {A : Option Addr} {cap : Nat} {l : List Int} (h : IntsR k w A cap l) (hne : l.length ≠ 0) :
    ∃ b bo, A = some ⟨b, bo, none⟩ ∧ ∀ i, i < l.length → w.cell? ⟨b, bo + i, none⟩ = some (.int k (l.getD i 0)) := h.cells hne

theorem intsR_new (k : IntKind) (w : World) (l : List Int) (t : TypeId) (hl : l.length ≤ 9223372036854775807) :
    IntsR k (w.alloc (.cells (l.map (Value.int k)).toArray t)) (some ⟨w.heap.size, 0, none⟩) l.length l := by
  refine ⟨Nat.le_refl _, hl, (fun h => by cases h), fun _ => ⟨w.heap.size, 0, rfl, ?_⟩⟩
  intro i hi
  rw [cell_of_row _ w.heap.size (0 + i) _ _ (0, 0) (heap_alloc_new w _)]
  simp [List.getD, hi]
theorem IntsR.drew {k : IntKind} {w : World} {A : Option Addr} {cap : Nat} {l : List Int} (h : IntsR k w A cap l) : IntsR k w.drew A cap l := ⟨h.le, h.max, h.nil, h.cells⟩

def putOne (x : Nat × Int) : Option (List Nat) :=
  match letter x.1 with
  | some (s, lo, hi) => if lo ≤ x.2 ∧ x.2 ≤ hi then some (be x.2 s) else none
  | none => none
def putAll : List (Nat × Int) → Option (List Nat)
  | [] => some []
  | x :: r => (putOne x).bind fun a => (putAll r).map fun b => a ++ b
theorem putAll_snoc (l : List (Nat × Int)) (x : Nat × Int) : putAll (l ++ [x]) = (putAll l).bind fun a => (putOne x).map fun b => a ++ b := by
  induction l with
  | nil => cases h : putOne x <;> simp [putAll, h]
  | cons y r ih =>
    simp only [List.cons_append, putAll, ih]
    cases putOne y <;> cases putAll r <;> cases putOne x <;> simp
theorem letter_le {c s : Nat} {lo hi : Int} (h : letter c = some (s, lo, hi)) : s ≤ 4 := by
  unfold letter at h
  repeat' split at h
  all_goals first | (cases h; omega) | cases h
theorem be_length (n : Int) (s : Nat) : (be n s).length = s := beTo_length n s s
theorem be_lt (n : Int) (s : Nat) : ∀ x ∈ be n s, x < 256 := beTo_lt n s s
theorem putOne_length {x : Nat × Int} {a : List Nat} (h : putOne x = some a) : a.length ≤ 4 ∧ ∀ y ∈ a, y < 256 := by
  unfold putOne at h
  split at h
  · rename_i s lo hi hl
    split at h
    · cases h
      exact ⟨by rw [be_length]; exact letter_le hl, be_lt _ _⟩
    · cases h
  · cases h
theorem putAll_length {l : List (Nat × Int)} {a : List Nat} (h : putAll l = some a) : a.length ≤ 4 * l.length ∧ ∀ y ∈ a, y < 256 := by
  induction l generalizing a with
  | nil => cases h; simp
  | cons x r ih =>
    simp only [putAll] at h
    cases h1 : putOne x with
    | none => rw [h1] at h; cases h
    | some b =>
      cases h2 : putAll r with
      | none => rw [h1, h2] at h; cases h
      | some c =>
        rw [h1, h2] at h
        cases h
        have := putOne_length h1
        have := ih h2
        refine ⟨by simp; omega, ?_⟩
        intro y hy
        rcases List.mem_append.1 hy with hy | hy
        · exact (putOne_length h1).2 y hy
        · exact (ih h2).2 y hy

/-- A string's bytes as numbers. -/
def strNats (s : ByteArray) : List Nat := s.data.toList.map UInt8.toNat
theorem strNats_length (s : ByteArray) : (strNats s).length = s.size := by rw [strNats, List.length_map, Array.length_toList]; rfl
theorem strNats_get (s : ByteArray) (k : Nat) (h : k < s.size) : (strNats s).getD k 0 = s[k].toNat := by
  have h' : k < s.data.size := h
  simp only [strNats, List.getD, List.getElem?_map]
  rw [List.getElem?_eq_getElem (by simpa using h')]
  rfl

theorem own_below {w w' : World} {base e size n : Nat} {v : Value} {xs : List Value} (h : w.ownsRow base e size v n xs) (hb : Below w.heap.size w w') : w'.ownsRow base e size v n xs :=
  h.kept ⟨hb.os, hb.tape, hb.output, hb.size, fun k hk _ => hb.block k hk⟩ (row := none) (by
    cases v.ownBlock with
    | none => exact .inl rfl
    | some k => exact .inr (Option.some_ne_none k))

def planOf (s : ByteArray) (l : List Int) : List (Nat × Int) := List.zip (strNats s) l
theorem planOf_take (s : ByteArray) (l : List Int) (k : Nat) (h1 : k < s.size) (h2 : k < l.length) :
    (planOf s l).take (k + 1) = (planOf s l).take k ++ [(s[k].toNat, l.getD k 0)] := by
  have hk : k < (planOf s l).length := by simp [planOf, strNats_length]; omega
  rw [List.take_succ_eq_append_getElem hk]
  congr 2
  have e : (strNats s)[k]'(by rw [strNats_length]; exact h1) = s[k].toNat := by
    rw [← strNats_get s k h1]
    simp [List.getD, strNats_length, h1]
  simp [planOf, List.getElem_zip, e, List.getD, h2]

def PutPost (w : World) (r : Option (List Nat)) (e : Ending) (w' : World) : Prop :=
  match r with
  | none => e = .returned (.tuple #[.slice none 0 0, .int .i64 2]) ∧ Below w.heap.size w w'
  | some out => ∃ A' c', e = .returned (.tuple #[.slice A' out.length c', .int .i64 0]) ∧ w'.ownsRow w.heap.size 5 1 (.slice A' out.length c') out.length (u8s out) ∧ Below w.heap.size w w'
theorem putAll_fail (l : List (Nat × Int)) (k : Nat) (h : putAll (l.take k) = none) : putAll l = none := by
  induction l generalizing k with
  | nil => simp at h; exact h
  | cons x r ih =>
    cases k with
    | zero => cases h
    | succ k =>
      simp only [List.take_succ_cons, putAll] at h ⊢
      cases h1 : putOne x with
      | none => rfl
      | some a =>
        rw [h1] at h
        simp only [Option.bind_some, Option.map_eq_none_iff] at h
        rw [ih k h]
        rfl

set_option maxHeartbeats 2000000 in
theorem put_any (A : Option Addr) (cap : Nat) (l : List Int) (s : ByteArray) (w : World) (h : IntsR .i64 w A cap l) (hl : l.length ≤ 16777216) (hs : l.length = s.size) :
    Calls Tryz.prog 62 #[.slice A l.length cap, .string s] w fun e w' =>
      PutPost w (putAll (planOf s l)) e w' := by
  have H := Lib.hid h
  have hle := h.le
  have hmax := h.max
  have hs' : ((l.length : Int) != (s.size : Int)) = false := by simp [hs]
  have HS := Lib.hid hs
  clear h hs
  go_enter Tryz.func62, Tryz.ntmps62
  go_wp2
  go_loopw [6, 23] (fun v i wr => ∃ (k : Nat) (out : List Nat) (A' : Option Addr) (c' : Nat), k ≤ l.length ∧ i = .int .i64 k ∧ v = .slice A' out.length c' ∧ putAll ((planOf s l).take k) = some out ∧ wr.ownsRow w.heap.size 5 1 (.slice A' out.length c') out.length (u8s out) ∧ Below w.heap.size w wr) (fun _ i _ => l.length - (intOf i).toNat)
  case atStart => exact ⟨0, [], none, 0, by omega, rfl, rfl, rfl, World.ownsRow_nil _ _ _ _, Below.refl _ _⟩
  case round =>
    obtain ⟨k, out, A', c', hk, rfl, rfl, hput, hown, hbel⟩ := hrel
    have hol := (putAll_length hput).1
    rw [List.length_take] at hol
    have hol2 : out.length ≤ 100000000 := by omega
    have HP := Lib.hid hput
    have HW := Lib.hid hown
    have HB := Lib.hid hbel
    have hsz := hbel.size
    clear hput hown hbel hol
    by_cases hlt : k < l.length
    · have hks : k < s.size := by have := HS.out; omega
      obtain ⟨b, bo, rfl, hc⟩ := H.out.cells (by omega)
      have hcell := (kept_of_below HB.out).cell (hc k hlt)
      have HT := Lib.hid (planOf_take s l k hks hlt)
      clear hc
      generalize hn : l.getD k 0 = n at *
      clear hn
      cases hlet : letter s[k].toNat with
      | none =>
        have hfail : putAll ((planOf s l).take (k + 1)) = none := by
          rw [HT.out, putAll_snoc, HP.out]
          simp [putOne, hlet]
        have HF := Lib.hid (putAll_fail _ _ hfail)
        have HY := Lib.hid (by_none _ wr hlet)
        clear hlet hfail
        go_wp2_with (go_at_call 81; refine HY.out.mono ?_; rintro e w' ⟨rfl, rfl⟩)
        go_ret2
        show PutPost w _ _ _
        rw [HF.out]
        exact ⟨rfl, HB.out⟩
      | some q =>
        obtain ⟨sz, lo, hi⟩ := q
        have HL := Lib.hid hlet
        have HY := Lib.hid (by_some _ sz lo hi wr hlet)
        clear hlet
        by_cases hrange : lo ≤ n ∧ n ≤ hi
        · go_wp2_with (first | (go_at_call 81; refine HY.out.mono ?_; rintro e w1 ⟨lob, hib, szb, rfl, h1, h2, h3, h4⟩; have H1 := Lib.hid h1; have H2 := Lib.hid h2; have H3 := Lib.hid h3; have H4 := Lib.hid h4; clear h1 h2 h3 h4))
          have hsz1 := H4.out.size
          have hown1 := own_below HW.out H4.out
          have HY2 := Lib.hid (put1_in w.heap.size A' c' out n lo hi sz lob hib szb w1 hown1 (by omega) H1.out H2.out H3.out hrange.1 hrange.2 (letter_le HL.out) (by omega))
          clear hown1
          go_wp2_with (go_at_call 95; refine HY2.out.mono ?_; rintro e w2 ⟨A2, c2, rfl, g1, g2, _⟩; have G1 := Lib.hid g1; have G2 := Lib.hid g2; clear g1 g2)
          have hok : putAll ((planOf s l).take (k + 1)) = some (out ++ be n sz) := by
            rw [HT.out, putAll_snoc, HP.out]
            simp only [putOne, HL.out]
            rw [if_pos hrange]
            rfl
          have HOK := Lib.hid hok
          have HB2 := Lib.hid ((HB.out.trans (H4.out.mono (by omega))).trans G2.out)
          clear hok
          go_roundw
          case rel => exact ⟨k + 1, out ++ be n sz, A2, c2, by omega, by go_num, by simp, HOK.out, G1.out, HB2.out⟩
          case measure => simp [intOf]; omega
        · have hfail : putAll ((planOf s l).take (k + 1)) = none := by
            rw [HT.out, putAll_snoc, HP.out]
            simp only [putOne, HL.out]
            rw [if_neg hrange]
            rfl
          have HF := Lib.hid (putAll_fail _ _ hfail)
          clear hfail
          go_wp2_with (first | (go_at_call 81; refine HY.out.mono ?_; rintro e w1 ⟨lob, hib, szb, rfl, h1, h2, h3, h4⟩; have H1 := Lib.hid h1; have H2 := Lib.hid h2; have H4 := Lib.hid h4; clear h1 h2 h3 h4))
          have hsz1 := H4.out.size
          have HY2 := Lib.hid (put1_out (.slice A' out.length c') n lo hi lob hib szb w1 H1.out H2.out (by omega))
          have HB2 := Lib.hid (HB.out.trans (H4.out.mono (by omega)))
          go_wp2_with (go_at_call 95; refine HY2.out.mono ?_; rintro e w2 ⟨rfl, rfl⟩)
          go_ret2
          show PutPost w _ _ _
          rw [HF.out]
          exact ⟨rfl, HB2.out⟩
    · go_wp2
      go_ret2
      have hkl : k = l.length := by omega
      subst hkl
      have hp := HP.out
      rw [List.take_of_length_le (by simp only [planOf, List.length_zip]; omega)] at hp
      show PutPost w _ _ _
      rw [hp]
      exact ⟨A', c', rfl, HW.out, HB.out⟩
end Go.Proofs.YtfbppbelcbbhlaaGreatDoor.Sf

/- Rows of bytes held against each other: bytes.Equal, calamuskit.SameBytes, bytes.Compare; and sums: bin.Sum, calamusref04.Sum. -/
namespace Go.Proofs.YtfbppbelcbbhlaaGreatDoor.Sf
open Go Go.RowKit

/-- Bytes as a string. -/
def strB (l : List Nat) : ByteArray := strOfNums (l.map fun x : Nat => (x : Int))
theorem strB_toList (l : List Nat) : (strB l).toList = l.map fun n => UInt8.ofNat n := by
  have : (strB l).toList = (strB l).data.toList := by rw [ByteArray.toList_eq]
  rw [this, strB, strOfNums_data, List.map_map]
  rfl
theorem ofNat_inj {a b : Nat} (ha : a < 256) (hb : b < 256) (h : UInt8.ofNat a = UInt8.ofNat b) : a = b := by
  have h1 : (UInt8.ofNat a).toNat = (UInt8.ofNat b).toNat := by rw [h]
  simpa [UInt8.toNat_ofNat, Nat.mod_eq_of_lt ha, Nat.mod_eq_of_lt hb] using h1
theorem map_ofNat_inj : ∀ {l m : List Nat}, (∀ x ∈ l, x < 256) → (∀ x ∈ m, x < 256) → l.map (fun n => UInt8.ofNat n) = m.map (fun n => UInt8.ofNat n) → l = m
  | [], [], _, _, _ => rfl
  | [], _ :: _, _, _, h => by simp at h
  | _ :: _, [], _, _, h => by simp at h
  | a :: l, b :: m, hl, hm, h => by
    simp only [List.map_cons, List.cons.injEq] at h
    rw [ofNat_inj (hl a (by simp)) (hm b (by simp)) h.1, map_ofNat_inj (fun x hx => hl x (by simp [hx])) (fun x hx => hm x (by simp [hx])) h.2]
theorem strB_beq (l m : List Nat) (hl : ∀ x ∈ l, x < 256) (hm : ∀ x ∈ m, x < 256) : ((strB l).toList == (strB m).toList) = decide (l = m) := by
  rw [strB_toList, strB_toList]
  by_cases h : l = m
  · subst h; simp
  · have : ¬ (l.map fun n => UInt8.ofNat n) = (m.map fun n => UInt8.ofNat n) := fun e => h (map_ofNat_inj hl hm e)
    simp [h, this]

theorem Byt.convert {P : Program} {w : World} {A : Option Addr} {cap : Nat} {l : List Nat} (h : Byt w A cap l) (src e dst : TypeId) (hs : P.underlying src = some (.slice e)) (he : P.underlying e = some (.int .u8))
    (hd : P.underlying dst = some .string) : (convert src dst (.slice A l.length cap)).run P w = .ok (.string (strB l)) w := by
  by_cases h0 : l.length = 0
  · have hl : l = [] := List.eq_nil_of_length_eq_zero h0
    subst hl
    cases A with
    | none => exact (run_convert_bytes_nil (P := P) w src e hs he 0 cap dst hd).trans rfl
    | some ad =>
      have hlc : (loadCells ad 0).run P w = .ok (([] : List Value).map id).toArray w := rfl
      rw [show ([] : List Nat).length = 0 from rfl, run_convert_bytes_string w src dst e ad 0 cap hs he hd]
      have := run_bytesToString (P := P) w ad 0 cap ([] : List Int) (by simpa using hlc)
      rw [this]
      rfl
  · obtain ⟨b, bo, rfl, hc⟩ := h.cells h0
    exact run_convert_bytes_arg (P := P) w src e hs he b bo l.length cap (l.map fun x : Nat => (x : Int)) (by simp) (fun i hi => by
      rw [hc i hi]
      simp [List.getD, hi]) dst hd

theorem equal_any (A B : Option Addr) (ca cb : Nat) (l m : List Nat) (w : World) (hl : Byt w A ca l) (hm : Byt w B cb m) :
    Calls Tryz.prog 43 #[.slice A l.length ca, .slice B m.length cb] w fun e w' => e = .returned (.bool (decide (l = m))) ∧ w = w' := by
  have h1 := hl.convert (P := Tryz.prog) 25 5 9 Tryz.underlying25 Tryz.underlying5 Tryz.underlying9
  have h2 := hm.convert (P := Tryz.prog) 25 5 9 Tryz.underlying25 Tryz.underlying5 Tryz.underlying9
  have HE := Lib.hid (strB_beq l m hl.lt hm.lt)
  clear hl hm
  go_enter Tryz.func43, Tryz.ntmps43
  go_wp2
  go_ret
  refine ⟨?_, rfl⟩
  rw [← HE.out]
  rfl
theorem sameBytes_any (A B : Option Addr) (ca cb : Nat) (l m : List Nat) (w : World) (hl : Byt w A ca l) (hm : Byt w B cb m) :
    Calls Tryz.prog 21 #[.slice A l.length ca, .slice B m.length cb] w fun e w' => e = .returned (.bool (decide (l = m))) ∧ w = w' := by
  have h1 := hl.convert (P := Tryz.prog) 25 5 9 Tryz.underlying25 Tryz.underlying5 Tryz.underlying9
  have h2 := hm.convert (P := Tryz.prog) 25 5 9 Tryz.underlying25 Tryz.underlying5 Tryz.underlying9
  have HE := Lib.hid (strB_beq l m hl.lt hm.lt)
  clear hl hm
  go_enter Tryz.func21, Tryz.ntmps21
  go_wp2
  go_ret
  refine ⟨?_, rfl⟩
  rw [← HE.out]
  rfl

/-- Which of two rows comes first. -/
def cmpF (l m : List Nat) : Int := Extern.BytealgCompare.cmp (strB l) (strB m)

theorem Byt.bytesOf {P : Program} {w : World} {A : Option Addr} {cap : Nat} {l : List Nat} (h : Byt w A cap l) : (Extern.Bytes.bytesOf (.slice A l.length cap)).run P w = .ok (strB l) w := by
  by_cases h0 : l.length = 0
  · have hl : l = [] := List.eq_nil_of_length_eq_zero h0
    subst hl
    cases A with
    | none => rfl
    | some ad => rfl
  · obtain ⟨b, bo, rfl, hc⟩ := h.cells h0
    have := Lib.run_loadBytesX (P := P) (w := w) (l.map fun x : Nat => (x : Int)) ⟨b, bo, none⟩ .empty (fun j x hj => by
      rw [add_lit]
      have hjl : j < l.length := by
        rcases Nat.lt_or_ge j l.length with h' | h'
        · exact h'
        · rw [List.getElem?_eq_none (by simpa using h')] at hj; cases hj
      rw [hc j hjl]
      simp [hjl] at hj
      simp [List.getD, hjl, hj])
    rw [List.length_map] at this
    simp only [Extern.Bytes.bytesOf]
    rw [this]
    congr 2
    simp [ByteArray.empty, ByteArray.emptyWithCapacity, Lib.bytesOf]
    rfl

theorem compare_any (A B : Option Addr) (ca cb : Nat) (l m : List Nat) (w : World) (hl : Byt w A ca l) (hm : Byt w B cb m) :
    Calls Tryz.prog 33 #[.slice A l.length ca, .slice B m.length cb] w fun e w' => e = .returned (.int .i64 (cmpF l m)) ∧ w = w' := by
  have hc : (callFunc 60 #[.slice A l.length ca, .slice B m.length cb]).run Tryz.prog w = .ok (.value (.int .i64 (cmpF l m))) w := by
    rw [run_callFunc_extern (e := Extern.BytealgCompare.compare) Tryz.func60 (by kernel_rfl) rfl (by kernel_rfl) (by kernel_rfl)]
    have h1 := hl.bytesOf (P := Tryz.prog)
    have h2 := hm.bytesOf (P := Tryz.prog)
    change (((do pure (goInt (Extern.BytealgCompare.cmp (← Extern.Bytes.bytesOf (.slice A l.length ca)) (← Extern.Bytes.bytesOf (.slice B m.length cb))))) : Sem Value).run Tryz.prog w).andThen _ = _
    simp [h1, h2, cmpF, goInt, Result.andThen]
  clear hl hm
  go_enter Tryz.func33, Tryz.ntmps33
  go_wp2
  go_ret
  exact ⟨rfl, rfl⟩

/-- A table's check. -/
def sumTo (l : List Nat) : Nat → Nat
  | 0 => 0
  | k + 1 => (sumTo l k + (l.getD k 0 * 2 ^ (24 - 8 * (k % 4))) % 4294967296) % 4294967296
def sumF (l : List Nat) : Nat := sumTo l l.length
theorem sumTo_lt (l : List Nat) (k : Nat) : sumTo l k < 4294967296 := by
  cases k with
  | zero => simp [sumTo]
  | succ k => simp only [sumTo]; omega

set_option maxHeartbeats 1000000 in
theorem sum_bin (A : Option Addr) (cap : Nat) (l : List Nat) (w : World) (h : Byt w A cap l) :
    Calls Tryz.prog 37 #[.slice A l.length cap] w fun e w' => e = .returned (.int .u32 (sumF l : Nat)) ∧ w = w' := by
  have hle := h.le
  have hmax := h.max
  have H := Lib.hid h
  clear h
  go_enter Tryz.func37, Tryz.ntmps37
  go_wp2
  go_loop [3, 8] (fun x i => ∃ k : Nat, k ≤ l.length ∧ i = .int .i64 k ∧ x = .int .u32 (sumTo l k : Nat)) (fun _ i => l.length - (intOf i).toNat)
  case atStart => exact ⟨0, Nat.zero_le _, rfl, rfl⟩
  case round =>
    obtain ⟨k, hk, rfl, rfl⟩ := hrel
    by_cases hlt : k < l.length
    · obtain ⟨b, bo, rfl, hc⟩ := H.out.cells (by omega)
      have hcell := hc k hlt
      have h0 : l.getD k 0 < 256 := H.out.lt _ (by simp [List.getD, hlt])
      have hs : sumTo l (k + 1) = (sumTo l k + (l.getD k 0 * 2 ^ (24 - 8 * (k % 4))) % 4294967296) % 4294967296 := rfl
      have HS := Lib.hid hs
      have hlt2 := sumTo_lt l k
      clear hs hc
      generalize l.getD k 0 = c at *
      generalize hq : sumTo l k = q at *
      go_wp2
      go_round
      case rel => exact ⟨k + 1, by omega, by go_num, by rw [HS.out]; simp⟩
      case measure => simp [intOf]; omega
    · go_wp2
      go_ret
      have hkn : k = l.length := by omega
      subst hkn
      exact ⟨rfl, rfl⟩
set_option maxHeartbeats 1000000 in
theorem sum_ref (A : Option Addr) (cap : Nat) (l : List Nat) (w : World) (h : Byt w A cap l) :
    Calls Tryz.prog 19 #[.slice A l.length cap] w fun e w' => e = .returned (.int .u32 (sumF l : Nat)) ∧ w = w' := by
  have hle := h.le
  have hmax := h.max
  have H := Lib.hid h
  clear h
  go_enter Tryz.func19, Tryz.ntmps19
  go_wp2
  go_loop [3, 4] (fun x i => ∃ k : Nat, k ≤ l.length ∧ i = .int .i64 k ∧ x = .int .u32 (sumTo l k : Nat)) (fun _ i => l.length - (intOf i).toNat)
  case atStart => exact ⟨0, Nat.zero_le _, rfl, rfl⟩
  case round =>
    obtain ⟨k, hk, rfl, rfl⟩ := hrel
    by_cases hlt : k < l.length
    · obtain ⟨b, bo, rfl, hc⟩ := H.out.cells (by omega)
      have hcell := hc k hlt
      have h0 : l.getD k 0 < 256 := H.out.lt _ (by simp [List.getD, hlt])
      have hs : sumTo l (k + 1) = (sumTo l k + (l.getD k 0 * 2 ^ (24 - 8 * (k % 4))) % 4294967296) % 4294967296 := rfl
      have HS := Lib.hid hs
      have hlt2 := sumTo_lt l k
      clear hs hc
      generalize l.getD k 0 = c at *
      generalize hq : sumTo l k = q at *
      go_wp2
      go_round
      case rel => exact ⟨k + 1, by omega, by go_num, by rw [HS.out]; simp⟩
      case measure => simp [intOf]; omega
    · go_wp2
      go_ret
      have hkn : k = l.length := by omega
      subst hkn
      exact ⟨rfl, rfl⟩
end Go.Proofs.YtfbppbelcbbhlaaGreatDoor.Sf
