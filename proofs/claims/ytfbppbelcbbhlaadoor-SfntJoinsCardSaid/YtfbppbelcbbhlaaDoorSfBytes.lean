/- Rows of bytes held against each other: bytes.Equal, calamuskit.SameBytes, bytes.Compare; and sums: bin.Sum, calamusref04.Sum. -/
import Derived.Test.YtfbppbelcbbhlaaDoorSfPut2
import Derived.Laws.BytesArg
import Derived.Laws.Externs
import Derived.Lib.BytesEntry
namespace Go.Proofs.YtfbppbelcbbhlaaDoor.Sf
open Go Go.RowKit

/-- Bytes as a string. -/
def strB (l : List Nat) : ByteArray := strOfNums (l.map fun x : Nat => (x : Int))
theorem strB_toList (l : List Nat) : (strB l).toList = l.map fun n => UInt8.ofNat n := by
  have : (strB l).toList = (strB l).data.toList := by rw [ByteArray.toList_eq]
  rw [this, strB, strOfNums_data, List.map_map]
  rfl
theorem ofNat_inj {a b : Nat} (ha : a < 256) (hb : b < 256) (h : UInt8.ofNat a = UInt8.ofNat b) : a = b := by
  have h1 : (UInt8.ofNat a).toNat = (UInt8.ofNat b).toNat := by rw [h]
  simpa [UInt8.toNat_ofNat, Nat.mod_eq_of_lt ha, Nat.mod_eq_of_lt hb] using h1
theorem map_ofNat_inj : ∀ {l m : List Nat}, (∀ x ∈ l, x < 256) → (∀ x ∈ m, x < 256) → l.map (fun n => UInt8.ofNat n) = m.map (fun n => UInt8.ofNat n) → l = m
  | [], [], _, _, _ => rfl
  | [], _ :: _, _, _, h => by simp at h
  | _ :: _, [], _, _, h => by simp at h
  | a :: l, b :: m, hl, hm, h => by
    simp only [List.map_cons, List.cons.injEq] at h
    rw [ofNat_inj (hl a (by simp)) (hm b (by simp)) h.1, map_ofNat_inj (fun x hx => hl x (by simp [hx])) (fun x hx => hm x (by simp [hx])) h.2]
theorem strB_beq (l m : List Nat) (hl : ∀ x ∈ l, x < 256) (hm : ∀ x ∈ m, x < 256) : ((strB l).toList == (strB m).toList) = decide (l = m) := by
  rw [strB_toList, strB_toList]
  by_cases h : l = m
  · subst h; simp
  · have : ¬ (l.map fun n => UInt8.ofNat n) = (m.map fun n => UInt8.ofNat n) := fun e => h (map_ofNat_inj hl hm e)
    simp [h, this]

theorem Byt.convert {P : Program} {w : World} {A : Option Addr} {cap : Nat} {l : List Nat} (h : Byt w A cap l) (src e dst : TypeId) (hs : P.underlying src = some (.slice e)) (he : P.underlying e = some (.int .u8))
    (hd : P.underlying dst = some .string) : (convert src dst (.slice A l.length cap)).run P w = .ok (.string (strB l)) w := by
  by_cases h0 : l.length = 0
  · have hl : l = [] := List.eq_nil_of_length_eq_zero h0
    subst hl
    cases A with
    | none => exact (run_convert_bytes_nil (P := P) w src e hs he 0 cap dst hd).trans rfl
    | some ad =>
      have hlc : (loadCells ad 0).run P w = .ok (([] : List Value).map id).toArray w := rfl
      rw [show ([] : List Nat).length = 0 from rfl, run_convert_bytes_string w src dst e ad 0 cap hs he hd]
      have := run_bytesToString (P := P) w ad 0 cap ([] : List Int) (by simpa using hlc)
      rw [this]
      rfl
  · obtain ⟨b, bo, rfl, hc⟩ := h.cells h0
    exact run_convert_bytes_arg (P := P) w src e hs he b bo l.length cap (l.map fun x : Nat => (x : Int)) (by simp) (fun i hi => by
      rw [hc i hi]
      simp [List.getD, hi]) dst hd

theorem equal_any (A B : Option Addr) (ca cb : Nat) (l m : List Nat) (w : World) (hl : Byt w A ca l) (hm : Byt w B cb m) :
    Calls Tryd.prog 26 #[.slice A l.length ca, .slice B m.length cb] w fun e w' => e = .returned (.bool (decide (l = m))) ∧ w = w' := by
  have h1 := hl.convert (P := Tryd.prog) 22 5 9 Tryd.underlying22 Tryd.underlying5 Tryd.underlying9
  have h2 := hm.convert (P := Tryd.prog) 22 5 9 Tryd.underlying22 Tryd.underlying5 Tryd.underlying9
  have HE := Lib.hid (strB_beq l m hl.lt hm.lt)
  clear hl hm
  go_enter Tryd.func26, Tryd.ntmps26
  go_wp2
  go_ret
  refine ⟨?_, rfl⟩
  rw [← HE.out]
  rfl
theorem sameBytes_any (A B : Option Addr) (ca cb : Nat) (l m : List Nat) (w : World) (hl : Byt w A ca l) (hm : Byt w B cb m) :
    Calls Tryd.prog 12 #[.slice A l.length ca, .slice B m.length cb] w fun e w' => e = .returned (.bool (decide (l = m))) ∧ w = w' := by
  have h1 := hl.convert (P := Tryd.prog) 22 5 9 Tryd.underlying22 Tryd.underlying5 Tryd.underlying9
  have h2 := hm.convert (P := Tryd.prog) 22 5 9 Tryd.underlying22 Tryd.underlying5 Tryd.underlying9
  have HE := Lib.hid (strB_beq l m hl.lt hm.lt)
  clear hl hm
  go_enter Tryd.func12, Tryd.ntmps12
  go_wp2
  go_ret
  refine ⟨?_, rfl⟩
  rw [← HE.out]
  rfl

/-- Which of two rows comes first. -/
def cmpF (l m : List Nat) : Int := Extern.BytealgCompare.cmp (strB l) (strB m)

theorem Byt.bytesOf {P : Program} {w : World} {A : Option Addr} {cap : Nat} {l : List Nat} (h : Byt w A cap l) : (Extern.Bytes.bytesOf (.slice A l.length cap)).run P w = .ok (strB l) w := by
  by_cases h0 : l.length = 0
  · have hl : l = [] := List.eq_nil_of_length_eq_zero h0
    subst hl
    cases A with
    | none => rfl
    | some ad => rfl
  · obtain ⟨b, bo, rfl, hc⟩ := h.cells h0
    have := Lib.run_loadBytesX (P := P) (w := w) (l.map fun x : Nat => (x : Int)) ⟨b, bo, none⟩ .empty (fun j x hj => by
      rw [add_lit]
      have hjl : j < l.length := by
        rcases Nat.lt_or_ge j l.length with h' | h'
        · exact h'
        · rw [List.getElem?_eq_none (by simpa using h')] at hj; cases hj
      rw [hc j hjl]
      simp [hjl] at hj
      simp [List.getD, hjl, hj])
    rw [List.length_map] at this
    simp only [Extern.Bytes.bytesOf]
    rw [this]
    congr 2
    simp [ByteArray.empty, ByteArray.emptyWithCapacity, Lib.bytesOf]
    rfl

theorem compare_any (A B : Option Addr) (ca cb : Nat) (l m : List Nat) (w : World) (hl : Byt w A ca l) (hm : Byt w B cb m) :
    Calls Tryd.prog 30 #[.slice A l.length ca, .slice B m.length cb] w fun e w' => e = .returned (.int .i64 (cmpF l m)) ∧ w = w' := by
  have hc : (callFunc 54 #[.slice A l.length ca, .slice B m.length cb]).run Tryd.prog w = .ok (.value (.int .i64 (cmpF l m))) w := by
    rw [run_callFunc_extern (e := Extern.BytealgCompare.compare) Tryd.func54 (by kernel_rfl) rfl (by kernel_rfl) (by kernel_rfl)]
    have h1 := hl.bytesOf (P := Tryd.prog)
    have h2 := hm.bytesOf (P := Tryd.prog)
    change (((do pure (goInt (Extern.BytealgCompare.cmp (← Extern.Bytes.bytesOf (.slice A l.length ca)) (← Extern.Bytes.bytesOf (.slice B m.length cb))))) : Sem Value).run Tryd.prog w).andThen _ = _
    simp [h1, h2, cmpF, goInt, Result.andThen]
  clear hl hm
  go_enter Tryd.func30, Tryd.ntmps30
  go_wp2
  go_ret
  exact ⟨rfl, rfl⟩

/-- A table's check. -/
def sumTo (l : List Nat) : Nat → Nat
  | 0 => 0
  | k + 1 => (sumTo l k + (l.getD k 0 * 2 ^ (24 - 8 * (k % 4))) % 4294967296) % 4294967296
def sumF (l : List Nat) : Nat := sumTo l l.length
theorem sumTo_lt (l : List Nat) (k : Nat) : sumTo l k < 4294967296 := by
  cases k with
  | zero => simp [sumTo]
  | succ k => simp only [sumTo]; omega

set_option maxHeartbeats 1000000 in
theorem sum_bin (A : Option Addr) (cap : Nat) (l : List Nat) (w : World) (h : Byt w A cap l) :
    Calls Tryd.prog 15 #[.slice A l.length cap] w fun e w' => e = .returned (.int .u32 (sumF l : Nat)) ∧ w = w' := by
  have hle := h.le
  have hmax := h.max
  have H := Lib.hid h
  clear h
  go_enter Tryd.func15, Tryd.ntmps15
  go_wp2
  go_loop [3, 8] (fun x i => ∃ k : Nat, k ≤ l.length ∧ i = .int .i64 k ∧ x = .int .u32 (sumTo l k : Nat)) (fun _ i => l.length - (intOf i).toNat)
  case atStart => exact ⟨0, Nat.zero_le _, rfl, rfl⟩
  case round =>
    obtain ⟨k, hk, rfl, rfl⟩ := hrel
    by_cases hlt : k < l.length
    · obtain ⟨b, bo, rfl, hc⟩ := H.out.cells (by omega)
      have hcell := hc k hlt
      have h0 : l.getD k 0 < 256 := H.out.lt _ (by simp [List.getD, hlt])
      have hs : sumTo l (k + 1) = (sumTo l k + (l.getD k 0 * 2 ^ (24 - 8 * (k % 4))) % 4294967296) % 4294967296 := rfl
      have HS := Lib.hid hs
      have hlt2 := sumTo_lt l k
      clear hs hc
      generalize l.getD k 0 = c at *
      generalize hq : sumTo l k = q at *
      go_wp2
      go_round
      case rel => exact ⟨k + 1, by omega, by go_num, by rw [HS.out]; simp⟩
      case measure => simp [intOf]; omega
    · go_wp2
      go_ret
      have hkn : k = l.length := by omega
      subst hkn
      exact ⟨rfl, rfl⟩
set_option maxHeartbeats 1000000 in
theorem sum_ref (A : Option Addr) (cap : Nat) (l : List Nat) (w : World) (h : Byt w A cap l) :
    Calls Tryd.prog 46 #[.slice A l.length cap] w fun e w' => e = .returned (.int .u32 (sumF l : Nat)) ∧ w = w' := by
  have hle := h.le
  have hmax := h.max
  have H := Lib.hid h
  clear h
  go_enter Tryd.func46, Tryd.ntmps46
  go_wp2
  go_loop [3, 4] (fun x i => ∃ k : Nat, k ≤ l.length ∧ i = .int .i64 k ∧ x = .int .u32 (sumTo l k : Nat)) (fun _ i => l.length - (intOf i).toNat)
  case atStart => exact ⟨0, Nat.zero_le _, rfl, rfl⟩
  case round =>
    obtain ⟨k, hk, rfl, rfl⟩ := hrel
    by_cases hlt : k < l.length
    · obtain ⟨b, bo, rfl, hc⟩ := H.out.cells (by omega)
      have hcell := hc k hlt
      have h0 : l.getD k 0 < 256 := H.out.lt _ (by simp [List.getD, hlt])
      have hs : sumTo l (k + 1) = (sumTo l k + (l.getD k 0 * 2 ^ (24 - 8 * (k % 4))) % 4294967296) % 4294967296 := rfl
      have HS := Lib.hid hs
      have hlt2 := sumTo_lt l k
      clear hs hc
      generalize l.getD k 0 = c at *
      generalize hq : sumTo l k = q at *
      go_wp2
      go_round
      case rel => exact ⟨k + 1, by omega, by go_num, by rw [HS.out]; simp⟩
      case measure => simp [intOf]; omega
    · go_wp2
      go_ret
      have hkn : k = l.length := by omega
      subst hkn
      exact ⟨rfl, rfl⟩
end Go.Proofs.YtfbppbelcbbhlaaDoor.Sf
