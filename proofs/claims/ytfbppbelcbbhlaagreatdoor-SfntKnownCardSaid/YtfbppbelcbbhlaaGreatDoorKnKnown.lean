/- SfntKnown answers true. -/
import Derived.Test.YtfbppbelcbbhlaaGreatDoorKnTablesK
import Derived.Test.YtfbppbelcbbhlaaGreatDoorKnMaps4K
import Derived.Test.YtfbppbelcbbhlaaGreatDoorKnJoinRW
import Derived.Test.YtfbppbelcbbhlaaGreatDoorKnRound2
namespace Go.Proofs.YtfbppbelcbbhlaaGreatDoor.Sf
open Go Go.RowKit

theorem tags_row {w : World} {b t : Nat} {cs : Array Value} {f : Nat × Nat} (l : List Tg) (h : w.heap[b]? = some (.cells cs t f)) (hc : cs.toList = tgs l) (hok : ∀ t ∈ l, t.ok) (hm : l.length ≤ 9223372036854775807) : TagsR w (some ⟨b, 0, none⟩) l.length l := by
  refine ⟨Nat.le_refl _, hm, by simp, fun _ => ⟨b, 0, rfl, fun i t ht => ?_⟩, hok⟩
  have hg : ∀ j, j < 4 → w.cell? ⟨b, i * 4 + j, none⟩ = t.cells[j]? := fun j hj => by
    rw [cell_of_blk h, ← Array.getElem?_toList, hc]
    exact tgs_at l i t ht j hj
  rw [Nat.zero_add]
  exact ⟨hg 0 (by decide), hg 1 (by decide), hg 2 (by decide), hg 3 (by decide)⟩
theorem TagsR.take {w : World} {A : Option Addr} {c : Nat} {l : List Tg} (h : TagsR w A c l) (i : Nat) : TagsR w A c (l.take i) := by
  have hl : (l.take i).length ≤ l.length := by rw [List.length_take]; omega
  refine ⟨Nat.le_trans hl h.le, h.max, h.nil, fun hn => ?_, fun t ht => h.ok t (List.mem_of_mem_take ht)⟩
  obtain ⟨b, bo, rfl, hc⟩ := h.cells (by omega)
  refine ⟨b, bo, rfl, fun k t ht => hc k t ?_⟩
  rw [List.getElem?_take] at ht
  split at ht
  · exact ht
  · cases ht
theorem TagsR.drop {w : World} {b bo c : Nat} {l : List Tg} (h : TagsR w (some ⟨b, bo, none⟩) c l) (i : Nat) (hi : i < l.length) : TagsR w (some ⟨b, bo + i * 4, none⟩) (c - i) (l.drop i) := by
  have h1 := h.le
  have h2 := h.max
  refine ⟨by rw [List.length_drop]; omega, by omega, by simp, fun hn => ?_, fun t ht => h.ok t (List.mem_of_mem_drop ht)⟩
  obtain ⟨b', bo', hA, hc⟩ := h.cells (by omega)
  cases hA
  refine ⟨b, bo + i * 4, rfl, fun k t ht => ?_⟩
  rw [List.getElem?_drop] at ht
  have := hc (i + k) t ht
  rw [show bo + i * 4 + k * 4 = bo + (i + k) * 4 by omega]
  exact this
theorem bods_row {w : World} {b t : Nat} {cs : Array Value} {f : Nat × Nat} (ls : List (List Nat)) (h : w.heap[b]? = some (.cells cs t f)) (hx : ∀ (i : Nat) (x : List Nat), ls[i]? = some x → ∃ A' c', cs[i]? = some (Value.slice A' x.length c') ∧ Byt w A' c' x) (hm : ls.length ≤ 9223372036854775807) : BodsR w (some ⟨b, 0, none⟩) ls.length ls := by
  refine ⟨Nat.le_refl _, hm, by simp, fun _ => ⟨b, 0, rfl, fun i x hi => ?_⟩⟩
  obtain ⟨A', c', h1, h2⟩ := hx i x hi
  rw [Nat.zero_add]
  exact ⟨A', c', (cell_of_blk h i).trans h1, h2⟩
theorem BodsR.take {w : World} {A : Option Addr} {c : Nat} {l : List (List Nat)} (h : BodsR w A c l) (i : Nat) : BodsR w A c (l.take i) := by
  have hl : (l.take i).length ≤ l.length := by rw [List.length_take]; omega
  refine ⟨Nat.le_trans hl h.le, h.max, h.nil, fun hn => ?_⟩
  obtain ⟨b, bo, rfl, hc⟩ := h.cells (by omega)
  refine ⟨b, bo, rfl, fun k t ht => hc k t ?_⟩
  rw [List.getElem?_take] at ht
  split at ht
  · exact ht
  · cases ht
/-- Names; bodies: how many. -/
def TG (W : World) (A : Option Addr) (c n : Nat) : Prop := ∃ l : List Tg, l.length = n ∧ TagsR W A c l
def BG (W : World) (A : Option Addr) (c n : Nat) : Prop := ∃ l : List (List Nat), l.length = n ∧ BodsR W A c l ∧ ∀ x ∈ l, x.length ≤ 1000
theorem TG.below {W W' : World} {A : Option Addr} {c n : Nat} (h : TG W A c n) (hb : Below W.heap.size W W') : TG W' A c n := by
  obtain ⟨l, h1, h2⟩ := h
  exact ⟨l, h1, h2.kept (kept_of_below hb)⟩
theorem BG.below {W W' : World} {A : Option Addr} {c n : Nat} (h : BG W A c n) (hb : Below W.heap.size W W') : BG W' A c n := by
  obtain ⟨l, h1, h2, h3⟩ := h
  exact ⟨l, h1, h2.kept (kept_of_below hb), h3⟩
theorem TG.take {W : World} {A : Option Addr} {c n : Nat} (h : TG W A c n) (i : Nat) (hi : i ≤ n) : TG W A c i := by
  obtain ⟨l, h1, h2⟩ := h
  exact ⟨l.take i, by rw [List.length_take]; omega, h2.take i⟩
theorem TG.drop {W : World} {b bo c n : Nat} (h : TG W (some ⟨b, bo, none⟩) c n) (i : Nat) (hi : i < n) : TG W (some ⟨b, bo + i * 4, none⟩) (c - i) (n - i) := by
  obtain ⟨l, h1, h2⟩ := h
  exact ⟨l.drop i, by rw [List.length_drop]; omega, h2.drop i (by omega)⟩
theorem BG.take {W : World} {A : Option Addr} {c n : Nat} (h : BG W A c n) (i : Nat) (hi : i ≤ n) : BG W A c i := by
  obtain ⟨l, h1, h2, h3⟩ := h
  exact ⟨l.take i, by rw [List.length_take]; omega, h2.take i, fun x hx => h3 x (List.mem_of_mem_take hx)⟩
theorem TG.zero {W : World} : TG W none 0 0 := ⟨[], rfl, ⟨Nat.le_refl _, by omega, fun _ => rfl, fun h => absurd rfl h, by simp⟩⟩
theorem BG.zero {W : World} : BG W none 0 0 := ⟨[], rfl, ⟨Nat.le_refl _, by omega, fun _ => rfl, fun h => absurd rfl h⟩, by simp⟩
theorem joinsR {A B : Option Addr} {c n d m : Nat} {w : World} (h : TG w A c n) (h2 : BG w B d m) (hd : HdVar w) : Calls Tryz.prog 6 #[.slice A n c, .slice B m d] w fun e w' => e = .returned (.bool true) ∧ Below w.heap.size w w' := by
  obtain ⟨tags, rfl, hT⟩ := h
  obtain ⟨ls, rfl, hB, hx⟩ := h2
  refine joins_law A B c d tags ls w hT hB hd fun k => ?_
  rcases Nat.lt_or_ge k ls.length with hk | hk
  · have : ls.getD k [] ∈ ls := by simp [List.getD, hk]
    have := hx _ this
    omega
  · simp [List.getD, hk]
theorem upTo_le (ls : List (List Nat)) (hx : ∀ x ∈ ls, x.length ≤ 1000) : ∀ k, upTo ls k ≤ 1003 * k
  | 0 => by simp [upTo]
  | k + 1 => by
    have := upTo_le ls hx k
    have hk : (ls.getD k []).length ≤ 1000 := by
      rcases Nat.lt_or_ge k ls.length with hk | hk
      · exact hx _ (by simp [List.getD, hk])
      · simp [List.getD, hk]
    have := up_ge (ls.getD k []).length
    simp only [upTo]
    omega
theorem joinR {A B : Option Addr} {c n d m : Nat} {w : World} (h : TG w A c n) (h2 : BG w B d m) (hm : m ≤ 100) : Calls Tryz.prog 5 #[.slice A n c, .slice B m d] w fun e w' => ∃ (A' : Option Addr) (c' n' : Nat) (v : Int), e = .returned (.tuple #[.slice A' n' c', .int .i64 v]) ∧ n' ≤ 140737488355328 ∧ OB w' w.heap.size A' c' n' ∧ Below w.heap.size w w' := by
  obtain ⟨tags, rfl, hT⟩ := h
  obtain ⟨ls, rfl, hB, hx⟩ := h2
  refine (join_ref A B c d tags ls w hT hB (by have := upTo_le ls hx ls.length; omega)).mono ?_
  intro e w' hp
  rcases hq : joinF tags ls with _ | l
  · rw [hq] at hp
    obtain ⟨rfl, hb⟩ := hp
    exact ⟨none, 0, 0, 2, rfl, by omega, OB.nil, hb⟩
  · rw [hq] at hp
    obtain ⟨A', c', rfl, ho, hb⟩ := hp
    have hok : joinOk tags ls := Classical.byContradiction fun h => by rw [joinF_bad h] at hq; cases hq
    rw [joinF_ok hok] at hq
    cases hq
    have hlt : ∀ l ∈ ls, ∀ x ∈ l, x < 256 := fun l hl => by
      obtain ⟨i, hi, he⟩ := List.getElem_of_mem hl
      obtain ⟨bb, bbo, -, hcells⟩ := hB.cells (by omega)
      obtain ⟨A', c', -, hy⟩ := hcells i l (by rw [List.getElem?_eq_getElem hi, he])
      exact hy.lt
    obtain ⟨ls', HJD⟩ := joined tags ls hok.1 hlt
    have hl := joined_length HJD
    have h1 := hok.1
    have h3 := hok.2.2.1
    have h2 := upTo_le ls hx tags.length
    refine ⟨A', c', (fileB tags ls).length, 0, rfl, by omega, ⟨_, rfl, ho, ?_⟩, hb⟩
    rw [HJD.file]
    exact rawB_lt tags ls' hT.ok HJD.lt
theorem putNAt {w : World} {cs : Array Value} (s : ByteArray) (l : List Int) (n m b : Nat) (hc : (l.map (Value.int .i64)).toArray = cs) (hn : l.length = n) (hl : l.length ≤ 16777216) (hs : l.length = s.size) (hm : ((putAll (planOf s l)).getD []).length = m) (hb : w.heap.size = b) :
    Calls Tryz.prog 4 #[.string s, .slice (some ⟨b, 0, none⟩) n n] (w.alloc (.cells cs 2)) fun e w' => ∃ A' c', e = .returned (.slice A' m c') ∧ OB w' w.heap.size A' c' m ∧ Below w.heap.size w w' := by
  subst hb
  exact putN s l n m hc hn hl hs hm
theorem tg3_ok : ∀ t ∈ [(⟨97, 98, 49, 50⟩ : Tg), ⟨104, 101, 97, 100⟩, ⟨122, 0, 0, 0⟩], t.ok := by
  intro t ht
  simp only [List.mem_cons, List.not_mem_nil, or_false] at ht
  rcases ht with rfl | rfl | rfl <;> exact ⟨by decide, by decide, by decide, by decide⟩
/-- A row of bodies. -/
theorem bods_three {w : World} {b t : Nat} {f : Nat × Nat} {A B C : Option Addr} {c d e n m k : Nat} (h : w.heap[b]? = some (.cells #[.slice A n c, .slice B m d, .slice C k e] t f)) (h1 : RB w A c n) (h2 : RB w B d m) (h3 : RB w C e k) (hn : n ≤ 1000) (hm : m ≤ 1000) (hk : k ≤ 1000) : BG w (some ⟨b, 0, none⟩) 3 3 := by
  obtain ⟨x, rfl, h1⟩ := h1
  obtain ⟨y, rfl, h2⟩ := h2
  obtain ⟨z, rfl, h3⟩ := h3
  refine ⟨[x, y, z], rfl, bods_row [x, y, z] h (fun i u hi => ?_) (by simp), ?_⟩
  · match i, hi with
    | 0, hi => cases hi; exact ⟨_, _, rfl, h1⟩
    | 1, hi => cases hi; exact ⟨_, _, rfl, h2⟩
    | 2, hi => cases hi; exact ⟨_, _, rfl, h3⟩
  · intro u hu
    simp only [List.mem_cons, List.not_mem_nil, or_false] at hu
    rcases hu with rfl | rfl | rfl <;> assumption
theorem bods_1 {w : World} {b t : Nat} {f : Nat × Nat} {A : Option Addr} {c n : Nat} (h : w.heap[b]? = some (.cells #[.slice A n c] t f)) (h1 : RB w A c n) (hn : n ≤ 1000) : BG w (some ⟨b, 0, none⟩) 1 1 := by
  obtain ⟨x, rfl, h1⟩ := h1
  refine ⟨[x], rfl, bods_row [x] h (fun i u hi => ?_) (by simp), ?_⟩
  · match i, hi with
    | 0, hi => cases hi; exact ⟨_, _, rfl, h1⟩
  · intro u hu
    simp only [List.mem_cons, List.not_mem_nil, or_false] at hu
    subst hu
    exact hn
theorem mk_tags (w : World) : (Instr.makeSlice 24 (.int .i64 65) (.int .i64 65)).run Tryz.prog w = .ok (.slice (some ⟨w.heap.size, 0, none⟩) 65 65) (w.alloc (.cells (madeCells #[.int .u8 0, .int .u8 0, .int .u8 0, .int .u8 0] 260) 23)) := by
  obtain ⟨i, hi, hz0, hz1, hz2⟩ := info_parts info_tag
  have := run_make (P := Tryz.prog) w 24 23 i _ Tryz.underlying24 hi hz0 .i64 .i64 65 65 (by decide) (by decide) (by rw [hz2]; decide) (by decide)
  rw [hz1] at this
  exact this
theorem mk_bods (w : World) : (Instr.makeSlice 27 (.int .i64 65) (.int .i64 65)).run Tryz.prog w = .ok (.slice (some ⟨w.heap.size, 0, none⟩) 65 65) (w.alloc (.cells (madeCells #[.slice none 0 0] 65) 25)) := by
  obtain ⟨i, hi, hz0, hz1, hz2⟩ := info_parts info_bs
  have := run_make (P := Tryz.prog) w 27 25 i _ Tryz.underlying27 hi hz0 .i64 .i64 65 65 (by decide) (by decide) (by rw [hz2]; decide) (by decide)
  rw [hz1] at this
  exact this
theorem tg_made {W : World} {b t : Nat} {f : Nat × Nat} (h : W.heap[b]? = some (.cells (madeCells #[.int .u8 0, .int .u8 0, .int .u8 0, .int .u8 0] 260) t f)) : TG W (some ⟨b, 0, none⟩) 65 65 := by
  refine ⟨List.replicate 65 ⟨0, 0, 0, 0⟩, rfl, tags_row (List.replicate 65 ⟨0, 0, 0, 0⟩) h (by kernel_rfl) (fun t ht => ?_) (by simp)⟩
  rw [(List.mem_replicate.1 ht).2]
  exact ⟨by decide, by decide, by decide, by decide⟩
theorem bg_made {W : World} {b t : Nat} {f : Nat × Nat} (h : W.heap[b]? = some (.cells (madeCells #[.slice none 0 0] 65) t f)) : BG W (some ⟨b, 0, none⟩) 65 65 := by
  refine ⟨List.replicate 65 [], rfl, bods_row (List.replicate 65 []) h (fun i x hi => ?_) (by simp), fun x hx => by rw [(List.mem_replicate.1 hx).2]; simp⟩
  rw [List.getElem?_replicate] at hi
  split at hi
  · rename_i h65
    cases hi
    refine ⟨none, 0, ?_, Nat.le_refl _, by omega, fun _ => rfl, fun h => absurd rfl h, by simp⟩
    simp [madeCells, h65, Nat.mod_one]
  · cases hi
theorem RB.made (W : World) (b : Nat) : RB W (some ⟨b, 0, none⟩) 0 0 := ⟨[], rfl, ⟨Nat.le_refl _, by simp, by simp, fun h => absurd rfl h, by simp⟩⟩
set_option maxRecDepth 100000 in
set_option maxHeartbeats 4000000 in
theorem known_true (w : World) (hd : HdVar w) : Calls Tryz.prog 3 #[] w fun e w' => e = .returned (.bool true) ∧ Below w.heap.size w w' := by
  have HD := Lib.hid hd
  clear hd
  go_enter Tryz.func3, Tryz.ntmps3
  go_wp2_with fail
  have h0 := heap_alloc_new w (.cells #[.int .u8 97, .int .u8 98, .int .u8 49, .int .u8 50, .int .u8 104, .int .u8 101, .int .u8 97, .int .u8 100, .int .u8 122, .int .u8 0, .int .u8 0, .int .u8 0] 23)
  have h1 : ((w.alloc (.cells #[.int .u8 97, .int .u8 98, .int .u8 49, .int .u8 50, .int .u8 104, .int .u8 101, .int .u8 97, .int .u8 100, .int .u8 122, .int .u8 0, .int .u8 0, .int .u8 0] 23)).alloc (.cells #[.int .u8 1, .int .u8 2, .int .u8 3] 5)).heap[w.heap.size]? = some (.cells #[.int .u8 97, .int .u8 98, .int .u8 49, .int .u8 50, .int .u8 104, .int .u8 101, .int .u8 97, .int .u8 100, .int .u8 122, .int .u8 0, .int .u8 0, .int .u8 0] 23 (0, 0)) := (World.heap_alloc_lt _ _ (by simp)).trans h0
  have hT : TG ((w.alloc (.cells #[.int .u8 97, .int .u8 98, .int .u8 49, .int .u8 50, .int .u8 104, .int .u8 101, .int .u8 97, .int .u8 100, .int .u8 122, .int .u8 0, .int .u8 0, .int .u8 0] 23)).alloc (.cells #[.int .u8 1, .int .u8 2, .int .u8 3] 5)) (some ⟨w.heap.size, 0, none⟩) 3 3 := ⟨[⟨97, 98, 49, 50⟩, ⟨104, 101, 97, 100⟩, ⟨122, 0, 0, 0⟩], rfl, tags_row [⟨97, 98, 49, 50⟩, ⟨104, 101, 97, 100⟩, ⟨122, 0, 0, 0⟩] h1 rfl tg3_ok (by simp)⟩
  have hR : RB ((w.alloc (.cells #[.int .u8 97, .int .u8 98, .int .u8 49, .int .u8 50, .int .u8 104, .int .u8 101, .int .u8 97, .int .u8 100, .int .u8 122, .int .u8 0, .int .u8 0, .int .u8 0] 23)).alloc (.cells #[.int .u8 1, .int .u8 2, .int .u8 3] 5)) (some ⟨w.heap.size + 1, 0, none⟩) 3 3 := RB.ofListAt [1, 2, 3] (w.alloc (.cells #[.int .u8 97, .int .u8 98, .int .u8 49, .int .u8 50, .int .u8 104, .int .u8 101, .int .u8 97, .int .u8 100, .int .u8 122, .int .u8 0, .int .u8 0, .int .u8 0] 23)) _ (by simp) (by decide) (by decide)
  have hb1 : Below w.heap.size w ((w.alloc (.cells #[.int .u8 97, .int .u8 98, .int .u8 49, .int .u8 50, .int .u8 104, .int .u8 101, .int .u8 97, .int .u8 100, .int .u8 122, .int .u8 0, .int .u8 0, .int .u8 0] 23)).alloc (.cells #[.int .u8 1, .int .u8 2, .int .u8 3] 5)) := ((Below.refl _ _).alloc (Nat.le_refl _) _).alloc (by simp) _
  have hz1 : ((w.alloc (.cells #[.int .u8 97, .int .u8 98, .int .u8 49, .int .u8 50, .int .u8 104, .int .u8 101, .int .u8 97, .int .u8 100, .int .u8 122, .int .u8 0, .int .u8 0, .int .u8 0] 23)).alloc (.cells #[.int .u8 1, .int .u8 2, .int .u8 3] 5)).heap.size = w.heap.size + 1 + 1 := by simp
  generalize ((w.alloc (.cells #[.int .u8 97, .int .u8 98, .int .u8 49, .int .u8 50, .int .u8 104, .int .u8 101, .int .u8 97, .int .u8 100, .int .u8 122, .int .u8 0, .int .u8 0, .int .u8 0] 23)).alloc (.cells #[.int .u8 1, .int .u8 2, .int .u8 3] 5)) = w1 at *
  refine (putNAt (w := w1) ⟨#[73, 73, 73, 73, 73, 73, 73, 73, 73, 73, 73, 73, 73, 72]⟩ [65536, 1, 7, 1594834165, 1000, 0, 0, 0, 0, 0, 0, 0, 0, 5] 14 54 _ rfl rfl (by decide) rfl (by decide +kernel) hz1).mono ?_
  rintro e w2 ⟨A2, c2, rfl, ho2, hb2⟩
  have HB1 := Lib.hid hb1; have HB2 := Lib.hid hb2; have HT := Lib.hid hT; have HR := Lib.hid hR; have HO := Lib.hid ho2; have HC := Lib.hid h1; clear hb1 hb2 hT hR ho2 h0 h1 hz1
  go_wp2_with fail
  have hb3 : Below w2.heap.size w2 ((w2.alloc (.cells #[] 5)).alloc (.cells #[.slice (some ⟨w.heap.size + 1, 0, none⟩) 3 3, .slice A2 54 c2, .slice (some ⟨w2.heap.size, 0, none⟩) 0 0] 25)) := ((Below.refl _ _).alloc (Nat.le_refl _) _).alloc (by simp) _
  have hB : BG ((w2.alloc (.cells #[] 5)).alloc (.cells #[.slice (some ⟨w.heap.size + 1, 0, none⟩) 3 3, .slice A2 54 c2, .slice (some ⟨w2.heap.size, 0, none⟩) 0 0] 25)) (some ⟨w2.heap.size + 1, 0, none⟩) 3 3 := bods_three (heap_new_at _ _ (by simp)) ((HR.out.below HB2.out).below hb3) (HO.out.rb.below hb3) (RB.made _ _) (by decide) (by decide) (by decide)
  generalize ((w2.alloc (.cells #[] 5)).alloc (.cells #[.slice (some ⟨w.heap.size + 1, 0, none⟩) 3 3, .slice A2 54 c2, .slice (some ⟨w2.heap.size, 0, none⟩) 0 0] 25)) = w3 at *
  generalize w2.heap.size + 1 = b2 at *
  have hb13 := HB2.out.trans (hb3.mono HB2.out.size)
  have ht3 := HT.out.below hb13
  have hw3 := HB1.out.trans (hb13.mono HB1.out.size)
  have hd3 := HD.out.kept (kept_of_below hw3)
  have hc3 : w3.heap[w.heap.size]? = _ := (hb13.block w.heap.size (lt_of_heap HC.out)).trans HC.out
  generalize w.heap.size + 1 = b3 at *
  obtain ⟨b1, hb1⟩ : ∃ b, b = w.heap.size := ⟨_, rfl⟩
  rw [← hb1] at ht3 hc3 ⊢
  have HW3 := Lib.hid (show Below w.heap.size w w3 from hw3)
  have HC3 := Lib.hid hc3
  have HFT := Lib.hid (fun (W : World) (h : Below w3.heap.size w3 W) => ht3.below h)
  have HFB := Lib.hid (fun (W : World) (h : Below w3.heap.size w3 W) => hB.below h)
  have HFD := Lib.hid (fun (W : World) (h : Below w3.heap.size w3 W) => hd3.kept (kept_of_below h))
  have HHB := Lib.hid hb1
  clear hb3 hB hb13 ht3 hw3 hd3 hc3 HT HR HO HC hb1
  refine (joinR (HFT.out _ (Below.refl _ _)) (HFB.out _ (Below.refl _ _)) (by decide)).mono ?_
  rintro e w4 ⟨A4, c4, n4, v4, rfl, hn4, ho4, hb4⟩
  have HR4 := Lib.hid ho4.rb; have HO4 := Lib.hid ho4; have HB4 := Lib.hid hb4; clear ho4 hb4
  go_upto_region 4 with (fail)
  have HP0 : Hid (∀ W, Below w4.heap.size w4 W → W.cell? ⟨b1, 0, none⟩ = some (.int .u8 97) ∧ W.cell? ⟨b1, 1, none⟩ = some (.int .u8 98) ∧ W.cell? ⟨b1, 2, none⟩ = some (.int .u8 49) ∧ W.cell? ⟨b1, 3, none⟩ = some (.int .u8 50)) := Lib.hid (fun W hW => by
    have hh := ((HB4.out.trans (hW.mono HB4.out.size)).block b1 (lt_of_heap HC3.out)).trans HC3.out
    exact ⟨(cell_of_blk hh 0).trans rfl, (cell_of_blk hh 1).trans rfl, (cell_of_blk hh 2).trans rfl, (cell_of_blk hh 3).trans rfl⟩)
  have HP1 : Hid (∀ W, Below w4.heap.size w4 W → W.cell? ⟨b1, 4, none⟩ = some (.int .u8 104) ∧ W.cell? ⟨b1, 5, none⟩ = some (.int .u8 101) ∧ W.cell? ⟨b1, 6, none⟩ = some (.int .u8 97) ∧ W.cell? ⟨b1, 7, none⟩ = some (.int .u8 100)) := Lib.hid (fun W hW => by
    have hh := ((HB4.out.trans (hW.mono HB4.out.size)).block b1 (lt_of_heap HC3.out)).trans HC3.out
    exact ⟨(cell_of_blk hh 4).trans rfl, (cell_of_blk hh 5).trans rfl, (cell_of_blk hh 6).trans rfl, (cell_of_blk hh 7).trans rfl⟩)
  go_cut [84] from 22 to 84 (fun v wx => v = .bool false ∧ Below w4.heap.size w4 wx)
  case first =>
    refine wp_region_held_drew (S := fun W => Below w4.heap.size w4 W) (by kernel_rfl) ((Below.refl _ _).drew) (fun hHeld => ?_)
    have HH := Lib.hid hHeld
    generalize w4.drew = wa at *
    refine heldTake 0 22 (v := ?_) rfl rfl (by kernel_rfl) (by kernel_rfl) (by kernel_rfl) (fun _ _ _ h => h) (Or.inl ⟨by rfl, ?_⟩) (by assumption) ?_
    rotate_left
    · intro W hSW
      go_simp
      try with_reducible rfl
    simp only [Act.put, List.setIfInBounds_toArray, List.set_cons_zero, List.set_cons_succ]
    refine heldTake 1 23 (v := ?_) rfl rfl (by kernel_rfl) (by kernel_rfl) (by kernel_rfl) (fun _ _ _ h => h) (Or.inl ⟨by rfl, ?_⟩) (by assumption) ?_
    rotate_left
    · intro W hSW
      go_simp
      try with_reducible rfl
    simp only [Act.put, List.setIfInBounds_toArray, List.set_cons_zero, List.set_cons_succ]
    refine wpAnyH_ready (rs := [2]) (by kernel_rfl) (by simp) ?_
    refine AllReadyH.cons rfl (fun K1 hK1 => ?_) AllReadyH.nil
    go_simp
    refine (joinsR (HFT.out _ (HB4.out.trans (hHeld.mono HB4.out.size))) (HFB.out _ (HB4.out.trans (hHeld.mono HB4.out.size))) (HFD.out _ (HB4.out.trans (hHeld.mono HB4.out.size)))).mono ?_
    rintro e x1 ⟨rfl, hb1⟩
    have hS1 := hHeld.trans (hb1.mono hHeld.size)
    clear hb1
    refine hK1.out _ _ (hS1) (fun hHeld1 => ?_)
    clear hK1 K1
    try simp only [Act.put, List.setIfInBounds_toArray, List.set_cons_zero, List.set_cons_succ]
    refine heldTake 3 25 (v := ?_) rfl rfl (by kernel_rfl) (by kernel_rfl) (by kernel_rfl) (fun _ _ _ h => h) (Or.inl ⟨by rfl, ?_⟩) (by assumption) ?_
    rotate_left
    · intro W hSW
      go_simp
      try with_reducible rfl
    simp only [Act.put, List.setIfInBounds_toArray, List.set_cons_zero, List.set_cons_succ]
    refine heldTake 4 26 (v := ?_) rfl rfl (by kernel_rfl) (by kernel_rfl) (by kernel_rfl) (fun _ _ _ h => h) (Or.inl ⟨by rfl, ?_⟩) (by assumption) ?_
    rotate_left
    · intro W hSW
      go_simp
      try with_reducible rfl
    simp only [Act.put, List.setIfInBounds_toArray, List.set_cons_zero, List.set_cons_succ]
    refine heldTake 5 27 (v := ?_) rfl rfl (by kernel_rfl) (by kernel_rfl) (by kernel_rfl) (fun _ _ _ h => h) (Or.inl ⟨by rfl, ?_⟩) (by assumption) ?_
    rotate_left
    · intro W hSW
      go_simp
      try with_reducible rfl
    simp only [Act.put, List.setIfInBounds_toArray, List.set_cons_zero, List.set_cons_succ]
    refine heldTake 6 28 (v := ?_) rfl rfl (by kernel_rfl) (by kernel_rfl) (by kernel_rfl) (fun _ _ _ h => h) (Or.inl ⟨by rfl, ?_⟩) (by assumption) ?_
    rotate_left
    · intro W hSW
      go_simp
      try with_reducible rfl
    simp only [Act.put, List.setIfInBounds_toArray, List.set_cons_zero, List.set_cons_succ]
    refine heldTake 7 29 (v := ?_) rfl rfl (by kernel_rfl) (by kernel_rfl) (by kernel_rfl) (fun _ _ _ h => h) (Or.inl ⟨by rfl, ?_⟩) (by assumption) ?_
    rotate_left
    · intro W hSW
      go_simp
      try with_reducible rfl
    simp only [Act.put, List.setIfInBounds_toArray, List.set_cons_zero, List.set_cons_succ]
    refine heldTake 8 30 (v := ?_) rfl rfl (by kernel_rfl) (by kernel_rfl) (by kernel_rfl) (fun _ _ _ h => h) (Or.inl ⟨by rfl, ?_⟩) (by assumption) ?_
    rotate_left
    · intro W hSW
      go_simp
      try with_reducible rfl
    simp only [Act.put, List.setIfInBounds_toArray, List.set_cons_zero, List.set_cons_succ]
    refine wpAnyH_ready (rs := [9]) (by kernel_rfl) (by simp) ?_
    refine AllReadyH.cons rfl (fun K1 hK1 => ?_) AllReadyH.nil
    go_simp
    refine (joinsR ((HFT.out _ (HB4.out.trans (hS1.mono HB4.out.size))).take 1 (by decide)) ((HFB.out _ (HB4.out.trans (hS1.mono HB4.out.size))).take 1 (by decide)) (HFD.out _ (HB4.out.trans (hS1.mono HB4.out.size)))).mono ?_
    rintro e x2 ⟨rfl, hb2⟩
    have hS2 := hS1.trans (hb2.mono hS1.size)
    clear hb2
    refine hK1.out _ _ (hS2) (fun hHeld2 => ?_)
    clear hK1 K1
    try simp only [Act.put, List.setIfInBounds_toArray, List.set_cons_zero, List.set_cons_succ]
    refine heldTake 10 32 (v := ?_) rfl rfl (by kernel_rfl) (by kernel_rfl) (by kernel_rfl) (fun _ _ _ h => h) (Or.inl ⟨by rfl, ?_⟩) (by assumption) ?_
    rotate_left
    · intro W hSW
      go_simp
      try with_reducible rfl
    simp only [Act.put, List.setIfInBounds_toArray, List.set_cons_zero, List.set_cons_succ]
    refine heldTake 11 33 (v := ?_) rfl rfl (by kernel_rfl) (by kernel_rfl) (by kernel_rfl) (fun _ _ _ h => h) (Or.inl ⟨by rfl, ?_⟩) (by assumption) ?_
    rotate_left
    · intro W hSW
      go_simp
      try with_reducible rfl
    simp only [Act.put, List.setIfInBounds_toArray, List.set_cons_zero, List.set_cons_succ]
    refine heldTake 12 34 (v := ?_) rfl rfl (by kernel_rfl) (by kernel_rfl) (by kernel_rfl) (fun _ _ _ h => h) (Or.inl ⟨by rfl, ?_⟩) (by assumption) ?_
    rotate_left
    · intro W hSW
      go_simp
      try with_reducible rfl
    simp only [Act.put, List.setIfInBounds_toArray, List.set_cons_zero, List.set_cons_succ]
    refine heldTake 13 35 (v := ?_) rfl rfl (by kernel_rfl) (by kernel_rfl) (by kernel_rfl) (fun _ _ _ h => h) (Or.inl ⟨by rfl, ?_⟩) (by assumption) ?_
    rotate_left
    · intro W hSW
      go_simp
      try with_reducible rfl
    simp only [Act.put, List.setIfInBounds_toArray, List.set_cons_zero, List.set_cons_succ]
    refine heldTake 14 36 (v := ?_) rfl rfl (by kernel_rfl) (by kernel_rfl) (by kernel_rfl) (fun _ _ _ h => h) (Or.inl ⟨by rfl, ?_⟩) (by assumption) ?_
    rotate_left
    · intro W hSW
      go_simp
      try with_reducible rfl
    simp only [Act.put, List.setIfInBounds_toArray, List.set_cons_zero, List.set_cons_succ]
    refine heldTake 15 37 (v := ?_) rfl rfl (by kernel_rfl) (by kernel_rfl) (by kernel_rfl) (fun _ _ _ h => h) (Or.inl ⟨by rfl, ?_⟩) (by assumption) ?_
    rotate_left
    · intro W hSW
      go_simp
      try with_reducible rfl
    simp only [Act.put, List.setIfInBounds_toArray, List.set_cons_zero, List.set_cons_succ]
    refine wpAnyH_ready (rs := [16]) (by kernel_rfl) (by simp) ?_
    refine AllReadyH.cons rfl (fun K1 hK1 => ?_) AllReadyH.nil
    go_simp
    refine (joinsR (HFT.out _ (HB4.out.trans (hS2.mono HB4.out.size))) ((HFB.out _ (HB4.out.trans (hS2.mono HB4.out.size))).take 2 (by decide)) (HFD.out _ (HB4.out.trans (hS2.mono HB4.out.size)))).mono ?_
    rintro e x3 ⟨rfl, hb3⟩
    have hS3 := hS2.trans (hb3.mono hS2.size)
    clear hb3
    refine hK1.out _ _ (hS3) (fun hHeld3 => ?_)
    clear hK1 K1
    try simp only [Act.put, List.setIfInBounds_toArray, List.set_cons_zero, List.set_cons_succ]
    refine heldTake 17 39 (v := ?_) rfl rfl (by kernel_rfl) (by kernel_rfl) (by kernel_rfl) (fun _ _ _ h => h) (Or.inl ⟨by rfl, ?_⟩) (by assumption) ?_
    rotate_left
    · intro W hSW
      go_simp
      try with_reducible rfl
    simp only [Act.put, List.setIfInBounds_toArray, List.set_cons_zero, List.set_cons_succ]
    refine heldTake 18 40 (v := ?_) rfl rfl (by kernel_rfl) (by kernel_rfl) (by kernel_rfl) (fun _ _ _ h => h) (Or.inl ⟨by rfl, ?_⟩) (by assumption) ?_
    rotate_left
    · intro W hSW
      go_simp
      try with_reducible rfl
    simp only [Act.put, List.setIfInBounds_toArray, List.set_cons_zero, List.set_cons_succ]
    refine heldTake 19 41 (v := ?_) rfl rfl (by kernel_rfl) (by kernel_rfl) (by kernel_rfl) (fun _ _ _ h => h) (Or.inl ⟨by rfl, ?_⟩) (by assumption) ?_
    rotate_left
    · intro W hSW
      go_simp
      try with_reducible rfl
    simp only [Act.put, List.setIfInBounds_toArray, List.set_cons_zero, List.set_cons_succ]
    refine wpAnyH_ready (rs := [20]) (by kernel_rfl) (by simp) ?_
    refine AllReadyH.cons rfl (fun K1 hK1 => ?_) AllReadyH.nil
    go_simp
    refine (joinsR TG.zero BG.zero (HFD.out _ (HB4.out.trans (hS3.mono HB4.out.size)))).mono ?_
    rintro e x4 ⟨rfl, hb4⟩
    have hS4 := hS3.trans (hb4.mono hS3.size)
    clear hb4
    refine hK1.out _ _ (hS4) (fun hHeld4 => ?_)
    clear hK1 K1
    try simp only [Act.put, List.setIfInBounds_toArray, List.set_cons_zero, List.set_cons_succ]
    refine heldTake 21 43 (v := ?_) rfl rfl (by kernel_rfl) (by kernel_rfl) (by kernel_rfl) (fun _ _ _ h => h) (Or.inl ⟨by rfl, ?_⟩) (by assumption) ?_
    rotate_left
    · intro W hSW
      go_simp
      try with_reducible rfl
    simp only [Act.put, List.setIfInBounds_toArray, List.set_cons_zero, List.set_cons_succ]
    refine heldTake 22 44 (v := ?_) rfl rfl (by kernel_rfl) (by kernel_rfl) (by kernel_rfl) (fun _ _ _ h => h) (Or.inl ⟨by rfl, ?_⟩) (by assumption) ?_
    rotate_left
    · intro W hSW
      go_simp
      try with_reducible rfl
    simp only [Act.put, List.setIfInBounds_toArray, List.set_cons_zero, List.set_cons_succ]
    refine heldTake 23 45 (v := ?_) rfl rfl (by kernel_rfl) (by kernel_rfl) (by kernel_rfl) (fun _ _ _ h => h) (Or.inl ⟨by rfl, ?_⟩) (by assumption) ?_
    rotate_left
    · intro W hSW
      go_simp
      try with_reducible rfl
    simp only [Act.put, List.setIfInBounds_toArray, List.set_cons_zero, List.set_cons_succ]
    refine heldTake 24 46 (v := ?_) rfl rfl (by kernel_rfl) (by kernel_rfl) (by kernel_rfl) (fun _ _ _ h => h) (Or.inl ⟨by rfl, ?_⟩) (by assumption) ?_
    rotate_left
    · intro W hSW
      go_simp
      try with_reducible rfl
    simp only [Act.put, List.setIfInBounds_toArray, List.set_cons_zero, List.set_cons_succ]
    refine heldTake 25 47 (v := ?_) rfl rfl (by kernel_rfl) (by kernel_rfl) (by kernel_rfl) (fun _ _ _ h => h) (Or.inl ⟨by rfl, ?_⟩) (by assumption) ?_
    rotate_left
    · intro W hSW
      go_simp
      try with_reducible rfl
    simp only [Act.put, List.setIfInBounds_toArray, List.set_cons_zero, List.set_cons_succ]
    refine heldTake 26 48 (v := ?_) rfl rfl (by kernel_rfl) (by kernel_rfl) (by kernel_rfl) (fun _ _ _ h => h) (Or.inl ⟨by rfl, ?_⟩) (by assumption) ?_
    rotate_left
    · intro W hSW
      obtain ⟨p0, p1, p2, p3⟩ := HP1.out W hSW
      go_simp
      try with_reducible rfl
    simp only [Act.put, List.setIfInBounds_toArray, List.set_cons_zero, List.set_cons_succ]
    refine heldTake 27 49 (v := ?_) rfl rfl (by kernel_rfl) (by kernel_rfl) (by kernel_rfl) (fun _ _ _ h => h) (Or.inl ⟨by rfl, ?_⟩) (by assumption) ?_
    rotate_left
    · intro W hSW
      go_simp
      try with_reducible rfl
    simp only [Act.put, List.setIfInBounds_toArray, List.set_cons_zero, List.set_cons_succ]
    refine heldTake 28 50 (v := ?_) rfl rfl (by kernel_rfl) (by kernel_rfl) (by kernel_rfl) (fun _ _ _ h => h) (Or.inl ⟨by rfl, ?_⟩) (by assumption) ?_
    rotate_left
    · intro W hSW
      go_simp
      try with_reducible rfl
    simp only [Act.put, List.setIfInBounds_toArray, List.set_cons_zero, List.set_cons_succ]
    refine heldTake 29 51 (v := ?_) rfl rfl (by kernel_rfl) (by kernel_rfl) (by kernel_rfl) (fun _ _ _ h => h) (Or.inl ⟨by rfl, ?_⟩) (by assumption) ?_
    rotate_left
    · intro W hSW
      obtain ⟨p0, p1, p2, p3⟩ := HP0.out W hSW
      go_simp
      try with_reducible rfl
    simp only [Act.put, List.setIfInBounds_toArray, List.set_cons_zero, List.set_cons_succ]
    refine heldTake 31 53 (v := ?_) rfl rfl (by kernel_rfl) (by kernel_rfl) (by kernel_rfl) (fun _ _ _ h => h) (Or.inl ⟨by rfl, ?_⟩) (by assumption) ?_
    rotate_left
    · intro W hSW
      go_simp
      try with_reducible rfl
    simp only [Act.put, List.setIfInBounds_toArray, List.set_cons_zero, List.set_cons_succ]
    refine heldTake 32 54 (v := ?_) rfl rfl (by kernel_rfl) (by kernel_rfl) (by kernel_rfl) (fun _ _ _ h => h) (Or.inl ⟨by rfl, ?_⟩) (by assumption) ?_
    rotate_left
    · intro W hSW
      go_simp
      try with_reducible rfl
    simp only [Act.put, List.setIfInBounds_toArray, List.set_cons_zero, List.set_cons_succ]
    refine wpAnyH_ready (rs := [30]) (by kernel_rfl) (by simp) ?_
    refine AllReadyH.cons rfl (fun K1 hK1 => ?_) AllReadyH.nil
    go_simp
    have hS5 := hS4.alloc hS4.size (.cells #[.int .u8 104, .int .u8 101, .int .u8 97, .int .u8 100, .int .u8 97, .int .u8 98, .int .u8 49, .int .u8 50] 23)
    refine hK1.out _ _ (hS5) (fun hHeld5 => ?_)
    clear hK1 K1
    try simp only [Act.put, List.setIfInBounds_toArray, List.set_cons_zero, List.set_cons_succ]
    refine wpAnyH_ready (rs := [33]) (by kernel_rfl) (by simp) ?_
    refine AllReadyH.cons rfl (fun K1 hK1 => ?_) AllReadyH.nil
    go_simp
    refine (joinsR ⟨[⟨104, 101, 97, 100⟩, ⟨97, 98, 49, 50⟩], rfl, tags_row [⟨104, 101, 97, 100⟩, ⟨97, 98, 49, 50⟩] (heap_alloc_new _ _) rfl (by intro t ht; simp only [List.mem_cons, List.not_mem_nil, or_false] at ht; rcases ht with rfl | rfl <;> exact ⟨by decide, by decide, by decide, by decide⟩) (by simp)⟩ ((HFB.out _ (HB4.out.trans (hS5.mono HB4.out.size))).take 2 (by decide)) (HFD.out _ (HB4.out.trans (hS5.mono HB4.out.size)))).mono ?_
    rintro e x6 ⟨rfl, hb6⟩
    have hS6 := hS5.trans (hb6.mono hS5.size)
    clear hb6
    refine hK1.out _ _ (hS6) (fun hHeld6 => ?_)
    clear hK1 K1
    try simp only [Act.put, List.setIfInBounds_toArray, List.set_cons_zero, List.set_cons_succ]
    refine heldTake 34 56 (v := ?_) rfl rfl (by kernel_rfl) (by kernel_rfl) (by kernel_rfl) (fun _ _ _ h => h) (Or.inl ⟨by rfl, ?_⟩) (by assumption) ?_
    rotate_left
    · intro W hSW
      go_simp
      try with_reducible rfl
    simp only [Act.put, List.setIfInBounds_toArray, List.set_cons_zero, List.set_cons_succ]
    refine heldTake 35 57 (v := ?_) rfl rfl (by kernel_rfl) (by kernel_rfl) (by kernel_rfl) (fun _ _ _ h => h) (Or.inl ⟨by rfl, ?_⟩) (by assumption) ?_
    rotate_left
    · intro W hSW
      go_simp
      try with_reducible rfl
    simp only [Act.put, List.setIfInBounds_toArray, List.set_cons_zero, List.set_cons_succ]
    refine heldTake 36 58 (v := ?_) rfl rfl (by kernel_rfl) (by kernel_rfl) (by kernel_rfl) (fun _ _ _ h => h) (Or.inl ⟨by rfl, ?_⟩) (by assumption) ?_
    rotate_left
    · intro W hSW
      go_simp
      try with_reducible rfl
    simp only [Act.put, List.setIfInBounds_toArray, List.set_cons_zero, List.set_cons_succ]
    refine heldTake 37 59 (v := ?_) rfl rfl (by kernel_rfl) (by kernel_rfl) (by kernel_rfl) (fun _ _ _ h => h) (Or.inl ⟨by rfl, ?_⟩) (by assumption) ?_
    rotate_left
    · intro W hSW
      go_simp
      try with_reducible rfl
    simp only [Act.put, List.setIfInBounds_toArray, List.set_cons_zero, List.set_cons_succ]
    refine heldTake 38 60 (v := ?_) rfl rfl (by kernel_rfl) (by kernel_rfl) (by kernel_rfl) (fun _ _ _ h => h) (Or.inl ⟨by rfl, ?_⟩) (by assumption) ?_
    rotate_left
    · intro W hSW
      go_simp
      try with_reducible rfl
    simp only [Act.put, List.setIfInBounds_toArray, List.set_cons_zero, List.set_cons_succ]
    refine heldTake 39 61 (v := ?_) rfl rfl (by kernel_rfl) (by kernel_rfl) (by kernel_rfl) (fun _ _ _ h => h) (Or.inl ⟨by rfl, ?_⟩) (by assumption) ?_
    rotate_left
    · intro W hSW
      obtain ⟨p0, p1, p2, p3⟩ := HP1.out W hSW
      go_simp
      try with_reducible rfl
    simp only [Act.put, List.setIfInBounds_toArray, List.set_cons_zero, List.set_cons_succ]
    refine heldTake 40 62 (v := ?_) rfl rfl (by kernel_rfl) (by kernel_rfl) (by kernel_rfl) (fun _ _ _ h => h) (Or.inl ⟨by rfl, ?_⟩) (by assumption) ?_
    rotate_left
    · intro W hSW
      go_simp
      try with_reducible rfl
    simp only [Act.put, List.setIfInBounds_toArray, List.set_cons_zero, List.set_cons_succ]
    refine heldTake 41 63 (v := ?_) rfl rfl (by kernel_rfl) (by kernel_rfl) (by kernel_rfl) (fun _ _ _ h => h) (Or.inl ⟨by rfl, ?_⟩) (by assumption) ?_
    rotate_left
    · intro W hSW
      go_simp
      try with_reducible rfl
    simp only [Act.put, List.setIfInBounds_toArray, List.set_cons_zero, List.set_cons_succ]
    refine heldTake 42 64 (v := ?_) rfl rfl (by kernel_rfl) (by kernel_rfl) (by kernel_rfl) (fun _ _ _ h => h) (Or.inl ⟨by rfl, ?_⟩) (by assumption) ?_
    rotate_left
    · intro W hSW
      obtain ⟨p0, p1, p2, p3⟩ := HP1.out W hSW
      go_simp
      try with_reducible rfl
    simp only [Act.put, List.setIfInBounds_toArray, List.set_cons_zero, List.set_cons_succ]
    refine heldTake 44 66 (v := ?_) rfl rfl (by kernel_rfl) (by kernel_rfl) (by kernel_rfl) (fun _ _ _ h => h) (Or.inl ⟨by rfl, ?_⟩) (by assumption) ?_
    rotate_left
    · intro W hSW
      go_simp
      try with_reducible rfl
    simp only [Act.put, List.setIfInBounds_toArray, List.set_cons_zero, List.set_cons_succ]
    refine heldTake 45 67 (v := ?_) rfl rfl (by kernel_rfl) (by kernel_rfl) (by kernel_rfl) (fun _ _ _ h => h) (Or.inl ⟨by rfl, ?_⟩) (by assumption) ?_
    rotate_left
    · intro W hSW
      go_simp
      try with_reducible rfl
    simp only [Act.put, List.setIfInBounds_toArray, List.set_cons_zero, List.set_cons_succ]
    refine wpAnyH_ready (rs := [43]) (by kernel_rfl) (by simp) ?_
    refine AllReadyH.cons rfl (fun K1 hK1 => ?_) AllReadyH.nil
    go_simp
    have hS7 := hS6.alloc hS6.size (.cells #[.int .u8 104, .int .u8 101, .int .u8 97, .int .u8 100, .int .u8 104, .int .u8 101, .int .u8 97, .int .u8 100] 23)
    refine hK1.out _ _ (hS7) (fun hHeld7 => ?_)
    clear hK1 K1
    try simp only [Act.put, List.setIfInBounds_toArray, List.set_cons_zero, List.set_cons_succ]
    refine wpAnyH_ready (rs := [46]) (by kernel_rfl) (by simp) ?_
    refine AllReadyH.cons rfl (fun K1 hK1 => ?_) AllReadyH.nil
    go_simp
    refine (joinsR ⟨[⟨104, 101, 97, 100⟩, ⟨104, 101, 97, 100⟩], rfl, tags_row [⟨104, 101, 97, 100⟩, ⟨104, 101, 97, 100⟩] (heap_alloc_new _ _) rfl (by intro t ht; simp only [List.mem_cons, List.not_mem_nil, or_false] at ht; rcases ht with rfl | rfl <;> exact ⟨by decide, by decide, by decide, by decide⟩) (by simp)⟩ ((HFB.out _ (HB4.out.trans (hS7.mono HB4.out.size))).take 2 (by decide)) (HFD.out _ (HB4.out.trans (hS7.mono HB4.out.size)))).mono ?_
    rintro e x8 ⟨rfl, hb8⟩
    have hS8 := hS7.trans (hb8.mono hS7.size)
    clear hb8
    refine hK1.out _ _ (hS8) (fun hHeld8 => ?_)
    clear hK1 K1
    try simp only [Act.put, List.setIfInBounds_toArray, List.set_cons_zero, List.set_cons_succ]
    refine heldTake 47 69 (v := ?_) rfl rfl (by kernel_rfl) (by kernel_rfl) (by kernel_rfl) (fun _ _ _ h => h) (Or.inl ⟨by rfl, ?_⟩) (by assumption) ?_
    rotate_left
    · intro W hSW
      go_simp
      try with_reducible rfl
    simp only [Act.put, List.setIfInBounds_toArray, List.set_cons_zero, List.set_cons_succ]
    refine heldTake 48 70 (v := ?_) rfl rfl (by kernel_rfl) (by kernel_rfl) (by kernel_rfl) (fun _ _ _ h => h) (Or.inl ⟨by rfl, ?_⟩) (by assumption) ?_
    rotate_left
    · intro W hSW
      go_simp
      try with_reducible rfl
    simp only [Act.put, List.setIfInBounds_toArray, List.set_cons_zero, List.set_cons_succ]
    refine heldTake 49 71 (v := ?_) rfl rfl (by kernel_rfl) (by kernel_rfl) (by kernel_rfl) (fun _ _ _ h => h) (Or.inl ⟨by rfl, ?_⟩) (by assumption) ?_
    rotate_left
    · intro W hSW
      go_simp
      try with_reducible rfl
    simp only [Act.put, List.setIfInBounds_toArray, List.set_cons_zero, List.set_cons_succ]
    refine heldTake 50 72 (v := ?_) rfl rfl (by kernel_rfl) (by kernel_rfl) (by kernel_rfl) (fun _ _ _ h => h) (Or.inl ⟨by rfl, ?_⟩) (by assumption) ?_
    rotate_left
    · intro W hSW
      go_simp
      try with_reducible rfl
    simp only [Act.put, List.setIfInBounds_toArray, List.set_cons_zero, List.set_cons_succ]
    refine heldTake 51 73 (v := ?_) rfl rfl (by kernel_rfl) (by kernel_rfl) (by kernel_rfl) (fun _ _ _ h => h) (Or.inl ⟨by rfl, ?_⟩) (by assumption) ?_
    rotate_left
    · intro W hSW
      go_simp
      try with_reducible rfl
    simp only [Act.put, List.setIfInBounds_toArray, List.set_cons_zero, List.set_cons_succ]
    refine wpAnyH_ready (rs := [52]) (by kernel_rfl) (by simp) ?_
    refine AllReadyH.cons rfl (fun K1 hK1 => ?_) AllReadyH.nil
    go_simp
    have hS9 := hS8.alloc hS8.size (.cells #[.int .u8 1, .int .u8 2, .int .u8 3, .int .u8 4, .int .u8 5, .int .u8 6, .int .u8 7, .int .u8 8, .int .u8 9, .int .u8 10, .int .u8 11] 5)
    refine hK1.out _ _ (hS9) (fun hHeld9 => ?_)
    clear hK1 K1
    try simp only [Act.put, List.setIfInBounds_toArray, List.set_cons_zero, List.set_cons_succ]
    refine wpAnyH_ready (rs := [53]) (by kernel_rfl) (by simp) ?_
    refine AllReadyH.cons rfl (fun K1 hK1 => ?_) AllReadyH.nil
    go_simp
    have hS10 := hS9.alloc hS9.size (.cells #[.slice (some ⟨x8.heap.size, 0, none⟩) 11 11] 25)
    refine hK1.out _ _ (hS10) (fun hHeld10 => ?_)
    clear hK1 K1
    try simp only [Act.put, List.setIfInBounds_toArray, List.set_cons_zero, List.set_cons_succ]
    refine wpAnyH_ready (rs := [54]) (by kernel_rfl) (by simp) ?_
    refine AllReadyH.cons rfl (fun K1 hK1 => ?_) AllReadyH.nil
    go_simp
    refine (joinsR ((((HFT.out _ (HB4.out.trans (hS10.mono HB4.out.size))).drop 1 (by decide))).take 1 (by decide)) (bods_1 (heap_new_at _ _ (by simp)) ((RB.ofList [1, 2, 3, 4, 5, 6, 7, 8, 9, 10, 11] x8 (by decide) (by decide)).below ((Below.refl _ _).alloc (Nat.le_refl _) _)) (by decide)) (HFD.out _ (HB4.out.trans (hS10.mono HB4.out.size)))).mono ?_
    rintro e x11 ⟨rfl, hb11⟩
    have hS11 := hS10.trans (hb11.mono hS10.size)
    clear hb11
    refine hK1.out _ _ (hS11) (fun hHeld11 => ?_)
    clear hK1 K1
    try simp only [Act.put, List.setIfInBounds_toArray, List.set_cons_zero, List.set_cons_succ]
    refine heldTake 55 77 (v := ?_) rfl rfl (by kernel_rfl) (by kernel_rfl) (by kernel_rfl) (fun _ _ _ h => h) (Or.inl ⟨by rfl, ?_⟩) (by assumption) ?_
    rotate_left
    · intro W hSW
      go_simp
      try with_reducible rfl
    simp only [Act.put, List.setIfInBounds_toArray, List.set_cons_zero, List.set_cons_succ]
    refine heldTake 56 78 (v := ?_) rfl rfl (by kernel_rfl) (by kernel_rfl) (by kernel_rfl) (fun _ _ _ h => h) (Or.inl ⟨by rfl, ?_⟩) (by assumption) ?_
    rotate_left
    · intro W hSW
      go_simp
      try with_reducible rfl
    simp only [Act.put, List.setIfInBounds_toArray, List.set_cons_zero, List.set_cons_succ]
    refine heldTake 57 79 (v := ?_) rfl rfl (by kernel_rfl) (by kernel_rfl) (by kernel_rfl) (fun _ _ _ h => h) (Or.inl ⟨by rfl, ?_⟩) (by assumption) ?_
    rotate_left
    · intro W hSW
      go_simp
      try with_reducible rfl
    simp only [Act.put, List.setIfInBounds_toArray, List.set_cons_zero, List.set_cons_succ]
    refine wpAnyH_ready (rs := [58, 59]) (by kernel_rfl) (by simp) ?_
    refine AllReadyH.cons rfl (fun K1 hK1 => ?_) (AllReadyH.cons rfl (fun K1 hK1 => ?_) AllReadyH.nil)
    ·
      go_simp
      rw [mk_tags]
      go_simp
      have hS12 := hS11.alloc hS11.size (.cells (madeCells #[.int .u8 0, .int .u8 0, .int .u8 0, .int .u8 0] 260) 23)
      refine hK1.out _ _ (hS12) (fun hHeld12 => ?_)
      clear hK1 K1
      try simp only [Act.put, List.setIfInBounds_toArray, List.set_cons_zero, List.set_cons_succ]
      refine wpAnyH_ready (rs := [59]) (by kernel_rfl) (by simp) ?_
      refine AllReadyH.cons rfl (fun K1 hK1 => ?_) AllReadyH.nil
      go_simp
      rw [mk_bods]
      go_simp
      have hS13 := hS12.alloc hS12.size (.cells (madeCells #[.slice none 0 0] 65) 25)
      refine hK1.out _ _ (hS13) (fun hHeld13 => ?_)
      clear hK1 K1
      try simp only [Act.put, List.setIfInBounds_toArray, List.set_cons_zero, List.set_cons_succ]
      refine wpAnyH_ready (rs := [60]) (by kernel_rfl) (by simp) ?_
      refine AllReadyH.cons rfl (fun K1 hK1 => ?_) AllReadyH.nil
      go_simp
      refine (joinsR (tg_made ((World.heap_alloc_lt _ _ (by simp)).trans (heap_alloc_new _ _))) (bg_made (heap_new_at _ _ (by simp))) (HFD.out _ (HB4.out.trans (hS13.mono HB4.out.size)))).mono ?_
      rintro e x14 ⟨rfl, hb14⟩
      have hS14 := hS13.trans (hb14.mono hS13.size)
      clear hb14
      refine hK1.out _ _ (hS14) (fun hHeld14 => ?_)
      clear hK1 K1
      try simp only [Act.put, List.setIfInBounds_toArray, List.set_cons_zero, List.set_cons_succ]
      refine heldTake 61 83 (v := ?_) rfl rfl (by kernel_rfl) (by kernel_rfl) (by kernel_rfl) (fun _ _ _ h => h) (Or.inl ⟨by rfl, ?_⟩) (by assumption) ?_
      rotate_left
      · intro W hSW
        go_simp
        try with_reducible rfl
      simp only [Act.put, List.setIfInBounds_toArray, List.set_cons_zero, List.set_cons_succ]
      refine heldTake 62 84 (v := ?_) rfl rfl (by kernel_rfl) (by kernel_rfl) (by kernel_rfl) (fun _ _ _ h => h) (Or.inl ⟨by rfl, ?_⟩) (by assumption) ?_
      rotate_left
      · intro W hSW
        go_simp
        try with_reducible rfl
      simp only [Act.put, List.setIfInBounds_toArray, List.set_cons_zero, List.set_cons_succ]
      refine wpAnyH_done (by kernel_rfl) ?_ _
      go_wp2_with fail
      go_meet
      case rel => exact ⟨rfl, hS14⟩
    ·
      go_simp
      rw [mk_bods]
      go_simp
      have hS12 := hS11.alloc hS11.size (.cells (madeCells #[.slice none 0 0] 65) 25)
      refine hK1.out _ _ (hS12) (fun hHeld12 => ?_)
      clear hK1 K1
      try simp only [Act.put, List.setIfInBounds_toArray, List.set_cons_zero, List.set_cons_succ]
      refine wpAnyH_ready (rs := [58]) (by kernel_rfl) (by simp) ?_
      refine AllReadyH.cons rfl (fun K1 hK1 => ?_) AllReadyH.nil
      go_simp
      rw [mk_tags]
      go_simp
      have hS13 := hS12.alloc hS12.size (.cells (madeCells #[.int .u8 0, .int .u8 0, .int .u8 0, .int .u8 0] 260) 23)
      refine hK1.out _ _ (hS13) (fun hHeld13 => ?_)
      clear hK1 K1
      try simp only [Act.put, List.setIfInBounds_toArray, List.set_cons_zero, List.set_cons_succ]
      refine wpAnyH_ready (rs := [60]) (by kernel_rfl) (by simp) ?_
      refine AllReadyH.cons rfl (fun K1 hK1 => ?_) AllReadyH.nil
      go_simp
      refine (joinsR (tg_made (heap_new_at _ _ (by simp))) (bg_made ((World.heap_alloc_lt _ _ (by simp)).trans (heap_alloc_new _ _))) (HFD.out _ (HB4.out.trans (hS13.mono HB4.out.size)))).mono ?_
      rintro e x14 ⟨rfl, hb14⟩
      have hS14 := hS13.trans (hb14.mono hS13.size)
      clear hb14
      refine hK1.out _ _ (hS14) (fun hHeld14 => ?_)
      clear hK1 K1
      try simp only [Act.put, List.setIfInBounds_toArray, List.set_cons_zero, List.set_cons_succ]
      refine heldTake 61 83 (v := ?_) rfl rfl (by kernel_rfl) (by kernel_rfl) (by kernel_rfl) (fun _ _ _ h => h) (Or.inl ⟨by rfl, ?_⟩) (by assumption) ?_
      rotate_left
      · intro W hSW
        go_simp
        try with_reducible rfl
      simp only [Act.put, List.setIfInBounds_toArray, List.set_cons_zero, List.set_cons_succ]
      refine heldTake 62 84 (v := ?_) rfl rfl (by kernel_rfl) (by kernel_rfl) (by kernel_rfl) (fun _ _ _ h => h) (Or.inl ⟨by rfl, ?_⟩) (by assumption) ?_
      rotate_left
      · intro W hSW
        go_simp
        try with_reducible rfl
      simp only [Act.put, List.setIfInBounds_toArray, List.set_cons_zero, List.set_cons_succ]
      refine wpAnyH_done (by kernel_rfl) ?_ _
      go_wp2_with fail
      go_meet
      case rel => exact ⟨rfl, hS14⟩
  case rest =>
    obtain ⟨rfl, hbc⟩ := hcut
    have HBC := Lib.hid (HB4.out.trans (hbc.mono HB4.out.size))
    have HRC := Lib.hid (HR4.out.below hbc)
    clear hbc HP0 HP1
    go_wp2_with fail
    go_loopw [5] (fun iv wr => ∃ k : Nat, k ≤ n4 + 1 ∧ iv = .int .i64 k ∧ Below wc.heap.size wc wr) (fun iv _ => n4 + 1 - (intOf iv).toNat)
    case atStart => exact ⟨0, by omega, rfl, Below.refl _ _⟩
    case round =>
      obtain ⟨k, hk, rfl, hbel⟩ := hrel
      have HS := Lib.hid hbel; clear hbel
      have HY := Lib.hid (HBC.out.trans (HS.out.mono HBC.out.size))
      have HRR := Lib.hid (HRC.out.below HS.out)
      rcases (show k = n4 + 1 ∨ k = n4 ∨ k < n4 by omega) with hke | hke | hlt
      rotate_left
      · have d1 : decide ((k : Int) ≤ (n4 : Int)) = true := decide_eq_true (by omega)
        have d2 : decide ((k : Int) < (n4 : Int)) = false := decide_eq_false (by omega)
        have d1b : decide (k ≤ n4) = true := decide_eq_true (by omega)
        have d2b : decide (k < n4) = false := decide_eq_false (by omega)
        have wk : IntKind.i64.wrap ((k : Int) + 1) = ((k + 1 : Nat) : Int) := by rw [IntWalk.i64_in _ (by omega)]; omega
        have HK := Lib.hid hke; clear hke
        have L0 : True := trivial; have HBL0 := Lib.hid (Below.refl wr.heap.size wr)
        go_wp2_with (first | (clear L0; at_builtin; refine wpl_copyR (w0 := wr) rfl _ _ 25 rfl Tryz.underlying25 info_u8 rfl rfl _ _ _ rfl HRR.out (by omega) ?_; intro AL1 cL1 wL1 hoL1 hbL1; have hlL1 := hoL1.le; have HOL1 := Lib.hid hoL1; have hsL1 := hbL1.size; have HWL1 := Lib.hid hbL1; have HBL1 := Lib.hid (HBL0.out.trans (hbL1.mono HBL0.out.size)); clear hoL1 hbL1; have L1 : True := trivial) | (clear L1; go_at_call 7; refine (tabsR HOL1.out.rb (HFD.out _ (HY.out.trans (HBL1.out.mono HY.out.size)))).mono ?_; rintro e wL2 ⟨rfl, hbL2⟩; have HBL2 := Lib.hid (HBL1.out.trans (hbL2.mono HBL1.out.size)); clear hbL2; have L2 : True := trivial))
        have hke := HK.out
        go_roundw
        case rel => exact ⟨k + 1, by omega, by go_num, HS.out.trans (HBL2.out.mono HS.out.size)⟩
        case measure => simp [intOf] <;> omega
      · have d1 : decide ((k : Int) ≤ (n4 : Int)) = true := decide_eq_true (by omega)
        have d2 : decide ((k : Int) < (n4 : Int)) = true := decide_eq_true (by omega)
        have d1b : decide (k ≤ n4) = true := decide_eq_true (by omega)
        have d2b : decide (k < n4) = true := decide_eq_true (by omega)
        obtain ⟨q4, hq4⟩ := HO4.out.pos (by omega)
        subst hq4
        have hl4 := HO4.out.le
        have b0 : (0 : Int) ≤ (k : Int) := by omega
        have b1 : (k : Int) < (n4 : Int) := by omega
        have b2 : (k : Int) ≤ (c4 : Int) := by omega
        have wk : IntKind.i64.wrap ((k : Int) + 1) = ((k + 1 : Nat) : Int) := by rw [IntWalk.i64_in _ (by omega)]; omega
        have M0 : True := trivial; have HBM0 := Lib.hid (Below.refl wr.heap.size wr)
        go_wp2_with (first | (clear M0; at_builtin; refine wpl_copyR (w0 := wr) rfl _ _ 25 rfl Tryz.underlying25 info_u8 rfl rfl _ _ _ rfl HRR.out (by omega) ?_; intro AM1 cM1 wM1 hoM1 hbM1; obtain ⟨qM1, rfl⟩ := hoM1.pos (by omega); have hlM1 := hoM1.le; have HOM1 := Lib.hid hoM1; have hsM1 := hbM1.size; have HWM1 := Lib.hid hbM1; have HBM1 := Lib.hid (HBM0.out.trans (hbM1.mono HBM0.out.size)); clear hoM1 hbM1; obtain ⟨qx, hA, -, hqb, hqs, x, hx, hxc, hxf, hxs⟩ := HOM1.out.at_ k hlt; cases hA; obtain ⟨y, hy, hxy⟩ := xor_lit x hx 1 (by decide) 1 rfl; have HOx := Lib.hid (hxs y hy); have HBx := Lib.hid (HBM1.out.setCell (p := ⟨qM1, k, none⟩) (by exact hqb) (.int .u8 (y : Int))); clear hxs; have M1 : True := trivial) | (clear M1; go_at_call 7; refine (tabsR HOx.out.rb (HFD.out _ (HY.out.trans (HBx.out.mono HY.out.size)))).mono ?_; rintro e wM2 ⟨rfl, hbM2⟩; have HOM2 := Lib.hid (HOx.out.below hbM2); have HBM2 := Lib.hid (HBx.out.trans (hbM2.mono HBx.out.size)); clear hbM2; have M2 : True := trivial) | (clear M2; go_at_call 7; refine (tabsR ((HRR.out.below HBM2.out).take k (by omega)) (HFD.out _ (HY.out.trans (HBM2.out.mono HY.out.size)))).mono ?_; rintro e wM3 ⟨rfl, hbM3⟩; have HOM3 := Lib.hid (HOM2.out.below hbM3); have HBM3 := Lib.hid (HBM2.out.trans (hbM3.mono HBM2.out.size)); clear hbM3; obtain ⟨qx, hA, -, hqb, hqs, x, hx, hxc, hxf, hxs⟩ := HOM3.out.at_ k hlt; cases hA; obtain ⟨y, hy, hxy⟩ := xor_lit x hx 5 (by decide) 5 rfl; have HOx := Lib.hid (hxs y hy); have HBx := Lib.hid (HBM3.out.setCell (p := ⟨qM1, k, none⟩) (by exact hqb) (.int .u8 (y : Int))); clear hxs; have M3 : True := trivial) | (clear M3; go_at_call 7; refine (tabsR HOx.out.rb (HFD.out _ (HY.out.trans (HBx.out.mono HY.out.size)))).mono ?_; rintro e wM4 ⟨rfl, hbM4⟩; have HOM4 := Lib.hid (HOx.out.below hbM4); have HBM4 := Lib.hid (HBx.out.trans (hbM4.mono HBx.out.size)); clear hbM4; have M4 : True := trivial))
        go_roundw
        case rel => exact ⟨k + 1, by omega, by go_num, HS.out.trans (HBM4.out.mono HS.out.size)⟩
        case measure => simp [intOf] <;> omega
      · have d1 : decide ((k : Int) ≤ (n4 : Int)) = false := decide_eq_false (by omega)
        have d1b : decide (k ≤ n4) = false := decide_eq_false (by omega)
        have HK := Lib.hid hke; clear hke
        have Z0 : True := trivial; have HBZ0 := Lib.hid (Below.refl wr.heap.size wr)
        go_wp2_with (first | (clear Z0; go_at_call 8; refine (tables_known _ (HFD.out _ (HY.out.trans (HBZ0.out.mono HY.out.size)))).mono ?_; rintro e wZ1 ⟨rfl, hbZ1⟩; have HBZ1 := Lib.hid (HBZ0.out.trans (hbZ1.mono HBZ0.out.size)); clear hbZ1; have Z1 : True := trivial) | (clear Z1; go_at_call 9; refine (heads_known _ (HFD.out _ (HY.out.trans (HBZ1.out.mono HY.out.size)))).mono ?_; rintro e wZ2 ⟨rfl, hbZ2⟩; have HBZ2 := Lib.hid (HBZ1.out.trans (hbZ2.mono HBZ1.out.size)); clear hbZ2; have Z2 : True := trivial) | (clear Z2; go_at_call 10; refine (maps4_known _ (HFD.out _ (HY.out.trans (HBZ2.out.mono HY.out.size)))).mono ?_; rintro e wZ3 ⟨rfl, hbZ3⟩; have HBZ3 := Lib.hid (HBZ2.out.trans (hbZ3.mono HBZ2.out.size)); clear hbZ3; have Z3 : True := trivial) | (clear Z3; go_at_call 11; refine (maps12_known _ (HFD.out _ (HY.out.trans (HBZ3.out.mono HY.out.size)))).mono ?_; rintro e wZ4 ⟨rfl, hbZ4⟩; have HBZ4 := Lib.hid (HBZ3.out.trans (hbZ4.mono HBZ3.out.size)); clear hbZ4; have Z4 : True := trivial) | (clear Z4; go_at_call 12; refine (works_any _ (HFD.out _ (HY.out.trans (HBZ4.out.mono HY.out.size)))).mono ?_; rintro e wZ5 ⟨rfl, hbZ5⟩; have HBZ5 := Lib.hid (HBZ4.out.trans (hbZ5.mono HBZ4.out.size)); clear hbZ5; have Z5 : True := trivial))
        go_ret
        have hy := HY.out.trans (HBZ5.out.mono HY.out.size)
        exact ⟨rfl, HW3.out.trans (hy.mono HW3.out.size)⟩
end Go.Proofs.YtfbppbelcbbhlaaGreatDoor.Sf
