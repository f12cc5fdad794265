/- Words and contracts of calls that the law needs (Word): merged by wip/gen/zmerge.py. No condition but those that each theorem names. -/
import Derived.Laws.BitsAll
import Derived.Test.YtocepiogpeafoaaGreatDoorH05
import Derived.Test.YtocepiogpeafoaaGreatDoorH06
set_option linter.unusedVariables false
/- word.find, fits, Decode: the walks. -/
namespace Go.Proofs.YtocepiogpeafoaaGreatDoor
open Go.RowKit
set_option linter.unusedVariables false
def FindPost (op : Int) (w : World) (e : Ending) (w' : World) : Prop := e = .returned (.tuple #[(tabRow op).val, .int .i64 0]) ∧ Fr E0 w w'
theorem find_no (op : Int) (h : op ≤ 0 ∨ 59 ≤ op) (w : World) : Calls Tryz.prog 155 #[.int .i64 op] w (Ret (.tuple #[.agg #[.string ⟨#[]⟩, .int .i64 0, .int .i64 0, .string ⟨#[]⟩, .string ⟨#[]⟩], .int .i64 60]) E0 w) := by
  rcases h with h | h
  · go_enter Tryz.func155, Tryz.ntmps155
    go_wp2
    exact bodyPost_ret (v := .tuple #[.agg #[.string ⟨#[]⟩, .int .i64 0, .int .i64 0, .string ⟨#[]⟩, .string ⟨#[]⟩], .int .i64 60]) (by simp [results, Tryz.results155, go_sem]) rfl ⟨rfl, Fr.refl.alloc _⟩
  · have h' : ¬ op ≤ 0 := by omega
    go_enter Tryz.func155, Tryz.ntmps155
    go_wp2
    exact bodyPost_ret (v := .tuple #[.agg #[.string ⟨#[]⟩, .int .i64 0, .int .i64 0, .string ⟨#[]⟩, .string ⟨#[]⟩], .int .i64 60]) (by simp [results, Tryz.results155, go_sem]) rfl ⟨rfl, Fr.refl.alloc _⟩
theorem run_index_tab (op : Int) (h1 : 1 ≤ op) (h2 : op ≤ 58) (w : World) : (Instr.index 439 (.agg tab) (.int .i64 (op - 1))).run Tryz.prog w = .ok (.agg #[.string (tabRow op).name, .int .i64 (tabRow op).shape, .int .i64 (tabRow op).cost, .string (tabRow op).reads, .string (tabRow op).writes]) w := by
  have b : op - 1 < 58 := by omega
  simp [Instr.index, go_sem, b, h1]
  exact tab_cut op h1 h2
set_option maxHeartbeats 1000000 in
theorem find_ok (op : Int) (h1 : 1 ≤ op) (h2 : op ≤ 58) (w : World) : Calls Tryz.prog 155 #[.int .i64 op] w (FindPost op w) := by
  have h3 : ¬ op ≤ 0 := by omega
  have h4 : ¬ 59 ≤ op := by omega
  have h5 : (0 : Int) ≤ op - 1 := by omega
  have h6 : op - 1 < 58 := by omega
  have ix : ∀ W, (Instr.index 439 (.agg tab) (.int .i64 (op - 1))).run Tryz.prog W = .ok (.agg #[.string (tabRow op).name, .int .i64 (tabRow op).shape, .int .i64 (tabRow op).cost, .string (tabRow op).reads, .string (tabRow op).writes]) W := run_index_tab op h1 h2
  go_enter Tryz.func155, Tryz.ntmps155
  go_wp2_with (go_at_call 249; refine (table_ok _).mono ?_; rintro e w1 ⟨rfl, hf⟩; obtain ⟨f1, f2, f3⟩ := fcell hf; have HF := hid hf; clear hf)
  exact bodyPost_ret (v := .tuple #[(tabRow op).val, .int .i64 0]) (by simp [results, Tryz.results155, go_sem, f1, Rw.val]) rfl ⟨rfl, by (repeat refine Fr.setCell ?_ _ (.inr (Nat.le_refl _))); exact (Fr.refl.alloc _).trans HF.out⟩
set_option maxHeartbeats 4000000 in
theorem fits_ok (i : Ins) (s : Int) (w : World) (hs : 0 ≤ s ∧ s ≤ 6) (ha : 0 ≤ i.a ∧ i.a < 16) (hb : 0 ≤ i.b ∧ i.b < 16) (hc : 0 ≤ i.c ∧ i.c < 16) (hm : if s = 6 then -32768 ≤ i.imm ∧ i.imm < 32768 else 0 ≤ i.imm ∧ i.imm < 65536) :
    Calls Tryz.prog 156 #[i.val, .int .i64 s] w (Ret (.bool (fitsI i s)) E0 w) := by
  have h : s = 0 ∨ s = 1 ∨ s = 2 ∨ s = 3 ∨ s = 4 ∨ s = 5 ∨ s = 6 := by omega
  rcases h with rfl | rfl | rfl | rfl | rfl | rfl | rfl
  · exact fits0 i w
  · exact fits1 i w ha
  · exact fits2 i w ha hb
  · exact fits3 i w ha hb hc
  · exact fits4 i w ha (by simpa using hm)
  · exact fits5 i w ha (by simpa using hm)
  · exact fits6 i w ha (by simpa using hm)
def FindS (s : Int) (w : World) (e : Ending) (w' : World) : Prop := ∃ nm co rd wr, e = .returned (.tuple #[.agg #[.string nm, .int .i64 s, .int .i64 co, .string rd, .string wr], .int .i64 0]) ∧ Fr E0 w w'
theorem find_sh (op s : Int) (h1 : 1 ≤ op) (h2 : op ≤ 58) (hs : shp op = s) (w : World) : Calls Tryz.prog 155 #[.int .i64 op] w (FindS s w) :=
  (find_ok op h1 h2 w).mono fun e w' ⟨he, hf⟩ => ⟨(tabRow op).name, (tabRow op).cost, (tabRow op).reads, (tabRow op).writes, by rw [he, ← hs, ← tabRow_shape]; rfl, hf⟩
theorem blk5 {w : World} {g : Nat} {t : TypeId} {a b c d e : Value} (h : w.heap[g]? = some (.cells #[a, b, c, d, e] t (0, 0))) :
    w.cell? ⟨g, 0, none⟩ = some a ∧ w.cell? ⟨g, 1, none⟩ = some b ∧ w.cell? ⟨g, 2, none⟩ = some c ∧ w.cell? ⟨g, 3, none⟩ = some d ∧ w.cell? ⟨g, 4, none⟩ = some e ∧ (∀ j, w.frozen? ⟨g, j, none⟩ = false) :=
  ⟨cell_of_row w g 0 _ _ _ h, cell_of_row w g 1 _ _ _ h, cell_of_row w g 2 _ _ _ h, cell_of_row w g 3 _ _ _ h, cell_of_row w g 4 _ _ _ h, fun j => frozen_of_row w g j _ _ h⟩
theorem fcell' {W w1 : World} (h : Fr E0 W w1) {n : Nat} (hn : n = W.heap.size) : (∀ b o, b < n → w1.cell? ⟨b, o, none⟩ = W.cell? ⟨b, o, none⟩) ∧ (∀ b o, b < n → w1.frozen? ⟨b, o, none⟩ = W.frozen? ⟨b, o, none⟩) ∧ n ≤ w1.heap.size := by
  subst hn; exact fcell h
theorem and15 {x : Int} (h0 : 0 ≤ x) (h1 : x < 4294967296) : wrap64 (bits .and .u32 x 15) = x % 16 := by
  rw [u32_and x 15 h0 h1 (by decide) (by decide)]
  show wrap64 (((x.toNat &&& 15 : Nat) : Int)) = _
  rw [nat_mask4]
  unfold wrap64
  omega
theorem and_low {x : Int} (h0 : 0 ≤ x) (h1 : x < 4294967296) : wrap64 (bits .and .u32 x 65535) = x % 65536 := by
  rw [u32_and x 65535 h0 h1 (by decide) (by decide)]
  show wrap64 (((x.toNat &&& 65535 : Nat) : Int)) = _
  rw [nat_mask16]
  unfold wrap64
  omega
theorem and_mid {x : Int} (h0 : 0 ≤ x) (h1 : x < 4294967296) : wrap64 (bits .and .u32 x 65520) = x % 65536 / 16 * 16 := by
  rw [u32_and x 65520 h0 h1 (by decide) (by decide)]
  show wrap64 (((x.toNat &&& 65520 : Nat) : Int)) = _
  have e : x.toNat &&& 65520 = x.toNat % 65536 / 16 * 16 := by
    apply Nat.eq_of_testBit_eq
    intro j
    rw [Nat.testBit_and, show (65520 : Nat) = (2 ^ 12 - 1) * 2 ^ 4 from rfl, Nat.testBit_mul_two_pow, Nat.testBit_two_pow_sub_one, show x.toNat % 65536 / 16 * 16 = (x.toNat % 2 ^ 16 / 2 ^ 4) * 2 ^ 4 from rfl, Nat.testBit_mul_two_pow, Nat.testBit_div_two_pow, Nat.testBit_mod_two_pow]
    by_cases h4 : 4 ≤ j
    · rw [show j - 4 + 4 = j by omega]
      by_cases h16 : j < 16
      · simp [h4, h16, show j - 4 < 12 by omega]
      · simp [h4, h16, show ¬ j - 4 < 12 by omega]
    · simp [h4]
  rw [e]
  unfold wrap64
  omega
set_option maxHeartbeats 1000000 in
theorem decode_op (c : Int) (w : World) (h0 : 0 ≤ c) (h1 : c < 4294967296) (h : c / 16777216 ≤ 0 ∨ 59 ≤ c / 16777216) : Calls Tryz.prog 60 #[.int .u32 c] w (Ret (tup2 insZ.val (.int .i64 60)) E0 w) := by
  have H := hid h
  have hA := and15 (x := c / 1048576) (by omega) (by omega)
  have hB := and15 (x := c / 65536) (by omega) (by omega)
  clear h
  go_enter Tryz.func60, Tryz.ntmps60
  go_wp2_with fail
  refine (find_no _ H.out _).mono ?_
  rintro e w1 ⟨rfl, hf⟩
  obtain ⟨f1, f2, f3⟩ := fcell hf
  have HF := hid hf
  have HG := hid (hf.heapAt (heap_alloc2_old w _ _) (fun x => x))
  clear hf
  have hz : w.heap.size + 1 < w1.heap.size := by simp at f3; omega
  have hz' : w.heap.size < w1.heap.size := by omega
  clear f3
  go_wp2
  exact bodyPost_ret (v := tup2 insZ.val (.int .i64 60)) (res_row2 rfl _ _ w.heap.size 108 _ (0, 0) _ rfl ((heap_alloc_old _ _ (by simpa using hz')).trans (heap_set5 HG.out _ _ _ _ _)) Tryz.underlying108 rfl (by kernel_rfl) rfl) rfl ⟨rfl, by repeat (with_reducible first | exact Fr.refl | refine Fr.alloc ?_ _ | refine Fr.setNew ?_ _ (by simp) | refine Fr.trans ?_ HF.out)⟩
/-- what is told of a word whose operation is there -/
def DecPost (c s : Int) (w : World) (e : Ending) (w' : World) : Prop := e = .returned (if fitsI (decI c s) s then tup2 (decI c s).val (.int .i64 0) else tup2 insZ.val (.int .i64 61)) ∧ Fr E0 w w'
set_option maxHeartbeats 4000000 in
theorem decode_in (c s : Int) (w : World) (h0 : 0 ≤ c) (h1 : c < 4294967296) (ho1 : 1 ≤ c / 16777216) (ho2 : c / 16777216 ≤ 58) (hs : shp (c / 16777216) = s) (hs6 : ((s == 6) : Bool) = false) (hs3 : ((s == 3) : Bool) = false) :
    Calls Tryz.prog 60 #[.int .u32 c] w (DecPost c s w) := by
  have HS := hid hs
  have H6 := hid hs6
  have H3 := hid hs3
  have hr := shp_range (c / 16777216)
  rw [hs] at hr
  have hA := and15 (x := c / 1048576) (by omega) (by omega)
  have hB := and15 (x := c / 65536) (by omega) (by omega)
  have hM := and_low h0 h1
  have HD := hid (show decI c s = ⟨c / 16777216, c / 1048576 % 16, c / 65536 % 16, 0, c % 65536⟩ from by
    have e6 : ¬ s = 6 := by simpa using hs6
    have e3 : ¬ s = 3 := by simpa using hs3
    simp [decI, e6, e3])
  clear hs
  go_enter Tryz.func60, Tryz.ntmps60
  go_wp2_with fail
  refine (find_sh _ s ho1 ho2 HS.out _).mono ?_
  rintro e w1 ⟨nm, co, rd, wr, rfl, hf⟩
  obtain ⟨f1, f2, f3⟩ := fcell hf
  have HF := hid hf
  have HG0 := hid (hf.heapAt (heap_alloc2_old w _ _) (fun x => x))
  have HG1 := hid (hf.heapAt (heap_alloc2_new w _ _) (fun x => x))
  have HG := hid (hf.heapAt (heap_alloc2_old w _ _) (fun x => x))
  have hz : w.heap.size + 1 < w1.heap.size := by simp at f3; omega
  have hz' : w.heap.size < w1.heap.size := by omega
  clear hf f3
  go_wp2_with fail
  refine (fits_ok ⟨_, _, _, _, _⟩ s _ hr ⟨?_, ?_⟩ ⟨?_, ?_⟩ ⟨?_, ?_⟩ ?_).mono ?_
  · show (0 : Int) ≤ c / 1048576 % 16; omega
  · show c / 1048576 % 16 < 16; omega
  · show (0 : Int) ≤ c / 65536 % 16; omega
  · show c / 65536 % 16 < 16; omega
  · show (0 : Int) ≤ 0; omega
  · show (0 : Int) < 16; omega
  · have h6 := H6.out
    rw [if_neg (by simpa using h6)]
    show 0 ≤ c % 65536 ∧ c % 65536 < 65536
    omega
  rintro e w2 ⟨rfl, hf⟩
  have G0 := hid (hf.heapAt ((heap_alloc_old _ _ (by simpa using hz')).trans ((heap_setCell_other _ ⟨w.heap.size + 1, 4, none⟩ _ _ (by simp)).trans HG0.out)) (fun x => x))
  have G1 := hid (hf.heapAt ((heap_alloc_old _ _ (by simpa using hz)).trans (heap_setCell_same _ _ _ _ _ _ HG1.out)) (fun x => x))
  have hz2 : w.heap.size + 1 < w2.heap.size := by have := hf.size; simp at this; omega
  have hz2' : w.heap.size < w2.heap.size := by omega
  have HF2 := hid hf
  clear hf hM hA hB f1 f2
  simp only [Array.setIfInBounds] at G1
  obtain ⟨y0, y1, y2, y3, y4, yf⟩ := blk5 G1.out
  obtain ⟨z0, z1, z2, z3, z4, zf⟩ := blk5 G0.out
  obtain ⟨b, hb⟩ : ∃ b, fitsI ⟨c / 16777216, c / 1048576 % 16, c / 65536 % 16, 0, c % 65536⟩ s = b := ⟨_, rfl⟩
  rw [hb]
  have HB := hid hb
  clear hb
  cases b
  · go_wp2
    exact bodyPost_ret (v := tup2 insZ.val (.int .i64 61)) (res_row2 rfl _ _ w.heap.size 108 _ (0, 0) _ rfl (heap_set5 G0.out _ _ _ _ _) Tryz.underlying108 rfl (by kernel_rfl) rfl) rfl
      ⟨by rw [HD.out, HB.out]; rfl, by repeat (with_reducible first | exact Fr.refl | refine Fr.alloc ?_ _ | refine Fr.setNew ?_ _ (by simp) | refine Fr.trans ?_ HF2.out | refine Fr.trans ?_ HF.out)⟩
  · go_wp2
    exact bodyPost_ret (v := tup2 (decI c s).val (.int .i64 0)) (by rw [HD.out]; exact res_row2 rfl _ _ w.heap.size 108 _ (0, 0) _ rfl (heap_set5 G0.out _ _ _ _ _) Tryz.underlying108 rfl (by kernel_rfl) rfl) rfl
      ⟨by rw [HD.out, HB.out]; rfl, by repeat (with_reducible first | exact Fr.refl | refine Fr.alloc ?_ _ | refine Fr.setNew ?_ _ (by simp) | refine Fr.trans ?_ HF2.out | refine Fr.trans ?_ HF.out)⟩
set_option maxHeartbeats 4000000 in
theorem decode_6 (c : Int) (w : World) (h0 : 0 ≤ c) (h1 : c < 4294967296) (ho1 : 1 ≤ c / 16777216) (ho2 : c / 16777216 ≤ 58) (hs : shp (c / 16777216) = 6) :
    Calls Tryz.prog 60 #[.int .u32 c] w (DecPost c 6 w) := by
  have HS := hid hs
  have hA := and15 (x := c / 1048576) (by omega) (by omega)
  have hB := and15 (x := c / 65536) (by omega) (by omega)
  obtain ⟨m, hm⟩ : ∃ m, m = (if c % 65536 < 32768 then c % 65536 else c % 65536 - 65536) := ⟨_, rfl⟩
  have hm0 : -32768 ≤ m ∧ m < 32768 := by rw [hm]; split <;> omega
  have hM : wrap64 (IntKind.i16.wrap c) = m := by rw [hm]; simp [IntKind.wrap, IntKind.bits, IntKind.signed]; unfold wrap64; split <;> omega
  have HD := hid (show decI c 6 = ⟨c / 16777216, c / 1048576 % 16, c / 65536 % 16, 0, m⟩ from by rw [hm]; rfl)
  obtain ⟨hm0, hm1⟩ := hm0
  clear hm
  clear hs
  go_enter Tryz.func60, Tryz.ntmps60
  go_wp2_with fail
  refine (find_sh _ 6 ho1 ho2 HS.out _).mono ?_
  rintro e w1 ⟨nm, co, rd, wr, rfl, hf⟩
  obtain ⟨f1, f2, f3⟩ := fcell hf
  have HF := hid hf
  have HG0 := hid (hf.heapAt (heap_alloc2_old w _ _) (fun x => x))
  have HG1 := hid (hf.heapAt (heap_alloc2_new w _ _) (fun x => x))
  have HG := hid (hf.heapAt (heap_alloc2_old w _ _) (fun x => x))
  have hz : w.heap.size + 1 < w1.heap.size := by simp at f3; omega
  have hz' : w.heap.size < w1.heap.size := by omega
  clear hf f3
  go_wp2_with fail
  refine (fits_ok ⟨_, _, _, _, _⟩ 6 _ (by decide) ⟨?_, ?_⟩ ⟨?_, ?_⟩ ⟨?_, ?_⟩ ?_).mono ?_
  · show (0 : Int) ≤ c / 1048576 % 16; omega
  · show c / 1048576 % 16 < 16; omega
  · show (0 : Int) ≤ c / 65536 % 16; omega
  · show c / 65536 % 16 < 16; omega
  · show (0 : Int) ≤ 0; omega
  · show (0 : Int) < 16; omega
  · show (if (6 : Int) = 6 then -32768 ≤ m ∧ m < 32768 else 0 ≤ m ∧ m < 65536); rw [if_pos rfl]; exact ⟨hm0, hm1⟩
  rintro e w2 ⟨rfl, hf⟩
  have G0 := hid (hf.heapAt ((heap_alloc_old _ _ (by simpa using hz')).trans ((heap_setCell_other _ ⟨w.heap.size + 1, 4, none⟩ _ _ (by simp)).trans HG0.out)) (fun x => x))
  have G1 := hid (hf.heapAt ((heap_alloc_old _ _ (by simpa using hz)).trans (heap_setCell_same _ _ _ _ _ _ HG1.out)) (fun x => x))
  have hz2 : w.heap.size + 1 < w2.heap.size := by have := hf.size; simp at this; omega
  have hz2' : w.heap.size < w2.heap.size := by omega
  have HF2 := hid hf
  clear hf hM hA hB f1 f2
  simp only [Array.setIfInBounds] at G1
  obtain ⟨y0, y1, y2, y3, y4, yf⟩ := blk5 G1.out
  obtain ⟨z0, z1, z2, z3, z4, zf⟩ := blk5 G0.out
  obtain ⟨b, hb⟩ : ∃ b, fitsI ⟨c / 16777216, c / 1048576 % 16, c / 65536 % 16, 0, m⟩ 6 = b := ⟨_, rfl⟩
  rw [hb]
  have HB := hid hb
  clear hb
  cases b
  · go_wp2
    exact bodyPost_ret (v := tup2 insZ.val (.int .i64 61)) (res_row2 rfl _ _ w.heap.size 108 _ (0, 0) _ rfl (heap_set5 G0.out _ _ _ _ _) Tryz.underlying108 rfl (by kernel_rfl) rfl) rfl
      ⟨by rw [HD.out, HB.out]; rfl, by repeat (with_reducible first | exact Fr.refl | refine Fr.alloc ?_ _ | refine Fr.setNew ?_ _ (by simp) | refine Fr.trans ?_ HF2.out | refine Fr.trans ?_ HF.out)⟩
  · go_wp2
    exact bodyPost_ret (v := tup2 (decI c 6).val (.int .i64 0)) (by rw [HD.out]; exact res_row2 rfl _ _ w.heap.size 108 _ (0, 0) _ rfl (heap_set5 G0.out _ _ _ _ _) Tryz.underlying108 rfl (by kernel_rfl) rfl) rfl
      ⟨by rw [HD.out, HB.out]; rfl, by repeat (with_reducible first | exact Fr.refl | refine Fr.alloc ?_ _ | refine Fr.setNew ?_ _ (by simp) | refine Fr.trans ?_ HF2.out | refine Fr.trans ?_ HF.out)⟩
set_option maxHeartbeats 4000000 in
theorem decode_3 (c : Int) (w : World) (h0 : 0 ≤ c) (h1 : c < 4294967296) (ho1 : 1 ≤ c / 16777216) (ho2 : c / 16777216 ≤ 58) (hs : shp (c / 16777216) = 3) :
    Calls Tryz.prog 60 #[.int .u32 c] w (DecPost c 3 w) := by
  have HS := hid hs
  have hA := and15 (x := c / 1048576) (by omega) (by omega)
  have hB := and15 (x := c / 65536) (by omega) (by omega)
  have hC := and15 (x := c) h0 h1
  have hN := and_mid h0 h1
  have HD := hid (show decI c 3 = ⟨c / 16777216, c / 1048576 % 16, c / 65536 % 16, c % 16, c % 65536 / 16 * 16⟩ from rfl)
  clear hs
  go_enter Tryz.func60, Tryz.ntmps60
  go_wp2_with fail
  refine (find_sh _ 3 ho1 ho2 HS.out _).mono ?_
  rintro e w1 ⟨nm, co, rd, wr, rfl, hf⟩
  obtain ⟨f1, f2, f3⟩ := fcell hf
  have HF := hid hf
  have HG0 := hid (hf.heapAt (heap_alloc2_old w _ _) (fun x => x))
  have HG1 := hid (hf.heapAt (heap_alloc2_new w _ _) (fun x => x))
  have HG := hid (hf.heapAt (heap_alloc2_old w _ _) (fun x => x))
  have hz : w.heap.size + 1 < w1.heap.size := by simp at f3; omega
  have hz' : w.heap.size < w1.heap.size := by omega
  clear hf f3
  go_wp2_with fail
  refine (fits_ok ⟨_, _, _, _, _⟩ 3 _ (by decide) ⟨?_, ?_⟩ ⟨?_, ?_⟩ ⟨?_, ?_⟩ ?_).mono ?_
  · show (0 : Int) ≤ c / 1048576 % 16; omega
  · show c / 1048576 % 16 < 16; omega
  · show (0 : Int) ≤ c / 65536 % 16; omega
  · show c / 65536 % 16 < 16; omega
  · show (0 : Int) ≤ c % 16; omega
  · show c % 16 < 16; omega
  · show (if (3 : Int) = 6 then _ else 0 ≤ c % 65536 / 16 * 16 ∧ c % 65536 / 16 * 16 < 65536); rw [if_neg (by decide)]; omega
  rintro e w2 ⟨rfl, hf⟩
  have G0 := hid (hf.heapAt ((heap_alloc_old _ _ (by simpa using hz')).trans ((heap_setCell_other _ ⟨w.heap.size + 1, 4, none⟩ _ _ (by simp)).trans ((heap_setCell_other _ ⟨w.heap.size + 1, 3, none⟩ _ _ (by simp)).trans HG0.out))) (fun x => x))
  have G1 := hid (hf.heapAt ((heap_alloc_old _ _ (by simpa using hz)).trans (heap_setCell_same _ _ _ _ _ _ (heap_setCell_same _ _ _ _ _ _ HG1.out))) (fun x => x))
  have hz2 : w.heap.size + 1 < w2.heap.size := by have := hf.size; simp at this; omega
  have hz2' : w.heap.size < w2.heap.size := by omega
  have HF2 := hid hf
  clear hf hC hN hA hB f1 f2
  simp only [Array.setIfInBounds] at G1
  obtain ⟨y0, y1, y2, y3, y4, yf⟩ := blk5 G1.out
  obtain ⟨z0, z1, z2, z3, z4, zf⟩ := blk5 G0.out
  obtain ⟨b, hb⟩ : ∃ b, fitsI ⟨c / 16777216, c / 1048576 % 16, c / 65536 % 16, c % 16, c % 65536 / 16 * 16⟩ 3 = b := ⟨_, rfl⟩
  rw [hb]
  have HB := hid hb
  clear hb
  cases b
  · go_wp2
    exact bodyPost_ret (v := tup2 insZ.val (.int .i64 61)) (res_row2 rfl _ _ w.heap.size 108 _ (0, 0) _ rfl (heap_set5 G0.out _ _ _ _ _) Tryz.underlying108 rfl (by kernel_rfl) rfl) rfl
      ⟨by rw [HD.out, HB.out]; rfl, by repeat (with_reducible first | exact Fr.refl | refine Fr.alloc ?_ _ | refine Fr.setNew ?_ _ (by simp) | refine Fr.trans ?_ HF2.out | refine Fr.trans ?_ HF.out)⟩
  · go_wp2
    exact bodyPost_ret (v := tup2 (decI c 3).val (.int .i64 0)) (by rw [HD.out]; exact res_row2 rfl _ _ w.heap.size 108 _ (0, 0) _ rfl (heap_set5 G0.out _ _ _ _ _) Tryz.underlying108 rfl (by kernel_rfl) rfl) rfl
      ⟨by rw [HD.out, HB.out]; rfl, by repeat (with_reducible first | exact Fr.refl | refine Fr.alloc ?_ _ | refine Fr.setNew ?_ _ (by simp) | refine Fr.trans ?_ HF2.out | refine Fr.trans ?_ HF.out)⟩
theorem decode_ok (c : Int) (w : World) (h0 : 0 ≤ c) (h1 : c < 4294967296) : Calls Tryz.prog 60 #[.int .u32 c] w (Ret (tup2 (decR c).1.val (.int .i64 (decR c).2)) E0 w) := by
  by_cases h : c / 16777216 ≤ 0 ∨ 59 ≤ c / 16777216
  · have e : decR c = (insZ, 60) := by unfold decR; rw [if_pos h]
    rw [e]; exact decode_op c w h0 h1 h
  have key : ∀ s, shp (c / 16777216) = s → ∀ e w', DecPost c s w e w' → Ret (tup2 (decR c).1.val (.int .i64 (decR c).2)) E0 w e w' := by
    intro s hs e w' ⟨he, hf⟩
    refine ⟨?_, hf⟩
    rw [he]
    unfold decR
    rw [if_neg h, hs]
    rcases fitsI (decI c s) s with _ | _ <;> rfl
  by_cases h6 : shp (c / 16777216) = 6
  · exact (decode_6 c w h0 h1 (by omega) (by omega) h6).mono (key 6 h6)
  by_cases h3 : shp (c / 16777216) = 3
  · exact (decode_3 c w h0 h1 (by omega) (by omega) h3).mono (key 3 h3)
  exact (decode_in c _ w h0 h1 (by omega) (by omega) rfl (by simpa using h6) (by simpa using h3)).mono (key _ rfl)
end Go.Proofs.YtocepiogpeafoaaGreatDoor
