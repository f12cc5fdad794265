/- Words and contracts of calls that the law needs (Ref6): merged by wip/gen/zmerge.py. No condition but those that each theorem names. -/
import Derived.Test.YtocepiogpeafoaaGreatDoorH02
import Derived.Test.YtocepiogpeafoaaGreatDoorH07
import Derived.Test.YtocepiogpeafoaaGreatDoorH19
set_option linter.unusedVariables false
/- rotaref06.Has, fits, Decode: the walks. Printed by wip/gen/zref6b.py. -/
namespace Go.Proofs.YtocepiogpeafoaaGreatDoor
open Go.RowKit
set_option linter.unusedVariables false
theorem fits6T (n : Int) (w : World) (h0 : 0 ≤ n) : Calls Tryz.prog 322 #[.int .i64 n, .bool true] w fun e w' => e = .returned (.bool (decide (n < 16))) ∧ w = w' := by
  by_cases h1 : n = 0
  · subst h1
    go_enter Tryz.func322, Tryz.ntmps322
    go_wp2
    go_ret
    exact ⟨rfl, rfl⟩
  · have h2 : 0 < n := by omega
    by_cases h3 : n < 16
    · go_enter Tryz.func322, Tryz.ntmps322
      go_wp2
      go_ret
      exact ⟨by simp [h3, show (n == 0) = false by simpa using h1], rfl⟩
    · go_enter Tryz.func322, Tryz.ntmps322
      go_wp2
      go_ret
      exact ⟨by simp [h3, show (n == 0) = false by simpa using h1], rfl⟩
theorem fits6F (n : Int) (w : World) : Calls Tryz.prog 322 #[.int .i64 n, .bool false] w fun e w' => e = .returned (.bool (decide (n = 0))) ∧ w = w' := by
  by_cases h1 : n = 0
  · subst h1
    go_enter Tryz.func322, Tryz.ntmps322
    go_wp2
    go_ret
    exact ⟨rfl, rfl⟩
  · go_enter Tryz.func322, Tryz.ntmps322
    go_wp2
    go_ret
    exact ⟨by simp [h1], rfl⟩
theorem has0 (w : World) : Calls Tryz.prog 321 #[.int .i64 0] w fun e w' => e = .returned (.tuple #[.bool false, .bool false, .bool false, .int .i64 0, .int .i64 0]) ∧ w = w' := by
  go_enter Tryz.func321, Tryz.ntmps321
  go_wp2
  exact bodyPost_ret (v := .tuple #[.bool false, .bool false, .bool false, .int .i64 0, .int .i64 0]) (by simp [results, Tryz.results321, go_sem]) rfl ⟨rfl, rfl⟩
theorem has1 (w : World) : Calls Tryz.prog 321 #[.int .i64 1] w fun e w' => e = .returned (.tuple #[.bool true, .bool false, .bool false, .int .i64 0, .int .i64 0]) ∧ w = w' := by
  go_enter Tryz.func321, Tryz.ntmps321
  go_wp2
  exact bodyPost_ret (v := .tuple #[.bool true, .bool false, .bool false, .int .i64 0, .int .i64 0]) (by simp [results, Tryz.results321, go_sem]) rfl ⟨rfl, rfl⟩
theorem has2 (w : World) : Calls Tryz.prog 321 #[.int .i64 2] w fun e w' => e = .returned (.tuple #[.bool true, .bool true, .bool false, .int .i64 0, .int .i64 0]) ∧ w = w' := by
  go_enter Tryz.func321, Tryz.ntmps321
  go_wp2
  exact bodyPost_ret (v := .tuple #[.bool true, .bool true, .bool false, .int .i64 0, .int .i64 0]) (by simp [results, Tryz.results321, go_sem]) rfl ⟨rfl, rfl⟩
theorem has3 (w : World) : Calls Tryz.prog 321 #[.int .i64 3] w fun e w' => e = .returned (.tuple #[.bool true, .bool true, .bool true, .int .i64 0, .int .i64 0]) ∧ w = w' := by
  go_enter Tryz.func321, Tryz.ntmps321
  go_wp2
  exact bodyPost_ret (v := .tuple #[.bool true, .bool true, .bool true, .int .i64 0, .int .i64 0]) (by simp [results, Tryz.results321, go_sem]) rfl ⟨rfl, rfl⟩
theorem has4 (w : World) : Calls Tryz.prog 321 #[.int .i64 4] w fun e w' => e = .returned (.tuple #[.bool false, .bool false, .bool false, .int .i64 0, .int .i64 65535]) ∧ w = w' := by
  go_enter Tryz.func321, Tryz.ntmps321
  go_wp2
  exact bodyPost_ret (v := .tuple #[.bool false, .bool false, .bool false, .int .i64 0, .int .i64 65535]) (by simp [results, Tryz.results321, go_sem]) rfl ⟨rfl, rfl⟩
theorem has5 (w : World) : Calls Tryz.prog 321 #[.int .i64 5] w fun e w' => e = .returned (.tuple #[.bool true, .bool false, .bool false, .int .i64 0, .int .i64 65535]) ∧ w = w' := by
  go_enter Tryz.func321, Tryz.ntmps321
  go_wp2
  exact bodyPost_ret (v := .tuple #[.bool true, .bool false, .bool false, .int .i64 0, .int .i64 65535]) (by simp [results, Tryz.results321, go_sem]) rfl ⟨rfl, rfl⟩
theorem has6 (w : World) : Calls Tryz.prog 321 #[.int .i64 6] w fun e w' => e = .returned (.tuple #[.bool true, .bool false, .bool false, .int .i64 (-32768), .int .i64 32767]) ∧ w = w' := by
  go_enter Tryz.func321, Tryz.ntmps321
  go_wp2
  exact bodyPost_ret (v := .tuple #[.bool true, .bool false, .bool false, .int .i64 (-32768), .int .i64 32767]) (by simp [results, Tryz.results321, go_sem]) rfl ⟨rfl, rfl⟩
theorem fits6Tt (n : Int) (w : World) (h0 : 0 ≤ n) (h : n < 16) : Calls Tryz.prog 322 #[.int .i64 n, .bool true] w fun e w' => e = .returned (.bool true) ∧ w = w' :=
  (fits6T n w h0).mono fun e w' ⟨he, hw⟩ => ⟨by rw [he]; simp [h], hw⟩
theorem fits6Tf (n : Int) (w : World) (h0 : 0 ≤ n) (h : ¬ n < 16) : Calls Tryz.prog 322 #[.int .i64 n, .bool true] w fun e w' => e = .returned (.bool false) ∧ w = w' :=
  (fits6T n w h0).mono fun e w' ⟨he, hw⟩ => ⟨by rw [he]; simp [h], hw⟩
theorem fits6Ft (n : Int) (w : World) (h : n = 0) : Calls Tryz.prog 322 #[.int .i64 n, .bool false] w fun e w' => e = .returned (.bool true) ∧ w = w' :=
  (fits6F n w).mono fun e w' ⟨he, hw⟩ => ⟨by rw [he]; simp [h], hw⟩
theorem fits6Ff (n : Int) (w : World) (h : ¬ n = 0) : Calls Tryz.prog 322 #[.int .i64 n, .bool false] w fun e w' => e = .returned (.bool false) ∧ w = w' :=
  (fits6F n w).mono fun e w' ⟨he, hw⟩ => ⟨by rw [he]; simp [h], hw⟩
/-- what is told of a word whose operation is there -/
def DecPost6 (c s : Int) (w : World) (e : Ending) (w' : World) : Prop := e = .returned (if fitsI (decI c s) s then tup2 (decI c s).val (.int .i64 0) else tup2 insZ.val (.int .i64 61)) ∧ Fr E0 w w'
theorem dec6_no {c s : Int} {w w' : World} {e : Ending} (he : e = .returned (tup2 insZ.val (.int .i64 61))) (h : fitsI (decI c s) s = false) (hf : Fr E0 w w') : DecPost6 c s w e w' := ⟨by rw [h, he]; rfl, hf⟩
theorem dec6_yes {c s : Int} {w w' : World} {e : Ending} {op a b k m : Int} (he : e = .returned (tup2 (Ins.val ⟨op, a, b, k, m⟩) (.int .i64 0))) (h : fitsI (decI c s) s = true ∧ decI c s = ⟨op, a, b, k, m⟩) (hf : Fr E0 w w') : DecPost6 c s w e w' := ⟨by rw [h.1, he, h.2]; rfl, hf⟩
theorem dec6_op (c : Int) (w : World) (h0 : 0 ≤ c) (h1 : c < 4294967296) (h : c / 16777216 ≤ 0 ∨ 59 ≤ c / 16777216) : Calls Tryz.prog 245 #[.int .u32 c] w (Ret (tup2 insZ.val (.int .i64 60)) E0 w) := by
  have H := hid h
  clear h
  go_enter Tryz.func245, Tryz.ntmps245
  go_wp2_with fail
  refine (rt_no _ H.out _).mono ?_
  rintro e w1 ⟨rfl, hf⟩
  have HF := hid hf
  have HG := hid (hf.heapAt (heap_alloc2_old w _ _) (fun x => x))
  obtain ⟨z0, z1, z2, z3, z4, zf⟩ := blk5 HG.out
  have hz : w.heap.size + 1 < w1.heap.size := by have := hf.size; simp at this; omega
  have hz' : w.heap.size < w1.heap.size := by omega
  clear hf
  go_wp2
  exact bodyPost_ret (v := tup2 insZ.val (.int .i64 60)) (res_row2 rfl _ _ w.heap.size 108 _ (0, 0) _ rfl ((heap_alloc_old _ _ (by simpa using hz')).trans (heap_set5 HG.out _ _ _ _ _)) Tryz.underlying108 rfl (by kernel_rfl) rfl) rfl ⟨rfl, by repeat (with_reducible first | exact Fr.refl | refine Fr.alloc ?_ _ | refine Fr.setNew ?_ _ (by simp) | refine Fr.trans ?_ HF.out)⟩
set_option maxHeartbeats 8000000 in
theorem dec6_0 (c : Int) (w : World) (h0 : 0 ≤ c) (h1 : c < 4294967296) (ho1 : 1 ≤ c / 16777216) (ho2 : c / 16777216 ≤ 58) (hs : shp (c / 16777216) = 0) :
    Calls Tryz.prog 245 #[.int .u32 c] w (DecPost6 c 0 w) := by
  have HS := hid hs
  have hA : 0 ≤ c / 1048576 % 16 ∧ c / 1048576 % 16 < 16 := by omega
  have hB : 0 ≤ c / 65536 % 16 ∧ c / 65536 % 16 < 16 := by omega
  have hL : 0 ≤ c % 65536 ∧ c % 65536 < 65536 := by omega
  obtain ⟨hA0, hA1⟩ := hA
  obtain ⟨hB0, hB1⟩ := hB
  obtain ⟨hL0, hL1⟩ := hL
  clear hs
  by_cases hl : c % 65536 = 0
  · skip
    have Hhl := hid hl
    have hlb : ((c % 65536 != 0) : Bool) = false := by simp [hl]
    clear hl
    by_cases ha : c / 1048576 % 16 = 0
    · skip
      have Hha := hid ha
      clear ha
      by_cases hb : c / 65536 % 16 = 0
      · skip
        have Hhb := hid hb
        clear hb
        go_enter Tryz.func245, Tryz.ntmps245
        go_wp2_with fail
        refine (rt_ok _ 0 ho1 ho2 HS.out _).mono ?_
        rintro e w1 ⟨nm, co, rd, wr, rfl, hf⟩
        have HF := hid hf
        have HG0 := hid (hf.heapAt (heap_alloc2_old w _ _) (fun x => x))
        have HG1 := hid (hf.heapAt (heap_alloc2_new w _ _) (fun x => x))
        have hz : w.heap.size + 1 < w1.heap.size := by have := hf.size; simp at this; omega
        have hz' : w.heap.size < w1.heap.size := by omega
        clear hf
        obtain ⟨y0, y1, y2, y3, y4, yf⟩ := blk5 HG1.out
        obtain ⟨z0, z1, z2, z3, z4, zf⟩ := blk5 HG0.out
        go_wp2_with fail
        refine (has0 _).mono ?_
        rintro e w2 ⟨rfl, rfl⟩
        go_wp2_with fail
        refine (fits6Ft _ _ Hha.out).mono ?_
        rintro e w2 ⟨rfl, rfl⟩
        go_wp2_with fail
        refine (fits6Ft _ _ Hhb.out).mono ?_
        rintro e w2 ⟨rfl, rfl⟩
        go_wp2_with fail
        refine (fits6Ft _ _ rfl).mono ?_
        rintro e w2 ⟨rfl, rfl⟩
        go_wp2
        exact bodyPost_ret (v := tup2 (Ins.val ⟨c / 16777216, c / 1048576 % 16, c / 65536 % 16, 0, 0⟩) (.int .i64 0)) (res_row2 rfl _ _ w.heap.size 108 _ (0, 0) _ rfl ((heap_alloc_old _ _ (by simpa using hz')).trans (heap_set5 (by (repeat rw [heap_setCell_other _ ⟨w.heap.size + 1, _, none⟩ _ _ (by simp)]); exact HG0.out) _ _ _ _ _)) Tryz.underlying108 rfl (by kernel_rfl) rfl) rfl
          (dec6_yes rfl (by (try have hl := Hhl.out); (try have ha := Hha.out); (try have hb := Hhb.out); constructor <;> first | (simp [fitsI, decI]; done) | (simp [fitsI, decI]; omega)) (by repeat (with_reducible first | exact Fr.refl | refine Fr.alloc ?_ _ | refine Fr.setNew ?_ _ (by simp) | refine Fr.trans ?_ HF.out)))
      · skip
        have Hhb := hid hb
        clear hb
        go_enter Tryz.func245, Tryz.ntmps245
        go_wp2_with fail
        refine (rt_ok _ 0 ho1 ho2 HS.out _).mono ?_
        rintro e w1 ⟨nm, co, rd, wr, rfl, hf⟩
        have HF := hid hf
        have HG0 := hid (hf.heapAt (heap_alloc2_old w _ _) (fun x => x))
        have HG1 := hid (hf.heapAt (heap_alloc2_new w _ _) (fun x => x))
        have hz : w.heap.size + 1 < w1.heap.size := by have := hf.size; simp at this; omega
        have hz' : w.heap.size < w1.heap.size := by omega
        clear hf
        obtain ⟨y0, y1, y2, y3, y4, yf⟩ := blk5 HG1.out
        obtain ⟨z0, z1, z2, z3, z4, zf⟩ := blk5 HG0.out
        go_wp2_with fail
        refine (has0 _).mono ?_
        rintro e w2 ⟨rfl, rfl⟩
        go_wp2_with fail
        refine (fits6Ft _ _ Hha.out).mono ?_
        rintro e w2 ⟨rfl, rfl⟩
        go_wp2_with fail
        refine (fits6Ff _ _ Hhb.out).mono ?_
        rintro e w2 ⟨rfl, rfl⟩
        go_wp2
        exact bodyPost_ret (v := tup2 insZ.val (.int .i64 61)) (res_row2 rfl _ _ w.heap.size 108 _ (0, 0) _ rfl ((heap_alloc_old _ _ (by simpa using hz')).trans (heap_set5 (by (repeat rw [heap_setCell_other _ ⟨w.heap.size + 1, _, none⟩ _ _ (by simp)]); exact HG0.out) _ _ _ _ _)) Tryz.underlying108 rfl (by kernel_rfl) rfl) rfl
          (dec6_no rfl (by (try have hl := Hhl.out); (try have ha := Hha.out); (try have hb := Hhb.out); simp [fitsI, decI]; omega) (by repeat (with_reducible first | exact Fr.refl | refine Fr.alloc ?_ _ | refine Fr.setNew ?_ _ (by simp) | refine Fr.trans ?_ HF.out)))
    · skip
      have Hha := hid ha
      clear ha
      go_enter Tryz.func245, Tryz.ntmps245
      go_wp2_with fail
      refine (rt_ok _ 0 ho1 ho2 HS.out _).mono ?_
      rintro e w1 ⟨nm, co, rd, wr, rfl, hf⟩
      have HF := hid hf
      have HG0 := hid (hf.heapAt (heap_alloc2_old w _ _) (fun x => x))
      have HG1 := hid (hf.heapAt (heap_alloc2_new w _ _) (fun x => x))
      have hz : w.heap.size + 1 < w1.heap.size := by have := hf.size; simp at this; omega
      have hz' : w.heap.size < w1.heap.size := by omega
      clear hf
      obtain ⟨y0, y1, y2, y3, y4, yf⟩ := blk5 HG1.out
      obtain ⟨z0, z1, z2, z3, z4, zf⟩ := blk5 HG0.out
      go_wp2_with fail
      refine (has0 _).mono ?_
      rintro e w2 ⟨rfl, rfl⟩
      go_wp2_with fail
      refine (fits6Ff _ _ Hha.out).mono ?_
      rintro e w2 ⟨rfl, rfl⟩
      go_wp2
      exact bodyPost_ret (v := tup2 insZ.val (.int .i64 61)) (res_row2 rfl _ _ w.heap.size 108 _ (0, 0) _ rfl ((heap_alloc_old _ _ (by simpa using hz')).trans (heap_set5 (by (repeat rw [heap_setCell_other _ ⟨w.heap.size + 1, _, none⟩ _ _ (by simp)]); exact HG0.out) _ _ _ _ _)) Tryz.underlying108 rfl (by kernel_rfl) rfl) rfl
        (dec6_no rfl (by (try have hl := Hhl.out); (try have ha := Hha.out); (try have hb := Hhb.out); simp [fitsI, decI]; omega) (by repeat (with_reducible first | exact Fr.refl | refine Fr.alloc ?_ _ | refine Fr.setNew ?_ _ (by simp) | refine Fr.trans ?_ HF.out)))
  · skip
    have Hhl := hid hl
    have hlb : ((c % 65536 != 0) : Bool) = true := by simp [hl]
    clear hl
    go_enter Tryz.func245, Tryz.ntmps245
    go_wp2_with fail
    refine (rt_ok _ 0 ho1 ho2 HS.out _).mono ?_
    rintro e w1 ⟨nm, co, rd, wr, rfl, hf⟩
    have HF := hid hf
    have HG0 := hid (hf.heapAt (heap_alloc2_old w _ _) (fun x => x))
    have HG1 := hid (hf.heapAt (heap_alloc2_new w _ _) (fun x => x))
    have hz : w.heap.size + 1 < w1.heap.size := by have := hf.size; simp at this; omega
    have hz' : w.heap.size < w1.heap.size := by omega
    clear hf
    obtain ⟨y0, y1, y2, y3, y4, yf⟩ := blk5 HG1.out
    obtain ⟨z0, z1, z2, z3, z4, zf⟩ := blk5 HG0.out
    go_wp2_with fail
    refine (has0 _).mono ?_
    rintro e w2 ⟨rfl, rfl⟩
    go_wp2
    exact bodyPost_ret (v := tup2 insZ.val (.int .i64 61)) (res_row2 rfl _ _ w.heap.size 108 _ (0, 0) _ rfl ((heap_alloc_old _ _ (by simpa using hz')).trans (heap_set5 (by (repeat rw [heap_setCell_other _ ⟨w.heap.size + 1, _, none⟩ _ _ (by simp)]); exact HG0.out) _ _ _ _ _)) Tryz.underlying108 rfl (by kernel_rfl) rfl) rfl
      (dec6_no rfl (by (try have hl := Hhl.out); (try have ha := Hha.out); (try have hb := Hhb.out); simp [fitsI, decI]; omega) (by repeat (with_reducible first | exact Fr.refl | refine Fr.alloc ?_ _ | refine Fr.setNew ?_ _ (by simp) | refine Fr.trans ?_ HF.out)))
set_option maxHeartbeats 8000000 in
theorem dec6_1 (c : Int) (w : World) (h0 : 0 ≤ c) (h1 : c < 4294967296) (ho1 : 1 ≤ c / 16777216) (ho2 : c / 16777216 ≤ 58) (hs : shp (c / 16777216) = 1) :
    Calls Tryz.prog 245 #[.int .u32 c] w (DecPost6 c 1 w) := by
  have HS := hid hs
  have hA : 0 ≤ c / 1048576 % 16 ∧ c / 1048576 % 16 < 16 := by omega
  have hB : 0 ≤ c / 65536 % 16 ∧ c / 65536 % 16 < 16 := by omega
  have hL : 0 ≤ c % 65536 ∧ c % 65536 < 65536 := by omega
  obtain ⟨hA0, hA1⟩ := hA
  obtain ⟨hB0, hB1⟩ := hB
  obtain ⟨hL0, hL1⟩ := hL
  clear hs
  by_cases hl : c % 65536 = 0
  · skip
    have Hhl := hid hl
    have hlb : ((c % 65536 != 0) : Bool) = false := by simp [hl]
    clear hl
    by_cases hb : c / 65536 % 16 = 0
    · skip
      have Hhb := hid hb
      clear hb
      go_enter Tryz.func245, Tryz.ntmps245
      go_wp2_with fail
      refine (rt_ok _ 1 ho1 ho2 HS.out _).mono ?_
      rintro e w1 ⟨nm, co, rd, wr, rfl, hf⟩
      have HF := hid hf
      have HG0 := hid (hf.heapAt (heap_alloc2_old w _ _) (fun x => x))
      have HG1 := hid (hf.heapAt (heap_alloc2_new w _ _) (fun x => x))
      have hz : w.heap.size + 1 < w1.heap.size := by have := hf.size; simp at this; omega
      have hz' : w.heap.size < w1.heap.size := by omega
      clear hf
      obtain ⟨y0, y1, y2, y3, y4, yf⟩ := blk5 HG1.out
      obtain ⟨z0, z1, z2, z3, z4, zf⟩ := blk5 HG0.out
      go_wp2_with fail
      refine (has1 _).mono ?_
      rintro e w2 ⟨rfl, rfl⟩
      go_wp2_with fail
      refine (fits6Tt _ _ hA0 hA1).mono ?_
      rintro e w2 ⟨rfl, rfl⟩
      go_wp2_with fail
      refine (fits6Ft _ _ Hhb.out).mono ?_
      rintro e w2 ⟨rfl, rfl⟩
      go_wp2_with fail
      refine (fits6Ft _ _ rfl).mono ?_
      rintro e w2 ⟨rfl, rfl⟩
      go_wp2
      exact bodyPost_ret (v := tup2 (Ins.val ⟨c / 16777216, c / 1048576 % 16, c / 65536 % 16, 0, 0⟩) (.int .i64 0)) (res_row2 rfl _ _ w.heap.size 108 _ (0, 0) _ rfl ((heap_alloc_old _ _ (by simpa using hz')).trans (heap_set5 (by (repeat rw [heap_setCell_other _ ⟨w.heap.size + 1, _, none⟩ _ _ (by simp)]); exact HG0.out) _ _ _ _ _)) Tryz.underlying108 rfl (by kernel_rfl) rfl) rfl
        (dec6_yes rfl (by (try have hl := Hhl.out); (try have hb := Hhb.out); constructor <;> first | (simp [fitsI, decI]; done) | (simp [fitsI, decI]; omega)) (by repeat (with_reducible first | exact Fr.refl | refine Fr.alloc ?_ _ | refine Fr.setNew ?_ _ (by simp) | refine Fr.trans ?_ HF.out)))
    · skip
      have Hhb := hid hb
      clear hb
      go_enter Tryz.func245, Tryz.ntmps245
      go_wp2_with fail
      refine (rt_ok _ 1 ho1 ho2 HS.out _).mono ?_
      rintro e w1 ⟨nm, co, rd, wr, rfl, hf⟩
      have HF := hid hf
      have HG0 := hid (hf.heapAt (heap_alloc2_old w _ _) (fun x => x))
      have HG1 := hid (hf.heapAt (heap_alloc2_new w _ _) (fun x => x))
      have hz : w.heap.size + 1 < w1.heap.size := by have := hf.size; simp at this; omega
      have hz' : w.heap.size < w1.heap.size := by omega
      clear hf
      obtain ⟨y0, y1, y2, y3, y4, yf⟩ := blk5 HG1.out
      obtain ⟨z0, z1, z2, z3, z4, zf⟩ := blk5 HG0.out
      go_wp2_with fail
      refine (has1 _).mono ?_
      rintro e w2 ⟨rfl, rfl⟩
      go_wp2_with fail
      refine (fits6Tt _ _ hA0 hA1).mono ?_
      rintro e w2 ⟨rfl, rfl⟩
      go_wp2_with fail
      refine (fits6Ff _ _ Hhb.out).mono ?_
      rintro e w2 ⟨rfl, rfl⟩
      go_wp2
      exact bodyPost_ret (v := tup2 insZ.val (.int .i64 61)) (res_row2 rfl _ _ w.heap.size 108 _ (0, 0) _ rfl ((heap_alloc_old _ _ (by simpa using hz')).trans (heap_set5 (by (repeat rw [heap_setCell_other _ ⟨w.heap.size + 1, _, none⟩ _ _ (by simp)]); exact HG0.out) _ _ _ _ _)) Tryz.underlying108 rfl (by kernel_rfl) rfl) rfl
        (dec6_no rfl (by (try have hl := Hhl.out); (try have hb := Hhb.out); simp [fitsI, decI]; omega) (by repeat (with_reducible first | exact Fr.refl | refine Fr.alloc ?_ _ | refine Fr.setNew ?_ _ (by simp) | refine Fr.trans ?_ HF.out)))
  · skip
    have Hhl := hid hl
    have hlb : ((c % 65536 != 0) : Bool) = true := by simp [hl]
    clear hl
    go_enter Tryz.func245, Tryz.ntmps245
    go_wp2_with fail
    refine (rt_ok _ 1 ho1 ho2 HS.out _).mono ?_
    rintro e w1 ⟨nm, co, rd, wr, rfl, hf⟩
    have HF := hid hf
    have HG0 := hid (hf.heapAt (heap_alloc2_old w _ _) (fun x => x))
    have HG1 := hid (hf.heapAt (heap_alloc2_new w _ _) (fun x => x))
    have hz : w.heap.size + 1 < w1.heap.size := by have := hf.size; simp at this; omega
    have hz' : w.heap.size < w1.heap.size := by omega
    clear hf
    obtain ⟨y0, y1, y2, y3, y4, yf⟩ := blk5 HG1.out
    obtain ⟨z0, z1, z2, z3, z4, zf⟩ := blk5 HG0.out
    go_wp2_with fail
    refine (has1 _).mono ?_
    rintro e w2 ⟨rfl, rfl⟩
    go_wp2
    exact bodyPost_ret (v := tup2 insZ.val (.int .i64 61)) (res_row2 rfl _ _ w.heap.size 108 _ (0, 0) _ rfl ((heap_alloc_old _ _ (by simpa using hz')).trans (heap_set5 (by (repeat rw [heap_setCell_other _ ⟨w.heap.size + 1, _, none⟩ _ _ (by simp)]); exact HG0.out) _ _ _ _ _)) Tryz.underlying108 rfl (by kernel_rfl) rfl) rfl
      (dec6_no rfl (by (try have hl := Hhl.out); (try have hb := Hhb.out); simp [fitsI, decI]; omega) (by repeat (with_reducible first | exact Fr.refl | refine Fr.alloc ?_ _ | refine Fr.setNew ?_ _ (by simp) | refine Fr.trans ?_ HF.out)))
set_option maxHeartbeats 8000000 in
theorem dec6_2 (c : Int) (w : World) (h0 : 0 ≤ c) (h1 : c < 4294967296) (ho1 : 1 ≤ c / 16777216) (ho2 : c / 16777216 ≤ 58) (hs : shp (c / 16777216) = 2) :
    Calls Tryz.prog 245 #[.int .u32 c] w (DecPost6 c 2 w) := by
  have HS := hid hs
  have hA : 0 ≤ c / 1048576 % 16 ∧ c / 1048576 % 16 < 16 := by omega
  have hB : 0 ≤ c / 65536 % 16 ∧ c / 65536 % 16 < 16 := by omega
  have hL : 0 ≤ c % 65536 ∧ c % 65536 < 65536 := by omega
  obtain ⟨hA0, hA1⟩ := hA
  obtain ⟨hB0, hB1⟩ := hB
  obtain ⟨hL0, hL1⟩ := hL
  clear hs
  by_cases hl : c % 65536 = 0
  · skip
    have Hhl := hid hl
    have hlb : ((c % 65536 != 0) : Bool) = false := by simp [hl]
    clear hl
    go_enter Tryz.func245, Tryz.ntmps245
    go_wp2_with fail
    refine (rt_ok _ 2 ho1 ho2 HS.out _).mono ?_
    rintro e w1 ⟨nm, co, rd, wr, rfl, hf⟩
    have HF := hid hf
    have HG0 := hid (hf.heapAt (heap_alloc2_old w _ _) (fun x => x))
    have HG1 := hid (hf.heapAt (heap_alloc2_new w _ _) (fun x => x))
    have hz : w.heap.size + 1 < w1.heap.size := by have := hf.size; simp at this; omega
    have hz' : w.heap.size < w1.heap.size := by omega
    clear hf
    obtain ⟨y0, y1, y2, y3, y4, yf⟩ := blk5 HG1.out
    obtain ⟨z0, z1, z2, z3, z4, zf⟩ := blk5 HG0.out
    go_wp2_with fail
    refine (has2 _).mono ?_
    rintro e w2 ⟨rfl, rfl⟩
    go_wp2_with fail
    refine (fits6Tt _ _ hA0 hA1).mono ?_
    rintro e w2 ⟨rfl, rfl⟩
    go_wp2_with fail
    refine (fits6Tt _ _ hB0 hB1).mono ?_
    rintro e w2 ⟨rfl, rfl⟩
    go_wp2_with fail
    refine (fits6Ft _ _ rfl).mono ?_
    rintro e w2 ⟨rfl, rfl⟩
    go_wp2
    exact bodyPost_ret (v := tup2 (Ins.val ⟨c / 16777216, c / 1048576 % 16, c / 65536 % 16, 0, 0⟩) (.int .i64 0)) (res_row2 rfl _ _ w.heap.size 108 _ (0, 0) _ rfl ((heap_alloc_old _ _ (by simpa using hz')).trans (heap_set5 (by (repeat rw [heap_setCell_other _ ⟨w.heap.size + 1, _, none⟩ _ _ (by simp)]); exact HG0.out) _ _ _ _ _)) Tryz.underlying108 rfl (by kernel_rfl) rfl) rfl
      (dec6_yes rfl (by (try have hl := Hhl.out); constructor <;> first | (simp [fitsI, decI]; done) | (simp [fitsI, decI]; omega)) (by repeat (with_reducible first | exact Fr.refl | refine Fr.alloc ?_ _ | refine Fr.setNew ?_ _ (by simp) | refine Fr.trans ?_ HF.out)))
  · skip
    have Hhl := hid hl
    have hlb : ((c % 65536 != 0) : Bool) = true := by simp [hl]
    clear hl
    go_enter Tryz.func245, Tryz.ntmps245
    go_wp2_with fail
    refine (rt_ok _ 2 ho1 ho2 HS.out _).mono ?_
    rintro e w1 ⟨nm, co, rd, wr, rfl, hf⟩
    have HF := hid hf
    have HG0 := hid (hf.heapAt (heap_alloc2_old w _ _) (fun x => x))
    have HG1 := hid (hf.heapAt (heap_alloc2_new w _ _) (fun x => x))
    have hz : w.heap.size + 1 < w1.heap.size := by have := hf.size; simp at this; omega
    have hz' : w.heap.size < w1.heap.size := by omega
    clear hf
    obtain ⟨y0, y1, y2, y3, y4, yf⟩ := blk5 HG1.out
    obtain ⟨z0, z1, z2, z3, z4, zf⟩ := blk5 HG0.out
    go_wp2_with fail
    refine (has2 _).mono ?_
    rintro e w2 ⟨rfl, rfl⟩
    go_wp2
    exact bodyPost_ret (v := tup2 insZ.val (.int .i64 61)) (res_row2 rfl _ _ w.heap.size 108 _ (0, 0) _ rfl ((heap_alloc_old _ _ (by simpa using hz')).trans (heap_set5 (by (repeat rw [heap_setCell_other _ ⟨w.heap.size + 1, _, none⟩ _ _ (by simp)]); exact HG0.out) _ _ _ _ _)) Tryz.underlying108 rfl (by kernel_rfl) rfl) rfl
      (dec6_no rfl (by (try have hl := Hhl.out); simp [fitsI, decI]; omega) (by repeat (with_reducible first | exact Fr.refl | refine Fr.alloc ?_ _ | refine Fr.setNew ?_ _ (by simp) | refine Fr.trans ?_ HF.out)))
set_option maxHeartbeats 8000000 in
theorem dec6_3 (c : Int) (w : World) (h0 : 0 ≤ c) (h1 : c < 4294967296) (ho1 : 1 ≤ c / 16777216) (ho2 : c / 16777216 ≤ 58) (hs : shp (c / 16777216) = 3) :
    Calls Tryz.prog 245 #[.int .u32 c] w (DecPost6 c 3 w) := by
  have HS := hid hs
  have hA : 0 ≤ c / 1048576 % 16 ∧ c / 1048576 % 16 < 16 := by omega
  have hB : 0 ≤ c / 65536 % 16 ∧ c / 65536 % 16 < 16 := by omega
  have hL : 0 ≤ c % 65536 ∧ c % 65536 < 65536 := by omega
  obtain ⟨hA0, hA1⟩ := hA
  obtain ⟨hB0, hB1⟩ := hB
  obtain ⟨hL0, hL1⟩ := hL
  clear hs
  by_cases hc : c % 65536 < 16
  · skip
    have Hhc := hid hc
    clear hc
    go_enter Tryz.func245, Tryz.ntmps245
    go_wp2_with fail
    refine (rt_ok _ 3 ho1 ho2 HS.out _).mono ?_
    rintro e w1 ⟨nm, co, rd, wr, rfl, hf⟩
    have HF := hid hf
    have HG0 := hid (hf.heapAt (heap_alloc2_old w _ _) (fun x => x))
    have HG1 := hid (hf.heapAt (heap_alloc2_new w _ _) (fun x => x))
    have hz : w.heap.size + 1 < w1.heap.size := by have := hf.size; simp at this; omega
    have hz' : w.heap.size < w1.heap.size := by omega
    clear hf
    obtain ⟨y0, y1, y2, y3, y4, yf⟩ := blk5 HG1.out
    obtain ⟨z0, z1, z2, z3, z4, zf⟩ := blk5 HG0.out
    go_wp2_with fail
    refine (has3 _).mono ?_
    rintro e w2 ⟨rfl, rfl⟩
    go_wp2_with fail
    refine (fits6Tt _ _ hA0 hA1).mono ?_
    rintro e w2 ⟨rfl, rfl⟩
    go_wp2_with fail
    refine (fits6Tt _ _ hB0 hB1).mono ?_
    rintro e w2 ⟨rfl, rfl⟩
    go_wp2_with fail
    refine (fits6Tt _ _ hL0 (by have := Hhc.out; omega)).mono ?_
    rintro e w2 ⟨rfl, rfl⟩
    go_wp2
    exact bodyPost_ret (v := tup2 (Ins.val ⟨c / 16777216, c / 1048576 % 16, c / 65536 % 16, c % 65536, 0⟩) (.int .i64 0)) (res_row2 rfl _ _ w.heap.size 108 _ (0, 0) _ rfl ((heap_alloc_old _ _ (by simpa using hz')).trans (heap_set5 (by (repeat rw [heap_setCell_other _ ⟨w.heap.size + 1, _, none⟩ _ _ (by simp)]); exact HG0.out) _ _ _ _ _)) Tryz.underlying108 rfl (by kernel_rfl) rfl) rfl
      (dec6_yes rfl (by (try have hc := Hhc.out); constructor <;> first | (simp [fitsI, decI]; done) | (simp [fitsI, decI]; omega)) (by repeat (with_reducible first | exact Fr.refl | refine Fr.alloc ?_ _ | refine Fr.setNew ?_ _ (by simp) | refine Fr.trans ?_ HF.out)))
  · skip
    have Hhc := hid hc
    clear hc
    go_enter Tryz.func245, Tryz.ntmps245
    go_wp2_with fail
    refine (rt_ok _ 3 ho1 ho2 HS.out _).mono ?_
    rintro e w1 ⟨nm, co, rd, wr, rfl, hf⟩
    have HF := hid hf
    have HG0 := hid (hf.heapAt (heap_alloc2_old w _ _) (fun x => x))
    have HG1 := hid (hf.heapAt (heap_alloc2_new w _ _) (fun x => x))
    have hz : w.heap.size + 1 < w1.heap.size := by have := hf.size; simp at this; omega
    have hz' : w.heap.size < w1.heap.size := by omega
    clear hf
    obtain ⟨y0, y1, y2, y3, y4, yf⟩ := blk5 HG1.out
    obtain ⟨z0, z1, z2, z3, z4, zf⟩ := blk5 HG0.out
    go_wp2_with fail
    refine (has3 _).mono ?_
    rintro e w2 ⟨rfl, rfl⟩
    go_wp2_with fail
    refine (fits6Tt _ _ hA0 hA1).mono ?_
    rintro e w2 ⟨rfl, rfl⟩
    go_wp2_with fail
    refine (fits6Tt _ _ hB0 hB1).mono ?_
    rintro e w2 ⟨rfl, rfl⟩
    go_wp2_with fail
    refine (fits6Tf _ _ hL0 (by have := Hhc.out; omega)).mono ?_
    rintro e w2 ⟨rfl, rfl⟩
    go_wp2
    exact bodyPost_ret (v := tup2 insZ.val (.int .i64 61)) (res_row2 rfl _ _ w.heap.size 108 _ (0, 0) _ rfl ((heap_alloc_old _ _ (by simpa using hz')).trans (heap_set5 (by (repeat rw [heap_setCell_other _ ⟨w.heap.size + 1, _, none⟩ _ _ (by simp)]); exact HG0.out) _ _ _ _ _)) Tryz.underlying108 rfl (by kernel_rfl) rfl) rfl
      (dec6_no rfl (by (try have hc := Hhc.out); simp [fitsI, decI]; omega) (by repeat (with_reducible first | exact Fr.refl | refine Fr.alloc ?_ _ | refine Fr.setNew ?_ _ (by simp) | refine Fr.trans ?_ HF.out)))
set_option maxHeartbeats 8000000 in
theorem dec6_4 (c : Int) (w : World) (h0 : 0 ≤ c) (h1 : c < 4294967296) (ho1 : 1 ≤ c / 16777216) (ho2 : c / 16777216 ≤ 58) (hs : shp (c / 16777216) = 4) :
    Calls Tryz.prog 245 #[.int .u32 c] w (DecPost6 c 4 w) := by
  have HS := hid hs
  have hA : 0 ≤ c / 1048576 % 16 ∧ c / 1048576 % 16 < 16 := by omega
  have hB : 0 ≤ c / 65536 % 16 ∧ c / 65536 % 16 < 16 := by omega
  have hL : 0 ≤ c % 65536 ∧ c % 65536 < 65536 := by omega
  obtain ⟨hA0, hA1⟩ := hA
  obtain ⟨hB0, hB1⟩ := hB
  obtain ⟨hL0, hL1⟩ := hL
  clear hs
  by_cases ha : c / 1048576 % 16 = 0
  · skip
    have Hha := hid ha
    clear ha
    by_cases hb : c / 65536 % 16 = 0
    · skip
      have Hhb := hid hb
      clear hb
      go_enter Tryz.func245, Tryz.ntmps245
      go_wp2_with fail
      refine (rt_ok _ 4 ho1 ho2 HS.out _).mono ?_
      rintro e w1 ⟨nm, co, rd, wr, rfl, hf⟩
      have HF := hid hf
      have HG0 := hid (hf.heapAt (heap_alloc2_old w _ _) (fun x => x))
      have HG1 := hid (hf.heapAt (heap_alloc2_new w _ _) (fun x => x))
      have hz : w.heap.size + 1 < w1.heap.size := by have := hf.size; simp at this; omega
      have hz' : w.heap.size < w1.heap.size := by omega
      clear hf
      obtain ⟨y0, y1, y2, y3, y4, yf⟩ := blk5 HG1.out
      obtain ⟨z0, z1, z2, z3, z4, zf⟩ := blk5 HG0.out
      go_wp2_with fail
      refine (has4 _).mono ?_
      rintro e w2 ⟨rfl, rfl⟩
      go_wp2_with fail
      refine (fits6Ft _ _ Hha.out).mono ?_
      rintro e w2 ⟨rfl, rfl⟩
      go_wp2_with fail
      refine (fits6Ft _ _ Hhb.out).mono ?_
      rintro e w2 ⟨rfl, rfl⟩
      go_wp2_with fail
      refine (fits6Ft _ _ rfl).mono ?_
      rintro e w2 ⟨rfl, rfl⟩
      go_wp2
      exact bodyPost_ret (v := tup2 (Ins.val ⟨c / 16777216, c / 1048576 % 16, c / 65536 % 16, 0, c % 65536⟩) (.int .i64 0)) (res_row2 rfl _ _ w.heap.size 108 _ (0, 0) _ rfl ((heap_alloc_old _ _ (by simpa using hz')).trans (heap_set5 (by (repeat rw [heap_setCell_other _ ⟨w.heap.size + 1, _, none⟩ _ _ (by simp)]); exact HG0.out) _ _ _ _ _)) Tryz.underlying108 rfl (by kernel_rfl) rfl) rfl
        (dec6_yes rfl (by (try have ha := Hha.out); (try have hb := Hhb.out); constructor <;> first | (simp [fitsI, decI]; done) | (simp [fitsI, decI]; omega)) (by repeat (with_reducible first | exact Fr.refl | refine Fr.alloc ?_ _ | refine Fr.setNew ?_ _ (by simp) | refine Fr.trans ?_ HF.out)))
    · skip
      have Hhb := hid hb
      clear hb
      go_enter Tryz.func245, Tryz.ntmps245
      go_wp2_with fail
      refine (rt_ok _ 4 ho1 ho2 HS.out _).mono ?_
      rintro e w1 ⟨nm, co, rd, wr, rfl, hf⟩
      have HF := hid hf
      have HG0 := hid (hf.heapAt (heap_alloc2_old w _ _) (fun x => x))
      have HG1 := hid (hf.heapAt (heap_alloc2_new w _ _) (fun x => x))
      have hz : w.heap.size + 1 < w1.heap.size := by have := hf.size; simp at this; omega
      have hz' : w.heap.size < w1.heap.size := by omega
      clear hf
      obtain ⟨y0, y1, y2, y3, y4, yf⟩ := blk5 HG1.out
      obtain ⟨z0, z1, z2, z3, z4, zf⟩ := blk5 HG0.out
      go_wp2_with fail
      refine (has4 _).mono ?_
      rintro e w2 ⟨rfl, rfl⟩
      go_wp2_with fail
      refine (fits6Ft _ _ Hha.out).mono ?_
      rintro e w2 ⟨rfl, rfl⟩
      go_wp2_with fail
      refine (fits6Ff _ _ Hhb.out).mono ?_
      rintro e w2 ⟨rfl, rfl⟩
      go_wp2
      exact bodyPost_ret (v := tup2 insZ.val (.int .i64 61)) (res_row2 rfl _ _ w.heap.size 108 _ (0, 0) _ rfl ((heap_alloc_old _ _ (by simpa using hz')).trans (heap_set5 (by (repeat rw [heap_setCell_other _ ⟨w.heap.size + 1, _, none⟩ _ _ (by simp)]); exact HG0.out) _ _ _ _ _)) Tryz.underlying108 rfl (by kernel_rfl) rfl) rfl
        (dec6_no rfl (by (try have ha := Hha.out); (try have hb := Hhb.out); simp [fitsI, decI]; omega) (by repeat (with_reducible first | exact Fr.refl | refine Fr.alloc ?_ _ | refine Fr.setNew ?_ _ (by simp) | refine Fr.trans ?_ HF.out)))
  · skip
    have Hha := hid ha
    clear ha
    go_enter Tryz.func245, Tryz.ntmps245
    go_wp2_with fail
    refine (rt_ok _ 4 ho1 ho2 HS.out _).mono ?_
    rintro e w1 ⟨nm, co, rd, wr, rfl, hf⟩
    have HF := hid hf
    have HG0 := hid (hf.heapAt (heap_alloc2_old w _ _) (fun x => x))
    have HG1 := hid (hf.heapAt (heap_alloc2_new w _ _) (fun x => x))
    have hz : w.heap.size + 1 < w1.heap.size := by have := hf.size; simp at this; omega
    have hz' : w.heap.size < w1.heap.size := by omega
    clear hf
    obtain ⟨y0, y1, y2, y3, y4, yf⟩ := blk5 HG1.out
    obtain ⟨z0, z1, z2, z3, z4, zf⟩ := blk5 HG0.out
    go_wp2_with fail
    refine (has4 _).mono ?_
    rintro e w2 ⟨rfl, rfl⟩
    go_wp2_with fail
    refine (fits6Ff _ _ Hha.out).mono ?_
    rintro e w2 ⟨rfl, rfl⟩
    go_wp2
    exact bodyPost_ret (v := tup2 insZ.val (.int .i64 61)) (res_row2 rfl _ _ w.heap.size 108 _ (0, 0) _ rfl ((heap_alloc_old _ _ (by simpa using hz')).trans (heap_set5 (by (repeat rw [heap_setCell_other _ ⟨w.heap.size + 1, _, none⟩ _ _ (by simp)]); exact HG0.out) _ _ _ _ _)) Tryz.underlying108 rfl (by kernel_rfl) rfl) rfl
      (dec6_no rfl (by (try have ha := Hha.out); (try have hb := Hhb.out); simp [fitsI, decI]; omega) (by repeat (with_reducible first | exact Fr.refl | refine Fr.alloc ?_ _ | refine Fr.setNew ?_ _ (by simp) | refine Fr.trans ?_ HF.out)))
set_option maxHeartbeats 8000000 in
theorem dec6_5 (c : Int) (w : World) (h0 : 0 ≤ c) (h1 : c < 4294967296) (ho1 : 1 ≤ c / 16777216) (ho2 : c / 16777216 ≤ 58) (hs : shp (c / 16777216) = 5) :
    Calls Tryz.prog 245 #[.int .u32 c] w (DecPost6 c 5 w) := by
  have HS := hid hs
  have hA : 0 ≤ c / 1048576 % 16 ∧ c / 1048576 % 16 < 16 := by omega
  have hB : 0 ≤ c / 65536 % 16 ∧ c / 65536 % 16 < 16 := by omega
  have hL : 0 ≤ c % 65536 ∧ c % 65536 < 65536 := by omega
  obtain ⟨hA0, hA1⟩ := hA
  obtain ⟨hB0, hB1⟩ := hB
  obtain ⟨hL0, hL1⟩ := hL
  clear hs
  by_cases hb : c / 65536 % 16 = 0
  · skip
    have Hhb := hid hb
    clear hb
    go_enter Tryz.func245, Tryz.ntmps245
    go_wp2_with fail
    refine (rt_ok _ 5 ho1 ho2 HS.out _).mono ?_
    rintro e w1 ⟨nm, co, rd, wr, rfl, hf⟩
    have HF := hid hf
    have HG0 := hid (hf.heapAt (heap_alloc2_old w _ _) (fun x => x))
    have HG1 := hid (hf.heapAt (heap_alloc2_new w _ _) (fun x => x))
    have hz : w.heap.size + 1 < w1.heap.size := by have := hf.size; simp at this; omega
    have hz' : w.heap.size < w1.heap.size := by omega
    clear hf
    obtain ⟨y0, y1, y2, y3, y4, yf⟩ := blk5 HG1.out
    obtain ⟨z0, z1, z2, z3, z4, zf⟩ := blk5 HG0.out
    go_wp2_with fail
    refine (has5 _).mono ?_
    rintro e w2 ⟨rfl, rfl⟩
    go_wp2_with fail
    refine (fits6Tt _ _ hA0 hA1).mono ?_
    rintro e w2 ⟨rfl, rfl⟩
    go_wp2_with fail
    refine (fits6Ft _ _ Hhb.out).mono ?_
    rintro e w2 ⟨rfl, rfl⟩
    go_wp2_with fail
    refine (fits6Ft _ _ rfl).mono ?_
    rintro e w2 ⟨rfl, rfl⟩
    go_wp2
    exact bodyPost_ret (v := tup2 (Ins.val ⟨c / 16777216, c / 1048576 % 16, c / 65536 % 16, 0, c % 65536⟩) (.int .i64 0)) (res_row2 rfl _ _ w.heap.size 108 _ (0, 0) _ rfl ((heap_alloc_old _ _ (by simpa using hz')).trans (heap_set5 (by (repeat rw [heap_setCell_other _ ⟨w.heap.size + 1, _, none⟩ _ _ (by simp)]); exact HG0.out) _ _ _ _ _)) Tryz.underlying108 rfl (by kernel_rfl) rfl) rfl
      (dec6_yes rfl (by (try have hb := Hhb.out); constructor <;> first | (simp [fitsI, decI]; done) | (simp [fitsI, decI]; omega)) (by repeat (with_reducible first | exact Fr.refl | refine Fr.alloc ?_ _ | refine Fr.setNew ?_ _ (by simp) | refine Fr.trans ?_ HF.out)))
  · skip
    have Hhb := hid hb
    clear hb
    go_enter Tryz.func245, Tryz.ntmps245
    go_wp2_with fail
    refine (rt_ok _ 5 ho1 ho2 HS.out _).mono ?_
    rintro e w1 ⟨nm, co, rd, wr, rfl, hf⟩
    have HF := hid hf
    have HG0 := hid (hf.heapAt (heap_alloc2_old w _ _) (fun x => x))
    have HG1 := hid (hf.heapAt (heap_alloc2_new w _ _) (fun x => x))
    have hz : w.heap.size + 1 < w1.heap.size := by have := hf.size; simp at this; omega
    have hz' : w.heap.size < w1.heap.size := by omega
    clear hf
    obtain ⟨y0, y1, y2, y3, y4, yf⟩ := blk5 HG1.out
    obtain ⟨z0, z1, z2, z3, z4, zf⟩ := blk5 HG0.out
    go_wp2_with fail
    refine (has5 _).mono ?_
    rintro e w2 ⟨rfl, rfl⟩
    go_wp2_with fail
    refine (fits6Tt _ _ hA0 hA1).mono ?_
    rintro e w2 ⟨rfl, rfl⟩
    go_wp2_with fail
    refine (fits6Ff _ _ Hhb.out).mono ?_
    rintro e w2 ⟨rfl, rfl⟩
    go_wp2
    exact bodyPost_ret (v := tup2 insZ.val (.int .i64 61)) (res_row2 rfl _ _ w.heap.size 108 _ (0, 0) _ rfl ((heap_alloc_old _ _ (by simpa using hz')).trans (heap_set5 (by (repeat rw [heap_setCell_other _ ⟨w.heap.size + 1, _, none⟩ _ _ (by simp)]); exact HG0.out) _ _ _ _ _)) Tryz.underlying108 rfl (by kernel_rfl) rfl) rfl
      (dec6_no rfl (by (try have hb := Hhb.out); simp [fitsI, decI]; omega) (by repeat (with_reducible first | exact Fr.refl | refine Fr.alloc ?_ _ | refine Fr.setNew ?_ _ (by simp) | refine Fr.trans ?_ HF.out)))
end Go.Proofs.YtocepiogpeafoaaGreatDoor
