/- Words and contracts of calls that the law needs (Ref6d): merged by wip/gen/zmerge.py. No condition but those that each theorem names. -/
import Derived.Test.YtocepiogpeafoaaGreatDoorH20
set_option linter.unusedVariables false
/- rotaref06.Decode, the last shape and all. Printed by wip/gen/zref6b.py. -/
namespace Go.Proofs.YtocepiogpeafoaaGreatDoor
open Go.RowKit
set_option linter.unusedVariables false
set_option maxHeartbeats 8000000 in
theorem dec6_6 (c : Int) (w : World) (h0 : 0 ≤ c) (h1 : c < 4294967296) (ho1 : 1 ≤ c / 16777216) (ho2 : c / 16777216 ≤ 58) (hs : shp (c / 16777216) = 6) :
    Calls Tryz.prog 245 #[.int .u32 c] w (DecPost6 c 6 w) := by
  have HS := hid hs
  have hA : 0 ≤ c / 1048576 % 16 ∧ c / 1048576 % 16 < 16 := by omega
  have hB : 0 ≤ c / 65536 % 16 ∧ c / 65536 % 16 < 16 := by omega
  have hL : 0 ≤ c % 65536 ∧ c % 65536 < 65536 := by omega
  obtain ⟨hA0, hA1⟩ := hA
  obtain ⟨hB0, hB1⟩ := hB
  obtain ⟨hL0, hL1⟩ := hL
  clear hs
  by_cases hg : c % 65536 < 32768
  · skip
    have Hhg := hid hg
    have hgb : decide ((32767 : Int) < c % 65536) = false := by simp; omega
    clear hg
    by_cases hb : c / 65536 % 16 = 0
    · skip
      have Hhb := hid hb
      clear hb
      go_enter Tryz.func245, Tryz.ntmps245
      go_wp2_with fail
      refine (rt_ok _ 6 ho1 ho2 HS.out _).mono ?_
      rintro e w1 ⟨nm, co, rd, wr, rfl, hf⟩
      have HF := hid hf
      have HG0 := hid (hf.heapAt (heap_alloc2_old w _ _) (fun x => x))
      have HG1 := hid (hf.heapAt (heap_alloc2_new w _ _) (fun x => x))
      have hz : w.heap.size + 1 < w1.heap.size := by have := hf.size; simp at this; omega
      have hz' : w.heap.size < w1.heap.size := by omega
      clear hf
      obtain ⟨y0, y1, y2, y3, y4, yf⟩ := blk5 HG1.out
      obtain ⟨z0, z1, z2, z3, z4, zf⟩ := blk5 HG0.out
      go_wp2_with fail
      refine (has6 _).mono ?_
      rintro e w2 ⟨rfl, rfl⟩
      go_wp2_with fail
      refine (fits6Tt _ _ hA0 hA1).mono ?_
      rintro e w2 ⟨rfl, rfl⟩
      go_wp2_with fail
      refine (fits6Ft _ _ Hhb.out).mono ?_
      rintro e w2 ⟨rfl, rfl⟩
      go_wp2_with fail
      refine (fits6Ft _ _ rfl).mono ?_
      rintro e w2 ⟨rfl, rfl⟩
      go_wp2
      exact bodyPost_ret (v := tup2 (Ins.val ⟨c / 16777216, c / 1048576 % 16, c / 65536 % 16, 0, c % 65536⟩) (.int .i64 0)) (res_row2 rfl _ _ w.heap.size 108 _ (0, 0) _ rfl ((heap_alloc_old _ _ (by simpa using hz')).trans (heap_set5 (by (repeat rw [heap_setCell_other _ ⟨w.heap.size + 1, _, none⟩ _ _ (by simp)]); exact HG0.out) _ _ _ _ _)) Tryz.underlying108 rfl (by kernel_rfl) rfl) rfl
        (dec6_yes rfl (by (try have hg := Hhg.out); (try have hb := Hhb.out); constructor <;> first | (simp [fitsI, decI]; done) | (simp [fitsI, decI]; omega)) (by repeat (with_reducible first | exact Fr.refl | refine Fr.alloc ?_ _ | refine Fr.setNew ?_ _ (by simp) | refine Fr.trans ?_ HF.out)))
    · skip
      have Hhb := hid hb
      clear hb
      go_enter Tryz.func245, Tryz.ntmps245
      go_wp2_with fail
      refine (rt_ok _ 6 ho1 ho2 HS.out _).mono ?_
      rintro e w1 ⟨nm, co, rd, wr, rfl, hf⟩
      have HF := hid hf
      have HG0 := hid (hf.heapAt (heap_alloc2_old w _ _) (fun x => x))
      have HG1 := hid (hf.heapAt (heap_alloc2_new w _ _) (fun x => x))
      have hz : w.heap.size + 1 < w1.heap.size := by have := hf.size; simp at this; omega
      have hz' : w.heap.size < w1.heap.size := by omega
      clear hf
      obtain ⟨y0, y1, y2, y3, y4, yf⟩ := blk5 HG1.out
      obtain ⟨z0, z1, z2, z3, z4, zf⟩ := blk5 HG0.out
      go_wp2_with fail
      refine (has6 _).mono ?_
      rintro e w2 ⟨rfl, rfl⟩
      go_wp2_with fail
      refine (fits6Tt _ _ hA0 hA1).mono ?_
      rintro e w2 ⟨rfl, rfl⟩
      go_wp2_with fail
      refine (fits6Ff _ _ Hhb.out).mono ?_
      rintro e w2 ⟨rfl, rfl⟩
      go_wp2
      exact bodyPost_ret (v := tup2 insZ.val (.int .i64 61)) (res_row2 rfl _ _ w.heap.size 108 _ (0, 0) _ rfl ((heap_alloc_old _ _ (by simpa using hz')).trans (heap_set5 (by (repeat rw [heap_setCell_other _ ⟨w.heap.size + 1, _, none⟩ _ _ (by simp)]); exact HG0.out) _ _ _ _ _)) Tryz.underlying108 rfl (by kernel_rfl) rfl) rfl
        (dec6_no rfl (by (try have hg := Hhg.out); (try have hb := Hhb.out); simp [fitsI, decI]; omega) (by repeat (with_reducible first | exact Fr.refl | refine Fr.alloc ?_ _ | refine Fr.setNew ?_ _ (by simp) | refine Fr.trans ?_ HF.out)))
  · skip
    have Hhg := hid hg
    have hgb : decide ((32767 : Int) < c % 65536) = true := by simp; omega
    clear hg
    by_cases hb : c / 65536 % 16 = 0
    · skip
      have Hhb := hid hb
      clear hb
      go_enter Tryz.func245, Tryz.ntmps245
      go_wp2_with fail
      refine (rt_ok _ 6 ho1 ho2 HS.out _).mono ?_
      rintro e w1 ⟨nm, co, rd, wr, rfl, hf⟩
      have HF := hid hf
      have HG0 := hid (hf.heapAt (heap_alloc2_old w _ _) (fun x => x))
      have HG1 := hid (hf.heapAt (heap_alloc2_new w _ _) (fun x => x))
      have hz : w.heap.size + 1 < w1.heap.size := by have := hf.size; simp at this; omega
      have hz' : w.heap.size < w1.heap.size := by omega
      clear hf
      obtain ⟨y0, y1, y2, y3, y4, yf⟩ := blk5 HG1.out
      obtain ⟨z0, z1, z2, z3, z4, zf⟩ := blk5 HG0.out
      go_wp2_with fail
      refine (has6 _).mono ?_
      rintro e w2 ⟨rfl, rfl⟩
      go_wp2_with fail
      refine calls_gen (fun W => W.heap[w.heap.size]? = some (.cells #[.int .i64 0, .int .i64 0, .int .i64 0, .int .i64 0, .int .i64 0] 108 (0, 0)) ∧ W.heap[w.heap.size + 1]? = some (.cells #[.int .i64 (c / 16777216), .int .i64 (c / 1048576 % 16), .int .i64 (c / 65536 % 16), .int .i64 0, .int .i64 (c % 65536 - 65536)] 108 (0, 0)) ∧ Fr E0 w W)
        ⟨(heap_alloc_old _ _ (by simpa using hz')).trans (by (repeat rw [heap_setCell_other _ ⟨w.heap.size + 1, _, none⟩ _ _ (by simp)]); exact HG0.out),
         (heap_alloc_old _ _ (by simpa using hz)).trans (heap_setCell_same _ _ _ _ _ _ (heap_setCell_same _ _ _ _ _ _ (heap_setCell_same _ _ _ _ _ _ (heap_setCell_same _ _ _ _ _ _ HG1.out)))),
         by repeat (with_reducible first | exact Fr.refl | refine Fr.alloc ?_ _ | refine Fr.setNew ?_ _ (by simp) | refine Fr.trans ?_ HF.out)⟩ ?_
      rintro W ⟨g0, g1, gf⟩
      clear HG0 HG1 HF y0 y1 y2 y3 y4 yf z0 z1 z2 z3 z4 zf
      have HG0 := hid g0
      have HF := hid gf
      obtain ⟨y0, y1, y2, y3, y4, yf⟩ := blk5 g1
      obtain ⟨z0, z1, z2, z3, z4, zf⟩ := blk5 g0
      clear g0 g1 gf
      refine (fits6Tt _ _ hA0 hA1).mono ?_
      rintro e w2 ⟨rfl, rfl⟩
      go_wp2_with fail
      refine (fits6Ft _ _ Hhb.out).mono ?_
      rintro e w2 ⟨rfl, rfl⟩
      go_wp2_with fail
      refine (fits6Ft _ _ rfl).mono ?_
      rintro e w2 ⟨rfl, rfl⟩
      go_wp2
      exact bodyPost_ret (v := tup2 (Ins.val ⟨c / 16777216, c / 1048576 % 16, c / 65536 % 16, 0, c % 65536 - 65536⟩) (.int .i64 0)) (res_row2 rfl _ _ w.heap.size 108 _ (0, 0) _ rfl (heap_set5 HG0.out _ _ _ _ _) Tryz.underlying108 rfl (by kernel_rfl) rfl) rfl
        (dec6_yes rfl (by (try have hg := Hhg.out); (try have hb := Hhb.out); constructor <;> first | (simp [fitsI, decI]; done) | (simp [fitsI, decI]; omega)) (by repeat (with_reducible first | exact Fr.refl | refine Fr.alloc ?_ _ | refine Fr.setNew ?_ _ (by simp) | refine Fr.trans ?_ HF.out)))
    · skip
      have Hhb := hid hb
      clear hb
      go_enter Tryz.func245, Tryz.ntmps245
      go_wp2_with fail
      refine (rt_ok _ 6 ho1 ho2 HS.out _).mono ?_
      rintro e w1 ⟨nm, co, rd, wr, rfl, hf⟩
      have HF := hid hf
      have HG0 := hid (hf.heapAt (heap_alloc2_old w _ _) (fun x => x))
      have HG1 := hid (hf.heapAt (heap_alloc2_new w _ _) (fun x => x))
      have hz : w.heap.size + 1 < w1.heap.size := by have := hf.size; simp at this; omega
      have hz' : w.heap.size < w1.heap.size := by omega
      clear hf
      obtain ⟨y0, y1, y2, y3, y4, yf⟩ := blk5 HG1.out
      obtain ⟨z0, z1, z2, z3, z4, zf⟩ := blk5 HG0.out
      go_wp2_with fail
      refine (has6 _).mono ?_
      rintro e w2 ⟨rfl, rfl⟩
      go_wp2_with fail
      refine calls_gen (fun W => W.heap[w.heap.size]? = some (.cells #[.int .i64 0, .int .i64 0, .int .i64 0, .int .i64 0, .int .i64 0] 108 (0, 0)) ∧ W.heap[w.heap.size + 1]? = some (.cells #[.int .i64 (c / 16777216), .int .i64 (c / 1048576 % 16), .int .i64 (c / 65536 % 16), .int .i64 0, .int .i64 (c % 65536 - 65536)] 108 (0, 0)) ∧ Fr E0 w W)
        ⟨(heap_alloc_old _ _ (by simpa using hz')).trans (by (repeat rw [heap_setCell_other _ ⟨w.heap.size + 1, _, none⟩ _ _ (by simp)]); exact HG0.out),
         (heap_alloc_old _ _ (by simpa using hz)).trans (heap_setCell_same _ _ _ _ _ _ (heap_setCell_same _ _ _ _ _ _ (heap_setCell_same _ _ _ _ _ _ (heap_setCell_same _ _ _ _ _ _ HG1.out)))),
         by repeat (with_reducible first | exact Fr.refl | refine Fr.alloc ?_ _ | refine Fr.setNew ?_ _ (by simp) | refine Fr.trans ?_ HF.out)⟩ ?_
      rintro W ⟨g0, g1, gf⟩
      clear HG0 HG1 HF y0 y1 y2 y3 y4 yf z0 z1 z2 z3 z4 zf
      have HG0 := hid g0
      have HF := hid gf
      obtain ⟨y0, y1, y2, y3, y4, yf⟩ := blk5 g1
      obtain ⟨z0, z1, z2, z3, z4, zf⟩ := blk5 g0
      clear g0 g1 gf
      refine (fits6Tt _ _ hA0 hA1).mono ?_
      rintro e w2 ⟨rfl, rfl⟩
      go_wp2_with fail
      refine (fits6Ff _ _ Hhb.out).mono ?_
      rintro e w2 ⟨rfl, rfl⟩
      go_wp2
      exact bodyPost_ret (v := tup2 insZ.val (.int .i64 61)) (res_row2 rfl _ _ w.heap.size 108 _ (0, 0) _ rfl (heap_set5 HG0.out _ _ _ _ _) Tryz.underlying108 rfl (by kernel_rfl) rfl) rfl
        (dec6_no rfl (by (try have hg := Hhg.out); (try have hb := Hhb.out); simp [fitsI, decI]; omega) (by repeat (with_reducible first | exact Fr.refl | refine Fr.alloc ?_ _ | refine Fr.setNew ?_ _ (by simp) | refine Fr.trans ?_ HF.out)))
theorem decode6_ok (c : Int) (w : World) (h0 : 0 ≤ c) (h1 : c < 4294967296) : Calls Tryz.prog 245 #[.int .u32 c] w (Ret (tup2 (decR c).1.val (.int .i64 (decR c).2)) E0 w) := by
  by_cases h : c / 16777216 ≤ 0 ∨ 59 ≤ c / 16777216
  · have e : decR c = (insZ, 60) := by unfold decR; rw [if_pos h]
    rw [e]; exact dec6_op c w h0 h1 h
  have key : ∀ s, shp (c / 16777216) = s → ∀ e w', DecPost6 c s w e w' → Ret (tup2 (decR c).1.val (.int .i64 (decR c).2)) E0 w e w' := by
    intro s hs e w' ⟨he, hf⟩
    refine ⟨?_, hf⟩
    rw [he]
    unfold decR
    rw [if_neg h, hs]
    rcases fitsI (decI c s) s with _ | _ <;> rfl
  have hr := shp_range (c / 16777216)
  have hc : shp (c / 16777216) = 0 ∨ shp (c / 16777216) = 1 ∨ shp (c / 16777216) = 2 ∨ shp (c / 16777216) = 3 ∨ shp (c / 16777216) = 4 ∨ shp (c / 16777216) = 5 ∨ shp (c / 16777216) = 6 := by omega
  rcases hc with hs | hs | hs | hs | hs | hs | hs
  · exact (dec6_0 c w h0 h1 (by omega) (by omega) hs).mono (key 0 hs)
  · exact (dec6_1 c w h0 h1 (by omega) (by omega) hs).mono (key 1 hs)
  · exact (dec6_2 c w h0 h1 (by omega) (by omega) hs).mono (key 2 hs)
  · exact (dec6_3 c w h0 h1 (by omega) (by omega) hs).mono (key 3 hs)
  · exact (dec6_4 c w h0 h1 (by omega) (by omega) hs).mono (key 4 hs)
  · exact (dec6_5 c w h0 h1 (by omega) (by omega) hs).mono (key 5 hs)
  · exact (dec6_6 c w h0 h1 (by omega) (by omega) hs).mono (key 6 hs)
end Go.Proofs.YtocepiogpeafoaaGreatDoor
