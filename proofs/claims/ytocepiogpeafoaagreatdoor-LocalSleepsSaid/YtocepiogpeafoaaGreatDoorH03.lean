/- Words and contracts of calls that the law needs (Slot, Take): merged by wip/gen/zmerge.py. No condition but those that each theorem names. -/
import Derived.Deep.RegionLaw
import Derived.Deep.CutBlock
import Derived.Deep.AppendLies
import Derived.Test.YtocepiogpeafoaaGreatDoorH02
set_option linter.unusedVariables false
/- (*slab.Slab).slot, Take of a fresh slab: the walks. -/
namespace Go.Proofs.YtocepiogpeafoaaGreatDoor
open Go.RowKit
set_option linter.unusedVariables false
theorem infoInt : (Tryz.prog.info? 3).map (fun i => (i.zero, i.size, i.bytes)) = some (some (.int .i64 0), 1, 8) := by kernel_rfl
theorem infoBool : (Tryz.prog.info? 4).map (fun i => (i.zero, i.size, i.bytes)) = some (some (.bool false), 1, 1) := by kernel_rfl
theorem slabIs_ok {w : World} {gs : Int} {v1 v2 v3 v4 : Value} {g : Nat} (h : w.heap[g]? = some (.cells #[.int .i64 gs, v1, v2, v3, v4] 248 (0, 0))) (h0 : 1 ≤ gs) : Calls Tryz.prog 116 #[.pointer (some ⟨g, 0, none⟩)] w fun e w' => e = .returned (.bool true) ∧ w = w' := by
  have c0 := cell_of_row w g 0 _ _ _ h
  have h1 : 0 < gs := by omega
  clear h
  go_enter Tryz.func116, Tryz.ntmps116
  go_wp2
  go_ret
  exact ⟨rfl, rfl⟩
theorem slabProc_ok {w : World} {gs : Int} {v1 v2 v4 : Value} {g a p : Nat} (h : w.heap[g]? = some (.cells #[.int .i64 gs, v1, v2, .slice (some ⟨a, 0, none⟩) p p, v4] 248 (0, 0))) (h0 : 1 ≤ gs) (hp : 1 ≤ p) : Calls Tryz.prog 242 #[.pointer (some ⟨g, 0, none⟩), .int .i64 0] w fun e w' => e = .returned (.bool true) ∧ w = w' := by
  have c3 := cell_of_row w g 3 _ _ _ h
  have H := hid h
  have h1 : 0 < p := by omega
  clear h
  go_enter Tryz.func242, Tryz.ntmps242
  go_wp2_with fail
  refine (slabIs_ok H.out h0).mono ?_
  rintro e w1 ⟨rfl, rfl⟩
  go_wp2
  go_ret
  exact ⟨rfl, rfl⟩
/-- a slab of one slot, that was not given yet -/
def SlotRes (gs : Int) (p g a : Nat) (w w' : World) : Prop := ∃ A B cA cB rA rB, w'.heap[g]? = some (.cells #[.int .i64 gs, .slice (some ⟨A, 0, none⟩) 1 cA, .slice (some ⟨B, 0, none⟩) 1 cB, .slice (some ⟨a, 0, none⟩) p p, .slice none 0 0] 248 (0, 0)) ∧
  w'.heap[A]? = some (.cells (#[.int .i64 0] ++ rA) 3 (0, 0)) ∧ w'.heap[B]? = some (.cells (#[.bool false] ++ rB) 4 (0, 0)) ∧ w.heap.size ≤ A ∧ w.heap.size ≤ B
theorem alloc4_1 (w : World) (O1 O2 O3 O4 : Obj) : ((((w.alloc O1).alloc O2).alloc O3).alloc O4).heap[w.heap.size + 1]? = some O2 := by
  rw [heap_alloc_old _ _ (by simp), heap_alloc_old _ _ (by simp)]; exact heap_alloc2_new w _ _
theorem alloc4_2 (w : World) (O1 O2 O3 O4 : Obj) : ((((w.alloc O1).alloc O2).alloc O3).alloc O4).heap[w.heap.size + 1 + 1]? = some O3 := by
  rw [heap_alloc_old _ _ (by simp)]
  have := heap_alloc_new ((w.alloc O1).alloc O2) O3
  simpa using this
theorem alloc4_3 (w : World) (O1 O2 O3 O4 : Obj) : ((((w.alloc O1).alloc O2).alloc O3).alloc O4).heap[w.heap.size + 1 + 1 + 1]? = some O4 := by
  have := heap_alloc_new (((w.alloc O1).alloc O2).alloc O3) O4
  simpa using this
theorem alloc4_old (w : World) (O1 O2 O3 O4 : Obj) {k : Nat} (h : k < w.heap.size) : ((((w.alloc O1).alloc O2).alloc O3).alloc O4).heap[k]? = w.heap[k]? := by
  rw [heap_alloc_old _ _ (by simp; omega), heap_alloc_old _ _ (by simp; omega), heap_alloc_old _ _ (by simp; omega), heap_alloc_old _ _ h]
theorem slot_fin {gs : Int} {p g a A B cA cB : Nat} {v1 v2 : Value} {rA rB : Array Value} {O1 O2 O3 O4 : Obj} {w V : World} (hV : Fr (fun k => k = g ∨ k = a) w V) (hg : V.heap[g]? = some (.cells #[.int .i64 gs, v1, v2, .slice (some ⟨a, 0, none⟩) p p, .slice none 0 0] 248 (0, 0)))
    (hA : ∀ W : World, W.heap.size = V.heap.size → ((((W.alloc O1).alloc O2).alloc O3).alloc O4).heap[A]? = some (.cells (#[.int .i64 0] ++ rA) 3 (0, 0))) (hB : ∀ W : World, W.heap.size = V.heap.size → ((((W.alloc O1).alloc O2).alloc O3).alloc O4).heap[B]? = some (.cells (#[.bool false] ++ rB) 4 (0, 0))) (h1 : V.heap.size ≤ A) (h2 : V.heap.size ≤ B) :
    SlotRes gs p g a w ((((((V.setCell ⟨g, 1, none⟩ (.slice (some ⟨A, 0, none⟩) 1 cA)).setCell ⟨g, 2, none⟩ (.slice (some ⟨B, 0, none⟩) 1 cB)).alloc O1).alloc O2).alloc O3).alloc O4).drew.drew.drew ∧
    Fr (fun k => k = g ∨ k = a) w ((((((V.setCell ⟨g, 1, none⟩ (.slice (some ⟨A, 0, none⟩) 1 cA)).setCell ⟨g, 2, none⟩ (.slice (some ⟨B, 0, none⟩) 1 cB)).alloc O1).alloc O2).alloc O3).alloc O4).drew.drew.drew := by
  have hl := heap_lt hg
  have hs := hV.size
  refine ⟨⟨A, B, cA, cB, rA, rB, (alloc4_old _ O1 O2 O3 O4 (by simpa using hl)).trans (heap_setCell_same _ _ _ _ _ _ (heap_setCell_same _ _ _ _ _ _ hg)), hA _ (by simp), hB _ (by simp), by omega, by omega⟩, ?_⟩
  exact ((((((((hV.setCell _ (.inl (.inl rfl))).setCell _ (.inl (.inl rfl))).alloc _).alloc _).alloc _).alloc _).drew).drew).drew
set_option maxRecDepth 100000 in
set_option maxHeartbeats 400000000 in
theorem slot0_ok {w : World} {gs : Int} {p g a : Nat} (h : SlabNew gs p g a w) (h0 : 1 ≤ gs) (hp : 1 ≤ p) (hne : g ≠ a) : Calls Tryz.prog 243 #[.pointer (some ⟨g, 0, none⟩), .int .i64 0] w fun e w' => e = .returned (tup2 (.int .i64 0) (.bool true)) ∧ SlotRes gs p g a w w' ∧ Fr (fun k => k = g ∨ k = a) w w' := by
  obtain ⟨hg, ha⟩ := h
  obtain ⟨c0, c1, c2, c3, c4, cf⟩ := (⟨cell_of_row w g 0 _ _ _ hg, cell_of_row w g 1 _ _ _ hg, cell_of_row w g 2 _ _ _ hg, cell_of_row w g 3 _ _ _ hg, cell_of_row w g 4 _ _ _ hg, fun j => frozen_of_row w g j _ _ hg⟩ : _ ∧ _ ∧ _ ∧ _ ∧ _ ∧ (∀ j, w.frozen? ⟨g, j, none⟩ = false))
  have d0 : w.cell? ⟨a, 0, none⟩ = some (.slice none 0 0) := by
    rw [cell_of_row w a 0 _ _ _ ha]
    simp [madeCells, show 0 < p by omega]
  have df : ∀ j, w.frozen? ⟨a, j, none⟩ = false := fun j => frozen_of_row w a j _ _ ha
  have h1 : 0 < p := by omega
  have h2 : 0 < gs := by omega
  have hgl := heap_lt hg
  have hal := heap_lt ha
  have HG := hid hg
  have HA := hid ha
  clear hg ha
  go_enter Tryz.func243, Tryz.ntmps243
  go_wp2
  have S0 := hid (And.intro c3 (And.intro d0 c4))
  have S1 := hid (And.intro (setCell_blk (w := w) (o := 0) (v := .slice none 0 0) hne c3) (And.intro (setCell_at (v := .slice none 0 0) d0) (setCell_blk (w := w) (o := 0) (v := .slice none 0 0) hne c4)))
  go_region_held3 (fun w' => w'.cell? ⟨g, 3, none⟩ = some (.slice (some ⟨a, 0, none⟩) p p) ∧ w'.cell? ⟨a, 0, none⟩ = some (.slice none 0 0) ∧ w'.cell? ⟨g, 4, none⟩ = some (.slice none 0 0)) (first | exact S1.out | exact S0.out) (fail)
  have FA := hid (show Fr (fun k => k = g ∨ k = a) w (w.setCell ⟨a, 0, none⟩ (.slice none 0 0)).drew from ((Fr.refl.setCell _ (.inl (.inr rfl))).drew))
  have GA := hid (show (w.setCell ⟨a, 0, none⟩ (.slice none 0 0)).drew.heap[g]? = _ from (heap_setCell_other w ⟨a, 0, none⟩ g (.slice none 0 0) hne).trans HG.out)
  have AA := hid (show (w.setCell ⟨a, 0, none⟩ (.slice none 0 0)).drew.heap[a]? = _ from heap_setCell_same w a 0 _ _ (.slice none 0 0) HA.out)
  have e0 := (setCell_at (w := w) (v := .slice none 0 0) d0)
  have e0' : Hid ((w.setCell ⟨a, 0, none⟩ (.slice none 0 0)).drew.cell? ⟨a, 0, none⟩ = some (.slice none 0 0)) := hid e0
  clear S0 S1 c0 c1 c2 c3 c4 d0 cf df HG HA e0 ‹_ ∧ _›
  generalize World.drew (World.setCell w ⟨a, 0, none⟩ (.slice none 0 0)) = W at *
  have hgl' : g < W.heap.size := heap_lt GA.out
  have hal' : a < W.heap.size := heap_lt AA.out
  obtain ⟨c0, c1, c2, c3, c4, cf⟩ := (⟨cell_of_row W g 0 _ _ _ GA.out, cell_of_row W g 1 _ _ _ GA.out, cell_of_row W g 2 _ _ _ GA.out, cell_of_row W g 3 _ _ _ GA.out, cell_of_row W g 4 _ _ _ GA.out, fun j => frozen_of_row W g j _ _ GA.out⟩ : _ ∧ _ ∧ _ ∧ _ ∧ _ ∧ (∀ j, W.frozen? ⟨g, j, none⟩ = false))
  have d0 := e0'.out
  have df : ∀ j, W.frozen? ⟨a, j, none⟩ = false := fun j => frozen_of_row W a j _ _ AA.out
  clear hgl hal
  go_upto_region 12 with fail
  have FV := hid (show Fr (fun k => k = g ∨ k = a) w (W.setCell ⟨g, 4, none⟩ (.slice none 0 0)) from FA.out.setCell _ (.inl (.inl rfl)))
  have GV := hid (show (W.setCell ⟨g, 4, none⟩ (.slice none 0 0)).heap[g]? = _ from heap_setCell_same W g 4 _ _ (.slice none 0 0) GA.out)
  have AV := hid ((heap_setCell_other W ⟨g, 4, none⟩ a (.slice none 0 0) (fun e => hne e.symm)).trans AA.out)
  clear FA GA AA e0' c0 c1 c2 c3 c4 cf d0 df hgl' hal'
  generalize World.setCell W ⟨g, 4, none⟩ (.slice none 0 0) = V at *
  simp only [Array.setIfInBounds] at GV
  obtain ⟨c1, c2, cf⟩ := (⟨cell_of_row V g 1 _ _ _ GV.out, cell_of_row V g 2 _ _ _ GV.out, fun j => frozen_of_row V g j _ _ GV.out⟩ : _ ∧ _ ∧ (∀ j, V.frozen? ⟨g, j, none⟩ = false))
  have hgl := heap_lt GV.out
  have apA : ¬ (281474976710656 < Builtin.nextslicecap 1 0 * Tryz.t3.bytes) := by decide
  have apB : ¬ (281474976710656 < Builtin.nextslicecap 1 0 * Tryz.t4.bytes) := by decide
  have hg1 : g < V.heap.size + 1 := by omega
  have hg2 : g < V.heap.size + 1 + 1 := by omega
  have hg3 : g < V.heap.size + 1 + 1 + 1 := by omega
  go_region
  clear hg1 hg2 hg3
  all_goals
    go_wp2
    go_ret2
    refine ⟨rfl, slot_fin (V := V) (rA := Builtin.zeroCells #[.int .i64 0] ((Question.appendCap 1 0 3).cut (V.tape (V.drawn + 1) (Question.appendCap 1 0 3)) - 1)) (rB := Builtin.zeroCells #[.bool false] ((Question.appendCap 1 0 4).cut (V.tape (V.drawn + 1 + 1) (Question.appendCap 1 0 4)) - 1)) FV.out GV.out ?_ ?_ (by omega) (by omega)⟩
    · intro W h; rw [← h]; first | exact alloc4_2 W _ _ _ _ | exact alloc4_1 W _ _ _ _ | exact alloc4_3 W _ _ _ _
    · intro W h; rw [← h]; first | exact alloc4_3 W _ _ _ _ | exact alloc4_2 W _ _ _ _ | exact alloc4_1 W _ _ _ _
end Go.Proofs.YtocepiogpeafoaaGreatDoor
/- (*slab.Slab).Take of a fresh slab: the walk. -/
namespace Go.Proofs.YtocepiogpeafoaaGreatDoor
open Go.RowKit
set_option linter.unusedVariables false
/-- a slab of one slot, that was given once -/
def SlabOne (gs : Int) (p g a : Nat) (w w' : World) : Prop := ∃ A B cA cB rA rB, w'.heap[g]? = some (.cells #[.int .i64 gs, .slice (some ⟨A, 0, none⟩) 1 cA, .slice (some ⟨B, 0, none⟩) 1 cB, .slice (some ⟨a, 0, none⟩) p p, .slice none 0 0] 248 (0, 0)) ∧
  w'.heap[A]? = some (.cells (#[.int .i64 1] ++ rA) 3 (0, 0)) ∧ w'.heap[B]? = some (.cells (#[.bool true] ++ rB) 4 (0, 0)) ∧ w.heap.size ≤ A ∧ w.heap.size ≤ B
theorem get0 (u : Value) (r : Array Value) : (#[u] ++ r)[0]? = some u := by
  rw [Array.getElem?_append_left (by simp)]; rfl
theorem set0 (u v : Value) (r : Array Value) : (#[u] ++ r).setIfInBounds 0 v = #[v] ++ r := by
  apply Array.toList_inj.1
  simp
set_option maxHeartbeats 4000000 in
theorem take0_ok {w : World} {gs : Int} {p g a : Nat} (h : SlabNew gs p g a w) (h0 : 1 ≤ gs) (hp : 1 ≤ p) (hne : g ≠ a) :
    Calls Tryz.prog 147 #[.pointer (some ⟨g, 0, none⟩), .int .i64 0] w fun e w' => e = .returned (tup2 (.agg #[.int .i64 0, .int .i64 1]) (.int .i64 0)) ∧ SlabOne gs p g a w w' ∧ Fr (fun k => k = g ∨ k = a) w w' := by
  have hgl := heap_lt h.1
  have hal := heap_lt h.2
  have HN := hid (show SlabNew gs p g a (w.alloc (.cells #[.int .i64 0, .int .i64 0] 72)) from ⟨(heap_alloc_old _ _ hgl).trans h.1, (heap_alloc_old _ _ hal).trans h.2⟩)
  have HP := hid (slabProc_ok HN.out.1 h0 hp)
  have HS := hid (slot0_ok HN.out h0 hp hne)
  clear h
  go_enter Tryz.func147, Tryz.ntmps147
  go_wp2_with fail
  refine HP.out.mono ?_
  rintro e w1 ⟨rfl, rfl⟩
  go_wp2_with fail
  refine HS.out.mono ?_
  rintro e w1 ⟨rfl, ⟨A, B, cA, cB, rA, rB, hG, hA, hB, hlA, hlB⟩, hF⟩
  replace hlA : w.heap.size + 1 ≤ A := by simpa using hlA
  replace hlB : w.heap.size + 1 ≤ B := by simpa using hlB
  have hR := hF.heapAt (heap_alloc_new w _) (show ¬ (w.heap.size = g ∨ w.heap.size = a) by omega)
  have F := hid hF
  have HG := hid hG
  have HA := hid hA
  have HB := hid hB
  have HR := hid hR
  have hAB : A ≠ B := by
    rintro rfl
    rw [hA] at hB; injection hB with hB; injection hB with _ hB _; exact absurd hB (by decide)
  have g1 := cell_of_row w1 g 1 _ _ _ hG
  have g2 := cell_of_row w1 g 2 _ _ _ hG
  have a0 : w1.cell? ⟨A, 0, none⟩ = some (.int .i64 0) := by rw [cell_of_row w1 A 0 _ _ _ hA]; exact get0 _ _
  have b0 : w1.cell? ⟨B, 0, none⟩ = some (.bool false) := by rw [cell_of_row w1 B 0 _ _ _ hB]; exact get0 _ _
  have r0 := cell_of_row w1 _ 0 _ _ _ hR
  have r1 := cell_of_row w1 _ 1 _ _ _ hR
  have fA := frozen_of_row w1 A 0 _ _ hA
  have fB := frozen_of_row w1 B 0 _ _ hB
  have fR : ∀ j, w1.frozen? ⟨w.heap.size, j, none⟩ = false := fun j => frozen_of_row w1 _ j _ _ hR
  have hAg : A ≠ g := by omega
  have hBg : B ≠ g := by omega
  have hAR : A ≠ w.heap.size := by omega
  have hBR : B ≠ w.heap.size := by omega
  clear hG hA hB hR hF hne
  simp only [tup2]
  go_wp2
  have ho : ∀ k, k ≠ A → k ≠ B → k ≠ w.heap.size → ((((w1.setCell ⟨A, 0, none⟩ (.int .i64 1)).setCell ⟨B, 0, none⟩ (.bool true)).setCell ⟨w.heap.size, 0, none⟩ (.int .i64 0)).setCell ⟨w.heap.size, 1, none⟩ (.int .i64 1)).heap[k]? = w1.heap[k]? := fun k h1 h2 h3 => by
    rw [heap_setCell_other _ _ _ _ h3, heap_setCell_other _ _ _ _ h3, heap_setCell_other _ _ _ _ h2, heap_setCell_other _ _ _ _ h1]
  have ZR := hid (show ((((w1.setCell ⟨A, 0, none⟩ (.int .i64 1)).setCell ⟨B, 0, none⟩ (.bool true)).setCell ⟨w.heap.size, 0, none⟩ (.int .i64 0)).setCell ⟨w.heap.size, 1, none⟩ (.int .i64 1)).heap[w.heap.size]? = some (.cells #[.int .i64 0, .int .i64 1] 72 (0, 0)) from
    heap_setCell_same _ _ _ _ _ _ (heap_setCell_same _ _ _ _ _ _ ((heap_setCell_other _ _ _ _ (fun e => hBR e.symm)).trans ((heap_setCell_other _ _ _ _ (fun e => hAR e.symm)).trans HR.out))))
  refine bodyPost_ret (v := tup2 (.agg #[.int .i64 0, .int .i64 1]) (.int .i64 0)) (res_row2 rfl _ _ w.heap.size 72 _ (0, 0) _ rfl ZR.out Tryz.underlying72 rfl (by kernel_rfl) rfl) rfl ⟨rfl, ⟨A, B, cA, cB, rA, rB, ?_, ?_, ?_, by omega, by omega⟩, ?_⟩
  · exact (ho g (Ne.symm hAg) (Ne.symm hBg) (by omega)).trans HG.out
  · rw [heap_setCell_other _ _ _ _ hAR, heap_setCell_other _ _ _ _ hAR, heap_setCell_other _ _ _ _ hAB]
    have := heap_setCell_same w1 A 0 _ _ (.int .i64 1) HA.out
    rwa [set0] at this
  · rw [heap_setCell_other _ _ _ _ hBR, heap_setCell_other _ _ _ _ hBR]
    have := heap_setCell_same (w1.setCell ⟨A, 0, none⟩ (.int .i64 1)) B 0 _ _ (.bool true) ((heap_setCell_other _ _ _ _ (Ne.symm hAB)).trans HB.out)
    rwa [set0] at this
  · exact ((((((Fr.refl.alloc _).trans F.out).setNew _ (by omega)).setNew _ (by omega)).setNew _ (Nat.le_refl _)).setNew _ (Nat.le_refl _))
end Go.Proofs.YtocepiogpeafoaaGreatDoor
