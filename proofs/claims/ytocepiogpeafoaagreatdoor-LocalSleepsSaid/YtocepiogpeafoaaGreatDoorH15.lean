/- Words and contracts of calls that the law needs (R04b): merged by wip/gen/zmerge.py. No condition but those that each theorem names. -/
import Derived.Deep.RegionWith
import Derived.Test.YtocepiogpeafoaaGreatDoorH14
set_option linter.unusedVariables false
/- rotaref04.Copy of a fresh slab's state: the walk. -/
namespace Go.Proofs.YtocepiogpeafoaaGreatDoor
open Go.RowKit
set_option linter.unusedVariables false
theorem kp4 {W w1 w2 : World} {B : Nat} {a b c : Value} (h : Fr E0 W w1 ∧ w1.cell? ⟨B, 0, none⟩ = some a ∧ w1.cell? ⟨B, 1, none⟩ = some b ∧ w1.cell? ⟨B, 4, none⟩ = some c) (hf : Fr E0 w1 w2) :
    Fr E0 W w2 ∧ w2.cell? ⟨B, 0, none⟩ = some a ∧ w2.cell? ⟨B, 1, none⟩ = some b ∧ w2.cell? ⟨B, 4, none⟩ = some c :=
  ⟨h.1.trans hf, hf.cell h.2.1 (fun x => x), hf.cell h.2.2.1 (fun x => x), hf.cell h.2.2.2 (fun x => x)⟩
theorem kp5 {V w2 : World} {B C T : Nat} {a b : Value} (h1 : V.cell? ⟨B, 3, none⟩ = some a) (h2 : V.cell? ⟨C, 0, none⟩ = some b) (hb : B ≠ T) (hc : C ≠ T) (hf : Fr (fun k => k = T) V w2) :
    Fr (fun k => k = T) V w2 ∧ w2.cell? ⟨B, 3, none⟩ = some a ∧ w2.cell? ⟨C, 0, none⟩ = some b := ⟨hf, hf.cell h1 hb, hf.cell h2 hc⟩
/-- behind the loop's round: T2 the result, T3 the copy -/
def Copy4In (gs : Int) (w : World) (T2 T3 C0 cap0 : Nat) (wr : World) : Prop := ∃ C cap r, wr.heap[w.heap.size]? = some (.cells #[.int .i64 gs, .slice none 0 0, .slice none 0 0, .slice (some ⟨C0, 0, none⟩) 1 cap0, .slice none 0 0] 46 (0, 0)) ∧ wr.heap[T2]? = some (.cells #[.int .i64 0, .slice none 0 0, .slice none 0 0, .slice none 0 0, .slice none 0 0] 46 (0, 0)) ∧
  wr.heap[T3]? = some (.cells #[.int .i64 gs, .slice none 0 0, .slice none 0 0, .slice (some ⟨C, 0, none⟩) 1 cap, .slice none 0 0] 46 (0, 0)) ∧ wr.heap[C]? = some (.cells (#[.slice none 0 0] ++ r) 42 (0, 0)) ∧ w.heap.size ≤ C ∧ C ≠ T2 ∧ 1 ≤ cap ∧ Fr E0 w wr
def Copy4Post (gs : Int) (w : World) (e : Ending) (w' : World) : Prop := ∃ C cap r, e = .returned (st4 gs (.slice none 0 0) (.slice none 0 0) C cap) ∧ w'.heap[C]? = some (.cells (#[.slice none 0 0] ++ r) 42 (0, 0)) ∧ w.heap.size ≤ C ∧ 1 ≤ cap ∧ Fr E0 w w'
set_option maxHeartbeats 4000000 in
theorem copy4_ok (gs : Int) (w : World) (C cap : Nat) (r : Array Value) (hC : w.heap[C]? = some (.cells (#[.slice none 0 0] ++ r) 42 (0, 0))) (hcap : 1 ≤ cap) :
    Calls Tryz.prog 152 #[st4 gs (.slice none 0 0) (.slice none 0 0) C cap] w (Copy4Post gs w) := by
  have HC := hid hC
  have hCl := heap_lt hC
  have h01 : 0 < (1 : Nat) := by omega
  clear hC
  unfold st4
  go_enter Tryz.func152, Tryz.ntmps152
  go_wp2_with fail
  generalize hW : ((w.alloc _).alloc _) = W
  have F0 := hid (show Fr E0 w W from by rw [← hW]; exact (Fr.refl.alloc _).alloc _)
  have T1 := hid (show W.heap[w.heap.size]? = some (.cells #[.int .i64 gs, .slice none 0 0, .slice none 0 0, .slice (some ⟨C, 0, none⟩) 1 cap, .slice none 0 0] 46 (0, 0)) from by rw [← hW]; exact heap_alloc2_old w _ _)
  have T2 := hid (show W.heap[w.heap.size + 1]? = some (.cells #[.int .i64 0, .slice none 0 0, .slice none 0 0, .slice none 0 0, .slice none 0 0] 46 (0, 0)) from by rw [← hW]; exact heap_alloc2_new w _ _)
  have hws : w.heap.size + 2 = W.heap.size := by rw [← hW]; simp
  clear hW
  have K0 := hid (show Fr E0 W W.drew ∧ _ ∧ _ ∧ _ from ⟨Fr.refl.drew, cell_of_row W w.heap.size 0 _ _ _ T1.out, cell_of_row W w.heap.size 1 _ _ _ T1.out, cell_of_row W w.heap.size 4 _ _ _ T1.out⟩)
  go_region_held3 (fun w' => Fr E0 W w' ∧ w'.cell? ⟨w.heap.size, 0, none⟩ = some (.int .i64 gs) ∧ w'.cell? ⟨w.heap.size, 1, none⟩ = some (.slice none 0 0) ∧ w'.cell? ⟨w.heap.size, 4, none⟩ = some (.slice none 0 0))
    (first | exact K0.out | exact kp4 K0.out (Fr.refl.alloc _) | exact kp4 K0.out (Fr.refl.alloc _).drew)
    (first | (go_at_call 153; refine (ints0_ok _).mono ?_; rintro e w1 ⟨rfl, rfl⟩))
  all_goals
    have c2 := cell_of_row W w.heap.size 2 _ _ _ T1.out
    have hl := heap_lt T1.out
    go_upto_region 4 with fail
    generalize hV : World.drew (World.alloc W _) = V
    have FV := hid (show Fr E0 W V from by rw [← hV]; exact (Fr.refl.alloc _).drew)
    have T3 := hid (show V.heap[W.heap.size]? = some (.cells #[.int .i64 gs, .slice none 0 0, .slice none 0 0, .slice none 0 0, .slice none 0 0] 46 (0, 0)) from by rw [← hV]; exact heap_alloc_drew W _)
    have hvs : W.heap.size + 1 = V.heap.size := by rw [← hV]; simp
    clear hV
    have hrel0 : V.heap[w.heap.size + 1]? = some (.cells #[.int .i64 0, .slice none 0 0, .slice none 0 0, .slice none 0 0, .slice none 0 0] 46 (0, 0)) := FV.out.heapAt T2.out (ne0 _)
    have T2V := hid hrel0
    have T1V := hid (FV.out.heapAt T1.out (ne0 _))
    have CV := hid (FV.out.heapAt (F0.out.heapAt HC.out (ne0 _)) (ne0 _))
    have F0V := hid (F0.out.trans FV.out)
    clear hrel0 c2
    clear ‹Fr E0 W _ ∧ _›
    go_loopw [4] (fun i wr => (i = .int .i64 0 ∧ wr = V) ∨ (i = .int .i64 1 ∧ Copy4In gs w (w.heap.size + 1) W.heap.size C cap wr)) (fun i _ => 2 - (intOf i).toNat)
    case atStart => exact .inl ⟨rfl, rfl⟩
    case round =>
      rcases hrel with ⟨rfl, rfl⟩ | ⟨rfl, C', cap', r', h1, h2, h3, hC', hCl', hCn, hcap', hF⟩
      · have apC : ¬ (281474976710656 < Builtin.nextslicecap 1 0 * Tryz.t42.bytes) := by decide
        have c13 := cell_of_row wr w.heap.size 3 _ _ _ T1V.out
        have cC0 : wr.cell? ⟨C, 0, none⟩ = some (.slice none 0 0) := by rw [cell_of_row wr C 0 _ _ _ CV.out]; exact get0 _ _
        have c33 := cell_of_row wr W.heap.size 3 _ _ _ T3.out
        have f33 := frozen_of_row wr W.heap.size 3 _ _ T3.out
        have l1 : W.heap.size < wr.heap.size := heap_lt T3.out
        have l2 : W.heap.size < wr.heap.size + 1 := by omega
        have hb : w.heap.size ≠ W.heap.size := by omega
        have hc : C ≠ W.heap.size := by omega
        have K := hid (And.intro c13 (And.intro cC0 (And.intro hb hc)))
        go_upto_region 6 with fail
        go_region_with (go_at_call 153; refine (ints0_ok _).mono ?_; rintro e w1 ⟨rfl, rfl⟩)
        all_goals
          go_wp2
          go_roundw
          · refine .inr ⟨rfl, wr.heap.size + 1, _, Builtin.zeroCells #[.slice none 0 0] (grownCap wr.drew 1 0 42 - 1), ?_, ?_, ?_, ?_, by omega, by omega, grownCap_ge wr.drew 1 0 42, ?_⟩
            · exact (heap_alloc_old _ _ (by simp; omega)).trans ((heap_alloc_old _ _ (by simp; omega)).trans ((heap_setCell_other _ _ _ _ (by show w.heap.size ≠ W.heap.size; omega)).trans T1V.out))
            · exact (heap_alloc_old _ _ (by simp; omega)).trans ((heap_alloc_old _ _ (by simp; omega)).trans ((heap_setCell_other _ _ _ _ (by show w.heap.size + 1 ≠ W.heap.size; omega)).trans T2V.out))
            · exact (heap_alloc_old _ _ (by simp; omega)).trans ((heap_alloc_old _ _ (by simp; omega)).trans (heap_setCell_same _ _ _ _ _ _ T3.out))
            · have := heap_alloc2_new (wr.setCell ⟨W.heap.size, 3, none⟩ (.slice (some ⟨wr.heap.size + 1, 0, none⟩) 1 (grownCap wr.drew 1 0 42))) (.cells #[.slice none 0 0] 42) (.cells (#[.slice none 0 0] ++ Builtin.zeroCells #[.slice none 0 0] (grownCap wr.drew 1 0 42 - 1)) 42)
              rw [show (wr.setCell ⟨W.heap.size, 3, none⟩ (.slice (some ⟨wr.heap.size + 1, 0, none⟩) 1 (grownCap wr.drew 1 0 42))).heap.size = wr.heap.size by simp] at this
              exact this
            · exact ((((F0V.out.setNew _ (by omega)).alloc _).alloc _).drew).drew
          · simp [intOf]
      · have c1 := fun j => cell_of_row wr _ j _ _ _ h1
        have c2 := fun j => cell_of_row wr _ j _ _ _ h2
        have c3 := fun j => cell_of_row wr _ j _ _ _ h3
        have f2 := fun j => frozen_of_row wr _ j _ _ h2
        have H2 := hid h2
        have HCC := hid hC'
        have HF := hid hF
        clear h1 h2 h3 hC' hF
        go_wp2
        have Z := heap_set5 H2.out (.int .i64 gs) (.slice none 0 0) (.slice none 0 0) (.slice (some ⟨C', 0, none⟩) 1 cap') (.slice none 0 0)
        refine bodyPost_ret (v := st4 gs (.slice none 0 0) (.slice none 0 0) C' cap') (results_cell_row rfl _ _ (w.heap.size + 1) 46 _ (0, 0) _ rfl Z Tryz.underlying46 rfl (by kernel_rfl)) rfl ⟨C', cap', r', rfl, ?_, hCl', hcap', ?_⟩
        · rw [heap_setCell_other _ _ _ _ hCn, heap_setCell_other _ _ _ _ hCn, heap_setCell_other _ _ _ _ hCn, heap_setCell_other _ _ _ _ hCn, heap_setCell_other _ _ _ _ hCn]
          exact HCC.out
        · exact ((((HF.out.setNew _ (by omega)).setNew _ (by omega)).setNew _ (by omega)).setNew _ (by omega)).setNew _ (by omega)
end Go.Proofs.YtocepiogpeafoaaGreatDoor
