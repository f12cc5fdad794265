/- Words and contracts of calls that the law needs (R04c): merged by wip/gen/zmerge.py. No condition but those that each theorem names. -/
import Derived.Test.YtocepiogpeafoaaGreatDoorH15
set_option linter.unusedVariables false
/- rotaref04.given, Take of a fresh slab's state: the walks. -/
namespace Go.Proofs.YtocepiogpeafoaaGreatDoor
open Go.RowKit
set_option linter.unusedVariables false
def tup3 (a b c : Value) : Value := .tuple #[a, b, c]
theorem res_row3 {P : Program} {fn : Func} {p q u : Tmp} {ty ty' : TypeId} (h : fn.results = #[.cell p ty, .cell q ty', .tmp u]) (tmps : Array Value) (w : World) (g g' : Nat) (t t' : TypeId) (cs cs' : Array Value) (fr fr' : Nat × Nat) (d d' : TypeDesc)
    (hp : tmps.getD p undef = .pointer (some ⟨g, 0, none⟩)) (hg : w.heap[g]? = some (.cells cs t fr)) (hu : P.underlying ty = some d) (hd : (match d with | .struct _ | .array _ _ => true | _ => false) = true) (hi : (P.info? ty).map (·.size) = some cs.size)
    (hq : tmps.getD q undef = .pointer (some ⟨g', 0, none⟩)) (hg' : w.heap[g']? = some (.cells cs' t' fr')) (hu' : P.underlying ty' = some d') (hd' : (match d' with | .struct _ | .array _ _ => true | _ => false) = true) (hi' : (P.info? ty').map (·.size) = some cs'.size)
    {v : Value} (hv : tmps.getD u undef = v) : (results fn tmps).run P w = .ok (.tuple #[.agg cs, .agg cs', v]) w := by
  have hp' : tmps[p]?.getD undef = .pointer (some ⟨g, 0, none⟩) := by simpa using hp
  have hq' : tmps[q]?.getD undef = .pointer (some ⟨g', 0, none⟩) := by simpa using hq
  have hv' : tmps[u]?.getD undef = v := by simpa using hv
  simp [results, h, hp', hq', hv', asAddr, run_loadVar_row w g t ty cs fr d hg hu hd hi, run_loadVar_row w g' t' ty' cs' fr' d' hg' hu' hd' hi']
theorem alloc3_1 (w : World) (O1 O2 O3 : Obj) : (((w.alloc O1).alloc O2).alloc O3).drew.heap[w.heap.size + 1]? = some O2 :=
  (heap_alloc_old _ _ (by simp)).trans (heap_alloc2_new w _ _)
theorem alloc3_2 (w : World) (O1 O2 O3 : Obj) : (((w.alloc O1).alloc O2).alloc O3).drew.heap[w.heap.size + 1 + 1]? = some O3 := heap_alloc3_new w _ _ _
/-- a slab's state behind a Take -/
def Given4Post (gs : Int) (A cA B cB C cap : Nat) (w : World) (e : Ending) (w' : World) : Prop := e = .returned (tup3 (st4 gs (.slice (some ⟨A, 0, none⟩) 1 cA) (.slice (some ⟨B, 0, none⟩) 1 cB) C cap) (.agg #[.int .i64 0, .int .i64 1]) (.int .i64 0)) ∧ Fr (fun k => k = A ∨ k = B) w w'
set_option maxHeartbeats 4000000 in
theorem given0_ok (gs : Int) (w : World) (A cA B cB C cap : Nat) (rA rB : Array Value) (hA : w.heap[A]? = some (.cells (#[.int .i64 0] ++ rA) 3 (0, 0))) (hB : w.heap[B]? = some (.cells (#[.bool false] ++ rB) 4 (0, 0))) (h1 : 1 ≤ cA) (h2 : 1 ≤ cB) :
    Calls Tryz.prog 154 #[st4 gs (.slice (some ⟨A, 0, none⟩) 1 cA) (.slice (some ⟨B, 0, none⟩) 1 cB) C cap, .int .i64 0] w (Given4Post gs A cA B cB C cap w) := by
  have hAB : A ≠ B := by
    rintro rfl
    rw [hA] at hB; injection hB with hB; injection hB with _ hB _; exact absurd hB (by decide)
  have hAl := heap_lt hA
  have hBl := heap_lt hB
  have a0 : w.cell? ⟨A, 0, none⟩ = some (.int .i64 0) := by rw [cell_of_row w A 0 _ _ _ hA]; exact get0 _ _
  have b0 : w.cell? ⟨B, 0, none⟩ = some (.bool false) := by rw [cell_of_row w B 0 _ _ _ hB]; exact get0 _ _
  have fA := frozen_of_row w A 0 _ _ hA
  have fB := frozen_of_row w B 0 _ _ hB
  have HA := hid hA
  have HB := hid hB
  clear hA hB
  have hA1 : A < w.heap.size + 1 := by omega
  have hA2 : A < w.heap.size + 1 + 1 := by omega
  have hB1 : B < w.heap.size + 1 := by omega
  have hB2 : B < w.heap.size + 1 + 1 := by omega
  unfold st4
  go_enter Tryz.func154, Tryz.ntmps154
  go_wp2
  go_region
  all_goals
    go_wp2
    have hxs : ((w.setCell ⟨A, 0, none⟩ (.int .i64 1)).setCell ⟨B, 0, none⟩ (.bool true)).heap.size = w.heap.size := by simp
    have FX := hid (show Fr (fun k => k = A ∨ k = B) w ((w.setCell ⟨A, 0, none⟩ (.int .i64 1)).setCell ⟨B, 0, none⟩ (.bool true)) from (Fr.refl.setCell _ (.inl (.inl rfl))).setCell _ (.inl (.inr rfl)))
    generalize (w.setCell ⟨A, 0, none⟩ (.int .i64 1)).setCell ⟨B, 0, none⟩ (.bool true) = X at *
    have Z1 := alloc3_1 X (.cells #[.int .i64 gs, .slice (some ⟨A, 0, none⟩) 1 cA, .slice (some ⟨B, 0, none⟩) 1 cB, .slice (some ⟨C, 0, none⟩) 1 cap, .slice none 0 0] 46) (.cells #[.int .i64 gs, .slice (some ⟨A, 0, none⟩) 1 cA, .slice (some ⟨B, 0, none⟩) 1 cB, .slice (some ⟨C, 0, none⟩) 1 cap, .slice none 0 0] 46) (.cells #[.int .i64 0, .int .i64 1] 72)
    have Z2 := alloc3_2 X (.cells #[.int .i64 gs, .slice (some ⟨A, 0, none⟩) 1 cA, .slice (some ⟨B, 0, none⟩) 1 cB, .slice (some ⟨C, 0, none⟩) 1 cap, .slice none 0 0] 46) (.cells #[.int .i64 gs, .slice (some ⟨A, 0, none⟩) 1 cA, .slice (some ⟨B, 0, none⟩) 1 cB, .slice (some ⟨C, 0, none⟩) 1 cap, .slice none 0 0] 46) (.cells #[.int .i64 0, .int .i64 1] 72)
    rw [hxs] at Z1 Z2
    exact bodyPost_ret (v := tup3 (st4 gs (.slice (some ⟨A, 0, none⟩) 1 cA) (.slice (some ⟨B, 0, none⟩) 1 cB) C cap) (.agg #[.int .i64 0, .int .i64 1]) (.int .i64 0)) (res_row3 rfl _ _ (w.heap.size + 1) (w.heap.size + 1 + 1) 46 72 _ _ (0, 0) (0, 0) _ _ rfl Z1 Tryz.underlying46 rfl (by kernel_rfl) rfl Z2 Tryz.underlying72 rfl (by kernel_rfl) rfl) rfl
      ⟨rfl, (((FX.out.alloc _).alloc _).alloc _).drew⟩
/-- Take of a fresh slab's state -/
def Take4Post (gs : Int) (w : World) (e : Ending) (w' : World) : Prop := ∃ A cA B cB C cap, e = .returned (tup3 (st4 gs (.slice (some ⟨A, 0, none⟩) 1 cA) (.slice (some ⟨B, 0, none⟩) 1 cB) C cap) (.agg #[.int .i64 0, .int .i64 1]) (.int .i64 0)) ∧ Fr E0 w w'
theorem kp6 {V w2 : World} {B C : Nat} {a b c : Value} (h : V.cell? ⟨B, 3, none⟩ = some a ∧ V.cell? ⟨B, 4, none⟩ = some b ∧ V.cell? ⟨C, 0, none⟩ = some c) (hf : Fr E0 V w2) :
    w2.cell? ⟨B, 3, none⟩ = some a ∧ w2.cell? ⟨B, 4, none⟩ = some b ∧ w2.cell? ⟨C, 0, none⟩ = some c := ⟨hf.cell h.1 (ne0 _), hf.cell h.2.1 (ne0 _), hf.cell h.2.2 (ne0 _)⟩
set_option maxHeartbeats 40000000 in
set_option maxRecDepth 20000 in
theorem take4_ok (gs : Int) (w : World) (C cap : Nat) (r : Array Value) (hC : w.heap[C]? = some (.cells (#[.slice none 0 0] ++ r) 42 (0, 0))) (hcap : 1 ≤ cap) (h0 : 1 ≤ gs) :
    Calls Tryz.prog 57 #[st4 gs (.slice none 0 0) (.slice none 0 0) C cap, .int .i64 0] w (Take4Post gs w) := by
  have HC := hid hC
  have hCl := heap_lt hC
  have hg : 0 < gs := by omega
  clear hC
  unfold st4
  go_enter Tryz.func57, Tryz.ntmps57
  go_wp2_with fail
  generalize hW : (((w.alloc _).alloc _).alloc _) = W
  have F0 := hid (show Fr E0 w W from by rw [← hW]; exact ((Fr.refl.alloc _).alloc _).alloc _)
  have T2 := hid (show W.heap[w.heap.size]? = some (.cells #[.int .i64 gs, .slice none 0 0, .slice none 0 0, .slice (some ⟨C, 0, none⟩) 1 cap, .slice none 0 0] 46 (0, 0)) from by rw [← hW]; exact (heap_alloc_old _ _ (by simp; omega)).trans (heap_alloc2_old w _ _))
  have T4 := hid (show W.heap[w.heap.size + 1]? = some (.cells #[.int .i64 0, .slice none 0 0, .slice none 0 0, .slice none 0 0, .slice none 0 0] 46 (0, 0)) from by rw [← hW]; exact alloc3_1 w _ _ _)
  have T5 := hid (show W.heap[w.heap.size + 1 + 1]? = some (.cells #[.int .i64 0, .int .i64 0] 72 (0, 0)) from by rw [← hW]; exact alloc3_2 w _ _ _)
  have hws : w.heap.size + 3 = W.heap.size := by rw [← hW]; simp
  clear hW
  refine (proc0_ok _ _ _ _ _ 1 cap _ (Nat.le_refl _)).mono ?_
  rintro e w1 ⟨rfl, hf1⟩
  have F1 := hid hf1
  have t2 := fun j => cell_of_row w1 _ j _ _ _ (F1.out.heapAt T2.out (ne0 _))
  have hl1 := heap_lt (F1.out.heapAt T2.out (ne0 _))
  clear hf1
  go_wp2_with fail
  refine (copy4_ok gs w1 C cap r (F1.out.heapAt (F0.out.heapAt HC.out (ne0 _)) (ne0 _)) hcap).mono ?_
  rintro e w2 ⟨C2, cap2, r2, rfl, hC2, hC2l, hcap2, hf2⟩
  have F2 := hid (F1.out.trans hf2)
  have R2 := hid hC2
  have S2 := hid (F2.out.heapAt T2.out (ne0 _))
  have t2b := fun j => cell_of_row w2 _ j _ _ _ S2.out
  have f2b := fun j => frozen_of_row w2 _ j _ _ S2.out
  clear t2 hl1 hf2 hC2
  unfold st4
  go_upto_region 4 with fail
  have hC2lt : w.heap.size + 3 ≤ C2 := by have := F1.out.size; omega
  have hC2w : C2 ≠ w.heap.size := by omega
  generalize hV : (((((w2.setCell _ _).setCell _ _).setCell _ _).setCell _ _).setCell _ _) = V
  have FV := hid (show Fr E0 w V from by
    rw [← hV]
    exact (((((F0.out.trans F2.out).setNew _ (Nat.le_refl _)).setNew _ (Nat.le_refl _)).setNew _ (Nat.le_refl _)).setNew _ (Nat.le_refl _)).setNew _ (Nat.le_refl _))
  have hof : ∀ k, k ≠ w.heap.size → V.heap[k]? = w2.heap[k]? := fun k hk => by
    rw [← hV, heap_setCell_other _ _ _ _ hk, heap_setCell_other _ _ _ _ hk, heap_setCell_other _ _ _ _ hk, heap_setCell_other _ _ _ _ hk, heap_setCell_other _ _ _ _ hk]
  have T2V := hid (show V.heap[w.heap.size]? = some (.cells #[.int .i64 gs, .slice none 0 0, .slice none 0 0, .slice (some ⟨C2, 0, none⟩) 1 cap2, .slice none 0 0] 46 (0, 0)) from by rw [← hV]; exact heap_set5 S2.out _ _ _ _ _)
  have T4V := hid ((hof _ (by omega)).trans (F2.out.heapAt T4.out (ne0 _)))
  have T5V := hid ((hof _ (by omega)).trans (F2.out.heapAt T5.out (ne0 _)))
  have CV := hid ((hof _ hC2w).trans R2.out)
  clear hV hof t2b f2b S2 R2 F2 F1
  have tv := fun j => cell_of_row V _ j _ _ _ T2V.out
  have tf := fun j => frozen_of_row V _ j _ _ T2V.out
  have c0 : V.cell? ⟨C2, 0, none⟩ = some (.slice none 0 0) := by rw [cell_of_row V C2 0 _ _ _ CV.out]; exact get0 _ _
  have cf := fun j => frozen_of_row V C2 j _ _ CV.out
  have hlt := heap_lt T2V.out
  have hlc := heap_lt CV.out
  have K0 := hid (show V.cell? ⟨w.heap.size, 3, none⟩ = some (.slice (some ⟨C2, 0, none⟩) 1 cap2) ∧ V.cell? ⟨w.heap.size, 4, none⟩ = some (.slice none 0 0) ∧ V.cell? ⟨C2, 0, none⟩ = some (.slice none 0 0) from ⟨tv 3, tv 4, c0⟩)
  have K1 := hid (show (V.setCell ⟨C2, 0, none⟩ (.slice none 0 0)).cell? ⟨w.heap.size, 3, none⟩ = some (.slice (some ⟨C2, 0, none⟩) 1 cap2) ∧ (V.setCell ⟨C2, 0, none⟩ (.slice none 0 0)).cell? ⟨w.heap.size, 4, none⟩ = some (.slice none 0 0) ∧ (V.setCell ⟨C2, 0, none⟩ (.slice none 0 0)).cell? ⟨C2, 0, none⟩ = some (.slice none 0 0) from
    ⟨setCell_blk (Ne.symm hC2w) (tv 3), setCell_blk (Ne.symm hC2w) (tv 4), setCell_at c0⟩)
  go_upto_region 8 with fail
  go_region_held3 (fun w' => w'.cell? ⟨w.heap.size, 3, none⟩ = some (.slice (some ⟨C2, 0, none⟩) 1 cap2) ∧ w'.cell? ⟨w.heap.size, 4, none⟩ = some (.slice none 0 0) ∧ w'.cell? ⟨C2, 0, none⟩ = some (.slice none 0 0))
    (first | exact K0.out | exact K1.out)
    (first | (go_at_call 153; refine (ints0_ok _).mono ?_; rintro e w1 ⟨rfl, rfl⟩))
  have CW1 := K1.out.2.2
  clear tv tf c0 cf hlt hlc K1
  clear ‹_ ∧ _›
  generalize hV : (V.setCell ⟨C2, 0, none⟩ (.slice none 0 0)).drew = V2
  have FV2 := hid (show Fr E0 w V2 from by rw [← hV]; exact (FV.out.setNew _ (by omega)).drew)
  have T2W := hid (show V2.heap[w.heap.size]? = some (.cells #[.int .i64 gs, .slice none 0 0, .slice none 0 0, .slice (some ⟨C2, 0, none⟩) 1 cap2, .slice none 0 0] 46 (0, 0)) from by rw [← hV]; exact (heap_setCell_other _ _ _ _ (Ne.symm hC2w)).trans T2V.out)
  have T4W := hid (show V2.heap[w.heap.size + 1]? = some (.cells #[.int .i64 0, .slice none 0 0, .slice none 0 0, .slice none 0 0, .slice none 0 0] 46 (0, 0)) from by rw [← hV]; exact (heap_setCell_other _ _ _ _ (by show w.heap.size + 1 ≠ C2; omega)).trans T4V.out)
  have T5W := hid (show V2.heap[w.heap.size + 1 + 1]? = some (.cells #[.int .i64 0, .int .i64 0] 72 (0, 0)) from by rw [← hV]; exact (heap_setCell_other _ _ _ _ (by show w.heap.size + 1 + 1 ≠ C2; omega)).trans T5V.out)
  have CW : V2.cell? ⟨C2, 0, none⟩ = some (.slice none 0 0) := by rw [← hV]; exact CW1
  have hlc : C2 < V2.heap.size := World.block_lt_of_cell? V2 _ CW
  clear hV FV T2V T4V T5V CV K0 CW1
  have tv := fun j => cell_of_row V2 _ j _ _ _ T2W.out
  have tf := fun j => frozen_of_row V2 _ j _ _ T2W.out
  have hlt := heap_lt T2W.out
  go_wp2_with fail
  refine (ints0_ok _).mono ?_
  rintro e w1 ⟨rfl, rfl⟩
  have apA : ¬ (281474976710656 < Builtin.nextslicecap 1 0 * Tryz.t3.bytes) := by decide
  have apB : ¬ (281474976710656 < Builtin.nextslicecap 1 0 * Tryz.t4.bytes) := by decide
  have l1 : w.heap.size < V2.heap.size + 1 := by omega
  have l2 : w.heap.size < V2.heap.size + 1 + 1 := by omega
  have l3 : w.heap.size < V2.heap.size + 1 + 1 + 1 := by omega
  go_upto_region 18 with fail
  obtain ⟨cA, hcA, hcA1⟩ : ∃ c, (Question.appendCap 1 0 3).cut (V2.tape V2.drawn (Question.appendCap 1 0 3)) = c ∧ 1 ≤ c := ⟨_, rfl, grownCap_ge V2 1 0 3⟩
  obtain ⟨cB, hcB, hcB1⟩ : ∃ c, (Question.appendCap 1 0 4).cut (V2.tape (V2.drawn + 1) (Question.appendCap 1 0 4)) = c ∧ 1 ≤ c := ⟨_, rfl, grownCap_ge V2.drew 1 0 4⟩
  rw [hcA, hcB]
  clear hcA hcB
  have hxs : (((V2.setCell ⟨w.heap.size, 4, none⟩ (.slice none 0 0)).setCell ⟨w.heap.size, 1, none⟩ (.slice (some ⟨V2.heap.size + 1, 0, none⟩) 1 cA)).setCell ⟨w.heap.size, 2, none⟩ (.slice (some ⟨V2.heap.size + 1 + 1 + 1, 0, none⟩) 1 cB)).heap.size = V2.heap.size := by simp
  have FX := hid (show Fr E0 w (((V2.setCell ⟨w.heap.size, 4, none⟩ (.slice none 0 0)).setCell ⟨w.heap.size, 1, none⟩ (.slice (some ⟨V2.heap.size + 1, 0, none⟩) 1 cA)).setCell ⟨w.heap.size, 2, none⟩ (.slice (some ⟨V2.heap.size + 1 + 1 + 1, 0, none⟩) 1 cB)) from ((FV2.out.setNew _ (Nat.le_refl _)).setNew _ (Nat.le_refl _)).setNew _ (Nat.le_refl _))
  have X2 := hid (heap_setCell_same _ _ 2 _ _ (.slice (some ⟨V2.heap.size + 1 + 1 + 1, 0, none⟩) 1 cB) (heap_setCell_same _ _ 1 _ _ (.slice (some ⟨V2.heap.size + 1, 0, none⟩) 1 cA) (heap_setCell_same _ _ 4 _ _ (.slice none 0 0) T2W.out)))
  have X4 := hid (show (((V2.setCell ⟨w.heap.size, 4, none⟩ (.slice none 0 0)).setCell ⟨w.heap.size, 1, none⟩ (.slice (some ⟨V2.heap.size + 1, 0, none⟩) 1 cA)).setCell ⟨w.heap.size, 2, none⟩ (.slice (some ⟨V2.heap.size + 1 + 1 + 1, 0, none⟩) 1 cB)).heap[w.heap.size + 1]? = some (.cells #[.int .i64 0, .slice none 0 0, .slice none 0 0, .slice none 0 0, .slice none 0 0] 46 (0, 0)) from by
    rw [heap_setCell_other _ _ _ _ (by show w.heap.size + 1 ≠ w.heap.size; omega), heap_setCell_other _ _ _ _ (by show w.heap.size + 1 ≠ w.heap.size; omega), heap_setCell_other _ _ _ _ (by show w.heap.size + 1 ≠ w.heap.size; omega)]
    exact T4W.out)
  have X5 := hid (show (((V2.setCell ⟨w.heap.size, 4, none⟩ (.slice none 0 0)).setCell ⟨w.heap.size, 1, none⟩ (.slice (some ⟨V2.heap.size + 1, 0, none⟩) 1 cA)).setCell ⟨w.heap.size, 2, none⟩ (.slice (some ⟨V2.heap.size + 1 + 1 + 1, 0, none⟩) 1 cB)).heap[w.heap.size + 1 + 1]? = some (.cells #[.int .i64 0, .int .i64 0] 72 (0, 0)) from by
    rw [heap_setCell_other _ _ _ _ (by show w.heap.size + 1 + 1 ≠ w.heap.size; omega), heap_setCell_other _ _ _ _ (by show w.heap.size + 1 + 1 ≠ w.heap.size; omega), heap_setCell_other _ _ _ _ (by show w.heap.size + 1 + 1 ≠ w.heap.size; omega)]
    exact T5W.out)
  clear T2W T4W T5W FV2 CW tv tf
  generalize (((V2.setCell ⟨w.heap.size, 4, none⟩ (.slice none 0 0)).setCell ⟨w.heap.size, 1, none⟩ (.slice (some ⟨V2.heap.size + 1, 0, none⟩) 1 cA)).setCell ⟨w.heap.size, 2, none⟩ (.slice (some ⟨V2.heap.size + 1 + 1 + 1, 0, none⟩) 1 cB)) = X at *
  have hx4 := heap_lt X4.out
  have hx5 := heap_lt X5.out
  generalize hY : World.drew (World.drew (World.alloc (World.alloc (World.alloc (World.alloc X _) _) _) _)) = V3
  have FY := hid (show Fr E0 w V3 from by rw [← hY]; exact ((((FX.out.alloc _).alloc _).alloc _).alloc _).drew.drew)
  have Y2 := hid (show V3.heap[w.heap.size]? = some (.cells #[.int .i64 gs, .slice (some ⟨V2.heap.size + 1, 0, none⟩) 1 cA, .slice (some ⟨V2.heap.size + 1 + 1 + 1, 0, none⟩) 1 cB, .slice (some ⟨C2, 0, none⟩) 1 cap2, .slice none 0 0] 46 (0, 0)) from by rw [← hY]; exact (alloc4_old X _ _ _ _ (heap_lt X2.out)).trans X2.out)
  have Y4 := hid (show V3.heap[w.heap.size + 1]? = some (.cells #[.int .i64 0, .slice none 0 0, .slice none 0 0, .slice none 0 0, .slice none 0 0] 46 (0, 0)) from by rw [← hY]; exact (alloc4_old X _ _ _ _ hx4).trans X4.out)
  have Y5 := hid (show V3.heap[w.heap.size + 1 + 1]? = some (.cells #[.int .i64 0, .int .i64 0] 72 (0, 0)) from by rw [← hY]; exact (alloc4_old X _ _ _ _ hx5).trans X5.out)
  have YA := hid (show V3.heap[V2.heap.size + 1]? = some (.cells (#[.int .i64 0] ++ Builtin.zeroCells #[.int .i64 0] (cA - 1)) 3 (0, 0)) from by rw [← hY, ← hxs]; exact alloc4_1 X _ _ _ _)
  have YB := hid (show V3.heap[V2.heap.size + 1 + 1 + 1]? = some (.cells (#[.bool false] ++ Builtin.zeroCells #[.bool false] (cB - 1)) 4 (0, 0)) from by rw [← hY, ← hxs]; exact alloc4_3 X _ _ _ _)
  clear hY X2 X4 X5 FX
  have tv := fun j => cell_of_row V3 _ j _ _ _ Y2.out
  have hlt := heap_lt Y2.out
  go_wp2_with fail
  trace "A"
  refine (given0_ok gs V3 _ cA _ cB C2 cap2 _ _ YA.out YB.out hcA1 hcB1).mono ?_
  rintro e w4 ⟨rfl, hf4⟩
  have F4 := hid hf4
  have nA : ∀ k, k < V2.heap.size → ¬ (k = V2.heap.size + 1 ∨ k = V2.heap.size + 1 + 1 + 1) := fun k hk => by omega
  have Z4 := hid (F4.out.heapAt Y4.out (nA _ (by omega)))
  have Z5 := hid (F4.out.heapAt Y5.out (nA _ (by omega)))
  have z4 := fun j => cell_of_row w4 _ j _ _ _ Z4.out
  have z5 := fun j => cell_of_row w4 _ j _ _ _ Z5.out
  have y4 := fun j => frozen_of_row w4 _ j _ _ Z4.out
  have y5 := fun j => frozen_of_row w4 _ j _ _ Z5.out
  clear hf4 tv
  simp only [tup3, st4]
  go_wp2
  have Q4 := heap_set5 Z4.out (.int .i64 gs) (.slice (some ⟨V2.heap.size + 1, 0, none⟩) 1 cA) (.slice (some ⟨V2.heap.size + 1 + 1 + 1, 0, none⟩) 1 cB) (.slice (some ⟨C2, 0, none⟩) 1 cap2) (.slice none 0 0)
  have Q4' := (heap_setCell_other _ ⟨w.heap.size + 1 + 1, 1, none⟩ (w.heap.size + 1) (.int .i64 1) (by show w.heap.size + 1 ≠ w.heap.size + 1 + 1; omega)).trans ((heap_setCell_other _ ⟨w.heap.size + 1 + 1, 0, none⟩ (w.heap.size + 1) (.int .i64 0) (by show w.heap.size + 1 ≠ w.heap.size + 1 + 1; omega)).trans Q4)
  have n5 : w.heap.size + 1 + 1 ≠ w.heap.size + 1 := by omega
  have Q5 := heap_setCell_same _ _ 1 _ _ (.int .i64 1) (heap_setCell_same _ _ 0 _ _ (.int .i64 0) ((heap_setCell_other _ ⟨w.heap.size + 1, 4, none⟩ _ (.slice none 0 0) n5).trans ((heap_setCell_other _ ⟨w.heap.size + 1, 3, none⟩ _ (.slice (some ⟨C2, 0, none⟩) 1 cap2) n5).trans ((heap_setCell_other _ ⟨w.heap.size + 1, 2, none⟩ _ (.slice (some ⟨V2.heap.size + 1 + 1 + 1, 0, none⟩) 1 cB) n5).trans ((heap_setCell_other _ ⟨w.heap.size + 1, 1, none⟩ _ (.slice (some ⟨V2.heap.size + 1, 0, none⟩) 1 cA) n5).trans ((heap_setCell_other _ ⟨w.heap.size + 1, 0, none⟩ _ (.int .i64 gs) n5).trans Z5.out))))))
  have hsz := FY.out.size
  exact bodyPost_ret (v := tup3 (st4 gs (.slice (some ⟨V2.heap.size + 1, 0, none⟩) 1 cA) (.slice (some ⟨V2.heap.size + 1 + 1 + 1, 0, none⟩) 1 cB) C2 cap2) (.agg #[.int .i64 0, .int .i64 1]) (.int .i64 0)) (res_row3 rfl _ _ (w.heap.size + 1) (w.heap.size + 1 + 1) 46 72 _ _ (0, 0) (0, 0) _ _ rfl Q4' Tryz.underlying46 rfl (by kernel_rfl) rfl Q5 Tryz.underlying72 rfl (by kernel_rfl) rfl) rfl
    ⟨_, cA, _, cB, C2, cap2, rfl, (((((((FY.out.trans' F4.out (fun k hk => .inr (by omega))).setNew _ (by omega)).setNew _ (by omega)).setNew _ (by omega)).setNew _ (by omega)).setNew _ (by omega)).setNew _ (by omega)).setNew _ (by omega)⟩
end Go.Proofs.YtocepiogpeafoaaGreatDoor
