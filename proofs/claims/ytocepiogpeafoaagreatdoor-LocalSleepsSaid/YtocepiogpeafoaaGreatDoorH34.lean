/- Words and contracts of calls that the law needs (Step): merged by wip/gen/zmerge.py. No condition but those that each theorem names. -/
import Derived.Test.YtocepiogpeafoaaGreatDoorH28
import Derived.Test.YtocepiogpeafoaaGreatDoorH30
set_option linter.unusedVariables false
/- step.Step of 'set r1' and of 'sleep r1': the walks. Printed by wip/gen/zstep.py. -/
namespace Go.Proofs.YtocepiogpeafoaaGreatDoor
open Go.RowKit
set_option linter.unusedVariables false
theorem alloc5 (w : World) (O1 O2 O3 O4 O5 : Obj) : (((((w.alloc O1).alloc O2).alloc O3).alloc O4).alloc O5).heap[w.heap.size]? = some O1 ∧ (((((w.alloc O1).alloc O2).alloc O3).alloc O4).alloc O5).heap[w.heap.size + 1]? = some O2 ∧ (((((w.alloc O1).alloc O2).alloc O3).alloc O4).alloc O5).heap[w.heap.size + 1 + 1]? = some O3 ∧
    (((((w.alloc O1).alloc O2).alloc O3).alloc O4).alloc O5).heap[w.heap.size + 1 + 1 + 1]? = some O4 ∧ (((((w.alloc O1).alloc O2).alloc O3).alloc O4).alloc O5).heap[w.heap.size + 1 + 1 + 1 + 1]? = some O5 := by
  refine ⟨?_, ?_, ?_, ?_, ?_⟩
  · exact (heap_alloc_old _ _ (by simp; omega)).trans ((heap_alloc_old _ _ (by simp; omega)).trans ((heap_alloc_old _ _ (by simp; omega)).trans (heap_alloc2_old w _ _)))
  · exact (heap_alloc_old _ _ (by simp)).trans (alloc4_1 w _ _ _ _)
  · exact (heap_alloc_old _ _ (by simp)).trans (alloc4_2 w _ _ _ _)
  · exact (heap_alloc_old _ _ (by simp)).trans (alloc4_3 w _ _ _ _)
  · have := heap_alloc_new ((((w.alloc O1).alloc O2).alloc O3).alloc O4) O5
    simpa using this
/-- what the region of Step's end leaves as it is -/
structure St12 (T4 T8 T6 T7 : Nat) (ctx ins : Array Value) (w0 w : World) : Prop where
  t4 : w.heap[T4]? = some (.cells ctx 106 (0, 0))
  t8 : w.heap[T8]? = some (.cells ins 108 (0, 0))
  t6 : FitsN 106 18 w T6
  t7 : FitsN 118 11 w T7
  fr : Fr E0 w0 w
theorem St12.s6 {T4 T8 T6 T7 : Nat} {ctx ins cs : Array Value} {w0 w : World} (h : St12 T4 T8 T6 T7 ctx ins w0 w) (h1 : T4 ≠ T6) (h2 : T8 ≠ T6) (h3 : T6 ≠ T7) (h4 : w0.heap.size ≤ T6) (hcs : cs.size = 18) : St12 T4 T8 T6 T7 ctx ins w0 (setMap w T6 (.cells cs 106 (0, 0))) :=
  ⟨(setMap_other h1).trans h.t4, (setMap_other h2).trans h.t8, fitsN_set h.t6 hcs, fitsN_other _ (Ne.symm h3) h.t7, h.fr.setMap _ (.inr h4)⟩
theorem St12.s7 {T4 T8 T6 T7 : Nat} {ctx ins cs : Array Value} {w0 w : World} (h : St12 T4 T8 T6 T7 ctx ins w0 w) (h1 : T4 ≠ T7) (h2 : T8 ≠ T7) (h3 : T6 ≠ T7) (h4 : w0.heap.size ≤ T7) (hcs : cs.size = 11) : St12 T4 T8 T6 T7 ctx ins w0 (setMap w T7 (.cells cs 118 (0, 0))) :=
  ⟨(setMap_other h1).trans h.t4, (setMap_other h2).trans h.t8, fitsN_other _ h3 h.t6, fitsN_set h.t7 hcs, h.fr.setMap _ (.inr h4)⟩
theorem res_row22 {P : Program} {fn : Func} {p q : Tmp} {ty ty' : TypeId} (h : fn.results = #[.cell p ty, .cell q ty']) (tmps : Array Value) (w : World) (g g' : Nat) (t t' : TypeId) (cs cs' : Array Value) (fr fr' : Nat × Nat) (d d' : TypeDesc)
    (hp : tmps.getD p undef = .pointer (some ⟨g, 0, none⟩)) (hg : w.heap[g]? = some (.cells cs t fr)) (hu : P.underlying ty = some d) (hd : (match d with | .struct _ | .array _ _ => true | _ => false) = true) (hi : (P.info? ty).map (·.size) = some cs.size)
    (hq : tmps.getD q undef = .pointer (some ⟨g', 0, none⟩)) (hg' : w.heap[g']? = some (.cells cs' t' fr')) (hu' : P.underlying ty' = some d') (hd' : (match d' with | .struct _ | .array _ _ => true | _ => false) = true) (hi' : (P.info? ty').map (·.size) = some cs'.size) :
    (results fn tmps).run P w = .ok (.tuple #[.agg cs, .agg cs']) w := by
  have hp' : tmps[p]?.getD undef = .pointer (some ⟨g, 0, none⟩) := by simpa using hp
  have hq' : tmps[q]?.getD undef = .pointer (some ⟨g', 0, none⟩) := by simpa using hq
  simp [results, h, hp', hq', asAddr, run_loadVar_row w g t ty cs fr d hg hu hd hi, run_loadVar_row w g' t' ty' cs' fr' d' hg' hu' hd' hi']
set_option maxRecDepth 100000 in
set_option maxHeartbeats 40000000 in
theorem stepSet_ok {w : World} {b o n cp pc : Nat} {vf vt : Value} {r c cl : Int} {k : Int} (h0 : w.cell? ⟨b, o + pc, none⟩ = some (.int .u32 c)) (hpn : pc < n) (hn : n ≤ 4096) (hlo : 0 ≤ c) (hhi : c < 4294967296) (hdec : decR c = (⟨2, 1, 0, 0, k⟩, 0)) (hvf : ∃ A n c, vf = .slice A n c) (hvt : ∃ A n c, vt = .slice A n c) :
    Calls Tryz.prog 20 #[.agg #[.slice (some ⟨b, o, none⟩) n cp, vf, vt], ctxV pc r, .agg #[.int .u64 cl, .int .i64 0, .int .i64 1]] w (Ret (tup2 (ctxV ((pc : Int) + 1) k) (.agg #[.int .i64 0, .int .i64 0, .int .i64 0, .int .i64 0, .int .i64 0, .int .i64 0, .int .i64 0, .int .i64 0, .int .i64 0, .int .i64 0, .int .i64 0])) E0 w) := by
  have NX := hid (fun u (hu : Fr E0 w u) => snext_ok (b := b) (o := o) (n := n) (cp := cp) (pc := pc) (r := r) (hu.cell h0 (ne0 _)) hpn hlo hhi hdec hvf hvt)
  have hn' : (pc : Int) < 4096 := by omega
  obtain ⟨fA, fn, fc, rfl⟩ := hvf
  obtain ⟨tA, tn, tcp, rfl⟩ := hvt
  clear h0 hpn hn hlo hhi hdec
  unfold ctxV
  unfold ctxV at NX
  go_enter Tryz.func20, Tryz.ntmps20
  go_upto_region 1 with fail
  generalize hW : World.alloc _ _ = W
  have F0 := hid (show Fr E0 w W from by rw [← hW]; exact ((((Fr.refl.alloc _).alloc _).alloc _).alloc _).alloc _)
  have T3 := hid (show W.heap[w.heap.size]? = some (.cells #[.slice (some ⟨b, o, none⟩) n cp, .slice fA fn fc, .slice tA tn tcp] 29 (0, 0)) from by rw [← hW]; exact (alloc5 w _ _ _ _ _).1)
  have T4 := hid (show W.heap[w.heap.size + 1]? = some (.cells #[.int .i64 (pc : Int), .int .i64 0, .int .i64 r, .int .i64 0, .int .i64 0, .int .i64 0, .int .i64 0, .int .i64 0, .int .i64 0, .int .i64 0, .int .i64 0, .int .i64 0, .int .i64 0, .int .i64 0, .int .i64 0, .int .i64 0, .int .i64 0, .slice none 0 0] 106 (0, 0)) from by rw [← hW]; exact (alloc5 w _ _ _ _ _).2.1)
  have T6 := hid (show W.heap[w.heap.size + 1 + 1 + 1]? = some (.cells #[.int .i64 0, .int .i64 0, .int .i64 0, .int .i64 0, .int .i64 0, .int .i64 0, .int .i64 0, .int .i64 0, .int .i64 0, .int .i64 0, .int .i64 0, .int .i64 0, .int .i64 0, .int .i64 0, .int .i64 0, .int .i64 0, .int .i64 0, .slice none 0 0] 106 (0, 0)) from by rw [← hW]; exact (alloc5 w _ _ _ _ _).2.2.2.1)
  have T7 := hid (show W.heap[w.heap.size + 1 + 1 + 1 + 1]? = some (.cells #[.int .i64 0, .int .i64 0, .int .i64 0, .int .i64 0, .int .i64 0, .int .i64 0, .int .i64 0, .int .i64 0, .int .i64 0, .int .i64 0, .int .i64 0] 118 (0, 0)) from by rw [← hW]; exact (alloc5 w _ _ _ _ _).2.2.2.2)
  clear hW
  apply wp_region_lit
  refine wpList_load_row rfl 29 _ rfl w.heap.size (by kernel_rfl) 29 _ (0, 0) _ T3.out Tryz.underlying29 rfl (by kernel_rfl) ?_
  refine wpList_load_row rfl 106 _ rfl (w.heap.size + 1) (by kernel_rfl) 106 _ (0, 0) _ T4.out Tryz.underlying106 rfl (by kernel_rfl) ?_
  simp only [Act.put, List.setIfInBounds_toArray, List.set_cons_zero, List.set_cons_succ]
  go_wp2_with fail
  refine (NX.out _ F0.out).mono ?_
  rintro e w1 ⟨rfl, hf1⟩
  have F1 := hid (F0.out.trans hf1)
  have G1 := hid hf1
  clear hf1
  simp only [tup2, Ins.val]
  go_upto_region 4 with fail
  generalize hV : World.alloc _ _ = V
  have GV := hid (show Fr E0 W V from by rw [← hV]; exact G1.out.alloc _)
  have I8 := hid (show V.heap[w1.heap.size]? = some (.cells #[.int .i64 2, .int .i64 1, .int .i64 0, .int .i64 0, .int .i64 k] 108 (0, 0)) from by rw [← hV]; exact heap_alloc_new w1 _)
  have FV := hid (F0.out.trans GV.out)
  have V4 := hid (GV.out.heapAt T4.out (ne0 _))
  have V6 := hid (GV.out.heapAt T6.out (ne0 _))
  have V7 := hid (GV.out.heapAt T7.out (ne0 _))
  have hw1 : w.heap.size + 1 + 1 + 1 + 1 < w1.heap.size := heap_lt (G1.out.heapAt T7.out (ne0 _))
  clear hV GV G1 F1 F0 T3 T4 T6 T7 NX
  apply wp_region_lit
  refine wpList_load_row rfl 106 _ rfl (w.heap.size + 1) (by kernel_rfl) 106 _ (0, 0) _ V4.out Tryz.underlying106 rfl (by kernel_rfl) ?_
  refine Great.wpList_allocTo rfl _ rfl (.pointer (some ⟨V.heap.size, 0, none⟩)) (.cells #[.int .i64 0, .int .i64 0, .int .i64 0, .int .i64 0, .int .i64 0, .int .i64 0, .int .i64 0, .int .i64 0, .int .i64 0, .int .i64 0, .int .i64 0, .int .i64 0, .int .i64 0, .int .i64 0, .int .i64 0, .int .i64 0, .int .i64 0, .slice none 0 0] 106) (by kernel_rfl) ?_
  refine wpList_store_fits rfl 106 _ _ rfl V.heap.size #[.int .i64 (pc : Int), .int .i64 0, .int .i64 r, .int .i64 0, .int .i64 0, .int .i64 0, .int .i64 0, .int .i64 0, .int .i64 0, .int .i64 0, .int .i64 0, .int .i64 0, .int .i64 0, .int .i64 0, .int .i64 0, .int .i64 0, .int .i64 0, .slice none 0 0] (by kernel_rfl) (by kernel_rfl) 18 (fitsN_new _ _ _ rfl _ _ rfl) rfl (by kernel_rfl) (by kernel_rfl) ?_
  apply wpList_nil
  simp only [Act.put, List.setIfInBounds_toArray, List.set_cons_zero, List.set_cons_succ]
  generalize hU : setMap _ _ _ = U
  have GU := hid (show Fr E0 V U from by rw [← hU]; exact (Fr.refl.alloc _).setMap _ (.inr (Nat.le_refl _)))
  have FU := hid (FV.out.trans GU.out)
  have U4 := hid (GU.out.heapAt V4.out (ne0 _))
  have U6 := hid (GU.out.heapAt V6.out (ne0 _))
  have U7 := hid (GU.out.heapAt V7.out (ne0 _))
  have U8 := hid (GU.out.heapAt I8.out (ne0 _))
  clear hU GU FV V4 V6 V7 I8
  have c4 := fun j => cell_of_row U _ j _ _ _ U4.out
  have f4 := fun j => frozen_of_row U _ j _ _ U4.out
  have c8 := fun j => cell_of_row U _ j _ _ _ U8.out
  have l4 := heap_lt U4.out
  have l8 := heap_lt U8.out
  have n48 : w1.heap.size ≠ w.heap.size + 1 := by omega
  go_upto_region 5 with fail
  go_region
  go_wp2_with fail
  refine (cloneN_ok _).mono ?_
  rintro e w2 ⟨rfl, rfl⟩
  go_upto_region 54 with fail
  generalize hZ : World.drew _ = Z
  have GZ := hid (show Fr (fun k => k = w.heap.size + 1) U Z from by
      rw [← hZ]
      refine Fr.drew ?_
      refine Fr.setCell (p := ⟨w.heap.size + 1, 2, none⟩) ?_ _ (.inl rfl)
      refine Fr.setCell (p := ⟨w.heap.size + 1, 0, none⟩) ?_ _ (.inl rfl)
      refine Fr.setCell (p := ⟨w.heap.size + 1, 17, none⟩) ?_ _ (.inl rfl)
      exact Fr.refl)
  have Z4 := hid (show Z.heap[w.heap.size + 1]? = some (.cells #[.int .i64 ((pc : Int) + 1), .int .i64 0, .int .i64 k, .int .i64 0, .int .i64 0, .int .i64 0, .int .i64 0, .int .i64 0, .int .i64 0, .int .i64 0, .int .i64 0, .int .i64 0, .int .i64 0, .int .i64 0, .int .i64 0, .int .i64 0, .int .i64 0, .slice none 0 0] 106 (0, 0)) from by rw [← hZ]; exact (heap_setCell_same _ _ 2 _ _ (.int .i64 k) (heap_setCell_same _ _ 0 _ _ (.int .i64 ((pc : Int) + 1)) (heap_setCell_same _ _ 17 _ _ (.slice none 0 0) U4.out))))
  have Z8 := hid (GZ.out.heapAt U8.out (by omega))
  have FZ := hid (FU.out.trans' GZ.out (fun k hk => .inr (by omega)))
  have Z6 := hid (show FitsN 106 18 Z (w.heap.size + 1 + 1 + 1) from ⟨_, GZ.out.heapAt U6.out (by omega), rfl⟩)
  have Z7 := hid (show FitsN 118 11 Z (w.heap.size + 1 + 1 + 1 + 1) from ⟨_, GZ.out.heapAt U7.out (by omega), rfl⟩)
  clear hZ GZ c4 f4 c8 l4 l8 FU U4 U6 U7 U8
  apply wp_region_lit
  refine wpList_load_row rfl 106 _ rfl (w.heap.size + 1) (by kernel_rfl) 106 _ (0, 0) _ Z4.out Tryz.underlying106 rfl (by kernel_rfl) ?_
  refine wpList_build_eq rfl 118 _ rfl #[.int .i64 0, .int .i64 0, .int .i64 0, .int .i64 0, .int .i64 0, .int .i64 0, .int .i64 0, .int .i64 0, .int .i64 0, .int .i64 0, .int .i64 0] (by kernel_rfl) ?_
  refine wpList_store_fits rfl 106 _ _ rfl (w.heap.size + 1 + 1 + 1) #[.int .i64 ((pc : Int) + 1), .int .i64 0, .int .i64 k, .int .i64 0, .int .i64 0, .int .i64 0, .int .i64 0, .int .i64 0, .int .i64 0, .int .i64 0, .int .i64 0, .int .i64 0, .int .i64 0, .int .i64 0, .int .i64 0, .int .i64 0, .int .i64 0, .slice none 0 0] (by kernel_rfl) (by kernel_rfl) 18 Z6.out rfl (by kernel_rfl) (by kernel_rfl) ?_
  refine wpList_store_fits rfl 118 _ _ rfl (w.heap.size + 1 + 1 + 1 + 1) #[.int .i64 0, .int .i64 0, .int .i64 0, .int .i64 0, .int .i64 0, .int .i64 0, .int .i64 0, .int .i64 0, .int .i64 0, .int .i64 0, .int .i64 0] (by kernel_rfl) (by kernel_rfl) 11 (fitsN_other _ (by omega) Z7.out) rfl (by kernel_rfl) (by kernel_rfl) ?_
  apply wpList_nil
  simp only [Act.put, List.setIfInBounds_toArray, List.set_cons_zero, List.set_cons_succ]
  go_wp2
  exact bodyPost_ret (v := tup2 (.agg #[.int .i64 ((pc : Int) + 1), .int .i64 0, .int .i64 k, .int .i64 0, .int .i64 0, .int .i64 0, .int .i64 0, .int .i64 0, .int .i64 0, .int .i64 0, .int .i64 0, .int .i64 0, .int .i64 0, .int .i64 0, .int .i64 0, .int .i64 0, .int .i64 0, .slice none 0 0]) (.agg #[.int .i64 0, .int .i64 0, .int .i64 0, .int .i64 0, .int .i64 0, .int .i64 0, .int .i64 0, .int .i64 0, .int .i64 0, .int .i64 0, .int .i64 0])) (res_row22 rfl _ _ (w.heap.size + 1 + 1 + 1) (w.heap.size + 1 + 1 + 1 + 1) 106 118 _ _ (0, 0) (0, 0) _ _ (by kernel_rfl) ((setMap_other (by omega)).trans (setMap_fits _ Z6.out)) Tryz.underlying106 rfl (by kernel_rfl) (by kernel_rfl) (setMap_fits _ (fitsN_other _ (by omega) Z7.out)) Tryz.underlying118 rfl (by kernel_rfl)) rfl
    ⟨rfl, (FZ.out.setMap _ (.inr (by omega))).setMap _ (.inr (by omega))⟩
set_option maxRecDepth 100000 in
set_option maxHeartbeats 40000000 in
theorem stepSleep_ok {w : World} {b o n cp pc : Nat} {vf vt : Value} {r c cl : Int} (h0 : w.cell? ⟨b, o + pc, none⟩ = some (.int .u32 c)) (hpn : pc < n) (hn : n ≤ 4096) (hlo : 0 ≤ c) (hhi : c < 4294967296) (hdec : decR c = (⟨27, 1, 0, 0, 0⟩, 0)) (hvf : ∃ A n c, vf = .slice A n c) (hvt : ∃ A n c, vt = .slice A n c) :
    Calls Tryz.prog 20 #[.agg #[.slice (some ⟨b, o, none⟩) n cp, vf, vt], ctxV pc r, .agg #[.int .u64 cl, .int .i64 0, .int .i64 1]] w (Ret (tup2 (ctxV ((pc : Int) + 1) r) (.agg #[.int .i64 27, .int .i64 27, .int .i64 1, .int .i64 0, .int .i64 0, .int .i64 0, .int .i64 r, .int .i64 0, .int .i64 0, .int .i64 0, .int .i64 0])) E0 w) := by
  have NX := hid (fun u (hu : Fr E0 w u) => snext_ok (b := b) (o := o) (n := n) (cp := cp) (pc := pc) (r := r) (hu.cell h0 (ne0 _)) hpn hlo hhi hdec hvf hvt)
  have hn' : (pc : Int) < 4096 := by omega
  obtain ⟨fA, fn, fc, rfl⟩ := hvf
  obtain ⟨tA, tn, tcp, rfl⟩ := hvt
  clear h0 hpn hn hlo hhi hdec
  unfold ctxV
  unfold ctxV at NX
  go_enter Tryz.func20, Tryz.ntmps20
  go_upto_region 1 with fail
  generalize hW : World.alloc _ _ = W
  have F0 := hid (show Fr E0 w W from by rw [← hW]; exact ((((Fr.refl.alloc _).alloc _).alloc _).alloc _).alloc _)
  have T3 := hid (show W.heap[w.heap.size]? = some (.cells #[.slice (some ⟨b, o, none⟩) n cp, .slice fA fn fc, .slice tA tn tcp] 29 (0, 0)) from by rw [← hW]; exact (alloc5 w _ _ _ _ _).1)
  have T4 := hid (show W.heap[w.heap.size + 1]? = some (.cells #[.int .i64 (pc : Int), .int .i64 0, .int .i64 r, .int .i64 0, .int .i64 0, .int .i64 0, .int .i64 0, .int .i64 0, .int .i64 0, .int .i64 0, .int .i64 0, .int .i64 0, .int .i64 0, .int .i64 0, .int .i64 0, .int .i64 0, .int .i64 0, .slice none 0 0] 106 (0, 0)) from by rw [← hW]; exact (alloc5 w _ _ _ _ _).2.1)
  have T6 := hid (show W.heap[w.heap.size + 1 + 1 + 1]? = some (.cells #[.int .i64 0, .int .i64 0, .int .i64 0, .int .i64 0, .int .i64 0, .int .i64 0, .int .i64 0, .int .i64 0, .int .i64 0, .int .i64 0, .int .i64 0, .int .i64 0, .int .i64 0, .int .i64 0, .int .i64 0, .int .i64 0, .int .i64 0, .slice none 0 0] 106 (0, 0)) from by rw [← hW]; exact (alloc5 w _ _ _ _ _).2.2.2.1)
  have T7 := hid (show W.heap[w.heap.size + 1 + 1 + 1 + 1]? = some (.cells #[.int .i64 0, .int .i64 0, .int .i64 0, .int .i64 0, .int .i64 0, .int .i64 0, .int .i64 0, .int .i64 0, .int .i64 0, .int .i64 0, .int .i64 0] 118 (0, 0)) from by rw [← hW]; exact (alloc5 w _ _ _ _ _).2.2.2.2)
  clear hW
  apply wp_region_lit
  refine wpList_load_row rfl 29 _ rfl w.heap.size (by kernel_rfl) 29 _ (0, 0) _ T3.out Tryz.underlying29 rfl (by kernel_rfl) ?_
  refine wpList_load_row rfl 106 _ rfl (w.heap.size + 1) (by kernel_rfl) 106 _ (0, 0) _ T4.out Tryz.underlying106 rfl (by kernel_rfl) ?_
  simp only [Act.put, List.setIfInBounds_toArray, List.set_cons_zero, List.set_cons_succ]
  go_wp2_with fail
  refine (NX.out _ F0.out).mono ?_
  rintro e w1 ⟨rfl, hf1⟩
  have F1 := hid (F0.out.trans hf1)
  have G1 := hid hf1
  clear hf1
  simp only [tup2, Ins.val]
  go_upto_region 4 with fail
  generalize hV : World.alloc _ _ = V
  have GV := hid (show Fr E0 W V from by rw [← hV]; exact G1.out.alloc _)
  have I8 := hid (show V.heap[w1.heap.size]? = some (.cells #[.int .i64 27, .int .i64 1, .int .i64 0, .int .i64 0, .int .i64 0] 108 (0, 0)) from by rw [← hV]; exact heap_alloc_new w1 _)
  have FV := hid (F0.out.trans GV.out)
  have V4 := hid (GV.out.heapAt T4.out (ne0 _))
  have V6 := hid (GV.out.heapAt T6.out (ne0 _))
  have V7 := hid (GV.out.heapAt T7.out (ne0 _))
  have hw1 : w.heap.size + 1 + 1 + 1 + 1 < w1.heap.size := heap_lt (G1.out.heapAt T7.out (ne0 _))
  clear hV GV G1 F1 F0 T3 T4 T6 T7 NX
  apply wp_region_lit
  refine wpList_load_row rfl 106 _ rfl (w.heap.size + 1) (by kernel_rfl) 106 _ (0, 0) _ V4.out Tryz.underlying106 rfl (by kernel_rfl) ?_
  refine Great.wpList_allocTo rfl _ rfl (.pointer (some ⟨V.heap.size, 0, none⟩)) (.cells #[.int .i64 0, .int .i64 0, .int .i64 0, .int .i64 0, .int .i64 0, .int .i64 0, .int .i64 0, .int .i64 0, .int .i64 0, .int .i64 0, .int .i64 0, .int .i64 0, .int .i64 0, .int .i64 0, .int .i64 0, .int .i64 0, .int .i64 0, .slice none 0 0] 106) (by kernel_rfl) ?_
  refine wpList_store_fits rfl 106 _ _ rfl V.heap.size #[.int .i64 (pc : Int), .int .i64 0, .int .i64 r, .int .i64 0, .int .i64 0, .int .i64 0, .int .i64 0, .int .i64 0, .int .i64 0, .int .i64 0, .int .i64 0, .int .i64 0, .int .i64 0, .int .i64 0, .int .i64 0, .int .i64 0, .int .i64 0, .slice none 0 0] (by kernel_rfl) (by kernel_rfl) 18 (fitsN_new _ _ _ rfl _ _ rfl) rfl (by kernel_rfl) (by kernel_rfl) ?_
  apply wpList_nil
  simp only [Act.put, List.setIfInBounds_toArray, List.set_cons_zero, List.set_cons_succ]
  generalize hU : setMap _ _ _ = U
  have GU := hid (show Fr E0 V U from by rw [← hU]; exact (Fr.refl.alloc _).setMap _ (.inr (Nat.le_refl _)))
  have FU := hid (FV.out.trans GU.out)
  have U4 := hid (GU.out.heapAt V4.out (ne0 _))
  have U6 := hid (GU.out.heapAt V6.out (ne0 _))
  have U7 := hid (GU.out.heapAt V7.out (ne0 _))
  have U8 := hid (GU.out.heapAt I8.out (ne0 _))
  clear hU GU FV V4 V6 V7 I8
  have c4 := fun j => cell_of_row U _ j _ _ _ U4.out
  have f4 := fun j => frozen_of_row U _ j _ _ U4.out
  have c8 := fun j => cell_of_row U _ j _ _ _ U8.out
  have l4 := heap_lt U4.out
  have l8 := heap_lt U8.out
  have n48 : w1.heap.size ≠ w.heap.size + 1 := by omega
  go_upto_region 5 with fail
  go_region
  go_wp2_with fail
  refine (cloneN_ok _).mono ?_
  rintro e w2 ⟨rfl, rfl⟩
  go_wp2_with fail
  refine (reckoned_no 27 _ _ _ rfl).mono ?_
  rintro e w2 ⟨rfl, rfl⟩
  simp only [tup2]
  go_upto_region 12 with fail
  generalize hZ : World.drew _ = Z
  have GZ := hid (show Fr (fun k => k = w.heap.size + 1) U Z from by
      rw [← hZ]
      refine Fr.drew ?_
      refine Fr.setCell (p := ⟨w.heap.size + 1, 0, none⟩) ?_ _ (.inl rfl)
      refine Fr.setCell (p := ⟨w.heap.size + 1, 17, none⟩) ?_ _ (.inl rfl)
      exact Fr.refl)
  have Z4 := hid (show Z.heap[w.heap.size + 1]? = some (.cells #[.int .i64 ((pc : Int) + 1), .int .i64 0, .int .i64 r, .int .i64 0, .int .i64 0, .int .i64 0, .int .i64 0, .int .i64 0, .int .i64 0, .int .i64 0, .int .i64 0, .int .i64 0, .int .i64 0, .int .i64 0, .int .i64 0, .int .i64 0, .int .i64 0, .slice none 0 0] 106 (0, 0)) from by rw [← hZ]; exact (heap_setCell_same _ _ 0 _ _ (.int .i64 ((pc : Int) + 1)) (heap_setCell_same _ _ 17 _ _ (.slice none 0 0) U4.out)))
  have Z8 := hid (GZ.out.heapAt U8.out (by omega))
  have FZ := hid (FU.out.trans' GZ.out (fun k hk => .inr (by omega)))
  have Z6 := hid (show FitsN 106 18 Z (w.heap.size + 1 + 1 + 1) from ⟨_, GZ.out.heapAt U6.out (by omega), rfl⟩)
  have Z7 := hid (show FitsN 118 11 Z (w.heap.size + 1 + 1 + 1 + 1) from ⟨_, GZ.out.heapAt U7.out (by omega), rfl⟩)
  clear hZ GZ c4 f4 c8 l4 l8 FU U4 U6 U7 U8
  have z80 : Z.cell? ⟨w1.heap.size, 0, none⟩ = some (.int .i64 27) := cell_of_row Z _ 0 _ _ _ Z8.out
  have Z80 := hid z80
  clear z80
  have hS0 : St12 (w.heap.size + 1) w1.heap.size (w.heap.size + 1 + 1 + 1) (w.heap.size + 1 + 1 + 1 + 1) #[.int .i64 ((pc : Int) + 1), .int .i64 0, .int .i64 r, .int .i64 0, .int .i64 0, .int .i64 0, .int .i64 0, .int .i64 0, .int .i64 0, .int .i64 0, .int .i64 0, .int .i64 0, .int .i64 0, .int .i64 0, .int .i64 0, .int .i64 0, .int .i64 0, .slice none 0 0] #[.int .i64 27, .int .i64 1, .int .i64 0, .int .i64 0, .int .i64 0] w Z.drew := ⟨Z4.out, Z8.out, Z6.out, Z7.out, FZ.out.drew⟩
  have hne : w.heap.size + 1 ≠ w.heap.size + 1 + 1 + 1 ∧ w.heap.size + 1 ≠ w.heap.size + 1 + 1 + 1 + 1 ∧ w1.heap.size ≠ w.heap.size + 1 + 1 + 1 ∧ w1.heap.size ≠ w.heap.size + 1 + 1 + 1 + 1 ∧ w.heap.size + 1 + 1 + 1 ≠ w.heap.size + 1 + 1 + 1 + 1 := by omega
  have hle : w.heap.size ≤ w.heap.size + 1 + 1 + 1 ∧ w.heap.size ≤ w.heap.size + 1 + 1 + 1 + 1 := by omega
  refine wp_region_held_drew (S := St12 (w.heap.size + 1) w1.heap.size (w.heap.size + 1 + 1 + 1) (w.heap.size + 1 + 1 + 1 + 1) #[.int .i64 ((pc : Int) + 1), .int .i64 0, .int .i64 r, .int .i64 0, .int .i64 0, .int .i64 0, .int .i64 0, .int .i64 0, .int .i64 0, .int .i64 0, .int .i64 0, .int .i64 0, .int .i64 0, .int .i64 0, .int .i64 0, .int .i64 0, .int .i64 0, .slice none 0 0] #[.int .i64 27, .int .i64 1, .int .i64 0, .int .i64 0, .int .i64 0] w) (by kernel_rfl) hS0 (fun hS => ?_)
  clear hS0 Z4 Z8 Z80
  show wpAnyH _ _ _ _ _ 10 _ _ _
  refine wpAnyH_rd 0 (some 69) (.agg #[.int .i64 ((pc : Int) + 1), .int .i64 0, .int .i64 r, .int .i64 0, .int .i64 0, .int .i64 0, .int .i64 0, .int .i64 0, .int .i64 0, .int .i64 0, .int .i64 0, .int .i64 0, .int .i64 0, .int .i64 0, .int .i64 0, .int .i64 0, .int .i64 0, .slice none 0 0]) rfl rfl rfl (by kernel_rfl) (by kernel_rfl) (by kernel_rfl) (fun _ _ _ h => h) hS (fun u hu => run_load_row 106 _ rfl (w.heap.size + 1) (by kernel_rfl) 106 _ (0, 0) _ hu.t4 Tryz.underlying106 rfl (by kernel_rfl)) (fun hS => ?_)
  refine wpAnyH_rd 1 (some 70) (.pointer (some ⟨w1.heap.size, 0, none⟩)) rfl rfl rfl (by kernel_rfl) (by kernel_rfl) (by kernel_rfl) (fun _ _ _ h => h) hS (fun u hu => by kernel_rfl) (fun hS => ?_)
  refine wpAnyH_rd 2 (some 71) (.int .i64 27) rfl rfl rfl (by kernel_rfl) (by kernel_rfl) (by kernel_rfl) (fun _ _ _ h => h) hS (fun u hu => run_load_cell 3 _ rfl w1.heap.size 0 (by kernel_rfl) _ (cell_of_row u _ 0 _ _ _ hu.t8) (by kernel_rfl)) (fun hS => ?_)
  refine wpAnyH_rd 3 (some 72) (.agg #[.int .i64 27, .int .i64 1, .int .i64 0, .int .i64 0, .int .i64 0]) rfl rfl rfl (by kernel_rfl) (by kernel_rfl) (by kernel_rfl) (fun _ _ _ h => h) hS (fun u hu => run_load_row 108 _ rfl w1.heap.size (by kernel_rfl) 108 _ (0, 0) _ hu.t8 Tryz.underlying108 rfl (by kernel_rfl)) (fun hS => ?_)
  refine wpAnyH_rd 4 (some 73) (.int .i64 r) rfl rfl rfl (by kernel_rfl) (by kernel_rfl) (by kernel_rfl) (fun _ _ _ h => h) hS (fun u hu => by kernel_rfl) (fun hS => ?_)
  refine wpAnyH_rd 5 (some 74) (.int .i64 0) rfl rfl rfl (by kernel_rfl) (by kernel_rfl) (by kernel_rfl) (fun _ _ _ h => h) hS (fun u hu => by kernel_rfl) (fun hS => ?_)
  refine wpAnyH_rd 6 (some 75) (.int .i64 0) rfl rfl rfl (by kernel_rfl) (by kernel_rfl) (by kernel_rfl) (fun _ _ _ h => h) hS (fun u hu => by kernel_rfl) (fun hS => ?_)
  refine wpAnyH_rd 7 (some 76) (.agg #[.int .i64 27, .int .i64 27, .int .i64 1, .int .i64 0, .int .i64 0, .int .i64 0, .int .i64 r, .int .i64 0, .int .i64 0, .int .i64 0, .int .i64 0]) rfl rfl rfl (by kernel_rfl) (by kernel_rfl) (by kernel_rfl) (fun _ _ _ h => h) hS (fun u hu => run_build_eq 118 _ rfl _ (by kernel_rfl)) (fun hS => ?_)
  refine wpAnyH_store_fits 8 rfl rfl (by kernel_rfl) 106 _ _ rfl (w.heap.size + 1 + 1 + 1) #[.int .i64 ((pc : Int) + 1), .int .i64 0, .int .i64 r, .int .i64 0, .int .i64 0, .int .i64 0, .int .i64 0, .int .i64 0, .int .i64 0, .int .i64 0, .int .i64 0, .int .i64 0, .int .i64 0, .int .i64 0, .int .i64 0, .int .i64 0, .int .i64 0, .slice none 0 0] (by kernel_rfl) (by kernel_rfl) 18 hS.t6 rfl (by kernel_rfl) (by kernel_rfl) (hS.s6 hne.1 hne.2.2.1 hne.2.2.2.2 hle.1 rfl) (fun hS => ?_)
  refine wpAnyH_store_fits 9 rfl rfl (by kernel_rfl) 118 _ _ rfl (w.heap.size + 1 + 1 + 1 + 1) #[.int .i64 27, .int .i64 27, .int .i64 1, .int .i64 0, .int .i64 0, .int .i64 0, .int .i64 r, .int .i64 0, .int .i64 0, .int .i64 0, .int .i64 0] (by kernel_rfl) (by kernel_rfl) 11 hS.t7 rfl (by kernel_rfl) (by kernel_rfl) (hS.s7 hne.2.1 hne.2.2.2.1 hne.2.2.2.2 hle.2 rfl) (fun hS => ?_)
  refine wpAnyH_done (by kernel_rfl) ?_ _
  simp only [Act.put, List.setIfInBounds_toArray, List.set_cons_zero, List.set_cons_succ]
  go_wp2
  exact bodyPost_ret (v := tup2 (.agg #[.int .i64 ((pc : Int) + 1), .int .i64 0, .int .i64 r, .int .i64 0, .int .i64 0, .int .i64 0, .int .i64 0, .int .i64 0, .int .i64 0, .int .i64 0, .int .i64 0, .int .i64 0, .int .i64 0, .int .i64 0, .int .i64 0, .int .i64 0, .int .i64 0, .slice none 0 0]) (.agg #[.int .i64 27, .int .i64 27, .int .i64 1, .int .i64 0, .int .i64 0, .int .i64 0, .int .i64 r, .int .i64 0, .int .i64 0, .int .i64 0, .int .i64 0])) (res_row22 rfl _ _ (w.heap.size + 1 + 1 + 1) (w.heap.size + 1 + 1 + 1 + 1) 106 118 _ _ (0, 0) (0, 0) _ _ (by kernel_rfl) ((setMap_other (by omega)).trans (setMap_fits _ (show FitsN 106 18 Z.drew _ from Z6.out))) Tryz.underlying106 rfl (by kernel_rfl) (by kernel_rfl) (setMap_fits _ (fitsN_other _ (by omega) (show FitsN 118 11 Z.drew _ from Z7.out))) Tryz.underlying118 rfl (by kernel_rfl)) rfl
    ⟨rfl, (FZ.out.drew.setMap _ (.inr (by omega))).setMap _ (.inr (by omega))⟩
end Go.Proofs.YtocepiogpeafoaaGreatDoor
