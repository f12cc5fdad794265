/- Words and contracts of calls that the law needs (Arm): merged by wip/gen/zmerge.py. No condition but those that each theorem names. -/
import Derived.Test.YtocepiogpeafoaaGreatDoorH27
import Derived.Test.YtocepiogpeafoaaGreatDoorH30
set_option linter.unusedVariables false
/- (*timer.Timers).arm of a timer that is due some time: the walk (under way). -/
namespace Go.Proofs.YtocepiogpeafoaaGreatDoor
open Go.RowKit
set_option linter.unusedVariables false
theorem kpA {V w' : World} {ti h B : Nat} {when : Int} (hb : V.heap[B]? = some (.cells (tmC when) 133 (0, 0))) (ht : V.cell? ⟨ti, 2, none⟩ = some (.pointer (some ⟨h, 0, none⟩))) {S : Nat → Prop} (hf : Fr S V w') (h1 : ¬ S B) (h2 : ¬ S ti) : w'.cell? ⟨ti, 2, none⟩ = some (.pointer (some ⟨h, 0, none⟩)) ∧ w'.cell? ⟨B, 0, none⟩ = some (.int .i64 1) ∧ w'.cell? ⟨B, 1, none⟩ = some (.int .i64 1) ∧ w'.cell? ⟨B, 2, none⟩ = some (.int .i64 0) ∧ w'.cell? ⟨B, 3, none⟩ = some (.int .i64 1) ∧ w'.cell? ⟨B, 4, none⟩ = some (.int .i64 0) ∧ w'.cell? ⟨B, 5, none⟩ = some (.int .u64 when) ∧ w'.cell? ⟨B, 6, none⟩ = some (.bool false) ∧ w'.cell? ⟨B, 7, none⟩ = some (.int .u64 0) :=
  ⟨hf.cell ht h2, hf.cell (cell_of_row V B 0 _ _ _ hb) h1, hf.cell (cell_of_row V B 1 _ _ _ hb) h1, hf.cell (cell_of_row V B 2 _ _ _ hb) h1, hf.cell (cell_of_row V B 3 _ _ _ hb) h1, hf.cell (cell_of_row V B 4 _ _ _ hb) h1, hf.cell (cell_of_row V B 5 _ _ _ hb) h1, hf.cell (cell_of_row V B 6 _ _ _ hb) h1, hf.cell (cell_of_row V B 7 _ _ _ hb) h1⟩
theorem setMap_idem (w : World) (r : Nat) (o o' : Obj) : setMap (setMap w r o) r o' = setMap w r o' := by simp [setMap]
theorem setMap_comm (w : World) {a b : Nat} (h : a ≠ b) (x y : Obj) : setMap (setMap w a x) b y = setMap (setMap w b y) a x := by
  unfold setMap
  congr 1
  apply Array.ext_getElem?
  intro k
  simp only [Array.getElem?_setIfInBounds, Array.size_setIfInBounds]
  by_cases h1 : a = k
  · subst h1
    simp [Ne.symm h]
  · simp [h1]
/-- timers, none of which runs; l was the last name -/
structure TimL (l : Int) (g h m a b c : Nat) (w : World) : Prop where
  obj : w.heap[g]? = some (.cells #[.bool true, .int .i64 l, .pointer (some ⟨h, 0, none⟩), .slice none 0 0, .map (some a), .map (some b), .map (some c)] 215 (0, 0))
  heap : HeapNew h m w
  ids : w.heap[a]? = some (.map #[] 0)
  own : w.heap[b]? = some (.map #[] 0)
  gs : w.heap[c]? = some (.map #[] 0)
  ne : g ≠ h ∧ m ≠ a ∧ m ≠ b ∧ m ≠ c ∧ a ≠ b ∧ a ≠ c ∧ b ≠ c
/-- timers, of which the one sleeper's runs -/
structure TimOne (l : Int) (g h m a b c : Nat) (when : Int) (w : World) : Prop where
  obj : w.heap[g]? = some (.cells #[.bool true, .int .i64 l, .pointer (some ⟨h, 0, none⟩), .slice none 0 0, .map (some a), .map (some b), .map (some c)] 215 (0, 0))
  heap : ∃ x cp r, HeapOne h x m cp when r w
  ids : w.heap[a]? = some (.map #[⟨.int .i64 1, .agg #[.int .i64 0, .bool false], 0⟩] 1)
  own : w.heap[b]? = some (.map #[⟨.int .i64 1, .agg (tmC when), 0⟩] 1)
  gs : w.heap[c]? = some (.map #[⟨.agg #[.int .i64 0, .int .i64 1], .int .i64 1, 0⟩] 1)
def ArmPost (l : Int) (ti h pm ids own gsm : Nat) (when : Int) (w : World) (e : Ending) (w' : World) : Prop := e = .returned (.tuple #[]) ∧ TimOne l ti h pm ids own gsm when w' ∧ Fr (fun k => k = h ∨ k = pm ∨ k = ids ∨ k = own ∨ k = gsm) w w'
theorem run_update_gid0 {w : World} {r c : Nat} {x y : Int} {v : Value} (hb : w.heap[r]? = some (.map #[] c)) :
    (Instr.mapUpdate 213 (.map (some r)) (.agg #[.int .i64 x, .int .i64 y]) v).run Tryz.prog w = .ok () (setMap w r (.map #[⟨.agg #[.int .i64 x, .int .i64 y], v, c⟩] (c + 1))) := by
  have hc := checkGid false x y w
  have hg := run_getObj_map (P := Tryz.prog) w r _ _ hb
  have hs := Go.MapKept.run_setObj_map (P := Tryz.prog) (.map #[⟨.agg #[.int .i64 x, .int .i64 y], v, c⟩] (c + 1)) hb
  unfold Instr.mapUpdate
  simp [run_underlying Tryz.underlying213, run_underlying Tryz.underlying72, Sem.run_bind, hg, hc, hs, Instr.findKey, Instr.findNow]
  rfl
set_option maxRecDepth 20000 in
set_option maxHeartbeats 40000000 in
theorem arm_ok {w : World} {ti h pm ids own gsm : Nat} {l when : Int} (ht : TimL l ti h pm ids own gsm w) : Calls Tryz.prog 95 #[.pointer (some ⟨ti, 0, none⟩), .agg (tmC when)] w (ArmPost l ti h pm ids own gsm when w) := by
  have HT := hid ht
  have htl := heap_lt ht.obj
  have hhl := heap_lt ht.heap.1
  have hpl := heap_lt ht.heap.2
  have t2 : w.cell? ⟨ti, 2, none⟩ = some (.pointer (some ⟨h, 0, none⟩)) := cell_of_row w ti 2 _ _ _ ht.obj
  have hne := ht.ne
  have T2 := hid t2
  have ntp : ti ≠ pm := fun e => map_ne ht.heap.2 ht.obj e.symm
  have NE := hid (And.intro hne ntp)
  clear ht t2 hne
  unfold tmC
  go_enter Tryz.func95, Tryz.ntmps95
  go_upto_region 4 with fail
  generalize hW : World.alloc _ _ = W
  have F0 := hid (show Fr E0 w W from by rw [← hW]; exact (Fr.refl.alloc _).alloc _)
  have B3 := hid (show W.heap[w.heap.size]? = some (.cells (tmC when) 133 (0, 0)) from by rw [← hW]; exact heap_alloc2_old w _ _)
  have B4 := hid (show W.heap[w.heap.size + 1]? = some (.cells #[.int .i64 0, .bool false] 291 (0, 0)) from by rw [← hW]; exact heap_alloc2_new w _ _)
  clear hW
  have TW := hid (F0.out.cell T2.out (ne0 _))
  have HW := hid (show HeapNew h pm W.drew from ⟨F0.out.heapAt HT.out.heap.1 (ne0 _), F0.out.heapAt HT.out.heap.2 (ne0 _)⟩)
  have nB : ¬ (w.heap.size = h ∨ w.heap.size = pm) := by omega
  have nT : ¬ (ti = h ∨ ti = pm) := by have := NE.out; omega
  have NB := hid (And.intro nB nT)
  clear nB nT
  have nP : ¬ (w.heap.size + 1 = h ∨ w.heap.size + 1 = pm) := by omega
  have NP := hid nP
  clear nP
  have P0 := hid (show W.cell? ⟨w.heap.size + 1, 0, none⟩ = some (.int .i64 0) from cell_of_row W _ 0 _ _ _ B4.out)
  go_region_held3 (fun w' => w'.cell? ⟨ti, 2, none⟩ = some (.pointer (some ⟨h, 0, none⟩)) ∧ w'.cell? ⟨w.heap.size, 0, none⟩ = some (.int .i64 1) ∧ w'.cell? ⟨w.heap.size, 1, none⟩ = some (.int .i64 1) ∧ w'.cell? ⟨w.heap.size, 2, none⟩ = some (.int .i64 0) ∧ w'.cell? ⟨w.heap.size, 3, none⟩ = some (.int .i64 1) ∧ w'.cell? ⟨w.heap.size, 4, none⟩ = some (.int .i64 0) ∧ w'.cell? ⟨w.heap.size, 5, none⟩ = some (.int .u64 when) ∧ w'.cell? ⟨w.heap.size, 6, none⟩ = some (.bool false) ∧ w'.cell? ⟨w.heap.size, 7, none⟩ = some (.int .u64 0))
    (first | exact kpA (V := W.drew) B3.out TW.out Fr.refl (ne0 _) (ne0 _) | exact k1.out | exact kpA (V := W.drew) (S := fun k => k = h ∨ k = pm) B3.out TW.out F1.out NB.out.1 NB.out.2)
    (first
      | (go_at_call 195; refine (push_ok (w := W.drew) HW.out).mono ?_; rintro e w1 ⟨a, cp, r, rfl, hO, hal, hF⟩; have F1 := hid hF; have O1 := hid hO; have k1 := hid (kpA (V := W.drew) (S := fun k => k = h ∨ k = pm) B3.out TW.out hF NB.out.1 NB.out.2); have p0 : w1.cell? ⟨w.heap.size + 1, 0, none⟩ = some (.int .i64 0) := hF.cell (w := W.drew) P0.out NP.out; have pf := frozen_of_row w1 (w.heap.size + 1) 0 _ _ (hF.heapAt (w := W.drew) B4.out NP.out); have e0 := setCell_id p0; have hal' := hid hal; clear hF hO hal))
  all_goals
    have T1 := hid (show w1.heap[ti]? = some (.cells #[.bool true, .int .i64 l, .pointer (some ⟨h, 0, none⟩), .slice none 0 0, .map (some ids), .map (some own), .map (some gsm)] 215 (0, 0)) from F1.out.heapAt (w := W.drew) (F0.out.heapAt HT.out.obj (ne0 _)) NB.out.2)
    have M1 := hid (show w1.heap[ids]? = some (.map #[] 0) from F1.out.heapAt (w := W.drew) (F0.out.heapAt HT.out.ids (ne0 _)) (by have h1 := NE.out.1; have h2 := map_ne HT.out.ids HT.out.heap.1; omega))
    have M2 := hid (show w1.heap[own]? = some (.map #[] 0) from F1.out.heapAt (w := W.drew) (F0.out.heapAt HT.out.own (ne0 _)) (by have h1 := NE.out.1; have h2 := map_ne HT.out.own HT.out.heap.1; omega))
    have M3 := hid (show w1.heap[gsm]? = some (.map #[] 0) from F1.out.heapAt (w := W.drew) (F0.out.heapAt HT.out.gs (ne0 _)) (by have h1 := NE.out.1; have h2 := map_ne HT.out.gs HT.out.heap.1; omega))
    have B1 := hid (show w1.heap[w.heap.size]? = some (.cells (tmC when) 133 (0, 0)) from F1.out.heapAt (w := W.drew) B3.out NB.out.1)
    have Q1 := hid (show w1.heap[w.heap.size + 1]? = some (.cells #[.int .i64 0, .bool false] 291 (0, 0)) from F1.out.heapAt (w := W.drew) B4.out NP.out)
    have hio : ids ≠ own := NE.out.1.2.2.2.2.1
    have mE1 : ∀ u : World, u.heap[ids]? = some (.map #[] 0) → (Instr.mapEntry 211 (.map (some ids)) (.int .i64 1)).run Tryz.prog u = .ok (.tuple #[.agg #[.int .i64 0, .bool false], .int .i64 0]) (setMap u ids (.map #[⟨.int .i64 1, .agg #[.int .i64 0, .bool false], 0⟩] 1)) := fun u hu => by
      have := run_mapEntry_new (P := Tryz.prog) (x := 1) (z := .agg #[.int .i64 0, .bool false]) Tryz.underlying211 Tryz.underlying2 hu (by kernel_rfl)
      simpa using this
    have mE2 : ∀ u : World, u.heap[own]? = some (.map #[] 0) → (Instr.mapEntry 212 (.map (some own)) (.int .i64 1)).run Tryz.prog u = .ok (.tuple #[.agg #[.int .i64 0, .int .i64 0, .int .i64 0, .int .i64 0, .int .i64 0, .int .u64 0, .bool false, .int .u64 0], .int .i64 0]) (setMap u own (.map #[⟨.int .i64 1, .agg #[.int .i64 0, .int .i64 0, .int .i64 0, .int .i64 0, .int .i64 0, .int .u64 0, .bool false, .int .u64 0], 0⟩] 1)) := fun u hu => by
      have := run_mapEntry_new (P := Tryz.prog) (x := 1) (z := .agg #[.int .i64 0, .int .i64 0, .int .i64 0, .int .i64 0, .int .i64 0, .int .u64 0, .bool false, .int .u64 0]) Tryz.underlying212 Tryz.underlying2 hu (by kernel_rfl)
      simpa using this
    have sE : ∀ (u : World) (t r : Nat) (k v z : Value), u.heap[r]? = some (.map #[⟨k, z, 0⟩] 1) → (Instr.entryStore t (.map (some r)) (.int .i64 0) v).run Tryz.prog u = .ok () (setMap u r (.map #[⟨k, v, 0⟩] 1)) := fun u t r k v z hu => by
      have := run_entryStore_one (P := Tryz.prog) (t := t) (v := v) hu
      simpa using this
    have d1 : w1.drew.heap[ids]? = some (.map #[] 0) := M1.out
    have d2 : w1.drew.heap[own]? = some (.map #[] 0) := M2.out
    have hoi : own ≠ ids := Ne.symm hio
    have r1 : (Instr.mapEntry 211 (.map (some ids)) (.int .i64 1)).run Tryz.prog w1.drew = .ok (.tuple #[.agg #[.int .i64 0, .bool false], .int .i64 0]) (setMap w1.drew ids (.map #[⟨.int .i64 1, .agg #[.int .i64 0, .bool false], 0⟩] 1)) := mE1 _ d1
    have r2 : ∀ O, (Instr.mapEntry 211 (.map (some ids)) (.int .i64 1)).run Tryz.prog (setMap w1.drew own O) = .ok (.tuple #[.agg #[.int .i64 0, .bool false], .int .i64 0]) (setMap (setMap w1.drew ids (.map #[⟨.int .i64 1, .agg #[.int .i64 0, .bool false], 0⟩] 1)) own O) := fun O => by rw [mE1 _ ((setMap_other hio).trans d1), setMap_comm _ hoi]
    have r3 : (Instr.mapEntry 212 (.map (some own)) (.int .i64 1)).run Tryz.prog w1.drew = .ok (.tuple #[.agg #[.int .i64 0, .int .i64 0, .int .i64 0, .int .i64 0, .int .i64 0, .int .u64 0, .bool false, .int .u64 0], .int .i64 0]) (setMap w1.drew own (.map #[⟨.int .i64 1, .agg #[.int .i64 0, .int .i64 0, .int .i64 0, .int .i64 0, .int .i64 0, .int .u64 0, .bool false, .int .u64 0], 0⟩] 1)) := mE2 _ d2
    have r4 : ∀ I, (Instr.mapEntry 212 (.map (some own)) (.int .i64 1)).run Tryz.prog (setMap w1.drew ids I) = .ok (.tuple #[.agg #[.int .i64 0, .int .i64 0, .int .i64 0, .int .i64 0, .int .i64 0, .int .u64 0, .bool false, .int .u64 0], .int .i64 0]) (setMap (setMap w1.drew ids I) own (.map #[⟨.int .i64 1, .agg #[.int .i64 0, .int .i64 0, .int .i64 0, .int .i64 0, .int .i64 0, .int .u64 0, .bool false, .int .u64 0], 0⟩] 1)) := fun I => mE2 _ ((setMap_other hoi).trans d2)
    have s1 : ∀ v, (Instr.entryStore 211 (.map (some ids)) (.int .i64 0) v).run Tryz.prog (setMap w1.drew ids (.map #[⟨.int .i64 1, .agg #[.int .i64 0, .bool false], 0⟩] 1)) = .ok () (setMap w1.drew ids (.map #[⟨.int .i64 1, v, 0⟩] 1)) := fun v => by rw [sE _ _ _ _ v _ (setMap_at d1), setMap_idem]
    have s2 : ∀ v O, (Instr.entryStore 211 (.map (some ids)) (.int .i64 0) v).run Tryz.prog (setMap (setMap w1.drew ids (.map #[⟨.int .i64 1, .agg #[.int .i64 0, .bool false], 0⟩] 1)) own O) = .ok () (setMap (setMap w1.drew ids (.map #[⟨.int .i64 1, v, 0⟩] 1)) own O) := fun v O => by rw [sE _ _ _ _ v _ ((setMap_other hio).trans (setMap_at d1)), setMap_comm _ hoi, setMap_idem]
    have s3 : ∀ v, (Instr.entryStore 212 (.map (some own)) (.int .i64 0) v).run Tryz.prog (setMap w1.drew own (.map #[⟨.int .i64 1, .agg #[.int .i64 0, .int .i64 0, .int .i64 0, .int .i64 0, .int .i64 0, .int .u64 0, .bool false, .int .u64 0], 0⟩] 1)) = .ok () (setMap w1.drew own (.map #[⟨.int .i64 1, v, 0⟩] 1)) := fun v => by rw [sE _ _ _ _ v _ (setMap_at d2), setMap_idem]
    have s4 : ∀ v I, (Instr.entryStore 212 (.map (some own)) (.int .i64 0) v).run Tryz.prog (setMap (setMap w1.drew ids I) own (.map #[⟨.int .i64 1, .agg #[.int .i64 0, .int .i64 0, .int .i64 0, .int .i64 0, .int .i64 0, .int .u64 0, .bool false, .int .u64 0], 0⟩] 1)) = .ok () (setMap (setMap w1.drew ids I) own (.map #[⟨.int .i64 1, v, 0⟩] 1)) := fun v I => by rw [sE _ _ _ _ v _ (setMap_at ((setMap_other hoi).trans d2)), setMap_idem]
    have hsc : ∀ (u : World) (r b j : Nat) (o : Obj), b ≠ r → (setMap u r o).cell? ⟨b, j, none⟩ = u.cell? ⟨b, j, none⟩ := fun u r b j o h => setMap_cell h
    have n1 : ti ≠ ids := fun e => map_ne M1.out T1.out e.symm
    have n2 : ti ≠ own := fun e => map_ne M2.out T1.out e.symm
    have n3 : w.heap.size ≠ ids := fun e => map_ne M1.out B1.out e.symm
    have n4 : w.heap.size ≠ own := fun e => map_ne M2.out B1.out e.symm
    have n5 : w.heap.size + 1 ≠ ids := fun e => map_ne M1.out Q1.out e.symm
    have n6 : w.heap.size + 1 ≠ own := fun e => map_ne M2.out Q1.out e.symm
    have t4 : w1.cell? ⟨ti, 4, none⟩ = some (.map (some ids)) := cell_of_row w1 ti 4 _ _ _ T1.out
    have t5 : w1.cell? ⟨ti, 5, none⟩ = some (.map (some own)) := cell_of_row w1 ti 5 _ _ _ T1.out
    have q0 : w1.cell? ⟨w.heap.size + 1, 0, none⟩ = some (.int .i64 0) := cell_of_row w1 _ 0 _ _ _ Q1.out
    have q1 : w1.cell? ⟨w.heap.size + 1, 1, none⟩ = some (.bool false) := cell_of_row w1 _ 1 _ _ _ Q1.out
    have b0 : w1.cell? ⟨w.heap.size, 0, none⟩ = some (.int .i64 1) := cell_of_row w1 _ 0 _ _ _ B1.out
    have b1 : w1.cell? ⟨w.heap.size, 1, none⟩ = some (.int .i64 1) := cell_of_row w1 _ 1 _ _ _ B1.out
    have b2 : w1.cell? ⟨w.heap.size, 2, none⟩ = some (.int .i64 0) := cell_of_row w1 _ 2 _ _ _ B1.out
    have b3 : w1.cell? ⟨w.heap.size, 3, none⟩ = some (.int .i64 1) := cell_of_row w1 _ 3 _ _ _ B1.out
    have b4 : w1.cell? ⟨w.heap.size, 4, none⟩ = some (.int .i64 0) := cell_of_row w1 _ 4 _ _ _ B1.out
    have b5 : w1.cell? ⟨w.heap.size, 5, none⟩ = some (.int .u64 when) := cell_of_row w1 _ 5 _ _ _ B1.out
    have b6 : w1.cell? ⟨w.heap.size, 6, none⟩ = some (.bool false) := cell_of_row w1 _ 6 _ _ _ B1.out
    have b7 : w1.cell? ⟨w.heap.size, 7, none⟩ = some (.int .u64 0) := cell_of_row w1 _ 7 _ _ _ B1.out
    clear mE1 mE2 sE d1 d2 hio hoi p0 pf e0 k1
    clear ‹_ ∧ _›
    go_upto_region 5 with fail
    go_region
    generalize hY : setMap _ _ _ = Y
    have GY := hid (show Fr (fun k => k = ids ∨ k = own) w1 Y from by rw [← hY]; exact (Fr.refl.drew.setMap _ (.inl (.inl rfl))).setMap _ (.inl (.inr rfl)))
    have hio := NE.out.1
    have I5 := hid (show Y.heap[ids]? = some (.map #[⟨.int .i64 1, .agg #[.int .i64 0, .bool false], 0⟩] 1) from by rw [← hY]; exact (setMap_other hio.2.2.2.2.1).trans (setMap_at M1.out))
    have O5 := hid (show Y.heap[own]? = some (.map #[⟨.int .i64 1, .agg (tmC when), 0⟩] 1) from by rw [← hY]; exact setMap_at ((setMap_other (Ne.symm hio.2.2.2.2.1)).trans M2.out))
    have T5 := hid (GY.out.heapAt T1.out (by omega))
    have B5 := hid (GY.out.heapAt B1.out (by omega))
    have G5 := hid (GY.out.heapAt M3.out (by omega))
    have hx1 := map_ne M1.out O1.out.obj
    have hx2 := map_ne M2.out O1.out.obj
    have hx3 := map_ne M1.out O1.out.row
    have hx4 := map_ne M2.out O1.out.row
    have H5 := hid (show HeapOne h a pm cp when r Y from ⟨GY.out.heapAt O1.out.obj (by omega), GY.out.heapAt O1.out.row (by omega), GY.out.heapAt O1.out.map (by omega)⟩)
    have hg3 := map_ne G5.out T5.out
    have NQ := hid (And.intro hio (And.intro hg3 (And.intro (map_ne G5.out H5.out.obj) (map_ne G5.out H5.out.row))))
    clear hY r1 r2 r3 r4 s1 s2 s3 s4 t4 t5 q0 q1 b0 b1 b2 b3 b4 b5 b6 b7 hx1 hx2 hx3 hx4 hio hg3 n1 n2 n3 n4 n5 n6
    have t6 : Y.cell? ⟨ti, 6, none⟩ = some (.map (some gsm)) := cell_of_row Y ti 6 _ _ _ T5.out
    have c0 : Y.cell? ⟨w.heap.size, 0, none⟩ = some (.int .i64 1) := cell_of_row Y _ 0 _ _ _ B5.out
    have c1 : Y.cell? ⟨w.heap.size, 1, none⟩ = some (.int .i64 1) := cell_of_row Y _ 1 _ _ _ B5.out
    have c2 : Y.cell? ⟨w.heap.size, 2, none⟩ = some (.int .i64 0) := cell_of_row Y _ 2 _ _ _ B5.out
    have c3 : Y.cell? ⟨w.heap.size, 3, none⟩ = some (.int .i64 1) := cell_of_row Y _ 3 _ _ _ B5.out
    have hup := fun v => run_update_gid0 (w := Y.drew) (x := 0) (y := 1) (v := v) G5.out
    go_upto_region 7 with fail
    go_region
    go_wp2
    have nq := NQ.out
    exact bodyPost_end (results_none rfl _ _ _) rfl ⟨rfl, ⟨(setMap_other (Ne.symm nq.2.1)).trans T5.out, ⟨a, cp, r, (setMap_other (Ne.symm nq.2.2.1)).trans H5.out.obj, (setMap_other (Ne.symm nq.2.2.2)).trans H5.out.row, (setMap_other nq.1.2.2.2.1).trans H5.out.map⟩, (setMap_other nq.1.2.2.2.2.2.1).trans I5.out, (setMap_other nq.1.2.2.2.2.2.2).trans O5.out, setMap_at G5.out⟩,
      ((F0.out.drew.e0.trans (F1.out.mono (T := fun k => k = h ∨ k = pm ∨ k = ids ∨ k = own ∨ k = gsm) (fun k hk => by omega))).trans (GY.out.mono (T := fun k => k = h ∨ k = pm ∨ k = ids ∨ k = own ∨ k = gsm) (fun k hk => by omega))).drew.setMap _ (.inl (.inr (.inr (.inr (.inr rfl)))))⟩
end Go.Proofs.YtocepiogpeafoaaGreatDoor
