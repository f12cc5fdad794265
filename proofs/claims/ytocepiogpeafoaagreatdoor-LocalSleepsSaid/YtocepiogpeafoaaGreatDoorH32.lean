/- Words and contracts of calls that the law needs (ArmN): merged by wip/gen/zmerge.py. No condition but those that each theorem names. -/
import Derived.Test.YtocepiogpeafoaaGreatDoorH31
set_option linter.unusedVariables false
/- (*timer.Timers).arm of a timer that is never due: the walk. -/
namespace Go.Proofs.YtocepiogpeafoaaGreatDoor
open Go.RowKit
set_option linter.unusedVariables false
/-- a sleeper's timer that is never due -/
def tmN : Array Value := #[.int .i64 1, .int .i64 1, .int .i64 0, .int .i64 1, .int .i64 0, .int .u64 0, .bool true, .int .u64 0]
/-- timers, of which the one sleeper's is never due: what is still to be known -/
structure TimNev (g h m : Nat) (w : World) : Prop where
  obj : ∃ row : Array Value, w.heap[g]? = some (.cells row 215 (0, 0)) ∧ row[0]? = some (.bool true) ∧ row[2]? = some (.pointer (some ⟨h, 0, none⟩))
  heap : HeapNew h m w
def ArmNPost (ti h pm ids own gsm : Nat) (w : World) (e : Ending) (w' : World) : Prop := e = .returned (.tuple #[]) ∧ TimNev ti h pm w' ∧ Fr (fun k => k = ti ∨ k = ids ∨ k = own ∨ k = gsm) w w'
set_option maxRecDepth 20000 in
set_option maxHeartbeats 40000000 in
theorem armN_ok {w : World} {ti h pm ids own gsm : Nat} {l : Int} (ht : TimL l ti h pm ids own gsm w) : Calls Tryz.prog 95 #[.pointer (some ⟨ti, 0, none⟩), .agg tmN] w (ArmNPost ti h pm ids own gsm w) := by
  have HT := hid ht
  have htl := heap_lt ht.obj
  have hne := ht.ne
  have NE := hid hne
  clear ht hne
  unfold tmN
  go_enter Tryz.func95, Tryz.ntmps95
  go_upto_region 3 with fail
  generalize hW : World.alloc _ _ = W
  have F0 := hid (show Fr E0 w W from by rw [← hW]; exact (Fr.refl.alloc _).alloc _)
  have B3 := hid (show W.heap[w.heap.size]? = some (.cells tmN 133 (0, 0)) from by rw [← hW]; exact heap_alloc2_old w _ _)
  have B4 := hid (show W.heap[w.heap.size + 1]? = some (.cells #[.int .i64 0, .bool true] 291 (0, 0)) from by rw [← hW]; exact heap_alloc2_new w _ _)
  have hws : w.heap.size + 1 + 1 = W.heap.size := by rw [← hW]; simp
  clear hW
  have TW := hid (F0.out.heapAt HT.out.obj (ne0 _))
  have t3 : W.cell? ⟨ti, 3, none⟩ = some (.slice none 0 0) := cell_of_row W ti 3 _ _ _ TW.out
  have tf := fun j => frozen_of_row W ti j _ _ TW.out
  have b0 : W.cell? ⟨w.heap.size, 0, none⟩ = some (.int .i64 1) := cell_of_row W _ 0 _ _ _ B3.out
  have b1 : W.cell? ⟨w.heap.size, 1, none⟩ = some (.int .i64 1) := cell_of_row W _ 1 _ _ _ B3.out
  have b2 : W.cell? ⟨w.heap.size, 2, none⟩ = some (.int .i64 0) := cell_of_row W _ 2 _ _ _ B3.out
  have b3 : W.cell? ⟨w.heap.size, 3, none⟩ = some (.int .i64 1) := cell_of_row W _ 3 _ _ _ B3.out
  have b4 : W.cell? ⟨w.heap.size, 4, none⟩ = some (.int .i64 0) := cell_of_row W _ 4 _ _ _ B3.out
  have b5 : W.cell? ⟨w.heap.size, 5, none⟩ = some (.int .u64 0) := cell_of_row W _ 5 _ _ _ B3.out
  have b6 : W.cell? ⟨w.heap.size, 6, none⟩ = some (.bool true) := cell_of_row W _ 6 _ _ _ B3.out
  have b7 : W.cell? ⟨w.heap.size, 7, none⟩ = some (.int .u64 0) := cell_of_row W _ 7 _ _ _ B3.out
  have l0 : ti < W.heap.size := heap_lt TW.out
  have l1 : ti < W.heap.size + 1 := by omega
  have l2 : ti < W.heap.size + 1 + 1 := by omega
  have l3 : w.heap.size < W.heap.size := by omega
  have l4 : w.heap.size < W.heap.size + 1 := by omega
  have l5 : w.heap.size < W.heap.size + 1 + 1 := by omega
  have ntb : w.heap.size ≠ ti := by omega
  have apN : ¬ (281474976710656 < Builtin.nextslicecap 1 0 * Tryz.t133.bytes) := by decide
  go_region
  all_goals
    obtain ⟨cp, hcp⟩ : ∃ cp, (Question.appendCap 1 0 133).cut (W.tape (W.drawn + 1) (Question.appendCap 1 0 133)) = cp := ⟨_, rfl⟩
    rw [hcp]
    clear hcp
    have OX := hid (heap_setCell_same W ti 3 _ _ (.slice (some ⟨W.heap.size + 1, 0, none⟩) 1 cp) TW.out)
    have FX : Fr (fun k => k = ti) W (W.setCell ⟨ti, 3, none⟩ (.slice (some ⟨W.heap.size + 1, 0, none⟩) 1 cp)) := by
      refine Fr.setCell (p := ⟨ti, 3, none⟩) ?_ _ (.inl rfl)
      exact Fr.refl
    generalize W.setCell ⟨ti, 3, none⟩ (.slice (some ⟨W.heap.size + 1, 0, none⟩) 1 cp) = X at *
    generalize hZ : World.drew _ = w1
    have FZ : Fr E0 X w1 := by
      rw [← hZ]
      repeat (with_reducible first | exact Fr.refl | refine Fr.alloc ?_ _ | refine Fr.drew ?_)
    have F1 := hid (show Fr (fun k => k = ti) W w1 from FX.trans FZ.e0)
    have T1 := hid (show w1.heap[ti]? = some (.cells #[.bool true, .int .i64 l, .pointer (some ⟨h, 0, none⟩), .slice (some ⟨W.heap.size + 1, 0, none⟩) 1 cp, .map (some ids), .map (some own), .map (some gsm)] 215 (0, 0)) from FZ.heapAt OX.out (ne0 _))
    clear hZ FZ FX OX t3 tf b0 b1 b2 b3 b4 b5 b6 b7 l0 l1 l2 l3 l4 l5
    have M1 := hid (show w1.heap[ids]? = some (.map #[] 0) from F1.out.heapAt (F0.out.heapAt HT.out.ids (ne0 _)) (by exact map_ne HT.out.ids HT.out.obj))
    have M2 := hid (show w1.heap[own]? = some (.map #[] 0) from F1.out.heapAt (F0.out.heapAt HT.out.own (ne0 _)) (by exact map_ne HT.out.own HT.out.obj))
    have M3 := hid (show w1.heap[gsm]? = some (.map #[] 0) from F1.out.heapAt (F0.out.heapAt HT.out.gs (ne0 _)) (by exact map_ne HT.out.gs HT.out.obj))
    have B1 := hid (show w1.heap[w.heap.size]? = some (.cells tmN 133 (0, 0)) from F1.out.heapAt B3.out ntb)
    have Q1 := hid (show w1.heap[w.heap.size + 1]? = some (.cells #[.int .i64 0, .bool true] 291 (0, 0)) from F1.out.heapAt B4.out (by omega))
    have H1 := hid (show HeapNew h pm w1 from ⟨F1.out.heapAt (F0.out.heapAt HT.out.heap.1 (ne0 _)) (by exact fun e => NE.out.1 e.symm), F1.out.heapAt (F0.out.heapAt HT.out.heap.2 (ne0 _)) (by exact map_ne HT.out.heap.2 HT.out.obj)⟩)
    have hio : ids ≠ own := NE.out.2.2.2.2.1
    have mE1 : ∀ u : World, u.heap[ids]? = some (.map #[] 0) → (Instr.mapEntry 211 (.map (some ids)) (.int .i64 1)).run Tryz.prog u = .ok (.tuple #[.agg #[.int .i64 0, .bool false], .int .i64 0]) (setMap u ids (.map #[⟨.int .i64 1, .agg #[.int .i64 0, .bool false], 0⟩] 1)) := fun u hu => by
      have := run_mapEntry_new (P := Tryz.prog) (x := 1) (z := .agg #[.int .i64 0, .bool false]) Tryz.underlying211 Tryz.underlying2 hu (by kernel_rfl)
      simpa using this
    have mE2 : ∀ u : World, u.heap[own]? = some (.map #[] 0) → (Instr.mapEntry 212 (.map (some own)) (.int .i64 1)).run Tryz.prog u = .ok (.tuple #[.agg #[.int .i64 0, .int .i64 0, .int .i64 0, .int .i64 0, .int .i64 0, .int .u64 0, .bool false, .int .u64 0], .int .i64 0]) (setMap u own (.map #[⟨.int .i64 1, .agg #[.int .i64 0, .int .i64 0, .int .i64 0, .int .i64 0, .int .i64 0, .int .u64 0, .bool false, .int .u64 0], 0⟩] 1)) := fun u hu => by
      have := run_mapEntry_new (P := Tryz.prog) (x := 1) (z := .agg #[.int .i64 0, .int .i64 0, .int .i64 0, .int .i64 0, .int .i64 0, .int .u64 0, .bool false, .int .u64 0]) Tryz.underlying212 Tryz.underlying2 hu (by kernel_rfl)
      simpa using this
    have sE : ∀ (u : World) (t r : Nat) (k v z : Value), u.heap[r]? = some (.map #[⟨k, z, 0⟩] 1) → (Instr.entryStore t (.map (some r)) (.int .i64 0) v).run Tryz.prog u = .ok () (setMap u r (.map #[⟨k, v, 0⟩] 1)) := fun u t r k v z hu => by
      have := run_entryStore_one (P := Tryz.prog) (t := t) (v := v) hu
      simpa using this
    have d1 : w1.drew.heap[ids]? = some (.map #[] 0) := M1.out
    have d2 : w1.drew.heap[own]? = some (.map #[] 0) := M2.out
    have hoi : own ≠ ids := Ne.symm hio
    have r1 : (Instr.mapEntry 211 (.map (some ids)) (.int .i64 1)).run Tryz.prog w1.drew = .ok (.tuple #[.agg #[.int .i64 0, .bool false], .int .i64 0]) (setMap w1.drew ids (.map #[⟨.int .i64 1, .agg #[.int .i64 0, .bool false], 0⟩] 1)) := mE1 _ d1
    have r2 : ∀ O, (Instr.mapEntry 211 (.map (some ids)) (.int .i64 1)).run Tryz.prog (setMap w1.drew own O) = .ok (.tuple #[.agg #[.int .i64 0, .bool false], .int .i64 0]) (setMap (setMap w1.drew ids (.map #[⟨.int .i64 1, .agg #[.int .i64 0, .bool false], 0⟩] 1)) own O) := fun O => by rw [mE1 _ ((setMap_other hio).trans d1), setMap_comm _ hoi]
    have r3 : (Instr.mapEntry 212 (.map (some own)) (.int .i64 1)).run Tryz.prog w1.drew = .ok (.tuple #[.agg #[.int .i64 0, .int .i64 0, .int .i64 0, .int .i64 0, .int .i64 0, .int .u64 0, .bool false, .int .u64 0], .int .i64 0]) (setMap w1.drew own (.map #[⟨.int .i64 1, .agg #[.int .i64 0, .int .i64 0, .int .i64 0, .int .i64 0, .int .i64 0, .int .u64 0, .bool false, .int .u64 0], 0⟩] 1)) := mE2 _ d2
    have r4 : ∀ I, (Instr.mapEntry 212 (.map (some own)) (.int .i64 1)).run Tryz.prog (setMap w1.drew ids I) = .ok (.tuple #[.agg #[.int .i64 0, .int .i64 0, .int .i64 0, .int .i64 0, .int .i64 0, .int .u64 0, .bool false, .int .u64 0], .int .i64 0]) (setMap (setMap w1.drew ids I) own (.map #[⟨.int .i64 1, .agg #[.int .i64 0, .int .i64 0, .int .i64 0, .int .i64 0, .int .i64 0, .int .u64 0, .bool false, .int .u64 0], 0⟩] 1)) := fun I => mE2 _ ((setMap_other hoi).trans d2)
    have s1 : ∀ v, (Instr.entryStore 211 (.map (some ids)) (.int .i64 0) v).run Tryz.prog (setMap w1.drew ids (.map #[⟨.int .i64 1, .agg #[.int .i64 0, .bool false], 0⟩] 1)) = .ok () (setMap w1.drew ids (.map #[⟨.int .i64 1, v, 0⟩] 1)) := fun v => by rw [sE _ _ _ _ v _ (setMap_at d1), setMap_idem]
    have s2 : ∀ v O, (Instr.entryStore 211 (.map (some ids)) (.int .i64 0) v).run Tryz.prog (setMap (setMap w1.drew ids (.map #[⟨.int .i64 1, .agg #[.int .i64 0, .bool false], 0⟩] 1)) own O) = .ok () (setMap (setMap w1.drew ids (.map #[⟨.int .i64 1, v, 0⟩] 1)) own O) := fun v O => by rw [sE _ _ _ _ v _ ((setMap_other hio).trans (setMap_at d1)), setMap_comm _ hoi, setMap_idem]
    have s3 : ∀ v, (Instr.entryStore 212 (.map (some own)) (.int .i64 0) v).run Tryz.prog (setMap w1.drew own (.map #[⟨.int .i64 1, .agg #[.int .i64 0, .int .i64 0, .int .i64 0, .int .i64 0, .int .i64 0, .int .u64 0, .bool false, .int .u64 0], 0⟩] 1)) = .ok () (setMap w1.drew own (.map #[⟨.int .i64 1, v, 0⟩] 1)) := fun v => by rw [sE _ _ _ _ v _ (setMap_at d2), setMap_idem]
    have s4 : ∀ v I, (Instr.entryStore 212 (.map (some own)) (.int .i64 0) v).run Tryz.prog (setMap (setMap w1.drew ids I) own (.map #[⟨.int .i64 1, .agg #[.int .i64 0, .int .i64 0, .int .i64 0, .int .i64 0, .int .i64 0, .int .u64 0, .bool false, .int .u64 0], 0⟩] 1)) = .ok () (setMap (setMap w1.drew ids I) own (.map #[⟨.int .i64 1, v, 0⟩] 1)) := fun v I => by rw [sE _ _ _ _ v _ (setMap_at ((setMap_other hoi).trans d2)), setMap_idem]
    have hsc : ∀ (u : World) (r b j : Nat) (o : Obj), b ≠ r → (setMap u r o).cell? ⟨b, j, none⟩ = u.cell? ⟨b, j, none⟩ := fun u r b j o h => setMap_cell h
    have n1 : ti ≠ ids := fun e => map_ne M1.out T1.out e.symm
    have n2 : ti ≠ own := fun e => map_ne M2.out T1.out e.symm
    have n3 : w.heap.size ≠ ids := fun e => map_ne M1.out B1.out e.symm
    have n4 : w.heap.size ≠ own := fun e => map_ne M2.out B1.out e.symm
    have n5 : w.heap.size + 1 ≠ ids := fun e => map_ne M1.out Q1.out e.symm
    have n6 : w.heap.size + 1 ≠ own := fun e => map_ne M2.out Q1.out e.symm
    have t4 : w1.cell? ⟨ti, 4, none⟩ = some (.map (some ids)) := cell_of_row w1 ti 4 _ _ _ T1.out
    have t5 : w1.cell? ⟨ti, 5, none⟩ = some (.map (some own)) := cell_of_row w1 ti 5 _ _ _ T1.out
    have q0 : w1.cell? ⟨w.heap.size + 1, 0, none⟩ = some (.int .i64 0) := cell_of_row w1 _ 0 _ _ _ Q1.out
    have q1 : w1.cell? ⟨w.heap.size + 1, 1, none⟩ = some (.bool true) := cell_of_row w1 _ 1 _ _ _ Q1.out
    have b0 : w1.cell? ⟨w.heap.size, 0, none⟩ = some (.int .i64 1) := cell_of_row w1 _ 0 _ _ _ B1.out
    have b1 : w1.cell? ⟨w.heap.size, 1, none⟩ = some (.int .i64 1) := cell_of_row w1 _ 1 _ _ _ B1.out
    have b2 : w1.cell? ⟨w.heap.size, 2, none⟩ = some (.int .i64 0) := cell_of_row w1 _ 2 _ _ _ B1.out
    have b3 : w1.cell? ⟨w.heap.size, 3, none⟩ = some (.int .i64 1) := cell_of_row w1 _ 3 _ _ _ B1.out
    have b4 : w1.cell? ⟨w.heap.size, 4, none⟩ = some (.int .i64 0) := cell_of_row w1 _ 4 _ _ _ B1.out
    have b5 : w1.cell? ⟨w.heap.size, 5, none⟩ = some (.int .u64 0) := cell_of_row w1 _ 5 _ _ _ B1.out
    have b6 : w1.cell? ⟨w.heap.size, 6, none⟩ = some (.bool true) := cell_of_row w1 _ 6 _ _ _ B1.out
    have b7 : w1.cell? ⟨w.heap.size, 7, none⟩ = some (.int .u64 0) := cell_of_row w1 _ 7 _ _ _ B1.out
    clear mE1 mE2 sE d1 d2 hio hoi
    go_upto_region 5 with fail
    go_region
    generalize hY : setMap _ _ _ = Y
    have GY := hid (show Fr (fun k => k = ids ∨ k = own) w1 Y from by rw [← hY]; exact (Fr.refl.drew.setMap _ (.inl (.inl rfl))).setMap _ (.inl (.inr rfl)))
    have T5 := hid (GY.out.heapAt T1.out (by omega))
    have B5 := hid (GY.out.heapAt B1.out (by omega))
    have G5 := hid (GY.out.heapAt M3.out (by have := NE.out; omega))
    have nhi : h ≠ ids := fun e => map_ne M1.out H1.out.1 e.symm
    have nho : h ≠ own := fun e => map_ne M2.out H1.out.1 e.symm
    have H5 := hid (show HeapNew h pm Y from ⟨GY.out.heapAt H1.out.1 (by omega), GY.out.heapAt H1.out.2 (by have := NE.out; omega)⟩)
    have ng : gsm ≠ ti := map_ne G5.out T5.out
    have ngh : gsm ≠ h := map_ne G5.out H5.out.1
    have NQ := hid (And.intro NE.out (And.intro ng ngh))
    clear hY r1 r2 r3 r4 s1 s2 s3 s4 t4 t5 q0 q1 b0 b1 b2 b3 b4 b5 b6 b7 n1 n2 n3 n4 n5 n6 ng ngh nhi nho
    have t6 : Y.cell? ⟨ti, 6, none⟩ = some (.map (some gsm)) := cell_of_row Y ti 6 _ _ _ T5.out
    have c0 : Y.cell? ⟨w.heap.size, 0, none⟩ = some (.int .i64 1) := cell_of_row Y _ 0 _ _ _ B5.out
    have c1 : Y.cell? ⟨w.heap.size, 1, none⟩ = some (.int .i64 1) := cell_of_row Y _ 1 _ _ _ B5.out
    have c2 : Y.cell? ⟨w.heap.size, 2, none⟩ = some (.int .i64 0) := cell_of_row Y _ 2 _ _ _ B5.out
    have c3 : Y.cell? ⟨w.heap.size, 3, none⟩ = some (.int .i64 1) := cell_of_row Y _ 3 _ _ _ B5.out
    have hup := fun v => run_update_gid0 (w := Y.drew) (x := 0) (y := 1) (v := v) G5.out
    go_upto_region 7 with fail
    go_region
    go_wp2
    have nq := NQ.out
    exact bodyPost_end (results_none rfl _ _ _) rfl ⟨rfl, ⟨⟨_, (setMap_other (Ne.symm nq.2.1)).trans T5.out, rfl, rfl⟩, (setMap_other (Ne.symm nq.2.2)).trans H5.out.1, (setMap_other (by omega)).trans H5.out.2⟩,
      ((F0.out.e0.trans (F1.out.mono (T := fun k => k = ti ∨ k = ids ∨ k = own ∨ k = gsm) (fun k hk => by omega))).trans (GY.out.mono (T := fun k => k = ti ∨ k = ids ∨ k = own ∨ k = gsm) (fun k hk => by omega))).drew.setMap _ (.inl (.inr (.inr (.inr rfl))))⟩
end Go.Proofs.YtocepiogpeafoaaGreatDoor
