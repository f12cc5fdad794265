/- Words and contracts of calls that the law needs (Tdue): merged by wip/gen/zmerge.py. No condition but those that each theorem names. -/
import Derived.LoopN
import Derived.Test.YtocepiogpeafoaaGreatDoorH29
import Derived.Test.YtocepiogpeafoaaGreatDoorH31
import Derived.Test.YtocepiogpeafoaaGreatDoorH35
set_option linter.unusedVariables false
/- (*timer.Timers).Due where nothing is due, and where the one sleeper is: the walks. -/
namespace Go.Proofs.YtocepiogpeafoaaGreatDoor
open Go.RowKit
set_option linter.unusedVariables false
set_option maxRecDepth 20000 in
set_option maxHeartbeats 40000000 in
theorem tdue_none {w : World} {ti h c : Nat} {A : Option Addr} {now : Int} (h0 : w.cell? ⟨ti, 0, none⟩ = some (.bool true)) (h2 : w.cell? ⟨ti, 2, none⟩ = some (.pointer (some ⟨h, 0, none⟩))) (hh : w.cell? ⟨h, 0, none⟩ = some (.slice A 0 c)) :
    Calls Tryz.prog 24 #[.pointer (some ⟨ti, 0, none⟩), .int .u64 now] w (Ret (.slice none 0 0) E0 w) := by
  have TOP := hid (htop_none hh)
  clear hh
  go_enter Tryz.func24, Tryz.ntmps24
  go_wp2_with fail
  refine (timIs_ok h0).mono ?_
  rintro e w1 ⟨rfl, rfl⟩
  go_wp2_with fail
  refine wp_loop_rounds 1 ?_
  rw [rounds_succ]
  go_wp2_with fail
  refine TOP.out.mono ?_
  rintro e w2 ⟨rfl, hf⟩
  have F := hid hf
  clear hf h0 h2
  unfold tmZ
  go_wp2_with fail
  refine wp_loop_rounds 1 ?_
  rw [rounds_succ]
  go_wp2
  go_ret
  exact ⟨rfl, F.out.alloc _⟩
set_option maxRecDepth 20000 in
set_option maxHeartbeats 40000000 in
theorem tdue_early {w : World} {ti h a pm cp : Nat} {r : Array Value} {when now : Int} (h0 : w.cell? ⟨ti, 0, none⟩ = some (.bool true)) (h2 : w.cell? ⟨ti, 2, none⟩ = some (.pointer (some ⟨h, 0, none⟩))) (ho : HeapOne h a pm cp when r w) (hlt : now < when) :
    Calls Tryz.prog 24 #[.pointer (some ⟨ti, 0, none⟩), .int .u64 now] w (Ret (.slice none 0 0) E0 w) := by
  have TOP := hid (htop_ok ho)
  clear ho
  go_enter Tryz.func24, Tryz.ntmps24
  go_wp2_with fail
  refine (timIs_ok h0).mono ?_
  rintro e w1 ⟨rfl, rfl⟩
  go_wp2_with fail
  refine wp_loop_rounds 1 ?_
  rw [rounds_succ]
  go_wp2_with fail
  refine TOP.out.mono ?_
  rintro e w2 ⟨rfl, hf⟩
  have F := hid hf
  clear hf h0 h2
  unfold tmC
  go_wp2_with fail
  refine wp_loop_rounds 1 ?_
  rw [rounds_succ]
  go_wp2
  go_ret
  exact ⟨rfl, F.out.alloc _⟩
theorem findGid1 (w : World) (v : Value) (b0 : Nat) : (Instr.findKey 72 (.agg #[.int .i64 0, .int .i64 1]) [⟨.agg #[.int .i64 0, .int .i64 1], v, b0⟩]).run Tryz.prog w = .ok (some (0, v)) w := by kernel_rfl
theorem run_delete_gid1 {w : World} {r c b0 ty : Nat} {v : Value} (hb : w.heap[r]? = some (.map #[⟨.agg #[.int .i64 0, .int .i64 1], v, b0⟩] c)) :
    (Builtin.delete_ #[213, 72] ty #[.map (some r), .agg #[.int .i64 0, .int .i64 1]]).run Tryz.prog w = .ok (.tuple #[]) (setMap w r (.map #[] c)) := by
  have hc := checkGid false 0 1 w
  have hg := run_getObj_map (P := Tryz.prog) w r _ _ hb
  have hf := findGid1 w v b0
  have hs := Go.MapKept.run_setObj_map (P := Tryz.prog) (.map #[] c) hb
  unfold Builtin.delete_
  simp [run_underlying Tryz.underlying213, Sem.run_bind, hg, hc, hf, hs, Array.eraseIdxIfInBounds]
  rfl
def TdueHit (h pm ids own gsm : Nat) (when : Int) (w : World) (e : Ending) (w' : World) : Prop := ∃ b cp r, e = .returned (.slice (some ⟨b, 0, none⟩) 1 cp) ∧ w'.heap[b]? = some (.cells (tmC when ++ r) 133 (0, 0)) ∧ w.heap.size ≤ b ∧ Fr (fun k => k = h ∨ k = pm ∨ k = ids ∨ k = own ∨ k = gsm) w w'
theorem tm_get (when : Int) (r : Array Value) (j : Nat) (hj : j < 8) : (tmC when ++ r)[j]? = (tmC when)[j]? := Array.getElem?_append_left (by simpa [tmC] using hj)
set_option maxRecDepth 20000 in
set_option maxHeartbeats 40000000 in
theorem tdue_hit {w : World} {l : Int} {ti h pm ids own gsm : Nat} {when now : Int} (ht : TimOne l ti h pm ids own gsm when w) (hle : when ≤ now) :
    Calls Tryz.prog 24 #[.pointer (some ⟨ti, 0, none⟩), .int .u64 now] w (TdueHit h pm ids own gsm when w) := by
  have HT := hid ht
  obtain ⟨ar, acp, rr, hho⟩ := ht.heap
  have HO := hid hho
  have h0 : w.cell? ⟨ti, 0, none⟩ = some (.bool true) := cell_of_row w ti 0 _ _ _ ht.obj
  have h2 : w.cell? ⟨ti, 2, none⟩ = some (.pointer (some ⟨h, 0, none⟩)) := cell_of_row w ti 2 _ _ _ ht.obj
  have nth : ti ≠ h := cells_ne ht.obj hho.obj (by decide)
  have ntp : ti ≠ pm := fun e => map_ne hho.map ht.obj e.symm
  have ntq : ti ≠ ids ∧ ti ≠ own ∧ ti ≠ gsm := ⟨fun e => map_ne ht.ids ht.obj e.symm, fun e => map_ne ht.own ht.obj e.symm, fun e => map_ne ht.gs ht.obj e.symm⟩
  have nhq : h ≠ ids ∧ h ≠ own ∧ h ≠ gsm := ⟨fun e => map_ne ht.ids hho.obj e.symm, fun e => map_ne ht.own hho.obj e.symm, fun e => map_ne ht.gs hho.obj e.symm⟩
  have keyne : ∀ {a b : Nat} {ea eb : Array MapEntry} {ca cb : Nat}, w.heap[a]? = some (.map ea ca) → w.heap[b]? = some (.map eb cb) → (ea.toList.map (·.val)) ≠ (eb.toList.map (·.val)) → a ≠ b := by
    intro a b ea eb ca cb h1 h2 h3 e
    subst e
    rw [h1] at h2
    injection h2 with h2
    injection h2 with h2 _
    exact h3 (by rw [h2])
  have nio : ids ≠ own := keyne ht.ids ht.own (by simp [tmC])
  have nig : ids ≠ gsm := keyne ht.ids ht.gs (by simp)
  have nog : own ≠ gsm := keyne ht.own ht.gs (by simp)
  have npi : pm ≠ ids := keyne hho.map ht.ids (by simp)
  have npo : pm ≠ own := keyne hho.map ht.own (by simp)
  have npg : pm ≠ gsm := keyne hho.map ht.gs (by simp)
  have NE := hid (And.intro nth (And.intro ntp (And.intro ntq (And.intro nhq (And.intro nio (And.intro nig (And.intro nog (And.intro npi (And.intro npo npg)))))))))
  have LT := hid (And.intro (heap_lt ht.obj) (And.intro (heap_lt hho.obj) (And.intro (heap_lt hho.map) (And.intro (heap_lt ht.ids) (And.intro (heap_lt ht.own) (heap_lt ht.gs))))))
  have hng : ¬ now < when := by omega
  clear keyne nth ntp ntq nhq nio nig nog npi npo npg hho ht hle
  go_enter Tryz.func24, Tryz.ntmps24
  go_wp2_with fail
  refine (timIs_ok h0).mono ?_
  rintro e w1 ⟨rfl, rfl⟩
  go_wp2_with fail
  refine wp_loop_rounds 2 ?_
  rw [rounds_succ]
  go_wp2_with fail
  refine (htop_ok HO.out).mono ?_
  rintro e w2 ⟨rfl, hf⟩
  have F2 := hid hf
  have h2b : w2.cell? ⟨ti, 2, none⟩ = some (.pointer (some ⟨h, 0, none⟩)) := hf.cell h2 (ne0 _)
  clear hf h0
  unfold tmC
  go_upto_region 6 with fail
  generalize hW : World.alloc _ _ = W
  have FW := hid (show Fr E0 w W from by rw [← hW]; exact F2.out.alloc _)
  clear hW h2b
  have HW := hid (show HeapOne h ar pm acp when rr W from ⟨FW.out.heapAt HO.out.obj (ne0 _), FW.out.heapAt HO.out.row (ne0 _), FW.out.heapAt HO.out.map (ne0 _)⟩)
  have h2b : W.cell? ⟨ti, 2, none⟩ = some (.pointer (some ⟨h, 0, none⟩)) := FW.out.cell h2 (ne0 _)
  go_wp2_with fail
  refine (hpop_ok HW.out).mono ?_
  rintro e w3 ⟨rfl, ⟨A', c', hc3⟩, hf⟩
  have F3 := hid hf
  have C3 := hid hc3
  clear hf hc3 h2b h2
  unfold tmC
  go_upto_region 7 with fail
  have ne := NE.out
  have lt := LT.out
  have hsz : w.heap.size ≤ w3.heap.size := Nat.le_trans FW.out.size F3.out.size
  generalize hV : World.alloc _ _ = V
  have GV := hid (show Fr E0 w3 V from by rw [← hV]; exact Fr.refl.alloc _)
  have B12 := hid (show V.heap[w3.heap.size]? = some (.cells (tmC when) 133 (0, 0)) from by rw [← hV]; exact heap_alloc_new w3 _)
  clear hV
  have FV := hid (show Fr (fun k => k = h ∨ k = pm) w V from (FW.out.e0.trans F3.out).trans GV.out.e0)
  have OV := hid (FV.out.heapAt HT.out.obj (by omega))
  have MI := hid (FV.out.heapAt HT.out.ids (by omega))
  have MO := hid (FV.out.heapAt HT.out.own (by omega))
  have MG := hid (FV.out.heapAt HT.out.gs (by omega))
  have CV := hid (GV.out.cell C3.out (ne0 _))
  have b0 : V.cell? ⟨w3.heap.size, 0, none⟩ = some (.int .i64 1) := cell_of_row V _ 0 _ _ _ B12.out
  have t4 : V.cell? ⟨ti, 4, none⟩ = some (.map (some ids)) := cell_of_row V ti 4 _ _ _ OV.out
  have hd : ∀ ty, (Builtin.delete_ #[211, 2] ty #[.map (some ids), .int .i64 1]).run Tryz.prog V.drew = .ok (.tuple #[]) (setMap V.drew ids (.map #[] 1)) := fun ty => run_delete_one (P := Tryz.prog) Tryz.underlying211 Tryz.underlying2 MI.out
  go_region
  generalize hU : setMap _ _ _ = U
  have GU := hid (show Fr (fun k => k = ids) V U from by rw [← hU]; exact Fr.refl.drew.setMap _ (.inl rfl))
  clear hU hd t4 b0
  have OU := hid (GU.out.heapAt OV.out (by omega))
  have BU := hid (GU.out.heapAt B12.out (by omega))
  have MO2 := hid (GU.out.heapAt MO.out (by omega))
  have MG2 := hid (GU.out.heapAt MG.out (by omega))
  have CU := hid (GU.out.cell CV.out (by omega))
  have b0 : U.cell? ⟨w3.heap.size, 0, none⟩ = some (.int .i64 1) := cell_of_row U _ 0 _ _ _ BU.out
  have t5 : U.cell? ⟨ti, 5, none⟩ = some (.map (some own)) := cell_of_row U ti 5 _ _ _ OU.out
  have hd : ∀ ty, (Builtin.delete_ #[212, 2] ty #[.map (some own), .int .i64 1]).run Tryz.prog U.drew = .ok (.tuple #[]) (setMap U.drew own (.map #[] 1)) := fun ty => run_delete_one (P := Tryz.prog) Tryz.underlying212 Tryz.underlying2 MO2.out
  go_upto_region 8 with fail
  go_region
  generalize hX : setMap _ _ _ = X
  have GX := hid (show Fr (fun k => k = own) U X from by rw [← hX]; exact Fr.refl.drew.setMap _ (.inl rfl))
  clear hX hd t5 b0
  have OX := hid (GX.out.heapAt OU.out (by omega))
  have BX := hid (GX.out.heapAt BU.out (by omega))
  have MG3 := hid (GX.out.heapAt MG2.out (by omega))
  have CX := hid (GX.out.cell CU.out (by omega))
  have b1 : X.cell? ⟨w3.heap.size, 1, none⟩ = some (.int .i64 1) := cell_of_row X _ 1 _ _ _ BX.out
  have b2 : X.cell? ⟨w3.heap.size, 2, none⟩ = some (.int .i64 0) := cell_of_row X _ 2 _ _ _ BX.out
  have b3 : X.cell? ⟨w3.heap.size, 3, none⟩ = some (.int .i64 1) := cell_of_row X _ 3 _ _ _ BX.out
  have t6 : X.cell? ⟨ti, 6, none⟩ = some (.map (some gsm)) := cell_of_row X ti 6 _ _ _ OX.out
  have hd : ∀ ty, (Builtin.delete_ #[213, 72] ty #[.map (some gsm), .agg #[.int .i64 0, .int .i64 1]]).run Tryz.prog X.drew = .ok (.tuple #[]) (setMap X.drew gsm (.map #[] 1)) := fun ty => run_delete_gid1 MG3.out
  go_upto_region 10 with fail
  go_region
  generalize hY : setMap _ _ _ = Y
  have GY := hid (show Fr (fun k => k = gsm) X Y from by rw [← hY]; exact Fr.refl.drew.setMap _ (.inl rfl))
  clear hY hd t6 b1 b2 b3
  have OY := hid (GY.out.heapAt OX.out (by omega))
  have BY := hid (GY.out.heapAt BX.out (by omega))
  have CY := hid (GY.out.cell CX.out (by omega))
  have FY := hid (show Fr (fun k => k = h ∨ k = pm ∨ k = ids ∨ k = own ∨ k = gsm) w Y from (((FV.out.mono (fun k hk => by omega)).trans (GU.out.mono (fun k hk => by omega))).trans (GX.out.mono (fun k hk => by omega))).trans (GY.out.mono (fun k hk => by omega)))
  clear F2 FW HW F3 C3 GV B12 FV OV MI MO MG CV GU OU BU MO2 MG2 CU GX OX BX MG3 CX GY
  have b0 : Y.cell? ⟨w3.heap.size, 0, none⟩ = some (.int .i64 1) := cell_of_row Y _ 0 _ _ _ BY.out
  have b1 : Y.cell? ⟨w3.heap.size, 1, none⟩ = some (.int .i64 1) := cell_of_row Y _ 1 _ _ _ BY.out
  have b2 : Y.cell? ⟨w3.heap.size, 2, none⟩ = some (.int .i64 0) := cell_of_row Y _ 2 _ _ _ BY.out
  have b3 : Y.cell? ⟨w3.heap.size, 3, none⟩ = some (.int .i64 1) := cell_of_row Y _ 3 _ _ _ BY.out
  have b4 : Y.cell? ⟨w3.heap.size, 4, none⟩ = some (.int .i64 0) := cell_of_row Y _ 4 _ _ _ BY.out
  have b5 : Y.cell? ⟨w3.heap.size, 5, none⟩ = some (.int .u64 when) := cell_of_row Y _ 5 _ _ _ BY.out
  have b6 : Y.cell? ⟨w3.heap.size, 6, none⟩ = some (.bool false) := cell_of_row Y _ 6 _ _ _ BY.out
  have b7 : Y.cell? ⟨w3.heap.size, 7, none⟩ = some (.int .u64 0) := cell_of_row Y _ 7 _ _ _ BY.out
  have apN : ¬ (281474976710656 < Builtin.nextslicecap 1 0 * Tryz.t133.bytes) := by decide
  go_wp2_with fail
  obtain ⟨cp, hcp⟩ : ∃ cp, (Question.appendCap 1 0 133).cut (Y.tape Y.drawn (Question.appendCap 1 0 133)) = cp := ⟨_, rfl⟩
  rw [hcp]
  clear hcp
  obtain ⟨r, hr⟩ : ∃ r, Builtin.zeroCells #[.int .i64 0, .int .i64 0, .int .i64 0, .int .i64 0, .int .i64 0, .int .u64 0, .bool false, .int .u64 0] (cp - 1) = r := ⟨_, rfl⟩
  rw [hr]
  clear hr
  generalize hZ : World.drew _ = Z
  have FZ := hid (show Fr E0 Y Z from by rw [← hZ]; exact ((Fr.refl.alloc _).alloc _).drew)
  have RZ := hid (show Z.heap[Y.heap.size + 1]? = some (.cells (tmC when ++ r) 133 (0, 0)) from by rw [← hZ]; exact heap_alloc2_new Y _ _)
  clear hZ b0 b1 b2 b3 b4 b5 b6 b7 apN
  have OZ := hid (FZ.out.heapAt OY.out (ne0 _))
  have CZ := hid (FZ.out.cell CY.out (ne0 _))
  have h2b : Z.cell? ⟨ti, 2, none⟩ = some (.pointer (some ⟨h, 0, none⟩)) := cell_of_row Z ti 2 _ _ _ OZ.out
  rw [rounds_succ]
  go_wp2_with fail
  refine (htop_none CZ.out).mono ?_
  rintro e w4 ⟨rfl, hf⟩
  have F4 := hid (FY.out.trans (FZ.out.trans hf).e0)
  have R4 := hid (hf.heapAt RZ.out (ne0 _))
  clear hf h2b
  unfold tmZ
  have r0 : w4.cell? ⟨Y.heap.size + 1, 0, none⟩ = some (.int .i64 1) := (cell_of_row w4 _ 0 _ _ _ R4.out).trans (tm_get when r 0 (by decide))
  have r1 : w4.cell? ⟨Y.heap.size + 1, 1, none⟩ = some (.int .i64 1) := (cell_of_row w4 _ 1 _ _ _ R4.out).trans (tm_get when r 1 (by decide))
  have r2 : w4.cell? ⟨Y.heap.size + 1, 2, none⟩ = some (.int .i64 0) := (cell_of_row w4 _ 2 _ _ _ R4.out).trans (tm_get when r 2 (by decide))
  have r3 : w4.cell? ⟨Y.heap.size + 1, 3, none⟩ = some (.int .i64 1) := (cell_of_row w4 _ 3 _ _ _ R4.out).trans (tm_get when r 3 (by decide))
  have r4 : w4.cell? ⟨Y.heap.size + 1, 4, none⟩ = some (.int .i64 0) := (cell_of_row w4 _ 4 _ _ _ R4.out).trans (tm_get when r 4 (by decide))
  have r5 : w4.cell? ⟨Y.heap.size + 1, 5, none⟩ = some (.int .u64 when) := (cell_of_row w4 _ 5 _ _ _ R4.out).trans (tm_get when r 5 (by decide))
  have r6 : w4.cell? ⟨Y.heap.size + 1, 6, none⟩ = some (.bool false) := (cell_of_row w4 _ 6 _ _ _ R4.out).trans (tm_get when r 6 (by decide))
  have r7 : w4.cell? ⟨Y.heap.size + 1, 7, none⟩ = some (.int .u64 0) := (cell_of_row w4 _ 7 _ _ _ R4.out).trans (tm_get when r 7 (by decide))
  have hys : w.heap.size ≤ Y.heap.size := FY.out.size
  have rl : Y.heap.size + 1 < w4.heap.size := heap_lt R4.out
  have rl1 : Y.heap.size + 1 < w4.heap.size + 1 := by omega
  go_wp2_with fail
  refine wp_loop_rounds 2 ?_
  rw [rounds_succ]
  go_wp2_with fail
  rw [rounds_succ]
  go_wp2
  go_ret
  exact ⟨Y.heap.size + 1, cp, r, rfl, (show Fr E0 w4 _ from by repeat (with_reducible first | exact Fr.refl | refine Fr.alloc ?_ _ | refine Fr.drew ?_)).heapAt R4.out (ne0 _), by omega, F4.out.trans (show Fr E0 w4 _ from by repeat (with_reducible first | exact Fr.refl | refine Fr.alloc ?_ _ | refine Fr.drew ?_)).e0⟩
end Go.Proofs.YtocepiogpeafoaaGreatDoor
