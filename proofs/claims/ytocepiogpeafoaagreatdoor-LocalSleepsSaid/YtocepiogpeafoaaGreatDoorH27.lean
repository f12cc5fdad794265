/- Words and contracts of calls that the law needs (Heap, Push): merged by wip/gen/zmerge.py. No condition but those that each theorem names. -/
import Derived.Test.YtocepiogpeafoaaGreatDoorH26
set_option linter.unusedVariables false
/- heap.set, up, Push into an empty heap: the walks. -/
namespace Go.Proofs.YtocepiogpeafoaaGreatDoor
open Go.RowKit
set_option linter.unusedVariables false
/-- a sleeper's timer, of the goroutine 0, 1 -/
def tmC (when : Int) : Array Value := #[.int .i64 1, .int .i64 1, .int .i64 0, .int .i64 1, .int .i64 0, .int .u64 when, .bool false, .int .u64 0]
/-- the node that holds it -/
def ndC (when : Int) : Array Value := #[.int .u64 when, .int .i64 0, .int .i64 1, .int .i64 1, .int .i64 0, .int .i64 1, .int .i64 0, .int .u64 when, .bool false, .int .u64 0]
theorem setCell_id {w : World} {b o : Nat} {v : Value} (h : w.cell? ⟨b, o, none⟩ = some v) : w.setCell ⟨b, o, none⟩ v = w := by
  obtain ⟨cs, t, fr, h1, h2⟩ := cells_of_cell h
  have hh : (w.setCell ⟨b, o, none⟩ v).heap = w.heap := by
    apply Array.ext_getElem?
    intro k
    by_cases hk : k = b
    · subst hk
      rw [heap_setCell_any h1, h1]
      congr 2
      apply Array.ext_getElem?
      intro j
      rw [Array.getElem?_setIfInBounds]
      split
      · rename_i hj; subst hj; rw [h2, if_pos (by
          rcases Nat.lt_or_ge o cs.size with hh | hh
          · exact hh
          · rw [Array.getElem?_eq_none hh] at h2; cases h2)]
      · rfl
    · exact heap_setCell_other _ _ _ _ hk
  have h3 : w.setCell ⟨b, o, none⟩ v = { w with heap := (w.setCell ⟨b, o, none⟩ v).heap } := rfl
  rw [h3, hh]
/-- a heap that holds the one node, whose places are not told yet -/
structure HeapIn (h a pm cp : Nat) (nx when : Int) (r : Array Value) (w : World) : Prop where
  obj : w.heap[h]? = some (.cells #[.slice (some ⟨a, 0, none⟩) 1 cp, .map (some pm), .int .i64 nx] 378 (0, 0))
  row : w.heap[a]? = some (.cells (ndC when ++ r) 374 (0, 0))
  map : w.heap[pm]? = some (.map #[] 0)
theorem nd_get (when : Int) (r : Array Value) (j : Nat) (hj : j < 10) : (ndC when ++ r)[j]? = (ndC when)[j]? := Array.getElem?_append_left (by simpa [ndC] using hj)
def SetPost (pm : Nat) (w : World) (e : Ending) (w' : World) : Prop := e = .returned (.tuple #[]) ∧ ∃ u, Fr E0 w u ∧ w' = setMap u pm (.map #[⟨.int .i64 0, .int .i64 0, 0⟩] 1)
set_option maxRecDepth 20000 in
set_option maxHeartbeats 40000000 in
theorem hset_ok {w : World} {h a pm cp : Nat} {nx when : Int} {r : Array Value} (hi : HeapIn h a pm cp nx when r w) : Calls Tryz.prog 279 #[.pointer (some ⟨h, 0, none⟩), .int .i64 0, .agg (ndC when)] w (SetPost pm w) := by
  have HI := hid hi
  clear hi
  unfold ndC
  go_enter Tryz.func279, Tryz.ntmps279
  go_upto_region 1 with fail
  generalize hW : World.alloc _ _ = W
  have F0 := hid (show Fr E0 w W from by rw [← hW]; exact Fr.refl.alloc _)
  have B5 := hid (show W.heap[w.heap.size]? = some (.cells (ndC when) 374 (0, 0)) from by rw [← hW]; exact heap_alloc_new w _)
  have AW := hid (F0.out.heapAt HI.out.row (ne0 _))
  have PW := hid (F0.out.heapAt HI.out.map (ne0 _))
  clear hW
  have h0 : W.cell? ⟨h, 0, none⟩ = some (.slice (some ⟨a, 0, none⟩) 1 cp) := cell_of_row W h 0 _ _ _ (F0.out.heapAt HI.out.obj (ne0 _))
  have h1 : W.cell? ⟨h, 1, none⟩ = some (.map (some pm)) := cell_of_row W h 1 _ _ _ (F0.out.heapAt HI.out.obj (ne0 _))
  have b0 : W.cell? ⟨w.heap.size, 0, none⟩ = some (.int .u64 when) := cell_of_row W _ 0 _ _ _ B5.out
  have b1 : W.cell? ⟨w.heap.size, 1, none⟩ = some (.int .i64 0) := cell_of_row W _ 1 _ _ _ B5.out
  have b2 : W.cell? ⟨w.heap.size, 2, none⟩ = some (.int .i64 1) := cell_of_row W _ 2 _ _ _ B5.out
  have b3 : W.cell? ⟨w.heap.size, 3, none⟩ = some (.int .i64 1) := cell_of_row W _ 3 _ _ _ B5.out
  have b4 : W.cell? ⟨w.heap.size, 4, none⟩ = some (.int .i64 0) := cell_of_row W _ 4 _ _ _ B5.out
  have b5 : W.cell? ⟨w.heap.size, 5, none⟩ = some (.int .i64 1) := cell_of_row W _ 5 _ _ _ B5.out
  have b6 : W.cell? ⟨w.heap.size, 6, none⟩ = some (.int .i64 0) := cell_of_row W _ 6 _ _ _ B5.out
  have b7 : W.cell? ⟨w.heap.size, 7, none⟩ = some (.int .u64 when) := cell_of_row W _ 7 _ _ _ B5.out
  have b8 : W.cell? ⟨w.heap.size, 8, none⟩ = some (.bool false) := cell_of_row W _ 8 _ _ _ B5.out
  have b9 : W.cell? ⟨w.heap.size, 9, none⟩ = some (.int .u64 0) := cell_of_row W _ 9 _ _ _ B5.out
  have a0 : W.cell? ⟨a, 0, none⟩ = some (.int .u64 when) := (cell_of_row W a 0 _ _ _ AW.out).trans (nd_get when r 0 (by decide))
  have e0 := setCell_id a0
  have a1 : W.cell? ⟨a, 1, none⟩ = some (.int .i64 0) := (cell_of_row W a 1 _ _ _ AW.out).trans (nd_get when r 1 (by decide))
  have e1 := setCell_id a1
  have a2 : W.cell? ⟨a, 2, none⟩ = some (.int .i64 1) := (cell_of_row W a 2 _ _ _ AW.out).trans (nd_get when r 2 (by decide))
  have e2 := setCell_id a2
  have a3 : W.cell? ⟨a, 3, none⟩ = some (.int .i64 1) := (cell_of_row W a 3 _ _ _ AW.out).trans (nd_get when r 3 (by decide))
  have e3 := setCell_id a3
  have a4 : W.cell? ⟨a, 4, none⟩ = some (.int .i64 0) := (cell_of_row W a 4 _ _ _ AW.out).trans (nd_get when r 4 (by decide))
  have e4 := setCell_id a4
  have a5 : W.cell? ⟨a, 5, none⟩ = some (.int .i64 1) := (cell_of_row W a 5 _ _ _ AW.out).trans (nd_get when r 5 (by decide))
  have e5 := setCell_id a5
  have a6 : W.cell? ⟨a, 6, none⟩ = some (.int .i64 0) := (cell_of_row W a 6 _ _ _ AW.out).trans (nd_get when r 6 (by decide))
  have e6 := setCell_id a6
  have a7 : W.cell? ⟨a, 7, none⟩ = some (.int .u64 when) := (cell_of_row W a 7 _ _ _ AW.out).trans (nd_get when r 7 (by decide))
  have e7 := setCell_id a7
  have a8 : W.cell? ⟨a, 8, none⟩ = some (.bool false) := (cell_of_row W a 8 _ _ _ AW.out).trans (nd_get when r 8 (by decide))
  have e8 := setCell_id a8
  have a9 : W.cell? ⟨a, 9, none⟩ = some (.int .u64 0) := (cell_of_row W a 9 _ _ _ AW.out).trans (nd_get when r 9 (by decide))
  have e9 := setCell_id a9
  have fa := fun j => frozen_of_row W a j _ _ AW.out
  go_region
  have hup : ∀ v, (Instr.mapUpdate 376 (.map (some pm)) (.int .i64 0) v).run Tryz.prog W.drew.drew = .ok () (setMap W.drew.drew pm (.map #[⟨.int .i64 0, v, 0⟩] 1)) := fun v => by
    have := run_update_new (P := Tryz.prog) (w := W.drew.drew) (x := 0) (v := v) Tryz.underlying376 Tryz.underlying3 PW.out rfl
    simpa using this
  all_goals
    go_wp2
    go_region
    go_wp2
    exact bodyPost_end (results_none rfl _ _ _) rfl ⟨rfl, W.drew.drew, F0.out.drew.drew, rfl⟩
theorem HeapIn.fr {h a pm cp : Nat} {nx when : Int} {r : Array Value} {w w' : World} (t : HeapIn h a pm cp nx when r w) (hf : Fr E0 w w') : HeapIn h a pm cp nx when r w' := ⟨hf.heapAt t.obj (ne0 _), hf.heapAt t.row (ne0 _), hf.heapAt t.map (ne0 _)⟩
set_option maxRecDepth 20000 in
set_option maxHeartbeats 40000000 in
theorem hup_ok {w : World} {h a pm cp : Nat} {nx when : Int} {r : Array Value} (hi : HeapIn h a pm cp nx when r w) : Calls Tryz.prog 280 #[.pointer (some ⟨h, 0, none⟩), .int .i64 0] w (SetPost pm w) := by
  have HI := hid hi
  have h0 : w.cell? ⟨h, 0, none⟩ = some (.slice (some ⟨a, 0, none⟩) 1 cp) := cell_of_row w h 0 _ _ _ hi.obj
  have a0 : w.cell? ⟨a, 0, none⟩ = some (.int .u64 when) := (cell_of_row w a 0 _ _ _ hi.row).trans (nd_get when r 0 (by decide))
  have a1 : w.cell? ⟨a, 1, none⟩ = some (.int .i64 0) := (cell_of_row w a 1 _ _ _ hi.row).trans (nd_get when r 1 (by decide))
  have a2 : w.cell? ⟨a, 2, none⟩ = some (.int .i64 1) := (cell_of_row w a 2 _ _ _ hi.row).trans (nd_get when r 2 (by decide))
  have a3 : w.cell? ⟨a, 3, none⟩ = some (.int .i64 1) := (cell_of_row w a 3 _ _ _ hi.row).trans (nd_get when r 3 (by decide))
  have a4 : w.cell? ⟨a, 4, none⟩ = some (.int .i64 0) := (cell_of_row w a 4 _ _ _ hi.row).trans (nd_get when r 4 (by decide))
  have a5 : w.cell? ⟨a, 5, none⟩ = some (.int .i64 1) := (cell_of_row w a 5 _ _ _ hi.row).trans (nd_get when r 5 (by decide))
  have a6 : w.cell? ⟨a, 6, none⟩ = some (.int .i64 0) := (cell_of_row w a 6 _ _ _ hi.row).trans (nd_get when r 6 (by decide))
  have a7 : w.cell? ⟨a, 7, none⟩ = some (.int .u64 when) := (cell_of_row w a 7 _ _ _ hi.row).trans (nd_get when r 7 (by decide))
  have a8 : w.cell? ⟨a, 8, none⟩ = some (.bool false) := (cell_of_row w a 8 _ _ _ hi.row).trans (nd_get when r 8 (by decide))
  have a9 : w.cell? ⟨a, 9, none⟩ = some (.int .u64 0) := (cell_of_row w a 9 _ _ _ hi.row).trans (nd_get when r 9 (by decide))
  clear hi
  go_enter Tryz.func280, Tryz.ntmps280
  go_upto_region 1 with fail
  generalize hW : World.alloc _ _ = W
  have F0 := hid (show Fr E0 w W from by rw [← hW]; exact Fr.refl.alloc _)
  have B4 := hid (show W.heap[w.heap.size]? = some (.cells (ndC when) 374 (0, 0)) from by rw [← hW]; exact heap_alloc_new w _)
  clear hW h0 a0 a1 a2 a3 a4 a5 a6 a7 a8 a9
  go_loopw [1] (fun i wr => i = .int .i64 0 ∧ wr = W) (fun _ _ => 0)
  case atStart => exact ⟨rfl, rfl⟩
  case round =>
    obtain ⟨rfl, rfl⟩ := hrel
    have b0 : wr.cell? ⟨w.heap.size, 0, none⟩ = some (.int .u64 when) := cell_of_row wr _ 0 _ _ _ B4.out
    have b1 : wr.cell? ⟨w.heap.size, 1, none⟩ = some (.int .i64 0) := cell_of_row wr _ 1 _ _ _ B4.out
    have b2 : wr.cell? ⟨w.heap.size, 2, none⟩ = some (.int .i64 1) := cell_of_row wr _ 2 _ _ _ B4.out
    have b3 : wr.cell? ⟨w.heap.size, 3, none⟩ = some (.int .i64 1) := cell_of_row wr _ 3 _ _ _ B4.out
    have b4 : wr.cell? ⟨w.heap.size, 4, none⟩ = some (.int .i64 0) := cell_of_row wr _ 4 _ _ _ B4.out
    have b5 : wr.cell? ⟨w.heap.size, 5, none⟩ = some (.int .i64 1) := cell_of_row wr _ 5 _ _ _ B4.out
    have b6 : wr.cell? ⟨w.heap.size, 6, none⟩ = some (.int .i64 0) := cell_of_row wr _ 6 _ _ _ B4.out
    have b7 : wr.cell? ⟨w.heap.size, 7, none⟩ = some (.int .u64 when) := cell_of_row wr _ 7 _ _ _ B4.out
    have b8 : wr.cell? ⟨w.heap.size, 8, none⟩ = some (.bool false) := cell_of_row wr _ 8 _ _ _ B4.out
    have b9 : wr.cell? ⟨w.heap.size, 9, none⟩ = some (.int .u64 0) := cell_of_row wr _ 9 _ _ _ B4.out
    go_wp2_with fail
    refine (hset_ok (HI.out.fr F0.out)).mono ?_
    rintro e w2 ⟨rfl, u, hu, rfl⟩
    have FU := hid (F0.out.trans hu)
    clear hu b0 b1 b2 b3 b4 b5 b6 b7 b8 b9
    go_wp2
    exact bodyPost_end (results_none rfl _ _ _) rfl ⟨rfl, u, FU.out, rfl⟩
end Go.Proofs.YtocepiogpeafoaaGreatDoor
/- heap.Push into an empty heap: the walk. -/
namespace Go.Proofs.YtocepiogpeafoaaGreatDoor
open Go.RowKit
set_option linter.unusedVariables false
/-- a heap of the one node -/
structure HeapOne (h a pm cp : Nat) (when : Int) (r : Array Value) (w : World) : Prop where
  obj : w.heap[h]? = some (.cells #[.slice (some ⟨a, 0, none⟩) 1 cp, .map (some pm), .int .i64 1] 378 (0, 0))
  row : w.heap[a]? = some (.cells (ndC when ++ r) 374 (0, 0))
  map : w.heap[pm]? = some (.map #[⟨.int .i64 0, .int .i64 0, 0⟩] 1)
def PushPost (h pm : Nat) (when : Int) (w : World) (e : Ending) (w' : World) : Prop := ∃ a cp r, e = .returned (.int .i64 0) ∧ HeapOne h a pm cp when r w' ∧ w.heap.size ≤ a ∧ Fr (fun k => k = h ∨ k = pm) w w'
set_option maxRecDepth 20000 in
set_option maxHeartbeats 40000000 in
theorem push_ok {w : World} {h pm : Nat} {when : Int} (hn : HeapNew h pm w) : Calls Tryz.prog 195 #[.pointer (some ⟨h, 0, none⟩), .int .u64 when, .agg (tmC when)] w (PushPost h pm when w) := by
  have HN := hid hn
  have hhl := heap_lt hn.1
  have hne : pm ≠ h := map_ne hn.2 hn.1
  clear hn
  unfold tmC
  go_enter Tryz.func195, Tryz.ntmps195
  go_upto_region 1 with fail
  generalize hW : World.alloc _ _ = W
  have F0 := hid (show Fr E0 w W from by rw [← hW]; exact Fr.refl.alloc _)
  have B5 := hid (show W.heap[w.heap.size]? = some (.cells (tmC when) 133 (0, 0)) from by rw [← hW]; exact heap_alloc_new w _)
  have hws : w.heap.size + 1 = W.heap.size := by rw [← hW]; simp
  have OW := hid (F0.out.heapAt HN.out.1 (ne0 _))
  have PW := hid (F0.out.heapAt HN.out.2 (ne0 _))
  clear hW
  have h2 : W.cell? ⟨h, 2, none⟩ = some (.int .i64 0) := cell_of_row W h 2 _ _ _ OW.out
  have b0 : W.cell? ⟨w.heap.size, 0, none⟩ = some (.int .i64 1) := cell_of_row W _ 0 _ _ _ B5.out
  have b1 : W.cell? ⟨w.heap.size, 1, none⟩ = some (.int .i64 1) := cell_of_row W _ 1 _ _ _ B5.out
  have b2 : W.cell? ⟨w.heap.size, 2, none⟩ = some (.int .i64 0) := cell_of_row W _ 2 _ _ _ B5.out
  have b3 : W.cell? ⟨w.heap.size, 3, none⟩ = some (.int .i64 1) := cell_of_row W _ 3 _ _ _ B5.out
  have b4 : W.cell? ⟨w.heap.size, 4, none⟩ = some (.int .i64 0) := cell_of_row W _ 4 _ _ _ B5.out
  have b5 : W.cell? ⟨w.heap.size, 5, none⟩ = some (.int .u64 when) := cell_of_row W _ 5 _ _ _ B5.out
  have b6 : W.cell? ⟨w.heap.size, 6, none⟩ = some (.bool false) := cell_of_row W _ 6 _ _ _ B5.out
  have b7 : W.cell? ⟨w.heap.size, 7, none⟩ = some (.int .u64 0) := cell_of_row W _ 7 _ _ _ B5.out
  have l1 : h < W.heap.size := heap_lt OW.out
  have l2 : h < W.heap.size + 1 := by omega
  have l3 : w.heap.size < W.heap.size := by omega
  have l4 : w.heap.size < W.heap.size + 1 := by omega
  go_region
  all_goals
    generalize hV : World.drew _ = V
    have FV := hid (show Fr E0 W V from by rw [← hV]; exact (Fr.refl.alloc _).drew)
    have NV := hid (show V.heap[W.heap.size]? = some (.cells (ndC when) 374 (0, 0)) from by rw [← hV]; exact heap_alloc_drew W _)
    have hvs : W.heap.size + 1 = V.heap.size := by rw [← hV]; simp
    have OV := hid (FV.out.heapAt OW.out (ne0 _))
    have PV := hid (FV.out.heapAt PW.out (ne0 _))
    clear hV h2 b0 b1 b2 b3 b4 b5 b6 b7 l2 l3 l4
    have o0 : V.cell? ⟨h, 0, none⟩ = some (.slice none 0 0) := cell_of_row V h 0 _ _ _ OV.out
    have o2 : V.cell? ⟨h, 2, none⟩ = some (.int .i64 0) := cell_of_row V h 2 _ _ _ OV.out
    have of := fun j => frozen_of_row V h j _ _ OV.out
    have n0 : V.cell? ⟨W.heap.size, 0, none⟩ = some (.int .u64 when) := cell_of_row V _ 0 _ _ _ NV.out
    have n1 : V.cell? ⟨W.heap.size, 1, none⟩ = some (.int .i64 0) := cell_of_row V _ 1 _ _ _ NV.out
    have n2 : V.cell? ⟨W.heap.size, 2, none⟩ = some (.int .i64 1) := cell_of_row V _ 2 _ _ _ NV.out
    have n3 : V.cell? ⟨W.heap.size, 3, none⟩ = some (.int .i64 1) := cell_of_row V _ 3 _ _ _ NV.out
    have n4 : V.cell? ⟨W.heap.size, 4, none⟩ = some (.int .i64 0) := cell_of_row V _ 4 _ _ _ NV.out
    have n5 : V.cell? ⟨W.heap.size, 5, none⟩ = some (.int .i64 1) := cell_of_row V _ 5 _ _ _ NV.out
    have n6 : V.cell? ⟨W.heap.size, 6, none⟩ = some (.int .i64 0) := cell_of_row V _ 6 _ _ _ NV.out
    have n7 : V.cell? ⟨W.heap.size, 7, none⟩ = some (.int .u64 when) := cell_of_row V _ 7 _ _ _ NV.out
    have n8 : V.cell? ⟨W.heap.size, 8, none⟩ = some (.bool false) := cell_of_row V _ 8 _ _ _ NV.out
    have n9 : V.cell? ⟨W.heap.size, 9, none⟩ = some (.int .u64 0) := cell_of_row V _ 9 _ _ _ NV.out
    have nh : W.heap.size ≠ h := by omega
    have m1 : h < V.heap.size := by omega
    have m2 : h < V.heap.size + 1 := by omega
    have m3 : h < V.heap.size + 1 + 1 := by omega
    have m4 : W.heap.size < V.heap.size := by omega
    have m5 : W.heap.size < V.heap.size + 1 := by omega
    have m6 : W.heap.size < V.heap.size + 1 + 1 := by omega
    have apN : ¬ (281474976710656 < Builtin.nextslicecap 1 0 * Tryz.t374.bytes) := by decide
    go_upto_region 3 with fail
    go_region
    all_goals
      obtain ⟨cp, hcp⟩ : ∃ cp, (Question.appendCap 1 0 374).cut (V.tape (V.drawn + 1) (Question.appendCap 1 0 374)) = cp := ⟨_, rfl⟩
      rw [hcp]
      clear hcp
      obtain ⟨r, hr⟩ : ∃ r, Builtin.zeroCells #[.int .u64 0, .int .i64 0, .int .i64 0, .int .i64 0, .int .i64 0, .int .i64 0, .int .i64 0, .int .u64 0, .bool false, .int .u64 0] (cp - 1) = r := ⟨_, rfl⟩
      rw [hr]
      clear hr
      have OX := heap_setCell_same _ _ 0 _ _ (.slice (some ⟨V.heap.size + 1, 0, none⟩) 1 cp) (heap_setCell_same V h 2 _ _ (.int .i64 1) OV.out)
      have FX : Fr (fun k => k = h) V ((V.setCell ⟨h, 2, none⟩ (.int .i64 1)).setCell ⟨h, 0, none⟩ (.slice (some ⟨V.heap.size + 1, 0, none⟩) 1 cp)) := by
        refine Fr.setCell (p := ⟨h, 0, none⟩) ?_ _ (.inl rfl)
        refine Fr.setCell (p := ⟨h, 2, none⟩) ?_ _ (.inl rfl)
        exact Fr.refl
      have hxs : ((V.setCell ⟨h, 2, none⟩ (.int .i64 1)).setCell ⟨h, 0, none⟩ (.slice (some ⟨V.heap.size + 1, 0, none⟩) 1 cp)).heap.size = V.heap.size := by simp
      generalize (V.setCell ⟨h, 2, none⟩ (.int .i64 1)).setCell ⟨h, 0, none⟩ (.slice (some ⟨V.heap.size + 1, 0, none⟩) 1 cp) = X at *
      generalize hZ : World.drew _ = Z
      have FZ : Fr E0 X Z := by rw [← hZ]; exact ((Fr.refl.alloc _).alloc _).drew.drew
      have HZ := hid (show HeapIn h (V.heap.size + 1) pm cp 1 when r Z from ⟨FZ.heapAt OX (ne0 _), by rw [← hZ, ← hxs]; exact heap_alloc2_new X _ _, FZ.heapAt (FX.heapAt PV.out hne) (ne0 _)⟩)
      have FVZ := hid (FX.trans FZ.e0)
      have NZ := hid (FVZ.out.heapAt NV.out nh)
      have npm : W.heap.size ≠ pm := by have := heap_lt PW.out; omega
      have apm : V.heap.size + 1 ≠ pm := by have := heap_lt PW.out; omega
      clear hZ FZ OX FX hxs o0 o2 of n0 n1 n2 n3 n4 n5 n6 n7 n8 n9 m1 m2 m3 m4 m5 m6
      have z0 : Z.cell? ⟨h, 0, none⟩ = some (.slice (some ⟨V.heap.size + 1, 0, none⟩) 1 cp) := cell_of_row Z h 0 _ _ _ HZ.out.obj
      go_wp2_with fail
      refine (hup_ok HZ.out).mono ?_
      rintro e w2 ⟨rfl, u, hu, rfl⟩
      have FU := hid hu
      have t1 : (setMap u pm (.map #[⟨.int .i64 0, .int .i64 0, 0⟩] 1)).cell? ⟨W.heap.size, 1, none⟩ = some (.int .i64 0) := (setMap_cell npm).trans (cell_of_row u _ 1 _ _ _ (hu.heapAt NZ.out (ne0 _)))
      clear hu z0
      go_wp2
      go_ret
      exact ⟨V.heap.size + 1, cp, r, rfl, ⟨(setMap_other (Ne.symm hne)).trans (FU.out.heapAt HZ.out.obj (ne0 _)), (setMap_other apm).trans (FU.out.heapAt HZ.out.row (ne0 _)), setMap_at (FU.out.heapAt HZ.out.map (ne0 _))⟩, by omega,
        ((((F0.out.trans FV.out).e0.trans (FVZ.out.mono (T := fun k => k = h ∨ k = pm) (fun k hk => .inl hk))).trans FU.out.e0).setMap _ (.inl (.inr rfl)))⟩
end Go.Proofs.YtocepiogpeafoaaGreatDoor
