/- Words and contracts of calls that the law needs (Top): merged by wip/gen/zmerge.py. No condition but those that each theorem names. -/
import Derived.Test.YtocepiogpeafoaaGreatDoorH27
import Derived.Test.YtocepiogpeafoaaGreatDoorH28
set_option linter.unusedVariables false
/- heap.Len, Top of an empty heap and of one node, Has, Drop, Pop: the walks. Printed by wip/gen/ztop.py. -/
namespace Go.Proofs.YtocepiogpeafoaaGreatDoor
open Go.RowKit
set_option linter.unusedVariables false
theorem hlen_ok {w : World} {h n c : Nat} {A : Option Addr} (h0 : w.cell? ⟨h, 0, none⟩ = some (.slice A n c)) : Calls Tryz.prog 193 #[.pointer (some ⟨h, 0, none⟩)] w fun e w' => e = .returned (.int .i64 (n : Int)) ∧ w = w' := by
  go_enter Tryz.func193, Tryz.ntmps193
  go_wp2
  go_ret
  exact ⟨rfl, rfl⟩
def tmZ : Array Value := #[.int .i64 0, .int .i64 0, .int .i64 0, .int .i64 0, .int .i64 0, .int .u64 0, .bool false, .int .u64 0]
theorem res_r4 {P : Program} {fn : Func} {a b p u : Tmp} {ty : TypeId} (h : fn.results = #[.tmp a, .tmp b, .cell p ty, .tmp u]) (tmps : Array Value) (w : World) (g : Nat) (t : TypeId) (cs : Array Value) (fr : Nat × Nat) (d : TypeDesc)
    (hp : tmps.getD p undef = .pointer (some ⟨g, 0, none⟩)) (hg : w.heap[g]? = some (.cells cs t fr)) (hu : P.underlying ty = some d) (hd : (match d with | .struct _ | .array _ _ => true | _ => false) = true) (hi : (P.info? ty).map (·.size) = some cs.size)
    {x y z : Value} (hx : tmps.getD a undef = x) (hy : tmps.getD b undef = y) (hz : tmps.getD u undef = z) : (results fn tmps).run P w = .ok (.tuple #[x, y, .agg cs, z]) w := by
  have hp' : tmps[p]?.getD undef = .pointer (some ⟨g, 0, none⟩) := by simpa using hp
  have hx' : tmps[a]?.getD undef = x := by simpa using hx
  have hy' : tmps[b]?.getD undef = y := by simpa using hy
  have hz' : tmps[u]?.getD undef = z := by simpa using hz
  simp [results, h, hp', hx', hy', hz', asAddr, run_loadVar_row w g t ty cs fr d hg hu hd hi]
theorem res_r3 {P : Program} {fn : Func} {a p u : Tmp} {ty : TypeId} (h : fn.results = #[.tmp a, .cell p ty, .tmp u]) (tmps : Array Value) (w : World) (g : Nat) (t : TypeId) (cs : Array Value) (fr : Nat × Nat) (d : TypeDesc)
    (hp : tmps.getD p undef = .pointer (some ⟨g, 0, none⟩)) (hg : w.heap[g]? = some (.cells cs t fr)) (hu : P.underlying ty = some d) (hd : (match d with | .struct _ | .array _ _ => true | _ => false) = true) (hi : (P.info? ty).map (·.size) = some cs.size)
    {x z : Value} (hx : tmps.getD a undef = x) (hz : tmps.getD u undef = z) : (results fn tmps).run P w = .ok (.tuple #[x, .agg cs, z]) w := by
  have hp' : tmps[p]?.getD undef = .pointer (some ⟨g, 0, none⟩) := by simpa using hp
  have hx' : tmps[a]?.getD undef = x := by simpa using hx
  have hz' : tmps[u]?.getD undef = z := by simpa using hz
  simp [results, h, hp', hx', hz', asAddr, run_loadVar_row w g t ty cs fr d hg hu hd hi]
theorem run_load_mid {P : Program} {w : World} {a : Act} {o : Oper} (ty : TypeId) (x : Operand) (ho : o.op = .load ty x) (b off : Nat) (hx : a.eval x = .pointer (some ⟨b, off, none⟩)) (cs : List Value) (d : TypeDesc) (hc : w.rangeAt b off cs)
    (hu : P.underlying ty = some d) (hd : d.isRow = true) (hi : (P.info? ty).map (·.size) = some cs.length) : (execOp a.eval o).run P w = .ok (.value (.agg cs.toArray)) w := by
  unfold execOp
  simp only [ho, hx, Sem.run_bind, run_loadAt_mid w b off ty cs d hc hu hd hi, Result.andThen_ok]
  rfl
theorem nd_mid {when : Int} {j : Nat} {v : Value} (hv : (tmC when).toList[j]? = some v) : (ndC when)[2 + j]? = some v := by
  have h : (ndC when).toList = [.int .u64 when, .int .i64 0] ++ (tmC when).toList := rfl
  rw [← Array.getElem?_toList, h, List.getElem?_append_right (by simp)]
  simpa using hv
/-- a node is read, and a timer is stored elsewhere -/
structure StT (nb tb : Nat) (when : Int) (w0 w : World) : Prop where
  n : w.heap[nb]? = some (.cells (ndC when) 374 (0, 0))
  t : FitsN 133 8 w tb
  fr : Fr (fun k => k = tb) w0 w
theorem StT.mid {nb tb : Nat} {when : Int} {w0 w : World} (h : StT nb tb when w0 w) : w.rangeAt nb 2 (tmC when).toList := fun j v hv => by
  rw [cell_of_row w nb (2 + j) _ _ _ h.n]; exact nd_mid hv
theorem StT.s {nb tb : Nat} {when : Int} {cs : Array Value} {w0 w : World} (h : StT nb tb when w0 w) (hne : nb ≠ tb) (hcs : cs.size = 8) : StT nb tb when w0 (setMap w tb (.cells cs 133 (0, 0))) :=
  ⟨(setMap_other hne).trans h.n, fitsN_set h.t hcs, h.fr.setMap _ (.inl rfl)⟩
set_option maxRecDepth 20000 in
set_option maxHeartbeats 40000000 in
theorem htop_none {w : World} {h c : Nat} {A : Option Addr} (h0 : w.cell? ⟨h, 0, none⟩ = some (.slice A 0 c)) : Calls Tryz.prog 93 #[.pointer (some ⟨h, 0, none⟩)] w (Ret (.tuple #[.int .u64 0, .int .i64 0, .agg tmZ, .int .i64 31]) E0 w) := by
  have C0 := hid h0
  clear h0
  go_enter Tryz.func93, Tryz.ntmps93
  go_upto_region 1 with fail
  generalize hW : World.alloc _ _ = W
  have F0 := hid (show Fr E0 w W from by rw [← hW]; exact Fr.refl.alloc _)
  have B4 := hid (show W.heap[w.heap.size]? = some (.cells tmZ 133 (0, 0)) from by rw [← hW]; exact heap_alloc_new w _)
  clear hW
  go_wp2_with fail
  refine (hlen_ok (F0.out.cell C0.out (ne0 _))).mono ?_
  rintro e w1 ⟨rfl, rfl⟩
  have b0 : W.cell? ⟨w.heap.size, 0, none⟩ = some (.int .i64 0) := cell_of_row W _ 0 _ _ _ B4.out
  have b1 : W.cell? ⟨w.heap.size, 1, none⟩ = some (.int .i64 0) := cell_of_row W _ 1 _ _ _ B4.out
  have b2 : W.cell? ⟨w.heap.size, 2, none⟩ = some (.int .i64 0) := cell_of_row W _ 2 _ _ _ B4.out
  have b3 : W.cell? ⟨w.heap.size, 3, none⟩ = some (.int .i64 0) := cell_of_row W _ 3 _ _ _ B4.out
  have b4 : W.cell? ⟨w.heap.size, 4, none⟩ = some (.int .i64 0) := cell_of_row W _ 4 _ _ _ B4.out
  have b5 : W.cell? ⟨w.heap.size, 5, none⟩ = some (.int .u64 0) := cell_of_row W _ 5 _ _ _ B4.out
  have b6 : W.cell? ⟨w.heap.size, 6, none⟩ = some (.bool false) := cell_of_row W _ 6 _ _ _ B4.out
  have b7 : W.cell? ⟨w.heap.size, 7, none⟩ = some (.int .u64 0) := cell_of_row W _ 7 _ _ _ B4.out
  have e0 := setCell_id b0
  have e1 := setCell_id b1
  have e2 := setCell_id b2
  have e3 := setCell_id b3
  have e4 := setCell_id b4
  have e5 := setCell_id b5
  have e6 := setCell_id b6
  have e7 := setCell_id b7
  have fb := fun j => frozen_of_row W w.heap.size j _ _ B4.out
  go_upto_region 2 with fail
  go_region
  all_goals
    go_wp2
    exact bodyPost_ret (v := .tuple #[.int .u64 0, .int .i64 0, .agg tmZ, .int .i64 31]) (res_r4 rfl _ _ w.heap.size 133 _ (0, 0) _ (by kernel_rfl) (show W.drew.heap[w.heap.size]? = _ from B4.out) Tryz.underlying133 rfl (by kernel_rfl) (by kernel_rfl) (by kernel_rfl) (by kernel_rfl)) rfl
      ⟨rfl, F0.out.drew⟩
set_option maxRecDepth 20000 in
set_option maxHeartbeats 40000000 in
theorem htop_ok {w : World} {h a pm cp : Nat} {when : Int} {r : Array Value} (ho : HeapOne h a pm cp when r w) : Calls Tryz.prog 93 #[.pointer (some ⟨h, 0, none⟩)] w (Ret (.tuple #[.int .u64 when, .int .i64 0, .agg (tmC when), .int .i64 0]) E0 w) := by
  have HO := hid ho
  clear ho
  go_enter Tryz.func93, Tryz.ntmps93
  go_upto_region 1 with fail
  generalize hW : World.alloc _ _ = W
  have F0 := hid (show Fr E0 w W from by rw [← hW]; exact Fr.refl.alloc _)
  have B4 := hid (show W.heap[w.heap.size]? = some (.cells tmZ 133 (0, 0)) from by rw [← hW]; exact heap_alloc_new w _)
  clear hW
  have AW := hid (F0.out.heapAt HO.out.row (ne0 _))
  go_wp2_with fail
  refine (hlen_ok (cell_of_row W h 0 _ _ _ (F0.out.heapAt HO.out.obj (ne0 _)))).mono ?_
  rintro e w1 ⟨rfl, rfl⟩
  have h0 : W.cell? ⟨h, 0, none⟩ = some (.slice (some ⟨a, 0, none⟩) 1 cp) := cell_of_row W h 0 _ _ _ (F0.out.heapAt HO.out.obj (ne0 _))
  have a0 : W.cell? ⟨a, 0, none⟩ = some (.int .u64 when) := (cell_of_row W a 0 _ _ _ AW.out).trans (nd_get when r 0 (by decide))
  have a1 : W.cell? ⟨a, 1, none⟩ = some (.int .i64 0) := (cell_of_row W a 1 _ _ _ AW.out).trans (nd_get when r 1 (by decide))
  have a2 : W.cell? ⟨a, 2, none⟩ = some (.int .i64 1) := (cell_of_row W a 2 _ _ _ AW.out).trans (nd_get when r 2 (by decide))
  have a3 : W.cell? ⟨a, 3, none⟩ = some (.int .i64 1) := (cell_of_row W a 3 _ _ _ AW.out).trans (nd_get when r 3 (by decide))
  have a4 : W.cell? ⟨a, 4, none⟩ = some (.int .i64 0) := (cell_of_row W a 4 _ _ _ AW.out).trans (nd_get when r 4 (by decide))
  have a5 : W.cell? ⟨a, 5, none⟩ = some (.int .i64 1) := (cell_of_row W a 5 _ _ _ AW.out).trans (nd_get when r 5 (by decide))
  have a6 : W.cell? ⟨a, 6, none⟩ = some (.int .i64 0) := (cell_of_row W a 6 _ _ _ AW.out).trans (nd_get when r 6 (by decide))
  have a7 : W.cell? ⟨a, 7, none⟩ = some (.int .u64 when) := (cell_of_row W a 7 _ _ _ AW.out).trans (nd_get when r 7 (by decide))
  have a8 : W.cell? ⟨a, 8, none⟩ = some (.bool false) := (cell_of_row W a 8 _ _ _ AW.out).trans (nd_get when r 8 (by decide))
  have a9 : W.cell? ⟨a, 9, none⟩ = some (.int .u64 0) := (cell_of_row W a 9 _ _ _ AW.out).trans (nd_get when r 9 (by decide))
  go_upto_region 4 with fail
  clear h0 a0 a1 a2 a3 a4 a5 a6 a7 a8 a9
  generalize hV : World.alloc _ _ = V
  have G0 := hid (show Fr E0 W V from by rw [← hV]; exact Fr.refl.alloc _)
  have NV := hid (show V.heap[W.heap.size]? = some (.cells (ndC when) 374 (0, 0)) from by rw [← hV]; exact heap_alloc_new W _)
  clear hV
  have T4 := hid (G0.out.heapAt B4.out (ne0 _))
  have FV := hid (F0.out.trans G0.out)
  have hlt : w.heap.size < W.heap.size := heap_lt B4.out
  have n48 : W.heap.size ≠ w.heap.size := by omega
  have hS0 : StT W.heap.size w.heap.size when V V.drew := ⟨NV.out, ⟨_, T4.out, rfl⟩, Fr.refl.drew⟩
  refine wp_region_held_drew (S := StT W.heap.size w.heap.size when V) (by kernel_rfl) hS0 (fun hS => ?_)
  clear hS0
  show wpAnyH _ _ _ _ _ 10 _ _ _
  refine wpAnyH_rd 0 (some 17) (.pointer (some ⟨W.heap.size, 0, none⟩)) rfl rfl rfl (by kernel_rfl) (by kernel_rfl) (by kernel_rfl) (fun _ _ _ h => h) hS (fun u hu => by kernel_rfl) (fun hS => ?_)
  refine wpAnyH_rd 1 (some 18) (.int .u64 when) rfl rfl rfl (by kernel_rfl) (by kernel_rfl) (by kernel_rfl) (fun _ _ _ h => h) hS (fun u hu => run_load_cell 22 _ rfl W.heap.size 0 (by kernel_rfl) _ (cell_of_row u _ 0 _ _ _ hu.n) (by kernel_rfl)) (fun hS => ?_)
  refine wpAnyH_rd 2 (some 19) (.pointer (some ⟨W.heap.size, 1, none⟩)) rfl rfl rfl (by kernel_rfl) (by kernel_rfl) (by kernel_rfl) (fun _ _ _ h => h) hS (fun u hu => by kernel_rfl) (fun hS => ?_)
  refine wpAnyH_rd 3 (some 20) (.int .i64 0) rfl rfl rfl (by kernel_rfl) (by kernel_rfl) (by kernel_rfl) (fun _ _ _ h => h) hS (fun u hu => run_load_cell 3 _ rfl W.heap.size 1 (by kernel_rfl) _ (cell_of_row u _ 1 _ _ _ hu.n) (by kernel_rfl)) (fun hS => ?_)
  refine wpAnyH_rd 4 (some 21) (.pointer (some ⟨W.heap.size, 2, none⟩)) rfl rfl rfl (by kernel_rfl) (by kernel_rfl) (by kernel_rfl) (fun _ _ _ h => h) hS (fun u hu => by kernel_rfl) (fun hS => ?_)
  refine wpAnyH_rd 5 (some 22) (.agg (tmC when)) rfl rfl rfl (by kernel_rfl) (by kernel_rfl) (by kernel_rfl) (fun _ _ _ h => h) hS (fun u hu => run_load_mid 133 _ rfl W.heap.size 2 (by kernel_rfl) (tmC when).toList _ hu.mid Tryz.underlying133 rfl (by kernel_rfl)) (fun hS => ?_)
  refine wpAnyH_rd 6 (some 2) (.int .u64 when) rfl rfl rfl (by kernel_rfl) (by kernel_rfl) (by kernel_rfl) (fun _ _ _ h => h) hS (fun u hu => by kernel_rfl) (fun hS => ?_)
  refine wpAnyH_rd 7 (some 3) (.int .i64 0) rfl rfl rfl (by kernel_rfl) (by kernel_rfl) (by kernel_rfl) (fun _ _ _ h => h) hS (fun u hu => by kernel_rfl) (fun hS => ?_)
  refine wpAnyH_store_fits 8 rfl rfl (by kernel_rfl) 133 _ _ rfl w.heap.size (tmC when) (by kernel_rfl) (by kernel_rfl) 8 hS.t rfl (by kernel_rfl) (by kernel_rfl) (hS.s n48 rfl) (fun hS2 => ?_)
  refine wpAnyH_rd 9 (some 5) (.int .i64 0) rfl rfl rfl (by kernel_rfl) (by kernel_rfl) (by kernel_rfl) (fun _ _ _ h => h) hS2 (fun u hu => by kernel_rfl) (fun hS3 => ?_)
  refine wpAnyH_done (by kernel_rfl) ?_ _
  simp only [Act.put, List.setIfInBounds_toArray, List.set_cons_zero, List.set_cons_succ]
  go_wp2
  exact bodyPost_ret (v := .tuple #[.int .u64 when, .int .i64 0, .agg (tmC when), .int .i64 0]) (res_r4 rfl _ _ w.heap.size 133 _ (0, 0) _ (by kernel_rfl) (setMap_fits _ hS.t) Tryz.underlying133 rfl (by kernel_rfl) (by kernel_rfl) (by kernel_rfl) (by kernel_rfl)) rfl
    ⟨rfl, FV.out.trans' hS2.fr (fun k hk => .inr (by omega))⟩
theorem hhas_ok {w : World} {h a pm cp : Nat} {when : Int} {r : Array Value} (ho : HeapOne h a pm cp when r w) : Calls Tryz.prog 278 #[.pointer (some ⟨h, 0, none⟩), .int .i64 0] w fun e w' => e = .returned (.bool true) ∧ w = w' := by
  have h1 : w.cell? ⟨h, 1, none⟩ = some (.map (some pm)) := cell_of_row w h 1 _ _ _ ho.obj
  have hl := run_lookup_one (P := Tryz.prog) (w := w) Tryz.underlying376 Tryz.underlying3 ho.map
  clear ho
  go_enter Tryz.func278, Tryz.ntmps278
  go_wp2
  go_ret
  exact ⟨rfl, rfl⟩
def DropPost (h a pm cp : Nat) (when : Int) (w : World) (e : Ending) (w' : World) : Prop := e = .returned (.tuple #[.int .u64 when, .agg (tmC when), .int .i64 0]) ∧ w'.cell? ⟨h, 0, none⟩ = some (.slice (some ⟨a, 0, none⟩) 0 cp) ∧ Fr (fun k => k = h ∨ k = pm) w w'
set_option maxRecDepth 20000 in
set_option maxHeartbeats 40000000 in
theorem hdrop_ok {w : World} {h a pm cp : Nat} {when : Int} {r : Array Value} (ho : HeapOne h a pm cp when r w) : Calls Tryz.prog 194 #[.pointer (some ⟨h, 0, none⟩), .int .i64 0] w (DropPost h a pm cp when w) := by
  have HO := hid ho
  have hcp : 0 ≤ cp := Nat.zero_le _
  have nap : a ≠ pm := fun e => map_ne ho.map ho.row e.symm
  have nhp : h ≠ pm := fun e => map_ne ho.map ho.obj e.symm
  have nah : a ≠ h := cells_ne ho.row ho.obj (by decide)
  have NE := hid (And.intro nap (And.intro nhp (And.intro nah (And.intro (heap_lt ho.row) (And.intro (heap_lt ho.obj) (heap_lt ho.map))))))
  clear ho nap nhp nah
  go_enter Tryz.func194, Tryz.ntmps194
  go_upto_region 1 with fail
  generalize hW : World.alloc _ _ = W
  have F0 := hid (show Fr E0 w W from by rw [← hW]; exact Fr.refl.alloc _)
  have B5 := hid (show W.heap[w.heap.size]? = some (.cells tmZ 133 (0, 0)) from by rw [← hW]; exact heap_alloc_new w _)
  clear hW
  have HW := hid (show HeapOne h a pm cp when r W from ⟨F0.out.heapAt HO.out.obj (ne0 _), F0.out.heapAt HO.out.row (ne0 _), F0.out.heapAt HO.out.map (ne0 _)⟩)
  go_wp2_with fail
  refine (hhas_ok HW.out).mono ?_
  rintro e w1 ⟨rfl, rfl⟩
  have hl := run_lookup_hit (P := Tryz.prog) (w := W) (b := false) (i := 0) (x := 0) (v := .int .i64 0) Tryz.underlying376 Tryz.underlying3 HW.out.map (by kernel_rfl)
  have h0 : W.cell? ⟨h, 0, none⟩ = some (.slice (some ⟨a, 0, none⟩) 1 cp) := cell_of_row W h 0 _ _ _ HW.out.obj
  have h1 : W.cell? ⟨h, 1, none⟩ = some (.map (some pm)) := cell_of_row W h 1 _ _ _ HW.out.obj
  have a0 : W.cell? ⟨a, 0, none⟩ = some (.int .u64 when) := (cell_of_row W a 0 _ _ _ HW.out.row).trans (nd_get when r 0 (by decide))
  have a1 : W.cell? ⟨a, 1, none⟩ = some (.int .i64 0) := (cell_of_row W a 1 _ _ _ HW.out.row).trans (nd_get when r 1 (by decide))
  have a2 : W.cell? ⟨a, 2, none⟩ = some (.int .i64 1) := (cell_of_row W a 2 _ _ _ HW.out.row).trans (nd_get when r 2 (by decide))
  have a3 : W.cell? ⟨a, 3, none⟩ = some (.int .i64 1) := (cell_of_row W a 3 _ _ _ HW.out.row).trans (nd_get when r 3 (by decide))
  have a4 : W.cell? ⟨a, 4, none⟩ = some (.int .i64 0) := (cell_of_row W a 4 _ _ _ HW.out.row).trans (nd_get when r 4 (by decide))
  have a5 : W.cell? ⟨a, 5, none⟩ = some (.int .i64 1) := (cell_of_row W a 5 _ _ _ HW.out.row).trans (nd_get when r 5 (by decide))
  have a6 : W.cell? ⟨a, 6, none⟩ = some (.int .i64 0) := (cell_of_row W a 6 _ _ _ HW.out.row).trans (nd_get when r 6 (by decide))
  have a7 : W.cell? ⟨a, 7, none⟩ = some (.int .u64 when) := (cell_of_row W a 7 _ _ _ HW.out.row).trans (nd_get when r 7 (by decide))
  have a8 : W.cell? ⟨a, 8, none⟩ = some (.bool false) := (cell_of_row W a 8 _ _ _ HW.out.row).trans (nd_get when r 8 (by decide))
  have a9 : W.cell? ⟨a, 9, none⟩ = some (.int .u64 0) := (cell_of_row W a 9 _ _ _ HW.out.row).trans (nd_get when r 9 (by decide))
  go_upto_region 5 with fail
  clear h0 h1 a0 a1 a2 a3 a4 a5 a6 a7 a8 a9 hl
  generalize hV : World.alloc _ _ = V
  have G0 := hid (show Fr E0 W V from by rw [← hV]; exact Fr.refl.alloc _)
  have NV := hid (show V.heap[W.heap.size]? = some (.cells (ndC when) 374 (0, 0)) from by rw [← hV]; exact heap_alloc_new W _)
  clear hV
  have HV := hid (show HeapOne h a pm cp when r V from ⟨G0.out.heapAt HW.out.obj (ne0 _), G0.out.heapAt HW.out.row (ne0 _), G0.out.heapAt HW.out.map (ne0 _)⟩)
  have T5 := hid (G0.out.heapAt B5.out (ne0 _))
  have hwl : w.heap.size < W.heap.size := heap_lt B5.out
  have hvl : W.heap.size < V.heap.size := heap_lt NV.out
  have h1 : V.cell? ⟨h, 1, none⟩ = some (.map (some pm)) := cell_of_row V h 1 _ _ _ HV.out.obj
  have hdel : ∀ ty, (Builtin.delete_ #[376, 3] ty #[.map (some pm), .int .i64 0]).run Tryz.prog V = .ok (.tuple #[]) (setMap V pm (.map #[] 1)) := fun ty => run_delete_one (P := Tryz.prog) Tryz.underlying376 Tryz.underlying3 HV.out.map
  go_upto_region 6 with fail
  clear h1 hdel
  generalize hU : setMap _ _ _ = U
  have GU := hid (show Fr (fun k => k = pm) V U from by rw [← hU]; exact Fr.refl.setMap _ (.inl rfl))
  clear hU
  have ne := NE.out
  have OU := hid (GU.out.heapAt HV.out.obj ne.2.1)
  have AU := hid (GU.out.heapAt HV.out.row ne.1)
  have NU := hid (GU.out.heapAt NV.out (by omega))
  have TU := hid (GU.out.heapAt T5.out (by omega))
  have h0 : U.cell? ⟨h, 0, none⟩ = some (.slice (some ⟨a, 0, none⟩) 1 cp) := cell_of_row U h 0 _ _ _ OU.out
  have a0 : U.cell? ⟨a, 0, none⟩ = some (.int .u64 when) := (cell_of_row U a 0 _ _ _ AU.out).trans (nd_get when r 0 (by decide))
  have a1 : U.cell? ⟨a, 1, none⟩ = some (.int .i64 0) := (cell_of_row U a 1 _ _ _ AU.out).trans (nd_get when r 1 (by decide))
  have a2 : U.cell? ⟨a, 2, none⟩ = some (.int .i64 1) := (cell_of_row U a 2 _ _ _ AU.out).trans (nd_get when r 2 (by decide))
  have a3 : U.cell? ⟨a, 3, none⟩ = some (.int .i64 1) := (cell_of_row U a 3 _ _ _ AU.out).trans (nd_get when r 3 (by decide))
  have a4 : U.cell? ⟨a, 4, none⟩ = some (.int .i64 0) := (cell_of_row U a 4 _ _ _ AU.out).trans (nd_get when r 4 (by decide))
  have a5 : U.cell? ⟨a, 5, none⟩ = some (.int .i64 1) := (cell_of_row U a 5 _ _ _ AU.out).trans (nd_get when r 5 (by decide))
  have a6 : U.cell? ⟨a, 6, none⟩ = some (.int .i64 0) := (cell_of_row U a 6 _ _ _ AU.out).trans (nd_get when r 6 (by decide))
  have a7 : U.cell? ⟨a, 7, none⟩ = some (.int .u64 when) := (cell_of_row U a 7 _ _ _ AU.out).trans (nd_get when r 7 (by decide))
  have a8 : U.cell? ⟨a, 8, none⟩ = some (.bool false) := (cell_of_row U a 8 _ _ _ AU.out).trans (nd_get when r 8 (by decide))
  have a9 : U.cell? ⟨a, 9, none⟩ = some (.int .u64 0) := (cell_of_row U a 9 _ _ _ AU.out).trans (nd_get when r 9 (by decide))
  have hsz : V.heap.size ≤ U.heap.size := GU.out.size
  go_upto_region 8 with fail
  clear h0 a0 a1 a2 a3 a4 a5 a6 a7 a8 a9
  generalize hX : World.alloc _ _ = X
  have GX := hid (show Fr E0 U X from by rw [← hX]; exact Fr.refl.alloc _)
  clear hX
  have OX := hid (GX.out.heapAt OU.out (ne0 _))
  have NX := hid (GX.out.heapAt NU.out (ne0 _))
  have TX := hid (GX.out.heapAt TU.out (ne0 _))
  have h0 : X.cell? ⟨h, 0, none⟩ = some (.slice (some ⟨a, 0, none⟩) 1 cp) := cell_of_row X h 0 _ _ _ OX.out
  have hf := fun j => frozen_of_row X h j _ _ OX.out
  go_upto_region 9 with fail
  clear h0 hf
  have GY := hid (show Fr (fun k => k = h) X (X.setCell ⟨h, 0, none⟩ (.slice (some ⟨a, 0, none⟩) 0 cp)) from Fr.refl.setCell (p := ⟨h, 0, none⟩) _ (.inl rfl))
  have OY := hid (heap_setCell_same X h 0 _ _ (.slice (some ⟨a, 0, none⟩) 0 cp) OX.out)
  generalize X.setCell ⟨h, 0, none⟩ (.slice (some ⟨a, 0, none⟩) 0 cp) = Y at *
  have NY := hid (GY.out.heapAt NX.out (by omega))
  have TY := hid (GY.out.heapAt TX.out (by omega))
  have FY := hid (show Fr (fun k => k = h ∨ k = pm) w Y from (((F0.out.trans G0.out).e0.trans (GU.out.mono (T := fun k => k = h ∨ k = pm) (fun k hk => .inr hk))).trans GX.out.e0).trans (GY.out.mono (fun k hk => .inl hk)))
  clear GY GX GU G0 F0 OX NX TX OU AU NU TU HV NV T5 HW B5
  have n48 : W.heap.size ≠ w.heap.size := by omega
  go_upto_region 13 with fail
  have hS0 : StT W.heap.size w.heap.size when Y Y.drew := ⟨NY.out, ⟨_, TY.out, rfl⟩, Fr.refl.drew⟩
  refine wp_region_held_drew (S := StT W.heap.size w.heap.size when Y) (by kernel_rfl) hS0 (fun hS => ?_)
  clear hS0
  show wpAnyH _ _ _ _ _ 7 _ _ _
  refine wpAnyH_rd 0 (some 75) (.pointer (some ⟨W.heap.size, 0, none⟩)) rfl rfl rfl (by kernel_rfl) (by kernel_rfl) (by kernel_rfl) (fun _ _ _ h => h) hS (fun u hu => by kernel_rfl) (fun hS => ?_)
  refine wpAnyH_rd 1 (some 76) (.int .u64 when) rfl rfl rfl (by kernel_rfl) (by kernel_rfl) (by kernel_rfl) (fun _ _ _ h => h) hS (fun u hu => run_load_cell 22 _ rfl W.heap.size 0 (by kernel_rfl) _ (cell_of_row u _ 0 _ _ _ hu.n) (by kernel_rfl)) (fun hS => ?_)
  refine wpAnyH_rd 2 (some 77) (.pointer (some ⟨W.heap.size, 2, none⟩)) rfl rfl rfl (by kernel_rfl) (by kernel_rfl) (by kernel_rfl) (fun _ _ _ h => h) hS (fun u hu => by kernel_rfl) (fun hS => ?_)
  refine wpAnyH_rd 3 (some 78) (.agg (tmC when)) rfl rfl rfl (by kernel_rfl) (by kernel_rfl) (by kernel_rfl) (fun _ _ _ h => h) hS (fun u hu => run_load_mid 133 _ rfl W.heap.size 2 (by kernel_rfl) (tmC when).toList _ hu.mid Tryz.underlying133 rfl (by kernel_rfl)) (fun hS => ?_)
  refine wpAnyH_rd 4 (some 4) (.int .u64 when) rfl rfl rfl (by kernel_rfl) (by kernel_rfl) (by kernel_rfl) (fun _ _ _ h => h) hS (fun u hu => by kernel_rfl) (fun hS => ?_)
  refine wpAnyH_store_fits 5 rfl rfl (by kernel_rfl) 133 _ _ rfl w.heap.size (tmC when) (by kernel_rfl) (by kernel_rfl) 8 hS.t rfl (by kernel_rfl) (by kernel_rfl) (hS.s n48 rfl) (fun hS2 => ?_)
  refine wpAnyH_rd 6 (some 6) (.int .i64 0) rfl rfl rfl (by kernel_rfl) (by kernel_rfl) (by kernel_rfl) (fun _ _ _ h => h) hS2 (fun u hu => by kernel_rfl) (fun hS3 => ?_)
  refine wpAnyH_done (by kernel_rfl) ?_ _
  simp only [Act.put, List.setIfInBounds_toArray, List.set_cons_zero, List.set_cons_succ]
  go_wp2
  exact bodyPost_ret (v := .tuple #[.int .u64 when, .agg (tmC when), .int .i64 0]) (res_r3 rfl _ _ w.heap.size 133 _ (0, 0) _ (by kernel_rfl) (setMap_fits _ hS.t) Tryz.underlying133 rfl (by kernel_rfl) (by kernel_rfl) (by kernel_rfl)) rfl
    ⟨rfl, hS2.fr.cell (cell_of_row Y h 0 _ _ _ OY.out) (by omega), FY.out.trans' hS2.fr (fun k hk => .inr (by omega))⟩
def PopPost (h pm : Nat) (when : Int) (w : World) (e : Ending) (w' : World) : Prop := e = .returned (.tuple #[.int .u64 when, .int .i64 0, .agg (tmC when), .int .i64 0]) ∧ (∃ A c, w'.cell? ⟨h, 0, none⟩ = some (.slice A 0 c)) ∧ Fr (fun k => k = h ∨ k = pm) w w'
set_option maxRecDepth 20000 in
set_option maxHeartbeats 40000000 in
theorem hpop_ok {w : World} {h a pm cp : Nat} {when : Int} {r : Array Value} (ho : HeapOne h a pm cp when r w) : Calls Tryz.prog 94 #[.pointer (some ⟨h, 0, none⟩)] w (PopPost h pm when w) := by
  have HO := hid ho
  have NE := hid (And.intro (heap_lt ho.row) (And.intro (heap_lt ho.obj) (heap_lt ho.map)))
  clear ho
  go_enter Tryz.func94, Tryz.ntmps94
  go_upto_region 1 with fail
  generalize hW : World.alloc _ _ = W
  have F0 := hid (show Fr E0 w W from by rw [← hW]; exact Fr.refl.alloc _)
  have B4 := hid (show W.heap[w.heap.size]? = some (.cells tmZ 133 (0, 0)) from by rw [← hW]; exact heap_alloc_new w _)
  clear hW
  have HW := hid (show HeapOne h a pm cp when r W from ⟨F0.out.heapAt HO.out.obj (ne0 _), F0.out.heapAt HO.out.row (ne0 _), F0.out.heapAt HO.out.map (ne0 _)⟩)
  go_wp2_with fail
  refine (htop_ok HW.out).mono ?_
  rintro e w1 ⟨rfl, hf1⟩
  have F1 := hid hf1
  have T4 := hid (hf1.heapAt B4.out (ne0 _))
  clear hf1
  have hst : (storeCells ⟨w.heap.size, 0, none⟩ (tmC when).toList).run Tryz.prog w1 = .ok () (setMap w1 w.heap.size (.cells (tmC when) 133 (0, 0))) := run_store_fits ⟨_, T4.out, rfl⟩ rfl (all_one (by kernel_rfl))
  go_upto_region 2 with fail
  clear hst
  generalize hV : setMap _ _ _ = V
  have GV := hid (show Fr (fun k => k = w.heap.size) w1 V from by rw [← hV]; exact Fr.refl.setMap _ (.inl rfl))
  have TV := hid (show V.heap[w.heap.size]? = some (.cells (tmC when) 133 (0, 0)) from by rw [← hV]; exact setMap_at T4.out)
  clear hV
  have ne := NE.out
  have HV := hid (show HeapOne h a pm cp when r V from ⟨GV.out.heapAt (F1.out.heapAt HW.out.obj (ne0 _)) (by omega), GV.out.heapAt (F1.out.heapAt HW.out.row (ne0 _)) (by omega), GV.out.heapAt (F1.out.heapAt HW.out.map (ne0 _)) (by omega)⟩)
  have FV := hid (show Fr E0 w V from (F0.out.trans F1.out).trans' GV.out (fun k hk => .inr (by omega)))
  go_wp2_with fail
  refine (hdrop_ok HV.out).mono ?_
  rintro e w2 ⟨rfl, hc, hf2⟩
  have C2 := hid hc
  have F2 := hid hf2
  have T2 := hid (hf2.heapAt TV.out (by omega))
  clear hc hf2
  have b0 : w2.cell? ⟨w.heap.size, 0, none⟩ = some (.int .i64 1) := cell_of_row w2 _ 0 _ _ _ T2.out
  have b1 : w2.cell? ⟨w.heap.size, 1, none⟩ = some (.int .i64 1) := cell_of_row w2 _ 1 _ _ _ T2.out
  have b2 : w2.cell? ⟨w.heap.size, 2, none⟩ = some (.int .i64 0) := cell_of_row w2 _ 2 _ _ _ T2.out
  have b3 : w2.cell? ⟨w.heap.size, 3, none⟩ = some (.int .i64 1) := cell_of_row w2 _ 3 _ _ _ T2.out
  have b4 : w2.cell? ⟨w.heap.size, 4, none⟩ = some (.int .i64 0) := cell_of_row w2 _ 4 _ _ _ T2.out
  have b5 : w2.cell? ⟨w.heap.size, 5, none⟩ = some (.int .u64 when) := cell_of_row w2 _ 5 _ _ _ T2.out
  have b6 : w2.cell? ⟨w.heap.size, 6, none⟩ = some (.bool false) := cell_of_row w2 _ 6 _ _ _ T2.out
  have b7 : w2.cell? ⟨w.heap.size, 7, none⟩ = some (.int .u64 0) := cell_of_row w2 _ 7 _ _ _ T2.out
  have e0 := setCell_id b0
  have e1 := setCell_id b1
  have e2 := setCell_id b2
  have e3 := setCell_id b3
  have e4 := setCell_id b4
  have e5 := setCell_id b5
  have e6 := setCell_id b6
  have e7 := setCell_id b7
  have fb := fun j => frozen_of_row w2 w.heap.size j _ _ T2.out
  go_upto_region 4 with fail
  go_region
  all_goals
    go_wp2
    exact bodyPost_ret (v := .tuple #[.int .u64 when, .int .i64 0, .agg (tmC when), .int .i64 0]) (res_r4 rfl _ _ w.heap.size 133 _ (0, 0) _ (by kernel_rfl) (show w2.drew.heap[w.heap.size]? = _ from T2.out) Tryz.underlying133 rfl (by kernel_rfl) (by kernel_rfl) (by kernel_rfl) (by kernel_rfl)) rfl
      ⟨rfl, ⟨_, _, C2.out⟩, (FV.out.e0.trans F2.out).drew⟩
end Go.Proofs.YtocepiogpeafoaaGreatDoor
