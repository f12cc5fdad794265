/- Words and contracts of calls that the law needs (Ops, Small, Tick, Tbegin, Sleeps): merged by wip/gen/zmerge.py. No condition but those that each theorem names. -/
import Derived.Shelf.Spec.BitsCarry
import Derived.Test.YtocepiogpeafoaaGreatDoorH02
import Derived.Test.YtocepiogpeafoaaGreatDoorH14
import Derived.Test.YtocepiogpeafoaaGreatDoorH30
import Derived.Test.YtocepiogpeafoaaGreatDoorH31
set_option linter.unusedVariables false
/- local.operations: the walk. Printed by wip/gen/zops.py (function numbers as ops.sh tells them). -/
namespace Go.Proofs.YtocepiogpeafoaaGreatDoor
open Go.RowKit
set_option linter.unusedVariables false
theorem setMap_setMap (w : World) (r : Nat) (o o' : Obj) : setMap (setMap w r o) r o' = setMap w r o' := by simp [setMap]
theorem wpList_insert {P : Program} {ops : Array Oper} {rest : List Oper} {o : Oper} {a : Act} {w0 : World} {Q : Exit → Act → World → Prop} (hg : o.guard = none) (t : TypeId) (m k x : Operand) (ho : o.op = .insert t m k x) (r : Nat) (key : Int) (v : Value)
    (hm : a.eval m = .map (some r)) (hk : a.eval k = .int .i64 key) (hx : a.eval x = v) (kt e : TypeId) (hu : P.underlying t = some (.map kt e)) (hk' : P.underlying kt = some (.int .i64)) (o0 : Obj) (h0 : w0.heap[r]? = some o0) (es : Array MapEntry) (c : Nat)
    (hn : noKey key es.toList = true) (h : wpList P ops Q rest (a.put o.dst undef) (setMap w0 r (.map (es.push ⟨.int .i64 key, v, c⟩) (c + 1)))) : wpList P ops Q (o :: rest) a (setMap w0 r (.map es c)) := by
  refine wpList_plain hg fun K hK => ?_
  unfold Oper.wp execOp
  have hr := run_update_new (P := P) (w := setMap w0 r (.map es c)) (v := v) hu hk' (setMap_at h0) hn
  rw [setMap_setMap] at hr
  simp only [ho, hm, hk, hx, hr, Sem.run_bind, Result.andThen_ok]
  exact hK _ _ h
def OpsPost (w : World) (e : Ending) (w' : World) : Prop := ∃ es c, e = .returned (.map (some w.heap.size)) ∧ w'.heap[w.heap.size]? = some (.map es c) ∧ Instr.findNow (.int .i64) (.int .i64 27) es.toList 0 = some (some (3, .func (.func 69) #[] #[])) ∧ Fr E0 w w'
set_option maxRecDepth 20000 in
theorem operations_ok (w : World) : Calls Tryz.prog 22 #[] w (OpsPost w) := by
  have hmm := @run_makeMap Tryz.prog
  go_enter Tryz.func22, Tryz.ntmps22
  go_upto_region 1 with fail
  apply wp_region_lit
  refine Great.wpList_allocTo rfl _ rfl (.map (some w.heap.size)) (.map #[] 0) (by kernel_rfl) ?_
  have hw : w.alloc (.map #[] 0) = setMap (w.alloc (.map #[] 0)) w.heap.size (.map #[] 0) := by
    have : (w.heap.push (.map #[] 0)).setIfInBounds w.heap.size (.map #[] 0) = w.heap.push (.map #[] 0) := by
      apply Array.toList_inj.1
      simp
    unfold setMap
    rw [show (w.alloc (.map #[] 0)).heap = w.heap.push (.map #[] 0) from rfl, this]
    rfl
  rw [hw]
  have h0 := heap_alloc_new w (.map #[] 0)
  have hF : Fr E0 w (w.alloc (.map #[] 0)) := Fr.refl.alloc _
  clear hw
  generalize w.alloc (.map #[] 0) = W at *
  refine wpList_insert rfl 128 _ _ _ rfl w.heap.size 24 (.func (.func 66) #[] #[]) (by kernel_rfl) (by kernel_rfl) (by kernel_rfl) _ _ Tryz.underlying128 Tryz.underlying3 _ h0 _ _ (by kernel_rfl) ?_
  refine wpList_insert rfl 128 _ _ _ rfl w.heap.size 23 (.func (.func 67) #[] #[]) (by kernel_rfl) (by kernel_rfl) (by kernel_rfl) _ _ Tryz.underlying128 Tryz.underlying3 _ h0 _ _ (by kernel_rfl) ?_
  refine wpList_insert rfl 128 _ _ _ rfl w.heap.size 22 (.func (.func 68) #[] #[]) (by kernel_rfl) (by kernel_rfl) (by kernel_rfl) _ _ Tryz.underlying128 Tryz.underlying3 _ h0 _ _ (by kernel_rfl) ?_
  refine wpList_insert rfl 128 _ _ _ rfl w.heap.size 27 (.func (.func 69) #[] #[]) (by kernel_rfl) (by kernel_rfl) (by kernel_rfl) _ _ Tryz.underlying128 Tryz.underlying3 _ h0 _ _ (by kernel_rfl) ?_
  refine wpList_insert rfl 128 _ _ _ rfl w.heap.size 28 (.func (.func 70) #[] #[]) (by kernel_rfl) (by kernel_rfl) (by kernel_rfl) _ _ Tryz.underlying128 Tryz.underlying3 _ h0 _ _ (by kernel_rfl) ?_
  refine wpList_insert rfl 128 _ _ _ rfl w.heap.size 29 (.func (.func 71) #[] #[]) (by kernel_rfl) (by kernel_rfl) (by kernel_rfl) _ _ Tryz.underlying128 Tryz.underlying3 _ h0 _ _ (by kernel_rfl) ?_
  refine wpList_insert rfl 128 _ _ _ rfl w.heap.size 30 (.func (.func 72) #[] #[]) (by kernel_rfl) (by kernel_rfl) (by kernel_rfl) _ _ Tryz.underlying128 Tryz.underlying3 _ h0 _ _ (by kernel_rfl) ?_
  refine wpList_insert rfl 128 _ _ _ rfl w.heap.size 31 (.func (.func 73) #[] #[]) (by kernel_rfl) (by kernel_rfl) (by kernel_rfl) _ _ Tryz.underlying128 Tryz.underlying3 _ h0 _ _ (by kernel_rfl) ?_
  refine wpList_insert rfl 128 _ _ _ rfl w.heap.size 32 (.func (.func 74) #[] #[]) (by kernel_rfl) (by kernel_rfl) (by kernel_rfl) _ _ Tryz.underlying128 Tryz.underlying3 _ h0 _ _ (by kernel_rfl) ?_
  refine wpList_insert rfl 128 _ _ _ rfl w.heap.size 33 (.func (.func 74) #[] #[]) (by kernel_rfl) (by kernel_rfl) (by kernel_rfl) _ _ Tryz.underlying128 Tryz.underlying3 _ h0 _ _ (by kernel_rfl) ?_
  refine wpList_insert rfl 128 _ _ _ rfl w.heap.size 34 (.func (.func 75) #[] #[]) (by kernel_rfl) (by kernel_rfl) (by kernel_rfl) _ _ Tryz.underlying128 Tryz.underlying3 _ h0 _ _ (by kernel_rfl) ?_
  refine wpList_insert rfl 128 _ _ _ rfl w.heap.size 35 (.func (.func 76) #[] #[]) (by kernel_rfl) (by kernel_rfl) (by kernel_rfl) _ _ Tryz.underlying128 Tryz.underlying3 _ h0 _ _ (by kernel_rfl) ?_
  refine wpList_insert rfl 128 _ _ _ rfl w.heap.size 37 (.func (.func 76) #[] #[]) (by kernel_rfl) (by kernel_rfl) (by kernel_rfl) _ _ Tryz.underlying128 Tryz.underlying3 _ h0 _ _ (by kernel_rfl) ?_
  refine wpList_insert rfl 128 _ _ _ rfl w.heap.size 36 (.func (.func 77) #[] #[]) (by kernel_rfl) (by kernel_rfl) (by kernel_rfl) _ _ Tryz.underlying128 Tryz.underlying3 _ h0 _ _ (by kernel_rfl) ?_
  refine wpList_insert rfl 128 _ _ _ rfl w.heap.size 38 (.func (.func 77) #[] #[]) (by kernel_rfl) (by kernel_rfl) (by kernel_rfl) _ _ Tryz.underlying128 Tryz.underlying3 _ h0 _ _ (by kernel_rfl) ?_
  refine wpList_insert rfl 128 _ _ _ rfl w.heap.size 39 (.func (.func 78) #[] #[]) (by kernel_rfl) (by kernel_rfl) (by kernel_rfl) _ _ Tryz.underlying128 Tryz.underlying3 _ h0 _ _ (by kernel_rfl) ?_
  refine wpList_insert rfl 128 _ _ _ rfl w.heap.size 40 (.func (.func 78) #[] #[]) (by kernel_rfl) (by kernel_rfl) (by kernel_rfl) _ _ Tryz.underlying128 Tryz.underlying3 _ h0 _ _ (by kernel_rfl) ?_
  refine wpList_insert rfl 128 _ _ _ rfl w.heap.size 41 (.func (.func 79) #[] #[]) (by kernel_rfl) (by kernel_rfl) (by kernel_rfl) _ _ Tryz.underlying128 Tryz.underlying3 _ h0 _ _ (by kernel_rfl) ?_
  refine wpList_insert rfl 128 _ _ _ rfl w.heap.size 42 (.func (.func 80) #[] #[]) (by kernel_rfl) (by kernel_rfl) (by kernel_rfl) _ _ Tryz.underlying128 Tryz.underlying3 _ h0 _ _ (by kernel_rfl) ?_
  refine wpList_insert rfl 128 _ _ _ rfl w.heap.size 43 (.func (.func 81) #[] #[]) (by kernel_rfl) (by kernel_rfl) (by kernel_rfl) _ _ Tryz.underlying128 Tryz.underlying3 _ h0 _ _ (by kernel_rfl) ?_
  refine wpList_insert rfl 128 _ _ _ rfl w.heap.size 44 (.func (.func 81) #[] #[]) (by kernel_rfl) (by kernel_rfl) (by kernel_rfl) _ _ Tryz.underlying128 Tryz.underlying3 _ h0 _ _ (by kernel_rfl) ?_
  refine wpList_insert rfl 128 _ _ _ rfl w.heap.size 45 (.func (.func 82) #[] #[]) (by kernel_rfl) (by kernel_rfl) (by kernel_rfl) _ _ Tryz.underlying128 Tryz.underlying3 _ h0 _ _ (by kernel_rfl) ?_
  refine wpList_insert rfl 128 _ _ _ rfl w.heap.size 46 (.func (.func 83) #[] #[]) (by kernel_rfl) (by kernel_rfl) (by kernel_rfl) _ _ Tryz.underlying128 Tryz.underlying3 _ h0 _ _ (by kernel_rfl) ?_
  refine wpList_insert rfl 128 _ _ _ rfl w.heap.size 47 (.func (.func 84) #[] #[]) (by kernel_rfl) (by kernel_rfl) (by kernel_rfl) _ _ Tryz.underlying128 Tryz.underlying3 _ h0 _ _ (by kernel_rfl) ?_
  refine wpList_insert rfl 128 _ _ _ rfl w.heap.size 48 (.func (.func 84) #[] #[]) (by kernel_rfl) (by kernel_rfl) (by kernel_rfl) _ _ Tryz.underlying128 Tryz.underlying3 _ h0 _ _ (by kernel_rfl) ?_
  refine wpList_insert rfl 128 _ _ _ rfl w.heap.size 49 (.func (.func 84) #[] #[]) (by kernel_rfl) (by kernel_rfl) (by kernel_rfl) _ _ Tryz.underlying128 Tryz.underlying3 _ h0 _ _ (by kernel_rfl) ?_
  refine wpList_insert rfl 128 _ _ _ rfl w.heap.size 50 (.func (.func 84) #[] #[]) (by kernel_rfl) (by kernel_rfl) (by kernel_rfl) _ _ Tryz.underlying128 Tryz.underlying3 _ h0 _ _ (by kernel_rfl) ?_
  refine wpList_insert rfl 128 _ _ _ rfl w.heap.size 51 (.func (.func 85) #[] #[]) (by kernel_rfl) (by kernel_rfl) (by kernel_rfl) _ _ Tryz.underlying128 Tryz.underlying3 _ h0 _ _ (by kernel_rfl) ?_
  refine wpList_insert rfl 128 _ _ _ rfl w.heap.size 52 (.func (.func 86) #[] #[]) (by kernel_rfl) (by kernel_rfl) (by kernel_rfl) _ _ Tryz.underlying128 Tryz.underlying3 _ h0 _ _ (by kernel_rfl) ?_
  refine wpList_insert rfl 128 _ _ _ rfl w.heap.size 53 (.func (.func 87) #[] #[]) (by kernel_rfl) (by kernel_rfl) (by kernel_rfl) _ _ Tryz.underlying128 Tryz.underlying3 _ h0 _ _ (by kernel_rfl) ?_
  refine wpList_insert rfl 128 _ _ _ rfl w.heap.size 54 (.func (.func 88) #[] #[]) (by kernel_rfl) (by kernel_rfl) (by kernel_rfl) _ _ Tryz.underlying128 Tryz.underlying3 _ h0 _ _ (by kernel_rfl) ?_
  refine wpList_insert rfl 128 _ _ _ rfl w.heap.size 55 (.func (.func 89) #[] #[]) (by kernel_rfl) (by kernel_rfl) (by kernel_rfl) _ _ Tryz.underlying128 Tryz.underlying3 _ h0 _ _ (by kernel_rfl) ?_
  refine wpList_insert rfl 128 _ _ _ rfl w.heap.size 56 (.func (.func 89) #[] #[]) (by kernel_rfl) (by kernel_rfl) (by kernel_rfl) _ _ Tryz.underlying128 Tryz.underlying3 _ h0 _ _ (by kernel_rfl) ?_
  refine wpList_insert rfl 128 _ _ _ rfl w.heap.size 57 (.func (.func 90) #[] #[]) (by kernel_rfl) (by kernel_rfl) (by kernel_rfl) _ _ Tryz.underlying128 Tryz.underlying3 _ h0 _ _ (by kernel_rfl) ?_
  refine Great.wpList_readTo rfl _ rfl (.map (some w.heap.size)) (by kernel_rfl) ?_
  refine Great.wpList_readTo rfl _ rfl (.map (some w.heap.size)) (by kernel_rfl) ?_
  apply wpList_nil
  simp only [Act.put, List.setIfInBounds_toArray, List.set_cons_zero, List.set_cons_succ]
  go_wp2
  go_ret
  exact ⟨_, _, rfl, setMap_at h0, by kernel_rfl, hF.setMap _ (.inr (Nat.le_refl _))⟩
end Go.Proofs.YtocepiogpeafoaaGreatDoor
/- Domain.next, handle of nobody, Timers.is, Timers.Sleeps of nobody: the walks. -/
namespace Go.Proofs.YtocepiogpeafoaaGreatDoor
open Go.RowKit
set_option linter.unusedVariables false
theorem handle_nil (w : World) : Calls Tryz.prog 98 #[.pointer none] w fun e w' => e = .returned (.int .i64 0) ∧ w = w' := by
  go_enter Tryz.func98, Tryz.ntmps98
  go_wp2
  go_ret
  exact ⟨rfl, rfl⟩
theorem timIs_ok {w : World} {g : Nat} (h : w.cell? ⟨g, 0, none⟩ = some (.bool true)) : Calls Tryz.prog 92 #[.pointer (some ⟨g, 0, none⟩)] w fun e w' => e = .returned (.bool true) ∧ w = w' := by
  go_enter Tryz.func92, Tryz.ntmps92
  go_wp2
  go_ret
  exact ⟨rfl, rfl⟩
theorem next_ok {w : World} {g : Nat} (h : w.cell? ⟨g, 17, none⟩ = some (.int .u64 1)) (hf : w.frozen? ⟨g, 17, none⟩ = false) : Calls Tryz.prog 97 #[.pointer (some ⟨g, 0, none⟩)] w fun e w' => e = .returned (.int .u64 1) ∧ Fr (fun k => k = g) w w' := by
  go_enter Tryz.func97, Tryz.ntmps97
  go_wp2
  go_ret
  exact ⟨rfl, Fr.refl.setCell _ (.inl rfl)⟩
end Go.Proofs.YtocepiogpeafoaaGreatDoor
/- tick.Add: the walk. -/
namespace Go.Proofs.YtocepiogpeafoaaGreatDoor
open Go.RowKit
set_option linter.unusedVariables false
theorem call_add64 (x y : Int) (w : World) (hx : 0 ≤ x) (hy : 0 ≤ y) : (callFunc 387 #[.int .u64 x, .int .u64 y, .int .u64 0]).run Tryz.prog w = .ok (.value (.tuple #[.int .u64 ((x + y) % 18446744073709551616), .int .u64 ((x + y) / 18446744073709551616)])) w := by
  rw [run_callFunc_extern Tryz.func387 (by kernel_rfl) (by kernel_rfl) (by kernel_rfl) (e := add64Entry) (by kernel_rfl), run_add64 x y 0 hx hy (by omega) (by omega)]
  simp only [Result.andThen, Int.add_zero]
/-- the greatest clock and one more -/
def two64 : Int := 18446744073709551616
set_option maxHeartbeats 1000000 in
theorem tickAdd_ok (x y : Int) (w : World) (hx : 0 ≤ x) (hy : 0 ≤ y) (h : x + y < two64) : Calls Tryz.prog 323 #[.int .u64 x, .int .u64 y] w fun e w' => e = .returned (tup2 (.int .u64 (x + y)) (.int .i64 0)) ∧ w = w' := by
  obtain ⟨s, hs⟩ : ∃ s, x + y = s := ⟨_, rfl⟩
  have ha : ∀ W, (callFunc 387 #[.int .u64 x, .int .u64 y, .int .u64 0]).run Tryz.prog W = .ok (.value (.tuple #[.int .u64 s, .int .u64 0])) W := fun W => by
    unfold two64 at h
    have e1 : (x + y) % 18446744073709551616 = s := by omega
    have e2 : (x + y) / 18446744073709551616 = 0 := by omega
    rw [call_add64 x y W hx hy, e1, e2]
  rw [hs]
  clear h hs
  go_enter Tryz.func323, Tryz.ntmps323
  go_wp2
  go_ret2
  exact ⟨rfl, rfl⟩
set_option maxHeartbeats 1000000 in
theorem tickAdd_over (x y : Int) (w : World) (hx : 0 ≤ x ∧ x < two64) (hy : 0 ≤ y ∧ y < two64) (h : two64 ≤ x + y) : Calls Tryz.prog 323 #[.int .u64 x, .int .u64 y] w fun e w' => e = .returned (tup2 (.int .u64 0) (.int .i64 10)) ∧ w = w' := by
  obtain ⟨s, hs⟩ : ∃ s, x + y - two64 = s := ⟨_, rfl⟩
  have ha : ∀ W, (callFunc 387 #[.int .u64 x, .int .u64 y, .int .u64 0]).run Tryz.prog W = .ok (.value (.tuple #[.int .u64 s, .int .u64 1])) W := fun W => by
    unfold two64 at h hx hy hs
    have e1 : (x + y) % 18446744073709551616 = s := by omega
    have e2 : (x + y) / 18446744073709551616 = 1 := by omega
    rw [call_add64 x y W hx.1 hy.1, e1, e2]
  clear h hs hx hy
  go_enter Tryz.func323, Tryz.ntmps323
  go_wp2
  go_ret2
  exact ⟨rfl, rfl⟩
end Go.Proofs.YtocepiogpeafoaaGreatDoor
/- (*timer.Timers).begin of a sleeper that is due some time: the walk. -/
namespace Go.Proofs.YtocepiogpeafoaaGreatDoor
open Go.RowKit
set_option linter.unusedVariables false
def BeginPost (ti h pm ids own gsm : Nat) (when : Int) (w : World) (e : Ending) (w' : World) : Prop := e = .returned (tup2 (.int .i64 1) (.int .i64 0)) ∧ TimOne 1 ti h pm ids own gsm when w' ∧ Fr (fun k => k = ti ∨ k = h ∨ k = pm ∨ k = ids ∨ k = own ∨ k = gsm) w w'
set_option maxRecDepth 20000 in
set_option maxHeartbeats 40000000 in
theorem tbegin_ok {w : World} {ti h pm ids own gsm : Nat} {now ticks : Int} (ht : TimNew ti h pm ids own gsm w) (h1 : 0 ≤ now) (h2 : 0 ≤ ticks) (h3 : now + ticks < two64) :
    Calls Tryz.prog 253 #[.pointer (some ⟨ti, 0, none⟩), .agg #[.int .i64 0, .int .i64 1, .int .i64 0, .int .i64 1, .int .i64 0, .int .u64 0, .bool false, .int .u64 0], .int .u64 now, .int .u64 ticks] w (BeginPost ti h pm ids own gsm (now + ticks) w) := by
  have HT := hid ht
  have htl := heap_lt ht.obj
  have hil := heap_lt ht.ids
  have t1 : w.cell? ⟨ti, 1, none⟩ = some (.int .i64 0) := cell_of_row w ti 1 _ _ _ ht.obj
  have t4 : w.cell? ⟨ti, 4, none⟩ = some (.map (some ids)) := cell_of_row w ti 4 _ _ _ ht.obj
  have f1 := frozen_of_row w ti 1 _ _ ht.obj
  have TA := hid (fun u => tickAdd_ok now ticks u h1 h2 h3)
  have hl : (Builtin.len_ #[211] 3 #[.map (some ids)]).run Tryz.prog (w.alloc (.cells #[.int .i64 0, .int .i64 1, .int .i64 0, .int .i64 1, .int .i64 0, .int .u64 0, .bool false, .int .u64 0] 133)) = .ok (.int .i64 0) (w.alloc (.cells #[.int .i64 0, .int .i64 1, .int .i64 0, .int .i64 1, .int .i64 0, .int .u64 0, .bool false, .int .u64 0] 133)) := by
    have hb := (heap_alloc_old w (.cells #[.int .i64 0, .int .i64 1, .int .i64 0, .int .i64 1, .int .i64 0, .int .u64 0, .bool false, .int .u64 0] 133) hil).trans ht.ids
    have hg := run_getObj_map (P := Tryz.prog) _ ids _ _ hb
    simp [Builtin.len_, run_underlying Tryz.underlying211, hg]
    rfl
  clear ht h1 h2 h3
  go_enter Tryz.func253, Tryz.ntmps253
  go_wp2_with fail
  refine (TA.out _).mono ?_
  rintro e w1 ⟨rfl, rfl⟩
  simp only [tup2]
  go_wp2_with fail
  generalize hW : World.alloc _ _ = W
  have FW := hid (show Fr (fun k => k = ti) w W from by
    rw [← hW]
    refine Fr.alloc ?_ _
    refine Fr.setCell (p := ⟨ti, 1, none⟩) ?_ _ (.inl rfl)
    exact Fr.refl)
  have OW := hid (show W.heap[ti]? = some (.cells #[.bool true, .int .i64 1, .pointer (some ⟨h, 0, none⟩), .slice none 0 0, .map (some ids), .map (some own), .map (some gsm)] 215 (0, 0)) from by
    rw [← hW]; exact (heap_alloc_old _ _ (by simpa using htl)).trans (heap_setCell_same w ti 1 _ _ _ HT.out.obj))
  have BW := hid (show W.heap[w.heap.size]? = some (.cells (tmC (now + ticks)) 133 (0, 0)) from by
    rw [← hW]
    have h := heap_alloc_new (w.setCell ⟨ti, 1, none⟩ (.int .i64 1)) (.cells (tmC (now + ticks)) 133)
    rw [show (w.setCell ⟨ti, 1, none⟩ (.int .i64 1)).heap.size = w.heap.size by simp] at h
    exact h)
  clear hW
  have nh : h ≠ ti := Ne.symm HT.out.ne.1
  have np : pm ≠ ti := map_ne HT.out.heap.2 HT.out.obj
  have n1 : ids ≠ ti := map_ne HT.out.ids HT.out.obj
  have n2 : own ≠ ti := map_ne HT.out.own HT.out.obj
  have n3 : gsm ≠ ti := map_ne HT.out.gs HT.out.obj
  have TL := hid (show TimL 1 ti h pm ids own gsm W from ⟨OW.out, ⟨FW.out.heapAt HT.out.heap.1 nh, FW.out.heapAt HT.out.heap.2 np⟩, FW.out.heapAt HT.out.ids n1, FW.out.heapAt HT.out.own n2, FW.out.heapAt HT.out.gs n3, HT.out.ne⟩)
  have hbl := heap_lt BW.out
  have hall := hid (And.intro (heap_lt HT.out.heap.1) (And.intro (heap_lt HT.out.heap.2) (And.intro (heap_lt HT.out.own) (And.intro (heap_lt HT.out.gs) hil))))
  refine (arm_ok TL.out).mono ?_
  rintro e w2 ⟨rfl, h2, hf2⟩
  have Z := hid h2
  have F2 := hid hf2
  have c0 : w2.cell? ⟨w.heap.size, 0, none⟩ = some (.int .i64 1) := cell_of_row w2 _ 0 _ _ _ (hf2.heapAt BW.out (by have := hall.out; omega))
  clear h2 hf2 t1 t4 f1
  go_wp2
  go_ret2
  exact ⟨rfl, Z.out, (FW.out.mono (T := fun k => k = ti ∨ k = h ∨ k = pm ∨ k = ids ∨ k = own ∨ k = gsm) (fun k hk => .inl hk)).trans (F2.out.mono (T := fun k => k = ti ∨ k = h ∨ k = pm ∨ k = ids ∨ k = own ∨ k = gsm) (fun k hk => .inr hk))⟩
end Go.Proofs.YtocepiogpeafoaaGreatDoor
/- Timers.Sleeps where nobody does: the walk. -/
namespace Go.Proofs.YtocepiogpeafoaaGreatDoor
open Go.RowKit
set_option linter.unusedVariables false
set_option maxHeartbeats 2000000 in
theorem sleeps_no {w : World} {g c : Nat} {x y : Int} (h0 : w.cell? ⟨g, 0, none⟩ = some (.bool true)) (h6 : w.cell? ⟨g, 6, none⟩ = some (.map (some c))) (hc : w.heap[c]? = some (.map #[] 0)) :
    Calls Tryz.prog 252 #[.pointer (some ⟨g, 0, none⟩), .agg #[.int .i64 x, .int .i64 y]] w (Ret (.bool false) E0 w) := by
  have FW := hid ((Fr.refl (S := E0) (w := w)).alloc (.cells #[.int .i64 x, .int .i64 y] 72))
  have c0 := FW.out.cell h0 (fun x => x)
  have c6 := FW.out.cell h6 (fun x => x)
  have hg := World.block_lt_of_cell? w _ h0
  have hl := run_lookup_gid0 (w := (w.alloc (.cells #[.int .i64 x, .int .i64 y] 72)).drew) (x := x) (y := y) (FW.out.heapAt hc (fun x => x))
  clear hc
  go_enter Tryz.func252, Tryz.ntmps252
  go_wp2_with (go_at_call 92; refine (timIs_ok c0).mono ?_; rintro e w1 ⟨rfl, rfl⟩)
  go_region
  go_wp2
  go_ret
  exact ⟨rfl, by repeat (with_reducible first | exact Fr.refl | refine Fr.alloc ?_ _ | refine Fr.drewN ?_ _ | refine Fr.drew ?_)⟩
end Go.Proofs.YtocepiogpeafoaaGreatDoor
