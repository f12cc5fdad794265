/- Words and contracts of calls that the law needs (Tnext): merged by wip/gen/zmerge.py. No condition but those that each theorem names. -/
import Derived.LoopN
import Derived.Laws.IdiomRangeMap
import Derived.Test.YtocepiogpeafoaaGreatDoorH29
import Derived.Test.YtocepiogpeafoaaGreatDoorH31
import Derived.Test.YtocepiogpeafoaaGreatDoorH35
set_option linter.unusedVariables false
/- (*timer.Timers).Next where nobody is due; (*local.Domain).Dead of the one goroutine that sleeps: the walks. -/
namespace Go.Proofs.YtocepiogpeafoaaGreatDoor
open Go.RowKit
set_option linter.unusedVariables false
set_option maxRecDepth 20000 in
set_option maxHeartbeats 40000000 in
theorem tnext_none {w : World} {ti h c : Nat} {A : Option Addr} (h0 : w.cell? ⟨ti, 0, none⟩ = some (.bool true)) (h2 : w.cell? ⟨ti, 2, none⟩ = some (.pointer (some ⟨h, 0, none⟩))) (hh : w.cell? ⟨h, 0, none⟩ = some (.slice A 0 c)) :
    Calls Tryz.prog 30 #[.pointer (some ⟨ti, 0, none⟩)] w (Ret (tup2 (.int .u64 0) (.bool false)) E0 w) := by
  have TOP := hid (htop_none hh)
  clear hh
  go_enter Tryz.func30, Tryz.ntmps30
  go_wp2_with fail
  refine (timIs_ok h0).mono ?_
  rintro e w1 ⟨rfl, rfl⟩
  go_wp2_with fail
  refine TOP.out.mono ?_
  rintro e w2 ⟨rfl, hf⟩
  have F := hid hf
  clear hf h0 h2
  unfold tmZ
  go_wp2
  go_ret2
  exact ⟨rfl, F.out.alloc _⟩
set_option maxRecDepth 20000 in
set_option maxHeartbeats 40000000 in
theorem tnext_one {w : World} {ti h a pm cp : Nat} {r : Array Value} {when : Int} (h0 : w.cell? ⟨ti, 0, none⟩ = some (.bool true)) (h2 : w.cell? ⟨ti, 2, none⟩ = some (.pointer (some ⟨h, 0, none⟩))) (ho : HeapOne h a pm cp when r w) :
    Calls Tryz.prog 30 #[.pointer (some ⟨ti, 0, none⟩)] w (Ret (tup2 (.int .u64 when) (.bool true)) E0 w) := by
  have TOP := hid (htop_ok ho)
  clear ho
  go_enter Tryz.func30, Tryz.ntmps30
  go_wp2_with fail
  refine (timIs_ok h0).mono ?_
  rintro e w1 ⟨rfl, rfl⟩
  go_wp2_with fail
  refine TOP.out.mono ?_
  rintro e w2 ⟨rfl, hf⟩
  have F := hid hf
  clear hf h0 h2
  unfold tmC
  go_wp2
  go_ret2
  exact ⟨rfl, F.out.alloc _⟩
theorem alloc_keepT (w : World) (o : Obj) {k : Nat} (h : k < w.heap.size) : (w.alloc o).heap[k]? = w.heap[k]? := by
  apply heap_alloc_old
  exact h
/-- over a map of the one entry: the first step tells it -/
theorem next_one (w : World) (ty : TypeId) (m : Nat) (k v : Value) (hb : w.heap[m]? = some (.map #[⟨k, v, 0⟩] 1)) :
    (Instr.next (.pointer (some ⟨w.heap.size, 0, none⟩)) false ty).run Tryz.prog (w.alloc (.mapIter (some m) 1 #[] 1)) = .ok (.tuple #[.bool true, k, v]) (w.alloc (.mapIter (some m) 1 #[0] 1)) := by
  have hb' : (w.alloc (.mapIter (some m) 1 #[] 1)).heap[m]? = some (.map #[⟨k, v, 0⟩] 1) := (alloc_keepT w _ (heap_lt hb)).trans hb
  have hp : ∀ (h : Array Obj) (x y : Obj), (h.push x).setIfInBounds h.size y = h.push y := by
    intro h x y
    apply Array.toList_inj.1
    simp
  have hset : (setObj w.heap.size (.mapIter (some m) 1 #[0] 1)).run Tryz.prog (w.alloc (.mapIter (some m) 1 #[] 1)) = .ok () (w.alloc (.mapIter (some m) 1 #[0] 1)) := by
    simp only [setObj, Sem.run]
    rw [heap_alloc_new]
    show Result.ok () ({ w.alloc (.mapIter (some m) 1 #[] 1) with heap := (w.heap.push (.mapIter (some m) 1 #[] 1)).setIfInBounds w.heap.size (.mapIter (some m) 1 #[0] 1) } : World) = _
    rw [hp]
    rfl
  simp only [Instr.next, getObj, Sem.run_bind, Sem.run, heap_alloc_new, hb', Result.andThen]
  simp [choose, Sem.run, Question.forced, hset]
theorem next_end (w : World) (ty : TypeId) (m : Nat) (k v : Value) (hb : w.heap[m]? = some (.map #[⟨k, v, 0⟩] 1)) :
    (Instr.next (.pointer (some ⟨w.heap.size, 0, none⟩)) false ty).run Tryz.prog (w.alloc (.mapIter (some m) 1 #[0] 1)) = .ok (.tuple #[.bool false]) (w.alloc (.mapIter (some m) 1 #[0] 1)) := by
  rcases run_next_map (P := Tryz.prog) w ty m 1 1 #[0] #[⟨k, v, 0⟩] 1 hb (by simp) (by omega) with ⟨_, h⟩ | ⟨e, he, _⟩
  · exact h
  · simp [leftOf] at he
set_option maxRecDepth 20000 in
set_option maxHeartbeats 40000000 in
theorem dead_ok {w : World} {g m x ti : Nat} {v : Value} {due : Bool} (g10 : w.cell? ⟨g, 10, none⟩ = some (.map (some m))) (hm : w.heap[m]? = some (.map #[⟨.int .i64 0, .pointer (some ⟨x, 0, none⟩), 0⟩] 1)) (hx : w.cell? ⟨x, 2, none⟩ = some (.int .i64 4)) (g15 : w.cell? ⟨g, 15, none⟩ = some (.pointer (some ⟨ti, 0, none⟩)))
    (NX : ∀ u, Fr E0 w u → Calls Tryz.prog 30 #[.pointer (some ⟨ti, 0, none⟩)] u (Ret (tup2 v (.bool due)) E0 u)) :
    Calls Tryz.prog 11 #[.pointer (some ⟨g, 0, none⟩)] w (Ret (.bool (!due)) E0 w) := by
  have N := hid NX
  have hrg := run_range_map (P := Tryz.prog) w 91 3 101 m _ 1 Tryz.underlying91 hm
  have hn1 := fun ty => next_one w ty m _ _ hm
  have hn2 := fun ty => next_end w ty m _ _ hm
  have hen := run_entry_map (P := Tryz.prog) w m 1 #[] #[⟨.int .i64 0, .pointer (some ⟨x, 0, none⟩), 0⟩] 1 ⟨.int .i64 0, .pointer (some ⟨x, 0, none⟩), 0⟩ hm (by simp) (by simp)
  simp only [Array.push_empty] at hen
  have hen' : (Instr.entry (.pointer (some ⟨w.heap.size, 0, none⟩))).run Tryz.prog (w.alloc (.mapIter (some m) 1 #[0] 1)) = .ok (.tuple #[.int .i64 0, .pointer (some ⟨x, 0, none⟩)]) (w.alloc (.mapIter (some m) 1 #[0] 1)) := hen
  have F0 := hid ((Fr.refl (S := E0) (w := w)).alloc (.mapIter (some m) 1 #[0] 1))
  have hxl := World.block_lt_of_cell? w _ hx
  have hgl := World.block_lt_of_cell? w _ g10
  clear NX hm hen
  go_enter Tryz.func11, Tryz.ntmps11
  go_wp2_with fail
  refine wp_loop_rounds 2 ?_
  rw [rounds_succ]
  go_wp2_with fail
  rw [rounds_succ]
  go_wp2_with fail
  refine (N.out _ F0.out).mono ?_
  rintro e w1 ⟨rfl, hf⟩
  have F := hid (F0.out.trans hf)
  clear hf
  simp only [tup2]
  go_wp2
  go_ret
  exact ⟨rfl, F.out⟩
end Go.Proofs.YtocepiogpeafoaaGreatDoor
