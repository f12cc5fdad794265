/- Words and contracts of calls that the law needs (Dsleep, TbeginN, TsleepN, DsleepN): merged by wip/gen/zmerge.py. No condition but those that each theorem names. -/
import Derived.Test.YtocepiogpeafoaaGreatDoorH32
import Derived.Test.YtocepiogpeafoaaGreatDoorH35
import Derived.Test.YtocepiogpeafoaaGreatDoorH36
set_option linter.unusedVariables false
/- (*local.Domain).sleep of a sleeper that is due some time: the walk. -/
namespace Go.Proofs.YtocepiogpeafoaaGreatDoor
open Go.RowKit
set_option linter.unusedVariables false
def DSleepPost (o x ti h pm ids own gsm : Nat) (row xr : Array Value) (when : Int) (w : World) (e : Ending) (w' : World) : Prop := ∃ A c, e = .returned (.tuple #[]) ∧ w'.heap[o]? = some (.cells ((row.setIfInBounds 18 (.slice (some ⟨A, 0, none⟩) 1 c)).setIfInBounds 16 (.bool false)) 120 (0, 0)) ∧
  w'.heap[x]? = some (.cells (xr.setIfInBounds 2 (.int .i64 4)) 110 (0, 0)) ∧ TimOne 1 ti h pm ids own gsm when w' ∧ Fr (fun k => k = o ∨ k = x ∨ k = ti ∨ k = h ∨ k = pm ∨ k = ids ∨ k = own ∨ k = gsm) w w'
theorem kpS {w' : World} {g o x ti : Nat} {row xr : Array Value} {r now : Int} (g15 : w'.cell? ⟨g, 15, none⟩ = some (.pointer (some ⟨ti, 0, none⟩))) (ho : w'.heap[o]? = some (.cells row 120 (0, 0))) (h0 : row[0]? = some (.pointer (some ⟨x, 0, none⟩))) (h7 : row[7]? = some (.int .i64 r)) (h14 : row[14]? = some (.int .u64 now))
    (hx : w'.heap[x]? = some (.cells xr 110 (0, 0))) (hx0 : xr[0]? = some (.int .i64 0)) (hx1 : xr[1]? = some (.int .i64 1)) :
    w'.cell? ⟨g, 15, none⟩ = some (.pointer (some ⟨ti, 0, none⟩)) ∧ w'.cell? ⟨o, 0, none⟩ = some (.pointer (some ⟨x, 0, none⟩)) ∧ w'.cell? ⟨o, 7, none⟩ = some (.int .i64 r) ∧ w'.cell? ⟨o, 14, none⟩ = some (.int .u64 now) ∧ w'.cell? ⟨x, 0, none⟩ = some (.int .i64 0) ∧ w'.cell? ⟨x, 1, none⟩ = some (.int .i64 1) :=
  ⟨g15, by rw [cell_of_row w' o 0 _ _ _ ho]; exact h0, by rw [cell_of_row w' o 7 _ _ _ ho]; exact h7, by rw [cell_of_row w' o 14 _ _ _ ho]; exact h14, by rw [cell_of_row w' x 0 _ _ _ hx]; exact hx0, by rw [cell_of_row w' x 1 _ _ _ hx]; exact hx1⟩
set_option maxRecDepth 20000 in
set_option maxHeartbeats 40000000 in
theorem dsleep_ok {w : World} {g o x ti h pm ids own gsm : Nat} {row xr dr : Array Value} {tk pr r now : Int} (hg : w.heap[g]? = some (.cells dr 98 (0, 0))) (hd : dr[15]? = some (.pointer (some ⟨ti, 0, none⟩)))
    (ho : w.heap[o]? = some (.cells row 120 (0, 0))) (hs : row.size = 19) (h0 : row[0]? = some (.pointer (some ⟨x, 0, none⟩))) (h1 : row[1]? = some (.int .i64 27)) (h7 : row[7]? = some (.int .i64 r)) (h12 : row[12]? = some (.int .u64 tk)) (h13 : row[13]? = some (.int .i64 pr)) (h14 : row[14]? = some (.int .u64 now)) (h18 : row[18]? = some (.slice none 0 0))
    (hx : w.heap[x]? = some (.cells xr 110 (0, 0))) (hx0 : xr[0]? = some (.int .i64 0)) (hx1 : xr[1]? = some (.int .i64 1)) (hx2 : 2 < xr.size) (ht : TimNew ti h pm ids own gsm w) (hr : 1 ≤ r) (hr2 : r ≤ 32767) (hn : 0 ≤ now) (hnr : now + r < two64) :
    Calls Tryz.prog 69 #[.pointer (some ⟨g, 0, none⟩), .pointer (some ⟨o, 0, none⟩)] w (DSleepPost o x ti h pm ids own gsm row xr (now + r) w) := by
  have TS := hid (tsleep_ok (now := now) (ticks := r) (w := w.drew) (ht.fr (Fr.refl.drew (S := E0)) ⟨ne0 _, ne0 _, ne0 _, ne0 _, ne0 _, ne0 _⟩) hn (by omega) hnr)
  have no : ∀ k, (k = ti ∨ k = h ∨ k = pm ∨ k = ids ∨ k = own ∨ k = gsm) → k ≠ o ∧ k ≠ x ∧ k ≠ g := by
    intro k hk
    rcases hk with rfl | rfl | rfl | rfl | rfl | rfl
    · exact ⟨cells_ne ht.obj ho (by decide), cells_ne ht.obj hx (by decide), cells_ne ht.obj hg (by decide)⟩
    · exact ⟨cells_ne ht.heap.1 ho (by decide), cells_ne ht.heap.1 hx (by decide), cells_ne ht.heap.1 hg (by decide)⟩
    · exact ⟨map_ne ht.heap.2 ho, map_ne ht.heap.2 hx, map_ne ht.heap.2 hg⟩
    · exact ⟨map_ne ht.ids ho, map_ne ht.ids hx, map_ne ht.ids hg⟩
    · exact ⟨map_ne ht.own ho, map_ne ht.own hx, map_ne ht.own hg⟩
    · exact ⟨map_ne ht.gs ho, map_ne ht.gs hx, map_ne ht.gs hg⟩
  have NO := hid no
  have g15 : w.cell? ⟨g, 15, none⟩ = some (.pointer (some ⟨ti, 0, none⟩)) := by rw [cell_of_row w g 15 _ _ _ hg]; exact hd
  have K0 := hid (kpS g15 ho h0 h7 h14 hx hx0 hx1)
  have K1 : Hid (∀ w1, Fr (fun k => k = ti ∨ k = h ∨ k = pm ∨ k = ids ∨ k = own ∨ k = gsm) w.drew w1 → _) := hid (fun w1 hf => kpS (w' := w1) (hf.cell (w := w.drew) g15 (fun e => (no _ e).2.2 rfl)) (hf.heapAt (w := w.drew) ho (fun e => (no _ e).1 rfl)) h0 h7 h14 (hf.heapAt (w := w.drew) hx (fun e => (no _ e).2.1 rfl)) hx0 hx1)
  have WT : Hid (∀ w1, Fr (fun k => k = ti ∨ k = h ∨ k = pm ∨ k = ids ∨ k = own ∨ k = gsm) w.drew w1 → _) := hid (fun w1 hf => wait_ok (g := g) (hf.heapAt (w := w.drew) ho (fun e => (no _ e).1 rfl)) hs h0 h1 h7 h12 h13 h18 (hf.heapAt (w := w.drew) hx (fun e => (no _ e).2.1 rfl)) hx0 hx1 hx2)
  have OX : Hid (∀ w1, Fr (fun k => k = ti ∨ k = h ∨ k = pm ∨ k = ids ∨ k = own ∨ k = gsm) w.drew w1 → w1.heap[o]? = some (.cells row 120 (0, 0)) ∧ w1.heap[x]? = some (.cells xr 110 (0, 0))) := hid (fun w1 hf => ⟨hf.heapAt (w := w.drew) ho (fun e => (no _ e).1 rfl), hf.heapAt (w := w.drew) hx (fun e => (no _ e).2.1 rfl)⟩)
  have c7 : w.cell? ⟨o, 7, none⟩ = some (.int .i64 r) := by rw [cell_of_row w o 7 _ _ _ ho]; exact h7
  have p1 : ¬ r < 1 := by omega
  have p2 : IntKind.u64.wrap r = r := by unfold IntKind.wrap; simp [IntKind.bits, IntKind.signed]; omega
  clear ht no g15 hg hd ho h0 h1 h7 h12 h13 h14 h18 hx hx0 hx1 hn hnr hr hr2
  go_enter Tryz.func69, Tryz.ntmps69
  go_upto_region 1 with fail
  clear c7
  go_region_held3 (fun w' => w'.cell? ⟨g, 15, none⟩ = some (.pointer (some ⟨ti, 0, none⟩)) ∧ w'.cell? ⟨o, 0, none⟩ = some (.pointer (some ⟨x, 0, none⟩)) ∧ w'.cell? ⟨o, 7, none⟩ = some (.int .i64 r) ∧ w'.cell? ⟨o, 14, none⟩ = some (.int .u64 now) ∧ w'.cell? ⟨x, 0, none⟩ = some (.int .i64 0) ∧ w'.cell? ⟨x, 1, none⟩ = some (.int .i64 1))
    (first | exact K0.out | exact K1.out _ F1.out)
    (first
      | (go_at_call 160; refine TS.out.mono ?_; rintro e w1 ⟨rfl, hZ, hF⟩; have F1 := hid hF; have Z1 := hid hZ; clear hZ hF))
  all_goals
    clear ‹_ ∧ _›
    go_wp2_with fail
    refine (WT.out _ F1.out).mono ?_
    rintro e w2 ⟨A, cp, rfl, hO, hX, hF⟩
    have O2 := hid hO
    have X2 := hid hX
    have F2 := hid hF
    clear hO hX hF
    go_wp2
    have no := NO.out
    have z := Z1.out
    refine bodyPost_end (results_none rfl _ _ _) rfl ⟨A, cp, rfl, O2.out, X2.out, ⟨F2.out.heapAt z.obj (by have := no ti (by omega); omega), ?_, F2.out.heapAt z.ids (by have := no ids (by omega); omega), F2.out.heapAt z.own (by have := no own (by omega); omega), F2.out.heapAt z.gs (by have := no gsm (by omega); omega)⟩, ?_⟩
    · obtain ⟨a', c', r', hh⟩ := z.heap
      have ox := OX.out _ F1.out
      have n1 := cells_ne hh.row ox.1 (by decide)
      have n2 := cells_ne hh.row ox.2 (by decide)
      exact ⟨a', c', r', F2.out.heapAt hh.obj (by have := no h (by omega); omega), F2.out.heapAt hh.row (by omega), F2.out.heapAt hh.map (by have := no pm (by omega); omega)⟩
    · exact (Fr.refl.drew.trans (F1.out.mono (T := fun k => k = o ∨ k = x ∨ k = ti ∨ k = h ∨ k = pm ∨ k = ids ∨ k = own ∨ k = gsm) (fun k hk => by omega))).trans (F2.out.mono (fun k hk => by omega))
end Go.Proofs.YtocepiogpeafoaaGreatDoor
/- (*timer.Timers).begin of a sleeper that is never due: the walk. -/
namespace Go.Proofs.YtocepiogpeafoaaGreatDoor
open Go.RowKit
set_option linter.unusedVariables false
def BeginNPost (ti h pm ids own gsm : Nat) (w : World) (e : Ending) (w' : World) : Prop := e = .returned (tup2 (.int .i64 1) (.int .i64 0)) ∧ TimNev ti h pm w' ∧ Fr (fun k => k = ti ∨ k = ids ∨ k = own ∨ k = gsm) w w'
set_option maxRecDepth 20000 in
set_option maxHeartbeats 40000000 in
theorem tbeginN_ok {w : World} {ti h pm ids own gsm : Nat} {now ticks : Int} (ht : TimNew ti h pm ids own gsm w) (h1 : 0 ≤ now ∧ now < two64) (h2 : 0 ≤ ticks ∧ ticks < two64) (h3 : two64 ≤ now + ticks) :
    Calls Tryz.prog 253 #[.pointer (some ⟨ti, 0, none⟩), .agg #[.int .i64 0, .int .i64 1, .int .i64 0, .int .i64 1, .int .i64 0, .int .u64 0, .bool false, .int .u64 0], .int .u64 now, .int .u64 ticks] w (BeginNPost ti h pm ids own gsm w) := by
  have HT := hid ht
  have htl := heap_lt ht.obj
  have hil := heap_lt ht.ids
  have t1 : w.cell? ⟨ti, 1, none⟩ = some (.int .i64 0) := cell_of_row w ti 1 _ _ _ ht.obj
  have t4 : w.cell? ⟨ti, 4, none⟩ = some (.map (some ids)) := cell_of_row w ti 4 _ _ _ ht.obj
  have f1 := frozen_of_row w ti 1 _ _ ht.obj
  have TA := hid (fun u => tickAdd_over now ticks u h1 h2 h3)
  have hl : (Builtin.len_ #[211] 3 #[.map (some ids)]).run Tryz.prog (w.alloc (.cells #[.int .i64 0, .int .i64 1, .int .i64 0, .int .i64 1, .int .i64 0, .int .u64 0, .bool false, .int .u64 0] 133)) = .ok (.int .i64 0) (w.alloc (.cells #[.int .i64 0, .int .i64 1, .int .i64 0, .int .i64 1, .int .i64 0, .int .u64 0, .bool false, .int .u64 0] 133)) := by
    have hb := (heap_alloc_old w (.cells #[.int .i64 0, .int .i64 1, .int .i64 0, .int .i64 1, .int .i64 0, .int .u64 0, .bool false, .int .u64 0] 133) hil).trans ht.ids
    have hg := run_getObj_map (P := Tryz.prog) _ ids _ _ hb
    simp [Builtin.len_, run_underlying Tryz.underlying211, hg]
    rfl
  clear ht h1 h2 h3
  go_enter Tryz.func253, Tryz.ntmps253
  go_wp2_with fail
  refine (TA.out _).mono ?_
  rintro e w1 ⟨rfl, rfl⟩
  simp only [tup2]
  go_wp2_with fail
  generalize hW : World.alloc _ _ = W
  have FW := hid (show Fr (fun k => k = ti) w W from by
    rw [← hW]
    refine Fr.alloc ?_ _
    refine Fr.setCell (p := ⟨ti, 1, none⟩) ?_ _ (.inl rfl)
    exact Fr.refl)
  have OW := hid (show W.heap[ti]? = some (.cells #[.bool true, .int .i64 1, .pointer (some ⟨h, 0, none⟩), .slice none 0 0, .map (some ids), .map (some own), .map (some gsm)] 215 (0, 0)) from by
    rw [← hW]; exact (heap_alloc_old _ _ (by simpa using htl)).trans (heap_setCell_same w ti 1 _ _ _ HT.out.obj))
  have BW := hid (show W.heap[w.heap.size]? = some (.cells (tmN) 133 (0, 0)) from by
    rw [← hW]
    have h := heap_alloc_new (w.setCell ⟨ti, 1, none⟩ (.int .i64 1)) (.cells (tmN) 133)
    rw [show (w.setCell ⟨ti, 1, none⟩ (.int .i64 1)).heap.size = w.heap.size by simp] at h
    exact h)
  clear hW
  have nh : h ≠ ti := Ne.symm HT.out.ne.1
  have np : pm ≠ ti := map_ne HT.out.heap.2 HT.out.obj
  have n1 : ids ≠ ti := map_ne HT.out.ids HT.out.obj
  have n2 : own ≠ ti := map_ne HT.out.own HT.out.obj
  have n3 : gsm ≠ ti := map_ne HT.out.gs HT.out.obj
  have TL := hid (show TimL 1 ti h pm ids own gsm W from ⟨OW.out, ⟨FW.out.heapAt HT.out.heap.1 nh, FW.out.heapAt HT.out.heap.2 np⟩, FW.out.heapAt HT.out.ids n1, FW.out.heapAt HT.out.own n2, FW.out.heapAt HT.out.gs n3, HT.out.ne⟩)
  have hbl := heap_lt BW.out
  have hall := hid (And.intro (heap_lt HT.out.heap.1) (And.intro (heap_lt HT.out.heap.2) (And.intro (heap_lt HT.out.own) (And.intro (heap_lt HT.out.gs) hil))))
  refine (armN_ok TL.out).mono ?_
  rintro e w2 ⟨rfl, h2, hf2⟩
  have Z := hid h2
  have F2 := hid hf2
  have c0 : w2.cell? ⟨w.heap.size, 0, none⟩ = some (.int .i64 1) := cell_of_row w2 _ 0 _ _ _ (hf2.heapAt BW.out (by have := hall.out; omega))
  clear h2 hf2 t1 t4 f1
  go_wp2
  go_ret2
  exact ⟨rfl, Z.out, (FW.out.mono (T := fun k => k = ti ∨ k = ids ∨ k = own ∨ k = gsm) (fun k hk => .inl hk)).trans (F2.out.mono (T := fun k => k = ti ∨ k = ids ∨ k = own ∨ k = gsm) (fun k hk => hk))⟩
end Go.Proofs.YtocepiogpeafoaaGreatDoor
/- (*timer.Timers).Sleep of a sleeper that is never due: the walk. -/
namespace Go.Proofs.YtocepiogpeafoaaGreatDoor
open Go.RowKit
set_option linter.unusedVariables false
def TSleepNPost (ti h pm ids own gsm : Nat) (w : World) (e : Ending) (w' : World) : Prop := e = .returned (.int .i64 0) ∧ TimNev ti h pm w' ∧ Fr (fun k => k = ti ∨ k = ids ∨ k = own ∨ k = gsm) w w'
set_option maxRecDepth 20000 in
set_option maxHeartbeats 40000000 in
theorem tsleepN_ok {w : World} {ti h pm ids own gsm : Nat} {now ticks : Int} (ht : TimNew ti h pm ids own gsm w) (h1 : 0 ≤ now ∧ now < two64) (h2 : 0 ≤ ticks ∧ ticks < two64) (h3 : two64 ≤ now + ticks) :
    Calls Tryz.prog 160 #[.pointer (some ⟨ti, 0, none⟩), .agg #[.int .i64 0, .int .i64 1], .int .u64 now, .int .u64 ticks] w (TSleepNPost ti h pm ids own gsm w) := by
  have HT := hid (ht.fr (Fr.refl.alloc (S := E0) (.cells #[.int .i64 0, .int .i64 1] 72)) ⟨ne0 _, ne0 _, ne0 _, ne0 _, ne0 _, ne0 _⟩)
  have F0 := hid ((Fr.refl (S := E0) (w := w)).alloc (.cells #[.int .i64 0, .int .i64 1] 72))
  have HB := hid (heap_alloc_new w (.cells #[.int .i64 0, .int .i64 1] 72))
  have TB := hid (fun u (hu : TimNew ti h pm ids own gsm u) => tbeginN_ok hu h1 h2 h3)
  have NE := hid (And.intro ht.ne (And.intro (heap_lt ht.obj) (And.intro (heap_lt ht.heap.1) (And.intro (heap_lt ht.heap.2) (And.intro (heap_lt ht.ids) (And.intro (heap_lt ht.own) (heap_lt ht.gs)))))))
  clear ht h1 h2 h3
  go_enter Tryz.func160, Tryz.ntmps160
  go_wp2_with fail
  refine (timIs_ok (cell_of_row _ ti 0 _ _ _ HT.out.obj)).mono ?_
  rintro e w1 ⟨rfl, rfl⟩
  go_wp2_with fail
  refine (sleeps_no (c := gsm) (cell_of_row _ ti 0 _ _ _ HT.out.obj) (cell_of_row _ ti 6 _ _ _ HT.out.obj) HT.out.gs).mono ?_
  rintro e w2 ⟨rfl, hf2⟩
  have F2 := hid (F0.out.trans hf2)
  have T2 := hid (HT.out.fr hf2 ⟨ne0 _, ne0 _, ne0 _, ne0 _, ne0 _, ne0 _⟩)
  have b0 : w2.cell? ⟨w.heap.size, 0, none⟩ = some (.int .i64 0) := cell_of_row w2 _ 0 _ _ _ (hf2.heapAt HB.out (ne0 _))
  have b1 : w2.cell? ⟨w.heap.size, 1, none⟩ = some (.int .i64 1) := cell_of_row w2 _ 1 _ _ _ (hf2.heapAt HB.out (ne0 _))
  clear hf2
  go_wp2_with fail
  refine (TB.out _ T2.out).mono ?_
  rintro e w3 ⟨rfl, h3, hf3⟩
  have Z := hid h3
  have F3 := hid hf3
  clear h3 hf3 b0 b1
  simp only [tup2]
  go_wp2
  go_ret
  exact ⟨rfl, Z.out, F2.out.e0.trans F3.out⟩
end Go.Proofs.YtocepiogpeafoaaGreatDoor
/- (*local.Domain).sleep of a sleeper that is never due: the walk. -/
namespace Go.Proofs.YtocepiogpeafoaaGreatDoor
open Go.RowKit
set_option linter.unusedVariables false
def DSleepNPost (o x ti h pm ids own gsm : Nat) (row xr : Array Value) (w : World) (e : Ending) (w' : World) : Prop := ∃ A c, e = .returned (.tuple #[]) ∧ w'.heap[o]? = some (.cells ((row.setIfInBounds 18 (.slice (some ⟨A, 0, none⟩) 1 c)).setIfInBounds 16 (.bool false)) 120 (0, 0)) ∧
  w'.heap[x]? = some (.cells (xr.setIfInBounds 2 (.int .i64 4)) 110 (0, 0)) ∧ TimNev ti h pm w' ∧ Fr (fun k => k = o ∨ k = x ∨ k = ti ∨ k = ids ∨ k = own ∨ k = gsm) w w'
set_option maxRecDepth 20000 in
set_option maxHeartbeats 40000000 in
theorem dsleepN_ok {w : World} {g o x ti h pm ids own gsm : Nat} {row xr dr : Array Value} {tk pr r now : Int} (hg : w.heap[g]? = some (.cells dr 98 (0, 0))) (hd : dr[15]? = some (.pointer (some ⟨ti, 0, none⟩)))
    (ho : w.heap[o]? = some (.cells row 120 (0, 0))) (hs : row.size = 19) (h0 : row[0]? = some (.pointer (some ⟨x, 0, none⟩))) (h1 : row[1]? = some (.int .i64 27)) (h7 : row[7]? = some (.int .i64 r)) (h12 : row[12]? = some (.int .u64 tk)) (h13 : row[13]? = some (.int .i64 pr)) (h14 : row[14]? = some (.int .u64 now)) (h18 : row[18]? = some (.slice none 0 0))
    (hx : w.heap[x]? = some (.cells xr 110 (0, 0))) (hx0 : xr[0]? = some (.int .i64 0)) (hx1 : xr[1]? = some (.int .i64 1)) (hx2 : 2 < xr.size) (ht : TimNew ti h pm ids own gsm w) (hr : 1 ≤ r) (hr2 : r ≤ 32767) (hn : 0 ≤ now ∧ now < two64) (hnr : two64 ≤ now + r) :
    Calls Tryz.prog 69 #[.pointer (some ⟨g, 0, none⟩), .pointer (some ⟨o, 0, none⟩)] w (DSleepNPost o x ti h pm ids own gsm row xr w) := by
  have TS := hid (tsleepN_ok (now := now) (ticks := r) (w := w.drew) (ht.fr (Fr.refl.drew (S := E0)) ⟨ne0 _, ne0 _, ne0 _, ne0 _, ne0 _, ne0 _⟩) hn (by unfold two64; omega) hnr)
  have no : ∀ k, (k = ti ∨ k = h ∨ k = pm ∨ k = ids ∨ k = own ∨ k = gsm) → k ≠ o ∧ k ≠ x ∧ k ≠ g := by
    intro k hk
    rcases hk with rfl | rfl | rfl | rfl | rfl | rfl
    · exact ⟨cells_ne ht.obj ho (by decide), cells_ne ht.obj hx (by decide), cells_ne ht.obj hg (by decide)⟩
    · exact ⟨cells_ne ht.heap.1 ho (by decide), cells_ne ht.heap.1 hx (by decide), cells_ne ht.heap.1 hg (by decide)⟩
    · exact ⟨map_ne ht.heap.2 ho, map_ne ht.heap.2 hx, map_ne ht.heap.2 hg⟩
    · exact ⟨map_ne ht.ids ho, map_ne ht.ids hx, map_ne ht.ids hg⟩
    · exact ⟨map_ne ht.own ho, map_ne ht.own hx, map_ne ht.own hg⟩
    · exact ⟨map_ne ht.gs ho, map_ne ht.gs hx, map_ne ht.gs hg⟩
  have NO := hid no
  have g15 : w.cell? ⟨g, 15, none⟩ = some (.pointer (some ⟨ti, 0, none⟩)) := by rw [cell_of_row w g 15 _ _ _ hg]; exact hd
  have K0 := hid (kpS g15 ho h0 h7 h14 hx hx0 hx1)
  have K1 : Hid (∀ w1, Fr (fun k => k = ti ∨ k = ids ∨ k = own ∨ k = gsm) w.drew w1 → _) := hid (fun w1 hf => kpS (w' := w1) (hf.cell (w := w.drew) g15 (fun e => (no _ (by omega)).2.2 rfl)) (hf.heapAt (w := w.drew) ho (fun e => (no _ (by omega)).1 rfl)) h0 h7 h14 (hf.heapAt (w := w.drew) hx (fun e => (no _ (by omega)).2.1 rfl)) hx0 hx1)
  have WT : Hid (∀ w1, Fr (fun k => k = ti ∨ k = ids ∨ k = own ∨ k = gsm) w.drew w1 → _) := hid (fun w1 hf => wait_ok (g := g) (hf.heapAt (w := w.drew) ho (fun e => (no _ (by omega)).1 rfl)) hs h0 h1 h7 h12 h13 h18 (hf.heapAt (w := w.drew) hx (fun e => (no _ (by omega)).2.1 rfl)) hx0 hx1 hx2)
  have OX : Hid (∀ w1, Fr (fun k => k = ti ∨ k = ids ∨ k = own ∨ k = gsm) w.drew w1 → w1.heap[o]? = some (.cells row 120 (0, 0)) ∧ w1.heap[x]? = some (.cells xr 110 (0, 0))) := hid (fun w1 hf => ⟨hf.heapAt (w := w.drew) ho (fun e => (no _ (by omega)).1 rfl), hf.heapAt (w := w.drew) hx (fun e => (no _ (by omega)).2.1 rfl)⟩)
  have c7 : w.cell? ⟨o, 7, none⟩ = some (.int .i64 r) := by rw [cell_of_row w o 7 _ _ _ ho]; exact h7
  have p1 : ¬ r < 1 := by omega
  have p2 : IntKind.u64.wrap r = r := by unfold IntKind.wrap; simp [IntKind.bits, IntKind.signed]; omega
  clear ht no g15 hg hd ho h0 h1 h7 h12 h13 h14 h18 hx hx0 hx1 hn hnr hr hr2
  go_enter Tryz.func69, Tryz.ntmps69
  go_upto_region 1 with fail
  clear c7
  go_region_held3 (fun w' => w'.cell? ⟨g, 15, none⟩ = some (.pointer (some ⟨ti, 0, none⟩)) ∧ w'.cell? ⟨o, 0, none⟩ = some (.pointer (some ⟨x, 0, none⟩)) ∧ w'.cell? ⟨o, 7, none⟩ = some (.int .i64 r) ∧ w'.cell? ⟨o, 14, none⟩ = some (.int .u64 now) ∧ w'.cell? ⟨x, 0, none⟩ = some (.int .i64 0) ∧ w'.cell? ⟨x, 1, none⟩ = some (.int .i64 1))
    (first | exact K0.out | exact K1.out _ F1.out)
    (first
      | (go_at_call 160; refine TS.out.mono ?_; rintro e w1 ⟨rfl, hZ, hF⟩; have F1 := hid hF; have Z1 := hid hZ; clear hZ hF))
  all_goals
    clear ‹_ ∧ _›
    go_wp2_with fail
    refine (WT.out _ F1.out).mono ?_
    rintro e w2 ⟨A, cp, rfl, hO, hX, hF⟩
    have O2 := hid hO
    have X2 := hid hX
    have F2 := hid hF
    clear hO hX hF
    go_wp2
    have no := NO.out
    have z := Z1.out
    obtain ⟨rw, q1, q2, q3⟩ := z.obj
    refine bodyPost_end (results_none rfl _ _ _) rfl ⟨A, cp, rfl, O2.out, X2.out, ⟨⟨rw, F2.out.heapAt q1 (by have := no ti (by omega); omega), q2, q3⟩, F2.out.heapAt z.heap.1 (by have := no h (by omega); omega), F2.out.heapAt z.heap.2 (by have := no pm (by omega); omega)⟩, ?_⟩
    exact (Fr.refl.drew.trans (F1.out.mono (T := fun k => k = o ∨ k = x ∨ k = ti ∨ k = ids ∨ k = own ∨ k = gsm) (fun k hk => by omega))).trans (F2.out.mono (fun k hk => by omega))
end Go.Proofs.YtocepiogpeafoaaGreatDoor
