/- Words and contracts of calls that the law needs (Tsleep, Tell, WaitS): merged by wip/gen/zmerge.py. No condition but those that each theorem names. -/
import Derived.Test.YtocepiogpeafoaaGreatDoorH28
import Derived.Test.YtocepiogpeafoaaGreatDoorH30
import Derived.Test.YtocepiogpeafoaaGreatDoorH35
set_option linter.unusedVariables false
/- (*timer.Timers).Sleep of a sleeper that is due some time: the walk. -/
namespace Go.Proofs.YtocepiogpeafoaaGreatDoor
open Go.RowKit
set_option linter.unusedVariables false
def TSleepPost (ti h pm ids own gsm : Nat) (when : Int) (w : World) (e : Ending) (w' : World) : Prop := e = .returned (.int .i64 0) ∧ TimOne 1 ti h pm ids own gsm when w' ∧ Fr (fun k => k = ti ∨ k = h ∨ k = pm ∨ k = ids ∨ k = own ∨ k = gsm) w w'
set_option maxRecDepth 20000 in
set_option maxHeartbeats 40000000 in
theorem tsleep_ok {w : World} {ti h pm ids own gsm : Nat} {now ticks : Int} (ht : TimNew ti h pm ids own gsm w) (h1 : 0 ≤ now) (h2 : 0 ≤ ticks) (h3 : now + ticks < two64) :
    Calls Tryz.prog 160 #[.pointer (some ⟨ti, 0, none⟩), .agg #[.int .i64 0, .int .i64 1], .int .u64 now, .int .u64 ticks] w (TSleepPost ti h pm ids own gsm (now + ticks) w) := by
  have HT := hid (ht.fr (Fr.refl.alloc (S := E0) (.cells #[.int .i64 0, .int .i64 1] 72)) ⟨ne0 _, ne0 _, ne0 _, ne0 _, ne0 _, ne0 _⟩)
  have F0 := hid ((Fr.refl (S := E0) (w := w)).alloc (.cells #[.int .i64 0, .int .i64 1] 72))
  have HB := hid (heap_alloc_new w (.cells #[.int .i64 0, .int .i64 1] 72))
  have TB := hid (fun u (hu : TimNew ti h pm ids own gsm u) => tbegin_ok hu h1 h2 h3)
  have NE := hid (And.intro ht.ne (And.intro (heap_lt ht.obj) (And.intro (heap_lt ht.heap.1) (And.intro (heap_lt ht.heap.2) (And.intro (heap_lt ht.ids) (And.intro (heap_lt ht.own) (heap_lt ht.gs)))))))
  clear ht h1 h2 h3
  go_enter Tryz.func160, Tryz.ntmps160
  go_wp2_with fail
  refine (timIs_ok (cell_of_row _ ti 0 _ _ _ HT.out.obj)).mono ?_
  rintro e w1 ⟨rfl, rfl⟩
  go_wp2_with fail
  refine (sleeps_no (c := gsm) (cell_of_row _ ti 0 _ _ _ HT.out.obj) (cell_of_row _ ti 6 _ _ _ HT.out.obj) HT.out.gs).mono ?_
  rintro e w2 ⟨rfl, hf2⟩
  have F2 := hid (F0.out.trans hf2)
  have T2 := hid (HT.out.fr hf2 ⟨ne0 _, ne0 _, ne0 _, ne0 _, ne0 _, ne0 _⟩)
  have b0 : w2.cell? ⟨w.heap.size, 0, none⟩ = some (.int .i64 0) := cell_of_row w2 _ 0 _ _ _ (hf2.heapAt HB.out (ne0 _))
  have b1 : w2.cell? ⟨w.heap.size, 1, none⟩ = some (.int .i64 1) := cell_of_row w2 _ 1 _ _ _ (hf2.heapAt HB.out (ne0 _))
  clear hf2
  go_wp2_with fail
  refine (TB.out _ T2.out).mono ?_
  rintro e w3 ⟨rfl, h3, hf3⟩
  have Z := hid h3
  have F3 := hid hf3
  clear h3 hf3 b0 b1
  simp only [tup2]
  go_wp2
  go_ret
  exact ⟨rfl, Z.out, F2.out.e0.trans F3.out⟩
end Go.Proofs.YtocepiogpeafoaaGreatDoor
/- (*local.doing).tell of the first event, awaited, own: the walks. -/
namespace Go.Proofs.YtocepiogpeafoaaGreatDoor
open Go.RowKit
set_option linter.unusedVariables false
theorem kp9 {V w2 : World} {o B : Nat} {a b c d : Value} (h1 : V.cell? ⟨B, 0, none⟩ = some c) (h2 : V.cell? ⟨B, 1, none⟩ = some d) (hb : B ≠ o) (h3 : w2.cell? ⟨o, 12, none⟩ = some a) (h4 : w2.cell? ⟨o, 13, none⟩ = some b) (hf : Fr (fun k => k = o) V w2) :
    Fr (fun k => k = o) V w2 ∧ w2.cell? ⟨o, 12, none⟩ = some a ∧ w2.cell? ⟨o, 13, none⟩ = some b ∧ w2.cell? ⟨B, 0, none⟩ = some c ∧ w2.cell? ⟨B, 1, none⟩ = some d :=
  ⟨hf, h3, h4, hf.cell h1 hb, hf.cell h2 hb⟩
/-- block o is as it was but for its cell 18 -/
structure Kp (o : Nat) (W w2 : World) : Prop where
  lt : o < w2.heap.size
  cell : ∀ j, j ≠ 18 → w2.cell? ⟨o, j, none⟩ = W.cell? ⟨o, j, none⟩
theorem Kp.refl {o : Nat} {W : World} (h : o < W.heap.size) : Kp o W W := ⟨h, fun _ _ => rfl⟩
theorem Kp.alloc {o : Nat} {W w2 : World} (h : Kp o W w2) (ob : Obj) : Kp o W (w2.alloc ob) := ⟨by have := h.lt; simp; omega, fun j hj => (World.cell?_alloc_lt w2 ob ⟨o, j, none⟩ h.lt).trans (h.cell j hj)⟩
theorem Kp.drew {o : Nat} {W w2 : World} (h : Kp o W w2) : Kp o W w2.drew := ⟨h.lt, h.cell⟩
theorem Kp.set {o : Nat} {W w2 : World} (h : Kp o W w2) (v : Value) : Kp o W (w2.setCell ⟨o, 18, none⟩ v) := ⟨by simpa using h.lt, fun j hj => (World.cell?_setCell_other w2 ⟨o, 18, none⟩ ⟨o, j, none⟩ v (fun e => by injection e with _ e _; exact hj (by first | exact e | exact e.symm))).trans (h.cell j hj)⟩
def TellPost (o : Nat) (row : Array Value) (w : World) (e : Ending) (w' : World) : Prop := ∃ A c, e = .returned (.tuple #[]) ∧ w'.heap[o]? = some (.cells (row.setIfInBounds 18 (.slice (some ⟨A, 0, none⟩) 1 c)) 120 (0, 0)) ∧ Fr (fun k => k = o) w w'
set_option maxRecDepth 20000 in
set_option maxHeartbeats 40000000 in
theorem tell_ok {w : World} {o : Nat} {row : Array Value} {tk pr : Int} (kd a b c s g : Int) (ho : w.heap[o]? = some (.cells row 120 (0, 0))) (h12 : row[12]? = some (.int .u64 tk)) (h13 : row[13]? = some (.int .i64 pr)) (h18 : row[18]? = some (.slice none 0 0)) :
    Calls Tryz.prog 91 #[.pointer (some ⟨o, 0, none⟩), .agg #[.int .i64 s, .int .i64 g], .int .i64 kd, .int .i64 a, .int .i64 b, .int .i64 c] w (TellPost o row w) := by
  have HO := hid ho
  have hol := heap_lt ho
  have q12 := hid h12
  have q13 := hid h13
  have q18 := hid h18
  clear ho h12 h13 h18
  go_enter Tryz.func91, Tryz.ntmps91
  go_upto_region 1 with fail
  generalize hW : World.alloc _ _ = W
  have F0 := hid (show Fr E0 w W from by rw [← hW]; exact Fr.refl.alloc _)
  have B7 := hid (show W.heap[w.heap.size]? = some (.cells #[.int .i64 s, .int .i64 g] 72 (0, 0)) from by rw [← hW]; exact heap_alloc_new w _)
  have OW := hid (F0.out.heapAt HO.out (ne0 _))
  clear hW
  have c12 : W.cell? ⟨o, 12, none⟩ = some (.int .u64 tk) := by rw [cell_of_row W o 12 _ _ _ OW.out]; exact q12.out
  have c13 : W.cell? ⟨o, 13, none⟩ = some (.int .i64 pr) := by rw [cell_of_row W o 13 _ _ _ OW.out]; exact q13.out
  have c18 : W.cell? ⟨o, 18, none⟩ = some (.slice none 0 0) := by rw [cell_of_row W o 18 _ _ _ OW.out]; exact q18.out
  have f18 := frozen_of_row W o 18 _ _ OW.out
  have b0 : W.cell? ⟨w.heap.size, 0, none⟩ = some (.int .i64 s) := cell_of_row W _ 0 _ _ _ B7.out
  have b1 : W.cell? ⟨w.heap.size, 1, none⟩ = some (.int .i64 g) := cell_of_row W _ 1 _ _ _ B7.out
  have l0 : o < W.heap.size := heap_lt OW.out
  have l1 : o < W.heap.size + 1 := by omega
  have hne : w.heap.size ≠ o := by omega
  have apE : ¬ (281474976710656 < Builtin.nextslicecap 1 0 * Tryz.t100.bytes) := by decide
  have l2 : o < W.heap.size + 1 + 1 := by omega
  have l3 : w.heap.size < W.heap.size := heap_lt B7.out
  have l4 : w.heap.size < W.heap.size + 1 := by omega
  go_region
  all_goals
    generalize hQ : World.drew _ = Q
    obtain ⟨cp, hcp⟩ : ∃ cp, (Question.appendCap 1 0 100).cut (W.tape (W.drawn + 1) (Question.appendCap 1 0 100)) = cp := ⟨_, rfl⟩
    rw [hcp] at hQ
    have FQ := hid (show Fr E0 (W.setCell ⟨o, 18, none⟩ (.slice (some ⟨W.heap.size + 1, 0, none⟩) 1 cp)) Q from by
      rw [← hQ]
      repeat (with_reducible first | exact Fr.refl | refine Fr.alloc ?_ _ | refine Fr.drew ?_))
    have FX := hid (show Fr (fun k => k = o) W (W.setCell ⟨o, 18, none⟩ (.slice (some ⟨W.heap.size + 1, 0, none⟩) 1 cp)) from Fr.setCell (p := ⟨o, 18, none⟩) Fr.refl _ (.inl rfl))
    clear hQ
    go_wp2
    exact bodyPost_end (results_none rfl _ _ _) rfl ⟨W.heap.size + 1, cp, rfl, FQ.out.heapAt (heap_setCell_same W o 18 _ _ _ OW.out) (ne0 _), (F0.out.e0.trans FX.out).trans FQ.out.e0⟩
end Go.Proofs.YtocepiogpeafoaaGreatDoor
/- (*local.doing).own, awaited of a sleeper, (*local.Domain).wait: the walks. -/
namespace Go.Proofs.YtocepiogpeafoaaGreatDoor
open Go.RowKit
set_option linter.unusedVariables false
set_option maxHeartbeats 4000000 in
theorem own_ok {w : World} {o x : Nat} {row : Array Value} {tk pr : Int} (kd a b c : Int) (ho : w.heap[o]? = some (.cells row 120 (0, 0))) (h0 : row[0]? = some (.pointer (some ⟨x, 0, none⟩))) (h12 : row[12]? = some (.int .u64 tk)) (h13 : row[13]? = some (.int .i64 pr)) (h18 : row[18]? = some (.slice none 0 0))
    (hx0 : w.cell? ⟨x, 0, none⟩ = some (.int .i64 0)) (hx1 : w.cell? ⟨x, 1, none⟩ = some (.int .i64 1)) :
    Calls Tryz.prog 23 #[.pointer (some ⟨o, 0, none⟩), .int .i64 kd, .int .i64 a, .int .i64 b, .int .i64 c] w (TellPost o row w) := by
  have HT := hid (tell_ok kd a b c 0 1 ho h12 h13 h18)
  have c0 : w.cell? ⟨o, 0, none⟩ = some (.pointer (some ⟨x, 0, none⟩)) := by rw [cell_of_row w o 0 _ _ _ ho]; exact h0
  clear ho h0 h12 h13 h18
  go_enter Tryz.func23, Tryz.ntmps23
  go_wp2_with fail
  refine HT.out.mono ?_
  rintro e w1 ⟨A, cp, rfl, h1, h2⟩
  have Z := hid (show TellPost o row w (.returned (.tuple #[])) w1 from ⟨A, cp, rfl, h1, h2⟩)
  clear h1 h2
  go_wp2
  exact bodyPost_end (results_none rfl _ _ _) rfl Z.out
theorem awaited_ok {w : World} {o : Nat} {r : Int} (h1 : w.cell? ⟨o, 1, none⟩ = some (.int .i64 27)) (h7 : w.cell? ⟨o, 7, none⟩ = some (.int .i64 r)) : Calls Tryz.prog 254 #[.pointer (some ⟨o, 0, none⟩)] w fun e w' => e = .returned (.int .i64 r) ∧ w = w' := by
  go_enter Tryz.func254, Tryz.ntmps254
  go_wp2
  go_ret
  exact ⟨rfl, rfl⟩
def WaitPost (o x : Nat) (row xr : Array Value) (w : World) (e : Ending) (w' : World) : Prop := ∃ A c, e = .returned (.tuple #[]) ∧ w'.heap[o]? = some (.cells ((row.setIfInBounds 18 (.slice (some ⟨A, 0, none⟩) 1 c)).setIfInBounds 16 (.bool false)) 120 (0, 0)) ∧
  w'.heap[x]? = some (.cells (xr.setIfInBounds 2 (.int .i64 4)) 110 (0, 0)) ∧ Fr (fun k => k = o ∨ k = x) w w'
set_option maxRecDepth 20000 in
set_option maxHeartbeats 40000000 in
theorem wait_ok {w : World} {g o x : Nat} {row xr : Array Value} {tk pr r : Int} (ho : w.heap[o]? = some (.cells row 120 (0, 0))) (hs : row.size = 19) (h0 : row[0]? = some (.pointer (some ⟨x, 0, none⟩))) (h1 : row[1]? = some (.int .i64 27)) (h7 : row[7]? = some (.int .i64 r)) (h12 : row[12]? = some (.int .u64 tk)) (h13 : row[13]? = some (.int .i64 pr)) (h18 : row[18]? = some (.slice none 0 0))
    (hx : w.heap[x]? = some (.cells xr 110 (0, 0))) (hx0 : xr[0]? = some (.int .i64 0)) (hx1 : xr[1]? = some (.int .i64 1)) (hx2 : 2 < xr.size) :
    Calls Tryz.prog 161 #[.pointer (some ⟨g, 0, none⟩), .pointer (some ⟨o, 0, none⟩), .int .i64 4] w (WaitPost o x row xr w) := by
  have hne : x ≠ o := cells_ne hx ho (by decide)
  have c0 : w.cell? ⟨o, 0, none⟩ = some (.pointer (some ⟨x, 0, none⟩)) := by rw [cell_of_row w o 0 _ _ _ ho]; exact h0
  obtain ⟨v2, c2⟩ : ∃ v, w.cell? ⟨x, 2, none⟩ = some v := ⟨xr[2], by rw [cell_of_row w x 2 _ _ _ hx]; exact Array.getElem?_eq_getElem hx2⟩
  have f2 := frozen_of_row w x 2 _ _ hx
  have OW := hid (show (w.setCell ⟨x, 2, none⟩ (.int .i64 4)).heap[o]? = some (.cells row 120 (0, 0)) from (heap_setCell_other _ _ _ _ (Ne.symm hne)).trans ho)
  have XW := hid (show (w.setCell ⟨x, 2, none⟩ (.int .i64 4)).heap[x]? = some (.cells (xr.setIfInBounds 2 (.int .i64 4)) 110 (0, 0)) from heap_setCell_same w x 2 _ _ _ hx)
  have FW := hid (show Fr (fun k => k = o ∨ k = x) w (w.setCell ⟨x, 2, none⟩ (.int .i64 4)) from Fr.setCell (p := ⟨x, 2, none⟩) Fr.refl _ (.inl (.inr rfl)))
  have q0 := hid (And.intro hx0 hx1)
  have R := hid (And.intro h0 (And.intro h1 (And.intro h7 (And.intro h12 (And.intro h13 h18)))))
  clear ho hx h0 h1 h7 h12 h13 h18 hx0 hx1
  go_enter Tryz.func161, Tryz.ntmps161
  go_upto_region 3 with fail
  clear c0 c2 f2
  generalize hW : w.setCell ⟨x, 2, none⟩ (.int .i64 4) = W at *
  clear hW
  have c1 : W.cell? ⟨o, 1, none⟩ = some (.int .i64 27) := by rw [cell_of_row W o 1 _ _ _ OW.out]; exact R.out.2.1
  have c7 := hid (show W.cell? ⟨o, 7, none⟩ = some (.int .i64 r) from by rw [cell_of_row W o 7 _ _ _ OW.out]; exact R.out.2.2.1)
  have x0 := hid (show W.cell? ⟨x, 0, none⟩ = some (.int .i64 0) from by rw [cell_of_row W x 0 _ _ _ XW.out, Array.getElem?_setIfInBounds_ne (by decide)]; exact q0.out.1)
  have x1 := hid (show W.cell? ⟨x, 1, none⟩ = some (.int .i64 1) from by rw [cell_of_row W x 1 _ _ _ XW.out, Array.getElem?_setIfInBounds_ne (by decide)]; exact q0.out.2)
  have C1 := hid c1
  go_region_held3 (fun w' => w'.cell? ⟨o, 1, none⟩ = some (.int .i64 27))
    (first | exact C1.out | exact k2.out)
    (first
      | (go_at_call 254; refine (awaited_ok (w := W.drew) C1.out c7.out).mono ?_; rintro e w1 ⟨rfl, rfl⟩)
      | (go_at_call 23; refine (own_ok (w := W.drew) 4 27 r 0 OW.out R.out.1 R.out.2.2.2.1 R.out.2.2.2.2.1 R.out.2.2.2.2.2 x0.out x1.out).mono ?_; rintro e w2 ⟨A, cp, rfl, hO2, hF2⟩; have k2 := hid (show w2.cell? ⟨o, 1, none⟩ = some (.int .i64 27) from by rw [cell_of_row w2 o 1 _ _ _ hO2, Array.getElem?_setIfInBounds_ne (by decide)]; exact R.out.2.1); have O2 := hid hO2; have F2 := hid hF2; clear hO2 hF2))
  all_goals
    obtain ⟨v16, c16⟩ : ∃ v, w2.cell? ⟨o, 16, none⟩ = some v := ⟨(row.setIfInBounds 18 (.slice (some ⟨A, 0, none⟩) 1 cp))[16]'(by simp; omega), by rw [cell_of_row w2 o 16 _ _ _ O2.out]; exact Array.getElem?_eq_getElem _⟩
    have f16 := frozen_of_row w2 o 16 _ _ O2.out
    go_wp2
    exact bodyPost_end (results_none rfl _ _ _) rfl ⟨A, cp, rfl, heap_setCell_same w2 o 16 _ _ _ O2.out, (heap_setCell_other _ _ _ _ hne).trans (F2.out.heapAt (w := W.drew) XW.out hne), Fr.setCell (p := ⟨o, 16, none⟩) (FW.out.drew.trans (F2.out.mono (T := fun k => k = o ∨ k = x) (fun k hk => .inl hk))) _ (.inl (.inl rfl))⟩
end Go.Proofs.YtocepiogpeafoaaGreatDoor
