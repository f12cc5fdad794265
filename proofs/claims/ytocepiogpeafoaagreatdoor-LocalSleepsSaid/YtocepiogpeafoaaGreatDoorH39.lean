/- Words and contracts of calls that the law needs (Ready): merged by wip/gen/zmerge.py. No condition but those that each theorem names. -/
import Derived.Deep.RegionWith
import Derived.Test.YtocepiogpeafoaaGreatDoorH35
import Derived.Test.YtocepiogpeafoaaGreatDoorH36
set_option linter.unusedVariables false
/- (*local.Domain).ready of the one goroutine by nobody: the walk. -/
namespace Go.Proofs.YtocepiogpeafoaaGreatDoor
open Go.RowKit
set_option linter.unusedVariables false
theorem next2_ok {w : World} {g : Nat} {dr : Array Value} (hg : w.heap[g]? = some (.cells dr 98 (0, 0))) (hd : dr[17]? = some (.int .u64 1)) : Calls Tryz.prog 97 #[.pointer (some ⟨g, 0, none⟩)] w fun e w' => e = .returned (.int .u64 1) ∧ w'.heap[g]? = some (.cells (dr.setIfInBounds 17 (.int .u64 2)) 98 (0, 0)) ∧ Fr (fun k => k = g) w w' := by
  have h : w.cell? ⟨g, 17, none⟩ = some (.int .u64 1) := by rw [cell_of_row w g 17 _ _ _ hg]; exact hd
  have hf := frozen_of_row w g 17 _ _ hg
  have H := hid (heap_setCell_same w g 17 _ _ (.int .u64 2) hg)
  clear hg hd
  go_enter Tryz.func97, Tryz.ntmps97
  go_wp2
  go_ret
  exact ⟨rfl, H.out, Fr.refl.setCell _ (.inl rfl)⟩
def ReadyPost (g o x : Nat) (row dr : Array Value) (w : World) (e : Ending) (w' : World) : Prop := ∃ a c b d r, e = .returned (.tuple #[]) ∧ w'.heap[o]? = some (.cells ((row.setIfInBounds 17 (.slice (some ⟨a, 0, none⟩) 1 c)).setIfInBounds 18 (.slice (some ⟨b, 0, none⟩) 1 d)) 120 (0, 0)) ∧
  w'.heap[a]? = some (.cells (#[.int .i64 0, .int .i64 1, .int .u64 1, .bool false] ++ r) 80 (0, 0)) ∧ w.heap.size ≤ a ∧ StG x 1 w' ∧ w'.cell? ⟨x, 0, none⟩ = some (.int .i64 0) ∧ w'.cell? ⟨x, 1, none⟩ = some (.int .i64 1) ∧ w'.heap[g]? = some (.cells (dr.setIfInBounds 17 (.int .u64 2)) 98 (0, 0)) ∧ Fr (fun k => k = o ∨ k = x ∨ k = g) w w'
theorem kpR {V w' : World} {x : Nat} {S : Nat → Prop} (h0 : V.cell? ⟨x, 0, none⟩ = some (.int .i64 0)) (h1 : V.cell? ⟨x, 1, none⟩ = some (.int .i64 1)) (hf : Fr S V w') (hx : ¬ S x) : Fr S V w' ∧ w'.cell? ⟨x, 0, none⟩ = some (.int .i64 0) ∧ w'.cell? ⟨x, 1, none⟩ = some (.int .i64 1) := ⟨hf, hf.cell h0 hx, hf.cell h1 hx⟩
set_option maxRecDepth 20000 in
set_option maxHeartbeats 40000000 in
theorem ready_ok {w : World} {g o x : Nat} {row dr xr : Array Value} {tk pr : Int} (hg : w.heap[g]? = some (.cells dr 98 (0, 0))) (hd : dr[17]? = some (.int .u64 1))
    (ho : w.heap[o]? = some (.cells row 120 (0, 0))) (hs : row.size = 19) (h0 : row[0]? = some (.pointer none)) (h12 : row[12]? = some (.int .u64 tk)) (h13 : row[13]? = some (.int .i64 pr)) (h17 : row[17]? = some (.slice none 0 0)) (h18 : row[18]? = some (.slice none 0 0))
    (hx : w.heap[x]? = some (.cells xr 110 (0, 0))) (hx0 : xr[0]? = some (.int .i64 0)) (hx1 : xr[1]? = some (.int .i64 1)) (hxs : xr.size = 26) :
    Calls Tryz.prog 25 #[.pointer (some ⟨g, 0, none⟩), .pointer (some ⟨o, 0, none⟩), .pointer (some ⟨x, 0, none⟩)] w (ReadyPost g o x row dr w) := by
  have nxo : x ≠ o := cells_ne hx ho (by decide)
  have nxg : x ≠ g := cells_ne hx hg (by decide)
  have ngo : g ≠ o := cells_ne hg ho (by decide)
  have NE := hid (And.intro nxo (And.intro nxg ngo))
  have XC : ∀ j, j < 26 → ∃ v, w.cell? ⟨x, j, none⟩ = some v := fun j hj => ⟨xr[j], by rw [cell_of_row w x j _ _ _ hx]; exact Array.getElem?_eq_getElem (by omega)⟩
  obtain ⟨v2, c2⟩ := XC 2 (by decide)
  obtain ⟨v21, c21⟩ := XC 21 (by decide)
  obtain ⟨v22, c22⟩ := XC 22 (by decide)
  obtain ⟨v23, c23⟩ := XC 23 (by decide)
  obtain ⟨v24, c24⟩ := XC 24 (by decide)
  obtain ⟨v25, c25⟩ := XC 25 (by decide)
  have fx := fun j => frozen_of_row w x j _ _ hx
  have HX := hid hx
  have HO := hid ho
  have HG := hid hg
  have R := hid (And.intro h0 (And.intro h12 (And.intro h13 (And.intro h17 (And.intro h18 (And.intro hd (And.intro hx0 (And.intro hx1 (And.intro hxs hs)))))))))
  clear XC hx ho hg h0 h12 h13 h17 h18 hd hx0 hx1 hxs hs nxo nxg ngo
  go_enter Tryz.func25, Tryz.ntmps25
  go_upto_region 1 with fail
  clear c2 c21 c22 c23 c24 c25 fx
  have FW := hid (show Fr (fun k => k = x) w ((((((w.setCell ⟨x, 2, none⟩ (.int .i64 1)).setCell ⟨x, 21, none⟩ (.int .i64 0)).setCell ⟨x, 22, none⟩ (.int .i64 0)).setCell ⟨x, 23, none⟩ (.int .i64 0)).setCell ⟨x, 24, none⟩ (.int .i64 0)).setCell ⟨x, 25, none⟩ (.int .i64 0)) from
    by repeat (with_reducible first | exact Fr.refl | refine Fr.setCell ?_ _ (.inl rfl)))
  have X1 := heap_setCell_same w x 2 _ _ (.int .i64 1) HX.out
  have X2 := heap_setCell_same _ x 21 _ _ (.int .i64 0) X1
  have X3 := heap_setCell_same _ x 22 _ _ (.int .i64 0) X2
  have X4 := heap_setCell_same _ x 23 _ _ (.int .i64 0) X3
  have X5 := heap_setCell_same _ x 24 _ _ (.int .i64 0) X4
  have X6 := heap_setCell_same _ x 25 _ _ (.int .i64 0) X5
  clear X1 X2 X3 X4 X5
  generalize (((((w.setCell ⟨x, 2, none⟩ (.int .i64 1)).setCell ⟨x, 21, none⟩ (.int .i64 0)).setCell ⟨x, 22, none⟩ (.int .i64 0)).setCell ⟨x, 23, none⟩ (.int .i64 0)).setCell ⟨x, 24, none⟩ (.int .i64 0)).setCell ⟨x, 25, none⟩ (.int .i64 0) = W at *
  have XR := hid (show ∃ rx : Array Value, W.heap[x]? = some (.cells rx 110 (0, 0)) ∧ rx[0]? = some (.int .i64 0) ∧ rx[1]? = some (.int .i64 1) ∧ rx[2]? = some (.int .i64 1) from ⟨_, X6, by
      have := R.out.2.2.2.2.2.2.1; simp only [Array.getElem?_setIfInBounds_ne, ne_eq, Nat.reduceEqDiff, not_false_eq_true, this], by
      have := R.out.2.2.2.2.2.2.2.1; simp only [Array.getElem?_setIfInBounds_ne, ne_eq, Nat.reduceEqDiff, not_false_eq_true, this], by
      have := R.out.2.2.2.2.2.2.2.2.1; simp only [Array.getElem?_setIfInBounds_ne, ne_eq, Nat.reduceEqDiff, not_false_eq_true]; rw [Array.getElem?_setIfInBounds, if_pos rfl, if_pos (by omega)]⟩)
  clear X6
  obtain ⟨rx, xrow, rx0, rx1, rx2⟩ := XR.out
  have XROW := hid xrow
  have X0 := hid (show W.cell? ⟨x, 0, none⟩ = some (.int .i64 0) from by rw [cell_of_row W x 0 _ _ _ xrow]; exact rx0)
  have X1 := hid (show W.cell? ⟨x, 1, none⟩ = some (.int .i64 1) from by rw [cell_of_row W x 1 _ _ _ xrow]; exact rx1)
  have X2 := hid (show W.cell? ⟨x, 2, none⟩ = some (.int .i64 1) from by rw [cell_of_row W x 2 _ _ _ xrow]; exact rx2)
  clear xrow rx0 rx1 rx2 XR
  have OW := hid (FW.out.heapAt HO.out (by exact fun e => NE.out.1 e.symm))
  have GW := hid (FW.out.heapAt HG.out (by exact fun e => NE.out.2.1 e.symm))
  have o0 : W.cell? ⟨o, 0, none⟩ = some (.pointer none) := by rw [cell_of_row W o 0 _ _ _ OW.out]; exact R.out.1
  go_upto_region 5 with fail
  clear o0
  have o17 : W.cell? ⟨o, 17, none⟩ = some (.slice none 0 0) := by rw [cell_of_row W o 17 _ _ _ OW.out]; exact R.out.2.2.2.1
  have f17 := frozen_of_row W o 17 _ _ OW.out
  have x0 := X0.out
  have x1 := X1.out
  have G17 := hid R.out.2.2.2.2.2.1
  have l0 : o < W.heap.size := heap_lt OW.out
  have LO := hid l0
  have apE : ¬ (281474976710656 < Builtin.nextslicecap 1 0 * Tryz.t80.bytes) := by decide
  have NX := hid (show ¬ (x = o ∨ x = g) from by have := NE.out; omega)
  have g17 := (show W.cell? ⟨g, 17, none⟩ = some (.int .u64 1) from by rw [cell_of_row W g 17 _ _ _ GW.out]; exact G17.out)
  have gf17 := frozen_of_row W g 17 _ _ GW.out
  have l1 : o < W.heap.size + 1 := by omega
  have l2 : o < W.heap.size + 1 + 1 := by omega
  have nog : o ≠ g := fun e => NE.out.2.2 e.symm
  have nxo' : x ≠ o := NE.out.1
  have nxg' : x ≠ g := NE.out.2.1
  go_region_calls
  all_goals
    clear o17 f17 x0 x1 apE g17 gf17 l0 l1 l2 nog nxo' nxg'
    obtain ⟨cp, hcp⟩ : ∃ cp, (Question.appendCap 1 0 80).cut (W.tape (W.drawn + 1) (Question.appendCap 1 0 80)) = cp := ⟨_, rfl⟩
    rw [hcp]
    clear hcp
    obtain ⟨r, hr⟩ : ∃ r, Builtin.zeroCells #[.int .i64 0, .int .i64 0, .int .u64 0, .bool false] (cp - 1) = r := ⟨_, rfl⟩
    rw [hr]
    clear hr
    have GR0 := heap_setCell_same W g 17 _ _ (.int .u64 2) GW.out
    have O10 := (heap_setCell_other W ⟨g, 17, none⟩ o (.int .u64 2) (by exact fun e => NE.out.2.2 e.symm)).trans OW.out
    have F10 : Fr (fun k => k = o ∨ k = g) W (W.setCell ⟨g, 17, none⟩ (.int .u64 2)) := Fr.setCell (p := ⟨g, 17, none⟩) Fr.refl _ (.inl (.inr rfl))
    have xs0 : (W.setCell ⟨g, 17, none⟩ (.int .u64 2)).heap.size = W.heap.size := by simp
    generalize W.setCell ⟨g, 17, none⟩ (.int .u64 2) = w1 at *
    have GR := hid GR0
    have O1 := hid O10
    have F1 := hid F10
    have O2 := hid (heap_setCell_same w1 o 17 _ _ (.slice (some ⟨W.heap.size + 1, 0, none⟩) 1 cp) O1.out)
    have FX : Fr (fun k => k = o ∨ k = g) w1 (w1.setCell ⟨o, 17, none⟩ (.slice (some ⟨W.heap.size + 1, 0, none⟩) 1 cp)) := Fr.setCell (p := ⟨o, 17, none⟩) Fr.refl _ (.inl (.inl rfl))
    have FXo : Fr (fun k => k = o) w1 (w1.setCell ⟨o, 17, none⟩ (.slice (some ⟨W.heap.size + 1, 0, none⟩) 1 cp)) := Fr.setCell (p := ⟨o, 17, none⟩) Fr.refl _ (.inl rfl)
    have xs : (w1.setCell ⟨o, 17, none⟩ (.slice (some ⟨W.heap.size + 1, 0, none⟩) 1 cp)).heap.size = W.heap.size := by simp [xs0]
    generalize w1.setCell ⟨o, 17, none⟩ (.slice (some ⟨W.heap.size + 1, 0, none⟩) 1 cp) = X at *
    generalize hV : World.drew _ = V
    have FV : Fr E0 X V := by
      rw [← hV]
      repeat (with_reducible first | exact Fr.refl | refine Fr.alloc ?_ _ | refine Fr.drew ?_)
    have RV := hid (show V.heap[W.heap.size + 1]? = some (.cells (#[.int .i64 0, .int .i64 1, .int .u64 1, .bool false] ++ r) 80 (0, 0)) from by rw [← hV, ← xs]; exact heap_alloc2_new X _ _)
    have OV := hid (FV.heapAt O2.out (ne0 _))
    have FWV := hid (show Fr (fun k => k = o ∨ k = g) W V from (F1.out.trans FX).trans FV.e0)
    have GV := hid (FV.heapAt (FXo.heapAt GR.out (by exact NE.out.2.2)) (ne0 _))
    clear hV FV FX FXo xs xs0 O1 O2 F1 GR GR0 O10 F10
    have R0 := hid (show (row.setIfInBounds 17 (.slice (some ⟨W.heap.size + 1, 0, none⟩) 1 cp))[0]? = some (.pointer none) from by rw [Array.getElem?_setIfInBounds_ne (by decide)]; exact R.out.1)
    have R12 := hid (show (row.setIfInBounds 17 (.slice (some ⟨W.heap.size + 1, 0, none⟩) 1 cp))[12]? = some (.int .u64 tk) from by rw [Array.getElem?_setIfInBounds_ne (by decide)]; exact R.out.2.1)
    have R13 := hid (show (row.setIfInBounds 17 (.slice (some ⟨W.heap.size + 1, 0, none⟩) 1 cp))[13]? = some (.int .i64 pr) from by rw [Array.getElem?_setIfInBounds_ne (by decide)]; exact R.out.2.2.1)
    have R18 := hid (show (row.setIfInBounds 17 (.slice (some ⟨W.heap.size + 1, 0, none⟩) 1 cp))[18]? = some (.slice none 0 0) from by rw [Array.getElem?_setIfInBounds_ne (by decide)]; exact R.out.2.2.2.2.1)
    have KV := hid (show V.cell? ⟨x, 0, none⟩ = some (.int .i64 0) ∧ V.cell? ⟨x, 1, none⟩ = some (.int .i64 1) ∧ V.cell? ⟨o, 0, none⟩ = some (.pointer none) from ⟨FWV.out.cell X0.out NX.out, FWV.out.cell X1.out NX.out, by rw [cell_of_row V o 0 _ _ _ OV.out]; exact R0.out⟩)
    have RL := hid (heap_lt RV.out)
    go_upto_region 6 with fail
    go_region_held3 (fun w' => w'.cell? ⟨x, 0, none⟩ = some (.int .i64 0) ∧ w'.cell? ⟨x, 1, none⟩ = some (.int .i64 1) ∧ w'.cell? ⟨o, 0, none⟩ = some (.pointer none))
      (first | exact KV.out | exact K3.out)
      (first
        | (go_at_call 98; refine (handle_nil _).mono ?_; rintro e w2 ⟨rfl, rfl⟩)
        | (go_at_call 91; refine (tell_ok (w := V.drew) 5 0 0 0 0 1 OV.out R12.out R13.out R18.out).mono ?_; rintro e w3 ⟨B, d, rfl, hO3, hF3⟩; have O3 := hid hO3; have F3 := hid hF3; have K3 := hid (show w3.cell? ⟨x, 0, none⟩ = some (.int .i64 0) ∧ w3.cell? ⟨x, 1, none⟩ = some (.int .i64 1) ∧ w3.cell? ⟨o, 0, none⟩ = some (.pointer none) from ⟨hF3.cell (w := V.drew) KV.out.1 (by exact fun e => NX.out (.inl e)), hF3.cell (w := V.drew) KV.out.2.1 (by exact fun e => NX.out (.inl e)), by rw [cell_of_row w3 o 0 _ _ _ hO3, Array.getElem?_setIfInBounds_ne (by decide)]; exact R0.out⟩); clear hO3 hF3))
    all_goals
      go_wp2
      have nx := NX.out
      have ra : W.heap.size + 1 ≠ o := by have := LO.out; omega
      have XV := FWV.out.heapAt XROW.out NX.out
      have X3 := F3.out.heapAt (w := V.drew) XV (by omega)
      exact bodyPost_end (results_none rfl _ _ _) rfl ⟨W.heap.size + 1, cp, B, d, r, rfl, O3.out, F3.out.heapAt (w := V.drew) RV.out ra, by have := FW.out.size; omega, ⟨F3.out.cell (w := V.drew) (FWV.out.cell X2.out NX.out) (by omega), frozen_of_row w3 x 2 _ _ X3⟩, K3.out.1, K3.out.2.1, F3.out.heapAt (w := V.drew) GV.out (by exact NE.out.2.2),
        ((FW.out.mono (T := fun k => k = o ∨ k = x ∨ k = g) (fun k hk => .inr (.inl hk))).trans ((FWV.out.drew).mono (T := fun k => k = o ∨ k = x ∨ k = g) (fun k hk => by omega))).trans (F3.out.mono (T := fun k => k = o ∨ k = x ∨ k = g) (fun k hk => .inl hk))⟩
end Go.Proofs.YtocepiogpeafoaaGreatDoor
