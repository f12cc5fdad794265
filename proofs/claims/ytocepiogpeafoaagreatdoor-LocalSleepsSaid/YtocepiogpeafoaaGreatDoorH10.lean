/- Words and contracts of calls that the law needs (Own0, Makes): merged by wip/gen/zmerge.py. No condition but those that each theorem names. -/
import Derived.Test.YtocepiogpeafoaaGreatDoorProg
import Derived.Laws.MakeOwn
import Derived.ProofKit
import Derived.Test.YtocepiogpeafoaaGreatDoorH02
import Derived.Test.YtocepiogpeafoaaGreatDoorH07
import Derived.Test.YtocepiogpeafoaaGreatDoorH09
set_option linter.unusedVariables false
/- local.own of a program without tables; local.ends of no links; isDomain: the walks. -/
namespace Go.Proofs.YtocepiogpeafoaaGreatDoor
open Go.RowKit
set_option linter.unusedVariables false
theorem isDomain_yes (n : Int) (w : World) (h0 : 0 ≤ n) (h1 : n < 16) : Calls Tryz.prog 41 #[.int .i64 n] w fun e w' => e = .returned (.bool true) ∧ w = w' := by
  go_enter Tryz.func41, Tryz.ntmps41
  go_wp2
  go_ret
  exact ⟨rfl, rfl⟩
theorem keep3 {w W w' : World} {B : Nat} {a b c : Value} (h : Fr E0 w W ∧ W.cell? ⟨B, 0, none⟩ = some a ∧ W.cell? ⟨B, 1, none⟩ = some b ∧ W.cell? ⟨B, 2, none⟩ = some c) (hf : Fr E0 W w') :
    Fr E0 w w' ∧ w'.cell? ⟨B, 0, none⟩ = some a ∧ w'.cell? ⟨B, 1, none⟩ = some b ∧ w'.cell? ⟨B, 2, none⟩ = some c :=
  ⟨h.1.trans hf, hf.cell h.2.1 (fun x => x), hf.cell h.2.2.1 (fun x => x), hf.cell h.2.2.2 (fun x => x)⟩
def OwnPost (p : Prg) (w : World) (e : Ending) (w' : World) : Prop := ∃ A n c B m d, e = .returned (.agg #[.slice A n c, .slice B m d, .slice none 0 0]) ∧ RowF w' (New w) 37 1 (.slice A n c) (codeC p.code) ∧ RowF w' (New w) 39 2 (.slice B m d) (fnC p.funcs) ∧ Fr E0 w w'
/-- behind the region that copies: the copy's block b, and the cell of the result -/
structure OwnCut (p : Prg) (w W : World) (b : Nat) (v1 v2 : Value) : Prop where
  code : RowF W (New w) 37 1 v1 (codeC p.code)
  funcs : RowF W (New w) 39 2 v2 (fnC p.funcs)
  blk : W.heap[b]? = some (.cells #[v1, v2, .slice none 0 0] 29 (0, 0))
  res : W.heap[w.heap.size + 1]? = some (.cells #[.slice none 0 0, .slice none 0 0, .slice none 0 0] 29 (0, 0))
  src : W.cell? ⟨w.heap.size, 2, none⟩ = some (.slice none 0 0)
  fr : Fr E0 w W
theorem own_fin {p : Prg} {w W : World} {b : Nat} {v1 v2 x y z c0 c1 : Value} (h1 : RowF W (New w) 37 1 v1 (codeC p.code)) (h2 : RowF W (New w) 39 2 v2 (fnC p.funcs)) (hb : W.heap[b]? = some (.cells #[x, y, z] 29 (0, 0)))
    (hT : W.heap[w.heap.size + 1]? = some (.cells #[.slice none 0 0, .slice none 0 0, .slice none 0 0] 29 (0, 0))) (hs : Fr E0 w W ∧ W.cell? ⟨w.heap.size, 0, none⟩ = some c0 ∧ W.cell? ⟨w.heap.size, 1, none⟩ = some c1 ∧ W.cell? ⟨w.heap.size, 2, none⟩ = some (.slice none 0 0)) (hlb : w.heap.size + 2 ≤ b) :
    OwnCut p w (((W.setCell ⟨b, 0, none⟩ v1).setCell ⟨b, 1, none⟩ v2).setCell ⟨b, 2, none⟩ (.slice none 0 0)) b v1 v2 := by
  have ho : ∀ k, k ≠ b → (((W.setCell ⟨b, 0, none⟩ v1).setCell ⟨b, 1, none⟩ v2).setCell ⟨b, 2, none⟩ (.slice none 0 0)).heap[k]? = W.heap[k]? := fun k hk => by
    rw [heap_setCell_other _ _ _ _ hk, heap_setCell_other _ _ _ _ hk, heap_setCell_other _ _ _ _ hk]
  refine ⟨h1.same (fun g hg => ho g ?_), h2.same (fun g hg => ho g ?_), heap_setCell_same _ _ _ _ _ _ (heap_setCell_same _ _ _ _ _ _ (heap_setCell_same _ _ _ _ _ _ hb)), (ho _ (by omega)).trans hT, (World.cell?_of_block (ho _ (by show w.heap.size ≠ b; omega))).trans hs.2.2.2, ((hs.1.setNew _ (by omega)).setNew _ (by omega)).setNew _ (by omega)⟩
  · rintro rfl
    obtain ⟨cur, hc⟩ := h1.heap hg
    rw [hb] at hc; injection hc with hc; injection hc with _ hc _; exact absurd hc (by decide)
  · rintro rfl
    obtain ⟨cur, hc⟩ := h2.heap hg
    rw [hb] at hc; injection hc with hc; injection hc with _ hc _; exact absurd hc (by decide)
theorem own_fin' {p : Prg} {w W : World} {v1 v2 c0 c1 : Value} (h1 : RowF W (New w) 37 1 v1 (codeC p.code)) (h2 : RowF W (New w) 39 2 v2 (fnC p.funcs))
    (hT : W.heap[w.heap.size + 1]? = some (.cells #[.slice none 0 0, .slice none 0 0, .slice none 0 0] 29 (0, 0))) (hs : Fr E0 w W ∧ W.cell? ⟨w.heap.size, 0, none⟩ = some c0 ∧ W.cell? ⟨w.heap.size, 1, none⟩ = some c1 ∧ W.cell? ⟨w.heap.size, 2, none⟩ = some (.slice none 0 0)) :
    OwnCut p w (W.alloc (.cells #[v1, v2, .slice none 0 0] 29)) W.heap.size v1 v2 := by
  have hf := (Fr.refl (S := E0) (w := W)).alloc (.cells #[v1, v2, .slice none 0 0] 29)
  exact ⟨h1.fr hf (fun _ _ x => x), h2.fr hf (fun _ _ x => x), heap_alloc_new W _, hf.heapAt hT (fun x => x), hf.cell hs.2.2.2 (fun x => x), hs.1.trans hf⟩
theorem heap_set3 {w : World} {g : Nat} {t : TypeId} {c0 c1 c2 : Value} (h : w.heap[g]? = some (.cells #[c0, c1, c2] t (0, 0))) (v0 v1 v2 : Value) :
    (((w.setCell ⟨g, 0, none⟩ v0).setCell ⟨g, 1, none⟩ v1).setCell ⟨g, 2, none⟩ v2).heap[g]? = some (.cells #[v0, v1, v2] t (0, 0)) :=
  heap_setCell_same _ _ _ _ _ _ (heap_setCell_same _ _ _ _ _ _ (heap_setCell_same _ _ _ _ _ _ h))
/-- a row where a block of another type is written -/
theorem row_past {w : World} {F : Nat → Prop} {e sz g : Nat} {v : Value} {xs : List Value} {cs : Array Value} {t : TypeId} {a b c : Value} (h : RowF w F e sz v xs) (hg : w.heap[g]? = some (.cells cs t (0, 0))) (ht : e ≠ t) :
    RowF (((w.setCell ⟨g, 0, none⟩ a).setCell ⟨g, 1, none⟩ b).setCell ⟨g, 2, none⟩ c) F e sz v xs := by
  refine h.same (fun k hk => ?_)
  have hne : k ≠ g := by
    rintro rfl
    obtain ⟨cur, hc⟩ := h.heap hk
    rw [hg] at hc; injection hc with hc; injection hc with _ hc _; exact ht hc.symm
  rw [heap_setCell_other _ _ _ _ hne, heap_setCell_other _ _ _ _ hne, heap_setCell_other _ _ _ _ hne]
theorem keep3s {w W : World} {a b c : Value} {T : Addr} {u : Value} (hT : w.heap.size + 2 ≤ T.block) (h : Fr E0 w W ∧ W.cell? ⟨w.heap.size, 0, none⟩ = some a ∧ W.cell? ⟨w.heap.size, 1, none⟩ = some b ∧ W.cell? ⟨w.heap.size, 2, none⟩ = some c) :
    Fr E0 w (W.setCell T u) ∧ (W.setCell T u).cell? ⟨w.heap.size, 0, none⟩ = some a ∧ (W.setCell T u).cell? ⟨w.heap.size, 1, none⟩ = some b ∧ (W.setCell T u).cell? ⟨w.heap.size, 2, none⟩ = some c := by
  have hx : ∀ j, (W.setCell T u).cell? ⟨w.heap.size, j, none⟩ = W.cell? ⟨w.heap.size, j, none⟩ := fun j => World.cell?_of_block (w := W) (heap_setCell_other _ _ _ _ (by show w.heap.size ≠ T.block; omega))
  exact ⟨h.1.setCell _ (.inr (by omega)), (hx 0).trans h.2.1, (hx 1).trans h.2.2.1, (hx 2).trans h.2.2.2⟩
set_option maxHeartbeats 4000000 in
theorem own0_ok {w : World} {vc vf : Value} {p : Prg} (hc : Rd w vc 1 (codeC p.code)) (hf : Rd w vf 2 (fnC p.funcs)) (hcl : p.code.length ≤ 4096) (hfl : p.funcs.length ≤ 256) :
    Calls Tryz.prog 46 #[.agg #[vc, vf, .slice none 0 0]] w (OwnPost p w) := by
  have H1 := hid hc
  have H2 := hid hf
  obtain ⟨A0, n0, c0, rfl, _⟩ := hc
  obtain ⟨A1, n1, c1, rfl, _⟩ := hf
  go_enter Tryz.func46, Tryz.ntmps46
  go_wp2_with fail
  generalize hW : ((w.alloc (Obj.cells #[.slice A0 n0 c0, .slice A1 n1 c1, .slice none 0 0] 29)).alloc _) = W
  have hA : Fr E0 w W := by rw [← hW]; exact (Fr.refl.alloc _).alloc _
  have hP : W.heap[w.heap.size]? = some (.cells #[.slice A0 n0 c0, .slice A1 n1 c1, .slice none 0 0] 29 (0, 0)) := by rw [← hW]; exact heap_alloc2_old w _ _
  have hT : W.heap[w.heap.size + 1]? = some (.cells #[.slice none 0 0, .slice none 0 0, .slice none 0 0] 29 (0, 0)) := by rw [← hW]; exact heap_alloc2_new w _ _
  have hws : w.heap.size + 2 = W.heap.size := by rw [← hW]; simp
  have q0 := cell_of_row W w.heap.size 0 _ _ _ hP
  have q1 := cell_of_row W w.heap.size 1 _ _ _ hP
  have q2 := cell_of_row W w.heap.size 2 _ _ _ hP
  have HC := hid (And.intro (hA.drew) (And.intro q0 (And.intro q1 q2)))
  have HT := hid hT
  clear hW hA hP hT q0 q1 q2
  go_region_held3 (fun w' => Fr E0 w w' ∧ w'.cell? ⟨w.heap.size, 0, none⟩ = some (.slice A0 n0 c0) ∧ w'.cell? ⟨w.heap.size, 1, none⟩ = some (.slice A1 n1 c1) ∧ w'.cell? ⟨w.heap.size, 2, none⟩ = some (.slice none 0 0))
    (first | exact keep3s TL.out (keep3s TL.out (keep3s TL.out hk2.out)) | exact keep3 hk2.out (Fr.refl.alloc _) | exact keep3 hk1.out (Fr.refl.alloc _) | exact keep3 HC.out (Fr.refl.alloc _) | exact hk2.out | exact hk1.out | exact HC.out)
    (first
      | (go_at_call 142; (with_reducible refine (cloneU (codeC p.code) _ _ _ (H1.out.fr (by exact (‹Fr E0 w _ ∧ _›).1)) (codeC_len _) (codeC_one _) (by omega)).mono ?_); rintro e w1 ⟨v1, rfl, hr1, hg1⟩; obtain ⟨B1, m1, d1, rfl⟩ := hr1.shape; have hk1 := hid (keep3 (by assumption) hg1); have R1 := hid hr1; have G1 := hid hg1; have Z1 := hid hg1.size; first | (have T1 := hid (hg1.heapAt (heap_alloc_new _ _) (fun x => x)); clear hr1 hg1) | clear hr1 hg1)
      | (go_at_call 143; (with_reducible refine (cloneF (fnC p.funcs) _ _ _ (H2.out.fr (by exact (‹Fr E0 w _ ∧ _›).1)) (fnC_len _) (fnC_one _) (by omega)).mono ?_); rintro e w2 ⟨v2, rfl, hr2, hg2⟩; obtain ⟨B2, m2, d2, rfl⟩ := hr2.shape; have hk2 := hid (keep3 (by assumption) hg2); have R2 := hid hr2; have G2 := hid hg2; first | (have T2 := hid (hg2.heapAt T1.out (fun x => x)); have TL := hid (show w.heap.size + 2 ≤ W.heap.size by omega); have t0 := cell_of_row w2 _ 0 _ _ _ T2.out; have t1 := cell_of_row w2 _ 1 _ _ _ T2.out; have t2 := cell_of_row w2 _ 2 _ _ _ T2.out; have tf0 := frozen_of_row w2 _ 0 _ _ T2.out; have tf1 := frozen_of_row w2 _ 1 _ _ T2.out; have tf2 := frozen_of_row w2 _ 2 _ _ T2.out; have tl := heap_lt T2.out; clear hr2 hg2) | (have T2 := hid (hg2.heapAt (heap_alloc_new _ _) (fun x => x)); have TL := hid (show w.heap.size + 2 ≤ w1.heap.size by have := Z1.out; simp at this; omega); have t0 := cell_of_row w2 _ 0 _ _ _ T2.out; have t1 := cell_of_row w2 _ 1 _ _ _ T2.out; have t2 := cell_of_row w2 _ 2 _ _ _ T2.out; have tf0 := frozen_of_row w2 _ 0 _ _ T2.out; have tf1 := frozen_of_row w2 _ 1 _ _ T2.out; have tf2 := frozen_of_row w2 _ 2 _ _ T2.out; have tl := heap_lt T2.out; clear hr2 hg2) | clear hr2 hg2))
  all_goals
    have HT2 := hid (show w2.heap[w.heap.size + 1]? = some (.cells #[.slice none 0 0, .slice none 0 0, .slice none 0 0] 29 (0, 0)) from by
      have z := Z1.out
      simp at z
      first
        | exact G2.out.heapAt (G1.out.heapAt (w := W.drew) HT.out (fun x => x)) (fun x => x)
        | exact G2.out.heapAt (G1.out.heapAt ((heap_alloc_old W.drew _ (by show w.heap.size + 1 < W.heap.size; omega)).trans HT.out) (fun x => x)) (fun x => x)
        | exact G2.out.heapAt ((heap_alloc_old w1 _ (by omega)).trans (G1.out.heapAt (w := W.drew) HT.out (fun x => x))) (fun x => x))
    have hzz : W.heap.size ≤ w1.heap.size := by have z := Z1.out; simp at z; omega
    have F12 := hid (show Fr E0 w1 w2 from by first | exact G2.out | exact (Fr.refl.alloc _).trans G2.out)
    have R1' := hid ((R1.out.fr F12.out (fun _ _ x => x)).mono (F' := New w) (fun q hq => by unfold New at *; (try simp at hq); omega))
    have R2' := hid (R2.out.mono (F' := New w) (fun q hq => by unfold New at *; (try simp at hq); omega))
    first
      | have CUT := hid (own_fin (p := p) R1'.out R2'.out T2.out HT2.out hk2.out TL.out)
      | have CUT := hid (own_fin' (p := p) R1'.out R2'.out HT2.out hk2.out)
    clear HT2 R1' R2' R1 R2 G1 G2 Z1 HT HC hk1 hk2 F12
    clear ‹Fr E0 w _ ∧ _›
    first
      | (clear T2 TL t0 t1 t2 tf0 tf1 tf2 tl; generalize ((World.setCell w2 _ _).setCell _ _).setCell _ _ = W5 at *)
      | (generalize World.alloc w2 (.cells #[.slice B1 m1 d1, .slice B2 m2 d2, .slice none 0 0] 29) = W5 at *)
    have k0 := cell_of_row W5 _ 0 _ _ _ CUT.out.blk
    have k1 := cell_of_row W5 _ 1 _ _ _ CUT.out.blk
    have k2 := cell_of_row W5 _ 2 _ _ _ CUT.out.blk
    have ks := CUT.out.src
    obtain ⟨r0, r1, r2⟩ := (⟨cell_of_row W5 _ 0 _ _ _ CUT.out.res, cell_of_row W5 _ 1 _ _ _ CUT.out.res, cell_of_row W5 _ 2 _ _ _ CUT.out.res⟩ : _ ∧ _ ∧ _)
    have rf : ∀ j, W5.frozen? ⟨w.heap.size + 1, j, none⟩ = false := fun j => frozen_of_row W5 _ j _ _ CUT.out.res
    go_wp2
    go_loopw [16] (fun i wr => i = .int .i64 0 ∧ wr = W5) (fun _ _ => 0)
    case atStart => exact ⟨rfl, rfl⟩
    case round =>
      obtain ⟨rfl, rfl⟩ := hrel
      go_wp2
      have HF5 := hid (heap_set3 CUT.out.res (.slice B1 m1 d1) (.slice B2 m2 d2) (.slice none 0 0))
      exact bodyPost_ret (v := .agg #[.slice B1 m1 d1, .slice B2 m2 d2, .slice none 0 0]) (results_cell_row rfl _ _ (w.heap.size + 1) 29 _ (0, 0) _ rfl HF5.out Tryz.underlying29 rfl (by kernel_rfl)) rfl
        ⟨B1, m1, d1, B2, m2, d2, rfl, row_past CUT.out.code CUT.out.res (by decide), row_past CUT.out.funcs CUT.out.res (by decide), ((CUT.out.fr.setNew _ (by omega)).setNew _ (by omega)).setNew _ (by omega)⟩
end Go.Proofs.YtocepiogpeafoaaGreatDoor
/- channel.New, sema.New, heap.New, timer.New, cells.New, slab.New: the walks. -/
namespace Go.Proofs.YtocepiogpeafoaaGreatDoor
open Go.RowKit
set_option linter.unusedVariables false
def PtrTo (t : TypeId) (cs : Array Value) (w : World) (e : Ending) (w' : World) : Prop := ∃ g, e = .returned (.pointer (some ⟨g, 0, none⟩)) ∧ w'.heap[g]? = some (.cells cs t (0, 0)) ∧ w.heap.size ≤ g ∧ Fr E0 w w'
theorem channelNew_ok (w : World) : Calls Tryz.prog 49 #[] w (PtrTo 251 #[.bool true, .slice none 0 0] w) := by
  have H := hid (show PtrTo 251 #[.bool true, .slice none 0 0] w (.returned (.pointer (some ⟨w.heap.size, 0, none⟩))) (w.alloc (.cells #[.bool true, .slice none 0 0] 251)) from
    ⟨_, rfl, heap_alloc_new w _, Nat.le_refl _, Fr.refl.alloc _⟩)
  go_enter Tryz.func49, Tryz.ntmps49
  go_wp2
  go_ret
  exact H.out
theorem infoM : (Tryz.prog.info? 258).map (fun i => (i.zero, i.size, i.bytes)) = some (some (.agg #[.slice none 0 0, .bool false, .int .i64 0]), 3, 40) := by kernel_rfl
theorem infoCo : (Tryz.prog.info? 273).map (fun i => (i.zero, i.size, i.bytes)) = some (some (.agg #[.slice none 0 0, .int .i64 0]), 2, 32) := by kernel_rfl
theorem infoCd : (Tryz.prog.info? 284).map (fun i => (i.zero, i.size, i.bytes)) = some (some (.agg #[.slice none 0 0]), 1, 24) := by kernel_rfl
def SemaPost (w : World) (e : Ending) (w' : World) : Prop := ∃ g, e = .returned (.pointer (some ⟨g, 0, none⟩)) ∧ Fr E0 w w'
set_option maxHeartbeats 8000000 in
theorem semaNew_ok (w : World) : Calls Tryz.prog 50 #[] w (SemaPost w) := by
  obtain ⟨i0, hi0, hz0, hz1, hz2⟩ := info_parts infoM
  have hm0 : ∀ u : World, (Instr.makeSlice 259 (.int .i64 256) (.int .i64 256)).run Tryz.prog u = .ok (.slice (some ⟨u.heap.size, 0, none⟩) 256 256) (u.alloc (.cells (madeCells #[.slice none 0 0, .bool false, .int .i64 0] (256 * 3)) 258)) := fun u => by
    have h := run_make (P := Tryz.prog) u 259 258 i0 (.agg #[.slice none 0 0, .bool false, .int .i64 0]) Tryz.underlying259 hi0 hz0 .i64 .i64 256 256 (by omega) (Int.le_refl _) (by rw [hz2]; omega) (by omega)
    simpa [hz1, Value.cells] using h
  clear hi0 hz0 hz1 hz2
  obtain ⟨i1, hi0, hz0, hz1, hz2⟩ := info_parts infoCo
  have hm1 : ∀ u : World, (Instr.makeSlice 260 (.int .i64 256) (.int .i64 256)).run Tryz.prog u = .ok (.slice (some ⟨u.heap.size, 0, none⟩) 256 256) (u.alloc (.cells (madeCells #[.slice none 0 0, .int .i64 0] (256 * 2)) 273)) := fun u => by
    have h := run_make (P := Tryz.prog) u 260 273 i1 (.agg #[.slice none 0 0, .int .i64 0]) Tryz.underlying260 hi0 hz0 .i64 .i64 256 256 (by omega) (Int.le_refl _) (by rw [hz2]; omega) (by omega)
    simpa [hz1, Value.cells] using h
  clear hi0 hz0 hz1 hz2
  obtain ⟨i2, hi0, hz0, hz1, hz2⟩ := info_parts infoCd
  have hm2 : ∀ u : World, (Instr.makeSlice 261 (.int .i64 256) (.int .i64 256)).run Tryz.prog u = .ok (.slice (some ⟨u.heap.size, 0, none⟩) 256 256) (u.alloc (.cells (madeCells #[.slice none 0 0] (256 * 1)) 284)) := fun u => by
    have h := run_make (P := Tryz.prog) u 261 284 i2 (.agg #[.slice none 0 0]) Tryz.underlying261 hi0 hz0 .i64 .i64 256 256 (by omega) (Int.le_refl _) (by rw [hz2]; omega) (by omega)
    simpa [hz1, Value.cells] using h
  clear hi0 hz0 hz1 hz2
  go_enter Tryz.func50, Tryz.ntmps50
  go_wp2
  go_region
  all_goals (go_wp2; go_ret; exact ⟨_, rfl, by repeat (with_reducible first | exact Fr.refl | refine Fr.alloc ?_ _ | refine Fr.drew ?_)⟩)
end Go.Proofs.YtocepiogpeafoaaGreatDoor
