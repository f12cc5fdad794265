/- Words and contracts of calls that the law needs (Spawn, Ends): merged by wip/gen/zmerge.py. No condition but those that each theorem names. -/
import Derived.Test.YtocepiogpeafoaaGreatDoorH02
import Derived.Test.YtocepiogpeafoaaGreatDoorH03
import Derived.Test.YtocepiogpeafoaaGreatDoorH04
import Derived.Test.YtocepiogpeafoaaGreatDoorH05
import Derived.Test.YtocepiogpeafoaaGreatDoorH07
set_option linter.unusedVariables false
/- (*local.Domain).spawn of the main goroutine: the walk. -/
namespace Go.Proofs.YtocepiogpeafoaaGreatDoor
open Go.RowKit
set_option linter.unusedVariables false
/-- a goroutine that can run, at a word, all registers 0 -/
def gorRow (b : Int) : Array Value := #[.int .i64 0, .int .i64 1, .int .i64 1, .int .i64 b, .int .i64 0, .int .i64 0, .int .i64 0, .int .i64 0, .int .i64 0, .int .i64 0, .int .i64 0, .int .i64 0, .int .i64 0, .int .i64 0, .int .i64 0, .int .i64 0, .int .i64 0, .int .i64 0, .int .i64 0, .int .i64 0, .slice none 0 0, .int .i64 0, .int .i64 0, .int .i64 0, .int .i64 0, .int .i64 0]
theorem spKeep {w0 W w' : World} {g B : Nat} {vc vf vt : Value} (h : Fr E0 w0 W ∧ W.cell? ⟨g, 0, none⟩ = some vc ∧ W.cell? ⟨g, 1, none⟩ = some vf ∧ W.cell? ⟨g, 2, none⟩ = some vt ∧ W.rangeAt B 0 [.int .i64 0, .int .i64 0, .int .i64 0, .int .i64 0, .int .i64 0, .int .i64 0, .int .i64 0, .int .i64 0, .int .i64 0, .int .i64 0, .int .i64 0, .int .i64 0, .int .i64 0, .int .i64 0, .int .i64 0, .int .i64 0]) (hf : Fr E0 W w') : Fr E0 w0 w' ∧ w'.cell? ⟨g, 0, none⟩ = some vc ∧ w'.cell? ⟨g, 1, none⟩ = some vf ∧ w'.cell? ⟨g, 2, none⟩ = some vt ∧ w'.rangeAt B 0 [.int .i64 0, .int .i64 0, .int .i64 0, .int .i64 0, .int .i64 0, .int .i64 0, .int .i64 0, .int .i64 0, .int .i64 0, .int .i64 0, .int .i64 0, .int .i64 0, .int .i64 0, .int .i64 0, .int .i64 0, .int .i64 0] := by
  obtain ⟨h, h0, h1, h2, h3⟩ := h
  exact ⟨h.trans hf, hf.cell h0 (fun x => x), hf.cell h1 (fun x => x), hf.cell h2 (fun x => x), fun j v hv => hf.cell (h3 j v hv) (fun x => x)⟩
theorem spKeepS {w0 W : World} {g B : Nat} {vc vf vt : Value} {T : Addr} {u : Value} (hT : w0.heap.size + 1 ≤ T.block) (hg : g < w0.heap.size) (hb : B = w0.heap.size) (h : Fr E0 w0 W ∧ W.cell? ⟨g, 0, none⟩ = some vc ∧ W.cell? ⟨g, 1, none⟩ = some vf ∧ W.cell? ⟨g, 2, none⟩ = some vt ∧ W.rangeAt B 0 [.int .i64 0, .int .i64 0, .int .i64 0, .int .i64 0, .int .i64 0, .int .i64 0, .int .i64 0, .int .i64 0, .int .i64 0, .int .i64 0, .int .i64 0, .int .i64 0, .int .i64 0, .int .i64 0, .int .i64 0, .int .i64 0]) : Fr E0 w0 (W.setCell T u) ∧ (W.setCell T u).cell? ⟨g, 0, none⟩ = some vc ∧ (W.setCell T u).cell? ⟨g, 1, none⟩ = some vf ∧ (W.setCell T u).cell? ⟨g, 2, none⟩ = some vt ∧ (W.setCell T u).rangeAt B 0 [.int .i64 0, .int .i64 0, .int .i64 0, .int .i64 0, .int .i64 0, .int .i64 0, .int .i64 0, .int .i64 0, .int .i64 0, .int .i64 0, .int .i64 0, .int .i64 0, .int .i64 0, .int .i64 0, .int .i64 0, .int .i64 0] := by
  subst hb
  obtain ⟨h, h0, h1, h2, h3⟩ := h
  have hx : ∀ k j, k < w0.heap.size + 1 → (W.setCell T u).cell? ⟨k, j, none⟩ = W.cell? ⟨k, j, none⟩ := fun k j hk => World.cell?_of_block (w := W) (heap_setCell_other _ _ _ _ (by show k ≠ T.block; omega))
  exact ⟨h.setCell _ (.inr (by omega)), (hx _ _ (by omega)).trans h0, (hx _ _ (by omega)).trans h1, (hx _ _ (by omega)).trans h2, fun j v hv => (hx _ _ (by omega)).trans (h3 j v hv)⟩
theorem ne0 (k : Nat) : ¬ E0 k := fun x => x
theorem heap_alloc_drew (w : World) (o : Obj) : (w.alloc o).drew.heap[w.heap.size]? = some o := heap_alloc_new w o
/-- what spawn leaves -/
def SpawnPost (gs : Int) (p sl a m : Nat) (b : Int) (w : World) (e : Ending) (w' : World) : Prop := ∃ x, e = .returned (tup2 (.pointer (some ⟨x, 0, none⟩)) (.int .i64 0)) ∧ w'.heap[x]? = some (.cells (gorRow b) 110 (0, 0)) ∧
  w'.heap[m]? = some (.map #[⟨.int .i64 0, .pointer (some ⟨x, 0, none⟩), 0⟩] 1) ∧ SlabOne gs p sl a w w' ∧ w.heap.size ≤ x ∧ Fr (fun k => k = sl ∨ k = a ∨ k = m) w w'
theorem SlabOne.fr {gs : Int} {p g a : Nat} {w0 w w1 w2 : World} {S : Nat → Prop} (h : SlabOne gs p g a w w1) (hf : Fr S w1 w2) (hg : ¬ S g) (hs : ∀ k, S k → k < w.heap.size) (h0 : w0.heap.size ≤ w.heap.size) : SlabOne gs p g a w0 w2 := by
  obtain ⟨A, B, cA, cB, rA, rB, h1, h2, h3, h4, h5⟩ := h
  exact ⟨A, B, cA, cB, rA, rB, hf.heapAt h1 hg, hf.heapAt h2 (fun x => by have := hs _ x; omega), hf.heapAt h3 (fun x => by have := hs _ x; omega), by omega, by omega⟩
set_option maxRecDepth 20000 in
set_option maxHeartbeats 40000000 in
theorem spawn0_ok {w : World} {g sl a m p : Nat} {gs : Int} {vc vf vt : Value} {pr : Prg} {ts : List (Tb × Value)} {f : Fn} (hp : RdP w vc vf vt pr ts) (hf : pr.funcs[0]? = some f)
    (g0 : w.cell? ⟨g, 0, none⟩ = some vc) (g1 : w.cell? ⟨g, 1, none⟩ = some vf) (g2 : w.cell? ⟨g, 2, none⟩ = some vt) (g9 : w.cell? ⟨g, 9, none⟩ = some (.pointer (some ⟨sl, 0, none⟩))) (g10 : w.cell? ⟨g, 10, none⟩ = some (.map (some m)))
    (hs : SlabNew gs p sl a w) (hm : w.heap[m]? = some (.map #[] 0)) (h0 : 1 ≤ gs) (h1 : 1 ≤ p) (n1 : sl ≠ a) (n2 : g ≠ sl) (n3 : g ≠ a) (n4 : m ≠ sl) (n5 : m ≠ a) (n6 : g ≠ m) :
    Calls Tryz.prog 52 #[.pointer (some ⟨g, 0, none⟩), .int .i64 0, .int .i64 0, .agg regs0] w (SpawnPost gs p sl a m f.b w) := by
  have HP := hid hp
  have HF := hid hf
  have G9 := hid g9
  have G10 := hid g10
  have HS := hid hs
  have HM := hid hm
  have hg := World.block_lt_of_cell? w _ g0
  unfold regs0
  go_enter Tryz.func52, Tryz.ntmps52
  go_wp2_with fail
  generalize hW : (w.alloc _) = W
  have hA : Fr E0 w W := by rw [← hW]; exact Fr.refl.alloc _
  have hB : W.heap[w.heap.size]? = some (.cells regs0 104 (0, 0)) := by rw [← hW]; exact heap_alloc_new w _
  have hws : w.heap.size + 1 = W.heap.size := by rw [← hW]; simp
  have HC := hid (show Fr E0 w W ∧ W.cell? ⟨g, 0, none⟩ = some vc ∧ W.cell? ⟨g, 1, none⟩ = some vf ∧ W.cell? ⟨g, 2, none⟩ = some vt ∧ W.rangeAt w.heap.size 0 [.int .i64 0, .int .i64 0, .int .i64 0, .int .i64 0, .int .i64 0, .int .i64 0, .int .i64 0, .int .i64 0, .int .i64 0, .int .i64 0, .int .i64 0, .int .i64 0, .int .i64 0, .int .i64 0, .int .i64 0, .int .i64 0] from ⟨hA, hA.cell g0 (fun x => x), hA.cell g1 (fun x => x), hA.cell g2 (fun x => x), fun j v hv => by
    rw [cell_of_row W w.heap.size (0 + j) _ _ _ hB, Nat.zero_add]
    simpa [regs0] using hv⟩)
  obtain ⟨ca, hca⟩ : ∃ ca : Array Value, #[.int .i64 f.b, .int .i64 0, .int .i64 0, .int .i64 0, .int .i64 0, .int .i64 0, .int .i64 0, .int .i64 0, .int .i64 0, .int .i64 0, .int .i64 0, .int .i64 0, .int .i64 0, .int .i64 0, .int .i64 0, .int .i64 0, .int .i64 0, .slice none 0 0] = ca := ⟨_, rfl⟩
  have hcv : ctx0 f.b = .agg ca := by rw [← hca]; rfl
  obtain ⟨cl, hcl⟩ : ∃ cl, ca.toList = cl := ⟨_, rfl⟩
  have hsz : ca.size = 18 := by rw [← hca]; rfl
  have BW : Hid (∀ u, RdP u vc vf vt pr ts → Calls Tryz.prog 146 #[.agg #[vc, vf, vt], .int .i64 0, .agg regs0] u (NewW3 (.tuple #[.agg ca, .int .i64 0]) u)) := hid (fun u hu => by
    have := begin_w hu HF.out
    rw [hcv] at this; exact this)
  have hst : ∀ (u : World) (T : Nat), FitsN 106 18 u T → (storeCells ⟨T, 0, none⟩ cl).run Tryz.prog u = .ok () (setMap u T (.cells ca 106 (0, 0))) := fun u T h => by
    rw [← hcl]; exact run_store_fits h hsz (by rw [← hca]; intro v hv; simp at hv; rcases hv with rfl | rfl | rfl <;> rfl)
  have hf1 : ∀ (u : World) (T : Nat), T = u.heap.size → FitsN 106 18 (u.alloc (.cells #[.int .i64 0, .int .i64 0, .int .i64 0, .int .i64 0, .int .i64 0, .int .i64 0, .int .i64 0, .int .i64 0, .int .i64 0, .int .i64 0, .int .i64 0, .int .i64 0, .int .i64 0, .int .i64 0, .int .i64 0, .int .i64 0, .int .i64 0, .slice none 0 0] 106)) T := fun u T h => fitsN_new _ _ _ rfl u T h
  have hf2 : ∀ (u : World) (T : Nat) (X : Obj), FitsN 106 18 u T → FitsN 106 18 (u.alloc X) T := fun u T X h => fitsN_old X h
  have hf3 : ∀ (u : World) (T : Nat), FitsN 106 18 u T → FitsN 106 18 u.drew T := fun u T h => h
  have hf4 : ∀ (u : World) (T k : Nat), FitsN 106 18 u T → FitsN 106 18 (u.drewN k) T := fun u T k h => h
  have hf5 : ∀ (X Y Z : Obj) (k : Nat), FitsN 106 18 (((((W.alloc (.cells #[.int .i64 0, .int .i64 0, .int .i64 0, .int .i64 0, .int .i64 0, .int .i64 0, .int .i64 0, .int .i64 0, .int .i64 0, .int .i64 0, .int .i64 0, .int .i64 0, .int .i64 0, .int .i64 0, .int .i64 0, .int .i64 0, .int .i64 0, .slice none 0 0] 106)).alloc X).alloc Y).alloc Z).drewN k) W.heap.size := fun X Y Z k => fitsN_drewN k (fitsN_old Z (fitsN_old Y (fitsN_old X (fitsN_new _ _ _ rfl W _ rfl))))
  have HCA := hid hca
  have hg1 : W.heap.size = W.heap.size := rfl
  clear hcv hca hg1
  have iu := Tryz.underlying104
  have is : (Tryz.prog.info? 104).map (·.size) = some [(Value.int .i64 0), (Value.int .i64 0), (Value.int .i64 0), (Value.int .i64 0), (Value.int .i64 0), (Value.int .i64 0), (Value.int .i64 0), (Value.int .i64 0), (Value.int .i64 0), (Value.int .i64 0), (Value.int .i64 0), (Value.int .i64 0), (Value.int .i64 0), (Value.int .i64 0), (Value.int .i64 0), (Value.int .i64 0)].length := by kernel_rfl
  have hTL := hid (show w.heap.size + 1 ≤ W.heap.size by omega)
  clear hW hA hB hp hf g0 g1 g2 g9 g10 hs hm
  go_region_held3 (fun w' => Fr E0 w w' ∧ w'.cell? ⟨g, 0, none⟩ = some vc ∧ w'.cell? ⟨g, 1, none⟩ = some vf ∧ w'.cell? ⟨g, 2, none⟩ = some vt ∧ w'.rangeAt w.heap.size 0 [.int .i64 0, .int .i64 0, .int .i64 0, .int .i64 0, .int .i64 0, .int .i64 0, .int .i64 0, .int .i64 0, .int .i64 0, .int .i64 0, .int .i64 0, .int .i64 0, .int .i64 0, .int .i64 0, .int .i64 0, .int .i64 0])
    (exact spKeep HC.out (by repeat (with_reducible first | exact Fr.refl | refine Fr.alloc ?_ _ | refine Fr.drew ?_ | refine Fr.drewN ?_ _ | refine Fr.setMap ?_ _ (.inr (by first | exact Nat.le_refl _ | omega)))))
    (first | (go_at_call 146; (refine (BW.out _ (HP.out.fr (by exact (‹Fr E0 w _ ∧ _›).1))).mono ?_); rintro e w1 ⟨rfl, X, Y, Z, n, rfl⟩))
  all_goals
    generalize hU : setMap _ _ (Obj.cells ca 106) = W5
    have FT := hid (show Fr E0 w W5 from by
      rw [← hU]
      have htl := hTL.out
      exact HC.out.1.trans' (T := E0) (by repeat (with_reducible first | exact Fr.refl | refine Fr.alloc ?_ _ | refine Fr.drew ?_ | refine Fr.drewN ?_ _ | refine Fr.setMap ?_ _ (.inr (by first | exact Nat.le_refl _ | omega)))) (fun _ x => x.elim))
    first
      | (have CT : W5.heap[W.heap.size + 1 + 1 + 1]? = some (.cells ca 106 (0, 0)) := (by rw [← hU]; exact setMap_fits _ (hf1 _ _ (by simp)))
         have hTl : w.heap.size + 1 ≤ W.heap.size + 1 + 1 + 1 := (by have htl := hTL.out; omega)
         generalize W.heap.size + 1 + 1 + 1 = T at CT hTl ⊢)
      | (have CT : W5.heap[W.heap.size]? = some (.cells ca 106 (0, 0)) := (by rw [← hU]; exact setMap_fits _ (hf5 X Y Z _))
         have hTl : w.heap.size + 1 ≤ W.heap.size := hTL.out
         generalize W.heap.size = T at CT hTl ⊢)
    clear hU hf1 hf2 hf3 hf4 hf5 hst hcl hsz BW iu is HC hTL hws
    clear ‹Fr E0 w _ ∧ _›
    rw [← HCA.out] at CT
    have CTH := hid CT
    clear CT HCA
    have hg9 := FT.out.cell G9.out (ne0 _)
    have HS5 := hid (show SlabNew gs p sl a W5 from ⟨FT.out.heapAt HS.out.1 (ne0 _), FT.out.heapAt HS.out.2 (ne0 _)⟩)
    have HM5 := hid (FT.out.heapAt HM.out (ne0 _))
    have hg10 := hid (FT.out.cell G10.out (ne0 _))
    go_wp2_with fail
    refine (take0_ok HS5.out h0 h1 n1).mono ?_
    rintro e w2 ⟨rfl, hso, hf2⟩
    have F2 := hid hf2
    have SO := hid hso
    have hsl := heap_lt HS.out.1
    have hal := heap_lt HS.out.2
    have hml := heap_lt HM.out
    have CT2 := F2.out.heapAt CTH.out (by omega)
    have c10 := F2.out.cell hg10.out (by omega)
    have M2 := F2.out.heapAt HM5.out (by omega)
    have hm2 := heap_lt M2
    have hg2 := World.block_lt_of_cell? w2 _ c10
    have hup : ∀ (A B : Obj) (v : Value), (Instr.mapUpdate 91 (.map (some m)) (.int .i64 0) v).run Tryz.prog ((w2.alloc A).alloc B).drew = .ok () (setMap ((w2.alloc A).alloc B).drew m (.map #[⟨.int .i64 0, v, 0⟩] 1)) := fun A B v => by
      have := run_update_new (P := Tryz.prog) (w := ((w2.alloc A).alloc B).drew) (x := 0) (v := v) Tryz.underlying91 Tryz.underlying3 ((heap_alloc_old _ _ (by simp; omega)).trans ((heap_alloc_old _ _ hm2).trans M2)) rfl
      simpa using this
    have M2' := hid M2
    clear hf2 hso CT2 M2 hsl hal hg9
    simp only [tup2]
    have CT3 := hid ((heap_alloc_old w2 (.cells #[.int .i64 0, .int .i64 1] 72) (heap_lt (F2.out.heapAt CTH.out (by have := heap_lt HS.out.1; have := heap_lt HS.out.2; omega)))).trans (F2.out.heapAt CTH.out (by have := heap_lt HS.out.1; have := heap_lt HS.out.2; omega)))
    go_upto_region 7 with fail
    apply wp_region_lit
    refine wpList_load_row rfl 72 _ rfl w2.heap.size rfl 72 #[.int .i64 0, .int .i64 1] (0, 0) _ (by exact heap_alloc_new w2 _) Tryz.underlying72 rfl (by kernel_rfl) ?_
    refine wpList_load_row rfl 106 _ rfl T rfl 106 _ (0, 0) _ CT3.out Tryz.underlying106 rfl (by kernel_rfl) ?_
    refine wpList_build_eq rfl 110 _ rfl (gorRow f.b) (by kernel_rfl) ?_
    simp only [Act.put, List.setIfInBounds_toArray, List.set_cons_zero, List.set_cons_succ]
    go_upto_region 8 with fail
    go_region
    go_wp2
    have hs1 := FT.out.size
    have hs2 := F2.out.size
    have hsl := heap_lt HS.out.1
    have hal := heap_lt HS.out.2
    go_ret2
    refine ⟨w2.heap.size + 1, rfl, ?_, ?_, SO.out.fr (S := fun k => k = m) (((Fr.refl.alloc _).alloc _).drew.setMap _ (.inl rfl)) (fun e => n4 e.symm) (fun k hk => by subst hk; omega) hs1, by omega, ?_⟩
    · exact (setMap_other (by omega)).trans (heap_alloc2_new w2 _ _)
    · exact setMap_at ((heap_alloc_old _ _ (by simp; omega)).trans ((heap_alloc_old _ _ hm2).trans M2'.out))
    · exact ((FT.out.e0.trans (F2.out.mono (fun k hk => hk.elim .inl (fun h => .inr (.inl h))))).alloc _ |>.alloc _).drew.setMap _ (.inl (.inr (.inr rfl)))
end Go.Proofs.YtocepiogpeafoaaGreatDoor
/- local.ends of no links: the walk. -/
namespace Go.Proofs.YtocepiogpeafoaaGreatDoor
open Go.RowKit
set_option linter.unusedVariables false
theorem infoPort : (Tryz.prog.info? 159).map (fun i => (i.zero, i.size, i.bytes)) = some (some (.pointer none), 1, 8) := by kernel_rfl
def EndsPost (w : World) (e : Ending) (w' : World) : Prop := ∃ b, e = .returned (tup2 (.slice (some ⟨b, 0, none⟩) 0 0) (.bool true)) ∧ Fr E0 w w'
theorem ends0_ok (n : Int) (w : World) : Calls Tryz.prog 45 #[.int .i64 n, .slice none 0 0] w (EndsPost w) := by
  obtain ⟨i0, hi0, hz0, hz1, hz2⟩ := info_parts infoPort
  have hm0 : ∀ u : World, (Instr.makeSlice 96 (.int .i64 0) (.int .i64 0)).run Tryz.prog u = .ok (.slice (some ⟨u.heap.size, 0, none⟩) 0 0) (u.alloc (.cells (madeCells #[.pointer none] 0) 159)) := fun u => by
    have h := run_make (P := Tryz.prog) u 96 159 i0 (.pointer none) Tryz.underlying96 hi0 hz0 .i64 .i64 0 0 (by omega) (Int.le_refl _) (by rw [hz2]; omega) (by omega)
    simpa [hz1, Value.cells] using h
  clear hi0 hz0 hz1 hz2
  have Z := hid (show EndsPost w (.returned (tup2 (.slice (some ⟨w.heap.size, 0, none⟩) 0 0) (.bool true))) (w.alloc (.cells (madeCells #[.pointer none] 0) 159)) from ⟨_, rfl, Fr.refl.alloc _⟩)
  go_enter Tryz.func45, Tryz.ntmps45
  go_wp2
  generalize w.alloc (.cells (madeCells #[.pointer none] 0) 159) = W at *
  go_loopw [19] (fun i wr => i = .int .i64 0 ∧ wr = W) (fun _ _ => 0)
  case atStart => exact ⟨rfl, rfl⟩
  case round =>
    obtain ⟨rfl, rfl⟩ := hrel
    go_wp2
    go_ret2
    exact Z.out
end Go.Proofs.YtocepiogpeafoaaGreatDoor
