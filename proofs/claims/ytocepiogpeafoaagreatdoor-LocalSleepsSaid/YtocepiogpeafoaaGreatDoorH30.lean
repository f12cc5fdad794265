/- Words and contracts of calls that the law needs (Start, Find, Snext, Maps3, MapG): merged by wip/gen/zmerge.py. No condition but those that each theorem names. -/
import Derived.Test.YtocepiogpeafoaaGreatDoorProg
import Derived.ProofKit
import Derived.Deep.MidRow
import GoSem.Instr.MapEntry
import Derived.Test.YtocepiogpeafoaaGreatDoorH02
import Derived.Test.YtocepiogpeafoaaGreatDoorH04
import Derived.Test.YtocepiogpeafoaaGreatDoorH05
import Derived.Test.YtocepiogpeafoaaGreatDoorH26
import Derived.Test.YtocepiogpeafoaaGreatDoorH28
set_option linter.unusedVariables false
/- (*local.Domain).Start: the walk. -/
namespace Go.Proofs.YtocepiogpeafoaaGreatDoor
open Go.RowKit
set_option linter.unusedVariables false
/-- the domain's own cells are turned, nothing else of it -/
theorem Dom.turn {D : Blk} {p : Prg} {b b' : Bool} {t t' : Int} {xr : Array Value} {w w' : World} (h : Dom D p b t xr w) (hf : Fr (fun k => k = D.g) w w') (ho : w'.heap[D.g]? = some (.cells (domRow D b' t') 98 (0, 0))) : Dom D p b' t' xr w' := by
  obtain ⟨o1, o2, o3, ⟨F1, o4⟩, ⟨F2, o5⟩, o6⟩ := h
  exact ⟨ho, hf.heapAt o2 (map_ne o2 o1), hf.heapAt o3 (cells_ne o3 o1 (by decide)), ⟨F1, o4.fr hf (o4.ne_block o1 (fun cs hc => by injection hc with _ h _; exact absurd h (by decide)))⟩, ⟨F2, o5.fr hf (o5.ne_block o1 (fun cs hc => by injection hc with _ h _; exact absurd h (by decide)))⟩, o6⟩
def StartPost (D : Blk) (p : Prg) (xr : Array Value) (w : World) (e : Ending) (w' : World) : Prop := ∃ v1 v2, e = .returned (.agg #[.bool false, v1, v2]) ∧ Dom D p true 1 xr w' ∧ Fr (fun k => k = D.g) w w'
set_option maxRecDepth 20000 in
set_option maxHeartbeats 40000000 in
theorem start_ok {w : World} {D : Blk} {p : Prg} {xr : Array Value} {c : Int} (h : Dom D p false 1 xr w) : Calls Tryz.prog 7 #[.pointer (some ⟨D.g, 0, none⟩), .agg #[.int .u64 0, .int .i64 0, .int .u64 c]] w (StartPost D p xr w) := by
  have H := hid h
  have c8 : w.cell? ⟨D.g, 8, none⟩ = some (.bool false) := cell_of_row w D.g 8 _ _ _ h.obj
  have f8 := frozen_of_row w D.g 8 _ _ h.obj
  have hl := heap_lt h.obj
  have hl1 : D.g < w.heap.size + 1 := by omega
  clear h
  go_enter Tryz.func7, Tryz.ntmps7
  go_upto_region 6 with fail
  have hX : (w.setCell ⟨D.g, 8, none⟩ (.bool true)).heap.size = w.heap.size := by simp
  have FX : Fr (fun k => k = D.g) w (w.setCell ⟨D.g, 8, none⟩ (.bool true)) := Fr.refl.setCell _ (.inl rfl)
  have OX := heap_setCell_same w D.g 8 _ _ (.bool true) H.out.obj
  generalize w.setCell ⟨D.g, 8, none⟩ (.bool true) = X at *
  generalize hV : World.alloc _ _ = V
  have GV := hid (show Fr E0 X V from by rw [← hV]; exact (((Fr.refl.alloc _).alloc _).alloc _).alloc _)
  have DV := hid (show Dom D p true 1 xr V from (H.out.turn FX OX).fr GV.out)
  have FV := hid (FX.trans GV.out.e0)
  have EV := hid (show V.heap[w.heap.size + 1 + 1 + 1]? = some (.cells #[.int .u64 0, .int .i64 0, .int .i64 0, .int .i64 1, .int .i64 0, .int .i64 0, .int .i64 0, .int .i64 0] 100 (0, 0)) from by rw [← hV, ← hX]; exact alloc4_3 X _ _ _ _)
  have IV := hid (show V.heap[w.heap.size + 1 + 1]? = some (.cells #[.int .i64 0, .int .i64 1] 72 (0, 0)) from by rw [← hV, ← hX]; exact alloc4_2 X _ _ _ _)
  have TV := hid (show V.heap[w.heap.size + 1]? = some (.cells #[.bool false, .slice none 0 0, .slice none 0 0] 69 (0, 0)) from by rw [← hV, ← hX]; exact alloc4_1 X _ _ _ _)
  clear hV GV OX FX c8 f8 hl hl1
  have ec := fun j => cell_of_row V _ j _ _ _ EV.out
  have el := heap_lt EV.out
  have el1 : w.heap.size + 1 + 1 + 1 < V.heap.size + 1 := by omega
  have ic := fun j => cell_of_row V _ j _ _ _ IV.out
  have dc := fun j => cell_of_row V _ j _ _ _ TV.out
  have df := fun j => frozen_of_row V _ j _ _ TV.out
  have il := heap_lt IV.out
  have tl := heap_lt TV.out
  have il1 : w.heap.size + 1 + 1 < V.heap.size + 1 := by omega
  have il2 : w.heap.size + 1 + 1 < V.heap.size + 1 + 1 := by omega
  have il3 : w.heap.size + 1 + 1 < V.heap.size + 1 + 1 + 1 := by omega
  have tl1 : w.heap.size + 1 < V.heap.size + 1 := by omega
  have tl2 : w.heap.size + 1 < V.heap.size + 1 + 1 := by omega
  have tl3 : w.heap.size + 1 < V.heap.size + 1 + 1 + 1 := by omega
  go_region
  all_goals
    go_wp2
    have HZ := heap_set3 TV.out (.bool false) (.slice (some ⟨V.heap.size + 1 + 1, 0, none⟩) 1 1) (.slice (some ⟨V.heap.size + 1 + 1 + 1, 0, none⟩) 2 2)
    have FZ : Fr (fun k => k = w.heap.size + 1) V (((V.setCell ⟨w.heap.size + 1, 0, none⟩ (.bool false)).setCell ⟨w.heap.size + 1, 1, none⟩ (.slice (some ⟨V.heap.size + 1 + 1, 0, none⟩) 1 1)).setCell ⟨w.heap.size + 1, 2, none⟩ (.slice (some ⟨V.heap.size + 1 + 1 + 1, 0, none⟩) 2 2)) := by
      refine Fr.setCell (p := ⟨w.heap.size + 1, 2, none⟩) ?_ _ (.inl rfl)
      refine Fr.setCell (p := ⟨w.heap.size + 1, 1, none⟩) ?_ _ (.inl rfl)
      refine Fr.setCell (p := ⟨w.heap.size + 1, 0, none⟩) ?_ _ (.inl rfl)
      exact Fr.refl
    have HX := hid HZ
    have FZ' := hid FZ
    have zl := heap_lt HZ
    clear HZ FZ
    generalize ((V.setCell ⟨w.heap.size + 1, 0, none⟩ (.bool false)).setCell ⟨w.heap.size + 1, 1, none⟩ (.slice (some ⟨V.heap.size + 1 + 1, 0, none⟩) 1 1)).setCell ⟨w.heap.size + 1, 2, none⟩ (.slice (some ⟨V.heap.size + 1 + 1 + 1, 0, none⟩) 2 2) = Z at *
    generalize hQ : World.drew _ = Q
    have FQ := hid (show Fr E0 Z Q from by rw [← hQ]; exact ((((Fr.refl.alloc _).alloc _).alloc _).alloc _).drew)
    clear hQ
    exact bodyPost_ret (v := .agg #[.bool false, .slice (some ⟨V.heap.size + 1 + 1, 0, none⟩) 1 1, .slice (some ⟨V.heap.size + 1 + 1 + 1, 0, none⟩) 2 2]) (results_cell_row rfl _ _ (w.heap.size + 1) 69 _ (0, 0) _ (by kernel_rfl) (FQ.out.heapAt HX.out (ne0 _)) Tryz.underlying69 rfl (by kernel_rfl)) rfl
      ⟨_, _, rfl, (DV.out.blk FZ'.out TV.out (by decide) (by decide) (by decide) (by decide)).fr FQ.out, (FV.out.trans' FZ'.out (fun k hk => .inr (by omega))).trans FQ.out.e0⟩
end Go.Proofs.YtocepiogpeafoaaGreatDoor
/- (*local.Domain).find of the one goroutine: the walk. -/
namespace Go.Proofs.YtocepiogpeafoaaGreatDoor
open Go.RowKit
set_option linter.unusedVariables false
/-- the domain's map of goroutines m holds the one at x, whose name is 0, 1 -/
structure OneG (g m x : Nat) (w : World) : Prop where
  gs : w.cell? ⟨g, 10, none⟩ = some (.map (some m))
  map : w.heap[m]? = some (.map #[⟨.int .i64 0, .pointer (some ⟨x, 0, none⟩), 0⟩] 1)
  slot : w.cell? ⟨x, 0, none⟩ = some (.int .i64 0)
  gen : w.cell? ⟨x, 1, none⟩ = some (.int .i64 1)
set_option maxHeartbeats 2000000 in
theorem find_ok' {w : World} {g m x : Nat} (h : OneG g m x w) : Calls Tryz.prog 17 #[.pointer (some ⟨g, 0, none⟩), .agg #[.int .i64 0, .int .i64 1]] w (Ret (tup2 (.pointer (some ⟨x, 0, none⟩)) (.bool true)) E0 w) := by
  obtain ⟨h1, h2, h3, h4⟩ := h
  have hg := World.block_lt_of_cell? w _ h1
  have hx := World.block_lt_of_cell? w _ h3
  have hm := heap_lt h2
  have W1 : (w.alloc (.cells #[.int .i64 0, .int .i64 1] 72)).heap[m]? = some (.map #[⟨.int .i64 0, .pointer (some ⟨x, 0, none⟩), 0⟩] 1) := (heap_alloc_old _ _ hm).trans h2
  have hl := run_lookup_one (P := Tryz.prog) (w := (w.alloc (.cells #[.int .i64 0, .int .i64 1] 72)).drew) Tryz.underlying91 Tryz.underlying3 W1
  have FW := hid ((Fr.refl (S := E0) (w := w)).alloc (.cells #[.int .i64 0, .int .i64 1] 72))
  have c1 := FW.out.cell h1 (fun x => x)
  have c3 := FW.out.cell h3 (fun x => x)
  have c4 := FW.out.cell h4 (fun x => x)
  clear W1 h2
  go_enter Tryz.func17, Tryz.ntmps17
  go_wp2
  go_region
  go_wp2
  go_quiet (fail)
  go_wp2
  go_ret2
  exact ⟨rfl, by repeat (with_reducible first | exact Fr.refl | refine Fr.alloc ?_ _ | refine Fr.drewN ?_ _ | refine Fr.drew ?_)⟩
theorem OneG.fr {w w' : World} {g m x : Nat} (h : OneG g m x w) (hf : Fr E0 w w') : OneG g m x w' := ⟨hf.cell h.gs (fun x => x), hf.heapAt h.map (fun x => x), hf.cell h.slot (fun x => x), hf.cell h.gen (fun x => x)⟩
/-- the state of the one goroutine -/
def StG (x : Nat) (s : Int) (w : World) : Prop := w.cell? ⟨x, 2, none⟩ = some (.int .i64 s) ∧ w.frozen? ⟨x, 2, none⟩ = false
set_option maxHeartbeats 2000000 in
theorem dispatch_no {w : World} {g m x : Nat} {s : Int} (h : OneG g m x w) (hs : StG x s w) (h1 : s ≠ 1) : Calls Tryz.prog 8 #[.pointer (some ⟨g, 0, none⟩), .agg #[.int .i64 0, .int .i64 1]] w (Ret (.int .i64 203) E0 w) := by
  have hb : ((s == 1) : Bool) = false := by simpa using h1
  have hb2 : ((s != 1) : Bool) = true := by simpa using h1
  clear h1
  go_enter Tryz.func8, Tryz.ntmps8
  go_wp2_with fail
  refine (find_ok' (h.fr (Fr.refl.alloc _))).mono ?_
  rintro e w1 ⟨rfl, hf⟩
  have F := hid (((Fr.refl (S := E0) (w := w)).alloc _).trans hf)
  have c2 := F.out.cell hs.1 (fun x => x)
  clear hf
  simp only [tup2]
  go_wp2
  go_ret
  exact ⟨rfl, F.out⟩
set_option maxHeartbeats 2000000 in
theorem dispatch_yes {w : World} {g m x : Nat} (h : OneG g m x w) (hs : StG x 1 w) : Calls Tryz.prog 8 #[.pointer (some ⟨g, 0, none⟩), .agg #[.int .i64 0, .int .i64 1]] w fun e w' => e = .returned (.int .i64 0) ∧ Fr (fun k => k = x) w w' ∧ StG x 2 w' := by
  have hx := World.block_lt_of_cell? w _ hs.1
  go_enter Tryz.func8, Tryz.ntmps8
  go_wp2_with fail
  refine (find_ok' (h.fr (Fr.refl.alloc _))).mono ?_
  rintro e w1 ⟨rfl, hf⟩
  have F := hid (((Fr.refl (S := E0) (w := w)).alloc _).trans hf)
  have c2 := F.out.cell hs.1 (fun x => x)
  have f2 : w1.frozen? ⟨x, 2, none⟩ = false := (World.frozen?_of_block (F.out.block x hx (fun x => x))).trans hs.2
  clear hf
  simp only [tup2]
  go_wp2
  go_ret
  exact ⟨rfl, (F.out.e0).setCell _ (.inl rfl), setCell_at c2, by simpa using f2⟩
end Go.Proofs.YtocepiogpeafoaaGreatDoor
/- step.next of a word that may be; reckoned of no plain operation; Asks: the walks. -/
namespace Go.Proofs.YtocepiogpeafoaaGreatDoor
open Go.RowKit
set_option linter.unusedVariables false
theorem reckoned_no (op y z : Int) (w : World) (h : op = 27) : Calls Tryz.prog 64 #[.int .i64 op, .int .i64 y, .int .i64 z] w fun e w' => e = .returned (tup2 (.int .i64 0) (.bool false)) ∧ w = w' := by
  subst h
  go_enter Tryz.func64, Tryz.ntmps64
  go_wp2
  go_ret2
  exact ⟨rfl, rfl⟩
set_option maxRecDepth 20000 in
set_option maxHeartbeats 40000000 in
theorem snext_ok {w : World} {b o n cp pc : Nat} {vf vt : Value} {r c : Int} {i : Ins} (h0 : w.cell? ⟨b, o + pc, none⟩ = some (.int .u32 c)) (hpn : pc < n) (hlo : 0 ≤ c) (hhi : c < 4294967296) (hdec : decR c = (i, 0)) (hvf : ∃ A n c, vf = .slice A n c) (hvt : ∃ A n c, vt = .slice A n c) :
    Calls Tryz.prog 61 #[.agg #[.slice (some ⟨b, o, none⟩) n cp, vf, vt], ctxV pc r] w (Ret (tup2 i.val (.bool true)) E0 w) := by
  obtain ⟨fA, fn, fc, rfl⟩ := hvf
  obtain ⟨tA, tn, tcp, rfl⟩ := hvt
  have DC : Hid (∀ u, Calls Tryz.prog 60 #[.int .u32 c] u (Ret (.tuple #[.agg #[.int .i64 i.op, .int .i64 i.a, .int .i64 i.b, .int .i64 i.c, .int .i64 i.imm], .int .i64 0]) E0 u)) := hid (fun u => by
    have := decode_ok c u hlo hhi
    rw [hdec] at this; exact this)
  have C0 := hid h0
  have hb := World.block_lt_of_cell? w _ h0
  have p1 : ¬ (pc : Int) < 0 := by omega
  have p2 : ¬ (n : Int) ≤ (pc : Int) := by omega
  have p3 : (pc : Int) < n := by omega
  clear hlo hhi hdec h0
  unfold ctxV
  go_enter Tryz.func61, Tryz.ntmps61
  go_upto_region 1 with fail
  generalize hW : World.alloc _ _ = W
  have F0 := hid (show Fr E0 w W from by rw [← hW]; exact ((Fr.refl.alloc _).alloc _).alloc _)
  have T2 := hid (show W.heap[w.heap.size]? = some (.cells #[.slice (some ⟨b, o, none⟩) n cp, .slice fA fn fc, .slice tA tn tcp] 29 (0, 0)) from by rw [← hW]; exact (heap_alloc_old _ _ (by simp; omega)).trans (heap_alloc2_old w _ _))
  have T3 := hid (show W.heap[w.heap.size + 1]? = some (.cells #[.int .i64 pc, .int .i64 0, .int .i64 r, .int .i64 0, .int .i64 0, .int .i64 0, .int .i64 0, .int .i64 0, .int .i64 0, .int .i64 0, .int .i64 0, .int .i64 0, .int .i64 0, .int .i64 0, .int .i64 0, .int .i64 0, .int .i64 0, .slice none 0 0] 106 (0, 0)) from by rw [← hW]; exact alloc3_1 w _ _ _)
  have T4 := hid (show W.heap[w.heap.size + 1 + 1]? = some (.cells #[.int .i64 0, .int .i64 0, .int .i64 0, .int .i64 0, .int .i64 0] 108 (0, 0)) from by rw [← hW]; exact alloc3_2 w _ _ _)
  clear hW
  have c0 := F0.out.cell C0.out (ne0 _)
  have t2 : W.cell? ⟨w.heap.size, 0, none⟩ = some (.slice (some ⟨b, o, none⟩) n cp) := cell_of_row W _ 0 _ _ _ T2.out
  have t3 : W.cell? ⟨w.heap.size + 1, 0, none⟩ = some (.int .i64 pc) := cell_of_row W _ 0 _ _ _ T3.out
  go_wp2_with fail
  refine (DC.out _).mono ?_
  rintro e w1 ⟨rfl, hf1⟩
  have F1 := hid (F0.out.trans hf1)
  have T4b := hid (hf1.heapAt T4.out (ne0 _))
  have dc := fun j => cell_of_row w1 _ j _ _ _ T4b.out
  have df := fun j => frozen_of_row w1 _ j _ _ T4b.out
  have dl := heap_lt T4b.out
  have dl1 : w.heap.size + 1 + 1 < w1.heap.size + 1 := by omega
  clear hf1 c0 t2 t3 F0 T2 T3 T4
  go_wp2
  have Z := heap_set5 T4b.out (.int .i64 i.op) (.int .i64 i.a) (.int .i64 i.b) (.int .i64 i.c) (.int .i64 i.imm)
  exact bodyPost_ret (v := tup2 i.val (.bool true)) (res_row2 rfl _ _ (w.heap.size + 1 + 1) 108 _ (0, 0) _ (by kernel_rfl) ((heap_alloc_old _ _ (by simpa using dl)).trans Z) Tryz.underlying108 rfl (by kernel_rfl) (by kernel_rfl)) rfl
    ⟨rfl, (((((F1.out.setNew _ (by omega)).setNew _ (by omega)).setNew _ (by omega)).setNew _ (by omega)).setNew _ (by omega)).alloc _⟩
/-- the goroutine's own, as the domain keeps it -/
def CtxAt (w : World) (x : Nat) (pc r : Int) : Prop := ∀ j, j < 18 → w.cell? ⟨x, 3 + j, none⟩ = (#[.int .i64 pc, .int .i64 0, .int .i64 r, .int .i64 0, .int .i64 0, .int .i64 0, .int .i64 0, .int .i64 0, .int .i64 0, .int .i64 0, .int .i64 0, .int .i64 0, .int .i64 0, .int .i64 0, .int .i64 0, .int .i64 0, .int .i64 0, .slice none 0 0] : Array Value)[j]?
set_option maxRecDepth 20000 in
set_option maxHeartbeats 40000000 in
theorem asks_ok {w : World} {g m x pc : Nat} {r c : Int} {i : Ins} (h : OneG g m x w) (hx : w.rangeAt x 3 [.int .i64 pc, .int .i64 0, .int .i64 r, .int .i64 0, .int .i64 0, .int .i64 0, .int .i64 0, .int .i64 0, .int .i64 0, .int .i64 0, .int .i64 0, .int .i64 0, .int .i64 0, .int .i64 0, .int .i64 0, .int .i64 0, .int .i64 0, .slice none 0 0]) (hw : WordAt w g pc c i) (hop : i.op ≠ 34) :
    Calls Tryz.prog 18 #[.pointer (some ⟨g, 0, none⟩), .agg #[.int .i64 0, .int .i64 1]] w (Ret (tup2 (.int .i64 0) (.int .i64 0)) E0 w) := by
  have HX := hid hx
  have HW := hid hw
  have hb : ((i.op == 34) : Bool) = false := by simpa using hop
  have hb2 : ((i.op != 34) : Bool) = true := by simpa using hop
  have hG := hid h
  have hxl := World.block_lt_of_cell? w _ h.slot
  clear hx hw h
  go_enter Tryz.func18, Tryz.ntmps18
  go_wp2_with fail
  refine (find_ok' (hG.out.fr (Fr.refl.alloc _))).mono ?_
  rintro e w1 ⟨rfl, hf1⟩
  have F1 := hid (((Fr.refl (S := E0) (w := w)).alloc _).trans hf1)
  clear hf1
  simp only [tup2]
  go_upto_region 4 with fail
  apply wp_region_lit
  refine Great.wpList_readTo rfl _ rfl (.pointer (some ⟨g, 0, none⟩)) (by kernel_rfl) ?_
  refine Great.wpList_readTo rfl _ rfl (.pointer (some ⟨x, 0, none⟩)) (by kernel_rfl) ?_
  refine Great.wpList_readTo rfl _ rfl (.pointer (some ⟨x, 0, none⟩)) (by kernel_rfl) ?_
  refine Great.wpList_readTo rfl _ rfl (.pointer (some ⟨x, 3, none⟩)) (by kernel_rfl) ?_
  refine wpList_load_mid rfl 106 _ rfl x 3 (by kernel_rfl) _ _ (fun j v hv => F1.out.cell (HX.out j v hv) (ne0 _)) Tryz.underlying106 rfl (by kernel_rfl) ?_
  simp only [Act.put, List.setIfInBounds_toArray, List.set_cons_zero, List.set_cons_succ]
  go_wp2_with fail
  refine (instr_ok (HW.out.fr F1.out)).mono ?_
  rintro e w2 ⟨rfl, hf2⟩
  have F2 := hid (F1.out.trans hf2)
  clear hf2
  simp only [tup2, Ins.val]
  go_upto_region 5 with fail
  go_region
  all_goals
    go_wp2
    go_ret2
    exact ⟨rfl, (F2.out.alloc _).drew⟩
set_option maxRecDepth 8000 in
theorem cloneN_ok (w : World) : Calls Tryz.prog 38 #[.slice none 0 0] w fun e w' => e = .returned (.slice none 0 0) ∧ w = w' := by
  have hq := Lib.run_eql_slice_nil (P := Tryz.prog) w 42 3 none 0 0 0 0 Tryz.underlying42
  go_enter Tryz.func38, Tryz.ntmps38
  go_wp2
  go_ret
  exact ⟨rfl, rfl⟩
end Go.Proofs.YtocepiogpeafoaaGreatDoor
/- Maps whose entry is laid first and stored afterwards (several assignments at once). -/
namespace Go.Proofs.YtocepiogpeafoaaGreatDoor
open Go.RowKit
theorem run_mapEntry_new {P : Program} {w : World} {t k e r c : Nat} {x : Int} {z : Value} (hu : P.underlying t = some (.map k e)) (hk : P.underlying k = some (.int .i64)) (hb : w.heap[r]? = some (.map #[] c)) (hz : (zeroValue e).run P w = .ok z w) :
    (Instr.mapEntry t (.map (some r)) (.int .i64 x)).run P w = .ok (.tuple #[z, .int .i64 (c : Int)]) (setMap w r (.map #[⟨.int .i64 x, z, c⟩] (c + 1))) := by
  have hc := checkKey_int (P := P) (w := w) (k := k) (b := false) (n := 9999) (x := x) hk
  have hg := run_getObj_map (P := P) w r _ _ hb
  have hf := findKey_none (P := P) (w := w) (x := x) hk
  have hs := Go.MapKept.run_setObj_map (P := P) (.map #[⟨.int .i64 x, z, c⟩] (c + 1)) hb
  unfold Instr.mapEntry
  simp [run_underlying hu, Sem.run_bind, hg, hc, hf, hs, hz, goInt]
  rfl
theorem run_entryStore_one {P : Program} {w : World} {t r c c0 : Nat} {k v z : Value} (hb : w.heap[r]? = some (.map #[⟨k, z, c0⟩] c)) :
    (Instr.entryStore t (.map (some r)) (.int .i64 (c0 : Int)) v).run P w = .ok () (setMap w r (.map #[⟨k, v, c0⟩] c)) := by
  have hg := run_getObj_map (P := P) w r _ _ hb
  have hs := Go.MapKept.run_setObj_map (P := P) (.map #[⟨k, v, c0⟩] c) hb
  unfold Instr.entryStore
  simp [Sem.run_bind, hg, hs, asInt, asIntOf]
  rfl
end Go.Proofs.YtocepiogpeafoaaGreatDoor
/- The map of sleepers (keys: goroutines), of one entry or none. -/
namespace Go.Proofs.YtocepiogpeafoaaGreatDoor
open Go.RowKit
theorem checkGid (b : Bool) (x y : Int) (w : World) : (Instr.checkKey b 10000 72 (.agg #[.int .i64 x, .int .i64 y])).run Tryz.prog w = .ok () w := by
  cases b <;> kernel_rfl
theorem zeroI64 (w : World) : (zeroValue 2).run Tryz.prog w = .ok (.int .i64 0) w := by kernel_rfl
theorem run_lookup_gid0 {w : World} {r c : Nat} {x y : Int} (hb : w.heap[r]? = some (.map #[] c)) :
    (Instr.lookup 213 (.map (some r)) (.agg #[.int .i64 x, .int .i64 y]) true).run Tryz.prog w = .ok (.tuple #[.int .i64 0, .bool false]) w := by
  have hc := checkGid true x y w
  have hg := run_getObj_map (P := Tryz.prog) w r _ _ hb
  unfold Instr.lookup
  simp [run_underlying Tryz.underlying213, run_underlying Tryz.underlying72, Sem.run_bind, hg, hc, Instr.findKey, Instr.findNow]
end Go.Proofs.YtocepiogpeafoaaGreatDoor
