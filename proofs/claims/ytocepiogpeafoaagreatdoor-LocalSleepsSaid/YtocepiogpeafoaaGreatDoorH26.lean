/- Words and contracts of calls that the law needs (Fill, Made): merged by wip/gen/zmerge.py. No condition but those that each theorem names. -/
import Derived.Test.YtocepiogpeafoaaGreatDoorH14
import Derived.Test.YtocepiogpeafoaaGreatDoorH25
set_option linter.unusedVariables false
/- A struct of a pointer and a great struct under a letter: what the build makes. -/
namespace Go.Proofs.YtocepiogpeafoaaGreatDoor
open Go.RowKit
theorem foldSet_size (off : Nat) : ∀ (l : List (Value × Nat)) (cs : Array Value), (l.foldl (fun cs (x : Value × Nat) => cs.setIfInBounds (off + x.2) x.1) cs).size = cs.size
  | [], cs => rfl
  | x :: r, cs => by rw [List.foldl_cons, foldSet_size off r]; simp
theorem foldSet_lt (off i : Nat) (h : i < off) : ∀ (l : List (Value × Nat)) (cs : Array Value), (l.foldl (fun cs (x : Value × Nat) => cs.setIfInBounds (off + x.2) x.1) cs)[i]? = cs[i]?
  | [], cs => rfl
  | x :: r, cs => by rw [List.foldl_cons, foldSet_lt off i h r, Array.getElem?_setIfInBounds_ne (by omega)]
theorem foldSet_one (off : Nat) : ∀ (l : List (Value × Nat)) (cs : Array Value), (∀ x ∈ l, x.1.oneCell' = true) → (∀ v ∈ cs.toList, v.oneCell' = true) → ∀ v ∈ (l.foldl (fun cs (x : Value × Nat) => cs.setIfInBounds (off + x.2) x.1) cs).toList, v.oneCell' = true
  | [], cs, _, h => h
  | x :: r, cs, hl, h => by
    rw [List.foldl_cons]
    refine foldSet_one off r _ (fun y hy => hl y (List.mem_cons_of_mem _ hy)) ?_
    intro v hv
    rw [Array.toList_setIfInBounds] at hv
    rcases List.mem_or_eq_of_mem_set hv with h' | h'
    · exact h v h'
    · rw [h']; exact hl x (List.mem_cons_self ..)
/-- the zero of a domain of both sides -/
def zBoth : Array Value := #[.pointer none, .string ⟨#[]⟩, .slice none 0 0, .slice none 0 0, .slice none 0 0, .int .i64 0, .int .i64 0, .int .i64 0, .int .i64 0, .slice none 0 0, .slice none 0 0, .bool false, .slice none 0 0, .int .i64 0, .slice none 0 0, .slice none 0 0, .slice none 0 0, .slice none 0 0, .slice none 0 0, .slice none 0 0, .slice none 0 0, .slice none 0 0, .slice none 0 0, .slice none 0 0, .slice none 0 0, .int .i64 0, .slice none 0 0, .slice none 0 0, .int .u64 0, .int .i64 0]
theorem built_both (a : Addr) (row : Array Value) (hr : row.size = 29) (h1 : ∀ v ∈ row.toList, v.oneCell' = true) :
    ∃ cells, Tryz.prog.built 61 [(0, .pointer (some a)), (1, .agg row)] = some cells ∧ cells.size = 30 ∧ cells[0]? = some (.pointer (some a)) ∧ ∀ v ∈ cells.toList, v.oneCell' = true := by
  have hb : Tryz.prog.built 61 [(0, .pointer (some a)), (1, .agg row)] = Instr.fill (fun i => (#[(0, 1), (1, 29)] : Array (Nat × Nat))[i]?) zBoth [(0, .pointer (some a)), (1, .agg row)] := by kernel_rfl
  have hz : zBoth.size = 30 := by kernel_rfl
  have hz1 : ∀ v ∈ zBoth.toList, v.oneCell' = true := all_one (by kernel_rfl)
  rw [hb]
  generalize zBoth = Z at *
  have e1 : (Value.agg row).cells = row := rfl
  have e2 : (Value.pointer (some a)).cells = #[.pointer (some a)] := rfl
  refine ⟨row.zipIdx.foldl (fun cs (x : Value × Nat) => cs.setIfInBounds (1 + x.2) x.1) (Z.setIfInBounds 0 (.pointer (some a))), ?_, ?_, ?_, ?_⟩
  · simp [Instr.fill, e1, e2, hz, hr]
  · rw [← Array.foldl_toList, foldSet_size]; simpa using hz
  · rw [← Array.foldl_toList, foldSet_lt 1 0 (by omega)]; simp [hz]
  · rw [← Array.foldl_toList]
    refine foldSet_one 1 _ _ ?_ ?_
    · intro x hx
      have hx' : x ∈ row.toList.zipIdx := by simpa using hx
      exact h1 _ (List.fst_mem_of_mem_zipIdx hx')
    · intro v hv
      rw [Array.toList_setIfInBounds] at hv
      rcases List.mem_or_eq_of_mem_set hv with h' | h'
      · exact hz1 v h'
      · rw [h']; rfl
end Go.Proofs.YtocepiogpeafoaaGreatDoor
/- rotalaw20.small, made: the walks. -/
namespace Go.Proofs.YtocepiogpeafoaaGreatDoor
open Go.RowKit
set_option linter.unusedVariables false
def given (nm : ByteArray) (vc vf : Value) (gs n : Int) : Value := .agg #[.string nm, vc, vf, .slice none 0 0, .int .i64 gs, .int .i64 n, .int .i64 0, .int .i64 1, .slice none 0 0, .slice none 0 0]
def SmallPost (w : World) (e : Ending) (w' : World) : Prop := ∃ a b, e = .returned (given ⟨#[]⟩ (.slice (some ⟨a, 0, none⟩) 1 1) (.slice (some ⟨b, 0, none⟩) 1 1) 2 0) ∧ w'.heap[a]? = some (.cells #[.int .u32 402653184] 37 (0, 0)) ∧ w'.heap[b]? = some (.cells #[.int .i64 0, .int .i64 1] 39 (0, 0)) ∧ w.heap.size ≤ a ∧ w.heap.size ≤ b ∧ Fr E0 w w'
set_option maxHeartbeats 4000000 in
theorem small_ok (w : World) : Calls Tryz.prog 5 #[] w (SmallPost w) := by
  have Z : Hid (∀ O1 O2 O3, ((((w.alloc O1).alloc O2).alloc O3).heap[w.heap.size + 1]? = some O2) ∧ ((((w.alloc O1).alloc O2).alloc O3).heap[w.heap.size + 1 + 1]? = some O3) ∧ ((((w.alloc O1).alloc O2).alloc O3).heap[w.heap.size]? = some O1)) :=
    hid (fun O1 O2 O3 => ⟨alloc3_1 w O1 O2 O3, alloc3_2 w O1 O2 O3, (heap_alloc_old _ _ (by simp; omega)).trans (heap_alloc2_old w _ _)⟩)
  go_enter Tryz.func5, Tryz.ntmps5
  go_wp2
  exact bodyPost_ret (v := given ⟨#[]⟩ (.slice (some ⟨w.heap.size + 1, 0, none⟩) 1 1) (.slice (some ⟨w.heap.size + 1 + 1, 0, none⟩) 1 1) 2 0) (results_cell_row rfl _ _ w.heap.size 35 _ (0, 0) _ rfl (Z.out _ _ _).2.2 Tryz.underlying35 rfl (by kernel_rfl)) rfl
    ⟨_, _, rfl, (Z.out _ _ _).1, (Z.out _ _ _).2.1, by omega, by omega, ((Fr.refl.alloc _).alloc _).alloc _⟩
theorem res_row12 {P : Program} {fn : Func} {p u v : Tmp} {ty : TypeId} (h : fn.results = #[.cell p ty, .tmp u, .tmp v]) (tmps : Array Value) (w : World) (g : Nat) (t : TypeId) (cs : Array Value) (fr : Nat × Nat) (d : TypeDesc)
    (hp : tmps.getD p undef = .pointer (some ⟨g, 0, none⟩)) (hg : w.heap[g]? = some (.cells cs t fr)) (hu : P.underlying ty = some d) (hd : (match d with | .struct _ | .array _ _ => true | _ => false) = true) (hi : (P.info? ty).map (·.size) = some cs.size)
    {x y : Value} (hx : tmps.getD u undef = x) (hy : tmps.getD v undef = y) : (results fn tmps).run P w = .ok (.tuple #[.agg cs, x, y]) w := by
  have hp' : tmps[p]?.getD undef = .pointer (some ⟨g, 0, none⟩) := by simpa using hp
  have hx' : tmps[u]?.getD undef = x := by simpa using hx
  have hy' : tmps[v]?.getD undef = y := by simpa using hy
  simp [results, h, hp', hx', hy', asAddr, run_loadVar_row w g t ty cs fr d hg hu hd hi]
theorem cells_ne {w : World} {a b : Nat} {ca cb : Array Value} {t u : TypeId} (ha : w.heap[a]? = some (.cells ca t (0, 0))) (hb : w.heap[b]? = some (.cells cb u (0, 0))) (h : t ≠ u) : a ≠ b := by
  rintro rfl
  rw [ha] at hb; injection hb with hb; injection hb with _ hb _; exact h hb
theorem map_ne {w : World} {a b c : Nat} {es : Array MapEntry} {cb : Array Value} {u : TypeId} (ha : w.heap[a]? = some (.map es c)) (hb : w.heap[b]? = some (.cells cb u (0, 0))) : a ≠ b := by
  rintro rfl
  rw [ha] at hb; injection hb with hb; cases hb
/-- a block of another type is written -/
theorem Dom.blk {D : Blk} {p : Prg} {b : Bool} {t : Int} {xr : Array Value} {w w' : World} {B : Nat} {cs : Array Value} {u : TypeId} (h : Dom D p b t xr w) (hf : Fr (fun k => k = B) w w') (hb : w.heap[B]? = some (.cells cs u (0, 0)))
    (h1 : 98 ≠ u) (h2 : 110 ≠ u) (h3 : 37 ≠ u) (h4 : 39 ≠ u) : Dom D p b t xr w' := by
  obtain ⟨o1, o2, o3, ⟨F1, o4⟩, ⟨F2, o5⟩, o6⟩ := h
  exact ⟨hf.heapAt o1 (cells_ne o1 hb h1), hf.heapAt o2 (map_ne o2 hb), hf.heapAt o3 (cells_ne o3 hb h2), ⟨F1, o4.fr hf (o4.ne_block hb (fun cs hc => by injection hc with _ h _; exact h3 h.symm))⟩, ⟨F2, o5.fr hf (o5.ne_block hb (fun cs hc => by injection hc with _ h _; exact h4 h.symm))⟩, o6⟩
theorem Dom.fr {D : Blk} {p : Prg} {b : Bool} {t : Int} {xr : Array Value} {w w' : World} (h : Dom D p b t xr w) (hf : Fr E0 w w') : Dom D p b t xr w' := by
  obtain ⟨o1, o2, o3, ⟨F1, o4⟩, ⟨F2, o5⟩, o6⟩ := h
  exact ⟨hf.heapAt o1 (ne0 _), hf.heapAt o2 (ne0 _), hf.heapAt o3 (ne0 _), ⟨F1, o4.fr hf (fun _ _ => ne0 _)⟩, ⟨F2, o5.fr hf (fun _ _ => ne0 _)⟩, o6⟩
/-- what made leaves -/
def MadePost (p : Prg) (b : Int) (w : World) (e : Ending) (w' : World) : Prop := ∃ (D : Blk) (cs : Array Value), e = .returned (tup3 (.agg cs) (.bool true) (.bool true)) ∧ cs.size = 30 ∧ cs[0]? = some (.pointer (some ⟨D.g, 0, none⟩)) ∧ (∀ v ∈ cs.toList, v.oneCell' = true) ∧
  Dom D p false 1 (gorRow b) w' ∧ TimNew D.ti D.h D.pm D.ids D.own D.gsm w' ∧ (∀ k, D.all k → w.heap.size ≤ k) ∧ Fr E0 w w'
set_option maxRecDepth 20000 in
set_option maxHeartbeats 4000000 in
theorem made_ok {w : World} {vc vf : Value} {p : Prg} {nm : ByteArray} {gs : Int} {n : Nat} {f : Fn} (hc : Rd w vc 1 (codeC p.code)) (hf : Rd w vf 2 (fnC p.funcs)) (ht : p.tables = []) (hw : p.Wf) (hp : okP p) (hf0 : p.funcs[0]? = some f)
    (h1 : 1 ≤ gs) (h2 : gs ≤ 4096) (h3 : n ≤ 256) : Calls Tryz.prog 6 #[given nm vc vf gs n] w (MadePost p f.b w) := by
  have NW := hid (fun u (hu : Fr E0 w u) => new0_ok (nm := nm) (hc.fr hu) (hf.fr hu) ht hw hp hf0 h1 h2 h3)
  have NR := hid (fun u (hu : Fr E0 w u) => new20_ok (nm := nm) (hc.fr hu) (hf.fr hu) ht hw hp hf0 h1 h2 h3)
  obtain ⟨cA, cn, cc, rfl, _⟩ := hc
  obtain ⟨fA, fn, fc, rfl, _⟩ := hf
  clear ht hw hp hf0 h1 h2 h3
  unfold given
  go_enter Tryz.func6, Tryz.ntmps6
  go_wp2_with fail
  generalize hW : World.alloc _ _ = W
  have FW := hid (show Fr E0 w W from by rw [← hW]; exact (Fr.refl.alloc _).alloc _)
  have GW := hid (show W.heap[w.heap.size]? = some (.cells #[.string nm, .slice cA cn cc, .slice fA fn fc, .slice none 0 0, .int .i64 gs, .int .i64 (n : Int), .int .i64 0, .int .i64 1, .slice none 0 0, .slice none 0 0] 35 (0, 0)) from by rw [← hW]; exact heap_alloc2_old w _ _)
  have RW := hid (show FitsN 61 30 W (w.heap.size + 1) from by rw [← hW]; exact fitsN_new _ _ _ rfl _ _ (by simp))
  have hWs : w.heap.size + 2 ≤ W.heap.size := by rw [← hW]; simp
  clear hW
  refine (NW.out _ FW.out).mono ?_
  rintro e w1 ⟨D, rfl, hd, htm, hall, hf1⟩
  have F1 := hid (FW.out.trans hf1)
  have G1 := hid (hf1.heapAt GW.out (ne0 _))
  have R1 := hid (show FitsN 61 30 w1 (w.heap.size + 1) from by obtain ⟨old, ho, hs⟩ := RW.out; exact ⟨old, hf1.heapAt ho (ne0 _), hs⟩)
  have HD := hid hd
  have HTM := hid htm
  have HALL := hid (show ∀ k, D.all k → w.heap.size + 2 ≤ k from fun k hk => Nat.le_trans hWs (hall k hk))
  have tc := fun j => cell_of_row w1 _ j _ _ _ G1.out
  clear hf1 hd htm hall FW GW RW
  simp only [tup2]
  go_wp2_with fail
  refine (NR.out _ F1.out).mono ?_
  rintro e w2 ⟨row, rfl, hr1, hr2, hf2⟩
  have F2 := hid (F1.out.trans hf2)
  have G2 := hid hf2
  have R2 := hid (show FitsN 61 30 w2 (w.heap.size + 1) from by obtain ⟨old, ho, hs⟩ := R1.out; exact ⟨old, hf2.heapAt ho (ne0 _), hs⟩)
  obtain ⟨cl, hcl⟩ : ∃ cl, row.toList = cl := ⟨_, rfl⟩
  have HR2 := hid hr2
  have hst : ∀ (u : World) (T : Nat), FitsN 59 29 u T → (storeCells ⟨T, 0, none⟩ cl).run Tryz.prog u = .ok () (setMap u T (.cells row 59 (0, 0))) := fun u T h => by
    rw [← hcl]; exact run_store_fits h hr1 HR2.out
  have hf0 : ∀ (u : World) (T : Nat), T = u.heap.size → FitsN 59 29 (u.alloc (.cells #[.string ⟨#[]⟩, .slice none 0 0, .slice none 0 0, .slice none 0 0, .int .i64 0, .int .i64 0, .int .i64 0, .int .i64 0, .slice none 0 0, .slice none 0 0, .bool false, .slice none 0 0, .int .i64 0, .slice none 0 0, .slice none 0 0, .slice none 0 0, .slice none 0 0, .slice none 0 0, .slice none 0 0, .slice none 0 0, .slice none 0 0, .slice none 0 0, .slice none 0 0, .slice none 0 0, .int .i64 0, .slice none 0 0, .slice none 0 0, .int .u64 0, .int .i64 0] 59)) T := fun u T h => fitsN_new _ _ _ rfl u T h
  clear hf2 hr2 F1 G1 R1 tc
  simp only [tup2]
  go_upto_region 3 with fail
  generalize hS : setMap _ _ (Obj.cells row 59 (0, 0)) = S
  have GS := hid (show Fr E0 w2 S from by rw [← hS]; exact (Fr.refl.alloc _).setMap _ (.inr (Nat.le_refl _)))
  have BS := hid (show S.heap[w2.heap.size]? = some (.cells row 59 (0, 0)) from by rw [← hS]; exact setMap_at (heap_alloc_new w2 _))
  have RS := hid (show FitsN 61 30 S (w.heap.size + 1) from by obtain ⟨old, ho, hs⟩ := R2.out; exact ⟨old, GS.out.heapAt ho (ne0 _), hs⟩)
  clear hS hst hf0 hcl R2
  obtain ⟨cs, hb, hc1, hc2, hc3⟩ := built_both ⟨D.g, 0, none⟩ row hr1 HR2.out
  have HB := hid hb
  have HC2 := hid hc2
  have HC3 := hid hc3
  have hri : (Tryz.prog.info? 59).map (·.size) = some row.size := by rw [hr1]; kernel_rfl
  have HRI := hid hri
  have hci : (Tryz.prog.info? 61).map (·.size) = some cs.size := by rw [hc1]; kernel_rfl
  have HCI := hid hci
  clear hb hc2 hc3 hri hci
  apply wp_region_lit
  refine Great.wpList_readTo rfl _ rfl (.pointer (some ⟨D.g, 0, none⟩)) (by kernel_rfl) ?_
  refine wpList_load_row rfl 59 _ rfl w2.heap.size (by kernel_rfl) 59 row (0, 0) _ BS.out Tryz.underlying59 rfl HRI.out ?_
  refine wpList_build_eq rfl 61 _ rfl cs ((congrArg (Tryz.prog.built 61) (show _ = [(0, Value.pointer (some ⟨D.g, 0, none⟩)), (1, Value.agg row)] from (by kernel_rfl))).trans HB.out) ?_
  simp only [Act.put, List.setIfInBounds_toArray, List.set_cons_zero, List.set_cons_succ]
  obtain ⟨cl, hcl⟩ : ∃ cl, cs.toList = cl := ⟨_, rfl⟩
  have hst : (storeCells ⟨w.heap.size + 1, 0, none⟩ cl).run Tryz.prog S = .ok () (setMap S (w.heap.size + 1) (.cells cs 61 (0, 0))) := by
    rw [← hcl]; exact run_store_fits RS.out hc1 HC3.out
  go_wp2
  obtain ⟨old, ho, hos⟩ := RS.out
  have hd3 := (HD.out.fr (G2.out.trans GS.out)).blk (Fr.refl.setMap (.cells cs 61 (0, 0)) (.inl rfl)) ho (by decide) (by decide) (by decide) (by decide)
  have hall := HALL.out
  have htm3 := (HTM.out.fr (G2.out.trans GS.out) ⟨ne0 _, ne0 _, ne0 _, ne0 _, ne0 _, ne0 _⟩).fr (Fr.refl.setMap (S := fun k => k = w.heap.size + 1) (r := w.heap.size + 1) (.cells cs 61 (0, 0)) (.inl rfl)) (by
    have q1 := hall D.ti (.inr (.inr (.inl rfl)))
    have q2 := hall D.h (.inr (.inr (.inr (.inl rfl))))
    have q3 := hall D.pm (.inr (.inr (.inr (.inr (.inl rfl)))))
    have q4 := hall D.ids (.inr (.inr (.inr (.inr (.inr (.inl rfl))))))
    have q5 := hall D.own (.inr (.inr (.inr (.inr (.inr (.inr (.inl rfl)))))))
    have q6 := hall D.gsm (.inr (.inr (.inr (.inr (.inr (.inr (.inr rfl)))))))
    omega)
  exact bodyPost_ret (v := tup3 (.agg cs) (.bool true) (.bool true)) (res_row12 rfl _ _ (w.heap.size + 1) 61 cs (0, 0) _ (by kernel_rfl) (setMap_at ho) Tryz.underlying61 rfl HCI.out (by kernel_rfl) (by kernel_rfl)) rfl
    ⟨D, cs, rfl, hc1, HC2.out, HC3.out, hd3, htm3, fun k hk => by have := hall k hk; omega, (F2.out.trans GS.out).setMap _ (.inr (by omega))⟩
end Go.Proofs.YtocepiogpeafoaaGreatDoor
