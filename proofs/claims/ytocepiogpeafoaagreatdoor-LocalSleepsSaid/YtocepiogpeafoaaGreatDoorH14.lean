/- Words and contracts of calls that the law needs (New, Hand, R04a): merged by wip/gen/zmerge.py. No condition but those that each theorem names. -/
import Derived.Great.Walk
import Derived.Test.YtocepiogpeafoaaGreatDoorH08
import Derived.Test.YtocepiogpeafoaaGreatDoorH13
set_option linter.unusedVariables false
/- local.New of a program without tables, no links, no inputs: the walk. -/
namespace Go.Proofs.YtocepiogpeafoaaGreatDoor
open Go.RowKit
set_option linter.unusedVariables false
theorem RowF.ne_block {w : World} {F : Nat → Prop} {e sz k : Nat} {v : Value} {xs : List Value} {o : Obj} (h : RowF w F e sz v xs) (hk : w.heap[k]? = some o) (ho : ∀ cs, o ≠ .cells cs e (0, 0)) : ∀ g, v.ownBlock = some g → g ≠ k := by
  rintro g hg rfl
  obtain ⟨cur, hc⟩ := h.heap hg
  rw [hk] at hc
  injection hc with hc
  exact ho _ hc
set_option maxRecDepth 20000 in
set_option maxHeartbeats 40000000 in
theorem new0_ok {w : World} {vc vf : Value} {p : Prg} {nm : ByteArray} {gs : Int} {n : Nat} {f : Fn} (hc : Rd w vc 1 (codeC p.code)) (hf : Rd w vf 2 (fnC p.funcs)) (ht : p.tables = []) (hw : p.Wf) (hp : okP p) (hf0 : p.funcs[0]? = some f)
    (h1 : 1 ≤ gs) (h2 : gs ≤ 4096) (h3 : n ≤ 256) :
    Calls Tryz.prog 15 #[.agg #[.string nm, vc, vf, .slice none 0 0, .int .i64 gs, .int .i64 (n : Int)], .int .i64 0, .int .i64 1, .slice none 0 0, .slice none 0 0] w (NewPost p f.b w) := by
  have HC := hid hc
  have HF := hid hf
  have HT := hid ht
  have HW := hid hw
  have HO := hid hp
  have HF0 := hid hf0
  have HRP : ∀ u, Fr E0 w u → RdP u vc vf (.slice none 0 0) p [] := fun u hu => ⟨HC.out.fr hu, HF.out.fr hu, Rd.nil u 2, fun x hx => by simp at hx, by rw [HT.out]; rfl⟩
  have HRP' := hid HRP
  have H1 := hid h1
  have H2 := hid h2
  have H3 := hid h3
  have hsz := HO.out.1
  have HS := hid hsz
  obtain ⟨cA, cn, cc, rfl, _⟩ := hc
  obtain ⟨fA, fn, fc, rfl, _⟩ := hf
  clear ht hw hp hf0 HRP h1 h2 h3 hsz
  go_enter Tryz.func15, Tryz.ntmps15
  go_wp2_with fail
  refine (isDomain_yes 0 _ (by omega) (by omega)).mono ?_
  rintro e w1 ⟨rfl, rfl⟩
  generalize hW : (w.alloc _) = W
  have F0 := hid (show Fr E0 w W from by rw [← hW]; exact Fr.refl.alloc _)
  have T0 := hid (show W.heap[w.heap.size]? = some (.cells #[.string nm, .slice cA cn cc, .slice fA fn fc, .slice none 0 0, .int .i64 gs, .int .i64 (n : Int)] 31 (0, 0)) from by rw [← hW]; exact heap_alloc_new w _)
  have tc0 := fun j => cell_of_row W _ j _ _ _ T0.out
  clear hW
  go_wp2_with fail
  refine (check_ok (HRP'.out _ F0.out) HW.out).mono ?_
  rintro e w1 ⟨k, er, rfl, her, hf1⟩
  obtain rfl : er = 0 := her.2 HO.out
  have F1 := hid (F0.out.trans hf1)
  have T1 := hid (hf1.heapAt T0.out (ne0 _))
  have tc1 := fun j => cell_of_row w1 _ j _ _ _ T1.out
  clear hf1 her tc0 F0 T0
  simp only [tup2]
  go_wp2_with fail
  refine (cellsNew_ok n _ H3.out).mono ?_
  rintro e w2 ⟨ce, ca, rfl, hcn, hce, hca, hf2⟩
  have F2 := hid (F1.out.trans hf2)
  have T2 := hid (hf2.heapAt T1.out (ne0 _))
  have tc2 := fun j => cell_of_row w2 _ j _ _ _ T2.out
  clear hf2 tc1 F1 T1 hcn hce hca
  simp only [tup2]
  go_wp2_with fail
  refine (slabNew_ok gs 1 _ H1.out H2.out (by omega) (by omega)).mono ?_
  rintro e w3 ⟨sl, sa, rfl, hsl, hsl0, hsa0, hsne, hf3⟩
  have F3 := hid (F2.out.trans hf3)
  have T3 := hid (hf3.heapAt T2.out (ne0 _))
  have S3 := hid hsl
  have N3 := hid (And.intro F2.out.size (And.intro hsl0 (And.intro hsa0 hsne)))
  have tc3 := fun j => cell_of_row w3 _ j _ _ _ T3.out
  clear hf3 tc2 F2 T2 hsl hsl0 hsa0 hsne
  simp only [tup2]
  go_wp2_with fail
  refine (ends0_ok 0 _).mono ?_
  rintro e w4 ⟨vb, rfl, hf4⟩
  have F4 := hid (F3.out.trans hf4)
  have T4 := hid (hf4.heapAt T3.out (ne0 _))
  have S4 := hid (show SlabNew gs 1 sl sa w4 from ⟨hf4.heapAt S3.out.1 (ne0 _), hf4.heapAt S3.out.2 (ne0 _)⟩)
  have tc4 := fun j => cell_of_row w4 _ j _ _ _ T4.out
  clear hf4 tc3 F3 T3 S3
  simp only [tup2]
  go_wp2_with fail
  trace "own"
  refine (own0_ok (HC.out.fr F4.out) (HF.out.fr F4.out) HS.out.1 HS.out.2.1).mono ?_
  rintro e w5 ⟨oA, on, oc, oB, om, od, rfl, hr1, hr2, hf5⟩
  have R1 := hid hr1
  have R2 := hid hr2
  have F5 := hid (F4.out.trans hf5)
  have S5 := hid (show SlabNew gs 1 sl sa w5 from ⟨hf5.heapAt S4.out.1 (ne0 _), hf5.heapAt S4.out.2 (ne0 _)⟩)
  clear hf5 tc4 T4 S4 hr1 hr2
  go_wp2_with fail
  refine (cloneL [] _ _ 0 (Rd.nil _ 4) rfl (fun u hu => by simp at hu) (by omega)).mono ?_
  rintro e w6 ⟨vl, rfl, hvl, hf6⟩
  obtain ⟨lA, ln, lc, rfl⟩ := hvl.shape
  have F6 := hid (F5.out.trans hf6)
  have R16 := hid (R1.out.fr hf6 (fun _ _ x => x))
  have R26 := hid (R2.out.fr hf6 (fun _ _ x => x))
  have S6 := hid (show SlabNew gs 1 sl sa w6 from ⟨hf6.heapAt S5.out.1 (ne0 _), hf6.heapAt S5.out.2 (ne0 _)⟩)
  clear hf6 F5 S5 R1 R2 hvl
  go_wp2_with fail
  refine (cloneI [] _ _ 0 (Rd.nil _ 1) rfl (fun u hu => by simp at hu) (by omega)).mono ?_
  rintro e w7 ⟨vi, rfl, hvi, hf7⟩
  obtain ⟨iA, iN, ic, rfl⟩ := hvi.shape
  have F7 := hid (F6.out.trans hf7)
  have R17 := hid (R16.out.fr hf7 (fun _ _ x => x))
  have R27 := hid (R26.out.fr hf7 (fun _ _ x => x))
  have S7 := hid (show SlabNew gs 1 sl sa w7 from ⟨hf7.heapAt S6.out.1 (ne0 _), hf7.heapAt S6.out.2 (ne0 _)⟩)
  have S6' := hid (show SlabNew gs 1 sl sa w7 from S7.out)
  clear hf7 F6 S6 R16 R26 hvi
  have hmm := @run_makeMap Tryz.prog
  go_wp2_with fail
  refine (channelNew_ok _).mono ?_
  rintro e w8 ⟨ch, rfl, hch, hch0, hf8⟩
  have M8 := hid (hf8.heapAt (heap_alloc_new w7 (.map #[] 0)) (ne0 _))
  have F8 := hid (F7.out.trans ((Fr.refl.alloc _).trans hf8))
  have G8 := hid (show Fr E0 w7 w8 from (Fr.refl.alloc _).trans hf8)
  have R18 := hid (R17.out.fr G8.out (fun _ _ x => x))
  have R28 := hid (R27.out.fr G8.out (fun _ _ x => x))
  have S8 := hid (show SlabNew gs 1 sl sa w8 from ⟨G8.out.heapAt S7.out.1 (ne0 _), G8.out.heapAt S7.out.2 (ne0 _)⟩)
  clear hf8 S7 R17 R27 hch hch0
  go_wp2_with fail
  refine (semaNew_ok _).mono ?_
  rintro e w9 ⟨sy, rfl, hf9⟩
  have M9 := hid (hf9.heapAt M8.out (ne0 _))
  have F9 := hid (F8.out.trans hf9)
  have R19 := hid (R18.out.fr hf9 (fun _ _ x => x))
  have R29 := hid (R28.out.fr hf9 (fun _ _ x => x))
  have S9 := hid (show SlabNew gs 1 sl sa w9 from ⟨hf9.heapAt S8.out.1 (ne0 _), hf9.heapAt S8.out.2 (ne0 _)⟩)
  clear hf9 F8 S8 R18 R28 M8
  go_wp2_with fail
  refine (timerNew_ok _).mono ?_
  rintro e wa ⟨ti, h, pm, ids, own, gsm, rfl, htn, htl, hfa⟩
  have Ma := hid (hfa.heapAt M9.out (ne0 _))
  have Fa := hid (F9.out.trans hfa)
  have R1a := hid (R19.out.fr hfa (fun _ _ x => x))
  have R2a := hid (R29.out.fr hfa (fun _ _ x => x))
  have Sa := hid (show SlabNew gs 1 sl sa wa from ⟨hfa.heapAt S9.out.1 (ne0 _), hfa.heapAt S9.out.2 (ne0 _)⟩)
  have TN := hid htn
  have TL := hid htl
  have hm7 := heap_lt M9.out
  clear hfa S9 R19 R29 M9 htn htl
  go_wp2_with fail
  obtain ⟨D0, hD0⟩ : ∃ D0 : Nat → Blk, D0 = fun x => { g := wa.heap.size, sl := sl, m := w7.heap.size, x := x, ch := ch, sy := sy, ce := ce, ti := ti, h := h, pm := pm, ids := ids, own := own, gsm := gsm, vc := .slice oA on oc, vf := .slice oB om od, vl := .slice lA ln lc, vi := .slice iA iN ic, vp := .slice (some ⟨vb, 0, none⟩) 0 0 } := ⟨_, rfl⟩
  generalize hU : wa.alloc _ = U
  have FU := hid (show Fr E0 wa U from by rw [← hU]; exact Fr.refl.alloc _)
  have GU := hid (show U.heap[wa.heap.size]? = some (.cells (domRow (D0 0) false 0) 98 (0, 0)) from by rw [← hU, hD0]; exact heap_alloc_new wa _)
  have hul : wa.heap.size < U.heap.size := heap_lt GU.out
  clear hU
  have RU1 := hid (R1a.out.fr FU.out (fun _ _ x => x))
  have RU2 := hid (R2a.out.fr FU.out (fun _ _ x => x))
  have SU := hid (show SlabNew gs 1 sl sa U from ⟨FU.out.heapAt Sa.out.1 (ne0 _), FU.out.heapAt Sa.out.2 (ne0 _)⟩)
  have MU := hid (FU.out.heapAt Ma.out (ne0 _))
  have hsl := heap_lt Sa.out.1
  have hsa := heap_lt Sa.out.2
  have hma := heap_lt Ma.out
  have hs3 := heap_lt S6'.out.1
  have hs4 := heap_lt S6'.out.2
  have GU' := GU.out
  rw [hD0] at GU'
  refine (spawn0_ok (g := wa.heap.size) (sl := sl) (a := sa) (m := w7.heap.size) (p := 1) (gs := gs) (pr := p) (ts := []) (f := f) ⟨Rd.ofRow (by decide) RU1.out (codeC_len _), Rd.ofRow (by decide) RU2.out (fnC_len _), Rd.nil U 2, fun x hx => by simp at hx, by rw [HT.out]; rfl⟩ HF0.out
    (cell_of_row U _ 0 _ _ _ GU') (cell_of_row U _ 1 _ _ _ GU') (cell_of_row U _ 2 _ _ _ GU') (cell_of_row U _ 9 _ _ _ GU') (cell_of_row U _ 10 _ _ _ GU') SU.out MU.out H1.out (Nat.le_refl _) N3.out.2.2.2 (by omega) (by omega) (by omega) (by omega) (by omega)).mono ?_
  rintro e wb ⟨x, rfl, hx, hmb, hso, hxl, hfb⟩
  have GB := hid (hfb.heapAt GU.out (show ¬ (wa.heap.size = sl ∨ wa.heap.size = sa ∨ wa.heap.size = w7.heap.size) by omega))
  have gb17 := cell_of_row wb wa.heap.size 17 _ _ _ GB.out
  have gf := frozen_of_row wb wa.heap.size 17 _ _ GB.out
  have FB := hid hfb
  have XB := hid hx
  have MB := hid hmb
  rw [hD0] at gb17
  clear hfb hx hmb hso GU'
  simp only [tup2]
  go_wp2
  go_ret2
  subst hD0
  have FA : Hid (Fr (fun k => k = sl ∨ k = sa ∨ k = w7.heap.size ∨ k = wa.heap.size) wa (wb.setCell ⟨wa.heap.size, 17, none⟩ (.int .u64 1))) :=
    hid ((FU.out.e0.trans (FB.out.mono (fun k hk => hk.elim .inl (fun h => .inr (h.elim .inl (fun h => .inr (.inl h))))))).setCell _ (.inl (.inr (.inr (.inr rfl)))))
  have hx0 := hxl
  have hwU := FU.out.size
  have hn2 := N3.out
  have hn7 := F7.out.size
  have hn9 := F9.out.size
  have hna := Fa.out.size
  have htl := TL.out
  have ht1 := heap_lt TN.out.obj
  have ht2 := heap_lt TN.out.heap.1
  have ht3 := heap_lt TN.out.heap.2
  have ht4 := heap_lt TN.out.ids
  have ht5 := heap_lt TN.out.own
  have ht6 := heap_lt TN.out.gs
  refine ⟨{ g := wa.heap.size, sl := sl, m := w7.heap.size, x := x, ch := ch, sy := sy, ce := ce, ti := ti, h := h, pm := pm, ids := ids, own := own, gsm := gsm, vc := .slice oA on oc, vf := .slice oB om od, vl := .slice lA ln lc, vi := .slice iA iN ic, vp := .slice (some ⟨vb, 0, none⟩) 0 0 }, rfl, ⟨heap_setCell_same wb _ 17 _ _ _ GB.out, (heap_setCell_other _ _ _ _ (by show w7.heap.size ≠ wa.heap.size; omega)).trans MB.out, (heap_setCell_other _ _ _ _ (by show x ≠ wa.heap.size; omega)).trans XB.out, ⟨_, R1a.out.fr FA.out ?_⟩, ⟨_, R2a.out.fr FA.out ?_⟩, ⟨_, _, _, rfl⟩⟩, TN.out.fr FA.out (by omega), ?_, Fa.out.trans' FA.out ?_⟩
  · intro g hg
    have q1 := R1a.out.ne_block Sa.out.1 (fun cs hc => by injection hc with _ h _; exact absurd h (by decide)) g hg
    have q2 := R1a.out.ne_block Sa.out.2 (fun cs hc => by injection hc with _ h _; exact absurd h (by decide)) g hg
    have q3 := R1a.out.ne_block Ma.out (fun cs hc => by cases hc) g hg
    have q4 := R1a.out.lt hg
    omega
  · intro g hg
    have q1 := R2a.out.ne_block Sa.out.1 (fun cs hc => by injection hc with _ h _; exact absurd h (by decide)) g hg
    have q2 := R2a.out.ne_block Sa.out.2 (fun cs hc => by injection hc with _ h _; exact absurd h (by decide)) g hg
    have q3 := R2a.out.ne_block Ma.out (fun cs hc => by cases hc) g hg
    have q4 := R2a.out.lt hg
    omega
  · intro k hk
    simp only [Blk.all] at hk
    omega
  · intro k hk
    right
    omega
end Go.Proofs.YtocepiogpeafoaaGreatDoor
/- Laws for great structs that are carried out by hand; the reference's domain, of which only the shape is kept. -/
namespace Go.Proofs.YtocepiogpeafoaaGreatDoor
open Go.RowKit
theorem wpList_store_fits {P : Program} {ops : Array Oper} {rest : List Oper} {o : Oper} {a : Act} {w : World} {Q : Exit → Act → World → Prop} (hgd : o.guard = none) (ty : TypeId) (x y : Operand) (ho : o.op = .store ty x y)
    (g : Nat) (cells : Array Value) (hx : a.eval x = .pointer (some ⟨g, 0, none⟩)) (hy : a.eval y = .agg cells) (n : Nat) (hf : FitsN ty n w g) (hn : cells.size = n) (hi : (P.info? ty).map (·.size) = some n)
    (h1 : cells.all (·.oneCell') = true) (h : wpList P ops Q rest (a.put o.dst undef) (setMap w g (.cells cells ty (0, 0)))) : wpList P ops Q (o :: rest) a w := by
  obtain ⟨old, h2, h3⟩ := hf
  refine wpList_store_row hgd ty x y ho g cells hx hy ty old h2 (by rw [hn]; exact hi) (by omega) h1 ?_
  rw [setRow_setMap h2]
  exact h
/-- a domain of the reference's, of which only the shape is kept -/
def DR (T : Nat) (w : World) : Prop := ∃ row : Array Value, w.heap[T]? = some (.cells row 59 (0, 0)) ∧ row.size = 29 ∧ ∀ v ∈ row.toList, v.oneCell' = true
theorem DR.lt {T : Nat} {w : World} (h : DR T w) : T < w.heap.size := by obtain ⟨r, h1, _⟩ := h; exact heap_lt h1
theorem DR.cell {T : Nat} {w : World} (h : DR T w) (j : Nat) (hj : j < 29) : ∃ v, w.cell? ⟨T, j, none⟩ = some v := by
  obtain ⟨r, h1, h2, _⟩ := h
  rw [cell_of_row w T j _ _ _ h1]
  exact ⟨r[j]'(by omega), Array.getElem?_eq_getElem (by omega)⟩
theorem DR.frozen {T : Nat} {w : World} (h : DR T w) (j : Nat) : w.frozen? ⟨T, j, none⟩ = false := by
  obtain ⟨r, h1, h2, _⟩ := h
  exact frozen_of_row w T j _ _ h1
theorem DR.fr {T : Nat} {w w' : World} {S : Nat → Prop} (h : DR T w) (hf : Fr S w w') (hs : ¬ S T) : DR T w' := by
  obtain ⟨r, h1, h2, h3⟩ := h
  exact ⟨r, hf.heapAt h1 hs, h2, h3⟩
theorem DR.set {T : Nat} {w : World} (h : DR T w) (j : Nat) (v : Value) (hv : v.oneCell' = true) : DR T (w.setCell ⟨T, j, none⟩ v) := by
  obtain ⟨r, h1, h2, h3⟩ := h
  refine ⟨_, heap_setCell_same _ _ j _ _ v h1, by simpa using h2, ?_⟩
  intro u hu
  rw [Array.toList_setIfInBounds] at hu
  rcases List.mem_or_eq_of_mem_set hu with h | h
  · exact h3 u h
  · rw [h]; exact hv
theorem all_one {cs : Array Value} (h : cs.all (·.oneCell') = true) : ∀ v ∈ cs.toList, v.oneCell' = true := fun v hv => Array.all_eq_true_iff_forall_mem.1 h v (by simpa using hv)
theorem one_all {cs : Array Value} (h : ∀ v ∈ cs.toList, v.oneCell' = true) : cs.all (·.oneCell') = true := by
  rw [Array.all_eq_true_iff_forall_mem]; intro v hv; exact h v (by simpa using hv)
theorem DR.at {T : Nat} {w : World} {row : Array Value} (h : w.heap[T]? = some (.cells row 59 (0, 0))) (h2 : row.size = 29) (h3 : ∀ v ∈ row.toList, v.oneCell' = true) : DR T w := ⟨row, h, h2, h3⟩
end Go.Proofs.YtocepiogpeafoaaGreatDoor
/- rotaref04.ints of nil, proc, New of one P: the walks. -/
namespace Go.Proofs.YtocepiogpeafoaaGreatDoor
open Go.RowKit
set_option linter.unusedVariables false
theorem ints0_ok (w : World) : Calls Tryz.prog 153 #[.slice none 0 0] w fun e w' => e = .returned (.slice none 0 0) ∧ w = w' := by
  go_enter Tryz.func153, Tryz.ntmps153
  go_wp2
  go_ret
  exact ⟨rfl, rfl⟩
theorem proc0_ok (w : World) (a b c d : Value) (n : Nat) (cp : Nat) (C : Option Addr) (h : 1 ≤ n) : Calls Tryz.prog 151 #[.agg #[a, b, c, .slice C n cp, d], .int .i64 0] w (Ret (.bool true) E0 w) := by
  have h1 : 0 < n := by omega
  go_enter Tryz.func151, Tryz.ntmps151
  go_wp2
  go_ret
  exact ⟨rfl, Fr.refl.alloc _⟩
/-- a slab's state, of one P -/
def st4 (gs : Int) (v1 v2 : Value) (C cap : Nat) : Value := .agg #[.int .i64 gs, v1, v2, .slice (some ⟨C, 0, none⟩) 1 cap, .slice none 0 0]
def New4Post (gs : Int) (w : World) (e : Ending) (w' : World) : Prop := ∃ C cap r, e = .returned (tup2 (st4 gs (.slice none 0 0) (.slice none 0 0) C cap) (.int .i64 0)) ∧ w'.heap[C]? = some (.cells (#[.slice none 0 0] ++ r) 42 (0, 0)) ∧ w.heap.size ≤ C ∧ 1 ≤ cap ∧ Fr E0 w w'
/-- behind the loop's round -/
def New4In (gs : Int) (w wr : World) : Prop := ∃ C cap r, wr.heap[w.heap.size]? = some (.cells #[.int .i64 0, .slice none 0 0, .slice none 0 0, .slice none 0 0, .slice none 0 0] 46 (0, 0)) ∧
  wr.heap[w.heap.size + 1]? = some (.cells #[.int .i64 gs, .slice none 0 0, .slice none 0 0, .slice (some ⟨C, 0, none⟩) 1 cap, .slice none 0 0] 46 (0, 0)) ∧ wr.heap[C]? = some (.cells (#[.slice none 0 0] ++ r) 42 (0, 0)) ∧ w.heap.size + 2 ≤ C ∧ 1 ≤ cap ∧ Fr E0 w wr
set_option maxHeartbeats 4000000 in
theorem new4_ok (gs : Int) (w : World) (h0 : 1 ≤ gs) (h1 : gs ≤ 4096) : Calls Tryz.prog 56 #[.int .i64 gs, .int .i64 1] w (New4Post gs w) := by
  have a1 : ¬ gs < 1 := by omega
  have a2 : ¬ 4096 < gs := by omega
  go_enter Tryz.func56, Tryz.ntmps56
  go_wp2
  generalize hW : ((w.alloc _).alloc _) = W
  have F0 := hid (show Fr E0 w W from by rw [← hW]; exact (Fr.refl.alloc _).alloc _)
  have T4 := hid (show W.heap[w.heap.size]? = some (.cells #[.int .i64 0, .slice none 0 0, .slice none 0 0, .slice none 0 0, .slice none 0 0] 46 (0, 0)) from by rw [← hW]; exact heap_alloc2_old w _ _)
  have T6 := hid (show W.heap[w.heap.size + 1]? = some (.cells #[.int .i64 gs, .slice none 0 0, .slice none 0 0, .slice none 0 0, .slice none 0 0] 46 (0, 0)) from by rw [← hW]; exact heap_alloc2_new w _ _)
  have hws : w.heap.size + 2 = W.heap.size := by rw [← hW]; simp
  clear hW
  go_loopw [7] (fun i wr => (i = .int .i64 0 ∧ wr = W) ∨ (i = .int .i64 1 ∧ New4In gs w wr)) (fun i _ => 2 - (intOf i).toNat)
  case atStart => exact .inl ⟨rfl, rfl⟩
  case round =>
    rcases hrel with ⟨rfl, rfl⟩ | ⟨rfl, C, cap, r, h4, h6, hC, hCl, hcap, hF⟩
    · have apC : ¬ (281474976710656 < Builtin.nextslicecap 1 0 * Tryz.t42.bytes) := by decide
      have c63 := cell_of_row wr _ 3 _ _ _ T6.out
      have f63 := frozen_of_row wr _ 3 _ _ T6.out
      have hl1 : w.heap.size + 1 < wr.heap.size := by omega
      have hl2 : w.heap.size + 1 < wr.heap.size + 1 := by omega
      go_wp2
      go_roundw
      · refine .inr ⟨rfl, wr.heap.size + 1, _, Builtin.zeroCells #[.slice none 0 0] (grownCap wr 1 0 42 - 1), ?_, ?_, ?_, by omega, grownCap_ge wr 1 0 42, ?_⟩
        · exact (heap_alloc_old _ _ (by simp; omega)).trans ((heap_alloc_old _ _ (by simp; omega)).trans ((heap_setCell_other _ _ _ _ (by show w.heap.size ≠ w.heap.size + 1; omega)).trans T4.out))
        · exact (heap_alloc_old _ _ (by simp; omega)).trans ((heap_alloc_old _ _ (by simp; omega)).trans (heap_setCell_same _ _ _ _ _ _ T6.out))
        · have := heap_alloc2_new (wr.setCell ⟨w.heap.size + 1, 3, none⟩ (.slice (some ⟨wr.heap.size + 1, 0, none⟩) 1 (grownCap wr 1 0 42))) (.cells #[.slice none 0 0] 42) (.cells (#[.slice none 0 0] ++ Builtin.zeroCells #[.slice none 0 0] (grownCap wr 1 0 42 - 1)) 42)
          rw [show (wr.setCell ⟨w.heap.size + 1, 3, none⟩ (.slice (some ⟨wr.heap.size + 1, 0, none⟩) 1 (grownCap wr 1 0 42))).heap.size = wr.heap.size by simp] at this
          exact this
        · exact (((F0.out.setNew _ (by omega)).alloc _).alloc _).drew
      · simp [intOf]
    · have c6 := fun j => cell_of_row wr _ j _ _ _ h6
      have c4 := fun j => cell_of_row wr _ j _ _ _ h4
      have f4 := fun j => frozen_of_row wr _ j _ _ h4
      have H4 := hid h4
      have HC := hid hC
      have HF := hid hF
      have H6 := hid h6
      clear h4 h6 hC hF
      go_wp2
      have Z := heap_set5 H4.out (.int .i64 gs) (.slice none 0 0) (.slice none 0 0) (.slice (some ⟨C, 0, none⟩) 1 cap) (.slice none 0 0)
      refine bodyPost_ret (v := tup2 (st4 gs (.slice none 0 0) (.slice none 0 0) C cap) (.int .i64 0)) (res_row2 rfl _ _ w.heap.size 46 _ (0, 0) _ rfl Z Tryz.underlying46 rfl (by kernel_rfl) rfl) rfl ⟨C, cap, r, rfl, ?_, by omega, hcap, ?_⟩
      · rw [heap_setCell_other _ _ _ _ (by show C ≠ w.heap.size; omega), heap_setCell_other _ _ _ _ (by show C ≠ w.heap.size; omega), heap_setCell_other _ _ _ _ (by show C ≠ w.heap.size; omega), heap_setCell_other _ _ _ _ (by show C ≠ w.heap.size; omega), heap_setCell_other _ _ _ _ (by show C ≠ w.heap.size; omega)]
        exact HC.out
      · exact ((((HF.out.setNew _ (Nat.le_refl _)).setNew _ (Nat.le_refl _)).setNew _ (Nat.le_refl _)).setNew _ (Nat.le_refl _)).setNew _ (Nat.le_refl _)
end Go.Proofs.YtocepiogpeafoaaGreatDoor
