/- Words and contracts of calls that the law needs (Check8, Begin9, Sync13): merged by wip/gen/zmerge.py. No condition but those that each theorem names. -/
import Derived.Test.YtocepiogpeafoaaGreatDoorProg
import Derived.Laws.MakeOwn
import Derived.ProofKit
import Derived.Test.YtocepiogpeafoaaGreatDoorH02
import Derived.Test.YtocepiogpeafoaaGreatDoorH04
import Derived.Test.YtocepiogpeafoaaGreatDoorH23
set_option linter.unusedVariables false
/- rotaref08.Check: the walk. -/
namespace Go.Proofs.YtocepiogpeafoaaGreatDoor
open Go.RowKit
set_option linter.unusedVariables false
/-- the words up to one may be, each in its function -/
def codeY (p : Prg) (m : Nat) : Prop := ∀ (x : Nat) (c : Int) (k : Nat) (f : Fn), x < m → p.code[x]? = some c → p.funcs[k]? = some f → inF f x = true → wrongL p.funcs.length p.tables.length x f c = 0
theorem codeY_all {p : Prg} (h : codeY p p.code.length) : codeP p := fun f hf x c h1 h2 h3 => by
  obtain ⟨j, hj⟩ := List.mem_iff_getElem?.1 hf
  exact h x c j f (lt_of_get h3) h3 hj (by simp [inF]; omega)
set_option maxHeartbeats 4000000 in
theorem check8_sizes {w : World} {vc vf vt : Value} {p : Prg} {ts : List (Tb × Value)} (h : RdP w vc vf vt p ts) (hn : ¬ sizesP p) : Calls Tryz.prog 53 #[.agg #[vc, vf, vt]] w (CheckPost p w) := by
  have hts : ts.length = p.tables.length := by have := congrArg List.length h.are; simpa using this
  obtain ⟨cA, cc, rfl, hc1, hc2, hc3⟩ := h.code.len (by decide) (codeC_len _)
  obtain ⟨fA, fc, rfl, hf1, hf2, hf3⟩ := h.funcs.len (by decide) (fnC_len _)
  obtain ⟨tA, tc, rfl, ht1, ht2, ht3⟩ := h.tabs.len (by decide) (tbC_len _)
  have HNO := hid (fun (e : Ending) (w' : World) (k : Int) (he : e = .returned (tup2 (.int .i64 k) (.int .i64 2))) (hf : Fr E0 w w') => checkNo k 2 he (by decide) (fun x => hn x.1) hf)
  unfold sizesP at hn
  rw [hts] at *
  clear h hts hc3 hf3 ht3
  generalize p.funcs.length = nf at *
  generalize p.tables.length = nt at *
  generalize p.code.length = nc at *
  by_cases h1 : nc ≤ 4096
  · by_cases h2 : nf ≤ 256
    · have h3 : ¬ nt ≤ 256 := fun x => hn ⟨h1, h2, x⟩
      have b1 : decide ((4096 : Int) < (nc : Int)) = false := by simp; omega
      have b2 : decide ((256 : Int) < (nf : Int)) = false := by simp; omega
      have b3 : decide ((256 : Int) < (nt : Int)) = true := by simp; omega
      clear hn
      go_enter Tryz.func53, Tryz.ntmps53
      go_wp2
      go_ret2
      exact HNO.out _ _ 0 rfl (Fr.refl.alloc _)
    · have b1 : decide ((4096 : Int) < (nc : Int)) = false := by simp; omega
      have b2 : decide ((256 : Int) < (nf : Int)) = true := by simp; omega
      clear hn
      go_enter Tryz.func53, Tryz.ntmps53
      go_wp2
      go_ret2
      exact HNO.out _ _ 0 rfl (Fr.refl.alloc _)
  · have b1 : decide ((4096 : Int) < (nc : Int)) = true := by simp; omega
    clear hn
    go_enter Tryz.func53, Tryz.ntmps53
    go_wp2
    go_ret2
    exact HNO.out _ _ 0 rfl (Fr.refl.alloc _)
set_option maxHeartbeats 4000000 in
theorem check8_ok {w : World} {vc vf vt : Value} {p : Prg} {ts : List (Tb × Value)} (h : RdP w vc vf vt p ts) (hw : p.Wf) : Calls Tryz.prog 53 #[.agg #[vc, vf, vt]] w (CheckPost p w) := by
  by_cases hsn : ¬ sizesP p
  · exact check8_sizes h hsn
  have hs := Classical.not_not.1 hsn
  clear hsn
  have HS := hid hs
  have HH := hid h
  obtain ⟨s0, s1, s2⟩ := hs
  have hts : ts.length = p.tables.length := by have := congrArg List.length h.are; simpa using this
  obtain ⟨cA, cc, rfl, hc1, hc2, hc3⟩ := h.code.len (by decide) (codeC_len _)
  obtain ⟨fA, fc, rfl, hf1, hf2, hf3⟩ := h.funcs.len (by decide) (fnC_len _)
  obtain ⟨tA, tc, rfl, ht1, ht2, ht3⟩ := h.tabs.len (by decide) (tbC_len _)
  have HT := hid ht3
  have HEA := hid h.each
  have HAR := hid h.are
  have HTS := hid hts
  rw [hts] at ht1 HH ⊢
  clear h hts hc3 hf3 ht3
  obtain ⟨nf, hnf⟩ : ∃ n, n = p.funcs.length := ⟨_, rfl⟩
  obtain ⟨nt, hnt⟩ : ∃ n, n = p.tables.length := ⟨_, rfl⟩
  obtain ⟨nc, hnc⟩ : ∃ n, n = p.code.length := ⟨_, rfl⟩
  have HNF := hid hnf
  have HNT := hid hnt
  have HNC := hid hnc
  rw [← hnf] at s1 hf1 HH ⊢
  rw [← hnt] at s2 ht1 HH ⊢
  rw [← hnc] at s0 hc1 HH ⊢
  clear hnf hnt hnc
  have b1 : decide ((4096 : Int) < (nc : Int)) = false := by simp; omega
  have b2 : decide ((256 : Int) < (nf : Int)) = false := by simp; omega
  have b3 : decide ((256 : Int) < (nt : Int)) = false := by simp; omega
  go_enter Tryz.func53, Tryz.ntmps53
  go_wp2_with fail
  refine (parts_ok (HH.out.fr (Fr.refl.alloc _)) hw (by rw [← HNC.out]; exact s0) (by rw [← HNF.out]; exact s1)).mono ?_
  rintro e w1 ⟨fk, rfl, hfb, hfr⟩
  have HFB := hid hfb
  have F1 := hid ((Fr.refl (S := E0) (w := w)).alloc (.cells #[.slice cA nc cc, .slice fA nf fc, .slice tA nt tc] 29) |>.trans hfr)
  have B1 := hid (hfr.heapAt (heap_alloc_new w _) (fun x => x))
  have y0 := cell_of_row w1 w.heap.size 0 _ _ _ B1.out
  have y1 := cell_of_row w1 w.heap.size 1 _ _ _ B1.out
  have y2 := cell_of_row w1 w.heap.size 2 _ _ _ B1.out
  clear hfb hfr b1 b2 b3
  by_cases hk0 : 0 ≤ fk
  · go_wp2
    go_ret2
    exact checkNo fk 81 rfl (by decide) (fun x => by have := HFB.out.2 x.2.1; omega) F1.out
  have HP := hid (HFB.out.1 (by omega))
  go_wp2
  go_loopw [5] (fun i wr => ∃ k : Nat, i = .int .i64 k ∧ k ≤ nt ∧ (∀ j, j < k → ∀ x, ts[j]? = some x → tbB x.1 = true) ∧ Fr E0 w1 wr) (fun i _ => nt - (intOf i).toNat)
  case atStart => exact ⟨0, rfl, Nat.zero_le _, (fun j hj => absurd hj (by omega)), Fr.refl⟩
  case round =>
    obtain ⟨k, rfl, hk, hno, hfr⟩ := hrel
    have H := hid hno
    have F2 := hid hfr
    have B2 := hid (hfr.heapAt B1.out (fun x => x))
    clear hno hfr y0 y1 y2
    have y0 := cell_of_row wr w.heap.size 0 _ _ _ B2.out
    have y1 := cell_of_row wr w.heap.size 1 _ _ _ B2.out
    have y2 := cell_of_row wr w.heap.size 2 _ _ _ B2.out
    by_cases hlt : k < nt
    · obtain ⟨x, hx⟩ : ∃ x, ts[k]? = some x := ⟨_, List.getElem?_eq_getElem (by rw [HTS.out, ← HNT.out]; exact hlt)⟩
      obtain ⟨b, o, rfl, hr⟩ := HT.out.at (by intro e; have := tbC_len ts; rw [e, HTS.out, ← HNT.out] at this; simp at this; omega)
      obtain ⟨c0, c1⟩ := (hr.fr (F1.out.trans F2.out) (fun x => x)).tb hx
      have HX := hid hx
      have hrx := (HEA.out x (List.mem_of_getElem? hx)).fr (F1.out.trans F2.out)
      obtain ⟨vA, vn, vc, hv, hv1, hv2, hv3, hv4⟩ := hrx
      have HRX := hid ((HEA.out x (List.mem_of_getElem? hx)).fr (F1.out.trans F2.out))
      rw [hv] at c0 HRX
      clear hr hx hv hv1 hv2 hv3 hv4
      go_wp2_with fail
      refine (table8_ok x.1 _ wr HRX.out).mono ?_
      rintro e w2 ⟨rfl, hf1⟩
      have F3 := hid (F2.out.trans hf1)
      have B3 := hid (hf1.heapAt B2.out (fun x => x))
      clear hf1 y0 y1 y2
      have y0 := cell_of_row w2 w.heap.size 0 _ _ _ B3.out
      have y1 := cell_of_row w2 w.heap.size 1 _ _ _ B3.out
      have y2 := cell_of_row w2 w.heap.size 2 _ _ _ B3.out
      cases hpx : tbB x.1 with
      | false =>
        have HPX := hid hpx
        clear hpx
        go_wp2
        go_ret2
        exact checkNo (k : Int) 83 rfl (by decide) (fun ok => by
          have := List.all_eq_true.1 ok.2.2.1 x.1 (by rw [← HAR.out]; exact List.mem_map_of_mem (List.mem_of_getElem? HX.out))
          rw [HPX.out] at this; cases this) (F1.out.trans F3.out)
      | true =>
        have HPX := hid hpx
        clear hpx
        go_wp2
        go_roundw
        case rel => exact ⟨k + 1, by simp, by omega, (fun j hj y hy => by
          by_cases e : j = k
          · rw [e] at hy; rw [← Option.some.inj (HX.out.symm.trans hy)]; exact HPX.out
          · exact H.out j (by omega) y hy), F3.out⟩
        case measure => simp [intOf]; omega
    · have HTB := hid (show tablesB p = true by
        unfold tablesB; rw [← HAR.out, List.all_eq_true]; intro t ht
        obtain ⟨y, hy, rfl⟩ := List.mem_map.1 ht
        obtain ⟨j, hj⟩ := List.mem_iff_getElem?.1 hy
        exact H.out j (by have := lt_of_get hj; rw [HTS.out, ← HNT.out] at this; omega) y hj)
      obtain ⟨wo, rfl⟩ : ∃ wo : World, wo = wr := ⟨_, rfl⟩
      go_wp2
      go_loopw [7] (fun i wi => ∃ m : Nat, i = .int .i64 m ∧ m ≤ nc ∧ codeY p m ∧ Fr E0 wo wi) (fun i _ => nc - (intOf i).toNat)
      case atStart => exact ⟨0, rfl, Nat.zero_le _, (fun x c k f hx => absurd hx (by omega)), Fr.refl⟩
      case round =>
        obtain ⟨m, rfl, hm, hcy, hfr⟩ := hrel
        have HY := hid hcy
        have F3 := hid hfr
        have B3 := hid (hfr.heapAt B2.out (fun x => x))
        clear hcy hfr y0 y1 y2
        have y0 := cell_of_row wr w.heap.size 0 _ _ _ B3.out
        have y1 := cell_of_row wr w.heap.size 1 _ _ _ B3.out
        have y2 := cell_of_row wr w.heap.size 2 _ _ _ B3.out
        by_cases hlm : m < nc
        · obtain ⟨c, hc⟩ : ∃ c, p.code[m]? = some c := ⟨_, List.getElem?_eq_getElem (by rw [← HNC.out]; omega)⟩
          obtain ⟨q, f, _, hq, hf⟩ := inL_get HP.out (x := m) (by omega) (by rw [← HNC.out]; omega)
          have HC := hid hc
          have HQ := hid hq
          have HFI := hid hf
          clear hc hq hf
          go_wp2_with fail
          refine (wrong8_ok (HH.out.fr ((F1.out.trans F2.out).trans F3.out)) hw HS.out HP.out HC.out HQ.out HFI.out).mono ?_
          rintro e w4 ⟨rfl, hfr⟩
          obtain ⟨r, hr⟩ : ∃ r, wrongL p.funcs.length p.tables.length m f c = r := ⟨_, rfl⟩
          rw [hr]
          have HRR := hid hr
          have F5 := hid (F3.out.trans hfr)
          clear hr hfr
          by_cases hr0 : r = 0
          · subst hr0
            go_wp2
            go_roundw
            case rel => exact ⟨m + 1, by simp, by omega, (fun x d j g hx hd hj hg => by
              by_cases e : x = m
              · subst e
                rw [← Option.some.inj (HC.out.symm.trans hd)]
                have ej := partsGo_uniq (x := (x : Int)) HP.out.2 hj HQ.out hg HFI.out
                rw [ej] at hj
                rw [← Option.some.inj (HQ.out.symm.trans hj)]
                exact HRR.out
              · exact HY.out x d j g (by omega) hd hj hg), F5.out⟩
            case measure => simp [intOf]; omega
          · have hr1 : ((r == 0) : Bool) = false := by simpa using hr0
            have hr2 : ((r != 0) : Bool) = true := by simpa using hr0
            have HR0 := hid hr0
            clear hr0
            go_wp2
            go_ret2
            exact checkNo (m : Int) r rfl HR0.out (fun ok => HR0.out (by
              rw [← HRR.out]
              have hff := HFI.out
              simp only [inF, Bool.and_eq_true, decide_eq_true_eq] at hff
              exact ok.2.2.2 _ (List.mem_of_getElem? HQ.out) m c hff.1 hff.2 HC.out)) ((F1.out.trans F2.out).trans F5.out)
        · have HCP := hid (codeY_all (p := p) (by rw [← HNC.out, show nc = m by omega]; exact HY.out))
          go_wp2
          go_ret2
          exact ⟨0, 0, rfl, ⟨fun _ => ⟨HS.out, HP.out, HTB.out, HCP.out⟩, fun _ => rfl⟩, (F1.out.trans F2.out).trans F3.out⟩
end Go.Proofs.YtocepiogpeafoaaGreatDoor
/- rotaref09.Begin: the walk. -/
namespace Go.Proofs.YtocepiogpeafoaaGreatDoor
open Go.RowKit
set_option linter.unusedVariables false
set_option maxRecDepth 20000 in
set_option maxHeartbeats 4000000 in
theorem begin9_ok {w : World} {vc vf vt : Value} {p : Prg} {ts : List (Tb × Value)} (h : RdP w vc vf vt p ts) {f : Fn} (hf : p.funcs[0]? = some f) :
    Calls Tryz.prog 58 #[.agg #[vc, vf, vt], .int .i64 0, .agg regs0] w (Ret (tup2 (ctx0 f.b) (.int .i64 0)) E0 w) := by
  have hl := lt_of_get hf
  obtain ⟨fA, fc, rfl, hf1, hf2, hf3⟩ := h.funcs.len (by decide) (fnC_len _)
  obtain ⟨b, o, rfl, hr⟩ := hf3.at (by intro e; have := fnC_len p.funcs; rw [e] at this; simp at this; omega)
  obtain ⟨c0, c1⟩ := hr.fn hf
  simp only [Nat.zero_mul, Nat.add_zero] at c0
  have hb := World.block_lt_of_cell? w _ c0
  generalize p.funcs.length = nf at *
  clear h hf3 hr hf c1
  unfold regs0
  go_enter Tryz.func58, Tryz.ntmps58
  go_wp2
  have FW := hid (show Fr E0 w (((w.alloc (Obj.cells #[vc, .slice (some ⟨b, o, none⟩) nf fc, vt] 29)).alloc (Obj.cells regs0 104)).alloc (Obj.cells #[.int .i64 0, .int .i64 0, .int .i64 0, .int .i64 0, .int .i64 0, .int .i64 0, .int .i64 0, .int .i64 0, .int .i64 0, .int .i64 0, .int .i64 0, .int .i64 0, .int .i64 0, .int .i64 0, .int .i64 0, .int .i64 0, .int .i64 0, .slice none 0 0] 106)) from ((Fr.refl.alloc _).alloc _).alloc _)
  have c0' := FW.out.cell c0 (fun x => x)
  unfold regs0 at c0'
  go_region
  all_goals
    go_wp2
    exact bodyPost_ret (v := tup2 (ctx0 f.b) (.int .i64 0)) (res_row2 rfl _ _ (w.heap.size + 1 + 1) 106 _ (0, 0) _ rfl (by exact heap_alloc3_new w _ _ _) Tryz.underlying106 rfl (by kernel_rfl) rfl) rfl ⟨rfl, by repeat (with_reducible first | exact Fr.refl | refine Fr.alloc ?_ _ | refine Fr.drew ?_)⟩
end Go.Proofs.YtocepiogpeafoaaGreatDoor
/- rotaref13.New: the walk. -/
namespace Go.Proofs.YtocepiogpeafoaaGreatDoor
open Go.RowKit
set_option linter.unusedVariables false
theorem infoLS : (Tryz.prog.info? 268).map (fun i => (i.zero, i.size, i.bytes)) = some (some (.agg #[.bool false, .int .i64 0, .slice none 0 0]), 3, 40) := by kernel_rfl
theorem infoGS : (Tryz.prog.info? 276).map (fun i => (i.zero, i.size, i.bytes)) = some (some (.agg #[.int .i64 0, .slice none 0 0]), 2, 32) := by kernel_rfl
theorem infoCS : (Tryz.prog.info? 286).map (fun i => (i.zero, i.size, i.bytes)) = some (some (.agg #[.slice none 0 0]), 1, 24) := by kernel_rfl
def Sync13Post (w : World) (e : Ending) (w' : World) : Prop := ∃ a b c d, e = .returned (.agg #[.slice (some ⟨a, 0, none⟩) 256 256, .slice (some ⟨b, 0, none⟩) 256 256, .slice (some ⟨c, 0, none⟩) 256 256, .slice (some ⟨d, 0, none⟩) 256 256]) ∧ Fr E0 w w'
set_option maxHeartbeats 8000000 in
theorem syncNew_ok (w : World) : Calls Tryz.prog 59 #[] w (Sync13Post w) := by
  obtain ⟨i0, hi0, hz0, hz1, hz2⟩ := info_parts infoLS
  have hm0 : ∀ u : World, (Instr.makeSlice 49 (.int .i64 256) (.int .i64 256)).run Tryz.prog u = .ok (.slice (some ⟨u.heap.size, 0, none⟩) 256 256) (u.alloc (.cells (madeCells #[.bool false, .int .i64 0, .slice none 0 0] (256 * 3)) 268)) := fun u => by
    have h := run_make (P := Tryz.prog) u 49 268 i0 (.agg #[.bool false, .int .i64 0, .slice none 0 0]) Tryz.underlying49 hi0 hz0 .i64 .i64 256 256 (by omega) (Int.le_refl _) (by rw [hz2]; omega) (by omega)
    simpa [hz1, Value.cells] using h
  clear hi0 hz0 hz1 hz2
  obtain ⟨i1, hi0, hz0, hz1, hz2⟩ := info_parts infoGS
  have hm1 : ∀ u : World, (Instr.makeSlice 50 (.int .i64 256) (.int .i64 256)).run Tryz.prog u = .ok (.slice (some ⟨u.heap.size, 0, none⟩) 256 256) (u.alloc (.cells (madeCells #[.int .i64 0, .slice none 0 0] (256 * 2)) 276)) := fun u => by
    have h := run_make (P := Tryz.prog) u 50 276 i1 (.agg #[.int .i64 0, .slice none 0 0]) Tryz.underlying50 hi0 hz0 .i64 .i64 256 256 (by omega) (Int.le_refl _) (by rw [hz2]; omega) (by omega)
    simpa [hz1, Value.cells] using h
  clear hi0 hz0 hz1 hz2
  obtain ⟨i2, hi0, hz0, hz1, hz2⟩ := info_parts infoCS
  have hm2 : ∀ u : World, (Instr.makeSlice 51 (.int .i64 256) (.int .i64 256)).run Tryz.prog u = .ok (.slice (some ⟨u.heap.size, 0, none⟩) 256 256) (u.alloc (.cells (madeCells #[.slice none 0 0] (256 * 1)) 286)) := fun u => by
    have h := run_make (P := Tryz.prog) u 51 286 i2 (.agg #[.slice none 0 0]) Tryz.underlying51 hi0 hz0 .i64 .i64 256 256 (by omega) (Int.le_refl _) (by rw [hz2]; omega) (by omega)
    simpa [hz1, Value.cells] using h
  clear hi0 hz0 hz1 hz2
  go_enter Tryz.func59, Tryz.ntmps59
  go_wp2
  go_region
  all_goals
    go_wp2
    refine bodyPost_ret (results_cell_row rfl _ _ w.heap.size 53 _ (0, 0) _ rfl (show (World.drew _).heap[w.heap.size]? = some (.cells _ _ _) from (heap_alloc_old _ _ (by simp; omega)).trans ((heap_alloc_old _ _ (by simp; omega)).trans ((heap_alloc_old _ _ (by simp; omega)).trans ((heap_alloc_old _ _ (by simp)).trans (heap_alloc_new w _))))) Tryz.underlying53 rfl (by kernel_rfl)) rfl ?_
    exact ⟨_, _, _, _, rfl, by repeat (with_reducible first | exact Fr.refl | refine Fr.alloc ?_ _ | refine Fr.drew ?_)⟩
end Go.Proofs.YtocepiogpeafoaaGreatDoor
