/- Words and contracts of calls that the law needs (Wrong8): merged by wip/gen/zmerge.py. No condition but those that each theorem names. -/
import Derived.Test.YtocepiogpeafoaaGreatDoorH22
set_option linter.unusedVariables false
/- rotaref08.table and wrong: the walks. -/
namespace Go.Proofs.YtocepiogpeafoaaGreatDoor
open Go.RowKit
set_option linter.unusedVariables false
set_option maxHeartbeats 4000000 in
theorem table8_ok (t : Tb) (v : Value) (w : World) (h : Rd w v 4 (csC t.cases)) : Calls Tryz.prog 149 #[.agg #[v, .bool t.dflt]] w (Ret (.bool (tbB t)) E0 w) := by
  obtain ⟨A, c, rfl, h1, h2, h3⟩ := h.len (by decide) (csC_len _)
  obtain ⟨n, hn⟩ : ∃ n, t.cases.length = n := ⟨_, rfl⟩
  have HN := hid hn
  have HT := hid (show tbB t = (decide (t.cases.length ≤ 16) && t.cases.all csB) from rfl)
  have HR := hid h3
  rw [hn] at h1 HT ⊢
  clear hn h3 h
  unfold maxLen at h2
  by_cases hb : 16 < n
  · have HX := hid (show tbB t = false by rw [HT.out]; simp; omega)
    have b1 : decide ((16 : Int) < (n : Int)) = true := by simp; omega
    go_enter Tryz.func149, Tryz.ntmps149
    go_wp2
    go_ret
    exact ⟨by rw [HX.out]; rfl, Fr.refl.alloc _⟩
  have HX := hid (show tbB t = t.cases.all csB by rw [HT.out]; simp; omega)
  have b1 : decide ((16 : Int) < (n : Int)) = false := by simp; omega
  clear HT
  go_enter Tryz.func149, Tryz.ntmps149
  go_wp2
  go_loopw [3] (fun i wr => ∃ k : Nat, i = .int .i64 k ∧ k ≤ n ∧ (∀ j, j < k → ∀ x, t.cases[j]? = some x → csB x = true) ∧ Fr E0 (w.alloc (.cells #[.slice A n c, .bool t.dflt] 197)) wr) (fun i _ => n - (intOf i).toNat)
  case atStart => exact ⟨0, rfl, Nat.zero_le _, (fun j hj => absurd hj (by omega)), Fr.refl⟩
  case round =>
    obtain ⟨k, rfl, hk, hno, hf⟩ := hrel
    have H := hid hno
    have HW := hid hf
    have B0 := hid (hf.heapAt (heap_alloc_new w _) (fun x => x))
    have z0 := cell_of_row wr w.heap.size 0 _ _ _ B0.out
    have hz : w.heap.size < wr.heap.size := by have := hf.size; simp at this; omega
    clear hno hf
    have HFR := hid (((Fr.refl (S := E0) (w := w)).alloc (.cells #[.slice A n c, .bool t.dflt] 197)).trans HW.out)
    by_cases hlt : k < n
    · obtain ⟨⟨s, ch, v, ok⟩, hx⟩ : ∃ x, t.cases[k]? = some x := ⟨_, List.getElem?_eq_getElem (by rw [HN.out]; exact hlt)⟩
      obtain ⟨b, o, rfl, hr⟩ := HR.out.ne (by rw [csC_len, HN.out]; omega)
      obtain ⟨g0, g1, g2, g3⟩ := (hr.fr HFR.out (fun x => x)).cs hx
      simp only at g0 g1 g2 g3
      have HK := hid hx
      have NO : csB ⟨s, ch, v, ok⟩ = false → tbB t = false := fun hc => by
        rw [HX.out, List.all_eq_false]; exact ⟨_, List.mem_of_getElem? HK.out, by rw [hc]; decide⟩
      rw [csB_eq] at NO
      have HNO := hid NO
      have YES : csB ⟨s, ch, v, ok⟩ = true → ∀ j, j < k + 1 → ∀ x, t.cases[j]? = some x → csB x = true := fun hc j hj y hy => by
        by_cases e : j = k
        · rw [e] at hy; rw [← Option.some.inj (HK.out.symm.trans hy)]; exact hc
        · exact H.out j (by omega) y hy
      rw [csB_eq] at YES
      have HYES := hid YES
      clear hr hx NO YES
      rcases h1 : regB ch with _ | _
      · have H1 := hid h1
        have HF := hid (HNO.out (by simp [h1]))
        clear h1 HNO HYES
        go_wp2_with fail
        refine (reg8_no _ _ H1.out).mono ?_
        rintro e w1 ⟨rfl, rfl⟩
        go_wp2
        go_ret
        exact ⟨by rw [HF.out]; rfl, HFR.out.alloc _⟩
      rcases h2 : regB v with _ | _
      · have H1 := hid h1
        have H2 := hid h2
        have HF := hid (HNO.out (by simp [h2]))
        clear h1 h2 HNO HYES
        go_wp2_with fail
        refine (reg8_yes _ _ H1.out).mono ?_
        rintro e w1 ⟨rfl, rfl⟩
        go_wp2_with fail
        refine (reg8_no _ _ H2.out).mono ?_
        rintro e w1 ⟨rfl, rfl⟩
        go_wp2
        go_ret
        exact ⟨by rw [HF.out]; rfl, HFR.out.alloc _⟩
      rcases h3 : regB ok with _ | _
      · have H1 := hid h1
        have H2 := hid h2
        have H3 := hid h3
        have HF := hid (HNO.out (by simp [h3]))
        clear h1 h2 h3 HNO HYES
        go_wp2_with fail
        refine (reg8_yes _ _ H1.out).mono ?_
        rintro e w1 ⟨rfl, rfl⟩
        go_wp2_with fail
        refine (reg8_yes _ _ H2.out).mono ?_
        rintro e w1 ⟨rfl, rfl⟩
        go_wp2_with fail
        refine (reg8_no _ _ H3.out).mono ?_
        rintro e w1 ⟨rfl, rfl⟩
        go_wp2
        go_ret
        exact ⟨by rw [HF.out]; rfl, HFR.out.alloc _⟩
      have H1 := hid h1
      have H2 := hid h2
      have H3 := hid h3
      by_cases hbad : s = true ∧ ok ≠ 0
      · have HF := hid (HNO.out (by simp [h1, h2, h3, hbad.1, hbad.2]))
        obtain ⟨rfl, hne⟩ := hbad
        have hb2 : ((ok == 0) : Bool) = false := by simpa using hne
        have hb3 : ((ok != 0) : Bool) = true := by simpa using hne
        clear h1 h2 h3 HNO HYES hne
        go_wp2_with fail
        refine (reg8_yes _ _ H1.out).mono ?_
        rintro e w1 ⟨rfl, rfl⟩
        go_wp2_with fail
        refine (reg8_yes _ _ H2.out).mono ?_
        rintro e w1 ⟨rfl, rfl⟩
        go_wp2_with fail
        refine (reg8_yes _ _ H3.out).mono ?_
        rintro e w1 ⟨rfl, rfl⟩
        go_wp2
        go_ret
        exact ⟨by rw [HF.out]; rfl, HFR.out.alloc _⟩
      · have HY := hid (HYES.out (by
          simp only [h1, h2, h3, Bool.true_and, Bool.not_eq_true', Bool.and_eq_false_iff, decide_eq_false_iff_not]
          cases s
          · exact .inl rfl
          · exact .inr (fun hne => hbad ⟨rfl, hne⟩)))
        have hcase : s = false ∨ (s = true ∧ ok = 0) := by
          cases s
          · exact .inl rfl
          · exact .inr ⟨rfl, Classical.byContradiction fun hne => hbad ⟨rfl, hne⟩⟩
        clear h1 h2 h3 HNO HYES hbad
        rcases hcase with rfl | ⟨rfl, rfl⟩
        all_goals
          go_wp2_with fail
          refine (reg8_yes _ _ H1.out).mono ?_
          rintro e w1 ⟨rfl, rfl⟩
          go_wp2_with fail
          refine (reg8_yes _ _ H2.out).mono ?_
          rintro e w1 ⟨rfl, rfl⟩
          go_wp2_with fail
          refine (reg8_yes _ _ H3.out).mono ?_
          rintro e w1 ⟨rfl, rfl⟩
          go_wp2
          go_roundw
          case rel => exact ⟨k + 1, by simp, by omega, HY.out, HW.out.alloc _⟩
          case measure => simp [intOf]; omega
    · have HF := hid (show tbB t = true by
        rw [HX.out, List.all_eq_true]; intro x hx
        obtain ⟨j, hj⟩ := List.mem_iff_getElem?.1 hx
        exact H.out j (by have := lt_of_get hj; rw [HN.out] at this; omega) x hj)
      go_wp2
      go_ret
      exact ⟨by rw [HF.out]; rfl, HFR.out⟩
/-- where a jump goes, by the document's search -/
theorem in_iff {p : Prg} (hp : partsP p) {x y : Int} {k : Nat} {f : Fn} (hx0 : 0 ≤ x) (hx : x < p.code.length) (hk : p.funcs[k]? = some f) (hf : inF f x = true) (hy0 : 0 ≤ y) (hy : y < p.code.length) : (inL p y = k) ↔ (f.b ≤ y ∧ y < f.e) := by
  obtain ⟨j, q, hj, hq, hqx⟩ := inL_get hp hy0 hy
  rw [hj]
  constructor
  · intro e
    have e' : j = k := by omega
    subst e'
    rw [hk] at hq; cases hq
    simpa [inF] using hqx
  · intro h
    have : j = k := partsGo_uniq (x := y) hp.2 hq hk hqx (by simpa [inF] using h)
    rw [this]
theorem in_at {p : Prg} (hp : partsP p) {x : Int} {k : Nat} {f : Fn} (hx0 : 0 ≤ x) (hx : x < p.code.length) (hk : p.funcs[k]? = some f) (hf : inF f x = true) : inL p x = k :=
  (in_iff hp hx0 hx hk hf hx0 hx).2 (by simpa [inF] using hf)
theorem in8 {J K im nc : Int} {P : Prop} (hq : im < nc → (J = K ↔ P)) (h : im < nc ∧ (J != K) = false) : P := (hq h.1).1 (by simpa using h.2)
theorem out8 {J K im nc fb fe : Int} (hq : im < nc → (J = K ↔ (fb ≤ im ∧ im < fe))) (hl : im < nc) (h : nc ≤ im ∨ (J != K) = true) : im < fb ∨ fe ≤ im := by
  rcases h with h | h
  · omega
  · have hne : ¬ J = K := by simpa using h
    have : ¬ (fb ≤ im ∧ im < fe) := fun x => hne ((hq hl).2 x)
    omega
set_option maxHeartbeats 16000000 in
theorem wrong8_ok {w : World} {vc vf vt : Value} {p : Prg} {ts : List (Tb × Value)} (h : RdP w vc vf vt p ts) (hw : p.Wf) (hs : sizesP p) (hp : partsP p) {x : Nat} {c : Int} (hx : p.code[x]? = some c) {k : Nat} {f : Fn} (hk : p.funcs[k]? = some f) (hf : inF f x = true) :
    Calls Tryz.prog 150 #[.agg #[vc, vf, vt], .int .i64 (x : Int)] w (Ret (.int .i64 (wrongL p.funcs.length p.tables.length x f c)) E0 w) := by
  have hc := hw.code c (List.mem_of_getElem? hx)
  have hxl := lt_of_get hx
  have hkl := lt_of_get hk
  have hts : ts.length = p.tables.length := by have := congrArg List.length h.are; simpa using this
  have hfm := (partsGo_mem hp.2).2 f (List.mem_of_getElem? hk)
  have HIN := hid (in_at hp (x := x) (by omega) (by omega) hk hf)
  have HQ := hid (fun (hj : jumpsL (decR c).1.op = true) => And.intro (jumps_imm hc.1 hc.2 hj) (fun (hy : (decR c).1.imm < p.code.length) => in_iff hp (x := x) (by omega) (by omega) hk hf (jumps_imm hc.1 hc.2 hj) hy))
  have HH := hid h
  obtain ⟨cA, cc, rfl, hc1, hc2, hc3⟩ := h.code.len (by decide) (codeC_len _)
  obtain ⟨fA, fc, rfl, hf1, hf2, hf3⟩ := h.funcs.len (by decide) (fnC_len _)
  obtain ⟨tA, tc, rfl, ht1, ht2, ht3⟩ := h.tabs.len (by decide) (tbC_len _)
  obtain ⟨b, o, rfl, hr⟩ := hc3.at (by intro e; have := codeC_len p.code; rw [e] at this; simp at this; omega)
  obtain ⟨bf, of, rfl, hrf⟩ := hf3.at (by intro e; have := fnC_len p.funcs; rw [e] at this; simp at this; omega)
  have g0 := hr.word hx
  have hbl := World.block_lt_of_cell? w _ g0
  obtain ⟨_, g1⟩ := hrf.fn hk
  have hbl1 := World.block_lt_of_cell? w _ g1
  rw [wrI_eq]
  have HD := fun w => decode6_ok c w hc.1 hc.2
  have HIO := hid (fun (W : World) (y : Int) (hW : Fr E0 w W) => in_ok (HH.out.fr hW) y)
  obtain ⟨fb, fe⟩ := f
  obtain ⟨s0, s1, s2⟩ := hs
  simp only at g1 hfm
  generalize decR c = D at HD HQ ⊢
  obtain ⟨⟨op, ia, ib, ic, im⟩, er⟩ := D
  simp only at HQ
  rw [hts] at ht1 HIO HH ⊢
  have HINg := fun y => (⟨_, rfl⟩ : ∃ J, inL p y = J)
  generalize hnf : p.funcs.length = nf at *
  generalize hnt : p.tables.length = nt at *
  generalize hnc : p.code.length = nc at *
  have HDD := hid HD
  clear HD h hw hts hc3 hf3 ht3 hr hrf hc hx hk hf hp HINg hnf hnt hnc
  obtain ⟨_, hbe, _, hen⟩ := hfm
  go_enter Tryz.func150, Tryz.ntmps150
  go_wp2_with fail
  refine (HDD.out _).mono ?_
  rintro e w1 ⟨rfl, hfr⟩
  obtain ⟨f1, f2, f3⟩ := fcell hfr
  have hz : w.heap.size < w1.heap.size := by simp at f3; omega
  have HF := hid hfr
  clear hfr f3
  simp only [tup2, Ins.val]
  go_wp2_with fail
  · go_ret
    exact ⟨by rw [wr80 ‹(er != 0) = true›]; rfl, (((Fr.refl.alloc _).trans HF.out).alloc _)⟩
  refine (HIO.out _ _ (((Fr.refl.alloc _).trans HF.out).alloc _)).mono ?_
  rintro e w2 ⟨rfl, hfr⟩
  rw [HIN.out]
  have F2 := hid ((((Fr.refl (S := E0) (w := w)).alloc _).trans HF.out |>.alloc _).trans hfr)
  have P2 := hid (hfr.heapAt ((heap_alloc_old _ _ hz).trans (HF.out.heapAt (heap_alloc_new w _) (fun x => x))) (fun x => x))
  have I2 := hid (hfr.heapAt (heap_alloc_new w1 _) (fun x => x))
  have g1' := F2.out.cell g1 (fun x => x)
  have p0 := cell_of_row w2 w.heap.size 0 _ _ _ P2.out
  have p1 := cell_of_row w2 w.heap.size 1 _ _ _ P2.out
  have p2 := cell_of_row w2 w.heap.size 2 _ _ _ P2.out
  obtain ⟨y0, y1, y2, y3, y4, yf⟩ := blk5 I2.out
  clear hfr f1 f2 g0 g1
  go_wp2_with (first | (go_at_call 247; refine (jumps8_ok _ _).mono ?_; rintro e w3 ⟨rfl, rfl⟩) | (go_at_call 248; refine (ends8_ok _ _).mono ?_; rintro e w3 ⟨rfl, rfl⟩) | (go_at_call 246; refine (HIO.out _ _ F2.out).mono ?_; rintro e w3 ⟨rfl, hf3⟩; have F3 := hid (F2.out.trans hf3); have P3 := hid (hf3.heapAt P2.out (fun x => x)); have I3 := hid (hf3.heapAt I2.out (fun x => x)); have g1'' := hf3.cell g1' (fun x => x); have q0 := cell_of_row w3 w.heap.size 0 _ _ _ P3.out; have q1 := cell_of_row w3 w.heap.size 1 _ _ _ P3.out; have q2 := cell_of_row w3 w.heap.size 2 _ _ _ P3.out; obtain ⟨u0, u1, u2, u3, u4, uf⟩ := blk5 I3.out; clear hf3))
  all_goals
    go_ret
    refine ⟨?_, by first | exact F3.out | exact F2.out⟩
    first | (rw [wr82 ‹(er != 0) = false› ‹_› (by omega)]; rfl) | (rw [wr82 ‹(er != 0) = false› ‹_› (out8 (HQ.out ‹_›).2 (by omega) ‹_›)]; rfl) | (rw [wr81 ‹(er != 0) = false› (by first | exact fun h => absurd h ‹_› | exact fun hj => in8 (HQ.out hj).2 ‹_›) (by omega) (by omega)]; rfl) | (rw [wr83 ‹(er != 0) = false› (by first | exact fun h => absurd h ‹_› | exact fun hj => in8 (HQ.out hj).2 ‹_›) (by omega) (by omega)]; rfl) | (rw [wr84 ‹(er != 0) = false› (by first | exact fun h => absurd h ‹_› | exact fun hj => in8 (HQ.out hj).2 ‹_›) (by omega) (by omega) (by omega) ‹_›]; rfl) | (rw [wr84' ‹(er != 0) = false› (by first | exact fun h => absurd h ‹_› | exact fun hj => in8 (HQ.out hj).2 ‹_›) (by omega) (by omega) (by omega) (by omega)]; rfl) | (rw [wr0 ‹(er != 0) = false› (by first | exact fun h => absurd h ‹_› | exact fun hj => in8 (HQ.out hj).2 ‹_›) (by omega) (by omega) (by omega)]; rfl) | (rw [wr0' ‹(er != 0) = false› (by first | exact fun h => absurd h ‹_› | exact fun hj => in8 (HQ.out hj).2 ‹_›) (by omega) (by omega) ‹_›]; rfl) | (rw [wr0'' ‹(er != 0) = false› (by first | exact fun h => absurd h ‹_› | exact fun hj => in8 (HQ.out hj).2 ‹_›) (by omega) (by omega) ‹_›]; rfl)
end Go.Proofs.YtocepiogpeafoaaGreatDoor
