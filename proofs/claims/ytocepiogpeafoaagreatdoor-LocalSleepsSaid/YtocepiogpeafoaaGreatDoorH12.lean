/- Words and contracts of calls that the law needs (Wrong, Tables): merged by wip/gen/zmerge.py. No condition but those that each theorem names. -/
import Derived.Test.YtocepiogpeafoaaGreatDoorProg
import Derived.Test.YtocepiogpeafoaaGreatDoorH11
set_option linter.unusedVariables false
/- proper.wrong: the walk. -/
namespace Go.Proofs.YtocepiogpeafoaaGreatDoor
open Go.RowKit
set_option linter.unusedVariables false
/-- what is wrong with an instruction, its error told -/
def wrI (nf nt x : Int) (f : Fn) (i : Ins) (er : Int) : Int :=
  if er ≠ 0 then 80
  else if jumpsL i.op && (decide (i.imm < f.b) || decide (f.e ≤ i.imm)) then 82
  else if (decide (i.op = 20) || decide (i.op = 22)) && decide (nf ≤ i.imm) then 81
  else if decide (i.op = 34) && decide (nt ≤ i.imm) then 83
  else if decide (x = f.e - 1) && !endsL i.op then 84
  else 0
theorem wrI_eq (nf nt x : Int) (f : Fn) (c : Int) : wrongL nf nt x f c = wrI nf nt x f (decR c).1 (decR c).2 := rfl
section
variable {nf nt x fb fe op ia ib ic im er : Int}
theorem wr80 (h : (er != 0) = true) : wrI nf nt x ⟨fb, fe⟩ ⟨op, ia, ib, ic, im⟩ er = 80 := by
  unfold wrI; rw [if_pos (by simpa using h)]
theorem wr82 (h : (er != 0) = false) (hj : jumpsL op = true) (hi : im < fb ∨ fe ≤ im) : wrI nf nt x ⟨fb, fe⟩ ⟨op, ia, ib, ic, im⟩ er = 82 := by
  unfold wrI; rw [if_neg (by simpa using h), if_pos (by simp [hj]; exact hi)]
theorem wrN (h : (er != 0) = false) (hj : jumpsL op = true → fb ≤ im ∧ im < fe) : wrI nf nt x ⟨fb, fe⟩ ⟨op, ia, ib, ic, im⟩ er =
    if (decide (op = 20) || decide (op = 22)) && decide (nf ≤ im) then 81 else if decide (op = 34) && decide (nt ≤ im) then 83 else if decide (x = fe - 1) && !endsL op then 84 else 0 := by
  unfold wrI; rw [if_neg (by simpa using h), if_neg]
  intro hh
  simp only [Bool.and_eq_true, Bool.or_eq_true, decide_eq_true_eq] at hh
  have := hj hh.1
  omega
theorem wr81 (h : (er != 0) = false) (hj : jumpsL op = true → fb ≤ im ∧ im < fe) (ho : op = 20 ∨ op = 22) (hi : nf ≤ im) : wrI nf nt x ⟨fb, fe⟩ ⟨op, ia, ib, ic, im⟩ er = 81 := by
  rw [wrN h hj, if_pos (by simp [ho, hi])]
theorem wr83 (h : (er != 0) = false) (hj : jumpsL op = true → fb ≤ im ∧ im < fe) (ho : op = 34) (hi : nt ≤ im) : wrI nf nt x ⟨fb, fe⟩ ⟨op, ia, ib, ic, im⟩ er = 83 := by
  rw [wrN h hj, if_neg (by simp [ho]), if_pos (by simp [ho, hi])]
theorem wrM (h : (er != 0) = false) (hj : jumpsL op = true → fb ≤ im ∧ im < fe) (hn : (op = 20 ∨ op = 22) → im < nf) (ht : op = 34 → im < nt) : wrI nf nt x ⟨fb, fe⟩ ⟨op, ia, ib, ic, im⟩ er =
    if decide (x = fe - 1) && !endsL op then 84 else 0 := by
  rw [wrN h hj, if_neg, if_neg]
  · intro hh
    simp only [Bool.and_eq_true, decide_eq_true_eq] at hh
    have := ht hh.1; omega
  · intro hh
    simp only [Bool.and_eq_true, Bool.or_eq_true, decide_eq_true_eq] at hh
    have := hn hh.1; omega
theorem wr84 (h : (er != 0) = false) (hj : jumpsL op = true → fb ≤ im ∧ im < fe) (hn : (op = 20 ∨ op = 22) → im < nf) (ht : op = 34 → im < nt) (hx : x = fe - 1) (he : (!endsL op) = true) : wrI nf nt x ⟨fb, fe⟩ ⟨op, ia, ib, ic, im⟩ er = 84 := by
  rw [wrM h hj hn ht, if_pos (by simp [hx] at he ⊢; exact he)]
theorem wr84' (h : (er != 0) = false) (hj : jumpsL op = true → fb ≤ im ∧ im < fe) (hn : (op = 20 ∨ op = 22) → im < nf) (ht : op = 34 → im < nt) (hx : x = fe - 1) (ho : op = 20 ∨ op = 22 ∨ op = 34) : wrI nf nt x ⟨fb, fe⟩ ⟨op, ia, ib, ic, im⟩ er = 84 :=
  wr84 h hj hn ht hx (by rcases ho with rfl | rfl | rfl <;> rfl)
theorem wr0 (h : (er != 0) = false) (hj : jumpsL op = true → fb ≤ im ∧ im < fe) (hn : (op = 20 ∨ op = 22) → im < nf) (ht : op = 34 → im < nt) (hx : ¬ x = fe - 1) : wrI nf nt x ⟨fb, fe⟩ ⟨op, ia, ib, ic, im⟩ er = 0 := by
  rw [wrM h hj hn ht, if_neg (by simp [hx])]
theorem wr0'' (h : (er != 0) = false) (hj : jumpsL op = true → fb ≤ im ∧ im < fe) (hn : (op = 20 ∨ op = 22) → im < nf) (ht : op = 34 → im < nt) (he : (!endsL op) = false) : wrI nf nt x ⟨fb, fe⟩ ⟨op, ia, ib, ic, im⟩ er = 0 := by
  rw [wrM h hj hn ht, if_neg (by simp at he; simp [he])]
theorem wr0' (h : (er != 0) = false) (hj : jumpsL op = true → fb ≤ im ∧ im < fe) (hn : (op = 20 ∨ op = 22) → im < nf) (ht : op = 34 → im < nt) (he : ¬ (!endsL op) = true) : wrI nf nt x ⟨fb, fe⟩ ⟨op, ia, ib, ic, im⟩ er = 0 := by
  rw [wrM h hj hn ht, if_neg (by simp at he; simp [he])]
end
set_option maxHeartbeats 16000000 in
theorem wrong_ok {w : World} {vc vf vt : Value} {p : Prg} {ts : List (Tb × Value)} (h : RdP w vc vf vt p ts) (hw : p.Wf) (hs : sizesP p) {x : Nat} {c : Int} (hx : p.code[x]? = some c) (f : Fn) (hf : i64 f.b ∧ i64 f.e ∧ f.b < f.e) :
    Calls Tryz.prog 140 #[.agg #[vc, vf, vt], .int .i64 (x : Int), f.val] w (Ret (.int .i64 (wrongL p.funcs.length p.tables.length x f c)) E0 w) := by
  have hc := hw.code c (List.mem_of_getElem? hx)
  have hxl := lt_of_get hx
  have hts : ts.length = p.tables.length := by have := congrArg List.length h.are; simpa using this
  obtain ⟨cA, cc, rfl, hc1, hc2, hc3⟩ := h.code.len (by decide) (codeC_len _)
  obtain ⟨fA, fc, rfl, hf1, hf2, hf3⟩ := h.funcs.len (by decide) (fnC_len _)
  obtain ⟨tA, tc, rfl, ht1, ht2, ht3⟩ := h.tabs.len (by decide) (tbC_len _)
  obtain ⟨b, o, rfl, hr⟩ := hc3.at (by intro e; have := codeC_len p.code; rw [e] at this; simp at this; omega)
  have g0 := hr.word hx
  have hbl := World.block_lt_of_cell? w _ g0
  rw [wrI_eq]
  have HD := fun w => decode_ok c w hc.1 hc.2
  generalize decR c = D at HD ⊢
  obtain ⟨⟨op, ia, ib, ic, im⟩, er⟩ := D
  obtain ⟨fb, fe⟩ := f
  obtain ⟨⟨b0, b1⟩, ⟨e0, e1⟩, hbe⟩ := hf
  obtain ⟨s0, s1, s2⟩ := hs
  rw [hts]
  generalize p.funcs.length = nf at *
  generalize p.tables.length = nt at *
  generalize p.code.length = nc at *
  have HDD := hid HD
  simp only at b0 b1 e0 e1 hbe
  clear HD h hw hts hc3 hf3 ht3 hr hc hx
  simp only [Fn.val]
  go_enter Tryz.func140, Tryz.ntmps140
  go_wp2_with fail
  refine (HDD.out _).mono ?_
  rintro e w1 ⟨rfl, hfr⟩
  obtain ⟨f1, f2, f3⟩ := fcell hfr
  have hz : w.heap.size + 1 < w1.heap.size := by simp at f3; omega
  have hz' : w.heap.size < w1.heap.size := by omega
  have HF := hid hfr
  clear hfr f3
  simp only [tup2, Ins.val]
  go_wp2_with (first | (go_at_call 239; refine (jumps_ok _ _).mono ?_; rintro e w2 ⟨rfl, rfl⟩) | (go_at_call 240; refine (ends_ok _ _).mono ?_; rintro e w2 ⟨rfl, rfl⟩))
  all_goals
    go_ret
    refine ⟨?_, by repeat (with_reducible first | exact Fr.refl | refine Fr.alloc ?_ _ | refine Fr.setNew ?_ _ (by simp) | refine Fr.trans ?_ HF.out)⟩
    first | (rw [wr80 ‹(er != 0) = true›]; rfl) | (rw [wr82 ‹(er != 0) = false› ‹_› (by omega)]; rfl) | (rw [wr81 ‹(er != 0) = false› (by first | exact fun h => absurd h ‹_› | exact fun _ => by omega) (by omega) (by omega)]; rfl) | (rw [wr83 ‹(er != 0) = false› (by first | exact fun h => absurd h ‹_› | exact fun _ => by omega) (by omega) (by omega)]; rfl) | (rw [wr84 ‹(er != 0) = false› (by first | exact fun h => absurd h ‹_› | exact fun _ => by omega) (by omega) (by omega) (by omega) ‹_›]; rfl) | (rw [wr0 ‹(er != 0) = false› (by first | exact fun h => absurd h ‹_› | exact fun _ => by omega) (by omega) (by omega) (by omega)]; rfl) | (rw [wr0' ‹(er != 0) = false› (by first | exact fun h => absurd h ‹_› | exact fun _ => by omega) (by omega) (by omega) ‹_›]; rfl) | (rw [wr84' ‹(er != 0) = false› (by first | exact fun h => absurd h ‹_› | exact fun _ => by omega) (by omega) (by omega) (by omega) (by omega)]; rfl) | (rw [wr0'' ‹(er != 0) = false› (by first | exact fun h => absurd h ‹_› | exact fun _ => by omega) (by omega) (by omega) ‹_›]; rfl)
end Go.Proofs.YtocepiogpeafoaaGreatDoor
/- proper.tables and what it calls: the walks. -/
namespace Go.Proofs.YtocepiogpeafoaaGreatDoor
open Go.RowKit
set_option linter.unusedVariables false
def regB (n : Int) : Bool := decide (0 ≤ n) && decide (n < 16)
theorem preg_yes (n : Int) (w : World) (h : regB n = true) : Calls Tryz.prog 238 #[.int .i64 n] w fun e w' => e = .returned (.bool true) ∧ w = w' := by
  simp [regB] at h
  obtain ⟨h0, h1⟩ := h
  go_enter Tryz.func238, Tryz.ntmps238
  go_wp2
  go_ret
  exact ⟨rfl, rfl⟩
theorem preg_no (n : Int) (w : World) (h : regB n = false) : Calls Tryz.prog 238 #[.int .i64 n] w fun e w' => e = .returned (.bool false) ∧ w = w' := by
  by_cases h0 : 0 ≤ n
  · have h1 : ¬ n < 16 := by simp [regB, h0] at h; omega
    clear h
    go_enter Tryz.func238, Tryz.ntmps238
    go_wp2
    go_ret
    exact ⟨rfl, rfl⟩
  · clear h
    go_enter Tryz.func238, Tryz.ntmps238
    go_wp2
    go_ret
    exact ⟨rfl, rfl⟩
theorem csB_eq (c : Cs) : csB c = (regB c.ch && regB c.v && regB c.ok && !(c.send && decide (c.ok ≠ 0))) := by simp [csB, regB]
set_option maxHeartbeats 2000000 in
theorem case_ok (c : Cs) (w : World) : Calls Tryz.prog 237 #[c.val] w (Ret (.bool (!csB c)) E0 w) := by
  rw [csB_eq]
  obtain ⟨s, ch, v, ok⟩ := c
  simp only [Cs.val]
  rcases h1 : regB ch with _ | _
  · have H := hid h1
    clear h1
    go_enter Tryz.func237, Tryz.ntmps237
    go_wp2_with fail
    refine (preg_no _ _ H.out).mono ?_
    rintro e w1 ⟨rfl, rfl⟩
    go_wp2
    go_ret
    exact ⟨by simp, Fr.refl.alloc _⟩
  rcases h2 : regB v with _ | _
  · have H := hid h1
    have H2 := hid h2
    clear h1 h2
    go_enter Tryz.func237, Tryz.ntmps237
    go_wp2_with fail
    refine (preg_yes _ _ H.out).mono ?_
    rintro e w1 ⟨rfl, rfl⟩
    go_wp2_with fail
    refine (preg_no _ _ H2.out).mono ?_
    rintro e w1 ⟨rfl, rfl⟩
    go_wp2
    go_ret
    exact ⟨by simp, Fr.refl.alloc _⟩
  rcases h3 : regB ok with _ | _
  · have H := hid h1
    have H2 := hid h2
    have H3 := hid h3
    clear h1 h2 h3
    go_enter Tryz.func237, Tryz.ntmps237
    go_wp2_with fail
    refine (preg_yes _ _ H.out).mono ?_
    rintro e w1 ⟨rfl, rfl⟩
    go_wp2_with fail
    refine (preg_yes _ _ H2.out).mono ?_
    rintro e w1 ⟨rfl, rfl⟩
    go_wp2_with fail
    refine (preg_no _ _ H3.out).mono ?_
    rintro e w1 ⟨rfl, rfl⟩
    go_wp2
    go_ret
    exact ⟨by simp, Fr.refl.alloc _⟩
  have H := hid h1
  have H2 := hid h2
  have H3 := hid h3
  clear h1 h2 h3
  cases s
  all_goals
    go_enter Tryz.func237, Tryz.ntmps237
    go_wp2_with fail
    refine (preg_yes _ _ H.out).mono ?_
    rintro e w1 ⟨rfl, rfl⟩
    go_wp2_with fail
    refine (preg_yes _ _ H2.out).mono ?_
    rintro e w1 ⟨rfl, rfl⟩
    go_wp2_with fail
    refine (preg_yes _ _ H3.out).mono ?_
    rintro e w1 ⟨rfl, rfl⟩
    go_wp2
    all_goals (go_ret; exact ⟨by first | (simp; done) | (simp [bne]; rfl), Fr.refl.alloc _⟩)
theorem RdA.ne {w : World} {A : Option Addr} {xs : List Value} (h : RdA w A xs) (hn : 0 < xs.length) : ∃ b o, A = some ⟨b, o, none⟩ ∧ RdL w b o xs :=
  h.at (by intro e; rw [e] at hn; simp at hn)
set_option maxHeartbeats 1000000 in
theorem indexC (A : Option Addr) (n c : Nat) (l : List Cs) (w : World) (hl : l.length = n) (hn : n ≤ maxLen) (hc : RdA w A (csC l)) :
    Calls Tryz.prog 319 #[.slice A n c, .func (.func 237) #[] #[]] w (Ret (.int .i64 (idxv (fun x => !csB x) l)) E0 w) := by
  unfold maxLen at hn
  go_enter Tryz.func319, Tryz.ntmps319
  go_wp2
  go_loopw [8] (fun i wr => ∃ k : Nat, k ≤ n ∧ i = .int .i64 k ∧ Fr E0 w wr ∧ ∀ j, j < k → ∀ x, l[j]? = some x → (!csB x) = false) (fun i _ => n - (intOf i).toNat)
  case atStart => exact ⟨0, Nat.zero_le _, rfl, Fr.refl, fun j hj => absurd hj (by omega)⟩
  case round =>
    obtain ⟨k, hk, rfl, hf, hno⟩ := hrel
    have H := hid hno; clear hno
    by_cases hlt : k < n
    · obtain ⟨x, hx⟩ : ∃ x, l[k]? = some x := ⟨l[k], List.getElem?_eq_getElem (by omega)⟩
      obtain ⟨b, o, rfl, hr⟩ := hc.ne (by rw [csC_len]; omega)
      obtain ⟨g0, g1, g2, g3⟩ := (hr.fr hf (fun x => x)).cs hx
      have HX := hid hx
      clear hr hc hx
      go_wp2_with fail
      refine (case_ok x wr).mono ?_
      rintro e w1 ⟨rfl, hf1⟩
      have F1 := hid (hf.trans hf1)
      clear hf hf1
      cases hpx : csB x with
      | false =>
        have HP := hid (show (!csB x) = true by rw [hpx]; rfl); clear hpx
        go_wp2
        go_ret
        exact ⟨by rw [idxv_hit HX.out HP.out H.out]; rfl, F1.out⟩
      | true =>
        have HP := hid (show (!csB x) = false by rw [hpx]; rfl); clear hpx
        go_wp2
        go_roundw
        case rel => exact ⟨k + 1, by omega, by go_num, F1.out, miss_succ HX.out HP.out H.out⟩
        case measure => simp [intOf]; omega
    · have F := hid hf
      go_wp2
      go_ret
      exact ⟨by rw [idxv_miss (by omega) H.out]; rfl, F.out⟩
set_option maxHeartbeats 400000 in
theorem containsC (A : Option Addr) (n c : Nat) (l : List Cs) (w : World) (hl : l.length = n) (hn : n ≤ maxLen) (hc : RdA w A (csC l)) :
    Calls Tryz.prog 236 #[.slice A n c, .func (.func 237) #[] #[]] w (Ret (.bool (l.any fun x => !csB x)) E0 w) := by
  have hi := idxv_any (fun x => !csB x) l
  generalize (l.any fun x => !csB x) = r at *
  go_enter Tryz.func236, Tryz.ntmps236
  go_wp2_with (go_at_call 319; refine (indexC A n c l w hl hn hc).mono ?_; rintro e w1 ⟨rfl, hf1⟩; have F1 := hid hf1; clear hf1)
  go_ret
  exact ⟨by rfl, F1.out⟩
theorem tbB_eq (t : Tb) : (!tbB t) = (decide (16 < t.cases.length) || t.cases.any fun x => !csB x) := by
  unfold tbB
  rw [Bool.not_and]
  congr 1
  · by_cases h : t.cases.length ≤ 16
    · simp [h]
    · simp [h]; omega
  · induction t.cases with
    | nil => rfl
    | cons x l ih => simp only [List.all_cons, List.any_cons, Bool.not_and, ih]
set_option maxHeartbeats 1000000 in
theorem table1 (t : Tb) (v : Value) (w : World) (h : Rd w v 4 (csC t.cases)) :
    Calls Tryz.prog 235 #[.agg #[v, .bool t.dflt]] w (Ret (.bool (!tbB t)) E0 w) := by
  obtain ⟨A, c, rfl, h1, h2, h3⟩ := h.len (by decide) (csC_len _)
  obtain ⟨n, hn⟩ : ∃ n, t.cases.length = n := ⟨_, rfl⟩
  have HE := hid (tbB_eq t)
  rw [hn] at h1 HE ⊢
  by_cases hb : 16 < n
  · have HT := hid (show (!tbB t) = true by rw [HE.out]; simp [hb])
    clear hn h3
    have hb' : decide ((16 : Int) < (n : Int)) = true := by simp; omega
    go_enter Tryz.func235, Tryz.ntmps235
    go_wp2
    go_ret
    exact ⟨by rw [HT.out]; rfl, Fr.refl.alloc _⟩
  · have HT := hid (show (!tbB t) = t.cases.any fun x => !csB x by rw [HE.out]; simp [hb])
    have hb' : decide ((16 : Int) < (n : Int)) = false := by simp; omega
    have HN := hid hn
    have HR := hid h3
    clear hn h3
    unfold maxLen at h2
    go_enter Tryz.func235, Tryz.ntmps235
    go_wp2_with fail
    refine (containsC A n c t.cases _ HN.out (by unfold maxLen; omega) (HR.out.fr (Fr.refl.alloc _))).mono ?_
    rintro e w1 ⟨rfl, hf⟩
    have F1 := hid hf
    clear hf
    go_wp2
    go_ret
    exact ⟨by rw [HT.out]; rfl, (Fr.refl.alloc _).trans F1.out⟩
set_option maxHeartbeats 1000000 in
theorem indexT (A : Option Addr) (n c : Nat) (l : List (Tb × Value)) (w : World) (hl : l.length = n) (hn : n ≤ maxLen) (hc : RdA w A (tbC l)) (he : ∀ x ∈ l, Rd w x.2 4 (csC x.1.cases)) :
    Calls Tryz.prog 234 #[.slice A n c, .func (.func 235) #[] #[]] w (Ret (.int .i64 (idxv (fun x => !tbB x.1) l)) E0 w) := by
  unfold maxLen at hn
  have HE := hid he
  clear he
  go_enter Tryz.func234, Tryz.ntmps234
  go_wp2
  go_loopw [8] (fun i wr => ∃ k : Nat, k ≤ n ∧ i = .int .i64 k ∧ Fr E0 w wr ∧ ∀ j, j < k → ∀ x, l[j]? = some x → (fun x : Tb × Value => !tbB x.1) x = false) (fun i _ => n - (intOf i).toNat)
  case atStart => exact ⟨0, Nat.zero_le _, rfl, Fr.refl, fun j hj => absurd hj (by omega)⟩
  case round =>
    obtain ⟨k, hk, rfl, hf, hno⟩ := hrel
    have H := hid hno; clear hno
    by_cases hlt : k < n
    · obtain ⟨x, hx⟩ : ∃ x, l[k]? = some x := ⟨l[k], List.getElem?_eq_getElem (by omega)⟩
      obtain ⟨b, o, rfl, hr⟩ := hc.ne (by rw [tbC_len]; omega)
      obtain ⟨g0, g1⟩ := (hr.fr hf (fun x => x)).tb hx
      have HX := hid hx
      have hrx := (HE.out x (List.mem_of_getElem? hx)).fr hf
      obtain ⟨vA, vn, vc, hv, hv1, hv2, hv3, hv4⟩ := hrx
      have HRX := hid ((HE.out x (List.mem_of_getElem? hx)).fr hf)
      rw [hv] at g0 HRX
      clear hr hc hx hv hv1 hv2 hv3 hv4
      go_wp2_with fail
      refine (table1 x.1 _ wr HRX.out).mono ?_
      rintro e w1 ⟨rfl, hf1⟩
      have F1 := hid (hf.trans hf1)
      clear hf hf1
      cases hpx : tbB x.1 with
      | false =>
        have HP := hid (show (fun x : Tb × Value => !tbB x.1) x = true by simp [hpx]); clear hpx
        go_wp2
        go_ret
        exact ⟨by rw [idxv_hit HX.out HP.out H.out]; rfl, F1.out⟩
      | true =>
        have HP := hid (show (fun x : Tb × Value => !tbB x.1) x = false by simp [hpx]); clear hpx
        go_wp2
        go_roundw
        case rel => exact ⟨k + 1, by omega, by go_num, F1.out, miss_succ HX.out HP.out H.out⟩
        case measure => simp [intOf]; omega
    · have F := hid hf
      go_wp2
      go_ret
      exact ⟨by rw [idxv_miss (by omega) H.out]; rfl, F.out⟩
def TabPost (p : Prg) (w : World) (e : Ending) (w' : World) : Prop := ∃ k : Int, e = .returned (tup2 (.int .i64 k) (.bool (tablesB p))) ∧ Fr E0 w w'
theorem tabs_idx {p : Prg} {ts : List (Tb × Value)} (h : ts.map (·.1) = p.tables) : decide (idxv (fun x : Tb × Value => !tbB x.1) ts < 0) = tablesB p := by
  have h1 := idxv_any (fun x : Tb × Value => !tbB x.1) ts
  have h2 : tablesB p = !(ts.any fun x => !tbB x.1) := by
    unfold tablesB; rw [← h]
    induction ts generalizing p with
    | nil => rfl
    | cons x l ih => simp only [List.map_cons, List.all_cons, List.any_cons, Bool.not_or, Bool.not_not]; rw [ih (p := ⟨[], [], l.map (·.1)⟩) rfl (idxv_any _ _)]
  rw [h2, ← h1, Bool.eq_iff_iff]
  simp
set_option maxHeartbeats 1000000 in
theorem tables_ok {w : World} {vc vf vt : Value} {p : Prg} {ts : List (Tb × Value)} (h : RdP w vc vf vt p ts) (hn : p.tables.length ≤ 256) :
    Calls Tryz.prog 139 #[.agg #[vc, vf, vt]] w (TabPost p w) := by
  have hl : ts.length ≤ 256 := by have := congrArg List.length h.are; simp at this; omega
  obtain ⟨tA, tc, rfl, ht1, ht2, ht3⟩ := h.tabs.len (by decide) (tbC_len _)
  have HE := hid (tabs_idx h.are)
  have HR := hid ht3
  have HH := hid h.each
  obtain ⟨n, hn'⟩ : ∃ n, ts.length = n := ⟨_, rfl⟩
  have HN := hid hn'
  rw [hn'] at ht1 hl ⊢
  clear h ht3 hn'
  generalize hI : idxv (fun x : Tb × Value => !tbB x.1) ts = I at HE
  have HI := hid hI
  clear hI
  go_enter Tryz.func139, Tryz.ntmps139
  go_wp2_with fail
  refine (indexT tA n tc ts _ HN.out (by unfold maxLen; omega) (HR.out.fr (Fr.refl.alloc _)) (fun x hx => (HH.out x hx).fr (Fr.refl.alloc _))).mono ?_
  rintro e w1 ⟨rfl, hf⟩
  have F1 := hid hf
  clear hf
  rw [HI.out]
  go_wp2
  go_ret2
  exact ⟨I, by rw [← HE.out]; rfl, (Fr.refl.alloc _).trans F1.out⟩
end Go.Proofs.YtocepiogpeafoaaGreatDoor
