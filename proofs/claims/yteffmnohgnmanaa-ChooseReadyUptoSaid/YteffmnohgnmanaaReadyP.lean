/- ChooseReady, the plain law: what a select did, told by what could go on. -/
import Derived.Test.YteffmnohgnmanaaSelP
import Derived.Test.YteffmnohgnmanaaDrawP
import Derived.Test.YteffmnohgnmanaaOps
namespace Go.Proofs.Yteffmnohgnmanaa
theorem waitsF {gs gg : Int} {l : List Ch} : waitsL gs gg l = false ↔ ∀ c ∈ l, waitsCh gs gg c = false := by
  unfold waitsL; rw [List.any_eq_false]; simp
theorem waits_set {gs gg : Int} {l : List Ch} {k : Nat} {c : Ch} (h : waitsL gs gg l = false) (hc : waitsCh gs gg c = false) : waitsL gs gg (l.set k c) = false := by
  rw [waitsF] at h ⊢
  intro d hd
  rcases List.mem_or_eq_of_mem_set hd with hd | rfl
  · exact h d hd
  · exact hc
theorem waits_leave {gs gg s g : Int} {l : List Ch} (h : waitsL gs gg l = false) : waitsL gs gg (leaveL s g l) = false := by
  rw [waitsF] at h ⊢
  intro d hd
  obtain ⟨c, hc, rfl⟩ := List.mem_map.1 hd
  have := h c hc
  unfold waitsCh at this ⊢
  rw [Bool.or_eq_false_iff, List.any_eq_false, List.any_eq_false] at this ⊢
  exact ⟨fun x hx => this.1 x (List.mem_filter.1 hx).1, fun x hx => this.2 x (List.mem_filter.1 hx).1⟩
theorem carry_goes {l : List Ch} {p : Pk} {gs gg : Int} (hw : waitsL gs gg l = false) (hg : goesL l p.ch p.send = true) : ∃ l' m, carryL l p gs gg = (l', m, 0) ∧ m.waits = false ∧ waitsL gs gg l' = false := by
  obtain ⟨snd, ch, v⟩ := p
  unfold goesL at hg
  simp only at hg
  cases hc : getC l ch with
  | none => rw [hc] at hg; cases hg
  | some c =>
    rw [hc] at hg
    have ht := trapC_some hc
    have hcw := (waitsF.1 hw) c (getC_mem hc)
    obtain ⟨cap, vals, sn, rc, cl⟩ := c
    cases snd with
    | true =>
      simp only [carryL, if_true, sendL, hw, Bool.false_eq_true, if_false, ht, ne_eq, not_true_eq_false, hc]
      cases cl with
      | true => exact ⟨_, _, rfl, rfl, hw⟩
      | false =>
        simp only [Bool.false_eq_true, if_false]
        cases rc with
        | cons x r => exact ⟨_, _, rfl, rfl, waits_leave hw⟩
        | nil =>
          simp [goesC] at hg
          simp only [if_pos hg]
          exact ⟨_, _, rfl, rfl, waits_set hw hcw⟩
    | false =>
      simp only [carryL, Bool.false_eq_true, if_false, recvL, hw, ht, ne_eq, not_true_eq_false, hc]
      cases vals with
      | cons y vs =>
        cases sn with
        | nil => exact ⟨_, _, rfl, rfl, waits_set hw hcw⟩
        | cons x r => exact ⟨_, _, rfl, rfl, waits_leave (waits_set hw hcw)⟩
      | nil =>
        cases sn with
        | cons x r => exact ⟨_, _, rfl, rfl, waits_leave hw⟩
        | nil =>
          cases cl with
          | true => exact ⟨_, _, rfl, rfl, hw⟩
          | false => simp [goesC] at hg
theorem pickGo_some {l : List Ch} {cases : List Pk} : ∀ {ord : List Int} {i : Int}, (∀ x ∈ ord, 0 ≤ x) → pickGo l cases ord = some i → ∃ (k : Nat) (p : Pk), i = k ∧ cases[k]? = some p ∧ goesL l p.ch p.send = true
  | [], i, _, h => by simp [pickGo] at h
  | x :: r, i, hx, h => by
    have ih := pickGo_some (l := l) (cases := cases) (ord := r) (i := i) (fun y hy => hx y (by simp [hy]))
    rw [pickGo] at h
    cases hp : cases[x.toNat]? with
    | none => rw [hp] at h; exact ih h
    | some p =>
      rw [hp] at h
      simp only at h
      split at h
      · rename_i hg
        injection h with h; subst h
        exact ⟨x.toNat, p, (Int.toNat_of_nonneg (hx x (by simp))).symm, hp, hg⟩
      · exact ih h
theorem pickGo_none {l : List Ch} {cases : List Pk} : ∀ {ord : List Int}, pickGo l cases ord = none → ∀ x ∈ ord, ∀ p, cases[x.toNat]? = some p → goesL l p.ch p.send = false
  | [], _, x, hx, _, _ => by simp at hx
  | y :: r, h, x, hx, p, hp => by
    rw [pickGo] at h
    cases hq : cases[y.toNat]? with
    | none =>
      rw [hq] at h
      rcases List.mem_cons.1 hx with rfl | hx
      · rw [hq] at hp; cases hp
      · exact pickGo_none h x hx p hp
    | some q =>
      rw [hq] at h
      simp only at h
      split at h
      · cases h
      · rename_i hg
        rcases List.mem_cons.1 hx with rfl | hx
        · rw [hq] at hp; injection hp with hp; subst hp; simpa using hg
        · exact pickGo_none h x hx p hp
theorem ordN_all {n : Nat} {draws : List Int} {k : Nat} (hk : k < n) : (k : Int) ∈ ordN n draws n := by
  obtain ⟨j, _, hj⟩ := (ordN_perm n draws n (Nat.le_refl _)).hit k hk
  exact List.mem_of_getElem? hj
theorem trapP_zero {tf : Int → Int} {l : List Pk} : trapP tf l = 0 ↔ ∀ p ∈ l, tf p.ch = 0 := by
  induction l with
  | nil => simp [trapP]
  | cons p r ih =>
    rw [trapP]
    split
    · rename_i h; rw [ih]; simp [h]
    · rename_i h; simp [h]
theorem trapP_4 {l : List Ch} {cs : List Pk} : trapP (trapC l) cs = 0 ∨ trapP (trapC l) cs = 4 := by
  induction cs with
  | nil => simp [trapP]
  | cons p r ih =>
    rw [trapP]
    split
    · exact ih
    · rename_i h
      right
      unfold trapC at h ⊢
      by_cases h0 : p.ch = 0
      · rw [if_pos h0] at h; exact absurd rfl h
      · rw [if_neg h0] at h ⊢
        cases hg : getC l p.ch with
        | none => rfl
        | some c => rw [hg] at h; exact absurd rfl h
theorem getC_len {l l' : List Ch} (h : l'.length = l.length) {ch : Int} : (getC l' ch).isSome = (getC l ch).isSome := by
  unfold getC
  split
  · by_cases hl : (ch - 1).toNat < l.length
    · rw [List.getElem?_eq_getElem hl, List.getElem?_eq_getElem (by omega)]; rfl
    · rw [List.getElem?_eq_none (by omega), List.getElem?_eq_none (by omega)]
  · rfl
theorem waitL_len (l : List Ch) (ch : Int) (x : Wt) (send : Bool) : (waitL l ch x send).1.length = l.length := by
  unfold waitL setK; split
  · rfl
  · split <;> simp
theorem waitK_len (l : List Ch) (gs gg : Int) (cs : List Pk) : ∀ k, (waitK l gs gg cs k).length = l.length := by
  intro k
  induction k with
  | zero => rfl
  | succ k ih =>
    rw [waitK]; split
    · exact ih
    · split
      · exact ih
      · rw [waitL_len]; exact ih
theorem waitL_waits {l : List Ch} {ch gs gg c v : Int} {send : Bool} (h : (getC l ch).isSome = true) : waitsL gs gg (waitL l ch ⟨gs, gg, c, v⟩ send).1 = true := by
  obtain ⟨d, hd⟩ := Option.isSome_iff_exists.1 h
  obtain ⟨k, rfl, hk⟩ := getC_k hd
  have hlt : k < l.length := (List.getElem?_eq_some_iff.1 hk).1
  unfold waitL
  rw [hd]
  simp only
  have hs : ∀ e : Ch, waitsCh gs gg e = true → waitsL gs gg (setK l ((k : Int) + 1) e) = true := by
    intro e he
    rw [setK_k]
    unfold waitsL
    rw [List.any_eq_true]
    exact ⟨e, List.mem_iff_getElem.2 ⟨k, by simpa using hlt, by simp⟩, he⟩
  cases send with
  | true => simp only [if_true]; exact hs _ (by simp [waitsCh, isG])
  | false => simp only [Bool.false_eq_true, if_false]; exact hs _ (by simp [waitsCh, isG])
theorem waitK_waits {l : List Ch} {gs gg : Int} {cs : List Pk} (hw : waitsL gs gg l = false) (ht : ∀ p ∈ cs, trapC l p.ch = 0) : ∀ k, k ≤ cs.length → waitsL gs gg (waitK l gs gg cs k) = (cs.take k).any (fun p => decide (p.ch ≠ 0)) := by
  intro k
  induction k with
  | zero => intro _; simpa [waitK] using hw
  | succ k ih =>
    intro hk
    have ih := ih (by omega)
    obtain ⟨p, hp⟩ : ∃ p, cs[k]? = some p := ⟨cs[k], List.getElem?_eq_getElem (by omega)⟩
    rw [waitK, hp, List.take_add_one, hp, List.any_append]
    simp only
    by_cases h0 : p.ch = 0
    · rw [if_pos h0, ih]; simp [h0]
    · rw [if_neg h0, waitL_waits]
      · simp [h0]
      · rw [getC_len (waitK_len l gs gg cs k)]
        have := ht p (List.mem_of_getElem? hp)
        unfold trapC at this
        rw [if_neg h0] at this
        cases hg : getC l p.ch with
        | none => rw [hg] at this; simp at this
        | some c => rfl
/-- What a select may have done: the four kinds. -/
inductive Ready (l : List Ch) (gs gg : Int) (cs : List Pk) (dft : Bool) (draws : List Int) : Prop
  | refused (err : Int) (h1 : (16 < cs.length ∨ draws.length < cs.length) ∨ waitsL gs gg l = true) (h2 : err ≠ 0) (h3 : selL l gs gg cs dft draws = (l, ⟨-1, false, {}⟩, err))
  | bad (h0 : cs.length ≤ 16 ∧ cs.length ≤ draws.length ∧ waitsL gs gg l = false) (h1 : ¬ ∀ p ∈ cs, trapC l p.ch = 0) (h3 : selL l gs gg cs dft draws = (l, ⟨-1, false, { trap := 4 }⟩, 0))
  | went (h0 : cs.length ≤ 16 ∧ cs.length ≤ draws.length ∧ waitsL gs gg l = false) (h1 : ∀ p ∈ cs, trapC l p.ch = 0) (k : Nat) (p : Pk) (hk : cs[k]? = some p) (hg : goesL l p.ch p.send = true) (l' : List Ch) (m : Mv)
      (hm : m.waits = false) (hl : waitsL gs gg l' = false) (h3 : selL l gs gg cs dft draws = (l', ⟨k, false, m⟩, 0))
  | none (h0 : cs.length ≤ 16 ∧ cs.length ≤ draws.length ∧ waitsL gs gg l = false) (h1 : ∀ p ∈ cs, trapC l p.ch = 0) (hg : ∀ p ∈ cs, goesL l p.ch p.send = false) (l' : List Ch)
      (hl : waitsL gs gg l' = (cs.any (fun p => decide (p.ch ≠ 0)) && !dft)) (h3 : selL l gs gg cs dft draws = (l', ⟨-1, dft, { waits := !dft }⟩, 0))
theorem ready_all (l : List Ch) (gs gg : Int) (cs : List Pk) (dft : Bool) (draws : List Int) : Ready l gs gg cs dft draws := by
  by_cases ho : (orderL cs.length draws).2 = 0
  · obtain ⟨o1, o2, o3⟩ := orderL_zero ho
    cases hw : waitsL gs gg l with
    | true => exact .refused 111 (.inr hw) (by decide) (by unfold selL; rw [if_neg (by simp [ho]), if_pos hw])
    | false =>
      by_cases ht : trapP (trapC l) cs = 0
      · have hs : selL l gs gg cs dft draws = selGo l gs gg cs dft (pickGo l cs (orderL cs.length draws).1) := by
          unfold selL; rw [if_neg (by simp [ho]), if_neg (by simp [hw]), if_neg (by simp [ht])]
        have ht' := trapP_zero.1 ht
        cases hp : pickGo l cs (orderL cs.length draws).1 with
        | some i =>
          rw [hp] at hs
          obtain ⟨k, p, rfl, hk, hg⟩ := pickGo_some (fun x hx => by rw [o3] at hx; exact (ordN_range cs.length draws cs.length (Nat.le_refl _) x hx).1) hp
          obtain ⟨l', m, hc, hm, hl⟩ := carry_goes hw hg
          refine .went ⟨o1, o2, hw⟩ ht' k p hk hg l' m hm hl ?_
          rw [hs]
          have hgd : cs.getD (k : Int).toNat ⟨false, 0, 0⟩ = p := by simp [List.getD, hk]
          simp only [selGo, hgd, hc]
        | none =>
          rw [hp] at hs
          have hg : ∀ p ∈ cs, goesL l p.ch p.send = false := by
            intro p hpm
            obtain ⟨k, hk⟩ := List.getElem?_of_mem hpm
            exact pickGo_none hp (k : Int) (by rw [o3]; exact ordN_all (List.getElem?_eq_some_iff.1 hk).1) p (by simpa using hk)
          cases dft with
          | true => exact .none ⟨o1, o2, hw⟩ ht' hg l (by simp [hw]) (by rw [hs]; rfl)
          | false => exact .none ⟨o1, o2, hw⟩ ht' hg _ (by rw [waitK_waits hw ht' _ (Nat.le_refl _), List.take_length]; simp) (by rw [hs]; rfl)
      · refine .bad ⟨o1, o2, hw⟩ (fun h => ht (trapP_zero.2 h)) ?_
        have h4 := (trapP_4 (l := l) (cs := cs)).resolve_left ht
        unfold selL
        rw [if_neg (by simp [ho]), if_neg (by simp [hw]), if_pos ht, h4]
  · refine .refused _ (.inl ?_) ho (by unfold selL; rw [if_pos ho])
    unfold orderL at ho
    split at ho
    · omega
    · split at ho
      · omega
      · exact absurd rfl ho
end Go.Proofs.Yteffmnohgnmanaa
