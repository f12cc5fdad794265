/- That channels may be so stays, whatever is done: the plain law. -/
import Derived.Test.YteffmnohgnmanaaB4ChannelPlays
namespace Go.Proofs.Yteffmnohgnmanaa
/-- A channel may be so, but that a closed one has nobody. -/
structure MayQ (c : Ch) : Prop where
  cap0 : 0 ≤ c.cap
  cap1 : c.cap ≤ 1024
  fit : (c.vals.length : Int) ≤ c.cap
  s : 0 < c.snd.length → c.cap ≤ (c.vals.length : Int)
  r : 0 < c.rcv.length → c.vals.length = 0
  v0 : ∀ x ∈ c.rcv, x.v = 0
  e : ∀ x ∈ c.snd, ∀ y ∈ c.rcv, x.s = y.s ∧ x.g = y.g
structure MayP (c : Ch) : Prop extends MayQ c where
  cl : c.cl = true → c.snd = [] ∧ c.rcv = []
theorem mayE_iff (c : Ch) : mayE c = true ↔ ∀ x ∈ c.snd, ∀ y ∈ c.rcv, x.s = y.s ∧ x.g = y.g := by
  unfold mayE
  cases hs : c.snd with
  | nil => simp
  | cons x r =>
    cases hr : c.rcv with
    | nil => simp
    | cons y t =>
      simp only []
      rw [any_not_all, any_not_all, Bool.not_not, Bool.not_not, Bool.and_eq_true]
      simp only [allG, List.all_eq_true, isG, decide_eq_true_eq]
      constructor
      · rintro ⟨h1, h2⟩ a ha b hb
        obtain ⟨p1, p2⟩ := h1 a ha
        obtain ⟨q1, q2⟩ := h2 b hb
        exact ⟨p1.trans q1.symm, p2.trans q2.symm⟩
      · intro h
        refine ⟨fun a ha => ?_, fun b hb => ?_⟩
        · obtain ⟨p1, p2⟩ := h a ha y (by simp)
          obtain ⟨q1, q2⟩ := h x (by simp) y (by simp)
          exact ⟨p1.trans q1.symm, p2.trans q2.symm⟩
        · obtain ⟨q1, q2⟩ := h x (by simp) b hb
          exact ⟨q1.symm, q2.symm⟩
theorem mayC_iff (c : Ch) : mayC c = true ↔ MayP c := by
  unfold mayC mayA mayB mayD
  simp only [Bool.and_eq_true, Bool.not_eq_true', Bool.or_eq_false_iff, Bool.and_eq_false_iff, decide_eq_false_iff_not, List.any_eq_false, mayE_iff, hasV]
  constructor
  · rintro ⟨⟨⟨a1, a2⟩, a3⟩, ⟨b1, b2⟩, d, v, e⟩
    refine ⟨⟨by omega, by omega, by omega, by omega, by omega, fun x hx => by simpa using v x hx, e⟩, fun h => ?_⟩
    rcases d with d | d
    · rw [h] at d; cases d
    · exact ⟨List.eq_nil_of_length_eq_zero (by omega), List.eq_nil_of_length_eq_zero (by omega)⟩
  · rintro ⟨⟨p0, p1, p2, p3, p4, p5, p6⟩, p7⟩
    refine ⟨⟨⟨by omega, by omega⟩, by omega⟩, ⟨by omega, by omega⟩, ?_, fun x hx => by simpa using p5 x hx, p6⟩
    cases h : c.cl with
    | false => exact .inl rfl
    | true => right; obtain ⟨h1, h2⟩ := p7 h; rw [h1, h2]; simp
theorem wout_mem {gs gg : Int} {l : List Wt} {x : Wt} (h : x ∈ wout gs gg l) : x ∈ l := (List.mem_filter.1 h).1
theorem MayQ.leave {c : Ch} (h : MayQ c) (gs gg : Int) : MayQ (leaveCh gs gg c) := by
  have a := wout_le gs gg c.snd
  have b := wout_le gs gg c.rcv
  refine ⟨h.cap0, h.cap1, h.fit, fun hh => h.s (by simp only [leaveCh] at hh; omega), fun hh => h.r (by simp only [leaveCh] at hh; omega), fun x hx => h.v0 x (wout_mem hx), fun x hx y hy => h.e x (wout_mem hx) y (wout_mem hy)⟩
theorem MayP.leave {c : Ch} (h : MayP c) (gs gg : Int) : MayP (leaveCh gs gg c) := by
  refine ⟨h.toMayQ.leave gs gg, fun hc => ?_⟩
  obtain ⟨h1, h2⟩ := h.cl hc
  simp [leaveCh, h1, h2, wout]
def AllP (l : List Ch) : Prop := ∀ c ∈ l, MayP c
theorem AllP.leave {l : List Ch} (h : AllP l) (gs gg : Int) : AllP (leaveL gs gg l) := by
  intro c hc
  obtain ⟨q, hq, rfl⟩ := List.mem_map.1 hc
  exact (h q hq).leave gs gg
theorem AllP.set {l : List Ch} (h : AllP l) {k : Nat} {c : Ch} (hc : MayP c) : AllP (l.set k c) := by
  intro q hq
  rcases List.mem_or_eq_of_mem_set hq with hq | rfl
  · exact h q hq
  · exact hc
theorem AllP.send {l : List Ch} (h : AllP l) (ch gs gg v : Int) : AllP (sendL l ch gs gg v).1 := by
  unfold sendL
  split
  · exact h
  split
  · exact h
  split
  · exact h
  rename_i c hc
  have hp := h c (getC_mem hc)
  split
  · exact h
  rename_i hcl
  split
  · exact h.leave _ _
  rename_i hr
  split
  · rename_i hb
    refine h.set ⟨⟨hp.cap0, hp.cap1, by simp; omega, fun hh => ?_, fun hh => ?_, hp.v0, hp.e⟩, fun hx => absurd hx hcl⟩
    · have := hp.s hh; omega
    · simp only [hr] at hh; simp at hh
  · rename_i hb
    refine h.set ⟨⟨hp.cap0, hp.cap1, hp.fit, fun _ => by simp only; omega, hp.r, hp.v0, fun x _ y hy => ?_⟩, fun hx => absurd hx hcl⟩
    simp only [hr] at hy; simp at hy
theorem AllP.recv {l : List Ch} (h : AllP l) (ch gs gg : Int) : AllP (recvL l ch gs gg).1 := by
  unfold recvL
  split
  · exact h
  split
  · exact h
  split
  · exact h
  rename_i c hc
  have hp := h c (getC_mem hc)
  split
  · rename_i v vs hv
    have hfit := hp.fit
    rw [hv] at hfit
    simp at hfit
    have hr0 : c.rcv = [] := by
      rcases Nat.eq_zero_or_pos c.rcv.length with h0 | h0
      · exact List.eq_nil_of_length_eq_zero h0
      · have := hp.r h0; rw [hv] at this; simp at this
    split
    · rename_i hs
      refine h.set ⟨⟨hp.cap0, hp.cap1, by simp only; omega, fun hh => ?_, fun hh => ?_, hp.v0, hp.e⟩, fun hx => hp.cl hx⟩
      · simp only [hs] at hh; simp at hh
      · simp only [hr0] at hh; simp at hh
    · rename_i x r hs
      have hq := hp.s (by rw [hs]; simp)
      rw [hv] at hq
      simp at hq
      have hm : MayP { c with vals := vs ++ [x.v] } := by
        refine ⟨⟨hp.cap0, hp.cap1, ?_, fun hh => ?_, fun hh => ?_, hp.v0, hp.e⟩, fun hx => hp.cl hx⟩
        · simp; omega
        · simp; omega
        · simp only [hr0] at hh; simp at hh
      exact AllP.leave (h.set (k := (ch - 1).toNat) hm) _ _
  · rename_i hv
    split
    · exact h.leave _ _
    · rename_i hs
      split
      · exact h
      · rename_i hcl
        refine h.set ⟨⟨hp.cap0, hp.cap1, hp.fit, hp.s, fun _ => by show c.vals.length = 0; rw [hv]; rfl, fun x hx => ?_, fun x hx => ?_⟩, fun hx => absurd hx hcl⟩
        · simp only [List.mem_append, List.mem_singleton] at hx
          rcases hx with hx | rfl
          · exact hp.v0 x hx
          · rfl
        · simp only [hs] at hx; simp at hx
/-- In the midst of a close of channel k. -/
def MidP (k : Nat) (l : List Ch) : Prop := ∀ j c, l[j]? = some c → MayQ c ∧ (j ≠ k → c.cl = true → c.snd = [] ∧ c.rcv = [])
theorem MidP.leave {k : Nat} {l : List Ch} (h : MidP k l) (gs gg : Int) : MidP k (leaveL gs gg l) := by
  intro j c hc
  rw [leaveL_get] at hc
  obtain ⟨q, hq, rfl⟩ := Option.map_eq_some_iff.1 hc
  obtain ⟨h1, h2⟩ := h j q hq
  refine ⟨h1.leave gs gg, fun hj hcl => ?_⟩
  obtain ⟨e1, e2⟩ := h2 hj hcl
  simp [leaveCh, e1, e2, wout]
def RNil (k : Nat) (l : List Ch) : Prop := ∀ c, l[k]? = some c → c.rcv = []
def SNil (k : Nat) (l : List Ch) : Prop := ∀ c, l[k]? = some c → c.snd = []
theorem RNil.leave {k : Nat} {l : List Ch} (h : RNil k l) (gs gg : Int) : RNil k (leaveL gs gg l) := by
  intro c hc
  rw [leaveL_get] at hc
  obtain ⟨q, hq, rfl⟩ := Option.map_eq_some_iff.1 hc
  simp [leaveCh, h q hq, wout]
theorem mid_wakeR {k : Nat} : ∀ (n : Nat) (l : List Ch) (acc : List Wk), MidP k l → (match l[k]? with | some c => c.rcv.length | none => 0) ≤ n → MidP k (wakeR l k acc).1 ∧ RNil k (wakeR l k acc).1 := by
  intro n
  induction n with
  | zero =>
    intro l acc h hn
    cases hc : l[k]? with
    | none =>
      have e : wakeR l k acc = (l, acc) := by rw [wakeR]; split; (rfl); (rename_i h'; rw [hc] at h'; cases h')
      rw [e]; exact ⟨h, fun c hx => by rw [hc] at hx; cases hx⟩
    | some c =>
      rw [hc] at hn
      have h0 := List.eq_nil_of_length_eq_zero (l := c.rcv) (by simpa using hn)
      rw [wakeR_nil acc hc h0]; exact ⟨h, fun q hx => by rw [hc] at hx; cases hx; exact h0⟩
  | succ n ih =>
    intro l acc h hn
    cases hc : l[k]? with
    | none =>
      have e : wakeR l k acc = (l, acc) := by rw [wakeR]; split; (rfl); (rename_i h'; rw [hc] at h'; cases h')
      rw [e]; exact ⟨h, fun c hx => by rw [hc] at hx; cases hx⟩
    | some c =>
      cases hr : c.rcv with
      | nil => rw [wakeR_nil acc hc hr]; exact ⟨h, fun q hx => by rw [hc] at hx; cases hx; exact hr⟩
      | cons x r =>
        rw [wakeR_cons acc hc hr]
        refine ih _ _ (h.leave _ _) ?_
        rw [leaveL_get, hc]
        rw [hc] at hn
        have := rlen_lt hr
        simp only [Option.map_some, leaveCh] at hn ⊢
        omega
theorem mid_wakeS {k : Nat} : ∀ (n : Nat) (l : List Ch) (acc : List Wk), MidP k l → RNil k l → (match l[k]? with | some c => c.snd.length | none => 0) ≤ n → MidP k (wakeS l k acc).1 ∧ RNil k (wakeS l k acc).1 ∧ SNil k (wakeS l k acc).1 := by
  intro n
  induction n with
  | zero =>
    intro l acc h h2 hn
    cases hc : l[k]? with
    | none =>
      have e : wakeS l k acc = (l, acc) := by rw [wakeS]; split; (rfl); (rename_i h'; rw [hc] at h'; cases h')
      rw [e]; exact ⟨h, h2, fun c hx => by rw [hc] at hx; cases hx⟩
    | some c =>
      rw [hc] at hn
      have h0 := List.eq_nil_of_length_eq_zero (l := c.snd) (by simpa using hn)
      rw [wakeS_nil acc hc h0]; exact ⟨h, h2, fun q hx => by rw [hc] at hx; cases hx; exact h0⟩
  | succ n ih =>
    intro l acc h h2 hn
    cases hc : l[k]? with
    | none =>
      have e : wakeS l k acc = (l, acc) := by rw [wakeS]; split; (rfl); (rename_i h'; rw [hc] at h'; cases h')
      rw [e]; exact ⟨h, h2, fun c hx => by rw [hc] at hx; cases hx⟩
    | some c =>
      cases hr : c.snd with
      | nil => rw [wakeS_nil acc hc hr]; exact ⟨h, h2, fun q hx => by rw [hc] at hx; cases hx; exact hr⟩
      | cons x r =>
        rw [wakeS_cons acc hc hr]
        refine ih _ _ (h.leave _ _) (h2.leave _ _) ?_
        rw [leaveL_get, hc]
        rw [hc] at hn
        have := rlen_lt hr
        simp only [Option.map_some, leaveCh] at hn ⊢
        omega
theorem AllP.close {l : List Ch} (h : AllP l) (ch : Int) : AllP (closeL l ch).1 := by
  unfold closeL
  split
  · exact h
  split
  · exact h
  rename_i c hc
  split
  · exact h
  rename_i hcl
  have hp := h c (getC_mem hc)
  obtain ⟨k, rfl, hk⟩ := getC_k hc
  have ek : ((k : Int) + 1 - 1).toNat = k := by omega
  simp only [ek, setK_k]
  have h0 : MidP k (l.set k { c with cl := true }) := by
    intro j q hq
    by_cases e : j = k
    · subst e
      rw [List.getElem?_set_self (lt_of_get hk)] at hq
      cases hq
      exact ⟨⟨hp.cap0, hp.cap1, hp.fit, hp.s, hp.r, hp.v0, hp.e⟩, fun hj => absurd rfl hj⟩
    · rw [List.getElem?_set_ne (fun x => e x.symm)] at hq
      have hq' := h q (List.mem_of_getElem? hq)
      exact ⟨hq'.toMayQ, fun _ => hq'.cl⟩
  obtain ⟨h1, h2⟩ := mid_wakeR _ _ [] h0 (Nat.le_refl _)
  obtain ⟨h3, h4, h5⟩ := mid_wakeS _ _ (wakeR (l.set k { c with cl := true }) k []).2 h1 h2 (Nat.le_refl _)
  intro q hq
  obtain ⟨j, hj⟩ := List.getElem?_of_mem hq
  obtain ⟨p1, p2⟩ := h3 j q hj
  refine ⟨p1, fun hx => ?_⟩
  by_cases e : j = k
  · subst e; exact ⟨h5 q hj, h4 q hj⟩
  · exact p2 e hx
theorem AllP.wait {l : List Ch} (h : AllP l) (ch : Int) (x : Wt) (send : Bool) (hf : fitsL l ch x send = true) : AllP (waitL l ch x send).1 := by
  unfold fitsL at hf
  unfold waitL at hf ⊢
  cases hc : getC l ch with
  | none => simp only; exact h
  | some c =>
    obtain ⟨k, rfl, hk⟩ := getC_k hc
    rw [hc] at hf
    cases send with
    | true =>
      simp only [if_true, setK_k] at hf ⊢
      rw [getC_in (List.getElem?_set_self (lt_of_get hk))] at hf
      exact h.set ((mayC_iff _).1 hf)
    | false =>
      simp only [Bool.false_eq_true, if_false, setK_k] at hf ⊢
      rw [getC_in (List.getElem?_set_self (lt_of_get hk))] at hf
      exact h.set ((mayC_iff _).1 hf)
theorem AllP.make {l : List Ch} (h : AllP l) (c : Int) (hno : makeNo l c = false) : AllP (l ++ [newCh c]) := by
  simp [makeNo] at hno
  intro q hq
  rcases List.mem_append.1 hq with hq | hq
  · exact h q hq
  · simp at hq; subst hq
    exact ⟨⟨hno.1, hno.2.1, by simp [newCh]; exact hno.1, fun hh => by simp [newCh] at hh, fun hh => by simp [newCh] at hh, fun x hx => by simp [newCh] at hx, fun x hx => by simp [newCh] at hx⟩, fun hh => by simp [newCh] at hh⟩
theorem AllP.act {l : List Ch} (h : AllP l) (a : ActD) : AllP (actL l a) := by
  unfold actL
  split
  · split
    · exact h
    · rename_i hno; exact h.make _ (by simpa using hno)
  split
  · exact h.send _ _ _ _
  split
  · exact h.recv _ _ _
  split
  · exact h.close _
  split
  · split
    · rename_i hf; exact h.wait _ _ _ hf
    · exact h
  split
  · exact h.leave _ _
  · exact h
theorem AllP.load {l : List Ch} (h : AllP l) (hl : l.length ≤ 1024) : loadNo l = false := by
  unfold loadNo
  rw [Bool.or_eq_false_iff, decide_eq_false_iff_not]
  refine ⟨by omega, ?_⟩
  simp
  exact fun c hc => (mayC_iff c).2 (h c hc)
end Go.Proofs.Yteffmnohgnmanaa
