/- ChannelOrders, the plain law: what is sent, received and waits of one channel is what went in, in order. -/
import Derived.Test.YteffmnohgnmanaaOps
namespace Go.Proofs.Yteffmnohgnmanaa
open Go.RowKit
structure OInv (cap : Int) (sends : List Int) (i sent : Nat) (got : List Int) (c : Ch) : Prop where
  ecap : c.cap = cap
  cap0 : 0 ≤ cap ∧ cap ≤ 255
  cl : c.cl = false
  run : got ++ (c.vals ++ c.snd.map (·.v)) = sends.take sent
  le : sent ≤ sends.length
  fit : (c.vals.length : Int) ≤ cap
  rcv : c.rcv ≠ [] → c.vals = [] ∧ c.snd = []
  full : c.snd ≠ [] → cap ≤ c.vals.length
  sg : ∀ x ∈ c.snd, x.g = 0 ∧ ∃ j : Nat, j < i ∧ x.s = 2 * j + 1
  rg : ∀ x ∈ c.rcv, x.g = 0 ∧ ∃ j : Nat, j < i ∧ x.s = 2 * j
  sd : c.snd.Pairwise (fun a b => a.s ≠ b.s)
  rd : c.rcv.Pairwise (fun a b => a.s ≠ b.s)
  room : c.snd.length + c.rcv.length ≤ i
namespace OInv
variable {cap : Int} {sends got : List Int} {i sent : Nat} {c : Ch}
theorem wout_head {x : Wt} {r : List Wt} (h : (x :: r).Pairwise (fun a b => a.s ≠ b.s)) : wout x.s x.g (x :: r) = r := by
  have h1 : wout x.s x.g (x :: r) = wout x.s x.g r := by simp [wout, isG_self]
  rw [h1]
  unfold wout
  rw [List.filter_eq_self]
  intro y hy
  have := (List.pairwise_cons.1 h).1 y hy
  simp [isG]
  exact .inl (fun e => this e.symm)
theorem getC1 : getC [c] 1 = some c := rfl
theorem trapC1 : trapC [c] 1 = 0 := rfl
theorem waits1 (h : OInv cap sends i sent got c) {s : Int} (hs : ∀ j : Nat, j < i → s ≠ 2 * j + 1 ∧ s ≠ 2 * j) : waitsL s 0 [c] = false := by
  simp only [waitsL, List.any_cons, List.any_nil, Bool.or_false, waitsCh, Bool.or_eq_false_iff, List.any_eq_false]
  refine ⟨?_, ?_⟩
  · intro x hx
    obtain ⟨_, j, hj, e⟩ := h.sg x hx
    have := (hs j hj).1
    simp [isG]; intro e'; omega
  · intro x hx
    obtain ⟨_, j, hj, e⟩ := h.rg x hx
    have := (hs j hj).2
    simp [isG]; intro e'; omega
theorem up (h : OInv cap sends i sent got c) : OInv cap sends (i + 1) sent got c :=
  { h with
    sg := fun x hx => by obtain ⟨a, j, hj, e⟩ := h.sg x hx; exact ⟨a, j, by omega, e⟩
    rg := fun x hx => by obtain ⟨a, j, hj, e⟩ := h.rg x hx; exact ⟨a, j, by omega, e⟩
    room := by have := h.room; omega }
theorem got_le (h : OInv cap sends i sent got c) : got.length ≤ sent := by
  have := congrArg List.length h.run
  simp at this; omega
theorem got_at (h : OInv cap sends i sent got c) {j : Nat} (hj : j < got.length) : got[j]? = sends[j]? := by
  have h1 : (sends.take sent)[j]? = got[j]? := by rw [← h.run, List.getElem?_append_left hj]
  have h2 := h.got_le
  rw [List.getElem?_take_of_lt (by omega)] at h1
  exact h1.symm
theorem sent_next {v : Int} (hv : sends[sent]? = some v) : sends.take (sent + 1) = sends.take sent ++ [v] := by
  rw [List.take_add_one, hv]; rfl
theorem send (h : OInv cap sends i sent got c) {v : Int} (hv : sends[sent]? = some v) :
    ∃ c' m, sendL [c] 1 (2 * i + 1) 0 v = ([c'], m, 0) ∧ m.trap = 0 ∧ m.woken.length ≤ 1 ∧ OInv cap sends (i + 1) (sent + 1) (got ++ m.woken.map (·.v)) c' := by
  have hw := h.waits1 (s := 2 * i + 1) (fun j hj => by omega)
  have hlt : sent < sends.length := by
    rcases Nat.lt_or_ge sent sends.length with h | h
    · exact h
    · rw [List.getElem?_eq_none h] at hv; cases hv
  obtain ⟨kc, vals, snd, rcv, cl⟩ := c
  have hcl := h.cl
  have hcap := h.ecap
  have hrun := h.run
  simp only at hcl hcap hrun
  subst hcl hcap
  cases rcv with
  | cons x r =>
    obtain ⟨e1, e2⟩ := h.rcv (by simp)
    simp only at e1 e2
    subst e1 e2
    simp only [List.map_nil, List.append_nil] at hrun
    refine ⟨⟨kc, [], [], r, false⟩, { ok := true, woken := [⟨x.s, x.g, x.c, v, true, 0⟩] }, ?_, rfl, by simp, ?_⟩
    · have e := wout_head h.rd
      unfold sendL; rw [hw, trapC1, getC1]
      simp only [leaveL, List.map_cons, List.map_nil, leaveCh, e]
      simp [wout]
    · refine ⟨rfl, h.cap0, rfl, ?_, hlt, h.fit, fun _ => ⟨rfl, rfl⟩, fun x => absurd rfl x, fun _ hx => absurd hx (by simp), ?_, List.Pairwise.nil, (List.pairwise_cons.1 h.rd).2, ?_⟩
      · rw [sent_next hv, ← hrun]; simp
      · intro y hy; obtain ⟨a, j, hj, e⟩ := h.rg y (by simp [hy]); exact ⟨a, j, by omega, e⟩
      · have := h.room; simp at this ⊢; omega
  | nil =>
    by_cases hb : (vals.length : Int) < kc
    · have e2 : snd = [] := by
        apply Classical.byContradiction; intro hx
        have := h.full hx; simp only at this; omega
      subst e2
      refine ⟨⟨kc, vals ++ [v], [], [], false⟩, { ok := true }, ?_, rfl, by simp, ?_⟩
      · unfold sendL; rw [hw, trapC1, getC1]; simp [hb, setK]
      · refine ⟨rfl, h.cap0, rfl, ?_, hlt, by simp; omega, fun x => absurd rfl x, fun x => absurd rfl x, fun _ hx => absurd hx (by simp), fun _ hx => absurd hx (by simp), List.Pairwise.nil, List.Pairwise.nil, by simp⟩
        rw [sent_next hv, ← hrun]; simp
    · refine ⟨⟨kc, vals, snd ++ [⟨2 * i + 1, 0, 0, v⟩], [], false⟩, { waits := true }, ?_, rfl, by simp, ?_⟩
      · unfold sendL; rw [hw, trapC1, getC1]; simp [hb, setK]
      · refine ⟨rfl, h.cap0, rfl, ?_, hlt, h.fit, fun x => absurd rfl x, fun _ => by simp only; omega, ?_, fun _ hx => absurd hx (by simp), ?_, List.Pairwise.nil, ?_⟩
        · rw [sent_next hv, ← hrun]; simp
        · intro x hx
          rcases List.mem_append.1 hx with hx | hx
          · obtain ⟨a, j, hj, e⟩ := h.sg x hx; exact ⟨a, j, by omega, e⟩
          · simp at hx; subst hx; exact ⟨rfl, i, by omega, rfl⟩
        · rw [List.pairwise_append]
          refine ⟨h.sd, by simp, ?_⟩
          intro a ha b hb'
          simp at hb'; subst hb'
          obtain ⟨_, j, hj, e⟩ := h.sg a ha
          simp only; omega
        · have := h.room; simp at this ⊢; omega
theorem recv (h : OInv cap sends i sent got c) :
    ∃ c' m, recvL [c] 1 (2 * i) 0 = ([c'], m, 0) ∧ m.trap = 0 ∧ OInv cap sends (i + 1) sent (if m.waits then got else got ++ [m.value]) c' := by
  have hw := h.waits1 (s := 2 * i) (fun j hj => by omega)
  obtain ⟨kc, vals, snd, rcv, cl⟩ := c
  have hcl := h.cl
  have hcap := h.ecap
  have hrun := h.run
  have hfit := h.fit
  have hc0 := h.cap0
  simp only at hcl hcap hrun hfit
  subst hcl hcap
  cases vals with
  | cons v vs =>
    have e3 : rcv = [] := by
      apply Classical.byContradiction; intro hx
      have := (h.rcv hx).1; simp at this
    subst e3
    simp at hfit
    cases snd with
    | nil =>
      refine ⟨⟨kc, vs, [], [], false⟩, { value := v, ok := true }, ?_, rfl, ?_⟩
      · unfold recvL; rw [hw, trapC1, getC1]; simp [setK]
      · refine ⟨rfl, h.cap0, rfl, ?_, h.le, by simp only; omega, fun x => absurd rfl x, fun x => absurd rfl x, fun _ hx => absurd hx (by simp), fun _ hx => absurd hx (by simp), List.Pairwise.nil, List.Pairwise.nil, by simp⟩
        simp at hrun ⊢; exact hrun
    | cons x r =>
      refine ⟨⟨kc, vs ++ [x.v], r, [], false⟩, { value := v, ok := true, woken := [⟨x.s, x.g, x.c, 0, true, 0⟩] }, ?_, rfl, ?_⟩
      · have e := wout_head h.sd
        unfold recvL; rw [hw, trapC1, getC1]
        simp only [setK, leaveL]
        simp [wout, leaveCh, isG_self]
        have e' := e; simp [wout, isG_self] at e'; exact e'
      · have hf := h.full (by simp)
        simp at hf
        refine ⟨rfl, h.cap0, rfl, ?_, h.le, by simp; omega, fun x => absurd rfl x, fun _ => by simp; omega, ?_, fun _ hx => absurd hx (by simp), (List.pairwise_cons.1 h.sd).2, List.Pairwise.nil, ?_⟩
        · simp at hrun ⊢; exact hrun
        · intro y hy; obtain ⟨a, j, hj, e⟩ := h.sg y (by simp [hy]); exact ⟨a, j, by omega, e⟩
        · have := h.room; simp at this ⊢; omega
  | nil =>
    cases snd with
    | cons x r =>
      have e3 : rcv = [] := by
        apply Classical.byContradiction; intro hx
        have := (h.rcv hx).2; simp at this
      subst e3
      refine ⟨⟨kc, [], r, [], false⟩, { value := x.v, ok := true, woken := [⟨x.s, x.g, x.c, 0, true, 0⟩] }, ?_, rfl, ?_⟩
      · have e := wout_head h.sd
        unfold recvL; rw [hw, trapC1, getC1]
        simp only [leaveL, List.map_cons, List.map_nil, leaveCh, e]
        simp [wout]
      · have hf := h.full (by simp)
        simp at hf
        refine ⟨rfl, h.cap0, rfl, ?_, h.le, by simp; omega, fun x => absurd rfl x, fun _ => by simp; omega, ?_, fun _ hx => absurd hx (by simp), (List.pairwise_cons.1 h.sd).2, List.Pairwise.nil, ?_⟩
        · simp at hrun ⊢; exact hrun
        · intro y hy; obtain ⟨a, j, hj, e⟩ := h.sg y (by simp [hy]); exact ⟨a, j, by omega, e⟩
        · have := h.room; simp at this ⊢; omega
    | nil =>
      refine ⟨⟨kc, [], [], rcv ++ [⟨2 * i, 0, 0, 0⟩], false⟩, { waits := true }, ?_, rfl, ?_⟩
      · unfold recvL; rw [hw, trapC1, getC1]; simp [setK]
      · refine ⟨rfl, h.cap0, rfl, by simpa using hrun, h.le, h.fit, fun _ => ⟨rfl, rfl⟩, fun x => absurd rfl x, fun _ hx => absurd hx (by simp), ?_, List.Pairwise.nil, ?_, ?_⟩
        · intro x hx
          rcases List.mem_append.1 hx with hx | hx
          · obtain ⟨a, j, hj, e⟩ := h.rg x hx; exact ⟨a, j, by omega, e⟩
          · simp at hx; subst hx; exact ⟨rfl, i, by omega, rfl⟩
        · rw [List.pairwise_append]
          refine ⟨h.rd, by simp, ?_⟩
          intro a ha b hb'
          simp at hb'; subst hb'
          obtain ⟨_, j, hj, e⟩ := h.rg a ha
          simp only; omega
        · have := h.room; simp at this ⊢; omega
theorem ok (h : OInv cap sends i sent got c) : Ok i [c] := by
  refine ⟨by simp, ?_, ?_, ?_⟩ <;> (intro q hq; simp at hq; subst hq)
  · rw [h.ecap]; have := h.cap0; omega
  · rw [h.ecap]; exact h.fit
  · exact h.room
theorem start {cap : Int} (h : 0 ≤ cap ∧ cap ≤ 255) (sends : List Int) : OInv cap sends 0 0 [] (newCh cap) :=
  ⟨rfl, h, rfl, by simp [newCh], by simp, by simp [newCh]; omega, by simp [newCh], by simp [newCh], by simp [newCh], by simp [newCh], by simp [newCh], by simp [newCh], by simp [newCh]⟩
end OInv
end Go.Proofs.Yteffmnohgnmanaa
