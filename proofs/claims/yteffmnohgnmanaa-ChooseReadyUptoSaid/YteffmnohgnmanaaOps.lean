/- The calls on channels, each by one contract over plain data. -/
import Derived.Test.YteffmnohgnmanaaWait
import Derived.Test.YteffmnohgnmanaaClose2
namespace Go.Proofs.Yteffmnohgnmanaa
open Go.RowKit
/-- Channels of which no list is longer than memory bears: at most N wait on each. -/
structure Ok (N : Nat) (l : List Ch) : Prop where
  len : l.length ≤ 1024
  cap : ∀ c ∈ l, 0 ≤ c.cap ∧ c.cap ≤ 1024
  vals : ∀ c ∈ l, (c.vals.length : Int) ≤ c.cap
  who : ∀ c ∈ l, c.snd.length + c.rcv.length ≤ N
theorem Ok.mono {N M : Nat} {l : List Ch} (h : Ok N l) (hNM : N ≤ M) : Ok M l := ⟨h.len, h.cap, h.vals, fun c hc => Nat.le_trans (h.who c hc) hNM⟩
theorem Ok.fit {N : Nat} {l : List Ch} (h : Ok N l) (hN : N * 48 ≤ 140737488355328) : ∀ c ∈ l, c.Fit := by
  intro c hc
  have h1 := h.cap c hc
  have h2 := h.vals c hc
  have h3 := h.who c hc
  refine ⟨?_, ?_, ?_⟩ <;> omega
theorem Ok.fitM {N : Nat} {ms : List CM} (h : Ok N (chs ms)) (hN : N * 48 ≤ 140737488355328) : ∀ m ∈ ms, m.ch.Fit := fun m hm => h.fit hN _ (List.mem_map.2 ⟨m, hm, rfl⟩)
theorem ok_nil : Ok 0 [] := ⟨by simp, by simp, by simp, by simp⟩
theorem Ok.set {N : Nat} {l : List Ch} {k : Nat} {c : Ch} (h : Ok N l) (h1 : 0 ≤ c.cap ∧ c.cap ≤ 1024) (h2 : (c.vals.length : Int) ≤ c.cap) (h3 : c.snd.length + c.rcv.length ≤ N) : Ok N (l.set k c) := by
  refine ⟨by rw [List.length_set]; exact h.len, ?_, ?_, ?_⟩
  · intro q hq; rcases List.mem_or_eq_of_mem_set hq with hq | rfl; (exact h.cap q hq); (exact h1)
  · intro q hq; rcases List.mem_or_eq_of_mem_set hq with hq | rfl; (exact h.vals q hq); (exact h2)
  · intro q hq; rcases List.mem_or_eq_of_mem_set hq with hq | rfl; (exact h.who q hq); (exact h3)
theorem Ok.leave {N : Nat} {l : List Ch} {gs gg : Int} (h : Ok N l) : Ok N (leaveL gs gg l) := by
  refine ⟨by simpa [leaveL] using h.len, ?_, ?_, ?_⟩
  · intro c hc; obtain ⟨q, hq, rfl⟩ := List.mem_map.1 hc; exact h.cap q hq
  · intro c hc; obtain ⟨q, hq, rfl⟩ := List.mem_map.1 hc; exact h.vals q hq
  · intro c hc; obtain ⟨q, hq, rfl⟩ := List.mem_map.1 hc
    have h1 := h.who q hq
    have a := wout_le gs gg q.snd
    have b := wout_le gs gg q.rcv
    simp only [leaveCh]; omega
theorem getC_k {l : List Ch} {ch : Int} {c : Ch} (h : getC l ch = some c) : ∃ k : Nat, ch = (k : Int) + 1 ∧ l[k]? = some c := by
  unfold getC at h
  split at h
  · exact ⟨(ch - 1).toNat, by omega, h⟩
  · cases h
theorem getC_mem {l : List Ch} {ch : Int} {c : Ch} (h : getC l ch = some c) : c ∈ l := by
  obtain ⟨k, _, hk⟩ := getC_k h; exact List.mem_of_getElem? hk
theorem setK_k {l : List Ch} {k : Nat} {c : Ch} : setK l ((k : Int) + 1) c = l.set k c := by unfold setK; congr 1; omega
theorem Ok.send {N : Nat} {l : List Ch} (h : Ok N l) (ch gs gg v : Int) : Ok (N + 1) (sendL l ch gs gg v).1 := by
  have h' := h.mono (Nat.le_succ N)
  unfold sendL
  split
  · exact h'
  split
  · exact h'
  split
  · exact h'
  rename_i c hc
  have hm := getC_mem hc
  split
  · exact h'
  split
  · exact h'.leave
  rename_i hr
  have h1 := h.cap c hm
  have h2 := h.vals c hm
  have h3 := h.who c hm
  split
  · exact h'.set h1 (by simp; omega) (by simp; omega)
  · exact h'.set h1 h2 (by simp; omega)
theorem Ok.recv {N : Nat} {l : List Ch} (h : Ok N l) (ch gs gg : Int) : Ok (N + 1) (recvL l ch gs gg).1 := by
  have h' := h.mono (Nat.le_succ N)
  unfold recvL
  split
  · exact h'
  split
  · exact h'
  split
  · exact h'
  rename_i c hc
  have hm := getC_mem hc
  have h1 := h.cap c hm
  have h2 := h.vals c hm
  have h3 := h.who c hm
  split
  · rename_i v vs hv
    rw [hv] at h2
    simp at h2
    split
    · exact h'.set (c := { c with vals := vs }) h1 (by simp; omega) (by simp; omega)
    · rename_i x r hs
      have h4 : Ok (N + 1) (setK l ch { c with vals := vs ++ [x.v] }) := h'.set h1 (by simp; omega) (by simp only; omega)
      exact h4.leave
  · split
    · exact h'.leave
    · split
      · exact h'
      · exact h'.set h1 h2 (by simp; omega)
theorem ok_wakeR {N k : Nat} : ∀ (n : Nat) (l : List Ch) (acc : List Wk), Ok N l → (match l[k]? with | some c => c.rcv.length | none => 0) ≤ n → Ok N (wakeR l k acc).1 := by
  intro n
  induction n with
  | zero =>
    intro l acc h hn
    cases hc : l[k]? with
    | none => rw [wakeR]; split; (exact h); (rename_i h'; rw [hc] at h'; cases h')
    | some c => rw [hc] at hn; rw [wakeR_nil acc hc (List.eq_nil_of_length_eq_zero (by simpa using hn))]; exact h
  | succ n ih =>
    intro l acc h hn
    cases hc : l[k]? with
    | none => rw [wakeR]; split; (exact h); (rename_i h'; rw [hc] at h'; cases h')
    | some c =>
      cases hr : c.rcv with
      | nil => rw [wakeR_nil acc hc hr]; exact h
      | cons x r =>
        rw [wakeR_cons acc hc hr]
        refine ih _ _ h.leave ?_
        rw [leaveL_get, hc]
        rw [hc] at hn
        have := rlen_lt hr
        simp only [Option.map_some, leaveCh] at hn ⊢
        omega
theorem ok_wakeS {N k : Nat} : ∀ (n : Nat) (l : List Ch) (acc : List Wk), Ok N l → (match l[k]? with | some c => c.snd.length | none => 0) ≤ n → Ok N (wakeS l k acc).1 := by
  intro n
  induction n with
  | zero =>
    intro l acc h hn
    cases hc : l[k]? with
    | none => rw [wakeS]; split; (exact h); (rename_i h'; rw [hc] at h'; cases h')
    | some c => rw [hc] at hn; rw [wakeS_nil acc hc (List.eq_nil_of_length_eq_zero (by simpa using hn))]; exact h
  | succ n ih =>
    intro l acc h hn
    cases hc : l[k]? with
    | none => rw [wakeS]; split; (exact h); (rename_i h'; rw [hc] at h'; cases h')
    | some c =>
      cases hr : c.snd with
      | nil => rw [wakeS_nil acc hc hr]; exact h
      | cons x r =>
        rw [wakeS_cons acc hc hr]
        refine ih _ _ h.leave ?_
        rw [leaveL_get, hc]
        rw [hc] at hn
        have := rlen_lt hr
        simp only [Option.map_some, leaveCh] at hn ⊢
        omega
theorem Ok.close {N : Nat} {l : List Ch} (h : Ok N l) (ch : Int) : Ok N (closeL l ch).1 := by
  unfold closeL
  split
  · exact h
  split
  · exact h
  rename_i c hc
  have hm := getC_mem hc
  split
  · exact h
  · exact ok_wakeS _ _ _ (ok_wakeR _ _ _ (h.set (h.cap c hm) (h.vals c hm) (h.who c hm)) (Nat.le_refl _)) (Nat.le_refl _)
theorem Ok.wait {N : Nat} {l : List Ch} (h : Ok N l) (ch : Int) (x : Wt) (send : Bool) : Ok (N + 1) (waitL l ch x send).1 := by
  have h' := h.mono (Nat.le_succ N)
  unfold waitL
  split
  · exact h'
  rename_i c hc
  have hm := getC_mem hc
  have h3 := h.who c hm
  split
  · exact h'.set (h.cap c hm) (h.vals c hm) (by simp; omega)
  · exact h'.set (h.cap c hm) (h.vals c hm) (by simp; omega)
theorem Ok.make {N : Nat} {l : List Ch} {c : Int} (h : Ok N l) (hno : makeNo l c = false) : Ok N (l ++ [newCh c]) := by
  simp [makeNo] at hno
  refine ⟨by simp; omega, ?_, ?_, ?_⟩
  · intro q hq; rcases List.mem_append.1 hq with hq | hq
    · exact h.cap q hq
    · simp at hq; subst hq; exact ⟨hno.1, hno.2.1⟩
  · intro q hq; rcases List.mem_append.1 hq with hq | hq
    · exact h.vals q hq
    · simp at hq; subst hq; exact hno.1
  · intro q hq; rcases List.mem_append.1 hq with hq | hq
    · exact h.who q hq
    · simp at hq; subst hq; simp [newCh]

theorem trapC_some {l : List Ch} {ch : Int} {c : Ch} (h : getC l ch = some c) : trapC l ch = 0 := by
  obtain ⟨k, rfl, hk⟩ := getC_k h; exact trapC_in hk
theorem send_all {w : World} {F : Nat → Prop} {g N : Nat} {l : List Ch} (h : IsCh w F g l) (hok : Ok N l) (hN : (N + 1) * 48 ≤ 140737488355328) (ch gs gg v : Int) :
    Calls Try.prog 23 #[.pointer (some ⟨g, 0, none⟩), .int .i64 ch, .agg #[.int .i64 gs, .int .i64 gg], .int .i64 v] w (MvPost F g w (sendL l ch gs gg v).1 (sendL l ch gs gg v).2.1 (sendL l ch gs gg v).2.2) := by
  obtain ⟨v0, ms, hc, rfl⟩ := h
  have hn : ms.length ≤ 1024 := by rw [← chs_len]; exact hok.len
  have hfit := hok.fitM (by omega)
  cases hw : waitsL gs gg (chs ms) with
  | true =>
    have e : sendL (chs ms) ch gs gg v = (chs ms, {}, 111) := by unfold sendL; rw [if_pos hw]
    rw [e]; exact send_waits hc gs gg v hn hfit hw ch
  | false =>
    rcases handle ms ch with ho | rfl | ⟨k, m, rfl, hk⟩
    · have e : sendL (chs ms) ch gs gg v = (chs ms, { trap := 4 }, 0) := by
        unfold sendL; rw [trapC_out (by rw [chs_len]; exact ho)]; simp [hw]
      rw [e]; exact send_out hc gs gg v hn hfit hw ch ho
    · have e : sendL (chs ms) 0 gs gg v = (chs ms, { waits := true }, 0) := by
        unfold sendL; rw [trapC_zero, getC_zero]; simp [hw]
      rw [e]; exact send_nil hc gs gg v hn hfit hw
    · have hg := getC_in (chs_get hk)
      have ht := trapC_in (chs_get hk)
      have hmem : m.ch ∈ chs ms := List.mem_map.2 ⟨m, List.mem_of_getElem? hk, rfl⟩
      cases hcl : m.ch.cl with
      | true =>
        have e : sendL (chs ms) ((k : Int) + 1) gs gg v = (chs ms, { trap := 6 }, 0) := by unfold sendL; rw [ht, hg]; simp [hw, hcl]
        rw [e]; exact send_closed hc gs gg v hn hfit hw hk hcl
      | false =>
        cases hr : m.ch.rcv with
        | cons x r =>
          have e : sendL (chs ms) ((k : Int) + 1) gs gg v = (leaveL x.s x.g (chs ms), { ok := true, woken := [⟨x.s, x.g, x.c, v, true, 0⟩] }, 0) := by unfold sendL; rw [ht, hg]; simp [hw, hcl, hr]
          rw [e]; exact send_wakes hc gs gg v hn hfit hw hk hcl hr
        | nil =>
          by_cases hb : (m.ch.vals.length : Int) < m.ch.cap
          · have e : sendL (chs ms) ((k : Int) + 1) gs gg v = ((chs ms).set k { m.ch with vals := m.ch.vals ++ [v] }, { ok := true }, 0) := by unfold sendL; rw [ht, hg]; simp [hw, hcl, hr, hb, setK_k]
            rw [e]; exact send_buffers hc gs gg v hn hfit hw hk hcl hr hb (hok.cap _ hmem).2
          · have e : sendL (chs ms) ((k : Int) + 1) gs gg v = ((chs ms).set k { m.ch with snd := m.ch.snd ++ [⟨gs, gg, 0, v⟩] }, { waits := true }, 0) := by unfold sendL; rw [ht, hg]; simp [hw, hcl, hr, hb, setK_k]
            rw [e]; exact send_queues hc gs gg v hn hfit hw hk hcl hr hb (by have := hok.who _ hmem; omega)
theorem recv_all {w : World} {F : Nat → Prop} {g N : Nat} {l : List Ch} (h : IsCh w F g l) (hok : Ok N l) (hN : (N + 1) * 48 ≤ 140737488355328) (ch gs gg : Int) :
    Calls Try.prog 24 #[.pointer (some ⟨g, 0, none⟩), .int .i64 ch, .agg #[.int .i64 gs, .int .i64 gg]] w (MvPost F g w (recvL l ch gs gg).1 (recvL l ch gs gg).2.1 (recvL l ch gs gg).2.2) := by
  obtain ⟨v0, ms, hc, rfl⟩ := h
  have hn : ms.length ≤ 1024 := by rw [← chs_len]; exact hok.len
  have hfit := hok.fitM (by omega)
  cases hw : waitsL gs gg (chs ms) with
  | true =>
    have e : recvL (chs ms) ch gs gg = (chs ms, {}, 111) := by unfold recvL; rw [if_pos hw]
    rw [e]; exact recv_waits hc gs gg hn hfit hw ch
  | false =>
    rcases handle ms ch with ho | rfl | ⟨k, m, rfl, hk⟩
    · have e : recvL (chs ms) ch gs gg = (chs ms, { trap := 4 }, 0) := by
        unfold recvL; rw [trapC_out (by rw [chs_len]; exact ho)]; simp [hw]
      rw [e]; exact recv_out hc gs gg hn hfit hw ch ho
    · have e : recvL (chs ms) 0 gs gg = (chs ms, { waits := true }, 0) := by
        unfold recvL; rw [trapC_zero, getC_zero]; simp [hw]
      rw [e]; exact recv_nil hc gs gg hn hfit hw
    · have hg := getC_in (chs_get hk)
      have ht := trapC_in (chs_get hk)
      have hmem : m.ch ∈ chs ms := List.mem_map.2 ⟨m, List.mem_of_getElem? hk, rfl⟩
      cases hv : m.ch.vals with
      | cons v vs =>
        cases hs : m.ch.snd with
        | nil =>
          have e : recvL (chs ms) ((k : Int) + 1) gs gg = ((chs ms).set k { m.ch with vals := vs }, { value := v, ok := true }, 0) := by unfold recvL; rw [ht, hg]; simp [hw, hv, hs, setK_k]
          rw [e]; exact recv_value hc gs gg hn hfit hw hk hv hs
        | cons x r =>
          have e : recvL (chs ms) ((k : Int) + 1) gs gg = (leaveL x.s x.g ((chs ms).set k { m.ch with vals := vs ++ [x.v] }), { value := v, ok := true, woken := [⟨x.s, x.g, x.c, 0, true, 0⟩] }, 0) := by unfold recvL; rw [ht, hg]; simp [hw, hv, hs, setK_k]
          rw [e]; exact recv_value_wakes hc gs gg hn hfit hw hk hv hs (by have h1 := hok.vals _ hmem; have h2 := hok.cap _ hmem; rw [hv] at h1; simp at h1; omega)
      | nil =>
        cases hs : m.ch.snd with
        | cons x r =>
          have e : recvL (chs ms) ((k : Int) + 1) gs gg = (leaveL x.s x.g (chs ms), { value := x.v, ok := true, woken := [⟨x.s, x.g, x.c, 0, true, 0⟩] }, 0) := by unfold recvL; rw [ht, hg]; simp [hw, hv, hs]
          rw [e]; exact recv_wakes hc gs gg hn hfit hw hk hv hs
        | nil =>
          cases hcl : m.ch.cl with
          | true =>
            have e : recvL (chs ms) ((k : Int) + 1) gs gg = (chs ms, {}, 0) := by unfold recvL; rw [ht, hg]; simp [hw, hv, hs, hcl]
            rw [e]; exact recv_closed hc gs gg hn hfit hw hk hv hs hcl
          | false =>
            have e : recvL (chs ms) ((k : Int) + 1) gs gg = ((chs ms).set k { m.ch with rcv := m.ch.rcv ++ [⟨gs, gg, 0, 0⟩] }, { waits := true }, 0) := by unfold recvL; rw [ht, hg]; simp [hw, hv, hs, hcl, setK_k]
            rw [e]; exact recv_queues hc gs gg hn hfit hw hk hv hs hcl (by have := hok.who _ hmem; omega)
theorem wait_all {w : World} {F : Nat → Prop} {g N : Nat} {l : List Ch} (h : IsCh w F g l) (hok : Ok N l) (hN : (N + 1) * 48 ≤ 140737488355328) (ch : Int) (x : Wt) (send : Bool) :
    Calls Try.prog 59 #[.pointer (some ⟨g, 0, none⟩), .int .i64 ch, x.val, .bool send] w (WaitPost F g w (waitL l ch x send).1 (waitL l ch x send).2) := by
  obtain ⟨v0, ms, hc, rfl⟩ := h
  rcases handle ms ch with ho | rfl | ⟨k, m, rfl, hk⟩
  · have e : waitL (chs ms) ch x send = (chs ms, 4) := by unfold waitL; rw [getC_out (by rw [chs_len]; exact ho), trapC_out (by rw [chs_len]; exact ho)]
    rw [e]; exact wait_out hc x ch send ho
  · have e : waitL (chs ms) 0 x send = (chs ms, 0) := by unfold waitL; rw [getC_zero, trapC_zero]
    rw [e]; exact wait_nil hc x send
  · have hg := getC_in (chs_get hk)
    have hmem : m.ch ∈ chs ms := List.mem_map.2 ⟨m, List.mem_of_getElem? hk, rfl⟩
    have hwho := hok.who _ hmem
    cases send with
    | true =>
      have e : waitL (chs ms) ((k : Int) + 1) x true = ((chs ms).set k { m.ch with snd := m.ch.snd ++ [x] }, 0) := by unfold waitL; rw [hg]; simp [setK_k]
      rw [e]; exact wait_sends hc x hk (by omega)
    | false =>
      have e : waitL (chs ms) ((k : Int) + 1) x false = ((chs ms).set k { m.ch with rcv := m.ch.rcv ++ [{ x with v := 0 }] }, 0) := by unfold waitL; rw [hg]; simp [setK_k]
      rw [e]; exact wait_recvs hc x hk (by omega)
theorem close_all {w : World} {F : Nat → Prop} {g N : Nat} {l : List Ch} (h : IsCh w F g l) (hok : Ok N l) (hN : (N + 1) * 48 ≤ 140737488355328) (ch : Int) :
    Calls Try.prog 30 #[.pointer (some ⟨g, 0, none⟩), .int .i64 ch] w (MvPost1 F g w (closeL l ch).1 (closeL l ch).2) := by
  obtain ⟨v0, ms, hc, rfl⟩ := h
  have hn : ms.length ≤ 1024 := by rw [← chs_len]; exact hok.len
  have hfit := hok.fitM (by omega)
  rcases handle ms ch with ho | rfl | ⟨k, m, rfl, hk⟩
  · have e : closeL (chs ms) ch = (chs ms, { trap := 4 }) := by unfold closeL; rw [trapC_out (by rw [chs_len]; exact ho)]; simp
    rw [e]; exact close_out hc ch ho
  · have e : closeL (chs ms) 0 = (chs ms, { trap := 8 }) := by unfold closeL; rw [trapC_zero, getC_zero]; simp
    rw [e]; exact close_nil hc
  · have hg := getC_in (chs_get hk)
    have ht := trapC_in (chs_get hk)
    have hmem : m.ch ∈ chs ms := List.mem_map.2 ⟨m, List.mem_of_getElem? hk, rfl⟩
    have hwho := hok.who _ hmem
    cases hcl : m.ch.cl with
    | true =>
      have e : closeL (chs ms) ((k : Int) + 1) = (chs ms, { trap := 7 }) := by unfold closeL; rw [ht, hg]; simp [hcl]
      rw [e]; exact close_closed hc hk hcl
    | false =>
      obtain ⟨la, ka, hla⟩ : ∃ la ka, wakeR ((chs ms).set k { m.ch with cl := true }) k [] = (la, ka) := ⟨_, _, rfl⟩
      obtain ⟨lb, kb, hlb⟩ : ∃ lb kb, wakeS la k ka = (lb, kb) := ⟨_, _, rfl⟩
      have e : closeL (chs ms) ((k : Int) + 1) = (lb, { woken := kb }) := by
        unfold closeL; rw [ht, hg]
        simp only [hcl, setK_k]
        simp [hla, hlb]
      rw [e]; exact close_open hc hk hcl hn hfit (by omega) _ rfl la ka hla lb kb hlb
theorem leave_all {w : World} {F : Nat → Prop} {g N : Nat} {l : List Ch} (h : IsCh w F g l) (hok : Ok N l) (hN : (N + 1) * 48 ≤ 140737488355328) (gs gg : Int) :
    Calls Try.prog 64 #[.pointer (some ⟨g, 0, none⟩), .agg #[.int .i64 gs, .int .i64 gg]] w (LeavePost F g l gs gg w) := by
  obtain ⟨v0, ms, hc, rfl⟩ := h
  exact leave_ok hc gs gg (by rw [← chs_len]; exact hok.len) (hok.fitM (by omega))
theorem state_all {w : World} {F : Nat → Prop} {g N : Nat} {l : List Ch} (h : IsCh w F g l) (hok : Ok N l) (hN : (N + 1) * 48 ≤ 140737488355328) : Calls Try.prog 29 #[.pointer (some ⟨g, 0, none⟩)] w (MadeCs l w) := by
  obtain ⟨v0, ms, hc, rfl⟩ := h
  obtain ⟨A, c, _, hr⟩ := hc.rd
  exact state_ok hr (hok.fitM (by omega)) (by rw [← chs_len]; exact hok.len)
theorem waits_all {w : World} {F : Nat → Prop} {g : Nat} {l : List Ch} (h : IsCh w F g l) (gs gg : Int) : Calls Try.prog 31 #[.pointer (some ⟨g, 0, none⟩), .agg #[.int .i64 gs, .int .i64 gg]] w (Ret (.bool (waitsL gs gg l)) E0 w) := by
  obtain ⟨v0, ms, hc, rfl⟩ := h
  obtain ⟨A, c, _, hr⟩ := hc.rd
  exact waits_ok hr gs gg
theorem goes_all {w : World} {F : Nat → Prop} {g : Nat} {l : List Ch} (h : IsCh w F g l) (ch : Int) (send : Bool) : Calls Try.prog 46 #[.pointer (some ⟨g, 0, none⟩), .int .i64 ch, .bool send] w (Ret (tup2 (.bool (goesL l ch send)) (.int .i64 (trapC l ch))) E0 w) := by
  obtain ⟨v0, ms, hc, rfl⟩ := h
  obtain ⟨A, c, _, hr⟩ := hc.rd
  exact goes_ok hr ch send
theorem len_all {w : World} {F : Nat → Prop} {g : Nat} {l : List Ch} (h : IsCh w F g l) (ch : Int) : Calls Try.prog 25 #[.pointer (some ⟨g, 0, none⟩), .int .i64 ch] w fun e w' => e = .returned (tup2 (.int .i64 (lenL l ch)) (.int .i64 (trapC l ch))) ∧ w = w' := by
  obtain ⟨v0, ms, hc, rfl⟩ := h
  obtain ⟨A, c, _, hr⟩ := hc.rd
  exact len_ok hr ch
theorem cap_all {w : World} {F : Nat → Prop} {g N : Nat} {l : List Ch} (h : IsCh w F g l) (hok : Ok N l) (ch : Int) : Calls Try.prog 68 #[.pointer (some ⟨g, 0, none⟩), .int .i64 ch] w fun e w' => e = .returned (tup2 (.int .i64 (capL l ch)) (.int .i64 (trapC l ch))) ∧ w = w' := by
  obtain ⟨v0, ms, hc, rfl⟩ := h
  obtain ⟨A, c, _, hr⟩ := hc.rd
  exact cap_ok hr ch (fun m hm => hok.cap _ (List.mem_map.2 ⟨m, hm, rfl⟩))
theorem make_all {w : World} {F : Nat → Prop} {g N : Nat} {l : List Ch} (h : IsCh w F g l) (hok : Ok N l) (c : Int) (hno : makeNo l c = false) :
    Calls Try.prog 22 #[.pointer (some ⟨g, 0, none⟩), .int .i64 c] w (MakePost F g l c w) := by
  obtain ⟨v0, ms, hc, rfl⟩ := h
  exact make_ok hc c (by rw [← chs_len]; exact hok.len) hno
theorem make_all_no {w : World} {F : Nat → Prop} {g N : Nat} {l : List Ch} (h : IsCh w F g l) (hok : Ok N l) (c : Int) (hno : makeNo l c = true) :
    Calls Try.prog 22 #[.pointer (some ⟨g, 0, none⟩), .int .i64 c] w fun e w' => e = .returned (tup2 (.int .i64 0) (.int .i64 5)) ∧ w = w' := by
  obtain ⟨v0, ms, hc, rfl⟩ := h
  exact make_no hc c (by rw [← chs_len]; exact hok.len) hno
end Go.Proofs.Yteffmnohgnmanaa
