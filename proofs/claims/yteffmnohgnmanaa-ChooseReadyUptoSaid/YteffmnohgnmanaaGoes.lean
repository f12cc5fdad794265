/- (*Chans).Len, Cap, Goes. -/
import Derived.Test.YteffmnohgnmanaaReads
namespace Go.Proofs.Yteffmnohgnmanaa
open Go.RowKit
/-- The channel of a handle. -/
def getC (l : List Ch) (ch : Int) : Option Ch := if 1 ≤ ch then l[(ch - 1).toNat]? else none
/-- Why a handle is none; nil is no trap here. -/
def trapC (l : List Ch) (ch : Int) : Int := if ch = 0 then 0 else match getC l ch with | some _ => 0 | none => 4
theorem getC_in {l : List Ch} {k : Nat} {c : Ch} (h : l[k]? = some c) : getC l ((k : Int) + 1) = some c := by
  unfold getC; rw [if_pos (by omega)]; have e : ((k : Int) + 1 - 1).toNat = k := by omega
  rw [e, h]
theorem trapC_in {l : List Ch} {k : Nat} {c : Ch} (h : l[k]? = some c) : trapC l ((k : Int) + 1) = 0 := by
  unfold trapC; rw [getC_in h]; simp
theorem getC_out {l : List Ch} {ch : Int} (h : ch < 0 ∨ (l.length : Int) < ch) : getC l ch = none := by
  unfold getC
  rcases h with h | h
  · rw [if_neg (by omega)]
  · split
    · exact List.getElem?_eq_none (by omega)
    · rfl
theorem trapC_out {l : List Ch} {ch : Int} (h : ch < 0 ∨ (l.length : Int) < ch) : trapC l ch = 4 := by
  unfold trapC; rw [getC_out h, if_neg (by omega)]
theorem getC_zero {l : List Ch} : getC l 0 = none := rfl
theorem trapC_zero {l : List Ch} : trapC l 0 = 0 := rfl
/-- A handle is out, nil, or a channel's. -/
theorem handle (ms : List CM) (ch : Int) : (ch < 0 ∨ (ms.length : Int) < ch) ∨ ch = 0 ∨ ∃ (k : Nat) (m : CM), ch = (k : Int) + 1 ∧ ms[k]? = some m := by
  by_cases h1 : ch < 0 ∨ (ms.length : Int) < ch
  · exact .inl h1
  · by_cases h2 : ch = 0
    · exact .inr (.inl h2)
    · exact .inr (.inr ⟨(ch - 1).toNat, ms[(ch - 1).toNat]'(by omega), by omega, List.getElem?_eq_getElem (by omega)⟩)
def lenL (l : List Ch) (ch : Int) : Int := match getC l ch with | some c => c.vals.length | none => 0
def capL (l : List Ch) (ch : Int) : Int := match getC l ch with | some c => c.cap | none => 0
def goesC (c : Ch) (send : Bool) : Bool := if c.cl then true else if send then decide (0 < c.rcv.length) || decide ((c.vals.length : Int) < c.cap) else decide (0 < c.vals.length) || decide (0 < c.snd.length)
def goesL (l : List Ch) (ch : Int) (send : Bool) : Bool := match getC l ch with | some c => goesC c send | none => false

set_option maxHeartbeats 400000 in
theorem len_ok {w : World} {g : Nat} {A : Option Addr} {c : Nat} {ms : List CM} (h : RdCh w g A c ms) (ch : Int) :
    Calls Try.prog 25 #[.pointer (some ⟨g, 0, none⟩), .int .i64 ch] w fun e w' => e = .returned (tup2 (.int .i64 (lenL (chs ms) ch)) (.int .i64 (trapC (chs ms) ch))) ∧ w = w' := by
  rcases handle ms ch with hc | rfl | ⟨k, m, rfl, hk⟩
  · have e1 : lenL (chs ms) ch = 0 := by unfold lenL; rw [getC_out (by rw [chs_len]; exact hc)]
    have e2 : trapC (chs ms) ch = 4 := trapC_out (by rw [chs_len]; exact hc)
    rw [e1, e2]; clear e1 e2
    go_enter Try.func25, Try.ntmps25
    go_wp2_with (go_at_call 54; refine (at_out h ch hc).mono ?_; rintro e w1 ⟨rfl, rfl⟩; simp only [tup2])
    go_ret2
    exact ⟨rfl, rfl⟩
  · rw [show lenL (chs ms) 0 = 0 from rfl, show trapC (chs ms) 0 = 0 from rfl]
    go_enter Try.func25, Try.ntmps25
    go_wp2_with (go_at_call 54; refine (at_zero h).mono ?_; rintro e w1 ⟨rfl, rfl⟩; simp only [tup2])
    go_ret2
    exact ⟨rfl, rfl⟩
  · have e1 : lenL (chs ms) ((k : Int) + 1) = m.ch.vals.length := by unfold lenL; rw [getC_in (chs_get hk)]
    rw [e1, trapC_in (chs_get hk)]; clear e1
    obtain ⟨b, o, rfl, hr⟩ := h.row.cmAt hk
    obtain ⟨g0, g1, g2, g3, g4⟩ := hr.cm hk
    have hlt := lt_of_get hk
    have hm := h.each m (List.mem_of_getElem? hk)
    obtain ⟨⟨ccap, vals, snd, rcv, cl⟩, vv, sv, rv⟩ := m
    obtain ⟨A1, n1, c1, rfl, hl1, hc1, hm1, hr1⟩ := hm.vals
    simp only at *
    have hl1' : vals.length = n1 := by rw [ints_len] at hl1; omega
    rw [hl1']
    have hn1 : n1 ≤ 2 ^ 63 - 1 := Nat.le_trans hc1 hm1
    clear hm hl1 hl1' hr1 hr
    go_enter Try.func25, Try.ntmps25
    go_wp2_with (go_at_call 54; refine (at_in h k hlt).mono ?_; rintro e w1 ⟨rfl, rfl⟩; simp only [tup2])
    go_ret2
    exact ⟨rfl, rfl⟩
set_option maxHeartbeats 400000 in
theorem cap_ok {w : World} {g : Nat} {A : Option Addr} {c : Nat} {ms : List CM} (h : RdCh w g A c ms) (ch : Int) (hb : ∀ m ∈ ms, 0 ≤ m.ch.cap ∧ m.ch.cap ≤ 1024) :
    Calls Try.prog 68 #[.pointer (some ⟨g, 0, none⟩), .int .i64 ch] w fun e w' => e = .returned (tup2 (.int .i64 (capL (chs ms) ch)) (.int .i64 (trapC (chs ms) ch))) ∧ w = w' := by
  rcases handle ms ch with hc | rfl | ⟨k, m, rfl, hk⟩
  · have e1 : capL (chs ms) ch = 0 := by unfold capL; rw [getC_out (by rw [chs_len]; exact hc)]
    have e2 : trapC (chs ms) ch = 4 := trapC_out (by rw [chs_len]; exact hc)
    rw [e1, e2]; clear e1 e2
    go_enter Try.func68, Try.ntmps68
    go_wp2_with (go_at_call 54; refine (at_out h ch hc).mono ?_; rintro e w1 ⟨rfl, rfl⟩; simp only [tup2])
    go_ret2
    exact ⟨rfl, rfl⟩
  · rw [show capL (chs ms) 0 = 0 from rfl, show trapC (chs ms) 0 = 0 from rfl]
    go_enter Try.func68, Try.ntmps68
    go_wp2_with (go_at_call 54; refine (at_zero h).mono ?_; rintro e w1 ⟨rfl, rfl⟩; simp only [tup2])
    go_ret2
    exact ⟨rfl, rfl⟩
  · have e1 : capL (chs ms) ((k : Int) + 1) = m.ch.cap := by unfold capL; rw [getC_in (chs_get hk)]
    rw [e1, trapC_in (chs_get hk)]; clear e1
    obtain ⟨b, o, rfl, hr⟩ := h.row.cmAt hk
    obtain ⟨g0, g1, g2, g3, g4⟩ := hr.cm hk
    have hlt := lt_of_get hk
    obtain ⟨hb1, hb2⟩ := hb m (List.mem_of_getElem? hk)
    clear hr
    go_enter Try.func68, Try.ntmps68
    go_wp2_with (go_at_call 54; refine (at_in h k hlt).mono ?_; rintro e w1 ⟨rfl, rfl⟩; simp only [tup2])
    go_ret2
    exact ⟨rfl, rfl⟩
theorem goes_none (ch : Int) (send : Bool) (w : World) : Calls Try.prog 46 #[.pointer none, .int .i64 ch, .bool send] w fun e w' => e = .returned (tup2 (.bool false) (.int .i64 4)) ∧ w = w' := by
  go_enter Try.func46, Try.ntmps46
  go_wp2_with (go_at_call 54; refine (at_none ch w).mono ?_; rintro e w1 ⟨rfl, rfl⟩; simp only [tup2])
  go_ret2
  exact ⟨rfl, rfl⟩
set_option maxHeartbeats 400000 in
theorem goes_ok {w : World} {g : Nat} {A : Option Addr} {c : Nat} {ms : List CM} (h : RdCh w g A c ms) (ch : Int) (send : Bool) :
    Calls Try.prog 46 #[.pointer (some ⟨g, 0, none⟩), .int .i64 ch, .bool send] w (Ret (tup2 (.bool (goesL (chs ms) ch send)) (.int .i64 (trapC (chs ms) ch))) E0 w) := by
  rcases handle ms ch with hc | rfl | ⟨k, m, rfl, hk⟩
  · have e1 : goesL (chs ms) ch send = false := by unfold goesL; rw [getC_out (by rw [chs_len]; exact hc)]
    have e2 : trapC (chs ms) ch = 4 := trapC_out (by rw [chs_len]; exact hc)
    rw [e1, e2]; clear e1 e2
    go_enter Try.func46, Try.ntmps46
    go_wp2_with (go_at_call 54; refine (at_out h ch hc).mono ?_; rintro e w1 ⟨rfl, rfl⟩; simp only [tup2])
    go_ret2
    exact ⟨rfl, Fr.refl⟩
  · rw [show goesL (chs ms) 0 send = false from rfl, show trapC (chs ms) 0 = 0 from rfl]
    go_enter Try.func46, Try.ntmps46
    go_wp2_with (go_at_call 54; refine (at_zero h).mono ?_; rintro e w1 ⟨rfl, rfl⟩; simp only [tup2])
    go_ret2
    exact ⟨rfl, Fr.refl⟩
  · have e1 : goesL (chs ms) ((k : Int) + 1) send = goesC m.ch send := by unfold goesL; rw [getC_in (chs_get hk)]
    rw [e1, trapC_in (chs_get hk)]; clear e1
    obtain ⟨b, o, rfl, hr⟩ := h.row.cmAt hk
    obtain ⟨g0, g1, g2, g3, g4⟩ := hr.cm hk
    have hlt := lt_of_get hk
    have hm := h.each m (List.mem_of_getElem? hk)
    obtain ⟨⟨ccap, vals, snd, rcv, cl⟩, vv, sv, rv⟩ := m
    obtain ⟨A1, n1, c1, rfl, hl1, hc1, hm1, hr1⟩ := hm.vals
    obtain ⟨A2, n2, c2, rfl, hl2, hc2, hm2, hr2⟩ := hm.snd
    obtain ⟨A3, n3, c3, rfl, hl3, hc3, hm3, hr3⟩ := hm.rcv
    simp only at *
    have hl1' : vals.length = n1 := by rw [ints_len] at hl1; omega
    have hl2' : snd.length = n2 := by rw [wts_len] at hl2; omega
    have hl3' : rcv.length = n3 := by rw [wts_len] at hl3; omega
    have hn1 : n1 ≤ 2 ^ 63 - 1 := Nat.le_trans hc1 hm1
    have hn2 : n2 ≤ 2 ^ 63 - 1 := Nat.le_trans hc2 hm2
    have hn3 : n3 ≤ 2 ^ 63 - 1 := Nat.le_trans hc3 hm3
    clear hm hl1 hr1 hl2 hr2 hl3 hr3 hr
    simp only [goesC, hl1', hl2', hl3']
    clear hl1' hl2' hl3'
    cases cl with
    | true =>
      simp only [if_true]
      go_enter Try.func46, Try.ntmps46
      go_wp2_with (go_at_call 54; refine (at_in h k hlt).mono ?_; rintro e w1 ⟨rfl, rfl⟩; simp only [tup2])
      go_ret2
      exact ⟨rfl, Fr.refl⟩
    | false =>
      simp only [Bool.false_eq_true, if_false]
      cases send with
      | true =>
        simp only [if_true]
        by_cases h3 : 0 < n3
        · have h3' : (0 : Int) < (n3 : Int) := by omega
          rw [decide_eq_true h3, Bool.true_or]
          go_enter Try.func46, Try.ntmps46
          go_wp2_with (go_at_call 54; refine (at_in h k hlt).mono ?_; rintro e w1 ⟨rfl, rfl⟩; simp only [tup2])
          go_quiet (fail)
          go_wp2
          go_ret2
          exact ⟨rfl, Fr.refl.drewN _⟩
        · have h3' : decide ((0 : Int) < (n3 : Int)) = false := by simp; omega
          rw [decide_eq_false h3, Bool.false_or]
          go_enter Try.func46, Try.ntmps46
          go_wp2_with (go_at_call 54; refine (at_in h k hlt).mono ?_; rintro e w1 ⟨rfl, rfl⟩; simp only [tup2])
          go_quiet (fail)
          go_wp2
          go_ret2
          exact ⟨rfl, Fr.refl.drewN _⟩
      | false =>
        simp only [Bool.false_eq_true, if_false]
        by_cases h1 : 0 < n1
        · have h1' : (0 : Int) < (n1 : Int) := by omega
          rw [decide_eq_true h1, Bool.true_or]
          go_enter Try.func46, Try.ntmps46
          go_wp2_with (go_at_call 54; refine (at_in h k hlt).mono ?_; rintro e w1 ⟨rfl, rfl⟩; simp only [tup2])
          go_ret2
          exact ⟨rfl, Fr.refl⟩
        · have h1' : ¬ (0 : Int) < (n1 : Int) := by omega
          rw [decide_eq_false h1, Bool.false_or]
          go_enter Try.func46, Try.ntmps46
          go_wp2_with (go_at_call 54; refine (at_in h k hlt).mono ?_; rintro e w1 ⟨rfl, rfl⟩; simp only [tup2])
          go_ret2
          exact ⟨by simp [tup2], Fr.refl⟩
end Go.Proofs.Yteffmnohgnmanaa
