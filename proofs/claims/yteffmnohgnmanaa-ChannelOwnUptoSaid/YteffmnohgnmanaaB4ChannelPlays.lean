/- Load, Ref11, Ref12, Ref13, Pair, Does0, Does1, Does2, Play, OpensA: merged by wip/gen/merge.py for the claim of ChannelPlays. -/
import Derived.Deep.CutRange
import Derived.Test.YteffmnohgnmanaaB3ChannelPlays
/- channel.Load. -/
namespace Go.Proofs.Yteffmnohgnmanaa
open Go.RowKit
attribute [local go_sem ↓] Go.wp_at_zero Go.wp_at_succ
theorem loadNo1 (x : CM) (w : World) (hx : x.Rd w) (hf : x.ch.Fit) : Calls Try.prog 75 (#[x.val] ++ #[]) w (Ret (.bool (!mayC x.ch)) E0 w) := by
  have HX := hid hx
  obtain ⟨ch, vv, sv, rv⟩ := x
  obtain ⟨A1, n1, c1, e1, _⟩ := hx.vals
  obtain ⟨A2, n2, c2, e2, _⟩ := hx.snd
  obtain ⟨A3, n3, c3, e3, _⟩ := hx.rcv
  simp only at e1 e2 e3
  subst e1 e2 e3
  clear hx
  simp only [CM.val]
  go_enter Try.func75, Try.ntmps75
  go_wp2_with fail
  refine (may_ok _ _ (HX.out.fr (Fr.refl.alloc _)) hf).mono ?_
  rintro e w1 ⟨rfl, hf1⟩
  have F1 := hid ((Fr.refl.alloc _).trans hf1)
  clear hf1
  go_wp2
  go_ret
  exact ⟨by rfl, F1.out⟩
set_option maxHeartbeats 400000 in
theorem indexL (A : Option Addr) (n c : Nat) (l : List CM) (w : World) (hl : l.length = n) (hn : n ≤ maxLen) (hc : RdA w A (l.flatMap CM.cells)) (he : ∀ m ∈ l, m.Rd w) (hq : ∀ m ∈ l, m.ch.Fit) :
    Calls Try.prog 87 #[.slice A n c, .func (.func 75) #[] #[]] w (Ret (.int .i64 (idxv (fun m => !mayC m.ch) l)) E0 w) := by
  unfold maxLen at hn
  have hK := enters 75 (by kernel_rfl)
  go_enter Try.func87, Try.ntmps87
  go_wp2
  go_loopw [8] (fun i wr => ∃ k : Nat, k ≤ n ∧ i = .int .i64 k ∧ Fr E0 w wr ∧ ∀ j, j < k → ∀ x : CM, l[j]? = some x → (!mayC x.ch) = false) (fun i _ => n - (intOf i).toNat)
  case atStart => exact ⟨0, Nat.zero_le _, rfl, Fr.refl, fun j hj => absurd hj (by omega)⟩
  case round =>
    obtain ⟨k, hk, rfl, hf, hno⟩ := hrel
    have H := hid hno; clear hno
    by_cases hlt : k < n
    · obtain ⟨x, hx⟩ : ∃ x, l[k]? = some x := ⟨l[k], List.getElem?_eq_getElem (by omega)⟩
      obtain ⟨b, o, rfl, hr⟩ := hc.cmAt hx
      obtain ⟨g0, g1, g2, g3, g4⟩ := (hr.fr hf (fun x => x)).cm hx
      have HR := hid ((he x (List.mem_of_getElem? hx)).fr hf)
      have HQ := hid (hq x (List.mem_of_getElem? hx))
      clear hr hc he hq
      go_wp2_with fail
      refine (loadNo1 x wr HR.out HQ.out).mono ?_
      rintro e w1 ⟨rfl, hf1⟩
      have F1 := hid (hf.trans hf1)
      clear hf hf1
      cases hpx : (!mayC x.ch) with
      | true =>
        have HX := hid hpx; clear hpx
        go_wp2
        go_ret
        exact ⟨by rw [idxv_hit (p := fun m : CM => !mayC m.ch) hx HX.out H.out]; rfl, F1.out⟩
      | false =>
        have HX := hid hpx; clear hpx
        go_wp2
        go_roundw
        case rel => exact ⟨k + 1, by omega, by go_num, F1.out, miss_succ (p := fun m : CM => !mayC m.ch) hx HX.out H.out⟩
        case measure => simp [intOf]; omega
    · have F := hid hf
      go_wp2
      go_ret
      exact ⟨by rw [idxv_miss (by omega) H.out]; rfl, F.out⟩
set_option maxHeartbeats 400000 in
theorem containsL (A : Option Addr) (n c : Nat) (l : List CM) (w : World) (hl : l.length = n) (hn : n ≤ maxLen) (hc : RdA w A (l.flatMap CM.cells)) (he : ∀ m ∈ l, m.Rd w) (hq : ∀ m ∈ l, m.ch.Fit) :
    Calls Try.prog 71 #[.slice A n c, .func (.func 75) #[] #[]] w (Ret (.bool (!(chs l).all mayC)) E0 w) := by
  have hi := idxv_any (fun m : CM => !mayC m.ch) l
  have e : (!(chs l).all mayC) = l.any (fun m => !mayC m.ch) := by unfold chs; rw [List.all_map, List.not_all_eq_any_not]; rfl
  rw [e]
  generalize l.any (fun m => !mayC m.ch) = r at *
  clear e
  go_enter Try.func71, Try.ntmps71
  go_wp2_with (go_at_call 87; refine (indexL A n c l w hl hn hc he hq).mono ?_; rintro e w1 ⟨rfl, hf1⟩; have F1 := hid hf1; clear hf1)
  go_ret
  exact ⟨by rfl, F1.out⟩
/-- A channel of its own is put behind the others. -/
theorem pushOwn {w w1 : World} {F : Nat → Prop} {g n H : Nat} {v v' : Value} {ms : List CM} {m : CM} (h : Chs w F g v ms) (hm : m.Own w (fun k => H ≤ k)) (hnd : m.blocks.Nodup) (hH : ∀ k, F k → k < H) (hHw : H ≤ w.heap.size) (o : Obj) (hrow : w1.ownsRow 0 67 5 v' n (ms.flatMap CM.cells ++ m.cells))
    (hg : (w.alloc o).grownBy w1 v.ownBlock) (hat : v'.ownBlock = v.ownBlock ∨ v'.ownBlock = some (w.alloc o).heap.size) :
    Chs (w1.setCell ⟨g, 1, none⟩ v') (fun k => (F k ∨ H ≤ k) ∧ k < w1.heap.size) g v' (ms ++ [m]) ∧ Fr F w (w1.setCell ⟨g, 1, none⟩ v') := by
  have h0 := h.fr (Fr.refl (S := E0) |>.alloc o) (fun _ _ x => x)
  have hgl : g < w.heap.size := h.lt g h.mine
  have hng : v.ownBlock ≠ some g := by
    intro hx
    obtain ⟨cur, hc⟩ := h.own.row.heap hx
    rw [h.obj] at hc; injection hc with hc; injection hc with _ hc _; exact absurd hc (by decide)
  have hobj1 : w1.heap[g]? = some (.cells #[.bool true, v] 108 (0, 0)) := by
    rw [hg.block g (by simp; omega) (fun hx => hng hx.symm)]; exact h0.obj
  have hm1 : m.Own (w.alloc o) (fun k => F k ∨ H ≤ k) := (hm.fr (Fr.refl (S := E0) |>.alloc o) (fun _ _ x => x)).mono (fun k hk => .inr hk)
  have hown : OwnCs w1 (fun k => F k ∨ H ≤ k) v' (ms ++ [m]) :=
    (h0.own.mono (F' := fun k => F k ∨ H ≤ k) (fun k hk => .inl hk)).push hm1 hnd (fun k hk q hq hkq => by
      have a := (hm.mem hk).1
      have b := hH k ((h.own.each q hq).mem hkq).1
      omega) hrow hg hat (.inr (by simp; omega))
  have hgs := hg.size
  simp at hgs
  refine ⟨⟨?_, ⟨.inl h.mine, by omega⟩, fun k hk => by simpa using hk.2, hown.restrict.setOther hobj1⟩, ?_⟩
  · exact heap_setCell_same w1 g 1 _ _ v' hobj1
  · exact (((Fr.refl (S := F) (w := w)).alloc o).grown hg (fun k hk => .inl (h.own.row.2 k hk))).setCell (p := ⟨g, 1, none⟩) v' (.inl h.mine)
def loadNo (l : List Ch) : Bool := decide (1024 < l.length) || !l.all mayC
/-- What Load answers. -/
def LoadPost (l : List Ch) (w : World) (e : Ending) (w' : World) : Prop :=
  Fr E0 w w' ∧ ((loadNo l = true ∧ e = .returned (tup2 (.pointer none) (.int .i64 110))) ∨
    (loadNo l = false ∧ ∃ g F, e = .returned (tup2 (.pointer (some ⟨g, 0, none⟩)) (.int .i64 0)) ∧ IsCh w' F g l ∧ ∀ k, F k → w.heap.size ≤ k))
theorem own_agg (ch : Ch) (A1 A2 A3 : Option Addr) (n1 c1 n2 c2 n3 c3 : Nat) (w : World) (h : CM.Rd w ⟨ch, .slice A1 n1 c1, .slice A2 n2 c2, .slice A3 n3 c3⟩) (hf : ch.Fit) : Calls Try.prog 69 #[.agg #[.int .i64 ch.cap, .slice A1 n1 c1, .slice A2 n2 c2, .slice A3 n3 c3, .bool ch.cl]] w (OwnPost ⟨ch, .slice A1 n1 c1, .slice A2 n2 c2, .slice A3 n3 c3⟩ w) := own_ok _ w h hf
set_option maxHeartbeats 4000000 in
theorem load_ok (v : Value) (ms : List CM) (w : World) (h : RdCs w v ms) (hfit : ∀ m ∈ ms, m.ch.Fit) : Calls Try.prog 40 #[v] w (LoadPost (chs ms) w) := by
  obtain ⟨⟨A, n, c, rfl, hl, hnc, hcm, hr⟩, he⟩ := h
  obtain rfl : ms.length = n := by rw [cms_len] at hl; omega
  have hn : ms.length ≤ maxLen := Nat.le_trans hnc hcm
  have HR := hid hr
  have HE := hid he
  have HF := hid hfit
  clear hl hr he hfit hnc hcm
  by_cases h1 : 1024 < ms.length
  · have hno : loadNo (chs ms) = true := by simp [loadNo, chs_len, h1]
    have h1' : (1024 : Int) < (ms.length : Int) := by omega
    have hn' : ms.length ≤ 2 ^ 63 - 1 := hn
    go_enter Try.func40, Try.ntmps40
    go_wp2_with fail
    go_ret2
    exact ⟨Fr.refl, .inl ⟨hno, rfl⟩⟩
  have h1' : ¬ (1024 : Int) < (ms.length : Int) := by omega
  cases h2 : (chs ms).all mayC with
  | false =>
    have hno : loadNo (chs ms) = true := by simp [loadNo, h2]
    have H2 := hid h2
    clear h2
    go_enter Try.func40, Try.ntmps40
    go_wp2_with (go_at_call 71; refine (containsL A ms.length c ms w rfl hn HR.out HE.out HF.out).mono ?_; rintro e w1 ⟨rfl, hf1⟩; rw [H2.out]; have F1 := hid hf1; clear hf1)
    go_ret2
    exact ⟨F1.out, .inl ⟨hno, rfl⟩⟩
  | true =>
    have hno : loadNo (chs ms) = false := by simp [loadNo, h2, chs_len]; omega
    have H2 := hid h2
    clear h2
    obtain ⟨i0, hi0, hz0, hz1, hz2⟩ := info_parts info67
    go_enter Try.func40, Try.ntmps40
    go_wp2_with (first
      | (go_at_call 71; refine (containsL A ms.length c ms w rfl hn HR.out HE.out HF.out).mono ?_; rintro e w1 ⟨rfl, hf1⟩; rw [H2.out]; have F1 := hid hf1; clear hf1)
      | (go_at_call 20; refine (new_ok w1).mono ?_; rintro e w2 ⟨g, rfl, his2, hf2⟩; have I2 := hid his2; have F2 := hid (F1.out.trans hf2); have S1 := hid F1.out.size; clear his2 hf2))
    have Z2 := hid (Nat.le_trans F1.out.size (show w1.heap.size ≤ w2.heap.size from by obtain ⟨_, _, hc, _⟩ := I2.out; have := hc.lt g hc.mine; have := hc.mine.1; omega))
    go_loopw [17] (fun i wr => ∃ (k : Nat) (F : Nat → Prop) (ov : Value) (ms' : List CM), i = .int .i64 k ∧ k ≤ ms.length ∧ Chs wr F g ov ms' ∧ chs ms' = (chs ms).take k ∧ (∀ q, F q → w.heap.size ≤ q) ∧ Fr E0 w wr) (fun i _ => ms.length - (intOf i).toNat)
    case atStart =>
      obtain ⟨ov, ms', hc, hm⟩ := I2.out
      exact ⟨0, _, ov, ms', rfl, Nat.zero_le _, hc, hm, fun q hq => Nat.le_trans S1.out hq.1, F2.out⟩
    case round =>
      obtain ⟨k, F, ov, ms', rfl, hk, hch, htk, hnew, hfr⟩ := hrel
      have HC := hid hch
      have HT := hid htk
      have HN0 := hid hnew
      have HFR := hid hfr
      clear hch htk hnew hfr
      by_cases hlt : k < ms.length
      · obtain ⟨m, hm⟩ : ∃ m, ms[k]? = some m := ⟨ms[k], List.getElem?_eq_getElem hlt⟩
        obtain ⟨b, o, rfl, hr⟩ := HR.out.cmAt hm
        obtain ⟨g0, g1, g2, g3, g4⟩ := (hr.fr HFR.out (fun x => x)).cm hm
        have HM := hid hm
        have HMR := hid ((HE.out m (List.mem_of_getElem? hm)).fr HFR.out)
        have hmf := HF.out m (List.mem_of_getElem? hm)
        have hml : ms'.length = k := by have := congrArg List.length HT.out; rw [chs_len, List.length_take, chs_len] at this; omega
        obtain ⟨OA, Oc, eo, _, _, _⟩ := HC.out.own.row.read (n := k) (by decide) (by rw [cms_len, hml])
        subst eo
        obtain ⟨A1, n1, c1, e1, _⟩ := HMR.out.vals
        obtain ⟨A2, n2, c2, e2, _⟩ := HMR.out.snd
        obtain ⟨A3, n3, c3, e3, _⟩ := HMR.out.rcv
        obtain ⟨ch, vv, sv, rv⟩ := m
        simp only at e1 e2 e3
        subst e1 e2 e3
        simp only at g0 g1 g2 g3 g4
        have HML := hid hml
        have hgl : g < wr.heap.size := HC.out.lt g HC.out.mine
        clear hr hm hml
        go_upto_region 7 with fail
        have FA := hid ((Fr.refl (S := E0) (w := wr)).alloc (.cells #[.int .i64 ch.cap, .slice A1 n1 c1, .slice A2 n2 c2, .slice A3 n3 c3, .bool ch.cl] 67)).drew
        have K0 := hid (show (wr.alloc (.cells #[.int .i64 ch.cap, .slice A1 n1 c1, .slice A2 n2 c2, .slice A3 n3 c3, .bool ch.cl] 67)).drew.heap[wr.heap.size]? = some (.cells #[.int .i64 ch.cap, .slice A1 n1 c1, .slice A2 n2 c2, .slice A3 n3 c3, .bool ch.cl] 67 (0, 0)) from heap_alloc_new wr _)
        obtain ⟨⟨k0, k1, k2, k3, k4⟩, _⟩ := blk5 K0.out
        have CA := hid (HC.out.fr FA.out (fun _ _ x => x))
        have l0 := CA.out.list
        clear g0 g1 g2 g3 g4
        have hnB : Hid (¬ (Value.slice OA k Oc).ownBlock = some wr.heap.size) := fun e => absurd (HC.out.lt _ (HC.out.own.row.2 _ e)) (Nat.lt_irrefl _)
        have hnG : Hid (¬ (Value.slice OA k Oc).ownBlock = some g) := fun e => by
          obtain ⟨cur, hc⟩ := HC.out.own.row.heap e
          rw [HC.out.obj] at hc; injection hc with hc; injection hc with _ hc _; exact absurd hc (by decide)
        have S0 := hid (And.intro l0 (blk5 K0.out).1)
        obtain ⟨_, _⟩ := S0.out
        go_region_law (first
          | (refine step_append_lies _ (by rfl) (.tmp 25) (.tmp 28) 52 (by rfl) 0 67 i0 (.agg #[.int .i64 0, .slice none 0 0, .slice none 0 0, .slice none 0 0, .bool false]) 5 88 Try.underlying52 hi0 hz0 hz1 hz2 rfl (by decide) (.slice OA k Oc) k (ms'.flatMap CM.cells) (by rfl) (C2.out.own.row.own (by decide) (by rw [cms_len, HML.out])) ⟨w1.heap.size, 0, none⟩ 1 1 [.int .i64 ch'.cap, .slice B1 p1 r1, .slice B2 p2 r2, .slice B3 p3 r3, .bool ch'.cl] (by rfl) (by rfl) (news1 _ _) hone.out (by decide) (by unfold maxLen; omega) (by omega) (Nat.zero_le _) (w1.heap.size + 1) (by simp) ?_; intro gb cap3 w3 hown3 hgrow3 hat3 hlt3; have FG := hid (Fr.refl.grown (S := fun q => (Value.slice OA k Oc).ownBlock = some q) hgrow3 (fun q hq => .inl hq)); have K3 := hid (FG.out.heapAt K2.out hnB.out); have O3 := hid (FG.out.heapAt C2.out.obj hnG.out); have l3 : w3.cell? ⟨g, 1, none⟩ = some (.slice OA k Oc) := FG.out.cell C2.out.list hnG.out; have z1 := frozen_of_row w3 g 1 _ _ O3.out; have HN := hid (And.intro hown3 (And.intro hgrow3 (And.intro hat3 hlt3))); clear hown3 hgrow3 hat3 hlt3)
          | (go_simp; go_at_call 69; ((with_reducible refine (own_agg ch A1 A2 A3 n1 c1 n2 c2 n3 c3 _ (HMR.out.fr FA.out) hmf).mono ?_); rintro e w1 ⟨⟨ch', v1, v2, v3⟩, rfl, hch, hown1, hnd1, hf1⟩); simp only at hch; subst hch; obtain ⟨B1, p1, r1, e1⟩ := hown1.vals.shape; obtain ⟨B2, p2, r2, e2⟩ := hown1.snd.shape; obtain ⟨B3, p3, r3, e3⟩ := hown1.rcv.shape; simp only at e1 e2 e3; subst e1 e2 e3; simp only [CM.val]; have C1 := hid (CA.out.fr hf1 (fun _ _ x => x)); have K1 := hid (hf1.heapAt K0.out (fun x => x)); have l1 := C1.out.list; have hg1 : g < w1.heap.size := C1.out.lt g C1.out.mine; have M1 := hid hown1; have ND1 := hid hnd1; have F1 := hid hf1; have FB := hid ((Fr.refl (S := E0) (w := w1)).alloc (.cells #[.int .i64 ch'.cap, .slice B1 p1 r1, .slice B2 p2 r2, .slice B3 p3 r3, .bool ch'.cl] 67)); have C2 := hid (C1.out.fr FB.out (fun _ _ x => x)); have K2 := hid (FB.out.heapAt K1.out (fun x => x));  have hone := hid (cm_oneCell M1.out); clear hown1 hnd1 hf1))
        all_goals
          have hz0 : wr.heap.size < w1.heap.size := Nat.lt_of_lt_of_le (by simp) F1.out.size
          have PW := hid (pushOwn (m := ⟨ch', .slice B1 p1 r1, .slice B2 p2 r2, .slice B3 p3 r3⟩) (H := wr.heap.size) C1.out (M1.out.mono (fun q hq => by unfold New at hq; simp at hq; omega)) ND1.out HC.out.lt (Nat.le_of_lt hz0) _ HN.out.1 HN.out.2.1 (hatOf HN.out.2.2.1 (by simp)))
          have FE := hid (((HFR.out.trans FA.out).trans F1.out).trans' PW.out.2 (fun q hq => .inr (HN0.out q hq)))
          go_wp2_with fail
          go_roundw
          case rel => exact ⟨k + 1, _, _, _, by simp, by omega, PW.out.1, by rw [chs_push, HT.out, List.take_add_one, chs_get HM.out]; rfl, fun q hq => hq.1.elim (HN0.out q) (fun x => Nat.le_trans HFR.out.size x), FE.out⟩
          case measure => simp [intOf]; omega
      · obtain rfl : k = ms.length := by omega
        clear hlt hk
        go_wp2_with fail
        go_ret2
        exact ⟨HFR.out, .inr ⟨hno, g, F, rfl, ⟨_, _, HC.out, by rw [HT.out, ← chs_len, List.take_length]⟩, HN0.out⟩⟩
end Go.Proofs.Yteffmnohgnmanaa
/- rotaref11: Send, Recv, Make in one contract each; Load. -/
namespace Go.Proofs.Yteffmnohgnmanaa
open Go.RowKit
set_option linter.unusedVariables false
theorem isB_out {ms : List CM} {ch : Int} (h : ch < 0 ∨ (ms.length : Int) < ch) : isB (chs ms) ch = false := by unfold isB; rw [getC_out (by rw [chs_len]; exact h)]; rfl
theorem rsend_all {w : World} {v : Value} {ms : List CM} (hv : RdCs w v ms) (hn : ms.length ≤ 1024) (hbig : ∀ c ∈ chs ms, BigC c) (ch gs gg val : Int) :
    Calls Try.prog 49 #[v, .int .i64 ch, .agg #[.int .i64 gs, .int .i64 gg], .int .i64 val] w (RMvPost w v (chs ms) (sendL (chs ms) ch gs gg val).1 (sendL (chs ms) ch gs gg val).2.1 (sendL (chs ms) ch gs gg val).2.2) := by
  cases hw : waitsL gs gg (chs ms) with
  | true =>
    have e : sendL (chs ms) ch gs gg val = (chs ms, {}, 111) := by unfold sendL; rw [if_pos hw]
    rw [e]; exact rsend_waits hv hn hbig gs gg val hw ch
  | false =>
    rcases handle ms ch with ho | rfl | ⟨k, m, rfl, hk⟩
    · have e : sendL (chs ms) ch gs gg val = (chs ms, { trap := 4 }, 0) := by
        unfold sendL; rw [trapC_out (by rw [chs_len]; exact ho)]; simp [hw]
      rw [e]; exact rsend_out hv hn hbig gs gg val hw ch (by omega) (isB_out ho)
    · have e : sendL (chs ms) 0 gs gg val = (chs ms, { waits := true }, 0) := by
        unfold sendL; rw [trapC_zero, getC_zero]; simp [hw]
      rw [e]; exact rsend_nil hv hn hbig gs gg val hw
    · have hg := getC_in (chs_get hk)
      have ht := trapC_in (chs_get hk)
      have hK := chs_get hk
      revert hK hg
      generalize hmc : m.ch = c0
      obtain ⟨cap, vals, snd, rcv, cl⟩ := c0
      intro hg hK
      cases cl with
      | true =>
        have e : sendL (chs ms) ((k : Int) + 1) gs gg val = (chs ms, { trap := 6 }, 0) := by unfold sendL; rw [ht, hg]; simp [hw]
        rw [e]; exact rsend_closed hv hn hbig gs gg val hw hK
      | false =>
        cases rcv with
        | cons x r =>
          have e : sendL (chs ms) ((k : Int) + 1) gs gg val = (leaveL x.s x.g (chs ms), { ok := true, woken := [⟨x.s, x.g, x.c, val, true, 0⟩] }, 0) := by unfold sendL; rw [ht, hg]; simp [hw]
          rw [e]; exact rsend_wakes hv hn hbig gs gg val hw hK
        | nil =>
          by_cases hb : (vals.length : Int) < cap
          · have e : sendL (chs ms) ((k : Int) + 1) gs gg val = ((chs ms).set k ⟨cap, vals ++ [val], snd, [], false⟩, { ok := true }, 0) := by unfold sendL; rw [ht, hg]; simp [hw, hb, setK_k]
            rw [e]; exact rsend_buffers hv hn hbig gs gg val hw hK hb
          · have e : sendL (chs ms) ((k : Int) + 1) gs gg val = ((chs ms).set k ⟨cap, vals, snd ++ [⟨gs, gg, 0, val⟩], [], false⟩, { waits := true }, 0) := by unfold sendL; rw [ht, hg]; simp [hw, hb, setK_k]
            rw [e]; exact rsend_queues hv hn hbig gs gg val hw hK hb
theorem rrecv_all {w : World} {v : Value} {ms : List CM} (hv : RdCs w v ms) (hn : ms.length ≤ 1024) (hbig : ∀ c ∈ chs ms, BigC c) (ch gs gg : Int) :
    Calls Try.prog 50 #[v, .int .i64 ch, .agg #[.int .i64 gs, .int .i64 gg]] w (RMvPost w v (chs ms) (recvL (chs ms) ch gs gg).1 (recvL (chs ms) ch gs gg).2.1 (recvL (chs ms) ch gs gg).2.2) := by
  cases hw : waitsL gs gg (chs ms) with
  | true =>
    have e : recvL (chs ms) ch gs gg = (chs ms, {}, 111) := by unfold recvL; rw [if_pos hw]
    rw [e]; exact rrecv_waits hv hn hbig gs gg hw ch
  | false =>
    rcases handle ms ch with ho | rfl | ⟨k, m, rfl, hk⟩
    · have e : recvL (chs ms) ch gs gg = (chs ms, { trap := 4 }, 0) := by
        unfold recvL; rw [trapC_out (by rw [chs_len]; exact ho)]; simp [hw]
      rw [e]; exact rrecv_out hv hn hbig gs gg hw ch (by omega) (isB_out ho)
    · have e : recvL (chs ms) 0 gs gg = (chs ms, { waits := true }, 0) := by
        unfold recvL; rw [trapC_zero, getC_zero]; simp [hw]
      rw [e]; exact rrecv_nil hv hn hbig gs gg hw
    · have hg := getC_in (chs_get hk)
      have ht := trapC_in (chs_get hk)
      have hK := chs_get hk
      revert hK hg
      generalize hmc : m.ch = c0
      obtain ⟨cap, vals, snd, rcv, cl⟩ := c0
      intro hg hK
      cases vals with
      | cons y vs =>
        cases snd with
        | nil =>
          have e : recvL (chs ms) ((k : Int) + 1) gs gg = ((chs ms).set k ⟨cap, vs, [], rcv, cl⟩, { value := y, ok := true }, 0) := by unfold recvL; rw [ht, hg]; simp [hw, setK_k]
          rw [e]; exact rrecv_value hv hn hbig gs gg hw hK
        | cons x r =>
          have e : recvL (chs ms) ((k : Int) + 1) gs gg = (leaveL x.s x.g ((chs ms).set k ⟨cap, vs ++ [x.v], x :: r, rcv, cl⟩), { value := y, ok := true, woken := [⟨x.s, x.g, x.c, 0, true, 0⟩] }, 0) := by unfold recvL; rw [ht, hg]; simp [hw, setK_k]
          rw [e]; exact rrecv_value_wakes hv hn hbig gs gg hw hK
      | nil =>
        cases snd with
        | cons x r =>
          have e : recvL (chs ms) ((k : Int) + 1) gs gg = (leaveL x.s x.g (chs ms), { value := x.v, ok := true, woken := [⟨x.s, x.g, x.c, 0, true, 0⟩] }, 0) := by unfold recvL; rw [ht, hg]; simp [hw]
          rw [e]; exact rrecv_wakes hv hn hbig gs gg hw hK
        | nil =>
          cases cl with
          | true =>
            have e : recvL (chs ms) ((k : Int) + 1) gs gg = (chs ms, {}, 0) := by unfold recvL; rw [ht, hg]; simp [hw]
            rw [e]; exact rrecv_closed hv hn hbig gs gg hw hK
          | false =>
            have e : recvL (chs ms) ((k : Int) + 1) gs gg = ((chs ms).set k ⟨cap, [], [], rcv ++ [⟨gs, gg, 0, 0⟩], false⟩, { waits := true }, 0) := by unfold recvL; rw [ht, hg]; simp [hw, setK_k]
            rw [e]; exact rrecv_queues hv hn hbig gs gg hw hK
def RLoadPost (l : List Ch) (w : World) (e : Ending) (w' : World) : Prop :=
  Fr E0 w w' ∧ ((loadNo l = true ∧ e = .returned (tup2 (.slice none 0 0) (.int .i64 110))) ∨
    (loadNo l = false ∧ ∃ v' ms', e = .returned (tup2 v' (.int .i64 0)) ∧ chs ms' = l ∧ OwnCs w' (New w) v' ms'))
def allMay (l : List Ch) : Bool := l.all mayC
theorem allMay_step {l : List Ch} {k : Nat} {c : Ch} (hc : l[k]? = some c) (h : allMay (l.take k) = true) (hm : mayC c = true) : allMay (l.take (k + 1)) = true := by
  rw [List.take_add_one, hc]; simp [allMay] at h ⊢; exact ⟨h, hm⟩
theorem allMay_no {l : List Ch} {k : Nat} {c : Ch} (hc : l[k]? = some c) (hm : mayC c = false) : loadNo l = true := by
  unfold loadNo; rw [Bool.or_eq_true]; right
  simp; exact ⟨c, List.mem_of_getElem? hc, hm⟩
theorem rloadNo (l : List Ch) (w w' : World) (hl : loadNo l = true) (hf : Fr E0 w w') : RLoadPost l w (.returned (.tuple #[.slice none 0 0, .int .i64 110])) w' := ⟨hf, .inl ⟨hl, rfl⟩⟩
theorem rloadYes (l : List Ch) (w w' : World) (v' : Value) (ms' : List CM) (hl : loadNo l = false) (hf : Fr E0 w w') (hc : chs ms' = l) (ho : OwnCs w' (New w) v' ms') : RLoadPost l w (.returned (.tuple #[v', .int .i64 0])) w' := ⟨hf, .inr ⟨hl, v', ms', rfl, hc, ho⟩⟩
set_option maxRecDepth 8000 in
set_option maxHeartbeats 4000000 in
theorem rload_ok {w : World} {v : Value} {ms : List CM} (hv : RdCs w v ms) (hbig : ∀ c ∈ chs ms, BigC c) : Calls Try.prog 41 #[v] w (RLoadPost (chs ms) w) := by
  have HV := hid hv
  have HBG := hid hbig
  obtain ⟨A, c0, rfl, hmx, hrow, heach⟩ := hv.form
  have HR := hid hrow
  have HE := hid heach
  unfold maxLen at hmx
  clear hv hbig hrow heach
  by_cases hlen : 1024 < ms.length
  · have hl' : (1024 : Int) < (ms.length : Int) := by omega
    have HP := hid (rloadNo (chs ms) w w (by unfold loadNo; rw [chs_len]; simp [hlen]) Fr.refl)
    clear hlen
    go_enter Try.func41, Try.ntmps41
    go_wp2_with fail
    go_ret2
    exact HP.out
  · have hl' : ¬ (1024 : Int) < (ms.length : Int) := by omega
    have hl2 : ms.length ≤ 1024 := by omega
    have HL := hid hl2
    obtain ⟨l, hl⟩ : ∃ l, l = chs ms := ⟨_, rfl⟩
    have HLL := hid hl
    rw [← hl]
    clear hl hlen
    go_enter Try.func41, Try.ntmps41
    go_wp2_with fail
    go_loopw [4] (fun i wr => ∃ k : Nat, i = .int .i64 k ∧ k ≤ ms.length ∧ allMay (l.take k) = true ∧ Fr E0 w wr) (fun i _ => ms.length - (intOf i).toNat)
    case atStart => exact ⟨0, rfl, Nat.zero_le _, rfl, Fr.refl⟩
    case round =>
      obtain ⟨k, rfl, hk, hall, hf⟩ := hrel
      have HA := hid hall
      have HF := hid hf
      clear hall hf
      by_cases hlt : k < ms.length
      · obtain ⟨m, hm⟩ : ∃ m, ms[k]? = some m := ⟨ms[k], List.getElem?_eq_getElem hlt⟩
        obtain ⟨b, o, rfl, r⟩ := HR.out.cmAt hm
        obtain ⟨b0, b1, b2, b3, b4⟩ := (r.fr HF.out (fun x => x)).cm hm
        have hmem := List.mem_of_getElem? hm
        have HMR := hid ((HE.out m hmem).fr HF.out)
        have HB := hid (HBG.out _ (List.mem_map.2 ⟨m, hmem, rfl⟩))
        have HC := hid (show l[k]? = some m.ch by rw [HLL.out]; exact chs_get hm)
        clear r hm hmem
        obtain ⟨⟨cap, vals, snd, rcv, cl⟩, vv, sv, rv⟩ := m
        obtain ⟨A1, n1, c1, e1, _⟩ := HMR.out.vals
        obtain ⟨A2, n2, c2, e2, _⟩ := HMR.out.snd
        obtain ⟨A3, n3, c3, e3, _⟩ := HMR.out.rcv
        simp only at e1 e2 e3 b0 b1 b2 b3 b4
        subst e1 e2 e3
        go_wp2_with fail
        refine (may2_agg cap vals snd rcv cl _ _ _ _ _ _ _ _ _ wr HMR.out (Nat.le_succ_of_le HB.out.1) (Nat.le_succ_of_le HB.out.2.1) (Nat.le_succ_of_le HB.out.2.2)).mono ?_
        rintro e w4 ⟨rfl, hf4⟩
        have F4 := hid (HF.out.trans hf4)
        clear hf4 b0 b1 b2 b3 b4
        cases hmy : mayC ⟨cap, vals, snd, rcv, cl⟩ with
        | true =>
          have HMY := hid hmy
          clear hmy
          go_wp2_with fail
          go_roundw
          case rel => exact ⟨k + 1, by simp, by omega, allMay_step HC.out HA.out HMY.out, F4.out⟩
          case measure => simp [intOf]; omega
        | false =>
          have HP := hid (rloadNo l w w4 (allMay_no HC.out hmy) F4.out)
          clear hmy
          go_wp2_with fail
          go_ret2
          exact HP.out
      · obtain rfl : k = ms.length := by omega
        have HNO := hid (show loadNo l = false by
          have h1 := HA.out
          have h2 : l.length = ms.length := by rw [HLL.out, chs_len]
          rw [← h2, List.take_length] at h1
          have h3 := HL.out
          unfold loadNo
          unfold allMay at h1
          rw [h1]; simp; omega)
        clear hlt hk
        go_wp2_with fail
        refine (copy_ok ms _ wr (HV.out.fr HF.out) (by have := HL.out; omega) (fun m hm => HBG.out _ (List.mem_map.2 ⟨m, hm, rfl⟩))).mono ?_
        rintro e w2 ⟨ov, ms2, rfl, hc2, ho2, hf2⟩
        have HP := hid (rloadYes l w w2 ov ms2 HNO.out (HF.out.trans hf2) (by rw [hc2, HLL.out]) (ho2.mono (F' := New w) (fun q hq => Nat.le_trans HF.out.size hq)))
        clear hc2 ho2 hf2
        go_wp2_with fail
        go_ret2
        exact HP.out
end Go.Proofs.Yteffmnohgnmanaa
/- rotaref11.Close. Printed by wip/gen/ref12.py. -/
namespace Go.Proofs.Yteffmnohgnmanaa
open Go.RowKit
set_option linter.unusedVariables false
attribute [local go_sem ↓] Go.wp_at_zero Go.wp_at_succ
def RMvPost1 (w : World) (v : Value) (l l' : List Ch) (m : Mv) (e : Ending) (w' : World) : Prop :=
  ∃ v' wv, e = .returned (tup2 v' (m.val wv)) ∧ OutR w w' v l l' v' ∧ RowF w' (New w) 39 6 wv (wks m.woken) ∧ Fr E0 w w'
theorem fin61 {a : Act} {W : World} {R : Nat} {Q : Ending → World → Prop} {m : Mv} {v wv : Value} (hd : a.defers = []) (h8 : a.tmps.getD 4 undef = v) (h9 : a.tmps.getD 5 undef = .pointer (some ⟨R, 0, none⟩))
    (hR : W.heap[R]? = some (.cells #[.bool m.waits, .int .i64 m.value, .bool m.ok, .int .i64 m.trap, wv] 32 (0, 0))) (hQ : Q (.returned (tup2 v (m.val wv))) W) : bodyPost Try.prog Try.f61 Q .ret a W := by
  obtain ⟨⟨k0, k1, k2, k3, k4⟩, _⟩ := blk5 hR
  have h8' : a.tmps[4]?.getD undef = v := by simpa using h8
  have h9' : a.tmps[5]?.getD undef = .pointer (some ⟨R, 0, none⟩) := by simpa using h9
  exact bodyPost_ret (v := tup2 v (m.val wv)) (by simp [results, Try.results61, go_sem, h8', h9', k0, k1, k2, k3, k4, tup2, Mv.val]) hd hQ
/-- How many wait at channel k, off memory. -/
def rlenV (v : Value) (w : World) (k j : Nat) : Nat := match v with | .slice (some a) _ _ => rlen w a.block k j | _ => 0
structure RClose (w wr : World) (k M R n0 : Nat) (l : List Ch) (acc : List Wk) (ov wv : Value) (c : Ch) : Prop where
  ch : ∃ ms, OwnCs wr (New w) ov ms ∧ chs ms = l
  len : l.length ≤ 1024
  big : ∀ c ∈ l, BigC c
  at' : l[k]? = some c
  room : acc.length + c.rcv.length + c.snd.length ≤ n0
  cell : wr.heap[M]? = some (.cells #[.bool false, .int .i64 0, .bool false, .int .i64 0, wv] 32 (0, 0))
  res : wr.heap[R]? = some (.cells #[.bool false, .int .i64 0, .bool false, .int .i64 0, .slice none 0 0] 32 (0, 0))
  row : RowF wr (New w) 39 6 wv (wks acc)
  fr : Fr E0 w wr
theorem rlenV_rcv {w wr : World} {k M R n0 : Nat} {l : List Ch} {acc : List Wk} {ov wv : Value} {c : Ch} (h : RClose w wr k M R n0 l acc ov wv c) : rlenV ov wr k 3 = c.rcv.length ∧ rlenV ov wr k 2 = c.snd.length := by
  obtain ⟨ms, ho, rfl⟩ := h.ch
  have hk := h.at'
  unfold chs at hk
  rw [List.getElem?_map] at hk
  obtain ⟨m, hm, rfl⟩ := Option.map_eq_some_iff.1 hk
  obtain ⟨L, cp, rfl, _, _, _, _, c2, c3, _, _⟩ := ho.at hm
  obtain ⟨A, cc, e, _⟩ := (ho.each m (List.mem_of_getElem? hm)).rcv.read (by decide) (wts_len _)
  obtain ⟨A', cc', e', _⟩ := (ho.each m (List.mem_of_getElem? hm)).snd.read (by decide) (wts_len _)
  rw [e] at c3
  rw [e'] at c2
  simp only [rlenV, rlen, c3, c2]
  exact ⟨trivial, trivial⟩
theorem big_leave {l : List Ch} (h : ∀ c ∈ l, BigC c) (gs gg : Int) : ∀ c ∈ leaveL gs gg l, BigC c := by
  intro c hc
  obtain ⟨q, hq, rfl⟩ := List.mem_map.1 hc
  obtain ⟨h1, h2, h3⟩ := h q hq
  have a := wout_le gs gg q.snd
  have b := wout_le gs gg q.rcv
  exact ⟨h1, Nat.le_trans a h2, Nat.le_trans b h3⟩
theorem rclose_step {w wr w5 w7 : World} {k M R n0 gb nn cap : Nat} {ov v5 wv : Value} {l : List Ch} {acc : List Wk} {c : Ch} {x : Wt} {y : Wk} {ms5 : List CM} (h : RClose w wr k M R n0 l acc ov wv c) (X : Obj)
    (hc5 : chs ms5 = leaveL x.s x.g l) (ho5 : OwnCs w5 (New (wr.alloc X)) v5 ms5) (hf5 : Fr E0 (wr.alloc X) w5) (o : Obj)
    (hown : w7.ownsRow 0 39 6 (.slice (some ⟨gb, 0, none⟩) nn cap) nn (wks acc ++ Wk.cells y)) (hgrow : (w5.alloc o).grownBy w7 wv.ownBlock) (hat : wv.ownBlock = some gb ∨ gb = (w5.alloc o).heap.size)
    (hroom : (acc.length + 1) + (leaveCh x.s x.g c).rcv.length + (leaveCh x.s x.g c).snd.length ≤ n0) (hRM : ¬ R = M) (hM : w.heap.size ≤ M) :
    RClose w (w7.setCell ⟨M, 4, none⟩ (.slice (some ⟨gb, 0, none⟩) nn cap)) k M R n0 (leaveL x.s x.g l) (acc ++ [y]) v5 (.slice (some ⟨gb, 0, none⟩) nn cap) (leaveCh x.s x.g c) := by
  have f1 : Fr E0 wr (w5.alloc o) := (((Fr.refl (S := E0)).alloc X).trans hf5).alloc o
  have row6 : RowF (w5.alloc o) (New w) 39 6 wv (wks acc) := h.row.fr f1 (fun _ _ x => x)
  have gfr : Fr (fun q => wv.ownBlock = some q) (w5.alloc o) w7 := Fr.refl.grown hgrow (fun q hq => .inl hq)
  have cell7 := keepT (f1.heapAt h.cell (fun x => x)) row6 (by decide) hgrow
  have res7 := keepT (f1.heapAt h.res (fun x => x)) row6 (by decide) hgrow
  have hsz : wr.heap.size < (wr.alloc X).heap.size := by simp
  have own7 : OwnCs w7 (New (wr.alloc X)) v5 ms5 := (ho5.fr ((Fr.refl (S := E0)).alloc o) (fun _ _ x => x)).fr gfr (fun q hq e => by
    have h1 := h.row.lt e
    have h2 : (wr.alloc X).heap.size ≤ q := hq
    omega)
  have row7 : RowF w7 (New w) 39 6 (.slice (some ⟨gb, 0, none⟩) nn cap) (wks (acc ++ [y])) := by
    refine ⟨⟨nn, by simpa [wks] using hown⟩, fun q hq => ?_⟩
    simp [Value.ownBlock] at hq; subst hq
    rcases hat with e | e
    · exact h.row.2 _ e
    · show w.heap.size ≤ gb
      have h1 := h.fr.size
      have h2 := f1.size
      omega
  refine ⟨⟨ms5, (own7.off cell7 (by decide) (by decide) (by decide)).mono (fun q hq => ?_), hc5⟩, by simpa [leaveL] using h.len, big_leave h.big _ _, ?_, ?_, ?_, ?_, ?_, ?_⟩
  · have h2 : (wr.alloc X).heap.size ≤ q := hq
    have h1 := h.fr.size
    show w.heap.size ≤ q
    omega
  · rw [leaveL_get, h.at']; rfl
  · simpa using hroom
  · exact heap_setCell_same w7 M 4 _ _ _ cell7
  · rw [heap_setCell_other _ _ _ _ hRM]; exact res7
  · exact row7.off cell7 (by decide)
  · refine Fr.setCell ?_ (p := ⟨M, 4, none⟩) _ (.inr hM)
    exact (h.fr.trans f1).trans' gfr (fun q hq => .inr (h.row.2 q hq))
set_option maxHeartbeats 2000000 in
theorem rclose_nil {w : World} {v : Value} {ms : List CM} (hv : RdCs w v ms) :
    Calls Try.prog 61 #[v, .int .i64 0] w (RMvPost1 w v (chs ms) (chs ms) { trap := 8 }) := by
  obtain ⟨A, c0, rfl, hmx, hrow, _⟩ := hv.form
  have T1 := hid (heap_alloc_new w (.cells #[Value.bool false, Value.int IntKind.i64 0, Value.bool false, Value.int IntKind.i64 0, Value.slice none 0 0] 32))
  have F1 := hid ((Fr.refl (S := E0) (w := w)).alloc (.cells #[Value.bool false, Value.int IntKind.i64 0, Value.bool false, Value.int IntKind.i64 0, Value.slice none 0 0] 32))
  clear hv hrow
  go_enter Try.func61, Try.ntmps61
  go_wp2_with fail
  exact fin61 (m := { trap := 8 }) rfl rfl rfl (heap_alloc_new w _) ⟨_, _, rfl, .inl ⟨rfl, rfl⟩, RowF.nil, Fr.refl.alloc _⟩
set_option maxHeartbeats 2000000 in
theorem rclose_out {w : World} {v : Value} {ms : List CM} (hv : RdCs w v ms) (ch : Int) (hz : ch ≠ 0) (hi : isB (chs ms) ch = false) :
    Calls Try.prog 61 #[v, .int .i64 ch] w (RMvPost1 w v (chs ms) (chs ms) { trap := 4 }) := by
  obtain ⟨A, c0, rfl, hmx, hrow, _⟩ := hv.form
  have T1 := hid (heap_alloc_new w (.cells #[Value.bool false, Value.int IntKind.i64 0, Value.bool false, Value.int IntKind.i64 0, Value.slice none 0 0] 32))
  have F1 := hid ((Fr.refl (S := E0) (w := w)).alloc (.cells #[Value.bool false, Value.int IntKind.i64 0, Value.bool false, Value.int IntKind.i64 0, Value.slice none 0 0] 32))
  have HI := hid hi
  have hb : ((ch == 0) : Bool) = false := by simpa using hz
  clear hv hrow hi hz
  go_enter Try.func61, Try.ntmps61
  go_wp2_with fail
  refine (is2_ok hmx ch).mono ?_
  rw [HI.out]
  rintro e w' ⟨rfl, rfl⟩
  generalize w.alloc _ = W at *
  obtain ⟨⟨b0, b1, b2, b3, b4⟩, z0, z1, z2, z3, z4⟩ := blk5 T1.out
  go_wp2_with fail
  exact fin61 (m := { trap := 4 }) rfl rfl rfl (set5_heap T1.out _ _ _ _ _) ⟨_, _, rfl, .inl ⟨rfl, rfl⟩, RowF.nil, fr_new5 F1.out (Nat.le_refl _) _ _ _ _ _⟩
set_option maxHeartbeats 2000000 in
theorem rclose_closed {w : World} {v : Value} {ms : List CM} (hv : RdCs w v ms) {k : Nat} {cap : Int} {vals : List Int} {snd rcv : List Wt} (hn : ms.length ≤ 1024) (hk : (chs ms)[k]? = some ⟨cap, vals, snd, rcv, true⟩) :
    Calls Try.prog 61 #[v, .int .i64 ((k : Int) + 1)] w (RMvPost1 w v (chs ms) (chs ms) { trap := 7 }) := by
  obtain ⟨A, c0, rfl, hmx, hrow, _⟩ := hv.form
  have T1 := hid (heap_alloc_new w (.cells #[Value.bool false, Value.int IntKind.i64 0, Value.bool false, Value.int IntKind.i64 0, Value.slice none 0 0] 32))
  have F1 := hid ((Fr.refl (S := E0) (w := w)).alloc (.cells #[Value.bool false, Value.int IntKind.i64 0, Value.bool false, Value.int IntKind.i64 0, Value.slice none 0 0] 32))
  have HI := hid (show isB (chs ms) ((k : Int) + 1) = true by unfold isB; rw [getC_in hk]; rfl)
  have hb : (((k : Int) + 1 == 0) : Bool) = false := by simp; omega
  unfold chs at hk
  rw [List.getElem?_map] at hk
  obtain ⟨m, hm, hmc⟩ := Option.map_eq_some_iff.1 hk
  obtain ⟨b, o, rfl, r⟩ := hrow.cmAt hm
  have r2 := r.fr ((Fr.refl (S := E0)).alloc (.cells #[Value.bool false, Value.int IntKind.i64 0, Value.bool false, Value.int IntKind.i64 0, Value.slice none 0 0] 32)) (fun x => x)
  obtain ⟨_, _, _, _, c4⟩ := r2.cm hm
  have c4' : (w.alloc (.cells #[Value.bool false, Value.int IntKind.i64 0, Value.bool false, Value.int IntKind.i64 0, Value.slice none 0 0] 32)).cell? ⟨b, o + k * 5 + 4, none⟩ = some (.bool true) := by rw [c4, hmc]
  have hlt := lt_of_get hm
  have hkb : k < 1024 := by omega
  have hb4 := World.block_lt_of_cell? w _ (r.cm hm).2.2.2.2
  have c4w : w.cell? ⟨b, o + k * 5 + 4, none⟩ = some (.bool true) := by rw [(r.cm hm).2.2.2.2, hmc]
  have hmx' := hmx
  unfold maxLen at hmx'
  clear hv hrow hk hm r r2 c4 hmc c4'
  go_enter Try.func61, Try.ntmps61
  go_wp2_with fail
  refine (is2_ok hmx _).mono ?_
  rw [HI.out]
  rintro e w' ⟨rfl, rfl⟩
  generalize w.alloc _ = W at *
  obtain ⟨⟨b0, b1, b2, b3, b4⟩, z0, z1, z2, z3, z4⟩ := blk5 T1.out
  have c4x := F1.out.cell c4w (fun x => x)
  go_wp2_with fail
  exact fin61 (m := { trap := 7 }) rfl rfl rfl (set5_heap T1.out _ _ _ _ _) ⟨_, _, rfl, .inl ⟨rfl, rfl⟩, RowF.nil, fr_new5 F1.out (Nat.le_refl _) _ _ _ _ _⟩
set_option maxRecDepth 8000 in
set_option maxHeartbeats 16000000 in
theorem rclose_go {w : World} {v : Value} {ms : List CM} (hv : RdCs w v ms) (hn : ms.length ≤ 1024) (hbig : ∀ c ∈ chs ms, BigC c) {k : Nat} {cap : Int} {vals : List Int} {snd rcv : List Wt} (hk : (chs ms)[k]? = some ⟨cap, vals, snd, rcv, false⟩)
    (l0 : List Ch) (hl0 : l0 = (chs ms).set k ⟨cap, vals, snd, rcv, true⟩) (la : List Ch) (ka : List Wk) (hla : wakeR l0 k [] = (la, ka)) (lb : List Ch) (kb : List Wk) (hlb : wakeS la k ka = (lb, kb)) :
    Calls Try.prog 61 #[v, .int .i64 ((k : Int) + 1)] w (RMvPost1 w v (chs ms) lb { woken := kb }) := by
  have HV := hid hv
  have HBG := hid hbig
  have HL0 := hid hl0
  have HLA := hid hla
  have HLB := hid hlb
  obtain ⟨A, c0, rfl, hmx, hrow, _⟩ := hv.form
  have HI := hid (show isB (chs ms) ((k : Int) + 1) = true by unfold isB; rw [getC_in hk]; rfl)
  have hb : (((k : Int) + 1 == 0) : Bool) = false := by simp; omega
  have HK := hid hk
  unfold chs at hk
  rw [List.getElem?_map] at hk
  obtain ⟨m, hm, hmc⟩ := Option.map_eq_some_iff.1 hk
  obtain ⟨b, o, rfl, r⟩ := hrow.cmAt hm
  have hlt := lt_of_get hm
  have hkb : k < 1024 := by omega
  have hb4 := World.block_lt_of_cell? w _ (r.cm hm).2.2.2.2
  have c4w : w.cell? ⟨b, o + k * 5 + 4, none⟩ = some (.bool false) := by rw [(r.cm hm).2.2.2.2, hmc]
  have hmx' := hmx
  unfold maxLen at hmx'
  clear hv hbig hrow hk hm r hmc hl0 hla hlb
  obtain ⟨i0, hi0, hz0, hz1, hz2⟩ := info_parts info39
  go_enter Try.func61, Try.ntmps61
  go_wp2_with fail
  have T1 := hid (heap_alloc_new w (.cells #[Value.bool false, Value.int IntKind.i64 0, Value.bool false, Value.int IntKind.i64 0, Value.slice none 0 0] 32))
  have F1 := hid ((Fr.refl (S := E0) (w := w)).alloc (.cells #[Value.bool false, Value.int IntKind.i64 0, Value.bool false, Value.int IntKind.i64 0, Value.slice none 0 0] 32))
  refine (is2_ok hmx _).mono ?_
  rw [HI.out]
  rintro e w' ⟨rfl, rfl⟩
  go_wp2_with fail
  generalize w.alloc _ = W at *
  refine (copy_ok ms _ W (HV.out.fr F1.out) (by omega) (fun m hm => HBG.out _ (List.mem_map.2 ⟨m, hm, rfl⟩))).mono ?_
  rintro e w2 ⟨ov, ms2, rfl, hc2, ho2, hf2⟩
  have F2 := hid (F1.out.trans hf2)
  have T2 := hid (hf2.heapAt T1.out (fun x => x))
  have O2 := hid (ho2.mono (F' := New w) (fun q hq => Nat.le_trans F1.out.size hq))
  have C2 := hid hc2
  have hlen2 : ms2.length = ms.length := by rw [← chs_len, hc2, chs_len]
  obtain ⟨m2, hk2, hm2⟩ : ∃ m2, ms2[k]? = some m2 ∧ m2.ch = ⟨cap, vals, snd, rcv, false⟩ := by
    have h1 : (chs ms2)[k]? = some ⟨cap, vals, snd, rcv, false⟩ := by rw [hc2]; exact HK.out
    unfold chs at h1
    rw [List.getElem?_map] at h1
    exact Option.map_eq_some_iff.1 h1
  have HK2 := hid hk2
  have hlt2 := lt_of_get hk2
  obtain ⟨L, cp, hov, hFL, hLl, _, _, _, _, c4, hfz⟩ := O2.out.at hk2
  subst hov
  have hf4 := hfz (k * 5 + 4)
  have hne : ¬ L = w.heap.size := ne32 O2.out.row T2.out
  have hne2 : ¬ w.heap.size = L := fun e => hne e.symm
  rw [hm2] at c4
  have HM2 := hid hm2
  clear hc2 ho2 hf2 hk2 hfz hm2 c4w hlen2
  go_wp2_with fail
  have O3 := hid (O2.out.putC HK2.out)
  have F3 := hid (F2.out.setCell (p := ⟨L, k * 5 + 4, none⟩) (.bool true) (.inr hFL))
  have T3 := hid (show (w2.setCell ⟨L, k * 5 + 4, none⟩ (.bool true)).heap[w.heap.size]? = _ from (heap_setCell_other _ _ _ _ hne2).trans T2.out)
  have HCH := hid (show chs (ms2.set k (CM.setC m2)) = l0 by rw [chs_set, C2.out, HL0.out]; simp only [CM.setC, HM2.out])
  have S3 := hid (show (w2.setCell ⟨L, k * 5 + 4, none⟩ (.bool true)).heap.size = w2.heap.size by simp)
  generalize w2.setCell ⟨L, k * 5 + 4, none⟩ (.bool true) = w3 at *
  have FA := hid ((Fr.refl (S := E0) (w := w3)).alloc (.cells #[Value.bool false, Value.int IntKind.i64 0, Value.bool false, Value.int IntKind.i64 0, Value.slice none 0 0] 32))
  have M4 := hid (heap_alloc_new w3 (.cells #[Value.bool false, Value.int IntKind.i64 0, Value.bool false, Value.int IntKind.i64 0, Value.slice none 0 0] 32))
  obtain ⟨M, hM⟩ : ∃ M, M = w2.heap.size := ⟨_, rfl⟩
  have hMw : w.heap.size ≤ M := by have := F2.out.size; omega
  have hRM : ¬ w.heap.size = M := by have h1 := heap_lt T2.out; omega
  have hMR : ¬ M = w.heap.size := fun e => hRM e.symm
  rw [S3.out, ← hM] at M4
  rw [← hM]
  obtain ⟨n0, hn0⟩ : ∃ n0, n0 = rcv.length + snd.length := ⟨_, rfl⟩
  have hn0b : n0 ≤ 8388608 := by obtain ⟨_, h2, h3⟩ := HBG.out _ (List.mem_of_getElem? HK.out); simp only at h2 h3; omega
  have RL0 := hid (show RClose w (w3.alloc _) k M w.heap.size n0 l0 [] (.slice (some ⟨L, 0, none⟩) ms2.length cp) (.slice none 0 0) ⟨cap, vals, snd, rcv, true⟩ from
    ⟨⟨_, O3.out.fr FA.out (fun _ _ x => x), HCH.out⟩, by rw [HL0.out, List.length_set, chs_len]; exact hn, by
      intro q hq
      rw [HL0.out] at hq
      rcases List.mem_or_eq_of_mem_set hq with hq | rfl
      · exact HBG.out q hq
      · have hbc := HBG.out _ (List.mem_of_getElem? HK.out)
        exact ⟨hbc.1, hbc.2.1, hbc.2.2⟩, by rw [HL0.out]; exact List.getElem?_set_self (lt_of_get HK.out), by rw [hn0]; simp, M4.out, FA.out.heapAt T3.out (fun x => x), RowF.nil, F3.out.trans FA.out⟩)
  clear hn0 hM c4 hf4 hne hne2 hlt2
  generalize w3.alloc _ = w4 at *
  go_loopw [6] (fun ov wr => ∃ (l : List Ch) (acc : List Wk) (wv : Value) (c : Ch), RClose w wr k M w.heap.size n0 l acc ov wv c ∧ wakeR l k acc = wakeR l0 k []) (fun ov wr => rlenV ov wr k 3)
  case atStart => exact ⟨l0, [], _, _, RL0.out, rfl⟩
  case round =>
    obtain ⟨l, acc, wv, c, hrel, hwk⟩ := hrel
    have HR := hid hrel
    have HW := hid hwk
    have hlen3 := rlenV_rcv hrel
    have HLEN := hid hlen3
    clear hrel hwk hlen3
    obtain ⟨ms', hch, hms⟩ := HR.out.ch
    have HC := hid hch
    have HMS := hid hms
    obtain ⟨m', hm', hmc⟩ : ∃ m', ms'[k]? = some m' ∧ m'.ch = c := by
      have := HR.out.at'
      rw [← hms] at this; unfold chs at this
      rw [List.getElem?_map] at this
      exact Option.map_eq_some_iff.1 this
    subst hmc
    have hml : ms'.length ≤ 1024 := by have := HR.out.len; rw [← hms, chs_len] at this; exact this
    have hkl := lt_of_get hm'
    obtain ⟨hbv, hbs, hbr⟩ : m'.ch.vals.length ≤ 4194304 ∧ m'.ch.snd.length ≤ 4194304 ∧ m'.ch.rcv.length ≤ 4194304 := HR.out.big _ (List.mem_of_getElem? HR.out.at')
    obtain ⟨L, cp, rfl, _, hLl, _, _, c2, c3, _, _⟩ := hch.at hm'
    have O1 := hid (HC.out.each m' (List.mem_of_getElem? hm'))
    obtain ⟨⟨_, _, _, _, i4⟩, _, _, _, _, q4⟩ := blk5 HR.out.cell
    clear hch hms hm'
    have hkb : k < 1024 := by omega
    cases hr : m'.ch.rcv with
    | nil =>
      obtain ⟨A, cc, e, _⟩ := O1.out.rcv.read (by decide) (wts_len _)
      rw [e, hr] at c3
      have HRR := hid hr
      clear hr e c2
      have RL1 := hid HR.out
      have e1 := HW.out.trans HLA.out
      rw [wakeR_nil acc HR.out.at' HRR.out] at e1
      cases e1
      go_wp2_with fail
      clear i4 q4 hml HC HMS O1 HRR HW HR HLEN c3 hbv hbs hbr hkl hLl
      go_loopw [6] (fun ov wr => ∃ (l : List Ch) (acc : List Wk) (wv : Value) (c : Ch), RClose w wr k M w.heap.size n0 l acc ov wv c ∧ wakeS l k acc = wakeS la k ka) (fun ov wr => rlenV ov wr k 2)
      case atStart => exact ⟨la, ka, _, _, RL1.out, rfl⟩
      case round =>
        obtain ⟨l, acc, wv, c, hrel, hwk⟩ := hrel
        have HR := hid hrel
        have HW := hid hwk
        have hlen3 := rlenV_rcv hrel
        have HLEN := hid hlen3
        clear hrel hwk hlen3
        obtain ⟨ms', hch, hms⟩ := HR.out.ch
        have HC := hid hch
        have HMS := hid hms
        obtain ⟨m', hm', hmc⟩ : ∃ m', ms'[k]? = some m' ∧ m'.ch = c := by
          have := HR.out.at'
          rw [← hms] at this; unfold chs at this
          rw [List.getElem?_map] at this
          exact Option.map_eq_some_iff.1 this
        subst hmc
        have hml : ms'.length ≤ 1024 := by have := HR.out.len; rw [← hms, chs_len] at this; exact this
        have hkl := lt_of_get hm'
        obtain ⟨hbv, hbs, hbr⟩ : m'.ch.vals.length ≤ 4194304 ∧ m'.ch.snd.length ≤ 4194304 ∧ m'.ch.rcv.length ≤ 4194304 := HR.out.big _ (List.mem_of_getElem? HR.out.at')
        obtain ⟨L, cp, rfl, _, hLl, _, _, c2, c3, _, _⟩ := hch.at hm'
        have O1 := hid (HC.out.each m' (List.mem_of_getElem? hm'))
        obtain ⟨⟨_, _, _, _, i4⟩, _, _, _, _, q4⟩ := blk5 HR.out.cell
        clear hch hms hm'
        have hkb : k < 1024 := by omega
        cases hr : m'.ch.snd with
        | nil =>
          obtain ⟨A, cc, e, _⟩ := O1.out.snd.read (by decide) (wts_len _)
          rw [e, hr] at c2
          have HRR := hid hr
          clear hr e c3
          have e1 := HW.out.trans HLB.out
          rw [wakeS_nil acc HR.out.at' HRR.out] at e1
          cases e1
          obtain ⟨Aw, nw, cw, rfl⟩ := HR.out.row.shape
          obtain ⟨⟨i0', i1, i2, i3, i4⟩, _⟩ := blk5 HR.out.cell
          obtain ⟨⟨b0, b1, b2, b3, b4⟩, z0, z1, z2, z3, z4⟩ := blk5 HR.out.res
          have hMl := heap_lt HR.out.cell
          have hRl := heap_lt HR.out.res
          go_wp2_with fail
          go_region
          all_goals
            go_wp2_with fail
            exact fin61 (m := { woken := kb }) rfl rfl rfl ((Fr.refl (S := E0)).drew.heapAt (set5_heap HR.out.res _ _ _ _ _) (fun x => x)) ⟨_, _, rfl, .inr ⟨_, HMS.out, (HC.out.set5 HR.out.res _ _ _ _ _).fr (Fr.refl (S := E0)).drew (fun _ _ x => x)⟩, (HR.out.row.off5 HR.out.res (by decide)).drew, (fr_new5 HR.out.fr (Nat.le_refl _) _ _ _ _ _).drew⟩
        | cons x r =>
          rw [hr] at hbs
          have HRR := hid hr
          rcases O1.out.snd.form (n := r.length + 1) (by decide) (by rw [wts_len, hr]; rfl) with ⟨_, h0, _⟩ | ⟨br, p3, hv3, _, hb3, hn3, _, hr3, _⟩
          · omega
          rw [hv3] at c2
          rw [hr] at hr3
          obtain ⟨d0, d1, d2, d3⟩ := hr3.wt (k := 0) (x := x) rfl
          simp only [Nat.zero_add, Nat.zero_mul] at d0 d1 d2 d3
          have hrp : (0 : Int) < (r.length : Int) + 1 := by omega
          have hbr' : r.length ≤ 4194304 := by simp at hbs; omega
          clear hr hr3 hv3 c3
          go_wp2_with fail
          have AX := hid (heap_alloc_new wr (.cells #[.int .i64 x.s, .int .i64 x.g, .int .i64 x.c, .int .i64 x.v] 114))
          have FX := hid ((Fr.refl (S := E0) (w := wr)).alloc (.cells #[.int .i64 x.s, .int .i64 x.g, .int .i64 x.c, .int .i64 x.v] 114))
          have KX : Hid (wr.alloc (.cells #[.int .i64 x.s, .int .i64 x.g, .int .i64 x.c, .int .i64 x.v] 114) = wr.alloc (.cells #[.int .i64 x.s, .int .i64 x.g, .int .i64 x.c, .int .i64 x.v] 114)) := hid rfl
          refine (leave2_ok ms' _ x.s x.g _ (HC.out.rd.fr FX.out) (by omega) (by rw [HMS.out]; exact HR.out.big)).mono ?_
          rintro e w5 ⟨v5, ms5, rfl, hc5, ho5, hf5⟩
          rw [HMS.out] at hc5
          obtain ⟨A5, n5, c5, rfl⟩ := ho5.row.shape
          obtain ⟨x0, x1, x2, x3⟩ := cell4 (hf5.heapAt AX.out (fun x => x))
          have hXl := heap_lt (hf5.heapAt AX.out (fun x => x))
          have f5 := hid ((FX.out.trans hf5).alloc (.cells #[.int .i64 x.s, .int .i64 x.g, .int .i64 x.c, .int .i64 0, .bool false, .int .i64 6] 39))
          have M5 := hid ((FX.out.trans hf5).heapAt HR.out.cell (fun x => x))
          obtain ⟨⟨_, _, _, _, j4⟩, _, _, _, _, k4⟩ := blk5 M5.out
          have hMl := heap_lt M5.out
          have H5 := hid (And.intro hc5 (And.intro ho5 hf5))
          have ROW6 := hid (HR.out.row.fr f5.out (fun _ _ x => x))
          have hroom := HR.out.room
          rw [HRR.out] at hroom
          have HM1 := hid (show acc.length + 1 ≤ maxLen by unfold maxLen; simp at hroom; omega)
          have HM2 := hid (show (acc.length + 1) * 48 ≤ 140737488355328 by simp at hroom; omega)
          have HROOM := hid (show (acc.length + 1) + (leaveCh x.s x.g m'.ch).rcv.length + (leaveCh x.s x.g m'.ch).snd.length ≤ n0 by
            have h1 := HR.out.room
            have a := wout_le x.s x.g m'.ch.snd
            have b := wout_le x.s x.g m'.ch.rcv
            have e := rlen_lt HRR.out
            simp only [leaveCh]
            omega)
          obtain ⟨WA, wc, ew, _⟩ := HR.out.row.read (by decide) (wks_len _)
          have EW := hid ew
          rw [ew] at j4
          clear hc5 ho5 hf5 i4 q4 c2 d0 d1 d2 d3 hroom ew
          simp only [tup2]
          go_wp2_with (at_builtin; (refine wpList_append_lies _ rfl (.tmp 93) (.tmp 99) 30 rfl 0 39 i0 (.agg #[.int .i64 0, .int .i64 0, .int .i64 0, .int .i64 0, .bool false, .int .i64 0]) 6 48 Try.underlying30 hi0 hz0 hz1 hz2 rfl (by decide) (.slice WA acc.length wc) acc.length (wks acc) rfl (by rw [← EW.out]; exact ROW6.out.own (by decide) (wks_len _)) ⟨w5.heap.size, 0, none⟩ 1 1 [.int .i64 x.s, .int .i64 x.g, .int .i64 x.c, .int .i64 0, .bool false, .int .i64 6] rfl rfl (World.news_of_block (heap_alloc_new w5 _)) (by simp [Value.oneCell']) (by decide) HM1.out HM2.out (Nat.zero_le _) (w5.heap.size + 1) (by simp) ?_); intro gb cap7 w7 hown7 hgrow7 hat7 hlt7; have M7 := hid (keepT (f5.out.heapAt HR.out.cell (fun x => x)) ROW6.out (by decide) (by rw [EW.out]; exact hgrow7)); have y4 : w7.cell? ⟨M, 4, none⟩ = some wv := cell_of_row w7 _ 4 _ _ _ M7.out; have y5 := frozen_of_row w7 _ 4 _ _ M7.out; have H7 := hid (And.intro hown7 (And.intro hgrow7 hat7)); clear hown7 hgrow7 hat7)
          have STEP := hid (rclose_step (y := ⟨x.s, x.g, x.c, 0, false, 6⟩) HR.out _ H5.out.1 H5.out.2.1 H5.out.2.2 _ H7.out.1 (by rw [EW.out]; exact H7.out.2.1) (by rw [EW.out]; have := H7.out.2.2; simpa using this) HROOM.out hRM hMw)
          have WK := hid (wakeS_cons acc HR.out.at' HRR.out)
          go_roundw
          case rel => exact ⟨_, _, _, _, STEP.out, by rw [← WK.out]; exact HW.out⟩
          case measure =>
            have h1 := rlenV_rcv STEP.out
            have h2 := HLEN.out
            rw [h1.2, h2.2]
            exact rlen_lt HRR.out

    | cons x r =>
      rw [hr] at hbr
      have HRR := hid hr
      rcases O1.out.rcv.form (n := r.length + 1) (by decide) (by rw [wts_len, hr]; rfl) with ⟨_, h0, _⟩ | ⟨br, p3, hv3, _, hb3, hn3, _, hr3, _⟩
      · omega
      rw [hv3] at c3
      rw [hr] at hr3
      obtain ⟨d0, d1, d2, d3⟩ := hr3.wt (k := 0) (x := x) rfl
      simp only [Nat.zero_add, Nat.zero_mul] at d0 d1 d2 d3
      have hrp : (0 : Int) < (r.length : Int) + 1 := by omega
      have hbr' : r.length ≤ 4194304 := by simp at hbr; omega
      clear hr hr3 hv3 c2
      go_wp2_with fail
      have AX := hid (heap_alloc_new wr (.cells #[.int .i64 x.s, .int .i64 x.g, .int .i64 x.c, .int .i64 x.v] 114))
      have FX := hid ((Fr.refl (S := E0) (w := wr)).alloc (.cells #[.int .i64 x.s, .int .i64 x.g, .int .i64 x.c, .int .i64 x.v] 114))
      have KX : Hid (wr.alloc (.cells #[.int .i64 x.s, .int .i64 x.g, .int .i64 x.c, .int .i64 x.v] 114) = wr.alloc (.cells #[.int .i64 x.s, .int .i64 x.g, .int .i64 x.c, .int .i64 x.v] 114)) := hid rfl
      refine (leave2_ok ms' _ x.s x.g _ (HC.out.rd.fr FX.out) (by omega) (by rw [HMS.out]; exact HR.out.big)).mono ?_
      rintro e w5 ⟨v5, ms5, rfl, hc5, ho5, hf5⟩
      rw [HMS.out] at hc5
      obtain ⟨A5, n5, c5, rfl⟩ := ho5.row.shape
      obtain ⟨x0, x1, x2, x3⟩ := cell4 (hf5.heapAt AX.out (fun x => x))
      have hXl := heap_lt (hf5.heapAt AX.out (fun x => x))
      have f5 := hid ((FX.out.trans hf5).alloc (.cells #[.int .i64 x.s, .int .i64 x.g, .int .i64 x.c, .int .i64 0, .bool false, .int .i64 0] 39))
      have M5 := hid ((FX.out.trans hf5).heapAt HR.out.cell (fun x => x))
      obtain ⟨⟨_, _, _, _, j4⟩, _, _, _, _, k4⟩ := blk5 M5.out
      have hMl := heap_lt M5.out
      have H5 := hid (And.intro hc5 (And.intro ho5 hf5))
      have ROW6 := hid (HR.out.row.fr f5.out (fun _ _ x => x))
      have hroom := HR.out.room
      rw [HRR.out] at hroom
      have HM1 := hid (show acc.length + 1 ≤ maxLen by unfold maxLen; simp at hroom; omega)
      have HM2 := hid (show (acc.length + 1) * 48 ≤ 140737488355328 by simp at hroom; omega)
      have HROOM := hid (show (acc.length + 1) + (leaveCh x.s x.g m'.ch).rcv.length + (leaveCh x.s x.g m'.ch).snd.length ≤ n0 by
        have h1 := HR.out.room
        have a := wout_le x.s x.g m'.ch.snd
        have b := wout_le x.s x.g m'.ch.rcv
        have e := rlen_lt HRR.out
        simp only [leaveCh]
        omega)
      obtain ⟨WA, wc, ew, _⟩ := HR.out.row.read (by decide) (wks_len _)
      have EW := hid ew
      rw [ew] at j4
      clear hc5 ho5 hf5 i4 q4 c3 d0 d1 d2 d3 hroom ew
      simp only [tup2]
      go_wp2_with (at_builtin; (refine wpList_append_lies _ rfl (.tmp 60) (.tmp 66) 30 rfl 0 39 i0 (.agg #[.int .i64 0, .int .i64 0, .int .i64 0, .int .i64 0, .bool false, .int .i64 0]) 6 48 Try.underlying30 hi0 hz0 hz1 hz2 rfl (by decide) (.slice WA acc.length wc) acc.length (wks acc) rfl (by rw [← EW.out]; exact ROW6.out.own (by decide) (wks_len _)) ⟨w5.heap.size, 0, none⟩ 1 1 [.int .i64 x.s, .int .i64 x.g, .int .i64 x.c, .int .i64 0, .bool false, .int .i64 0] rfl rfl (World.news_of_block (heap_alloc_new w5 _)) (by simp [Value.oneCell']) (by decide) HM1.out HM2.out (Nat.zero_le _) (w5.heap.size + 1) (by simp) ?_); intro gb cap7 w7 hown7 hgrow7 hat7 hlt7; have M7 := hid (keepT (f5.out.heapAt HR.out.cell (fun x => x)) ROW6.out (by decide) (by rw [EW.out]; exact hgrow7)); have y4 : w7.cell? ⟨M, 4, none⟩ = some wv := cell_of_row w7 _ 4 _ _ _ M7.out; have y5 := frozen_of_row w7 _ 4 _ _ M7.out; have H7 := hid (And.intro hown7 (And.intro hgrow7 hat7)); clear hown7 hgrow7 hat7)
      have STEP := hid (rclose_step (y := ⟨x.s, x.g, x.c, 0, false, 0⟩) HR.out _ H5.out.1 H5.out.2.1 H5.out.2.2 _ H7.out.1 (by rw [EW.out]; exact H7.out.2.1) (by rw [EW.out]; have := H7.out.2.2; simpa using this) HROOM.out hRM hMw)
      have WK := hid (wakeR_cons acc HR.out.at' HRR.out)
      go_roundw
      case rel => exact ⟨_, _, _, _, STEP.out, by rw [← WK.out]; exact HW.out⟩
      case measure =>
        have h1 := rlenV_rcv STEP.out
        have h2 := HLEN.out
        rw [h1.1, h2.1]
        exact rlen_lt HRR.out

end Go.Proofs.Yteffmnohgnmanaa

/- rotaref11: sameWaiters, Same, SameMoved, where they answer true. -/
namespace Go.Proofs.Yteffmnohgnmanaa
open Go.RowKit
set_option linter.unusedVariables false
attribute [local go_sem ↓] Go.wp_at_zero Go.wp_at_succ
set_option maxRecDepth 8000 in
set_option maxHeartbeats 4000000 in
theorem same_wts (l : List Wt) (v1 v2 : Value) (w : World) (h1 : RdV w v1 4 (wts l)) (h2 : RdV w v2 4 (wts l)) : Calls Try.prog 78 #[v1, v2] w (Ret (.bool true) E0 w) := by
  obtain ⟨A1, n, c1, rfl, hl1, hc1, hm1, r1⟩ := h1
  obtain ⟨A2, n2, c2, rfl, hl2, _, _, r2⟩ := h2
  have hl1' : l.length = n := by rw [wts_len] at hl1; omega
  obtain rfl : n = n2 := by rw [wts_len] at hl2; omega
  have HL := hid hl1'
  have R1 := hid r1
  have R2 := hid r2
  have hn := Nat.le_trans hc1 hm1
  unfold maxLen at hn
  clear hl1 hl2 r1 r2 hl1'
  go_enter Try.func78, Try.ntmps78
  go_wp2_with fail
  go_loopw [5] (fun i wr => ∃ k : Nat, i = .int .i64 k ∧ k ≤ n ∧ Fr E0 w wr) (fun i _ => n - (intOf i).toNat)
  case atStart => exact ⟨0, rfl, Nat.zero_le _, Fr.refl⟩
  case round =>
    obtain ⟨k, rfl, hk, hf⟩ := hrel
    have HF := hid hf
    clear hf
    by_cases hlt : k < n
    · obtain ⟨x, hx⟩ : ∃ x, l[k]? = some x := ⟨l[k]'(by have := HL.out; omega), List.getElem?_eq_getElem _⟩
      obtain ⟨b1, o1, rfl, q1⟩ := R1.out.wtAt hx
      obtain ⟨b2, o2, rfl, q2⟩ := R2.out.wtAt hx
      obtain ⟨d0, d1, d2, d3⟩ := (q1.fr HF.out (fun x => x)).wt hx
      obtain ⟨e0, e1, e2, e3⟩ := (q2.fr HF.out (fun x => x)).wt hx
      clear q1 q2 hx
      go_wp2_with (go_quiet (fail))
      all_goals
        go_roundw
        case rel => exact ⟨k + 1, by simp, by omega, HF.out.drewN nq⟩
        case measure => simp [intOf]; omega
    · obtain rfl : k = n := by omega
      go_wp2_with fail
      go_ret
      exact ⟨rfl, HF.out⟩
theorem RdA.wkAt {w : World} {A : Option Addr} {l : List Wk} {k : Nat} {x : Wk} (h : RdA w A (wks l)) (hx : l[k]? = some x) : ∃ b o, A = some ⟨b, o, none⟩ ∧ RdL w b o (wks l) := by
  rcases h with h | h
  · have h2 := congrArg List.length h
    have h3 := lt_of_get hx
    rw [wks_len] at h2
    have h4 : l.length * 6 = 0 := h2
    omega
  · exact h
theorem RdL.wk {w : World} {b o k : Nat} {l : List Wk} {x : Wk} (h : RdL w b o (wks l)) (hx : l[k]? = some x) :
    w.cell? ⟨b, o + k * 6, none⟩ = some (.int .i64 x.s) ∧ w.cell? ⟨b, o + k * 6 + 1, none⟩ = some (.int .i64 x.g) ∧ w.cell? ⟨b, o + k * 6 + 2, none⟩ = some (.int .i64 x.c) ∧ w.cell? ⟨b, o + k * 6 + 3, none⟩ = some (.int .i64 x.v) ∧ w.cell? ⟨b, o + k * 6 + 4, none⟩ = some (.bool x.ok) ∧ w.cell? ⟨b, o + k * 6 + 5, none⟩ = some (.int .i64 x.trap) := by
  have hg : ∀ j (u : Value), x.cells[j]? = some u → j < 6 → w.cell? ⟨b, o + (k * 6 + j), none⟩ = some u := fun j u hu hj => h _ _ ((flat_get (f := Wk.cells) (sz := 6) (fun _ => rfl) l k j x hx hj).trans hu)
  refine ⟨hg 0 _ rfl (by omega), ?_, ?_, ?_, ?_, ?_⟩
  · rw [Nat.add_assoc]; exact hg 1 _ rfl (by omega)
  · rw [Nat.add_assoc]; exact hg 2 _ rfl (by omega)
  · rw [Nat.add_assoc]; exact hg 3 _ rfl (by omega)
  · rw [Nat.add_assoc]; exact hg 4 _ rfl (by omega)
  · rw [Nat.add_assoc]; exact hg 5 _ rfl (by omega)
set_option maxRecDepth 8000 in
set_option maxHeartbeats 4000000 in
theorem same_mv (m : Mv) (v1 v2 : Value) (w : World) (h1 : RdV w v1 6 (wks m.woken)) (h2 : RdV w v2 6 (wks m.woken)) : Calls Try.prog 51 #[m.val v1, m.val v2] w (Ret (.bool true) E0 w) := by
  obtain ⟨wt, va, ok, tr, l⟩ := m
  obtain ⟨A1, n, c1, rfl, hl1, hc1, hm1, r1⟩ := h1
  obtain ⟨A2, n2, c2, rfl, hl2, _, _, r2⟩ := h2
  simp only at hl1 hl2 r1 r2
  have hl1' : l.length = n := by rw [wks_len] at hl1; omega
  obtain rfl : n = n2 := by rw [wks_len] at hl2; omega
  have HL := hid hl1'
  have hn := Nat.le_trans hc1 hm1
  unfold maxLen at hn
  have G1 := hid (heap_alloc2_old w (.cells #[.bool wt, .int .i64 va, .bool ok, .int .i64 tr, .slice A1 n c1] 32) (.cells #[.bool wt, .int .i64 va, .bool ok, .int .i64 tr, .slice A2 n c2] 32))
  have G2 := hid (heap_alloc2_new w (.cells #[.bool wt, .int .i64 va, .bool ok, .int .i64 tr, .slice A1 n c1] 32) (.cells #[.bool wt, .int .i64 va, .bool ok, .int .i64 tr, .slice A2 n c2] 32))
  have FW := hid (((Fr.refl (S := E0) (w := w)).alloc (.cells #[.bool wt, .int .i64 va, .bool ok, .int .i64 tr, .slice A1 n c1] 32)).alloc (.cells #[.bool wt, .int .i64 va, .bool ok, .int .i64 tr, .slice A2 n c2] 32))
  have R1 := hid (r1.fr FW.out)
  have R2 := hid (r2.fr FW.out)
  clear hl1 hl2 r1 r2 hl1'
  simp only [Mv.val]
  go_enter Try.func51, Try.ntmps51
  go_wp2_with fail
  generalize ((w.alloc _).alloc _) = W at *
  go_loopw [5] (fun i wr => ∃ k : Nat, i = .int .i64 k ∧ k ≤ n ∧ Fr E0 W wr) (fun i _ => n - (intOf i).toNat)
  case atStart => exact ⟨0, rfl, Nat.zero_le _, Fr.refl⟩
  case round =>
    obtain ⟨k, rfl, hk, hf⟩ := hrel
    have HF := hid hf
    obtain ⟨⟨_, _, _, _, a4⟩, _⟩ := blk5 (hf.heapAt G1.out (fun x => x))
    obtain ⟨⟨_, _, _, _, b4⟩, _⟩ := blk5 (hf.heapAt G2.out (fun x => x))
    clear hf
    by_cases hlt : k < n
    · obtain ⟨x, hx⟩ : ∃ x, l[k]? = some x := ⟨l[k]'(by have := HL.out; omega), List.getElem?_eq_getElem _⟩
      obtain ⟨b1, o1, rfl, q1⟩ := R1.out.wkAt hx
      obtain ⟨b2, o2, rfl, q2⟩ := R2.out.wkAt hx
      obtain ⟨d0, d1, d2, d3, d4, d5⟩ := (q1.fr HF.out (fun x => x)).wk hx
      obtain ⟨e0, e1, e2, e3, e4, e5⟩ := (q2.fr HF.out (fun x => x)).wk hx
      clear q1 q2 hx
      go_wp2_with (go_quiet (fail))
      all_goals
        go_roundw
        case rel => exact ⟨k + 1, by simp, by omega, HF.out.drewN nq⟩
        case measure => simp [intOf]; omega
    · obtain rfl : k = n := by omega
      go_wp2_with fail
      go_ret
      exact ⟨rfl, FW.out.trans HF.out⟩
def Cut6 (w wx : World) (m1 m2 : CM) (s6 s7 : Value) : Prop := ∃ B1 B2, s6 = .pointer (some ⟨B1, 0, none⟩) ∧ s7 = .pointer (some ⟨B2, 0, none⟩) ∧
  wx.heap[B1]? = some (.cells #[.int .i64 m1.ch.cap, m1.vv, m1.sv, m1.rv, .bool m1.ch.cl] 67 (0, 0)) ∧ wx.heap[B2]? = some (.cells #[.int .i64 m2.ch.cap, m2.vv, m2.sv, m2.rv, .bool m2.ch.cl] 67 (0, 0)) ∧ Fr E0 w wx
set_option maxRecDepth 8000 in
set_option maxHeartbeats 8000000 in
theorem same_cs (l : List Ch) (ms1 ms2 : List CM) (v1 v2 : Value) (w : World) (h1 : RdCs w v1 ms1) (h2 : RdCs w v2 ms2) (e1 : chs ms1 = l) (e2 : chs ms2 = l) : Calls Try.prog 42 #[v1, v2] w (Ret (.bool true) E0 w) := by
  obtain ⟨A1, c1, rfl, hm1, r1, p1⟩ := h1.form
  obtain ⟨A2, c2, rfl, hm2, r2, p2⟩ := h2.form
  have hl1 : ms1.length = l.length := by rw [← e1, chs_len]
  have hl2 : ms2.length = l.length := by rw [← e2, chs_len]
  rw [hl1] at hm1 ⊢
  rw [hl2]
  unfold maxLen at hm1
  have HL1 := hid hl1
  have HL2 := hid hl2
  have E1 := hid e1
  have E2 := hid e2
  have R1 := hid r1
  have R2 := hid r2
  have P1 := hid p1
  have P2 := hid p2
  clear h1 h2 hm2 hl1 hl2 e1 e2 r1 r2 p1 p2
  go_enter Try.func42, Try.ntmps42
  go_wp2_with fail
  go_loopw [5] (fun i wr => ∃ k : Nat, i = .int .i64 k ∧ k ≤ l.length ∧ Fr E0 w wr) (fun i _ => l.length - (intOf i).toNat)
  case atStart => exact ⟨0, rfl, Nat.zero_le _, Fr.refl⟩
  case round =>
    obtain ⟨k, rfl, hk, hf⟩ := hrel
    have HF := hid hf
    clear hf
    by_cases hlt : k < l.length
    · obtain ⟨m1, x1⟩ : ∃ m1, ms1[k]? = some m1 := ⟨ms1[k]'(by have := HL1.out; omega), List.getElem?_eq_getElem _⟩
      obtain ⟨m2, x2⟩ : ∃ m2, ms2[k]? = some m2 := ⟨ms2[k]'(by have := HL2.out; omega), List.getElem?_eq_getElem _⟩
      have hch : m1.ch = m2.ch := by
        have a := chs_get x1
        have b := chs_get x2
        rw [E1.out] at a
        rw [E2.out] at b
        rw [a] at b
        exact Option.some.inj b
      obtain ⟨b1, o1, rfl, q1⟩ := R1.out.cmAt x1
      obtain ⟨b2, o2, rfl, q2⟩ := R2.out.cmAt x2
      obtain ⟨d0, d1, d2, d3, d4⟩ := (q1.fr HF.out (fun x => x)).cm x1
      obtain ⟨f0, f1, f2, f3, f4⟩ := (q2.fr HF.out (fun x => x)).cm x2
      have M1 := hid ((P1.out m1 (List.mem_of_getElem? x1)).fr HF.out)
      have M2 := hid ((P2.out m2 (List.mem_of_getElem? x2)).fr HF.out)
      have hB1 := World.block_lt_of_cell? wr _ d0
      have hB2 := World.block_lt_of_cell? wr _ f0
      obtain ⟨⟨cap, vals, snd, rcv, cl⟩, vv1, sv1, rv1⟩ := m1
      obtain ⟨ch2, vv2, sv2, rv2⟩ := m2
      simp only at hch
      subst hch
      obtain ⟨VA1, n, vc1, e1, hln, hlc, hlm, hr1⟩ := M1.out.vals
      obtain ⟨SA1, sn1, sc1, e2, _⟩ := M1.out.snd
      obtain ⟨TA1, tn1, tc1, e3, _⟩ := M1.out.rcv
      obtain ⟨VA2, n2, vc2, e4, hln2, _, _, hr2⟩ := M2.out.vals
      obtain ⟨SA2, sn2, sc2, e5, _⟩ := M2.out.snd
      obtain ⟨TA2, tn2, tc2, e6, _⟩ := M2.out.rcv
      simp only at e1 e2 e3 e4 e5 e6 hln hln2 d0 d1 d2 d3 d4 f0 f1 f2 f3 f4 hr1 hr2
      subst e1 e2 e3 e4 e5 e6
      have hln' : vals.length = n := by rw [ints_len] at hln; omega
      obtain rfl : n = n2 := by rw [ints_len] at hln2; omega
      have HLN := hid hln'
      have HR1 := hid hr1
      have HR2 := hid hr2
      have hnm := Nat.le_trans hlc hlm
      unfold maxLen at hnm
      clear hln hln2 hln' hlc hlm hr1 hr2
      have z1 : ((wr.alloc (.cells #[.int .i64 0, .slice none 0 0, .slice none 0 0, .slice none 0 0, .bool false] 67)).alloc (.cells #[.int .i64 0, .slice none 0 0, .slice none 0 0, .slice none 0 0, .bool false] 67)).drew.heap[wr.heap.size]? = some (.cells #[.int .i64 0, .slice none 0 0, .slice none 0 0, .slice none 0 0, .bool false] 67 (0, 0)) := heap_alloc2_old wr _ _
      have z2 : ((wr.alloc (.cells #[.int .i64 0, .slice none 0 0, .slice none 0 0, .slice none 0 0, .bool false] 67)).alloc (.cells #[.int .i64 0, .slice none 0 0, .slice none 0 0, .slice none 0 0, .bool false] 67)).drew.heap[wr.heap.size + 1]? = some (.cells #[.int .i64 0, .slice none 0 0, .slice none 0 0, .slice none 0 0, .bool false] 67 (0, 0)) := heap_alloc2_new wr _ _
      have Z1 := hid z1
      have Z2 := hid z2
      obtain ⟨⟨u0, u1, u2, u3, u4⟩, u5, u6, u7, u8, u9⟩ := blk5 z1
      obtain ⟨⟨t0, t1, t2, t3, t4⟩, t5, t6, t7, t8, t9⟩ := blk5 z2
      have FZ := hid (show Fr E0 wr _ from (((Fr.refl (S := E0) (w := wr)).alloc (.cells #[.int .i64 0, .slice none 0 0, .slice none 0 0, .slice none 0 0, .bool false] 67)).alloc (.cells #[.int .i64 0, .slice none 0 0, .slice none 0 0, .slice none 0 0, .bool false] 67)).drew)
      clear x1 x2 q1 q2 z1 z2
      go_upto_region 6 with fail
      go_cut [6, 7] from 20 to 27 (fun s6 s7 wx => Cut6 wr wx ⟨⟨cap, vals, snd, rcv, cl⟩, .slice VA1 n vc1, .slice SA1 sn1 sc1, .slice TA1 tn1 tc1⟩ ⟨⟨cap, vals, snd, rcv, cl⟩, .slice VA2 n vc2, .slice SA2 sn2 sc2, .slice TA2 tn2 tc2⟩ s6 s7)
      case first =>
        go_region
        all_goals
          go_wp2_with fail
          go_meet
          first
            | exact ⟨_, _, rfl, rfl, heap_alloc2_old wr _ _, heap_alloc2_new wr _ _, ((Fr.refl.alloc _).alloc _).drew⟩
            | exact ⟨_, _, rfl, rfl, heap_alloc2_new wr _ _, heap_alloc2_old wr _ _, ((Fr.refl.alloc _).alloc _).drew⟩
      case rest =>
        obtain ⟨B1, B2, rfl, rfl, g1, g2, fx⟩ := hcut
        have FX := hid fx
        simp only at g1 g2
        have G1 := hid g1
        have G2 := hid g2
        clear u0 u1 u2 u3 u4 u5 u6 u7 u8 u9 t0 t1 t2 t3 t4 t5 t6 t7 t8 t9 Z1 Z2 FZ d0 d1 d2 d3 d4 f0 f1 f2 f3 f4 fx
        obtain ⟨⟨a0, a1, a2, a3, a4⟩, _⟩ := blk5 g1
        obtain ⟨⟨b0, b1, b2, b3, b4⟩, _⟩ := blk5 g2
        clear g1 g2
        go_wp2_with fail
        refine (same_wts snd _ _ wc (M1.out.snd.fr FX.out) (M2.out.snd.fr FX.out)).mono ?_
        rintro e w1 ⟨rfl, hf1⟩
        clear a0 a1 a2 a3 a4 b0 b1 b2 b3 b4
        obtain ⟨⟨a0, a1, a2, a3, a4⟩, _⟩ := blk5 (hf1.heapAt G1.out (fun x => x))
        obtain ⟨⟨b0, b1, b2, b3, b4⟩, _⟩ := blk5 (hf1.heapAt G2.out (fun x => x))
        have F1 := hid hf1
        clear hf1
        go_wp2_with fail
        refine (same_wts rcv _ _ w1 (M1.out.rcv.fr (FX.out.trans F1.out)) (M2.out.rcv.fr (FX.out.trans F1.out))).mono ?_
        rintro e w2 ⟨rfl, hf2⟩
        have F2 := hid (F1.out.trans hf2)
        clear a0 a1 a2 a3 a4 b0 b1 b2 b3 b4 hf2
        go_wp2_with fail
        go_loopw [8] (fun i w3 => ∃ q : Nat, i = .int .i64 q ∧ q ≤ n ∧ Fr E0 wc w3) (fun i _ => n - (intOf i).toNat)
        case atStart => exact ⟨0, rfl, Nat.zero_le _, F2.out⟩
        case round =>
          obtain ⟨q, rfl, hq, hf⟩ := hrel
          have HG := hid hf
          obtain ⟨⟨_, a1, _, _, _⟩, _⟩ := blk5 (hf.heapAt G1.out (fun x => x))
          obtain ⟨⟨_, b1, _, _, _⟩, _⟩ := blk5 (hf.heapAt G2.out (fun x => x))
          clear hf
          by_cases hql : q < n
          · obtain ⟨x, hx⟩ : ∃ x, vals[q]? = some x := ⟨vals[q]'(by have := HLN.out; omega), List.getElem?_eq_getElem _⟩
            obtain ⟨p1, o1', rfl, r1⟩ := HR1.out.at (fun e => by have h9 := congrArg List.length e; rw [ints_len, List.length_nil] at h9; have := HLN.out; omega)
            obtain ⟨p2, o2', rfl, r2⟩ := HR2.out.at (fun e => by have h9 := congrArg List.length e; rw [ints_len, List.length_nil] at h9; have := HLN.out; omega)
            have y1 := r1.fr (FX.out.trans HG.out) (fun x => x) q (.int .i64 x) (by simp only [ints, List.getElem?_map, hx, Option.map_some])
            have y2 := r2.fr (FX.out.trans HG.out) (fun x => x) q (.int .i64 x) (by simp only [ints, List.getElem?_map, hx, Option.map_some])
            clear r1 r2 hx
            go_wp2_with (go_quiet (fail))
            all_goals
              go_roundw
              case rel => exact ⟨q + 1, by simp, by omega, HG.out.drewN nq⟩
              case measure => simp [intOf]; omega
          · obtain rfl : q = n := by omega
            go_wp2_with fail
            go_roundw
            case rel => exact ⟨k + 1, by simp, by omega, (HF.out.trans FX.out).trans HG.out⟩
            case measure => simp [intOf]; omega
    · obtain rfl : k = l.length := by omega
      go_wp2_with fail
      go_ret
      exact ⟨rfl, HF.out⟩
end Go.Proofs.Yteffmnohgnmanaa
/- Program's channels and the document's side by side; one act. -/
namespace Go.Proofs.Yteffmnohgnmanaa
open Go.RowKit
set_option linter.unusedVariables false
/-- The program's channels l at g, in blocks of F; the document's l2 in the slice v, in blocks of G. -/
structure Both (w : World) (F G : Nat → Prop) (g : Nat) (l : List Ch) (v : Value) (l2 : List Ch) : Prop where
  is : IsCh w F g l
  own : ∃ ms, OwnCs w G v ms ∧ chs ms = l2
  glt : ∀ k, G k → k < w.heap.size
  apart : ∀ k, G k → ¬ F k
namespace Both
variable {w w' : World} {F G : Nat → Prop} {g : Nat} {l l2 l' : List Ch} {v v' : Value}
theorem e0 (h : Both w F G g l v l2) (hf : Fr E0 w w') : Both w' F G g l v l2 := by
  obtain ⟨ms, h1, h2⟩ := h.own
  exact ⟨h.is.fr hf (fun _ _ x => x), ⟨ms, h1.fr hf (fun _ _ x => x), h2⟩, fun k hk => Nat.lt_of_lt_of_le (h.glt k hk) hf.size, h.apart⟩
theorem far {S : Nat → Prop} (h : Both w F G g l v l2) (hf : Fr S w w') (h1 : ∀ k, F k → ¬ S k) (h2 : ∀ k, G k → ¬ S k) : Both w' F G g l v l2 := by
  obtain ⟨ms, q1, q2⟩ := h.own
  exact ⟨h.is.fr hf h1, ⟨ms, q1.fr hf h2, q2⟩, fun k hk => Nat.lt_of_lt_of_le (h.glt k hk) hf.size, h.apart⟩
theorem rd (h : Both w F G g l v l2) : ∃ ms, RdCs w v ms ∧ chs ms = l2 := by
  obtain ⟨ms, h1, h2⟩ := h.own
  exact ⟨ms, h1.rd, h2⟩
theorem outR (h : Both w F G g l v l2) (hf : Fr E0 w w') (ho : OutR w w' v l2 l' v') : ∃ G', Both w' F G' g l v' l' ∧ (∀ k, G' k → G k ∨ w.heap.size ≤ k) := by
  rcases ho with ⟨rfl, rfl⟩ | ⟨ms', h1, h2⟩
  · exact ⟨G, h.e0 hf, fun k hk => .inl hk⟩
  · refine ⟨fun k => w.heap.size ≤ k ∧ k < w'.heap.size, ⟨h.is.fr hf (fun _ _ x => x), ⟨ms', h2.restrict.mono (fun k hk => ⟨hk.1, hk.2⟩), h1⟩, fun k hk => hk.2, fun k hk hF => ?_⟩, fun k hk => .inr hk.1⟩
    have := h.is.lt k hF; omega
theorem step (h : Both w F G g l v l2) (hs : Step F g w l' w') : ∃ F', Both w' F' G g l' v l2 ∧ (∀ k, F' k → F k ∨ w.heap.size ≤ k) ∧ Fr F w w' := by
  obtain ⟨F', h1, h2, h3⟩ := hs
  obtain ⟨ms, q1, q2⟩ := h.own
  refine ⟨F', ⟨h1, ⟨ms, q1.fr h3 h.apart, q2⟩, fun k hk => Nat.lt_of_lt_of_le (h.glt k hk) h3.size, fun k hk hF => ?_⟩, h2, h3⟩
  rcases h2 k hF with hx | hx
  · exact h.apart k hk hx
  · have := h.glt k hk; omega
end Both
/-- One act. -/
structure ActD where
  kind : Int
  ch : Int
  s : Int
  g : Int
  v : Int
  c : Int
  send : Bool
def ActD.cells (a : ActD) : List Value := [.int .i64 a.kind, .int .i64 a.ch, .int .i64 a.s, .int .i64 a.g, .int .i64 a.v, .int .i64 a.c, .bool a.send]
def ActD.val (a : ActD) : Value := .agg #[.int .i64 a.kind, .int .i64 a.ch, .int .i64 a.s, .int .i64 a.g, .int .i64 a.v, .int .i64 a.c, .bool a.send]
def ActD.wt (a : ActD) : Wt := ⟨a.s, a.g, a.c, a.v⟩
/-- What an act leaves of the channels. -/
def actL (l : List Ch) (a : ActD) : List Ch :=
  if a.kind = 0 then (if makeNo l a.v then l else l ++ [newCh a.v])
  else if a.kind = 1 then (sendL l a.ch a.s a.g a.v).1
  else if a.kind = 2 then (recvL l a.ch a.s a.g).1
  else if a.kind = 3 then (closeL l a.ch).1
  else if a.kind = 4 then (if fitsL l a.ch a.wt a.send then (waitL l a.ch a.wt a.send).1 else l)
  else if a.kind = 5 then leaveL a.s a.g l
  else l
theorem Ok.act {N : Nat} {l : List Ch} (h : Ok N l) (a : ActD) : Ok (N + 1) (actL l a) := by
  have h' := h.mono (Nat.le_succ N)
  unfold actL
  split
  · split
    · exact h'
    · rename_i hno; exact h'.make (by simpa using hno)
  split
  · exact h.send _ _ _ _
  split
  · exact h.recv _ _ _
  split
  · exact h'.close _
  split
  · split
    · exact h.wait _ _ _
    · exact h'
  split
  · exact h'.leave
  · exact h'
theorem Ok.big {N : Nat} {l : List Ch} (h : Ok N l) (hN : N ≤ 4194304) : ∀ c ∈ l, BigC c := by
  intro c hc
  have h1 := h.cap c hc
  have h2 := h.vals c hc
  have h3 := h.who c hc
  refine ⟨?_, ?_, ?_⟩ <;> omega
def DoesPost (F G : Nat → Prop) (g : Nat) (l' : List Ch) (w : World) (e : Ending) (w' : World) : Prop :=
  ∃ v' F' G', e = .returned (tup2 v' (.bool true)) ∧ Both w' F' G' g l' v' l' ∧ (∀ k, F' k → F k ∨ w.heap.size ≤ k) ∧ (∀ k, G' k → G k ∨ w.heap.size ≤ k) ∧ Fr F w w'
def set7a (a b c d e f h : Value) (B : Nat) (w : World) : Prop := w.heap[B]? = some (.cells #[a, b, c, d, e, f, h] 56 (0, 0))
theorem keepT7 {w w' : World} {B : Nat} {a b c d e f h : Value} (hB : w.heap[B]? = some (.cells #[a, b, c, d, e, f, h] 56 (0, 0))) (hf : Fr E0 w w') : Fr E0 w w' ∧ w'.cell? ⟨B, 2, none⟩ = some c ∧ w'.cell? ⟨B, 3, none⟩ = some d := by
  have h1 := hf.heapAt hB (fun x => x)
  exact ⟨hf, cell_of_row w' _ 2 _ _ _ h1, cell_of_row w' _ 3 _ _ _ h1⟩
set_option maxRecDepth 8000 in
set_option maxHeartbeats 4000000 in
theorem told_ok {w : World} {F G : Nat → Prop} {g N : Nat} {l : List Ch} {v : Value} (h : Both w F G g l v l) (hok : Ok N l) (hN : N ≤ 4194304) (a : ActD) :
    Calls Try.prog 28 #[.pointer (some ⟨g, 0, none⟩), v, a.val] w (Ret (.bool true) E0 w) := by
  obtain ⟨kind, ch, s, gn, av, c, send⟩ := a
  obtain ⟨ms, hrd, hms⟩ := h.rd
  obtain ⟨A, vc, rfl, hmx, _, _⟩ := hrd.form
  have G1 := hid (heap_alloc_new w (.cells #[.int .i64 kind, .int .i64 ch, .int .i64 s, .int .i64 gn, .int .i64 av, .int .i64 c, .bool send] 56))
  have FA := hid ((Fr.refl (S := E0) (w := w)).alloc (.cells #[.int .i64 kind, .int .i64 ch, .int .i64 s, .int .i64 gn, .int .i64 av, .int .i64 c, .bool send] 56))
  have T1 := hid (h.e0 FA.out)
  have R1 := hid (hrd.fr FA.out)
  have HMS := hid hms
  have HOK := hid hok
  have hl := hok.len
  have hlm : ms.length = l.length := by rw [← hms, chs_len]
  have HLM := hid hlm
  rw [hlm] at hmx R1 T1 ⊢
  clear h hok hrd hms hlm
  simp only [ActD.val]
  go_enter Try.func28, Try.ntmps28
  go_wp2_with fail
  generalize w.alloc _ = W at *
  obtain ⟨⟨a0, a1, a2, a3, a4, a5, a6⟩, _⟩ := blk7 G1.out
  refine (len2_ok R1.out ch).mono ?_
  rintro e w' ⟨rfl, rfl⟩
  rw [HMS.out]
  simp only [tup2]
  go_wp2_with fail
  refine (len_all T1.out.is ch).mono ?_
  rintro e w' ⟨rfl, rfl⟩
  simp only [tup2]
  go_wp2_with fail
  refine (cap2_ok R1.out ch).mono ?_
  rintro e w' ⟨rfl, rfl⟩
  rw [HMS.out]
  simp only [tup2]
  go_wp2_with fail
  refine (cap_all T1.out.is HOK.out ch).mono ?_
  rintro e w' ⟨rfl, rfl⟩
  simp only [tup2]
  go_wp2_with fail
  generalize lenL l ch = x1
  generalize trapC l ch = x2
  generalize capL l ch = x3
  have z1 : ((x1 == x1) : Bool) = true := by simp
  have z2 : ((x2 == x2) : Bool) = true := by simp
  have z3 : ((x3 == x3) : Bool) = true := by simp
  have S0 := hid (keepT7 G1.out ((Fr.refl (S := E0)).drew))
  go_region_held3 (fun w' => Fr E0 W w' ∧ w'.cell? ⟨w.heap.size, 2, none⟩ = some (.int .i64 s) ∧ w'.cell? ⟨w.heap.size, 3, none⟩ = some (.int .i64 gn))
    (with_reducible first | exact S0.out | exact k1.out | exact k2.out | exact k3.out | exact k4.out)
    (first
      | (go_at_call 31; ((with_reducible refine (waits_all (T1.out.is.fr (S := E0) (by exact (‹Fr E0 W _ ∧ _›).1) (fun _ _ x => x)) s gn).mono ?_); rintro e w1 ⟨rfl, hf1⟩); have k1 := hid (keepT7 G1.out (((by exact (‹Fr E0 W _ ∧ _›).1) : Fr E0 W _).trans hf1)); clear hf1)
      | (go_at_call 52; ((with_reducible refine (waits2_ok ms _ s gn _ (R1.out.fr (by exact (‹Fr E0 W _ ∧ _›).1)) (by have := HLM.out; omega) (by rw [HMS.out]; exact HOK.out.big hN)).mono ?_); rintro e w2 ⟨rfl, hf2⟩); have k2 := hid (keepT7 G1.out (((by exact (‹Fr E0 W _ ∧ _›).1) : Fr E0 W _).trans hf2)); rw [HMS.out]; clear hf2)
      | (go_at_call 29; ((with_reducible refine (state_all (T1.out.is.fr (S := E0) (by exact (‹Fr E0 W _ ∧ _›).1) (fun _ _ x => x)) HOK.out (by omega)).mono ?_); rintro e w3 ⟨v3, ms3, rfl, hc3, ho3, hf3⟩); have k3 := hid (keepT7 G1.out (((by exact (‹Fr E0 W _ ∧ _›).1) : Fr E0 W _).trans hf3)); have C3 := hid hc3; have O3 := hid ho3.rd; clear hc3 ho3 hf3)
      | (go_at_call 42; ((with_reducible refine (same_cs l ms3 ms _ _ w3 O3.out (R1.out.fr (by exact (‹Fr E0 W _ ∧ _›).1)) C3.out HMS.out).mono ?_); rintro e w4 ⟨rfl, hf4⟩); have k4 := hid (keepT7 G1.out (((by exact (‹Fr E0 W _ ∧ _›).1) : Fr E0 W _).trans hf4)); clear hf4))
  all_goals
    go_wp2_with fail
    go_ret
    exact ⟨by first | rfl | simp, FA.out.trans k4.out.1⟩
end Go.Proofs.Yteffmnohgnmanaa
/- Close and Make of the document in one contract each; how an act ends. -/
namespace Go.Proofs.Yteffmnohgnmanaa
open Go.RowKit
set_option linter.unusedVariables false
theorem rclose_all {w : World} {v : Value} {ms : List CM} (hv : RdCs w v ms) (hn : ms.length ≤ 1024) (hbig : ∀ c ∈ chs ms, BigC c) (ch : Int) :
    Calls Try.prog 61 #[v, .int .i64 ch] w (RMvPost1 w v (chs ms) (closeL (chs ms) ch).1 (closeL (chs ms) ch).2) := by
  rcases handle ms ch with ho | rfl | ⟨k, m, rfl, hk⟩
  · have e : closeL (chs ms) ch = (chs ms, { trap := 4 }) := by unfold closeL; rw [trapC_out (by rw [chs_len]; exact ho)]; simp
    rw [e]; exact rclose_out hv ch (by omega) (isB_out ho)
  · have e : closeL (chs ms) 0 = (chs ms, { trap := 8 }) := by unfold closeL; rw [trapC_zero, getC_zero]; simp
    rw [e]; exact rclose_nil hv
  · have hg := getC_in (chs_get hk)
    have ht := trapC_in (chs_get hk)
    have hK := chs_get hk
    revert hK hg
    generalize hmc : m.ch = c0
    obtain ⟨cap, vals, snd, rcv, cl⟩ := c0
    intro hg hK
    cases cl with
    | true =>
      have e : closeL (chs ms) ((k : Int) + 1) = (chs ms, { trap := 7 }) := by unfold closeL; rw [ht, hg]; simp
      rw [e]; exact rclose_closed hv hn hK
    | false =>
      obtain ⟨la, ka, hla⟩ : ∃ la ka, wakeR ((chs ms).set k ⟨cap, vals, snd, rcv, true⟩) k [] = (la, ka) := ⟨_, _, rfl⟩
      obtain ⟨lb, kb, hlb⟩ : ∃ lb kb, wakeS la k ka = (lb, kb) := ⟨_, _, rfl⟩
      have e : closeL (chs ms) ((k : Int) + 1) = (lb, { woken := kb }) := by
        unfold closeL; rw [ht, hg]
        simp only [setK_k]
        simp [hla, hlb]
      rw [e]; exact rclose_go hv hn hbig hK _ rfl la ka hla lb kb hlb
/-- What Make answers: its handle, and the trap. -/
def makeN (l : List Ch) (c : Int) : Int := if makeNo l c then 0 else l.length + 1
def makeT (l : List Ch) (c : Int) : Int := if makeNo l c then 5 else 0
def makeL (l : List Ch) (c : Int) : List Ch := if makeNo l c then l else l ++ [newCh c]
theorem rmake_all {w : World} {v : Value} {ms : List CM} (hv : RdCs w v ms) (hn : ms.length ≤ 1024) (hbig : ∀ c ∈ chs ms, BigC c) (c : Int) :
    Calls Try.prog 60 #[v, .int .i64 c] w (RMakePost w v (chs ms) (makeL (chs ms) c) (makeN (chs ms) c) (makeT (chs ms) c)) := by
  unfold makeL makeN makeT
  cases hno : makeNo (chs ms) c with
  | true => exact rmake_no hv hn c hno
  | false =>
    have := rmake_ok hv hn hbig c hno
    rw [← chs_len ms] at this
    exact this
def MakeAPost (F : Nat → Prop) (g : Nat) (l' : List Ch) (n t : Int) (w : World) (e : Ending) (w' : World) : Prop := e = .returned (tup2 (.int .i64 n) (.int .i64 t)) ∧ Step F g w l' w'
theorem make_any {w : World} {F : Nat → Prop} {g N : Nat} {l : List Ch} (h : IsCh w F g l) (hok : Ok N l) (c : Int) :
    Calls Try.prog 22 #[.pointer (some ⟨g, 0, none⟩), .int .i64 c] w (MakeAPost F g (makeL l c) (makeN l c) (makeT l c) w) := by
  unfold makeL makeN makeT
  cases hno : makeNo l c with
  | true => exact (make_all_no h hok c hno).mono fun e w' ⟨h1, h2⟩ => by subst h2; exact ⟨h1, Step.same h Fr.refl⟩
  | false => exact (make_all h hok c hno).mono fun e w' h => h
theorem does_end {w W w1 w2 : World} {F G F' G' : Nat → Prop} {g : Nat} {l' : List Ch} {v' : Value} (FA : Fr E0 w W) (hf1 : Fr E0 W w1) (hG : ∀ k, G' k → G k ∨ W.heap.size ≤ k) (hF : ∀ k, F' k → F k ∨ w1.heap.size ≤ k) (hf2 : Fr F w1 w2) (T3 : Both w2 F' G' g l' v' l') :
    DoesPost F G g l' w (.returned (.tuple #[v', .bool true])) w2 := by
  have h1 := FA.size
  have h2 := hf1.size
  refine ⟨v', F', G', rfl, T3, fun k hk => ?_, fun k hk => ?_, (FA.e0.trans hf1.e0).trans hf2⟩
  · rcases hF k hk with h | h
    · exact .inl h
    · exact .inr (by omega)
  · rcases hG k hk with h | h
    · exact .inl h
    · exact .inr (by omega)
/-- Where the program wrote nothing. -/
theorem does_end0 {w w2 : World} {F G G' : Nat → Prop} {g : Nat} {l' : List Ch} {v' : Value} (hf : Fr E0 w w2) (hG : ∀ k, G' k → G k ∨ w.heap.size ≤ k) (T3 : Both w2 F G' g l' v' l') : DoesPost F G g l' w (.returned (.tuple #[v', .bool true])) w2 :=
  ⟨v', F, G', rfl, T3, fun k hk => .inl hk, hG, hf.e0⟩
theorem RowF.rd {w : World} {F : Nat → Prop} {e sz n : Nat} {v : Value} {xs : List Value} (hsz : 0 < sz) (h : RowF w F e sz v xs) (hn : xs.length = n * sz) : RdV w v sz xs := CM.Own.rdv hsz h hn
end Go.Proofs.Yteffmnohgnmanaa
/- rotalaw11.does: one act on both, a theorem for each kind. Printed by wip/gen/does.py. -/
namespace Go.Proofs.Yteffmnohgnmanaa
open Go.RowKit
set_option linter.unusedVariables false
attribute [local go_sem ↓] Go.wp_at_zero Go.wp_at_succ
theorem fits_agg {w : World} {v : Value} {ms : List CM} (hv : RdCs w v ms) (hn : ms.length ≤ 1024) (hbig : ∀ c ∈ chs ms, BigC c) (ch s g c xv : Int) (send : Bool) :
    Calls Try.prog 62 #[v, .int .i64 ch, .agg #[.int .i64 s, .int .i64 g, .int .i64 c, .int .i64 xv], .bool send] w (Ret (.bool (fitsL (chs ms) ch ⟨s, g, c, xv⟩ send)) E0 w) := fits_ok hv hn hbig ch ⟨s, g, c, xv⟩ send
theorem rwait_any {w : World} {v : Value} {ms : List CM} (hv : RdCs w v ms) (hn : ms.length ≤ 1024) (hbig : ∀ c ∈ chs ms, BigC c) (ch s g c xv : Int) (send : Bool) :
    Calls Try.prog 63 #[v, .int .i64 ch, .agg #[.int .i64 s, .int .i64 g, .int .i64 c, .int .i64 xv], .bool send] w (RWaitPost w v (chs ms) (waitL (chs ms) ch ⟨s, g, c, xv⟩ send).1 (waitL (chs ms) ch ⟨s, g, c, xv⟩ send).2) := rwait_all hv hn hbig ch ⟨s, g, c, xv⟩ send
theorem wait_any {w : World} {F : Nat → Prop} {g N : Nat} {l : List Ch} (h : IsCh w F g l) (hok : Ok N l) (hN : (N + 1) * 48 ≤ 140737488355328) (ch s gn c xv : Int) (send : Bool) :
    Calls Try.prog 59 #[.pointer (some ⟨g, 0, none⟩), .int .i64 ch, .agg #[.int .i64 s, .int .i64 gn, .int .i64 c, .int .i64 xv], .bool send] w (WaitPost F g w (waitL l ch ⟨s, gn, c, xv⟩ send).1 (waitL l ch ⟨s, gn, c, xv⟩ send).2) := wait_all h hok hN ch ⟨s, gn, c, xv⟩ send
set_option maxRecDepth 8000 in
set_option maxHeartbeats 4000000 in
theorem does_make {w : World} {F G : Nat → Prop} {g N : Nat} {l : List Ch} {v : Value} (h : Both w F G g l v l) (hok : Ok N l) (hN : N + 1 ≤ 4194304) (ch s gn av c : Int) (send : Bool) :
    Calls Try.prog 27 #[.pointer (some ⟨g, 0, none⟩), v, (ActD.val ⟨0, ch, s, gn, av, c, send⟩)] w (DoesPost F G g (actL l ⟨0, ch, s, gn, av, c, send⟩) w) := by
  have HPO : actL l ⟨0, ch, s, gn, av, c, send⟩ = makeL l av := by simp [actL, makeL]
  rw [HPO]
  clear HPO
  obtain ⟨ms, hrd, hms⟩ := h.rd
  obtain ⟨A, vc, rfl, hmx, _, _⟩ := hrd.form
  have G1 := hid (heap_alloc_new w (.cells #[.int .i64 0, .int .i64 ch, .int .i64 s, .int .i64 gn, .int .i64 av, .int .i64 c, .bool send] 56))
  have FA := hid ((Fr.refl (S := E0) (w := w)).alloc (.cells #[.int .i64 0, .int .i64 ch, .int .i64 s, .int .i64 gn, .int .i64 av, .int .i64 c, .bool send] 56))
  have HWS := hid (show (w.alloc (.cells #[.int .i64 0, .int .i64 ch, .int .i64 s, .int .i64 gn, .int .i64 av, .int .i64 c, .bool send] 56)).heap.size = w.heap.size + 1 by simp)
  have T1 := hid (h.e0 FA.out)
  have HFw := hid h.is.lt
  have R1 := hid (hrd.fr FA.out)
  have HMS := hid hms
  have HOK := hid hok
  have hl := hok.len
  have hlm : ms.length = l.length := by rw [← hms, chs_len]
  have HLM := hid hlm
  have HBG := hid (show ∀ c ∈ chs ms, BigC c by rw [hms]; exact hok.big (by omega))
  have HL1 := hid (show ms.length ≤ 1024 by omega)
  rw [hlm] at hmx R1 T1 ⊢
  clear h hok hrd hms hlm
  simp only [ActD.val]
  go_enter Try.func27, Try.ntmps27
  go_wp2_with fail
  generalize w.alloc _ = W at *
  obtain ⟨⟨a0, a1, a2, a3, a4, a5, a6⟩, _⟩ := blk7 G1.out
  refine (rmake_all R1.out HL1.out HBG.out av).mono ?_
  rintro e w1 ⟨v1, rfl, ho1, hf1⟩
  rw [HMS.out] at ho1 ⊢
  obtain ⟨G', t2, hg2⟩ := T1.out.outR hf1 ho1
  have T2 := hid t2
  have HG2 := hid hg2
  have F1 := hid hf1
  clear a0 a1 a2 a3 a4 a5 a6 t2 hg2 hf1 ho1
  obtain ⟨⟨a0, a1, a2, a3, a4, a5, a6⟩, _⟩ := blk7 (F1.out.heapAt G1.out (fun x => x))
  simp only [tup3]
  go_wp2_with fail
  refine (make_any T2.out.is HOK.out av).mono ?_
  rintro e w2 ⟨rfl, hs2⟩
  obtain ⟨F', t3, hf3, hfr⟩ := T2.out.step hs2
  have HD := hid (does_end FA.out F1.out HG2.out hf3 hfr t3)
  clear hs2 t3 hf3 hfr a0 a1 a2 a3 a4 a5 a6
  simp only [tup2]
  generalize makeN l av = x1
  generalize makeT l av = x2
  have z1 : ((x1 == x1) : Bool) = true := by simp
  have z2 : ((x2 == x2) : Bool) = true := by simp
  go_wp2_with fail
  go_ret2
  exact HD.out
set_option maxRecDepth 8000 in
set_option maxHeartbeats 4000000 in
theorem does_leave {w : World} {F G : Nat → Prop} {g N : Nat} {l : List Ch} {v : Value} (h : Both w F G g l v l) (hok : Ok N l) (hN : N + 1 ≤ 4194304) (ch s gn av c : Int) (send : Bool) :
    Calls Try.prog 27 #[.pointer (some ⟨g, 0, none⟩), v, (ActD.val ⟨5, ch, s, gn, av, c, send⟩)] w (DoesPost F G g (actL l ⟨5, ch, s, gn, av, c, send⟩) w) := by
  have HPO : actL l ⟨5, ch, s, gn, av, c, send⟩ = leaveL s gn l := by simp [actL]
  rw [HPO]
  clear HPO
  obtain ⟨ms, hrd, hms⟩ := h.rd
  obtain ⟨A, vc, rfl, hmx, _, _⟩ := hrd.form
  have G1 := hid (heap_alloc_new w (.cells #[.int .i64 5, .int .i64 ch, .int .i64 s, .int .i64 gn, .int .i64 av, .int .i64 c, .bool send] 56))
  have FA := hid ((Fr.refl (S := E0) (w := w)).alloc (.cells #[.int .i64 5, .int .i64 ch, .int .i64 s, .int .i64 gn, .int .i64 av, .int .i64 c, .bool send] 56))
  have HWS := hid (show (w.alloc (.cells #[.int .i64 5, .int .i64 ch, .int .i64 s, .int .i64 gn, .int .i64 av, .int .i64 c, .bool send] 56)).heap.size = w.heap.size + 1 by simp)
  have T1 := hid (h.e0 FA.out)
  have HFw := hid h.is.lt
  have R1 := hid (hrd.fr FA.out)
  have HMS := hid hms
  have HOK := hid hok
  have hl := hok.len
  have hlm : ms.length = l.length := by rw [← hms, chs_len]
  have HLM := hid hlm
  have HBG := hid (show ∀ c ∈ chs ms, BigC c by rw [hms]; exact hok.big (by omega))
  have HL1 := hid (show ms.length ≤ 1024 by omega)
  rw [hlm] at hmx R1 T1 ⊢
  clear h hok hrd hms hlm
  simp only [ActD.val]
  go_enter Try.func27, Try.ntmps27
  go_wp2_with fail
  generalize w.alloc _ = W at *
  obtain ⟨⟨a0, a1, a2, a3, a4, a5, a6⟩, _⟩ := blk7 G1.out
  refine (leave2_ok ms _ s gn W R1.out (by have := HL1.out; omega) HBG.out).mono ?_
  rintro e w1 ⟨v1, ms1, rfl, hc1, ho1, hf1⟩
  rw [HMS.out] at hc1 ⊢
  obtain ⟨G', t2, hg2⟩ := T1.out.outR hf1 (.inr ⟨ms1, hc1, ho1⟩)
  have T2 := hid t2
  have HG2 := hid hg2
  have F1 := hid hf1
  clear a0 a1 a2 a3 a4 a5 a6 t2 hg2 hf1 ho1 hc1
  obtain ⟨⟨a0, a1, a2, a3, a4, a5, a6⟩, _⟩ := blk7 (F1.out.heapAt G1.out (fun x => x))
  simp only [tup2]
  go_wp2_with fail
  refine (leave_all T2.out.is HOK.out (by omega) s gn).mono ?_
  rintro e w2 ⟨rfl, his, hfr2⟩
  obtain ⟨F', t3, hf3, hfr⟩ := T2.out.step ⟨F, his, fun k hk => .inl hk, hfr2⟩
  have HD := hid (does_end FA.out F1.out HG2.out hf3 hfr t3)
  clear his hfr2 t3 hf3 hfr a0 a1 a2 a3 a4 a5 a6
  generalize ((nOutL s gn l : Nat) : Int) = x1
  have z1 : ((x1 == x1) : Bool) = true := by simp
  go_wp2_with fail
  go_ret2
  exact HD.out
set_option maxRecDepth 8000 in
set_option maxHeartbeats 4000000 in
theorem does_goes {w : World} {F G : Nat → Prop} {g N : Nat} {l : List Ch} {v : Value} (h : Both w F G g l v l) (hok : Ok N l) (hN : N + 1 ≤ 4194304) (ch s gn av c : Int) (send : Bool) :
    Calls Try.prog 27 #[.pointer (some ⟨g, 0, none⟩), v, (ActD.val ⟨6, ch, s, gn, av, c, send⟩)] w (DoesPost F G g (actL l ⟨6, ch, s, gn, av, c, send⟩) w) := by
  have HPO : actL l ⟨6, ch, s, gn, av, c, send⟩ = l := by simp [actL]
  rw [HPO]
  clear HPO
  obtain ⟨ms, hrd, hms⟩ := h.rd
  obtain ⟨A, vc, rfl, hmx, _, _⟩ := hrd.form
  have G1 := hid (heap_alloc_new w (.cells #[.int .i64 6, .int .i64 ch, .int .i64 s, .int .i64 gn, .int .i64 av, .int .i64 c, .bool send] 56))
  have FA := hid ((Fr.refl (S := E0) (w := w)).alloc (.cells #[.int .i64 6, .int .i64 ch, .int .i64 s, .int .i64 gn, .int .i64 av, .int .i64 c, .bool send] 56))
  have HWS := hid (show (w.alloc (.cells #[.int .i64 6, .int .i64 ch, .int .i64 s, .int .i64 gn, .int .i64 av, .int .i64 c, .bool send] 56)).heap.size = w.heap.size + 1 by simp)
  have T1 := hid (h.e0 FA.out)
  have HFw := hid h.is.lt
  have R1 := hid (hrd.fr FA.out)
  have HMS := hid hms
  have HOK := hid hok
  have hl := hok.len
  have hlm : ms.length = l.length := by rw [← hms, chs_len]
  have HLM := hid hlm
  have HBG := hid (show ∀ c ∈ chs ms, BigC c by rw [hms]; exact hok.big (by omega))
  have HL1 := hid (show ms.length ≤ 1024 by omega)
  rw [hlm] at hmx R1 T1 ⊢
  clear h hok hrd hms hlm
  simp only [ActD.val]
  go_enter Try.func27, Try.ntmps27
  go_wp2_with fail
  generalize w.alloc _ = W at *
  obtain ⟨⟨a0, a1, a2, a3, a4, a5, a6⟩, _⟩ := blk7 G1.out
  refine (goes2_ok R1.out ch send).mono ?_
  rintro e w1 ⟨rfl, hf1⟩
  rw [HMS.out]
  have T2 := hid (T1.out.e0 hf1)
  have F1 := hid hf1
  clear a0 a1 a2 a3 a4 a5 a6 hf1
  obtain ⟨⟨a0, a1, a2, a3, a4, a5, a6⟩, _⟩ := blk7 (F1.out.heapAt G1.out (fun x => x))
  simp only [tup2]
  go_wp2_with fail
  refine (goes_all T2.out.is ch send).mono ?_
  rintro e w2 ⟨rfl, hf2⟩
  have HD := hid (does_end0 (w := w) (G := G) ((FA.out.trans F1.out).trans hf2) (fun k hk => .inl hk) (T2.out.e0 hf2))
  clear hf2 a0 a1 a2 a3 a4 a5 a6
  simp only [tup2]
  generalize goesL l ch send = x1
  generalize trapC l ch = x2
  have z1 : ((x1 == x1) : Bool) = true := by simp
  have z2 : ((x2 == x2) : Bool) = true := by simp
  go_wp2_with fail
  go_ret2
  exact HD.out
set_option maxRecDepth 8000 in
set_option maxHeartbeats 4000000 in
theorem does_else {w : World} {F G : Nat → Prop} {g N : Nat} {l : List Ch} {v : Value} (h : Both w F G g l v l) (hok : Ok N l) (hN : N + 1 ≤ 4194304) (kind ch s gn av c : Int) (hk : kind < 0 ∨ 6 < kind) (send : Bool) :
    Calls Try.prog 27 #[.pointer (some ⟨g, 0, none⟩), v, (ActD.val ⟨kind, ch, s, gn, av, c, send⟩)] w (DoesPost F G g (actL l ⟨kind, ch, s, gn, av, c, send⟩) w) := by
  have hk0 : ¬ kind = 0 := by omega
  have hk1 : ¬ kind = 1 := by omega
  have hk2 : ¬ kind = 2 := by omega
  have hk3 : ¬ kind = 3 := by omega
  have hk4 : ¬ kind = 4 := by omega
  have hk5 : ¬ kind = 5 := by omega
  have hk6 : ¬ kind = 6 := by omega
  have HPO : actL l ⟨kind, ch, s, gn, av, c, send⟩ = l := by simp [actL, hk0, hk1, hk2, hk3, hk4, hk5]
  rw [HPO]
  clear HPO
  have z0 : ((kind == 0) : Bool) = false := by simpa using hk0
  have z1 : ((kind == 1) : Bool) = false := by simpa using hk1
  have z2 : ((kind == 2) : Bool) = false := by simpa using hk2
  have z3 : ((kind == 3) : Bool) = false := by simpa using hk3
  have z4 : ((kind == 4) : Bool) = false := by simpa using hk4
  have z5 : ((kind == 5) : Bool) = false := by simpa using hk5
  have z6 : ((kind == 6) : Bool) = false := by simpa using hk6
  clear hk hk0 hk1 hk2 hk3 hk4 hk5 hk6
  obtain ⟨ms, hrd, hms⟩ := h.rd
  obtain ⟨A, vc, rfl, hmx, _, _⟩ := hrd.form
  have G1 := hid (heap_alloc_new w (.cells #[.int .i64 kind, .int .i64 ch, .int .i64 s, .int .i64 gn, .int .i64 av, .int .i64 c, .bool send] 56))
  have FA := hid ((Fr.refl (S := E0) (w := w)).alloc (.cells #[.int .i64 kind, .int .i64 ch, .int .i64 s, .int .i64 gn, .int .i64 av, .int .i64 c, .bool send] 56))
  have HWS := hid (show (w.alloc (.cells #[.int .i64 kind, .int .i64 ch, .int .i64 s, .int .i64 gn, .int .i64 av, .int .i64 c, .bool send] 56)).heap.size = w.heap.size + 1 by simp)
  have T1 := hid (h.e0 FA.out)
  have HFw := hid h.is.lt
  have R1 := hid (hrd.fr FA.out)
  have HMS := hid hms
  have HOK := hid hok
  have hl := hok.len
  have hlm : ms.length = l.length := by rw [← hms, chs_len]
  have HLM := hid hlm
  have HBG := hid (show ∀ c ∈ chs ms, BigC c by rw [hms]; exact hok.big (by omega))
  have HL1 := hid (show ms.length ≤ 1024 by omega)
  rw [hlm] at hmx R1 T1 ⊢
  clear h hok hrd hms hlm
  simp only [ActD.val]
  go_enter Try.func27, Try.ntmps27
  go_wp2_with fail
  generalize w.alloc _ = W at *
  obtain ⟨⟨a0, a1, a2, a3, a4, a5, a6⟩, _⟩ := blk7 G1.out
  refine (told_ok T1.out HOK.out (by omega) ⟨kind, ch, s, gn, av, c, send⟩).mono ?_
  rintro e w2 ⟨rfl, hf2⟩
  have HD := hid (does_end0 (w := w) (G := G) (FA.out.trans hf2) (fun k hk => .inl hk) (T1.out.e0 hf2))
  clear hf2 a0 a1 a2 a3 a4 a5 a6
  go_wp2_with fail
  go_ret2
  exact HD.out
set_option maxRecDepth 8000 in
set_option maxHeartbeats 4000000 in
theorem does_waitno {w : World} {F G : Nat → Prop} {g N : Nat} {l : List Ch} {v : Value} (h : Both w F G g l v l) (hok : Ok N l) (hN : N + 1 ≤ 4194304) (ch s gn av c : Int) (send : Bool) (hft : fitsL l ch ⟨s, gn, c, av⟩ send = false) :
    Calls Try.prog 27 #[.pointer (some ⟨g, 0, none⟩), v, (ActD.val ⟨4, ch, s, gn, av, c, send⟩)] w (DoesPost F G g (actL l ⟨4, ch, s, gn, av, c, send⟩) w) := by
  have HPO : actL l ⟨4, ch, s, gn, av, c, send⟩ = l := by simp [actL, ActD.wt, hft]
  rw [HPO]
  clear HPO
  have HFT := hid hft
  clear hft
  obtain ⟨ms, hrd, hms⟩ := h.rd
  obtain ⟨A, vc, rfl, hmx, _, _⟩ := hrd.form
  have G1 := hid (heap_alloc_new w (.cells #[.int .i64 4, .int .i64 ch, .int .i64 s, .int .i64 gn, .int .i64 av, .int .i64 c, .bool send] 56))
  have FA := hid ((Fr.refl (S := E0) (w := w)).alloc (.cells #[.int .i64 4, .int .i64 ch, .int .i64 s, .int .i64 gn, .int .i64 av, .int .i64 c, .bool send] 56))
  have HWS := hid (show (w.alloc (.cells #[.int .i64 4, .int .i64 ch, .int .i64 s, .int .i64 gn, .int .i64 av, .int .i64 c, .bool send] 56)).heap.size = w.heap.size + 1 by simp)
  have T1 := hid (h.e0 FA.out)
  have HFw := hid h.is.lt
  have R1 := hid (hrd.fr FA.out)
  have HMS := hid hms
  have HOK := hid hok
  have hl := hok.len
  have hlm : ms.length = l.length := by rw [← hms, chs_len]
  have HLM := hid hlm
  have HBG := hid (show ∀ c ∈ chs ms, BigC c by rw [hms]; exact hok.big (by omega))
  have HL1 := hid (show ms.length ≤ 1024 by omega)
  rw [hlm] at hmx R1 T1 ⊢
  clear h hok hrd hms hlm
  simp only [ActD.val]
  go_enter Try.func27, Try.ntmps27
  go_wp2_with fail
  generalize w.alloc _ = W at *
  obtain ⟨⟨a0, a1, a2, a3, a4, a5, a6⟩, _⟩ := blk7 G1.out
  have FX := hid ((Fr.refl (S := E0) (w := W)).alloc (.cells #[.int .i64 s, .int .i64 gn, .int .i64 c, .int .i64 av] 114))
  have X1 := hid (heap_alloc_new W (.cells #[.int .i64 s, .int .i64 gn, .int .i64 c, .int .i64 av] 114))
  rw [HWS.out] at X1
  generalize W.alloc _ = W1 at *
  clear a0 a1 a2 a3 a4 a5 a6
  refine (fits_agg (R1.out.fr FX.out) HL1.out HBG.out ch s gn c av send).mono ?_
  rintro e w1 ⟨rfl, hf1⟩
  rw [HMS.out, HFT.out]
  have HD := hid (does_end0 (w := w) (G := G) (FA.out.trans (FX.out.trans hf1)) (fun k hk => .inl hk) (T1.out.e0 (FX.out.trans hf1)))
  clear hf1
  go_wp2_with fail
  go_ret2
  exact HD.out
set_option maxRecDepth 8000 in
set_option maxHeartbeats 4000000 in
theorem does_wait {w : World} {F G : Nat → Prop} {g N : Nat} {l : List Ch} {v : Value} (h : Both w F G g l v l) (hok : Ok N l) (hN : N + 1 ≤ 4194304) (ch s gn av c : Int) (send : Bool) (hft : fitsL l ch ⟨s, gn, c, av⟩ send = true) :
    Calls Try.prog 27 #[.pointer (some ⟨g, 0, none⟩), v, (ActD.val ⟨4, ch, s, gn, av, c, send⟩)] w (DoesPost F G g (actL l ⟨4, ch, s, gn, av, c, send⟩) w) := by
  have HPO : actL l ⟨4, ch, s, gn, av, c, send⟩ = (waitL l ch ⟨s, gn, c, av⟩ send).1 := by simp [actL, ActD.wt, hft]
  rw [HPO]
  clear HPO
  have HFT := hid hft
  clear hft
  obtain ⟨ms, hrd, hms⟩ := h.rd
  obtain ⟨A, vc, rfl, hmx, _, _⟩ := hrd.form
  have G1 := hid (heap_alloc_new w (.cells #[.int .i64 4, .int .i64 ch, .int .i64 s, .int .i64 gn, .int .i64 av, .int .i64 c, .bool send] 56))
  have FA := hid ((Fr.refl (S := E0) (w := w)).alloc (.cells #[.int .i64 4, .int .i64 ch, .int .i64 s, .int .i64 gn, .int .i64 av, .int .i64 c, .bool send] 56))
  have HWS := hid (show (w.alloc (.cells #[.int .i64 4, .int .i64 ch, .int .i64 s, .int .i64 gn, .int .i64 av, .int .i64 c, .bool send] 56)).heap.size = w.heap.size + 1 by simp)
  have T1 := hid (h.e0 FA.out)
  have HFw := hid h.is.lt
  have R1 := hid (hrd.fr FA.out)
  have HMS := hid hms
  have HOK := hid hok
  have hl := hok.len
  have hlm : ms.length = l.length := by rw [← hms, chs_len]
  have HLM := hid hlm
  have HBG := hid (show ∀ c ∈ chs ms, BigC c by rw [hms]; exact hok.big (by omega))
  have HL1 := hid (show ms.length ≤ 1024 by omega)
  rw [hlm] at hmx R1 T1 ⊢
  clear h hok hrd hms hlm
  simp only [ActD.val]
  go_enter Try.func27, Try.ntmps27
  go_wp2_with fail
  generalize w.alloc _ = W at *
  obtain ⟨⟨a0, a1, a2, a3, a4, a5, a6⟩, _⟩ := blk7 G1.out
  have FX := hid ((Fr.refl (S := E0) (w := W)).alloc (.cells #[.int .i64 s, .int .i64 gn, .int .i64 c, .int .i64 av] 114))
  have X1 := hid (heap_alloc_new W (.cells #[.int .i64 s, .int .i64 gn, .int .i64 c, .int .i64 av] 114))
  rw [HWS.out] at X1
  generalize W.alloc _ = W1 at *
  clear a0 a1 a2 a3 a4 a5 a6
  refine (fits_agg (R1.out.fr FX.out) HL1.out HBG.out ch s gn c av send).mono ?_
  rintro e w1 ⟨rfl, hf1⟩
  rw [HMS.out, HFT.out]
  have F1 := hid (FX.out.trans hf1)
  obtain ⟨⟨a0, a1, a2, a3, a4, a5, a6⟩, _⟩ := blk7 (F1.out.heapAt G1.out (fun x => x))
  obtain ⟨b0, b1, b2, b3⟩ := cell4 (hf1.heapAt X1.out (fun x => x))
  have X2 := hid (hf1.heapAt X1.out (fun x => x))
  have R2 := hid (R1.out.fr F1.out)
  have T2 := hid (T1.out.e0 F1.out)
  clear hf1
  go_wp2_with fail
  refine (rwait_any R2.out HL1.out HBG.out ch s gn c av send).mono ?_
  rintro e w2 ⟨v2, rfl, ho2, hf2⟩
  rw [HMS.out] at ho2 ⊢
  obtain ⟨G', t3, hg3⟩ := T2.out.outR hf2 ho2
  have T3 := hid t3
  have HG3 := hid hg3
  have F2 := hid hf2
  clear a0 a1 a2 a3 a4 a5 a6 b0 b1 b2 b3 t3 hg3 ho2 hf2
  obtain ⟨⟨a0, a1, a2, a3, a4, a5, a6⟩, _⟩ := blk7 ((F1.out.trans F2.out).heapAt G1.out (fun x => x))
  obtain ⟨b0, b1, b2, b3⟩ := cell4 (F2.out.heapAt X2.out (fun x => x))
  simp only [tup2]
  go_wp2_with fail
  refine (wait_any T3.out.is HOK.out (by omega) ch s gn c av send).mono ?_
  rintro e w3 ⟨rfl, hs3⟩
  obtain ⟨F', t4, hf4, hfr⟩ := T3.out.step hs3
  have HD := hid (does_end (FA.out.trans F1.out) F2.out HG3.out hf4 hfr t4)
  clear hs3 t4 hf4 hfr a0 a1 a2 a3 a4 a5 a6 b0 b1 b2 b3
  generalize (waitL l ch ⟨s, gn, c, av⟩ send).2 = x1
  have z1 : ((x1 == x1) : Bool) = true := by simp
  go_wp2_with fail
  go_ret2
  exact HD.out
end Go.Proofs.Yteffmnohgnmanaa
/- rotalaw11.does: one act on both, Send, Recv, Close. Printed by wip/gen/does.py. -/
namespace Go.Proofs.Yteffmnohgnmanaa
open Go.RowKit
set_option linter.unusedVariables false
attribute [local go_sem ↓] Go.wp_at_zero Go.wp_at_succ
set_option maxRecDepth 8000 in
set_option maxHeartbeats 4000000 in
theorem does_send {w : World} {F G : Nat → Prop} {g N : Nat} {l : List Ch} {v : Value} (h : Both w F G g l v l) (hok : Ok N l) (hN : N + 1 ≤ 4194304) (ch s gn av c : Int) (send : Bool) :
    Calls Try.prog 27 #[.pointer (some ⟨g, 0, none⟩), v, (ActD.val ⟨1, ch, s, gn, av, c, send⟩)] w (DoesPost F G g (actL l ⟨1, ch, s, gn, av, c, send⟩) w) := by
  have HPO : actL l ⟨1, ch, s, gn, av, c, send⟩ = (sendL l ch s gn av).1 := by simp [actL]
  rw [HPO]
  clear HPO
  obtain ⟨ms, hrd, hms⟩ := h.rd
  obtain ⟨A, vc, rfl, hmx, _, _⟩ := hrd.form
  have G1 := hid (heap_alloc_new w (.cells #[.int .i64 1, .int .i64 ch, .int .i64 s, .int .i64 gn, .int .i64 av, .int .i64 c, .bool send] 56))
  have FA := hid ((Fr.refl (S := E0) (w := w)).alloc (.cells #[.int .i64 1, .int .i64 ch, .int .i64 s, .int .i64 gn, .int .i64 av, .int .i64 c, .bool send] 56))
  have HWS := hid (show (w.alloc (.cells #[.int .i64 1, .int .i64 ch, .int .i64 s, .int .i64 gn, .int .i64 av, .int .i64 c, .bool send] 56)).heap.size = w.heap.size + 1 by simp)
  have T1 := hid (h.e0 FA.out)
  have HFw := hid h.is.lt
  have R1 := hid (hrd.fr FA.out)
  have HMS := hid hms
  have HOK := hid hok
  have hl := hok.len
  have hlm : ms.length = l.length := by rw [← hms, chs_len]
  have HLM := hid hlm
  have HBG := hid (show ∀ c ∈ chs ms, BigC c by rw [hms]; exact hok.big (by omega))
  have HL1 := hid (show ms.length ≤ 1024 by omega)
  rw [hlm] at hmx R1 T1 ⊢
  clear h hok hrd hms hlm
  simp only [ActD.val]
  go_enter Try.func27, Try.ntmps27
  go_wp2_with fail
  generalize w.alloc _ = W at *
  obtain ⟨⟨a0, a1, a2, a3, a4, a5, a6⟩, _⟩ := blk7 G1.out
  obtain ⟨l', ⟨mw, mv, mo, mt, mk⟩, err, hL⟩ : ∃ l' m err, sendL l ch s gn av = (l', m, err) := ⟨_, _, _, rfl⟩
  have HL := hid hL
  refine (rsend_all R1.out HL1.out HBG.out ch s gn av).mono ?_
  rw [HMS.out, HL.out]
  rintro e w1 ⟨v1, wv1, rfl, ho1, hr1, hf1⟩
  simp only at ho1 hr1
  obtain ⟨G', t2, hg2⟩ := T1.out.outR hf1 ho1
  have T2 := hid t2
  have HG2 := hid hg2
  have F1 := hid hf1
  obtain ⟨A1, n1, c1, rfl⟩ := hr1.shape
  have ROW1 := hid hr1
  have HWL := hid (Nat.lt_of_lt_of_le (heap_lt G1.out) hf1.size)
  have hFl := T1.out.is.lt
  have HFL := hid hFl
  clear a0 a1 a2 a3 a4 a5 a6 t2 hg2 hf1 ho1 hr1 hL hFl
  have hwl := HWL.out
  obtain ⟨⟨a0, a1, a2, a3, a4, a5, a6⟩, _⟩ := blk7 (F1.out.heapAt G1.out (fun x => x))
  simp only [tup3, Mv.val]
  go_wp2_with fail
  have FX := hid ((Fr.refl (S := E0) (w := w1)).alloc (.cells #[.bool mw, .int .i64 mv, .bool mo, .int .i64 mt, .slice A1 n1 c1] 32))
  have X1 := hid (heap_alloc_new w1 (.cells #[.bool mw, .int .i64 mv, .bool mo, .int .i64 mt, .slice A1 n1 c1] 32))
  clear a0 a1 a2 a3 a4 a5 a6
  generalize w1.alloc _ = W1 at *
  refine (send_all (T2.out.e0 FX.out).is HOK.out (by omega) ch s gn av).mono ?_
  rw [HL.out]
  rintro e w2 ⟨wv2, rfl, hr2, hs2⟩
  simp only at hr2 hs2
  obtain ⟨F', t3, hf3, hfr⟩ := (T2.out.e0 FX.out).step hs2
  obtain ⟨A2, n2, c2, rfl⟩ := hr2.shape
  have hWs := FX.out.size
  have hF1s := F1.out.size
  have X2 := hid (hfr.heapAt X1.out (fun hq => by have h1 := HFL.out _ hq; omega))
  have ROW2 := hid ((ROW1.out.fr FX.out (fun _ _ x => x)).fr hfr (fun q hq hF => by
    have h1 := HFL.out _ hF
    have h2 : W.heap.size ≤ q := ROW1.out.2 q hq
    omega))
  have T3 := hid t3
  have HF3 := hid hf3
  have HFR := hid hfr
  have ROWB := hid hr2
  have hMl := heap_lt X2.out
  clear hs2 t3 hf3 hfr hr2 hWs hF1s
  obtain ⟨⟨b0, b1, b2, b3, b4⟩, _⟩ := blk5 X2.out
  have z1 : ((err == err) : Bool) = true := by simp
  simp only [tup2, Mv.val]
  go_wp2_with fail
  have FY := hid ((Fr.refl (S := E0) (w := w2)).alloc (.cells #[.bool mw, .int .i64 mv, .bool mo, .int .i64 mt, .slice A2 n2 c2] 32))
  clear b0 b1 b2 b3 b4
  generalize w2.alloc _ = W2 at *
  refine (same_mv ⟨mw, mv, mo, mt, mk⟩ (.slice A1 n1 c1) (.slice A2 n2 c2) W2 ((ROW2.out.fr FY.out (fun _ _ x => x)).rd (by decide) (wks_len _)) ((ROWB.out.fr FY.out (fun _ _ x => x)).rd (by decide) (wks_len _))).mono ?_
  rintro e w3 ⟨rfl, hf3⟩
  have HD := hid (does_end FA.out (F1.out.trans FX.out) HG2.out HF3.out (HFR.out.trans (FY.out.trans hf3).e0) (T3.out.e0 (FY.out.trans hf3)))
  clear hf3
  go_wp2_with fail
  go_ret2
  rw [HL.out]
  exact HD.out
set_option maxRecDepth 8000 in
set_option maxHeartbeats 4000000 in
theorem does_recv {w : World} {F G : Nat → Prop} {g N : Nat} {l : List Ch} {v : Value} (h : Both w F G g l v l) (hok : Ok N l) (hN : N + 1 ≤ 4194304) (ch s gn av c : Int) (send : Bool) :
    Calls Try.prog 27 #[.pointer (some ⟨g, 0, none⟩), v, (ActD.val ⟨2, ch, s, gn, av, c, send⟩)] w (DoesPost F G g (actL l ⟨2, ch, s, gn, av, c, send⟩) w) := by
  have HPO : actL l ⟨2, ch, s, gn, av, c, send⟩ = (recvL l ch s gn).1 := by simp [actL]
  rw [HPO]
  clear HPO
  obtain ⟨ms, hrd, hms⟩ := h.rd
  obtain ⟨A, vc, rfl, hmx, _, _⟩ := hrd.form
  have G1 := hid (heap_alloc_new w (.cells #[.int .i64 2, .int .i64 ch, .int .i64 s, .int .i64 gn, .int .i64 av, .int .i64 c, .bool send] 56))
  have FA := hid ((Fr.refl (S := E0) (w := w)).alloc (.cells #[.int .i64 2, .int .i64 ch, .int .i64 s, .int .i64 gn, .int .i64 av, .int .i64 c, .bool send] 56))
  have HWS := hid (show (w.alloc (.cells #[.int .i64 2, .int .i64 ch, .int .i64 s, .int .i64 gn, .int .i64 av, .int .i64 c, .bool send] 56)).heap.size = w.heap.size + 1 by simp)
  have T1 := hid (h.e0 FA.out)
  have HFw := hid h.is.lt
  have R1 := hid (hrd.fr FA.out)
  have HMS := hid hms
  have HOK := hid hok
  have hl := hok.len
  have hlm : ms.length = l.length := by rw [← hms, chs_len]
  have HLM := hid hlm
  have HBG := hid (show ∀ c ∈ chs ms, BigC c by rw [hms]; exact hok.big (by omega))
  have HL1 := hid (show ms.length ≤ 1024 by omega)
  rw [hlm] at hmx R1 T1 ⊢
  clear h hok hrd hms hlm
  simp only [ActD.val]
  go_enter Try.func27, Try.ntmps27
  go_wp2_with fail
  generalize w.alloc _ = W at *
  obtain ⟨⟨a0, a1, a2, a3, a4, a5, a6⟩, _⟩ := blk7 G1.out
  obtain ⟨l', ⟨mw, mv, mo, mt, mk⟩, err, hL⟩ : ∃ l' m err, recvL l ch s gn = (l', m, err) := ⟨_, _, _, rfl⟩
  have HL := hid hL
  refine (rrecv_all R1.out HL1.out HBG.out ch s gn).mono ?_
  rw [HMS.out, HL.out]
  rintro e w1 ⟨v1, wv1, rfl, ho1, hr1, hf1⟩
  simp only at ho1 hr1
  obtain ⟨G', t2, hg2⟩ := T1.out.outR hf1 ho1
  have T2 := hid t2
  have HG2 := hid hg2
  have F1 := hid hf1
  obtain ⟨A1, n1, c1, rfl⟩ := hr1.shape
  have ROW1 := hid hr1
  have HWL := hid (Nat.lt_of_lt_of_le (heap_lt G1.out) hf1.size)
  have hFl := T1.out.is.lt
  have HFL := hid hFl
  clear a0 a1 a2 a3 a4 a5 a6 t2 hg2 hf1 ho1 hr1 hL hFl
  have hwl := HWL.out
  obtain ⟨⟨a0, a1, a2, a3, a4, a5, a6⟩, _⟩ := blk7 (F1.out.heapAt G1.out (fun x => x))
  simp only [tup3, Mv.val]
  go_wp2_with fail
  have FX := hid ((Fr.refl (S := E0) (w := w1)).alloc (.cells #[.bool mw, .int .i64 mv, .bool mo, .int .i64 mt, .slice A1 n1 c1] 32))
  have X1 := hid (heap_alloc_new w1 (.cells #[.bool mw, .int .i64 mv, .bool mo, .int .i64 mt, .slice A1 n1 c1] 32))
  clear a0 a1 a2 a3 a4 a5 a6
  generalize w1.alloc _ = W1 at *
  refine (recv_all (T2.out.e0 FX.out).is HOK.out (by omega) ch s gn).mono ?_
  rw [HL.out]
  rintro e w2 ⟨wv2, rfl, hr2, hs2⟩
  simp only at hr2 hs2
  obtain ⟨F', t3, hf3, hfr⟩ := (T2.out.e0 FX.out).step hs2
  obtain ⟨A2, n2, c2, rfl⟩ := hr2.shape
  have hWs := FX.out.size
  have hF1s := F1.out.size
  have X2 := hid (hfr.heapAt X1.out (fun hq => by have h1 := HFL.out _ hq; omega))
  have ROW2 := hid ((ROW1.out.fr FX.out (fun _ _ x => x)).fr hfr (fun q hq hF => by
    have h1 := HFL.out _ hF
    have h2 : W.heap.size ≤ q := ROW1.out.2 q hq
    omega))
  have T3 := hid t3
  have HF3 := hid hf3
  have HFR := hid hfr
  have ROWB := hid hr2
  have hMl := heap_lt X2.out
  clear hs2 t3 hf3 hfr hr2 hWs hF1s
  obtain ⟨⟨b0, b1, b2, b3, b4⟩, _⟩ := blk5 X2.out
  have z1 : ((err == err) : Bool) = true := by simp
  simp only [tup2, Mv.val]
  go_wp2_with fail
  have FY := hid ((Fr.refl (S := E0) (w := w2)).alloc (.cells #[.bool mw, .int .i64 mv, .bool mo, .int .i64 mt, .slice A2 n2 c2] 32))
  clear b0 b1 b2 b3 b4
  generalize w2.alloc _ = W2 at *
  refine (same_mv ⟨mw, mv, mo, mt, mk⟩ (.slice A1 n1 c1) (.slice A2 n2 c2) W2 ((ROW2.out.fr FY.out (fun _ _ x => x)).rd (by decide) (wks_len _)) ((ROWB.out.fr FY.out (fun _ _ x => x)).rd (by decide) (wks_len _))).mono ?_
  rintro e w3 ⟨rfl, hf3⟩
  have HD := hid (does_end FA.out (F1.out.trans FX.out) HG2.out HF3.out (HFR.out.trans (FY.out.trans hf3).e0) (T3.out.e0 (FY.out.trans hf3)))
  clear hf3
  go_wp2_with fail
  go_ret2
  rw [HL.out]
  exact HD.out
def ClosePost2 (F G : Nat → Prop) (g : Nat) (l' : List Ch) (v : Value) (l2 : List Ch) (m : Mv) (w : World) (e : Ending) (w' : World) : Prop :=
  ∃ wv, e = .returned (m.val wv) ∧ (∃ H : Nat → Prop, RowF w' H 39 6 wv (wks m.woken)) ∧ ∃ F', Both w' F' G g l' v l2 ∧ (∀ k, F' k → F k ∨ w.heap.size ≤ k) ∧ Fr F w w'
theorem close_at {w : World} {F G : Nat → Prop} {g N : Nat} {l l2 l' : List Ch} {v : Value} {m : Mv} (h : Both w F G g l v l2) (hok : Ok N l) (hN : (N + 1) * 48 ≤ 140737488355328) (ch : Int) (hL : closeL l ch = (l', m)) :
    Calls Try.prog 30 #[.pointer (some ⟨g, 0, none⟩), .int .i64 ch] w (ClosePost2 F G g l' v l2 m w) := by
  have h1 := close_all h.is hok hN ch
  rw [hL] at h1
  refine h1.mono ?_
  rintro e w' ⟨wv, he, hr, hs⟩
  exact ⟨wv, he, hr, h.step hs⟩
theorem keepBM {w : World} {B M : Nat} {k ch s g v c sd m0 m1 m2 m3 m4 : Value} (hB : w.heap[B]? = some (.cells #[k, ch, s, g, v, c, sd] 56 (0, 0))) (hM : w.heap[M]? = some (.cells #[m0, m1, m2, m3, m4] 32 (0, 0))) :
    w.cell? ⟨B, 1, none⟩ = some ch ∧ w.cell? ⟨M, 0, none⟩ = some m0 ∧ w.cell? ⟨M, 1, none⟩ = some m1 ∧ w.cell? ⟨M, 2, none⟩ = some m2 ∧ w.cell? ⟨M, 3, none⟩ = some m3 ∧ w.cell? ⟨M, 4, none⟩ = some m4 :=
  ⟨cell_of_row w _ 1 _ _ _ hB, cell_of_row w _ 0 _ _ _ hM, cell_of_row w _ 1 _ _ _ hM, cell_of_row w _ 2 _ _ _ hM, cell_of_row w _ 3 _ _ _ hM, cell_of_row w _ 4 _ _ _ hM⟩
theorem rowKeep {W w1 W1 w2 : World} {F : Nat → Prop} {e sz : Nat} {v : Value} {xs : List Value} (h : RowF w1 (New W) e sz v xs) (fx : Fr E0 w1 W1) (hfr : Fr F W1 w2) (hF : ∀ k, F k → k < W.heap.size) : RowF w2 (New W) e sz v xs :=
  (h.fr fx (fun _ _ x => x)).fr hfr (fun q hq hq' => by
    have h1 := hF _ hq'
    have h2 : W.heap.size ≤ q := h.2 q hq
    omega)
theorem same_agg (mw : Bool) (mv : Int) (mo : Bool) (mt : Int) (mk : List Wk) (A1 : Option Addr) (n1 c1 : Nat) (A2 : Option Addr) (n2 c2 : Nat) (w : World) {F1 F2 : Nat → Prop} (h1 : RowF w F1 39 6 (.slice A1 n1 c1) (wks mk)) (h2 : RowF w F2 39 6 (.slice A2 n2 c2) (wks mk)) :
    Calls Try.prog 51 #[.agg #[.bool mw, .int .i64 mv, .bool mo, .int .i64 mt, .slice A1 n1 c1], .agg #[.bool mw, .int .i64 mv, .bool mo, .int .i64 mt, .slice A2 n2 c2]] w (Ret (.bool true) E0 w) :=
  same_mv ⟨mw, mv, mo, mt, mk⟩ (.slice A1 n1 c1) (.slice A2 n2 c2) w (h1.rd (by decide) (wks_len _)) (h2.rd (by decide) (wks_len _))
set_option maxRecDepth 8000 in
set_option maxHeartbeats 4000000 in
theorem does_close {w : World} {F G : Nat → Prop} {g N : Nat} {l : List Ch} {v : Value} (h : Both w F G g l v l) (hok : Ok N l) (hN : N + 1 ≤ 4194304) (ch s gn av c : Int) (send : Bool) :
    Calls Try.prog 27 #[.pointer (some ⟨g, 0, none⟩), v, (ActD.val ⟨3, ch, s, gn, av, c, send⟩)] w (DoesPost F G g (actL l ⟨3, ch, s, gn, av, c, send⟩) w) := by
  have HPO : actL l ⟨3, ch, s, gn, av, c, send⟩ = (closeL l ch).1 := by simp [actL]
  rw [HPO]
  clear HPO
  obtain ⟨ms, hrd, hms⟩ := h.rd
  obtain ⟨A, vc, rfl, hmx, _, _⟩ := hrd.form
  have G1 := hid (heap_alloc_new w (.cells #[.int .i64 3, .int .i64 ch, .int .i64 s, .int .i64 gn, .int .i64 av, .int .i64 c, .bool send] 56))
  have FA := hid ((Fr.refl (S := E0) (w := w)).alloc (.cells #[.int .i64 3, .int .i64 ch, .int .i64 s, .int .i64 gn, .int .i64 av, .int .i64 c, .bool send] 56))
  have HWS := hid (show (w.alloc (.cells #[.int .i64 3, .int .i64 ch, .int .i64 s, .int .i64 gn, .int .i64 av, .int .i64 c, .bool send] 56)).heap.size = w.heap.size + 1 by simp)
  have T1 := hid (h.e0 FA.out)
  have HFw := hid h.is.lt
  have R1 := hid (hrd.fr FA.out)
  have HMS := hid hms
  have HOK := hid hok
  have hl := hok.len
  have hlm : ms.length = l.length := by rw [← hms, chs_len]
  have HLM := hid hlm
  have HBG := hid (show ∀ c ∈ chs ms, BigC c by rw [hms]; exact hok.big (by omega))
  have HL1 := hid (show ms.length ≤ 1024 by omega)
  rw [hlm] at hmx R1 T1 ⊢
  clear h hok hrd hms hlm
  simp only [ActD.val]
  go_enter Try.func27, Try.ntmps27
  go_wp2_with fail
  generalize w.alloc _ = W at *
  obtain ⟨⟨a0, a1, a2, a3, a4, a5, a6⟩, _⟩ := blk7 G1.out
  obtain ⟨l', ⟨mw, mv, mo, mt, mk⟩, hL⟩ : ∃ l' m, closeL l ch = (l', m) := ⟨_, _, rfl⟩
  have HL := hid hL
  refine (rclose_all R1.out HL1.out HBG.out ch).mono ?_
  rw [HMS.out, HL.out]
  rintro e w1 ⟨v1, wv1, rfl, ho1, hr1, hf1⟩
  simp only at ho1 hr1
  obtain ⟨G', t2, hg2⟩ := T1.out.outR hf1 ho1
  have T2 := hid t2
  have HG2 := hid hg2
  have F1 := hid hf1
  obtain ⟨A1, n1, c1, rfl⟩ := hr1.shape
  have ROW1 := hid hr1
  have HWL := hid (Nat.lt_of_lt_of_le (heap_lt G1.out) hf1.size)
  have HFL := hid T1.out.is.lt
  have hwl := HWL.out
  clear a0 a1 a2 a3 a4 a5 a6 t2 hg2 hf1 ho1 hr1 hL
  simp only [tup2, Mv.val]
  go_wp2_with fail
  have FX := hid ((Fr.refl (S := E0) (w := w1)).alloc (.cells #[.bool mw, .int .i64 mv, .bool mo, .int .i64 mt, .slice A1 n1 c1] 32))
  have X1 := hid (heap_alloc_new w1 (.cells #[.bool mw, .int .i64 mv, .bool mo, .int .i64 mt, .slice A1 n1 c1] 32))
  generalize w1.alloc _ = W1 at *
  have T2' := hid (T2.out.e0 (FX.out.drew))
  have S0 := hid (keepBM (w := W1.drew) (F1.out.trans FX.out |>.heapAt G1.out (fun x => x)) X1.out)
  go_region_held3 (fun w' => w'.cell? ⟨w.heap.size, 1, none⟩ = some (.int .i64 ch) ∧ w'.cell? ⟨w1.heap.size, 0, none⟩ = some (.bool mw) ∧ w'.cell? ⟨w1.heap.size, 1, none⟩ = some (.int .i64 mv) ∧ w'.cell? ⟨w1.heap.size, 2, none⟩ = some (.bool mo) ∧ w'.cell? ⟨w1.heap.size, 3, none⟩ = some (.int .i64 mt) ∧ w'.cell? ⟨w1.heap.size, 4, none⟩ = some (.slice A1 n1 c1))
    (with_reducible first | exact S0.out | exact k1.out | exact k2.out)
    (first
      | (go_at_call 30; ((with_reducible refine (close_at T2'.out HOK.out (by omega) ch HL.out).mono ?_); rintro e w2 ⟨wv2, rfl, ⟨H2, hr2⟩, F', t3, hf3, hfr⟩); obtain ⟨A2, n2, c2, rfl⟩ := hr2.shape; have T3 := hid t3; have HF3 := hid hf3; have HFR := hid hfr; have ROWB := hid hr2; have k1 := hid (keepBM (HFR.out.heapAt (w := W1.drew) ((F1.out.trans FX.out).heapAt G1.out (fun x => x)) (fun hq => Nat.lt_irrefl _ (HFw.out _ hq))) (HFR.out.heapAt (w := W1.drew) X1.out (fun hq => Nat.lt_irrefl _ (Nat.lt_of_lt_of_le (HFL.out _ hq) F1.out.size)))); simp only [Mv.val]; clear t3 hf3 hfr hr2)
      | (go_at_call 51; ((with_reducible refine (same_agg mw mv mo mt mk A1 n1 c1 A2 n2 c2 w2 (rowKeep ROW1.out (FX.out.drew) HFR.out HFL.out) ROWB.out).mono ?_); rintro e w3 ⟨rfl, hf4⟩); have k2 := hid (show _ ∧ _ ∧ _ ∧ _ ∧ _ ∧ _ from ⟨hf4.cell k1.out.1 (fun x => x), hf4.cell k1.out.2.1 (fun x => x), hf4.cell k1.out.2.2.1 (fun x => x), hf4.cell k1.out.2.2.2.1 (fun x => x), hf4.cell k1.out.2.2.2.2.1 (fun x => x), hf4.cell k1.out.2.2.2.2.2 (fun x => x)⟩); have F4 := hid hf4; clear hf4))
  all_goals
    have HD := hid (does_end FA.out (F1.out.trans FX.out.drew) HG2.out HF3.out (HFR.out.trans F4.out.e0) (T3.out.e0 F4.out))
    go_wp2_with fail
    go_ret2
    rw [HL.out]
    exact HD.out
end Go.Proofs.Yteffmnohgnmanaa
/- A script of acts on both: what is so behind each. -/
namespace Go.Proofs.Yteffmnohgnmanaa
open Go.RowKit
set_option linter.unusedVariables false
theorem does_all {w : World} {F G : Nat → Prop} {g N : Nat} {l : List Ch} {v : Value} (h : Both w F G g l v l) (hok : Ok N l) (hN : N + 1 ≤ 4194304) (a : ActD) :
    Calls Try.prog 27 #[.pointer (some ⟨g, 0, none⟩), v, a.val] w (DoesPost F G g (actL l a) w) := by
  obtain ⟨kind, ch, s, gn, av, c, send⟩ := a
  by_cases h0 : kind = 0
  · subst h0; exact does_make h hok hN ch s gn av c send
  by_cases h1 : kind = 1
  · subst h1; exact does_send h hok hN ch s gn av c send
  by_cases h2 : kind = 2
  · subst h2; exact does_recv h hok hN ch s gn av c send
  by_cases h3 : kind = 3
  · subst h3; exact does_close h hok hN ch s gn av c send
  by_cases h4 : kind = 4
  · subst h4
    cases hft : fitsL l ch ⟨s, gn, c, av⟩ send with
    | true => exact does_wait h hok hN ch s gn av c send hft
    | false => exact does_waitno h hok hN ch s gn av c send hft
  by_cases h5 : kind = 5
  · subst h5; exact does_leave h hok hN ch s gn av c send
  by_cases h6 : kind = 6
  · subst h6; exact does_goes h hok hN ch s gn av c send
  · exact does_else h hok hN kind ch s gn av c (by omega) send
structure Play (w0 w : World) (F G : Nat → Prop) (g : Nat) (v : Value) (l : List Ch) (N : Nat) : Prop where
  both : Both w F G g l v l
  newF : ∀ k, F k → w0.heap.size ≤ k
  newG : ∀ k, G k → w0.heap.size ≤ k
  fr : Fr E0 w0 w
  ok : Ok N l
theorem Play.e0 {w0 w w' : World} {F G : Nat → Prop} {g N : Nat} {v : Value} {l : List Ch} (h : Play w0 w F G g v l N) (hf : Fr E0 w w') : Play w0 w' F G g v l N := ⟨h.both.e0 hf, h.newF, h.newG, h.fr.trans hf, h.ok⟩
def PlayPost (w0 w : World) (F G : Nat → Prop) (g : Nat) (l' : List Ch) (N : Nat) (e : Ending) (w' : World) : Prop :=
  ∃ v' F' G', e = .returned (.tuple #[v', .bool true]) ∧ Play w0 w' F' G' g v' l' N ∧ (∀ k, F' k → F k ∨ w.heap.size ≤ k) ∧ (∀ k, G' k → G k ∨ w.heap.size ≤ k) ∧ Fr F w w'
theorem play_does {w0 w : World} {F G : Nat → Prop} {g N : Nat} {v : Value} {l : List Ch} (h : Play w0 w F G g v l N) (hN : N + 1 ≤ 4194304) (a : ActD) :
    Calls Try.prog 27 #[.pointer (some ⟨g, 0, none⟩), v, a.val] w (PlayPost w0 w F G g (actL l a) (N + 1)) := by
  refine (does_all h.both h.ok hN a).mono ?_
  rintro e w' ⟨v', F', G', he, hb, hF, hG, hf⟩
  have hs := h.fr.size
  refine ⟨v', F', G', he, ⟨hb, fun k hk => ?_, fun k hk => ?_, h.fr.trans' hf (fun k hk => .inr (h.newF k hk)), h.ok.act a⟩, hF, hG, hf⟩
  · rcases hF k hk with hx | hx
    · exact h.newF k hx
    · omega
  · rcases hG k hk with hx | hx
    · exact h.newG k hx
    · omega
/-- The beginning: no channels. -/
theorem Play.start {w0 w : World} {F : Nat → Prop} {g : Nat} (h : Mine w0 w F g []) : Play w0 (w.alloc (.cells #[] 67)) F (fun k => w.heap.size ≤ k ∧ k < (w.alloc (.cells #[] 67)).heap.size) g (.slice (some ⟨w.heap.size, 0, none⟩) 0 0) [] 0 := by
  have hf : Fr E0 w (w.alloc (.cells #[] 67)) := Fr.refl.alloc _
  have ho : OwnCs (w.alloc (.cells #[] 67)) (New w) (.slice (some ⟨w.heap.size, 0, none⟩) 0 0) [] := ⟨rowF_empty w 67 5, fun m hm => by simp at hm, by simp⟩
  refine ⟨⟨h.is.fr hf (fun _ _ x => x), ⟨[], ho.restrict.mono (fun k hk => ⟨hk.1, hk.2⟩), rfl⟩, fun k hk => hk.2, fun k hk hF => ?_⟩, h.new, fun k hk => ?_, h.fr.trans hf, ok_nil⟩
  · have := h.lt k hF; omega
  · have := h.fr.size; omega
/-! ### a list of acts that is read -/
def actsV (l : List ActD) : List Value := l.flatMap ActD.cells
theorem actsV_len (l : List ActD) : (actsV l).length = l.length * 7 := flat_len (f := ActD.cells) (sz := 7) (fun _ => rfl) l
theorem RdL.act {w : World} {b o k : Nat} {l : List ActD} {x : ActD} (h : RdL w b o (actsV l)) (hx : l[k]? = some x) :
    w.cell? ⟨b, o + k * 7, none⟩ = some (.int .i64 x.kind) ∧ w.cell? ⟨b, o + k * 7 + 1, none⟩ = some (.int .i64 x.ch) ∧ w.cell? ⟨b, o + k * 7 + 2, none⟩ = some (.int .i64 x.s) ∧ w.cell? ⟨b, o + k * 7 + 3, none⟩ = some (.int .i64 x.g) ∧ w.cell? ⟨b, o + k * 7 + 4, none⟩ = some (.int .i64 x.v) ∧ w.cell? ⟨b, o + k * 7 + 5, none⟩ = some (.int .i64 x.c) ∧ w.cell? ⟨b, o + k * 7 + 6, none⟩ = some (.bool x.send) := by
  have hg : ∀ j (u : Value), x.cells[j]? = some u → j < 7 → w.cell? ⟨b, o + (k * 7 + j), none⟩ = some u := fun j u hu hj => h _ _ ((flat_get (f := ActD.cells) (sz := 7) (fun _ => rfl) l k j x hx hj).trans hu)
  refine ⟨hg 0 _ rfl (by omega), ?_, ?_, ?_, ?_, ?_, ?_⟩ <;> rw [Nat.add_assoc]
  · exact hg 1 _ rfl (by omega)
  · exact hg 2 _ rfl (by omega)
  · exact hg 3 _ rfl (by omega)
  · exact hg 4 _ rfl (by omega)
  · exact hg 5 _ rfl (by omega)
  · exact hg 6 _ rfl (by omega)
theorem RdA.actAt {w : World} {A : Option Addr} {l : List ActD} {k : Nat} {x : ActD} (h : RdA w A (actsV l)) (hx : l[k]? = some x) : ∃ b o, A = some ⟨b, o, none⟩ ∧ RdL w b o (actsV l) := by
  rcases h with h | h
  · have h2 := congrArg List.length h
    have h3 := lt_of_get hx
    rw [actsV_len] at h2
    have h4 : l.length * 7 = 0 := h2
    omega
  · exact h
theorem play_does7 {w0 w : World} {F G : Nat → Prop} {g N : Nat} {v : Value} {l : List Ch} (h : Play w0 w F G g v l N) (hN : N + 1 ≤ 4194304) (x : ActD) :
    Calls Try.prog 27 #[.pointer (some ⟨g, 0, none⟩), v, .agg #[.int .i64 x.kind, .int .i64 x.ch, .int .i64 x.s, .int .i64 x.g, .int .i64 x.v, .int .i64 x.c, .bool x.send]] w (PlayPost w0 w F G g (actL l x) (N + 1)) := play_does h hN x
theorem told7 {w0 w : World} {F G : Nat → Prop} {g N : Nat} {v : Value} {l : List Ch} (h : Play w0 w F G g v l N) (hN : N ≤ 4194304) (kind ch s gn av c : Int) (send : Bool) :
    Calls Try.prog 28 #[.pointer (some ⟨g, 0, none⟩), v, .agg #[.int .i64 kind, .int .i64 ch, .int .i64 s, .int .i64 gn, .int .i64 av, .int .i64 c, .bool send]] w (Ret (.bool true) E0 w) := told_ok h.both h.ok hN ⟨kind, ch, s, gn, av, c, send⟩
set_option maxRecDepth 8000 in
set_option maxHeartbeats 4000000 in
theorem plays_walk (acts : List ActD) (sv : Value) (w : World) (hs : RdV w sv 7 (actsV acts)) (hsz : acts.length ≤ 1048576) : Calls Try.prog 5 #[sv] w (Ret (.bool true) E0 w) := by
  obtain ⟨A, n, c, rfl, hl, _, _, hr⟩ := hs
  obtain rfl : acts.length = n := by rw [actsV_len] at hl; omega
  have HR := hid hr
  clear hl hr
  go_enter Try.func5, Try.ntmps5
  go_wp2_with fail
  refine (new_ok w).mono ?_
  rintro e w1 ⟨g, rfl, hi, hf⟩
  have M1 := hid (Mine.mine_new hi hf)
  clear hi hf
  go_wp2_with fail
  refine (lives_ok w1).mono ?_
  rintro e w2 ⟨rfl, hf⟩
  have P0 := hid (Play.start (M1.out.e0 hf))
  clear hf
  go_wp2_with fail
  generalize hW3 : w2.alloc (.cells #[] 67) = w3 at *
  clear hW3
  go_loopw [4, 5, 6] (fun v ok i wr => ∃ (k : Nat) (F G : Nat → Prop) (l : List Ch), i = .int .i64 k ∧ ok = .bool true ∧ k ≤ acts.length ∧ Play w wr F G g v l k) (fun _ _ i _ => acts.length - (intOf i).toNat)
  case atStart => exact ⟨0, _, _, [], rfl, rfl, Nat.zero_le _, P0.out⟩
  case round =>
    obtain ⟨k, F, G, l, rfl, rfl, hk, hp⟩ := hrel
    have HP := hid hp
    clear hp
    by_cases hlt : k < acts.length
    · obtain ⟨x, hx⟩ : ∃ x, acts[k]? = some x := ⟨acts[k], List.getElem?_eq_getElem hlt⟩
      obtain ⟨b, o, rfl, r⟩ := HR.out.actAt hx
      obtain ⟨c0, c1, c2, c3, c4, c5, c6⟩ := (r.fr HP.out.fr (fun x => x)).act hx
      clear r hx
      go_wp2_with fail
      refine (play_does7 HP.out (by omega) x).mono ?_
      rintro e w4 ⟨v4, F4, G4, rfl, hp4, _, _, _⟩
      have HP4 := hid hp4
      clear hp4 c0 c1 c2 c3 c4 c5 c6
      go_wp2_with fail
      go_roundw
      case rel => exact ⟨k + 1, F4, G4, _, by simp, rfl, by omega, HP4.out⟩
      case measure => simp [intOf]; omega
    · obtain rfl : k = acts.length := by omega
      clear hlt hk
      go_wp2_with fail
      refine (told7 HP.out (by omega) 0 1 0 0 0 0 false).mono ?_
      rintro e w5 ⟨rfl, hf5⟩
      have HP5 := hid (HP.out.e0 hf5)
      clear hf5
      go_wp2_with fail
      refine (told7 HP5.out (by omega) 0 (-1) 0 0 0 0 false).mono ?_
      rintro e w6 ⟨rfl, hf6⟩
      have F6 := hid (HP5.out.fr.trans hf6)
      clear hf6
      go_wp2_with fail
      go_ret
      exact ⟨rfl, F6.out⟩
end Go.Proofs.Yteffmnohgnmanaa
/- What a list of acts reads as, as plain data. -/
namespace Go.Proofs.Yteffmnohgnmanaa
open Go.ChangeShapes Go.WideShapes Go.ChangeAt Go.RowKit
theorem cells56 : Try.prog.cellsOf 56 = 7 := by kernel_rfl
theorem opens_act : Opens 56 ActD.cells (fun _ _ => True) (fun _ => 1) :=
  (opens_struct (total := 7) Try.underlying56 cells56 (.cons (sz := 1) rfl cells3 opens_3 (.cons (sz := 1) rfl cells2 opens_2 (.cons (sz := 2) rfl cells37 opens_gid (.cons (sz := 1) rfl cells2 opens_2 (.cons (sz := 1) rfl cells3 opens_3 (.cons (sz := 1) rfl cells4 opens_4 (opensF_nil 7)))))))).map
    (fun a => ⟨a.1, a.2.1, a.2.2.1.1, a.2.2.1.2, a.2.2.2.1, a.2.2.2.2.1, a.2.2.2.2.2.1⟩) (fun _ => rfl) (fun _ _ _ => trivial) (fun _ => by simp)
theorem opens_acts : Opens 51 (fun vl : Value × List ActD => [vl.1]) (fun W vl => RdV W vl.1 7 (actsV vl.2)) (fun vl => vl.2.length + 1) :=
  (opens_slice Try.underlying51 cells56 (by decide) (fun _ => rfl) opens_act).map id (fun _ => rfl) (fun _ _ h => h.1) (fun a => by simp [sum_one])
end Go.Proofs.Yteffmnohgnmanaa
