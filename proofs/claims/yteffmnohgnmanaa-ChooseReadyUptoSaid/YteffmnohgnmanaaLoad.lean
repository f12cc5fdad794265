/- channel.Load. -/
import Derived.Test.YteffmnohgnmanaaMay
import Derived.Test.YteffmnohgnmanaaCarry
import Derived.Deep.CutRange
namespace Go.Proofs.Yteffmnohgnmanaa
open Go.RowKit
attribute [local go_sem ↓] Go.wp_at_zero Go.wp_at_succ
theorem loadNo1 (x : CM) (w : World) (hx : x.Rd w) (hf : x.ch.Fit) : Calls Try.prog 75 (#[x.val] ++ #[]) w (Ret (.bool (!mayC x.ch)) E0 w) := by
  have HX := hid hx
  obtain ⟨ch, vv, sv, rv⟩ := x
  obtain ⟨A1, n1, c1, e1, _⟩ := hx.vals
  obtain ⟨A2, n2, c2, e2, _⟩ := hx.snd
  obtain ⟨A3, n3, c3, e3, _⟩ := hx.rcv
  simp only at e1 e2 e3
  subst e1 e2 e3
  clear hx
  simp only [CM.val]
  go_enter Try.func75, Try.ntmps75
  go_wp2_with fail
  refine (may_ok _ _ (HX.out.fr (Fr.refl.alloc _)) hf).mono ?_
  rintro e w1 ⟨rfl, hf1⟩
  have F1 := hid ((Fr.refl.alloc _).trans hf1)
  clear hf1
  go_wp2
  go_ret
  exact ⟨by rfl, F1.out⟩
set_option maxHeartbeats 400000 in
theorem indexL (A : Option Addr) (n c : Nat) (l : List CM) (w : World) (hl : l.length = n) (hn : n ≤ maxLen) (hc : RdA w A (l.flatMap CM.cells)) (he : ∀ m ∈ l, m.Rd w) (hq : ∀ m ∈ l, m.ch.Fit) :
    Calls Try.prog 87 #[.slice A n c, .func (.func 75) #[] #[]] w (Ret (.int .i64 (idxv (fun m => !mayC m.ch) l)) E0 w) := by
  unfold maxLen at hn
  have hK := enters 75 (by kernel_rfl)
  go_enter Try.func87, Try.ntmps87
  go_wp2
  go_loopw [8] (fun i wr => ∃ k : Nat, k ≤ n ∧ i = .int .i64 k ∧ Fr E0 w wr ∧ ∀ j, j < k → ∀ x : CM, l[j]? = some x → (!mayC x.ch) = false) (fun i _ => n - (intOf i).toNat)
  case atStart => exact ⟨0, Nat.zero_le _, rfl, Fr.refl, fun j hj => absurd hj (by omega)⟩
  case round =>
    obtain ⟨k, hk, rfl, hf, hno⟩ := hrel
    have H := hid hno; clear hno
    by_cases hlt : k < n
    · obtain ⟨x, hx⟩ : ∃ x, l[k]? = some x := ⟨l[k], List.getElem?_eq_getElem (by omega)⟩
      obtain ⟨b, o, rfl, hr⟩ := hc.cmAt hx
      obtain ⟨g0, g1, g2, g3, g4⟩ := (hr.fr hf (fun x => x)).cm hx
      have HR := hid ((he x (List.mem_of_getElem? hx)).fr hf)
      have HQ := hid (hq x (List.mem_of_getElem? hx))
      clear hr hc he hq
      go_wp2_with fail
      refine (loadNo1 x wr HR.out HQ.out).mono ?_
      rintro e w1 ⟨rfl, hf1⟩
      have F1 := hid (hf.trans hf1)
      clear hf hf1
      cases hpx : (!mayC x.ch) with
      | true =>
        have HX := hid hpx; clear hpx
        go_wp2
        go_ret
        exact ⟨by rw [idxv_hit (p := fun m : CM => !mayC m.ch) hx HX.out H.out]; rfl, F1.out⟩
      | false =>
        have HX := hid hpx; clear hpx
        go_wp2
        go_roundw
        case rel => exact ⟨k + 1, by omega, by go_num, F1.out, miss_succ (p := fun m : CM => !mayC m.ch) hx HX.out H.out⟩
        case measure => simp [intOf]; omega
    · have F := hid hf
      go_wp2
      go_ret
      exact ⟨by rw [idxv_miss (by omega) H.out]; rfl, F.out⟩
set_option maxHeartbeats 400000 in
theorem containsL (A : Option Addr) (n c : Nat) (l : List CM) (w : World) (hl : l.length = n) (hn : n ≤ maxLen) (hc : RdA w A (l.flatMap CM.cells)) (he : ∀ m ∈ l, m.Rd w) (hq : ∀ m ∈ l, m.ch.Fit) :
    Calls Try.prog 71 #[.slice A n c, .func (.func 75) #[] #[]] w (Ret (.bool (!(chs l).all mayC)) E0 w) := by
  have hi := idxv_any (fun m : CM => !mayC m.ch) l
  have e : (!(chs l).all mayC) = l.any (fun m => !mayC m.ch) := by unfold chs; rw [List.all_map, List.not_all_eq_any_not]; rfl
  rw [e]
  generalize l.any (fun m => !mayC m.ch) = r at *
  clear e
  go_enter Try.func71, Try.ntmps71
  go_wp2_with (go_at_call 87; refine (indexL A n c l w hl hn hc he hq).mono ?_; rintro e w1 ⟨rfl, hf1⟩; have F1 := hid hf1; clear hf1)
  go_ret
  exact ⟨by rfl, F1.out⟩
/-- A channel of its own is put behind the others. -/
theorem pushOwn {w w1 : World} {F : Nat → Prop} {g n H : Nat} {v v' : Value} {ms : List CM} {m : CM} (h : Chs w F g v ms) (hm : m.Own w (fun k => H ≤ k)) (hnd : m.blocks.Nodup) (hH : ∀ k, F k → k < H) (hHw : H ≤ w.heap.size) (o : Obj) (hrow : w1.ownsRow 0 67 5 v' n (ms.flatMap CM.cells ++ m.cells))
    (hg : (w.alloc o).grownBy w1 v.ownBlock) (hat : v'.ownBlock = v.ownBlock ∨ v'.ownBlock = some (w.alloc o).heap.size) :
    Chs (w1.setCell ⟨g, 1, none⟩ v') (fun k => (F k ∨ H ≤ k) ∧ k < w1.heap.size) g v' (ms ++ [m]) ∧ Fr F w (w1.setCell ⟨g, 1, none⟩ v') := by
  have h0 := h.fr (Fr.refl (S := E0) |>.alloc o) (fun _ _ x => x)
  have hgl : g < w.heap.size := h.lt g h.mine
  have hng : v.ownBlock ≠ some g := by
    intro hx
    obtain ⟨cur, hc⟩ := h.own.row.heap hx
    rw [h.obj] at hc; injection hc with hc; injection hc with _ hc _; exact absurd hc (by decide)
  have hobj1 : w1.heap[g]? = some (.cells #[.bool true, v] 108 (0, 0)) := by
    rw [hg.block g (by simp; omega) (fun hx => hng hx.symm)]; exact h0.obj
  have hm1 : m.Own (w.alloc o) (fun k => F k ∨ H ≤ k) := (hm.fr (Fr.refl (S := E0) |>.alloc o) (fun _ _ x => x)).mono (fun k hk => .inr hk)
  have hown : OwnCs w1 (fun k => F k ∨ H ≤ k) v' (ms ++ [m]) :=
    (h0.own.mono (F' := fun k => F k ∨ H ≤ k) (fun k hk => .inl hk)).push hm1 hnd (fun k hk q hq hkq => by
      have a := (hm.mem hk).1
      have b := hH k ((h.own.each q hq).mem hkq).1
      omega) hrow hg hat (.inr (by simp; omega))
  have hgs := hg.size
  simp at hgs
  refine ⟨⟨?_, ⟨.inl h.mine, by omega⟩, fun k hk => by simpa using hk.2, hown.restrict.setOther hobj1⟩, ?_⟩
  · exact heap_setCell_same w1 g 1 _ _ v' hobj1
  · exact (((Fr.refl (S := F) (w := w)).alloc o).grown hg (fun k hk => .inl (h.own.row.2 k hk))).setCell (p := ⟨g, 1, none⟩) v' (.inl h.mine)
def loadNo (l : List Ch) : Bool := decide (1024 < l.length) || !l.all mayC
/-- What Load answers. -/
def LoadPost (l : List Ch) (w : World) (e : Ending) (w' : World) : Prop :=
  Fr E0 w w' ∧ ((loadNo l = true ∧ e = .returned (tup2 (.pointer none) (.int .i64 110))) ∨
    (loadNo l = false ∧ ∃ g F, e = .returned (tup2 (.pointer (some ⟨g, 0, none⟩)) (.int .i64 0)) ∧ IsCh w' F g l ∧ ∀ k, F k → w.heap.size ≤ k))
theorem own_agg (ch : Ch) (A1 A2 A3 : Option Addr) (n1 c1 n2 c2 n3 c3 : Nat) (w : World) (h : CM.Rd w ⟨ch, .slice A1 n1 c1, .slice A2 n2 c2, .slice A3 n3 c3⟩) (hf : ch.Fit) : Calls Try.prog 69 #[.agg #[.int .i64 ch.cap, .slice A1 n1 c1, .slice A2 n2 c2, .slice A3 n3 c3, .bool ch.cl]] w (OwnPost ⟨ch, .slice A1 n1 c1, .slice A2 n2 c2, .slice A3 n3 c3⟩ w) := own_ok _ w h hf
set_option maxHeartbeats 4000000 in
theorem load_ok (v : Value) (ms : List CM) (w : World) (h : RdCs w v ms) (hfit : ∀ m ∈ ms, m.ch.Fit) : Calls Try.prog 40 #[v] w (LoadPost (chs ms) w) := by
  obtain ⟨⟨A, n, c, rfl, hl, hnc, hcm, hr⟩, he⟩ := h
  obtain rfl : ms.length = n := by rw [cms_len] at hl; omega
  have hn : ms.length ≤ maxLen := Nat.le_trans hnc hcm
  have HR := hid hr
  have HE := hid he
  have HF := hid hfit
  clear hl hr he hfit hnc hcm
  by_cases h1 : 1024 < ms.length
  · have hno : loadNo (chs ms) = true := by simp [loadNo, chs_len, h1]
    have h1' : (1024 : Int) < (ms.length : Int) := by omega
    have hn' : ms.length ≤ 2 ^ 63 - 1 := hn
    go_enter Try.func40, Try.ntmps40
    go_wp2_with fail
    go_ret2
    exact ⟨Fr.refl, .inl ⟨hno, rfl⟩⟩
  have h1' : ¬ (1024 : Int) < (ms.length : Int) := by omega
  cases h2 : (chs ms).all mayC with
  | false =>
    have hno : loadNo (chs ms) = true := by simp [loadNo, h2]
    have H2 := hid h2
    clear h2
    go_enter Try.func40, Try.ntmps40
    go_wp2_with (go_at_call 71; refine (containsL A ms.length c ms w rfl hn HR.out HE.out HF.out).mono ?_; rintro e w1 ⟨rfl, hf1⟩; rw [H2.out]; have F1 := hid hf1; clear hf1)
    go_ret2
    exact ⟨F1.out, .inl ⟨hno, rfl⟩⟩
  | true =>
    have hno : loadNo (chs ms) = false := by simp [loadNo, h2, chs_len]; omega
    have H2 := hid h2
    clear h2
    obtain ⟨i0, hi0, hz0, hz1, hz2⟩ := info_parts info67
    go_enter Try.func40, Try.ntmps40
    go_wp2_with (first
      | (go_at_call 71; refine (containsL A ms.length c ms w rfl hn HR.out HE.out HF.out).mono ?_; rintro e w1 ⟨rfl, hf1⟩; rw [H2.out]; have F1 := hid hf1; clear hf1)
      | (go_at_call 20; refine (new_ok w1).mono ?_; rintro e w2 ⟨g, rfl, his2, hf2⟩; have I2 := hid his2; have F2 := hid (F1.out.trans hf2); have S1 := hid F1.out.size; clear his2 hf2))
    have Z2 := hid (Nat.le_trans F1.out.size (show w1.heap.size ≤ w2.heap.size from by obtain ⟨_, _, hc, _⟩ := I2.out; have := hc.lt g hc.mine; have := hc.mine.1; omega))
    go_loopw [17] (fun i wr => ∃ (k : Nat) (F : Nat → Prop) (ov : Value) (ms' : List CM), i = .int .i64 k ∧ k ≤ ms.length ∧ Chs wr F g ov ms' ∧ chs ms' = (chs ms).take k ∧ (∀ q, F q → w.heap.size ≤ q) ∧ Fr E0 w wr) (fun i _ => ms.length - (intOf i).toNat)
    case atStart =>
      obtain ⟨ov, ms', hc, hm⟩ := I2.out
      exact ⟨0, _, ov, ms', rfl, Nat.zero_le _, hc, hm, fun q hq => Nat.le_trans S1.out hq.1, F2.out⟩
    case round =>
      obtain ⟨k, F, ov, ms', rfl, hk, hch, htk, hnew, hfr⟩ := hrel
      have HC := hid hch
      have HT := hid htk
      have HN0 := hid hnew
      have HFR := hid hfr
      clear hch htk hnew hfr
      by_cases hlt : k < ms.length
      · obtain ⟨m, hm⟩ : ∃ m, ms[k]? = some m := ⟨ms[k], List.getElem?_eq_getElem hlt⟩
        obtain ⟨b, o, rfl, hr⟩ := HR.out.cmAt hm
        obtain ⟨g0, g1, g2, g3, g4⟩ := (hr.fr HFR.out (fun x => x)).cm hm
        have HM := hid hm
        have HMR := hid ((HE.out m (List.mem_of_getElem? hm)).fr HFR.out)
        have hmf := HF.out m (List.mem_of_getElem? hm)
        have hml : ms'.length = k := by have := congrArg List.length HT.out; rw [chs_len, List.length_take, chs_len] at this; omega
        obtain ⟨OA, Oc, eo, _, _, _⟩ := HC.out.own.row.read (n := k) (by decide) (by rw [cms_len, hml])
        subst eo
        obtain ⟨A1, n1, c1, e1, _⟩ := HMR.out.vals
        obtain ⟨A2, n2, c2, e2, _⟩ := HMR.out.snd
        obtain ⟨A3, n3, c3, e3, _⟩ := HMR.out.rcv
        obtain ⟨ch, vv, sv, rv⟩ := m
        simp only at e1 e2 e3
        subst e1 e2 e3
        simp only at g0 g1 g2 g3 g4
        have HML := hid hml
        have hgl : g < wr.heap.size := HC.out.lt g HC.out.mine
        clear hr hm hml
        go_upto_region 7 with fail
        have FA := hid ((Fr.refl (S := E0) (w := wr)).alloc (.cells #[.int .i64 ch.cap, .slice A1 n1 c1, .slice A2 n2 c2, .slice A3 n3 c3, .bool ch.cl] 67)).drew
        have K0 := hid (show (wr.alloc (.cells #[.int .i64 ch.cap, .slice A1 n1 c1, .slice A2 n2 c2, .slice A3 n3 c3, .bool ch.cl] 67)).drew.heap[wr.heap.size]? = some (.cells #[.int .i64 ch.cap, .slice A1 n1 c1, .slice A2 n2 c2, .slice A3 n3 c3, .bool ch.cl] 67 (0, 0)) from heap_alloc_new wr _)
        obtain ⟨⟨k0, k1, k2, k3, k4⟩, _⟩ := blk5 K0.out
        have CA := hid (HC.out.fr FA.out (fun _ _ x => x))
        have l0 := CA.out.list
        clear g0 g1 g2 g3 g4
        have hnB : Hid (¬ (Value.slice OA k Oc).ownBlock = some wr.heap.size) := fun e => absurd (HC.out.lt _ (HC.out.own.row.2 _ e)) (Nat.lt_irrefl _)
        have hnG : Hid (¬ (Value.slice OA k Oc).ownBlock = some g) := fun e => by
          obtain ⟨cur, hc⟩ := HC.out.own.row.heap e
          rw [HC.out.obj] at hc; injection hc with hc; injection hc with _ hc _; exact absurd hc (by decide)
        have S0 := hid (And.intro l0 (blk5 K0.out).1)
        obtain ⟨_, _⟩ := S0.out
        go_region_law (first
          | (refine step_append_lies _ (by rfl) (.tmp 25) (.tmp 28) 52 (by rfl) 0 67 i0 (.agg #[.int .i64 0, .slice none 0 0, .slice none 0 0, .slice none 0 0, .bool false]) 5 88 Try.underlying52 hi0 hz0 hz1 hz2 rfl (by decide) (.slice OA k Oc) k (ms'.flatMap CM.cells) (by rfl) (C2.out.own.row.own (by decide) (by rw [cms_len, HML.out])) ⟨w1.heap.size, 0, none⟩ 1 1 [.int .i64 ch'.cap, .slice B1 p1 r1, .slice B2 p2 r2, .slice B3 p3 r3, .bool ch'.cl] (by rfl) (by rfl) (news1 _ _) hone.out (by decide) (by unfold maxLen; omega) (by omega) (Nat.zero_le _) (w1.heap.size + 1) (by simp) ?_; intro gb cap3 w3 hown3 hgrow3 hat3 hlt3; have FG := hid (Fr.refl.grown (S := fun q => (Value.slice OA k Oc).ownBlock = some q) hgrow3 (fun q hq => .inl hq)); have K3 := hid (FG.out.heapAt K2.out hnB.out); have O3 := hid (FG.out.heapAt C2.out.obj hnG.out); have l3 : w3.cell? ⟨g, 1, none⟩ = some (.slice OA k Oc) := FG.out.cell C2.out.list hnG.out; have z1 := frozen_of_row w3 g 1 _ _ O3.out; have HN := hid (And.intro hown3 (And.intro hgrow3 (And.intro hat3 hlt3))); clear hown3 hgrow3 hat3 hlt3)
          | (go_simp; go_at_call 69; ((with_reducible refine (own_agg ch A1 A2 A3 n1 c1 n2 c2 n3 c3 _ (HMR.out.fr FA.out) hmf).mono ?_); rintro e w1 ⟨⟨ch', v1, v2, v3⟩, rfl, hch, hown1, hnd1, hf1⟩); simp only at hch; subst hch; obtain ⟨B1, p1, r1, e1⟩ := hown1.vals.shape; obtain ⟨B2, p2, r2, e2⟩ := hown1.snd.shape; obtain ⟨B3, p3, r3, e3⟩ := hown1.rcv.shape; simp only at e1 e2 e3; subst e1 e2 e3; simp only [CM.val]; have C1 := hid (CA.out.fr hf1 (fun _ _ x => x)); have K1 := hid (hf1.heapAt K0.out (fun x => x)); have l1 := C1.out.list; have hg1 : g < w1.heap.size := C1.out.lt g C1.out.mine; have M1 := hid hown1; have ND1 := hid hnd1; have F1 := hid hf1; have FB := hid ((Fr.refl (S := E0) (w := w1)).alloc (.cells #[.int .i64 ch'.cap, .slice B1 p1 r1, .slice B2 p2 r2, .slice B3 p3 r3, .bool ch'.cl] 67)); have C2 := hid (C1.out.fr FB.out (fun _ _ x => x)); have K2 := hid (FB.out.heapAt K1.out (fun x => x));  have hone := hid (cm_oneCell M1.out); clear hown1 hnd1 hf1))
        all_goals
          have hz0 : wr.heap.size < w1.heap.size := Nat.lt_of_lt_of_le (by simp) F1.out.size
          have PW := hid (pushOwn (m := ⟨ch', .slice B1 p1 r1, .slice B2 p2 r2, .slice B3 p3 r3⟩) (H := wr.heap.size) C1.out (M1.out.mono (fun q hq => by unfold New at hq; simp at hq; omega)) ND1.out HC.out.lt (Nat.le_of_lt hz0) _ HN.out.1 HN.out.2.1 (hatOf HN.out.2.2.1 (by simp)))
          have FE := hid (((HFR.out.trans FA.out).trans F1.out).trans' PW.out.2 (fun q hq => .inr (HN0.out q hq)))
          go_wp2_with fail
          go_roundw
          case rel => exact ⟨k + 1, _, _, _, by simp, by omega, PW.out.1, by rw [chs_push, HT.out, List.take_add_one, chs_get HM.out]; rfl, fun q hq => hq.1.elim (HN0.out q) (fun x => Nat.le_trans HFR.out.size x), FE.out⟩
          case measure => simp [intOf]; omega
      · obtain rfl : k = ms.length := by omega
        clear hlt hk
        go_wp2_with fail
        go_ret2
        exact ⟨HFR.out, .inr ⟨hno, g, F, rfl, ⟨_, _, HC.out, by rw [HT.out, ← chs_len, List.take_length]⟩, HN0.out⟩⟩
end Go.Proofs.Yteffmnohgnmanaa
