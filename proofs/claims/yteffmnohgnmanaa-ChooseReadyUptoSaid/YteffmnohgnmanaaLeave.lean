/- (*Chans).Leave: who leaves waits nowhere more. -/
import Derived.Test.YteffmnohgnmanaaPut
import Derived.Test.YteffmnohgnmanaaDelF
namespace Go.Proofs.Yteffmnohgnmanaa
open Go.RowKit
def wout (gs gg : Int) (l : List Wt) : List Wt := l.filter fun x => !isG gs gg x
def leaveCh (gs gg : Int) (c : Ch) : Ch := { c with snd := wout gs gg c.snd, rcv := wout gs gg c.rcv }
def leaveL (gs gg : Int) (l : List Ch) : List Ch := l.map (leaveCh gs gg)
def nOut (gs gg : Int) (c : Ch) : Nat := (c.snd.length + c.rcv.length) - ((wout gs gg c.snd).length + (wout gs gg c.rcv).length)
def nOutL (gs gg : Int) (l : List Ch) : Nat := (l.map (nOut gs gg)).sum
theorem wout_le (gs gg : Int) (l : List Wt) : (wout gs gg l).length ≤ l.length := List.length_filter_le _ _
theorem leave_none (gs gg : Int) (w : World) : Calls Try.prog 64 #[.pointer none, .agg #[.int .i64 gs, .int .i64 gg]] w (Ret (.int .i64 0) E0 w) := by
  go_enter Try.func64, Try.ntmps64
  go_wp2
  go_ret
  exact ⟨rfl, Fr.refl.alloc _⟩
/-- The first k have been left. -/
def leftTo (gs gg : Int) (l : List Ch) (k : Nat) : List Ch := leaveL gs gg (l.take k) ++ l.drop k
theorem leftTo_get {gs gg : Int} {l : List Ch} {k : Nat} {c : Ch} (h : l[k]? = some c) : (leftTo gs gg l k)[k]? = some c := by
  have hk := lt_of_get h
  have e : (leaveL gs gg (l.take k)).length = k := by simp [leaveL]; omega
  unfold leftTo
  rw [List.getElem?_append_right (by omega), e, Nat.sub_self, List.getElem?_drop, Nat.add_zero, h]
theorem leftTo_set {gs gg : Int} {l : List Ch} {k : Nat} {c : Ch} (h : l[k]? = some c) : (leftTo gs gg l k).set k (leaveCh gs gg c) = leftTo gs gg l (k + 1) := by
  have hk := lt_of_get h
  have e : (leaveL gs gg (l.take k)).length = k := by simp [leaveL]; omega
  unfold leftTo
  rw [List.set_append_right _ _ (by omega), e, Nat.sub_self, List.take_add_one, h]
  have hd : l.drop k = c :: l.drop (k + 1) := by
    rw [List.drop_eq_getElem_cons hk]
    rw [List.getElem?_eq_getElem hk] at h; cases h; rfl
  rw [hd, List.set_cons_zero]
  simp [leaveL]
theorem nOutL_succ {gs gg : Int} {l : List Ch} {k : Nat} {c : Ch} (h : l[k]? = some c) : nOutL gs gg (l.take (k + 1)) = nOutL gs gg (l.take k) + nOut gs gg c := by
  rw [List.take_add_one, h]; simp [nOutL]
theorem nOutL_le {gs gg : Int} {l : List Ch} (B : Nat) (h : ∀ c ∈ l, nOut gs gg c ≤ B) (k : Nat) : nOutL gs gg (l.take k) ≤ k * B := by
  induction k with
  | zero => simp [nOutL]
  | succ k ih =>
    cases hk : l[k]? with
    | none =>
      have e : l.take (k + 1) = l.take k := by rw [List.take_add_one, hk]; simp
      rw [e, Nat.add_mul]; omega
    | some c =>
      have := h c (List.mem_of_getElem? hk)
      rw [nOutL_succ hk, Nat.add_mul]; omega
theorem nOut_fit {gs gg : Int} {c : Ch} (hc : c.Fit) : nOut gs gg c ≤ 8796093022208 := by
  obtain ⟨h1, h2, h3⟩ := hc
  unfold nOut; omega
theorem nOutL_fit {gs gg : Int} {l : List Ch} (h : ∀ c ∈ l, c.Fit) {k : Nat} (hk : k ≤ 1024) : nOutL gs gg (l.take k) ≤ 9007199254740992 := by
  have := nOutL_le (gs := gs) (gg := gg) 8796093022208 (fun c hc => nOut_fit (h c hc)) k
  omega
/-- The channels l, kept at g by the slice v. -/
def IsChV (w : World) (F : Nat → Prop) (g : Nat) (v : Value) (l : List Ch) : Prop := ∃ ms, Chs w F g v ms ∧ chs ms = l
theorem IsChV.is {w : World} {F : Nat → Prop} {g : Nat} {v : Value} {l : List Ch} (h : IsChV w F g v l) : IsCh w F g l := by
  obtain ⟨ms, h1, h2⟩ := h; exact ⟨v, ms, h1, h2⟩
theorem IsChV.fr {w w' : World} {F S : Nat → Prop} {g : Nat} {v : Value} {l : List Ch} (h : IsChV w F g v l) (hf : Fr S w w') (hs : ∀ k, F k → ¬ S k) : IsChV w' F g v l := by
  obtain ⟨ms, h1, h2⟩ := h; exact ⟨ms, h1.fr hf hs, h2⟩
def LeavePostV (F : Nat → Prop) (g : Nat) (v : Value) (l : List Ch) (gs gg : Int) (w : World) (e : Ending) (w' : World) : Prop := e = .returned (.int .i64 (nOutL gs gg l)) ∧ IsChV w' F g v (leaveL gs gg l) ∧ Fr F w w'
def LeavePost (F : Nat → Prop) (g : Nat) (l : List Ch) (gs gg : Int) (w : World) (e : Ending) (w' : World) : Prop := e = .returned (.int .i64 (nOutL gs gg l)) ∧ IsCh w' F g (leaveL gs gg l) ∧ Fr F w w'
set_option maxHeartbeats 4000000 in
theorem leave_okV {w : World} {F : Nat → Prop} {g : Nat} {v : Value} {ms : List CM} (h : Chs w F g v ms) (gs gg : Int) (hn : ms.length ≤ 1024) (hfit : ∀ m ∈ ms, m.ch.Fit) :
    Calls Try.prog 64 #[.pointer (some ⟨g, 0, none⟩), .agg #[.int .i64 gs, .int .i64 gg]] w (LeavePostV F g v (chs ms) gs gg w) := by
  have hm := h.made
  have hl := h.list
  obtain ⟨A, cp, hv, hrd⟩ := h.rd
  subst hv
  have H := hid h
  have hgl : g < w.heap.size := h.lt g h.mine
  have hfit' : ∀ c ∈ chs ms, c.Fit := by
    intro c hc
    obtain ⟨m, hm, rfl⟩ := List.mem_map.1 hc
    exact hfit m hm
  have HFit := hid hfit'
  clear hrd h hfit'
  go_enter Try.func64, Try.ntmps64
  go_wp2_with (go_at_call 53; refine (is_made (g := g) (by rw [World.cell?_alloc_past _ _ _ hgl]; exact hm)).mono ?_; rintro e w1 ⟨rfl, rfl⟩)
  go_loopw [5, 18] (fun tn i wr => ∃ (k : Nat) (ms' : List CM), i = .int .i64 k ∧ k ≤ ms.length ∧ tn = .int .i64 (nOutL gs gg ((chs ms).take k)) ∧ chs ms' = leftTo gs gg (chs ms) k ∧ Chs wr F g (.slice A ms.length cp) ms' ∧ BoxG w.heap.size gs gg wr ∧ Fr F w wr) (fun _ i _ => ms.length - (intOf i).toNat)
  case atStart => exact ⟨0, ms, rfl, Nat.zero_le _, rfl, rfl, H.out.fr (Fr.refl (S := E0) |>.alloc _) (fun _ _ x => x), ⟨by rw [World.cell?_alloc_at _ _ _ _ rfl]; rfl, by rw [World.cell?_alloc_at _ _ _ _ rfl]; rfl⟩, Fr.refl.alloc _⟩
  case round =>
    obtain ⟨k, ms', rfl, hk, rfl, hms, hch, hbox, hfr⟩ := hrel
    have HM := hid hms
    have HC := hid hch
    have HB := hid hbox
    have HF := hid hfr
    clear hms hch hbox hfr
    by_cases hlt : k < ms.length
    · have hlen : ms'.length = ms.length := by have := congrArg List.length HM.out; rw [chs_len] at this; simp [leftTo, leaveL, chs_len] at this; omega
      obtain ⟨m, hmk⟩ : ∃ m, ms'[k]? = some m := ⟨ms'[k]'(by omega), List.getElem?_eq_getElem (by omega)⟩
      obtain ⟨c, hck⟩ : ∃ c, (chs ms)[k]? = some c := ⟨(chs ms)[k]'(by rw [chs_len]; omega), List.getElem?_eq_getElem (by rw [chs_len]; omega)⟩
      have hmc : m.ch = c := by
        have h1 := chs_get hmk
        rw [HM.out, leftTo_get hck] at h1
        exact (Option.some.inj h1).symm
      subst hmc
      have HCK := hid hck
      have hcf := HFit.out _ (List.mem_of_getElem? hck)
      have HCF := hid hcf
      obtain ⟨hf1, hf2, hf3⟩ := hcf
      obtain ⟨N, hN⟩ : ∃ N, N = nOutL gs gg ((chs ms).take k) := ⟨_, rfl⟩
      have hNb : N ≤ 9007199254740992 := by rw [hN]; exact nOutL_fit HFit.out (by omega)
      rw [← hN]
      have HN := hid hN
      clear hN hck
      have hrow := HC.out.own.row
      rcases hrow.form (by decide) (by rw [cms_len, hlen]) with ⟨hA, h0, _⟩ | ⟨L, cp', hA, hFL, hLlt, _, _, hr, hfz⟩
      · omega
      injection hA with e1 e2 e3
      subst e1 e3
      clear e2
      obtain ⟨g0, g1, g2, g3, g4⟩ := hr.cm hmk
      simp only [Nat.zero_add] at g0 g1 g2 g3 g4
      have hmd := HC.out.made
      have hli := HC.out.list
      have HO := hid (HC.out.own.each m (List.mem_of_getElem? hmk))
      have HK := hid hmk
      obtain ⟨A2, c2, es, _, hm2, _⟩ := HO.out.snd.read (by decide) (wts_len _)
      obtain ⟨A3, c3, er, _, hm3, _⟩ := HO.out.rcv.read (by decide) (wts_len _)
      rw [es] at g2
      rw [er] at g3
      have ES := hid es
      have ER := hid er
      clear es er hr hmk hrow g0 g1 g4 hm2 hm3 hlen
      go_wp2_with fail
      go_quiet (fail)
      have FW := hid ((Fr.refl (S := E0) (w := wr)).drewN nq)
      generalize wr.drewN nq = W1 at FW ⊢
      have C1 := hid (HC.out.fr FW.out (fun _ _ x => x))
      have B1 := hid (HB.out.fr FW.out (fun x => x))
      have F1 := hid (HF.out.trans FW.out.e0)
      have j2 : W1.cell? ⟨L, k * 5 + 2, none⟩ = some (.slice A2 m.ch.snd.length c2) := FW.out.cell g2 (fun x => x)
      have j3 : W1.cell? ⟨L, k * 5 + 3, none⟩ = some (.slice A3 m.ch.rcv.length c3) := FW.out.cell g3 (fun x => x)
      have jm : W1.cell? ⟨g, 0, none⟩ = some (.bool true) := FW.out.cell hmd (fun x => x)
      have jl : W1.cell? ⟨g, 1, none⟩ = some (.slice (some ⟨L, 0, none⟩) ms.length cp) := FW.out.cell hli (fun x => x)
      have O1 := hid (C1.out.own.each m (List.mem_of_getElem? HK.out))
      clear g2 g3 hmd hli hm hl
      have R2 := hid (show RowF W1 F 114 4 (.slice A2 m.ch.snd.length c2) (wts m.ch.snd) by rw [← ES.out]; exact O1.out.snd)
      have hlt0 : ∀ q, F q → q < w.heap.size := H.out.lt
      have HL0 := hid hlt0; clear hlt0
      have hLn : (Value.slice A2 m.ch.snd.length c2).ownBlock ≠ some L := fun hx => C1.out.own.row.ne_type R2.out (by decide) rfl hx
      have hgn : (Value.slice A2 m.ch.snd.length c2).ownBlock ≠ some g := fun hx => by
        obtain ⟨cur, hc⟩ := R2.out.heap hx
        rw [C1.out.obj] at hc; injection hc with hc; injection hc with _ hc _; exact absurd hc (by decide)
      go_wp2_with fail
      refine (deleteFuncW _ m.ch.snd 83 _ (isG gs gg) W1 F R2.out (predLeave B1.out (fun hx => Nat.lt_irrefl _ (HL0.out _ (R2.out.2 _ hx))))).mono ?_
      rintro e w2 ⟨v2, rfl, hr2, hf2, hb2⟩
      change RowF w2 F 114 4 v2 (wts (wout gs gg m.ch.snd)) at hr2
      obtain ⟨A4, c4, e4, _, hm4, _⟩ := hr2.read (by decide) (wts_len _)
      subst e4
      have k2 : w2.cell? ⟨L, k * 5 + 2, none⟩ = some (.slice A2 m.ch.snd.length c2) := hf2.cell j2 hLn
      have k3 : w2.cell? ⟨L, k * 5 + 3, none⟩ = some (.slice A3 m.ch.rcv.length c3) := hf2.cell j3 hLn
      have km : w2.cell? ⟨g, 0, none⟩ = some (.bool true) := hf2.cell jm hgn
      have kl : w2.cell? ⟨g, 1, none⟩ = some (.slice (some ⟨L, 0, none⟩) ms.length cp) := hf2.cell jl hgn
      have kf2 : w2.frozen? ⟨L, k * 5 + 2, none⟩ = false := (C1.out.own.row.fr hf2 (fun q hq hq' => hLn (by simp [Value.ownBlock] at hq; rw [hq]; exact hq'))).free rfl _
      have hf2' : Fr (fun q => m.sv.ownBlock = some q) W1 w2 := by rw [ES.out]; exact hf2
      have C2 := hid (C1.out.putS HK.out hf2' (fun q hq => hq) (fun q hq => Nat.lt_of_lt_of_le (C1.out.lt q hq) hf2.size) hr2 (fun q hq => .inl (by rw [ES.out, ← hb2]; exact hq)))
      have F2 := hid ((hf2.mono (T := F) (fun q hq => R2.out.2 q hq)).setCell (p := ⟨L, k * 5 + 2, none⟩) (.slice A4 (wout gs gg m.ch.snd).length c4) (.inl hFL))
      have B2 := hid (B1.out.fr F2.out (fun hx => Nat.lt_irrefl _ (HL0.out _ hx)))
      have O2 := hid (C2.out.own.each _ (List.mem_of_getElem? (List.getElem?_set_self (lt_of_get HK.out))))
      have R3 := hid (show RowF (w2.setCell ⟨L, k * 5 + 2, none⟩ (.slice A4 (wout gs gg m.ch.snd).length c4)) F 114 4 (.slice A3 m.ch.rcv.length c3) (wts m.ch.rcv) by rw [← ER.out]; exact O2.out.rcv)
      have hLn3 : (Value.slice A3 m.ch.rcv.length c3).ownBlock ≠ some L := fun hx => C2.out.own.row.ne_type R3.out (by decide) rfl hx
      have hgn3 : (Value.slice A3 m.ch.rcv.length c3).ownBlock ≠ some g := fun hx => by
        obtain ⟨cur, hc⟩ := R3.out.heap hx
        rw [C2.out.obj] at hc; injection hc with hc; injection hc with _ hc _; exact absurd hc (by decide)
      clear j2 j3 jm jl hr2 hf2 hb2 hf2' hm4
      go_wp2_with fail
      refine (deleteFuncW _ m.ch.rcv 83 _ (isG gs gg) _ F R3.out (predLeave B2.out (fun hx => Nat.lt_irrefl _ (HL0.out _ (R3.out.2 _ hx))))).mono ?_
      rintro e w4 ⟨v4, rfl, hr4, hf4, hb4⟩
      change RowF w4 F 114 4 v4 (wts (wout gs gg m.ch.rcv)) at hr4
      obtain ⟨A5, c5, e5, _, hm5, _⟩ := hr4.read (by decide) (wts_len _)
      subst e5
      have q2 : w4.cell? ⟨L, k * 5 + 2, none⟩ = some (.slice A4 (wout gs gg m.ch.snd).length c4) := hf4.cell (setCell_at k2) hLn3
      have q3 : w4.cell? ⟨L, k * 5 + 3, none⟩ = some (.slice A3 m.ch.rcv.length c3) := hf4.cell (setCell_off (by omega) k3) hLn3
      have qf3 : w4.frozen? ⟨L, k * 5 + 3, none⟩ = false := (C2.out.own.row.fr hf4 (fun q hq hq' => hLn3 (by simp [Value.ownBlock] at hq; rw [hq]; exact hq'))).free rfl _
      have hf4' : Fr (fun q => (m.setS (.slice A4 (wout gs gg m.ch.snd).length c4) (wout gs gg m.ch.snd)).rv.ownBlock = some q) (w2.setCell ⟨L, k * 5 + 2, none⟩ (.slice A4 (wout gs gg m.ch.snd).length c4)) w4 := by show Fr (fun q => m.rv.ownBlock = some q) (w2.setCell ⟨L, k * 5 + 2, none⟩ (.slice A4 (wout gs gg m.ch.snd).length c4)) w4; rw [ER.out]; exact hf4
      have C4 := hid (C2.out.putR (List.getElem?_set_self (lt_of_get HK.out)) hf4' (fun q hq => hq) (fun q hq => Nat.lt_of_lt_of_le (C2.out.lt q hq) hf4.size) hr4 (fun q hq => .inl (by show m.rv.ownBlock = some q; rw [ER.out, ← hb4]; exact hq)))
      have F4 := hid ((hf4.mono (T := F) (fun q hq => R3.out.2 q hq)).setCell (p := ⟨L, k * 5 + 3, none⟩) (.slice A5 (wout gs gg m.ch.rcv).length c5) (.inl hFL))
      have B4 := hid (B2.out.fr F4.out (fun hx => Nat.lt_irrefl _ (HL0.out _ hx)))
      have FE := hid (F1.out.trans (F2.out.trans F4.out))
      have hle2 := wout_le gs gg m.ch.snd
      have hle3 := wout_le gs gg m.ch.rcv
      clear k2 k3 km kl kf2 hr4 hf4 hb4 hf4' hm5 hLn hLn3 hgn hgn3
      have hsum : Hid ((N : Int) + ((m.ch.snd.length : Int) + (m.ch.rcv.length : Int)) - (((wout gs gg m.ch.snd).length : Int) + ((wout gs gg m.ch.rcv).length : Int)) = (nOutL gs gg ((chs ms).take (k + 1)) : Nat)) := by
        show _ = _
        rw [nOutL_succ HCK.out, ← HN.out]; unfold nOut; omega
      have hms : Hid (chs ((ms'.set k (m.setS (.slice A4 (wout gs gg m.ch.snd).length c4) (wout gs gg m.ch.snd))).set k ((m.setS (.slice A4 (wout gs gg m.ch.snd).length c4) (wout gs gg m.ch.snd)).setR (.slice A5 (wout gs gg m.ch.rcv).length c5) (wout gs gg m.ch.rcv))) = leftTo gs gg (chs ms) (k + 1)) := by
        show _ = _
        rw [← leftTo_set HCK.out, ← HM.out, List.set_set]; unfold chs; rw [List.map_set]; rfl
      go_wp2_with fail
      go_quiet (fail)
      have FQ := hid ((Fr.refl (S := E0) (w := w4.setCell ⟨L, k * 5 + 3, none⟩ (.slice A5 (wout gs gg m.ch.rcv).length c5))).drewN nq)
      have C5 := hid (C4.out.fr FQ.out (fun _ _ x => x))
      have B5 := hid (B4.out.fr FQ.out (fun x => x))
      have F5 := hid (FE.out.trans FQ.out.e0)
      generalize (w4.setCell ⟨L, k * 5 + 3, none⟩ (.slice A5 (wout gs gg m.ch.rcv).length c5)).drewN nq = W6 at *
      go_wp2_with fail
      go_roundw
      case rel => exact ⟨k + 1, _, by simp, by omega, by rw [hsum.out], hms.out, C5.out, B5.out, F5.out⟩
      case measure => simp [intOf]; omega
    · obtain rfl : k = ms.length := by omega
      have e1 : (chs ms).take ms.length = chs ms := by rw [← chs_len, List.take_length]
      have e2 : leftTo gs gg (chs ms) ms.length = leaveL gs gg (chs ms) := by unfold leftTo; rw [e1, ← chs_len, List.drop_length, List.append_nil]
      rw [e2] at HM
      have E1 := hid e1
      clear hlt hk e1 e2 hm hl
      go_wp2_with fail
      go_ret
      exact ⟨by rw [E1.out]; rfl, ⟨_, HC.out, HM.out⟩, HF.out⟩
theorem leave_ok {w : World} {F : Nat → Prop} {g : Nat} {v : Value} {ms : List CM} (h : Chs w F g v ms) (gs gg : Int) (hn : ms.length ≤ 1024) (hfit : ∀ m ∈ ms, m.ch.Fit) :
    Calls Try.prog 64 #[.pointer (some ⟨g, 0, none⟩), .agg #[.int .i64 gs, .int .i64 gg]] w (LeavePost F g (chs ms) gs gg w) :=
  (leave_okV h gs gg hn hfit).mono fun _ _ ⟨h1, h2, h3⟩ => ⟨h1, h2.is, h3⟩
end Go.Proofs.Yteffmnohgnmanaa
