/- Ref9, Ref5, Ref7, Ref10, Load, Ref11, Ref12, Ref13, Pair, Order2, RSel, Does0: merged by wip/gen/merge.py for the claim of ChooseSelects. -/
import Derived.Deep.CutRange
import Derived.Test.YteffmnohgnmanaaS3ChooseSelects
/- rotaref11: Wait, Fits. Printed by wip/gen/ref9.py. -/
namespace Go.Proofs.Yteffmnohgnmanaa
open Go.RowKit
set_option linter.unusedVariables false
def RNewPost (w : World) (l' : List Ch) (t : Int) (e : Ending) (w' : World) : Prop :=
  ∃ v' ms', e = .returned (tup2 v' (.int .i64 t)) ∧ chs ms' = l' ∧ OwnCs w' (New w) v' ms' ∧ Fr E0 w w'
def RSamePost (w : World) (v : Value) (t : Int) (e : Ending) (w' : World) : Prop := e = .returned (tup2 v (.int .i64 t)) ∧ Fr E0 w w'
set_option maxHeartbeats 1000000 in
theorem rwait_no {w : World} {v : Value} {ms : List CM} (hv : RdCs w v ms) (x : Wt) (ch : Int) (send : Bool) (hi : isB (chs ms) ch = false) :
    Calls Try.prog 63 #[v, .int .i64 ch, x.val, .bool send] w (RSamePost w v (trapC (chs ms) ch)) := by
  obtain ⟨A, c0, rfl, hmx, _, _⟩ := hv.form
  obtain ⟨s, gn, c, xv⟩ := x
  have HI := hid hi
  clear hv hi
  simp only [Wt.val]
  go_enter Try.func63, Try.ntmps63
  go_wp2_with fail
  refine (is2_ok hmx ch).mono ?_
  rw [HI.out]
  rintro e w' ⟨rfl, rfl⟩
  go_wp2_with fail
  refine (trap2_ok hmx ch).mono ?_
  rintro e w' ⟨rfl, rfl⟩
  go_wp2_with fail
  go_ret2
  exact ⟨rfl, Fr.refl.alloc _⟩
/-- A block that is older than all of them is stored into. -/
theorem OwnCs.far {w w0 : World} {v u : Value} {ms : List CM} {B j : Nat} (h : OwnCs w (New w0) v ms) (hB : B < w0.heap.size) : OwnCs (w.setCell ⟨B, j, none⟩ u) (New w0) v ms := by
  have hs : ∀ k, New w0 k → (w.setCell ⟨B, j, none⟩ u).heap[k]? = w.heap[k]? := fun k hk => heap_setCell_other _ _ _ _ (by unfold New at hk; rintro rfl; omega)
  exact ⟨h.row.same (fun k hk => hs k (h.row.2 k hk)), fun m hm => ⟨(h.each m hm).vals.same (fun k hk => hs k ((h.each m hm).vals.2 k hk)), (h.each m hm).snd.same (fun k hk => hs k ((h.each m hm).snd.2 k hk)), (h.each m hm).rcv.same (fun k hk => hs k ((h.each m hm).rcv.2 k hk))⟩, h.apart⟩
set_option maxRecDepth 8000 in
set_option maxHeartbeats 4000000 in
theorem rwait_sends {w : World} {v : Value} {ms : List CM} (hv : RdCs w v ms) (hn : ms.length ≤ 1024) (hbig : ∀ c ∈ chs ms, BigC c) (x : Wt) {k : Nat} {cap : Int} {vals : List Int} {snd rcv : List Wt} {cl : Bool} (hk : (chs ms)[k]? = some ⟨cap, vals, snd, rcv, cl⟩) :
    Calls Try.prog 63 #[v, .int .i64 ((k : Int) + 1), x.val, .bool true] w (RNewPost w ((chs ms).set k ⟨cap, vals, snd ++ [x], rcv, cl⟩) 0) := by
  have HV := hid hv
  have HBG := hid hbig
  obtain ⟨A, c0, rfl, hmx, _, _⟩ := hv.form
  obtain ⟨s, gn, c, xv⟩ := x
  clear hv hbig
  simp only [Wt.val]
  go_enter Try.func63, Try.ntmps63
  go_wp2_with fail
  have FA := hid ((Fr.refl (S := E0) (w := w)).alloc (.cells #[.int .i64 s, .int .i64 gn, .int .i64 c, .int .i64 xv] 114))
  have X1 := hid (heap_alloc_new w (.cells #[.int .i64 s, .int .i64 gn, .int .i64 c, .int .i64 xv] 114))
  generalize w.alloc (.cells #[.int .i64 s, .int .i64 gn, .int .i64 c, .int .i64 xv] 114) = W at *
  refine (is2_ok hmx _).mono ?_
  rw [show isB (chs ms) ((k : Int) + 1) = true from by unfold isB; rw [getC_in hk]; rfl]
  rintro e w' ⟨rfl, rfl⟩
  go_wp2_with fail
  refine (copy_ok ms _ W (HV.out.fr FA.out) (by omega) (fun m hm => HBG.out _ (List.mem_map.2 ⟨m, hm, rfl⟩))).mono ?_
  rintro e w2 ⟨ov, ms2, rfl, hc2, ho2, hf2⟩
  have X2 := hid (hf2.heapAt X1.out (fun x => x))
  have F2 := hid (FA.out.trans hf2)
  have O2 := hid (ho2.mono (F' := New w) (fun q hq => Nat.le_trans FA.out.size hq))
  have OX2 := hid ho2
  have C2 := hid hc2
  have hlen2 : ms2.length = ms.length := by rw [← chs_len, hc2, chs_len]
  obtain ⟨m2, hk2, hm2⟩ : ∃ m2, ms2[k]? = some m2 ∧ m2.ch = ⟨cap, vals, snd, rcv, cl⟩ := by
    have h1 : (chs ms2)[k]? = some ⟨cap, vals, snd, rcv, cl⟩ := by rw [hc2]; exact hk
    unfold chs at h1
    rw [List.getElem?_map] at h1
    obtain ⟨m2, h2, h3⟩ := Option.map_eq_some_iff.1 h1
    exact ⟨m2, h2, h3⟩
  obtain ⟨ch2, vv, sv, rv⟩ := m2
  simp only at hm2
  subst hm2
  have HBC := hid (HBG.out _ (List.mem_of_getElem? hk))
  obtain ⟨hbv, hbs, hbr⟩ : vals.length ≤ 4194304 ∧ snd.length ≤ 4194304 ∧ rcv.length ≤ 4194304 := HBC.out
  have HK := hid hk
  have HK2 := hid hk2
  have hlt := lt_of_get hk2
  have hkb : k < 1024 := by omega
  clear hc2 ho2 hf2 hk
  have W3e : Hid (w2 = w2) := hid rfl
  obtain ⟨W3, hW3⟩ : ∃ W3 : World, W3 = w2 := ⟨_, rfl⟩
  subst hW3
  have X3 := X2
  have O3 := O2
  have F3 := F2
  clear W3e
  obtain ⟨L, cp, hov, hFL, hLl, _, _, c2, c3, _, hfz⟩ := O3.out.at hk2
  subst hov
  have hf1 := hfz (k * 5 + 2)
  have OM := hid (O3.out.each _ (List.mem_of_getElem? hk2))
  obtain ⟨SA, sc, es, _, _, _⟩ := OM.out.snd.read (n := snd.length) (by decide) (wts_len _)
  simp only at es c2 c3
  subst es
  obtain ⟨y0, y1, y2, y3⟩ := cell4 X3.out
  obtain ⟨i0, hi0, hz0, hz1, hz2⟩ := info_parts info114
  have FB := hid ((Fr.refl (S := E0) (w := W3)).alloc (.cells #[.int .i64 s, .int .i64 gn, .int .i64 c, .int .i64 xv] 114))
  have OB := hid (O3.out.fr FB.out (fun _ _ x => x))
  have hown0 := hid (show World.ownsRow (World.alloc W3 (.cells #[.int .i64 s, .int .i64 gn, .int .i64 c, .int .i64 xv] 114)) 0 114 4 (.slice SA snd.length sc) snd.length (wts snd) from (OM.out.snd.fr FB.out (fun _ _ x => x)).own (by decide) (wts_len _))
  have hnL : (Value.slice SA snd.length sc).ownBlock ≠ some L := fun hx => O3.out.row.ne_type OM.out.snd (by decide) rfl hx
  have HLEN := hid hlen2
  have HM1 := hid (show snd.length + 1 ≤ maxLen by unfold maxLen; omega)
  have HM2 := hid (show (snd.length + 1) * 32 ≤ 140737488355328 by omega)
  have hkl : (k : Int) < (ms2.length : Int) := by omega
  have hk0 : (0 : Int) ≤ (k : Int) := by omega
  clear hfz hk2 hlen2
  go_wp2_with fail
  have hwk : IntKind.i64.wrap (k : Int) = (k : Int) := IntWalk.i64_in _ (by omega)
  go_region_law (refine step_append_lies _ (by rfl) (.tmp 30) (.tmp 32) 65 (by rfl) 0 114 i0 (.agg #[.int .i64 0, .int .i64 0, .int .i64 0, .int .i64 0]) 4 32 Try.underlying65 hi0 hz0 hz1 hz2 rfl (by decide) (.slice SA snd.length sc) snd.length (wts snd) (by rfl) hown0.out ⟨(World.heap W3).size, 0, none⟩ 1 1 [.int .i64 s, .int .i64 gn, .int .i64 c, .int .i64 xv] (by rfl) (by rfl) (news1 _ _) (by simp [Value.oneCell']) (by decide) HM1.out HM2.out (Nat.zero_le _) ((World.heap W3).size + 1) (by simp) ?_; intro gb cap3 w3 hown3 hgrow3 hat3 hlt3; have x1 : w3.cell? ⟨L, k * 5 + 2, none⟩ = some (.slice SA snd.length sc) := hgrow3.cell (cellA hLl c2) (fun e => hnL e.symm); have x2 : w3.frozen? ⟨L, k * 5 + 2, none⟩ = false := (by rw [hgrow3.frozen_far _ (Nat.lt_of_lt_of_le hLl (by simp)) (fun e => hnL e.symm)]; exact frozenA hLl hf1); have HN := hid (And.intro hown3 (And.intro hgrow3 (And.intro hat3 hlt3))); clear hown3 hgrow3 hat3 hlt3)
  all_goals
    clear hwk
    have HGR := hid (undrew HN.out.2.1)
    have FX := hid (Fr.refl.grown HGR.out (S := fun q => (Value.slice SA snd.length sc).ownBlock = some q) (fun q hq => .inl hq))
    have O6 := hid (OwnCs.putS (w1 := w3) (l' := snd ++ [⟨s, gn, c, xv⟩]) (v' := .slice (some ⟨gb, 0, none⟩) (snd.length + 1) cap3) OB.out HK2.out FX.out (fun _ hq => hq) ⟨⟨_, by rw [wts_app]; exact HN.out.1⟩, fun q hq => by
      simp [Value.ownBlock] at hq; subst hq
      rcases HN.out.2.2.1 with e | e
      · exact OM.out.snd.2 _ e
      · have := F3.out.size; unfold New; omega⟩ (fun q hq => by
      simp [Value.ownBlock] at hq; subst hq
      rcases HN.out.2.2.1 with e | e
      · exact .inl e
      · exact .inr (by simp; omega)))
    have F6 := hid (((F3.out.trans FB.out).trans' FX.out (fun q hq => .inr (OM.out.snd.2 q hq))).setCell (p := ⟨L, k * 5 + 2, none⟩) (.slice (some ⟨gb, 0, none⟩) (snd.length + 1) cap3) (.inr hFL))
    have HCE := hid (show chs (ms2.set k (CM.setS ⟨⟨cap, vals, snd, rcv, cl⟩, vv, .slice SA snd.length sc, rv⟩ (.slice (some ⟨gb, 0, none⟩) (snd.length + 1) cap3) (snd ++ [⟨s, gn, c, xv⟩]))) = (chs ms).set k ⟨cap, vals, snd ++ [⟨s, gn, c, xv⟩], rcv, cl⟩ by rw [chs_set, C2.out]; rfl)
    go_wp2_with fail
    go_ret2
    exact ⟨_, _, rfl, HCE.out, O6.out, F6.out⟩
set_option maxRecDepth 8000 in
set_option maxHeartbeats 4000000 in
theorem rwait_recvs {w : World} {v : Value} {ms : List CM} (hv : RdCs w v ms) (hn : ms.length ≤ 1024) (hbig : ∀ c ∈ chs ms, BigC c) (x : Wt) {k : Nat} {cap : Int} {vals : List Int} {snd rcv : List Wt} {cl : Bool} (hk : (chs ms)[k]? = some ⟨cap, vals, snd, rcv, cl⟩) :
    Calls Try.prog 63 #[v, .int .i64 ((k : Int) + 1), x.val, .bool false] w (RNewPost w ((chs ms).set k ⟨cap, vals, snd, rcv ++ [{ x with v := 0 }], cl⟩) 0) := by
  have HV := hid hv
  have HBG := hid hbig
  obtain ⟨A, c0, rfl, hmx, _, _⟩ := hv.form
  obtain ⟨s, gn, c, xv⟩ := x
  clear hv hbig
  simp only [Wt.val]
  go_enter Try.func63, Try.ntmps63
  go_wp2_with fail
  have FA := hid ((Fr.refl (S := E0) (w := w)).alloc (.cells #[.int .i64 s, .int .i64 gn, .int .i64 c, .int .i64 xv] 114))
  have X1 := hid (heap_alloc_new w (.cells #[.int .i64 s, .int .i64 gn, .int .i64 c, .int .i64 xv] 114))
  generalize w.alloc (.cells #[.int .i64 s, .int .i64 gn, .int .i64 c, .int .i64 xv] 114) = W at *
  refine (is2_ok hmx _).mono ?_
  rw [show isB (chs ms) ((k : Int) + 1) = true from by unfold isB; rw [getC_in hk]; rfl]
  rintro e w' ⟨rfl, rfl⟩
  go_wp2_with fail
  refine (copy_ok ms _ W (HV.out.fr FA.out) (by omega) (fun m hm => HBG.out _ (List.mem_map.2 ⟨m, hm, rfl⟩))).mono ?_
  rintro e w2 ⟨ov, ms2, rfl, hc2, ho2, hf2⟩
  have X2 := hid (hf2.heapAt X1.out (fun x => x))
  have F2 := hid (FA.out.trans hf2)
  have O2 := hid (ho2.mono (F' := New w) (fun q hq => Nat.le_trans FA.out.size hq))
  have OX2 := hid ho2
  have X1lt := hid (heap_lt X1.out)
  have C2 := hid hc2
  have hlen2 : ms2.length = ms.length := by rw [← chs_len, hc2, chs_len]
  obtain ⟨m2, hk2, hm2⟩ : ∃ m2, ms2[k]? = some m2 ∧ m2.ch = ⟨cap, vals, snd, rcv, cl⟩ := by
    have h1 : (chs ms2)[k]? = some ⟨cap, vals, snd, rcv, cl⟩ := by rw [hc2]; exact hk
    unfold chs at h1
    rw [List.getElem?_map] at h1
    obtain ⟨m2, h2, h3⟩ := Option.map_eq_some_iff.1 h1
    exact ⟨m2, h2, h3⟩
  obtain ⟨ch2, vv, sv, rv⟩ := m2
  simp only at hm2
  subst hm2
  have HBC := hid (HBG.out _ (List.mem_of_getElem? hk))
  obtain ⟨hbv, hbs, hbr⟩ : vals.length ≤ 4194304 ∧ snd.length ≤ 4194304 ∧ rcv.length ≤ 4194304 := HBC.out
  have HK := hid hk
  have HK2 := hid hk2
  have hlt := lt_of_get hk2
  have hkb : k < 1024 := by omega
  clear hc2 ho2 hf2 hk
  obtain ⟨y0, y1, y2, y3⟩ := cell4 X2.out
  have z3 := frozen_of_row w2 _ 3 _ _ X2.out
  go_wp2_with fail
  have X3 := hid (heap_setCell_same w2 w.heap.size 3 _ 114 (.int .i64 0) X2.out)
  have O3 := hid (OX2.out.far (j := 3) (u := .int .i64 0) (B := w.heap.size) X1lt.out |>.mono (F' := New w) (fun q hq => Nat.le_trans FA.out.size hq))
  have F3 := hid (F2.out.setCell (p := ⟨w.heap.size, 3, none⟩) (.int .i64 0) (.inr (Nat.le_refl _)))
  clear y0 y1 y2 y3 z3
  generalize w2.setCell ⟨w.heap.size, 3, none⟩ (.int .i64 0) = W3 at *
  obtain ⟨L, cp, hov, hFL, hLl, _, _, c2, c3, _, hfz⟩ := O3.out.at hk2
  subst hov
  have hf1 := hfz (k * 5 + 3)
  have OM := hid (O3.out.each _ (List.mem_of_getElem? hk2))
  obtain ⟨SA, sc, es, _, _, _⟩ := OM.out.rcv.read (n := rcv.length) (by decide) (wts_len _)
  simp only at es c2 c3
  subst es
  obtain ⟨y0, y1, y2, y3⟩ := cell4 X3.out
  obtain ⟨i0, hi0, hz0, hz1, hz2⟩ := info_parts info114
  have FB := hid ((Fr.refl (S := E0) (w := W3)).alloc (.cells #[.int .i64 s, .int .i64 gn, .int .i64 c, .int .i64 0] 114))
  have OB := hid (O3.out.fr FB.out (fun _ _ x => x))
  have hown0 := hid (show World.ownsRow (World.alloc W3 (.cells #[.int .i64 s, .int .i64 gn, .int .i64 c, .int .i64 0] 114)) 0 114 4 (.slice SA rcv.length sc) rcv.length (wts rcv) from (OM.out.rcv.fr FB.out (fun _ _ x => x)).own (by decide) (wts_len _))
  have hnL : (Value.slice SA rcv.length sc).ownBlock ≠ some L := fun hx => O3.out.row.ne_type OM.out.rcv (by decide) rfl hx
  have HLEN := hid hlen2
  have HM1 := hid (show rcv.length + 1 ≤ maxLen by unfold maxLen; omega)
  have HM2 := hid (show (rcv.length + 1) * 32 ≤ 140737488355328 by omega)
  have hkl : (k : Int) < (ms2.length : Int) := by omega
  have hk0 : (0 : Int) ≤ (k : Int) := by omega
  clear hfz hk2 hlen2
  go_wp2_with fail
  have hwk : IntKind.i64.wrap (k : Int) = (k : Int) := IntWalk.i64_in _ (by omega)
  go_region_law (refine step_append_lies _ (by rfl) (.tmp 46) (.tmp 48) 65 (by rfl) 0 114 i0 (.agg #[.int .i64 0, .int .i64 0, .int .i64 0, .int .i64 0]) 4 32 Try.underlying65 hi0 hz0 hz1 hz2 rfl (by decide) (.slice SA rcv.length sc) rcv.length (wts rcv) (by rfl) hown0.out ⟨(World.heap W3).size, 0, none⟩ 1 1 [.int .i64 s, .int .i64 gn, .int .i64 c, .int .i64 0] (by rfl) (by rfl) (news1 _ _) (by simp [Value.oneCell']) (by decide) HM1.out HM2.out (Nat.zero_le _) ((World.heap W3).size + 1) (by simp) ?_; intro gb cap3 w3 hown3 hgrow3 hat3 hlt3; have x1 : w3.cell? ⟨L, k * 5 + 3, none⟩ = some (.slice SA rcv.length sc) := hgrow3.cell (cellA hLl c3) (fun e => hnL e.symm); have x2 : w3.frozen? ⟨L, k * 5 + 3, none⟩ = false := (by rw [hgrow3.frozen_far _ (Nat.lt_of_lt_of_le hLl (by simp)) (fun e => hnL e.symm)]; exact frozenA hLl hf1); have HN := hid (And.intro hown3 (And.intro hgrow3 (And.intro hat3 hlt3))); clear hown3 hgrow3 hat3 hlt3)
  all_goals
    clear hwk
    have HGR := hid (undrew HN.out.2.1)
    have FX := hid (Fr.refl.grown HGR.out (S := fun q => (Value.slice SA rcv.length sc).ownBlock = some q) (fun q hq => .inl hq))
    have O6 := hid (OwnCs.putR (w1 := w3) (l' := rcv ++ [⟨s, gn, c, 0⟩]) (v' := .slice (some ⟨gb, 0, none⟩) (rcv.length + 1) cap3) OB.out HK2.out FX.out (fun _ hq => hq) ⟨⟨_, by rw [wts_app]; exact HN.out.1⟩, fun q hq => by
      simp [Value.ownBlock] at hq; subst hq
      rcases HN.out.2.2.1 with e | e
      · exact OM.out.rcv.2 _ e
      · have := F3.out.size; unfold New; omega⟩ (fun q hq => by
      simp [Value.ownBlock] at hq; subst hq
      rcases HN.out.2.2.1 with e | e
      · exact .inl e
      · exact .inr (by simp; omega)))
    have F6 := hid (((F3.out.trans FB.out).trans' FX.out (fun q hq => .inr (OM.out.rcv.2 q hq))).setCell (p := ⟨L, k * 5 + 3, none⟩) (.slice (some ⟨gb, 0, none⟩) (rcv.length + 1) cap3) (.inr hFL))
    have HCE := hid (show chs (ms2.set k (CM.setR ⟨⟨cap, vals, snd, rcv, cl⟩, vv, sv, .slice SA rcv.length sc⟩ (.slice (some ⟨gb, 0, none⟩) (rcv.length + 1) cap3) (rcv ++ [⟨s, gn, c, 0⟩]))) = (chs ms).set k ⟨cap, vals, snd, rcv ++ [⟨s, gn, c, 0⟩], cl⟩ by rw [chs_set, C2.out]; rfl)
    go_wp2_with fail
    go_ret2
    exact ⟨_, _, rfl, HCE.out, O6.out, F6.out⟩
end Go.Proofs.Yteffmnohgnmanaa

/- rotaref11.Send: a theorem for each way. Printed by wip/gen/ref5.py. -/
namespace Go.Proofs.Yteffmnohgnmanaa
open Go.RowKit
set_option linter.unusedVariables false
attribute [local go_sem ↓] Go.wp_at_zero Go.wp_at_succ
set_option maxRecDepth 8000 in
set_option maxHeartbeats 4000000 in
theorem rsend_waits {w : World} {v : Value} {ms : List CM} (hv : RdCs w v ms) (hn : ms.length ≤ 1024) (hbig : ∀ c ∈ chs ms, BigC c) (gs gg val : Int) (hw : waitsL gs gg (chs ms) = true) (ch : Int) :
    Calls Try.prog 49 #[v, .int .i64 ch, .agg #[.int .i64 gs, .int .i64 gg], .int .i64 val] w (RMvPost w v (chs ms) (chs ms) {} 111) := by
  have HV := hid hv
  have HBG := hid hbig
  have HWT := hid hw
  obtain ⟨A, c0, rfl, hmx, _, _⟩ := hv.form
  clear hv hbig hw
  go_enter Try.func49, Try.ntmps49
  go_wp2_with fail
  generalize hW : ((w.alloc (Obj.cells #[Value.int IntKind.i64 gs, Value.int IntKind.i64 gg] 37)).alloc _) = W
  have FA := hid (show Fr E0 w W by rw [← hW]; exact (Fr.refl.alloc _).alloc _)
  have T1 := hid (show W.heap[w.heap.size + 1]? = some (.cells #[Value.bool false, Value.int IntKind.i64 0, Value.bool false, Value.int IntKind.i64 0, Value.slice none 0 0] 32 (0, 0)) by rw [← hW]; exact heap_alloc2_new w _ _)
  have G1 := hid (show W.heap[w.heap.size]? = some (.cells #[Value.int IntKind.i64 gs, Value.int IntKind.i64 gg] 37 (0, 0)) by rw [← hW]; exact heap_alloc2_old w _ _)
  clear hW
  refine (waits2_ok ms _ gs gg W (HV.out.fr FA.out) (by omega) HBG.out).mono ?_
  rintro e w1 ⟨rfl, hf1⟩
  rw [HWT.out]
  have T2 := hid (hf1.heapAt T1.out (fun x => x))
  have G2 := hid (hf1.heapAt G1.out (fun x => x))
  have F2 := hid (FA.out.trans hf1)
  clear hf1
  obtain ⟨⟨b0, b1, b2, b3, b4⟩, z0, z1, z2, z3, z4⟩ := blk5 T2.out
  go_wp2_with fail
  exact fin49 (m := {}) rfl rfl rfl rfl (set5_heap T2.out _ _ _ _ _) ⟨_, _, rfl, .inl ⟨rfl, rfl⟩, RowF.nil, fr_new5 F2.out (Nat.le_succ _) _ _ _ _ _⟩
set_option maxRecDepth 8000 in
set_option maxHeartbeats 4000000 in
theorem rsend_nil {w : World} {v : Value} {ms : List CM} (hv : RdCs w v ms) (hn : ms.length ≤ 1024) (hbig : ∀ c ∈ chs ms, BigC c) (gs gg val : Int) (hw : waitsL gs gg (chs ms) = false) :
    Calls Try.prog 49 #[v, .int .i64 0, .agg #[.int .i64 gs, .int .i64 gg], .int .i64 val] w (RMvPost w v (chs ms) (chs ms) { waits := true } 0) := by
  have HV := hid hv
  have HBG := hid hbig
  have HWT := hid hw
  obtain ⟨A, c0, rfl, hmx, _, _⟩ := hv.form
  clear hv hbig hw
  go_enter Try.func49, Try.ntmps49
  go_wp2_with fail
  generalize hW : ((w.alloc (Obj.cells #[Value.int IntKind.i64 gs, Value.int IntKind.i64 gg] 37)).alloc _) = W
  have FA := hid (show Fr E0 w W by rw [← hW]; exact (Fr.refl.alloc _).alloc _)
  have T1 := hid (show W.heap[w.heap.size + 1]? = some (.cells #[Value.bool false, Value.int IntKind.i64 0, Value.bool false, Value.int IntKind.i64 0, Value.slice none 0 0] 32 (0, 0)) by rw [← hW]; exact heap_alloc2_new w _ _)
  have G1 := hid (show W.heap[w.heap.size]? = some (.cells #[Value.int IntKind.i64 gs, Value.int IntKind.i64 gg] 37 (0, 0)) by rw [← hW]; exact heap_alloc2_old w _ _)
  clear hW
  refine (waits2_ok ms _ gs gg W (HV.out.fr FA.out) (by omega) HBG.out).mono ?_
  rintro e w1 ⟨rfl, hf1⟩
  rw [HWT.out]
  have T2 := hid (hf1.heapAt T1.out (fun x => x))
  have G2 := hid (hf1.heapAt G1.out (fun x => x))
  have F2 := hid (FA.out.trans hf1)
  clear hf1
  obtain ⟨⟨b0, b1, b2, b3, b4⟩, z0, z1, z2, z3, z4⟩ := blk5 T2.out
  go_wp2_with fail
  exact fin49 (m := { waits := true }) rfl rfl rfl rfl (set5_heap T2.out _ _ _ _ _) ⟨_, _, rfl, .inl ⟨rfl, rfl⟩, RowF.nil, fr_new5 F2.out (Nat.le_succ _) _ _ _ _ _⟩
set_option maxRecDepth 8000 in
set_option maxHeartbeats 4000000 in
theorem rsend_out {w : World} {v : Value} {ms : List CM} (hv : RdCs w v ms) (hn : ms.length ≤ 1024) (hbig : ∀ c ∈ chs ms, BigC c) (gs gg val : Int) (hw : waitsL gs gg (chs ms) = false) (ch : Int) (hz : ch ≠ 0) (hi : isB (chs ms) ch = false) :
    Calls Try.prog 49 #[v, .int .i64 ch, .agg #[.int .i64 gs, .int .i64 gg], .int .i64 val] w (RMvPost w v (chs ms) (chs ms) { trap := 4 } 0) := by
  have HV := hid hv
  have HBG := hid hbig
  have HWT := hid hw
  obtain ⟨A, c0, rfl, hmx, _, _⟩ := hv.form
  clear hv hbig hw
  go_enter Try.func49, Try.ntmps49
  go_wp2_with fail
  generalize hW : ((w.alloc (Obj.cells #[Value.int IntKind.i64 gs, Value.int IntKind.i64 gg] 37)).alloc _) = W
  have FA := hid (show Fr E0 w W by rw [← hW]; exact (Fr.refl.alloc _).alloc _)
  have T1 := hid (show W.heap[w.heap.size + 1]? = some (.cells #[Value.bool false, Value.int IntKind.i64 0, Value.bool false, Value.int IntKind.i64 0, Value.slice none 0 0] 32 (0, 0)) by rw [← hW]; exact heap_alloc2_new w _ _)
  have G1 := hid (show W.heap[w.heap.size]? = some (.cells #[Value.int IntKind.i64 gs, Value.int IntKind.i64 gg] 37 (0, 0)) by rw [← hW]; exact heap_alloc2_old w _ _)
  clear hW
  refine (waits2_ok ms _ gs gg W (HV.out.fr FA.out) (by omega) HBG.out).mono ?_
  rintro e w1 ⟨rfl, hf1⟩
  rw [HWT.out]
  have T2 := hid (hf1.heapAt T1.out (fun x => x))
  have G2 := hid (hf1.heapAt G1.out (fun x => x))
  have F2 := hid (FA.out.trans hf1)
  clear hf1
  obtain ⟨⟨b0, b1, b2, b3, b4⟩, z0, z1, z2, z3, z4⟩ := blk5 T2.out
  have hb : ((ch == 0) : Bool) = false := by simpa using hz
  have HI := hid hi
  clear hi hz
  go_wp2_with fail
  refine (is2_ok hmx _).mono ?_
  rw [HI.out]
  rintro e w' ⟨rfl, rfl⟩
  go_wp2_with fail
  exact fin49 (m := { trap := 4 }) rfl rfl rfl rfl (set5_heap T2.out _ _ _ _ _) ⟨_, _, rfl, .inl ⟨rfl, rfl⟩, RowF.nil, fr_new5 F2.out (Nat.le_succ _) _ _ _ _ _⟩
set_option maxRecDepth 8000 in
set_option maxHeartbeats 4000000 in
theorem rsend_closed {w : World} {v : Value} {ms : List CM} (hv : RdCs w v ms) (hn : ms.length ≤ 1024) (hbig : ∀ c ∈ chs ms, BigC c) (gs gg val : Int) (hw : waitsL gs gg (chs ms) = false) {k : Nat} {cap : Int} {vals : List Int} {snd rcv : List Wt} (hk : (chs ms)[k]? = some ⟨cap, vals, snd, rcv, true⟩) :
    Calls Try.prog 49 #[v, .int .i64 ((k : Int) + 1), .agg #[.int .i64 gs, .int .i64 gg], .int .i64 val] w (RMvPost w v (chs ms) (chs ms) { trap := 6 } 0) := by
  have HV := hid hv
  have HBG := hid hbig
  have HWT := hid hw
  obtain ⟨A, c0, rfl, hmx, _, _⟩ := hv.form
  clear hv hbig hw
  go_enter Try.func49, Try.ntmps49
  go_wp2_with fail
  generalize hW : ((w.alloc (Obj.cells #[Value.int IntKind.i64 gs, Value.int IntKind.i64 gg] 37)).alloc _) = W
  have FA := hid (show Fr E0 w W by rw [← hW]; exact (Fr.refl.alloc _).alloc _)
  have T1 := hid (show W.heap[w.heap.size + 1]? = some (.cells #[Value.bool false, Value.int IntKind.i64 0, Value.bool false, Value.int IntKind.i64 0, Value.slice none 0 0] 32 (0, 0)) by rw [← hW]; exact heap_alloc2_new w _ _)
  have G1 := hid (show W.heap[w.heap.size]? = some (.cells #[Value.int IntKind.i64 gs, Value.int IntKind.i64 gg] 37 (0, 0)) by rw [← hW]; exact heap_alloc2_old w _ _)
  clear hW
  refine (waits2_ok ms _ gs gg W (HV.out.fr FA.out) (by omega) HBG.out).mono ?_
  rintro e w1 ⟨rfl, hf1⟩
  rw [HWT.out]
  have T2 := hid (hf1.heapAt T1.out (fun x => x))
  have G2 := hid (hf1.heapAt G1.out (fun x => x))
  have F2 := hid (FA.out.trans hf1)
  clear hf1
  obtain ⟨⟨b0, b1, b2, b3, b4⟩, z0, z1, z2, z3, z4⟩ := blk5 T2.out
  have hz : (((k : Int) + 1 == 0) : Bool) = false := by simp; omega
  go_wp2_with fail
  refine (is2_ok hmx _).mono ?_
  rw [show isB (chs ms) ((k : Int) + 1) = true from by unfold isB; rw [getC_in hk]; rfl]
  rintro e w' ⟨rfl, rfl⟩
  go_wp2_with fail
  refine (copy_ok ms _ w1 (HV.out.fr F2.out) (by omega) (fun m hm => HBG.out _ (List.mem_map.2 ⟨m, hm, rfl⟩))).mono ?_
  rintro e w2 ⟨ov, ms2, rfl, hc2, ho2, hf2⟩
  clear b0 b1 b2 b3 b4 z0 z1 z2 z3 z4
  have T3 := hid (hf2.heapAt T2.out (fun x => x))
  have G3 := hid (hf2.heapAt G2.out (fun x => x))
  have F3 := hid (F2.out.trans hf2)
  have O3 := hid (ho2.mono (F' := New w) (fun q hq => Nat.le_trans F2.out.size hq))
  have C2 := hid hc2
  have hlen2 : ms2.length = ms.length := by rw [← chs_len, hc2, chs_len]
  obtain ⟨m2, hk2, hm2⟩ : ∃ m2, ms2[k]? = some m2 ∧ m2.ch = ⟨cap, vals, snd, rcv, true⟩ := by
    have h1 : (chs ms2)[k]? = some ⟨cap, vals, snd, rcv, true⟩ := by rw [hc2]; exact hk
    unfold chs at h1
    rw [List.getElem?_map] at h1
    obtain ⟨m2, h2, h3⟩ := Option.map_eq_some_iff.1 h1
    exact ⟨m2, h2, h3⟩
  obtain ⟨ch2, vv, sv, rv⟩ := m2
  simp only at hm2
  subst hm2
  have HBC := hid (HBG.out _ (List.mem_of_getElem? hk))
  obtain ⟨hbv, hbs, hbr⟩ : vals.length ≤ 4194304 ∧ snd.length ≤ 4194304 ∧ (rcv : List Wt).length ≤ 4194304 := HBC.out
  have HK := hid hk
  have HK2 := hid hk2
  have HLN := hid hlen2
  have hlt := lt_of_get hk2
  have hkb : k < 1024 := by omega
  obtain ⟨L, cp, hov, hFL, hLl, c0', c1, c2, c3, c4, hfz⟩ := O3.out.at hk2
  subst hov
  have HFZ := hid hfz
  have OM := hid (O3.out.each _ (List.mem_of_getElem? hk2))
  obtain ⟨VA, vc, ev, _, _, _⟩ := OM.out.vals.read (n := vals.length) (by decide) (ints_len _)
  obtain ⟨SA, sc, es, _, _, _⟩ := OM.out.snd.read (n := snd.length) (by decide) (wts_len _)
  obtain ⟨RA, rc, er, _, _, _⟩ := OM.out.rcv.read (n := rcv.length) (by decide) (wts_len _)
  simp only at ev es er c0' c1 c2 c3 c4
  subst ev es er
  have hTl := heap_lt T3.out
  have hGl : w.heap.size < w2.heap.size := by omega
  obtain ⟨⟨b0, b1, b2, b3, b4⟩, z0, z1, z2, z3, z4⟩ := blk5 T3.out
  have T4 := hid (((Fr.refl (S := E0) (w := w2)).alloc (.cells #[.int .i64 cap, .slice VA vals.length vc, .slice SA snd.length sc, .slice RA (rcv.length) rc, .bool true] 67)).heapAt T3.out (fun x => x))
  have F4 := hid (F3.out.alloc (.cells #[.int .i64 cap, .slice VA vals.length vc, .slice SA snd.length sc, .slice RA (rcv.length) rc, .bool true] 67))
  clear hc2 ho2 hf2 hk hk2 hlen2 hfz
  go_wp2_with fail
  exact fin49 (m := { trap := 6 }) rfl rfl rfl rfl (((Fr.refl (S := E0)).alloc _).heapAt (set5_heap T3.out _ _ _ _ _) (fun x => x)) ⟨_, _, rfl, .inl ⟨rfl, rfl⟩, RowF.nil, (fr_new5 F3.out (Nat.le_succ _) _ _ _ _ _).alloc _⟩
set_option maxRecDepth 8000 in
set_option maxHeartbeats 4000000 in
theorem rsend_wakes {w : World} {v : Value} {ms : List CM} (hv : RdCs w v ms) (hn : ms.length ≤ 1024) (hbig : ∀ c ∈ chs ms, BigC c) (gs gg val : Int) (hw : waitsL gs gg (chs ms) = false) {k : Nat} {cap : Int} {vals : List Int} {snd r : List Wt} {x : Wt} (hk : (chs ms)[k]? = some ⟨cap, vals, snd, x :: r, false⟩) :
    Calls Try.prog 49 #[v, .int .i64 ((k : Int) + 1), .agg #[.int .i64 gs, .int .i64 gg], .int .i64 val] w (RMvPost w v (chs ms) (leaveL x.s x.g (chs ms)) { ok := true, woken := [⟨x.s, x.g, x.c, val, true, 0⟩] } 0) := by
  have HV := hid hv
  have HBG := hid hbig
  have HWT := hid hw
  obtain ⟨A, c0, rfl, hmx, _, _⟩ := hv.form
  clear hv hbig hw
  go_enter Try.func49, Try.ntmps49
  go_wp2_with fail
  generalize hW : ((w.alloc (Obj.cells #[Value.int IntKind.i64 gs, Value.int IntKind.i64 gg] 37)).alloc _) = W
  have FA := hid (show Fr E0 w W by rw [← hW]; exact (Fr.refl.alloc _).alloc _)
  have T1 := hid (show W.heap[w.heap.size + 1]? = some (.cells #[Value.bool false, Value.int IntKind.i64 0, Value.bool false, Value.int IntKind.i64 0, Value.slice none 0 0] 32 (0, 0)) by rw [← hW]; exact heap_alloc2_new w _ _)
  have G1 := hid (show W.heap[w.heap.size]? = some (.cells #[Value.int IntKind.i64 gs, Value.int IntKind.i64 gg] 37 (0, 0)) by rw [← hW]; exact heap_alloc2_old w _ _)
  clear hW
  refine (waits2_ok ms _ gs gg W (HV.out.fr FA.out) (by omega) HBG.out).mono ?_
  rintro e w1 ⟨rfl, hf1⟩
  rw [HWT.out]
  have T2 := hid (hf1.heapAt T1.out (fun x => x))
  have G2 := hid (hf1.heapAt G1.out (fun x => x))
  have F2 := hid (FA.out.trans hf1)
  clear hf1
  obtain ⟨⟨b0, b1, b2, b3, b4⟩, z0, z1, z2, z3, z4⟩ := blk5 T2.out
  have hz : (((k : Int) + 1 == 0) : Bool) = false := by simp; omega
  go_wp2_with fail
  refine (is2_ok hmx _).mono ?_
  rw [show isB (chs ms) ((k : Int) + 1) = true from by unfold isB; rw [getC_in hk]; rfl]
  rintro e w' ⟨rfl, rfl⟩
  go_wp2_with fail
  refine (copy_ok ms _ w1 (HV.out.fr F2.out) (by omega) (fun m hm => HBG.out _ (List.mem_map.2 ⟨m, hm, rfl⟩))).mono ?_
  rintro e w2 ⟨ov, ms2, rfl, hc2, ho2, hf2⟩
  clear b0 b1 b2 b3 b4 z0 z1 z2 z3 z4
  have T3 := hid (hf2.heapAt T2.out (fun x => x))
  have G3 := hid (hf2.heapAt G2.out (fun x => x))
  have F3 := hid (F2.out.trans hf2)
  have O3 := hid (ho2.mono (F' := New w) (fun q hq => Nat.le_trans F2.out.size hq))
  have C2 := hid hc2
  have hlen2 : ms2.length = ms.length := by rw [← chs_len, hc2, chs_len]
  obtain ⟨m2, hk2, hm2⟩ : ∃ m2, ms2[k]? = some m2 ∧ m2.ch = ⟨cap, vals, snd, x :: r, false⟩ := by
    have h1 : (chs ms2)[k]? = some ⟨cap, vals, snd, x :: r, false⟩ := by rw [hc2]; exact hk
    unfold chs at h1
    rw [List.getElem?_map] at h1
    obtain ⟨m2, h2, h3⟩ := Option.map_eq_some_iff.1 h1
    exact ⟨m2, h2, h3⟩
  obtain ⟨ch2, vv, sv, rv⟩ := m2
  simp only at hm2
  subst hm2
  have HBC := hid (HBG.out _ (List.mem_of_getElem? hk))
  obtain ⟨hbv, hbs, hbr⟩ : vals.length ≤ 4194304 ∧ snd.length ≤ 4194304 ∧ (x :: r : List Wt).length ≤ 4194304 := HBC.out
  have HK := hid hk
  have HK2 := hid hk2
  have HLN := hid hlen2
  have hlt := lt_of_get hk2
  have hkb : k < 1024 := by omega
  obtain ⟨L, cp, hov, hFL, hLl, c0', c1, c2, c3, c4, hfz⟩ := O3.out.at hk2
  subst hov
  have HFZ := hid hfz
  have OM := hid (O3.out.each _ (List.mem_of_getElem? hk2))
  obtain ⟨VA, vc, ev, _, _, _⟩ := OM.out.vals.read (n := vals.length) (by decide) (ints_len _)
  obtain ⟨SA, sc, es, _, _, _⟩ := OM.out.snd.read (n := snd.length) (by decide) (wts_len _)
  obtain ⟨RA, rc, er, _, _, _⟩ := OM.out.rcv.read (n := r.length + 1) (by decide) (wts_len _)
  simp only at ev es er c0' c1 c2 c3 c4
  subst ev es er
  have hTl := heap_lt T3.out
  have hGl : w.heap.size < w2.heap.size := by omega
  obtain ⟨⟨b0, b1, b2, b3, b4⟩, z0, z1, z2, z3, z4⟩ := blk5 T3.out
  have T4 := hid (((Fr.refl (S := E0) (w := w2)).alloc (.cells #[.int .i64 cap, .slice VA vals.length vc, .slice SA snd.length sc, .slice RA (r.length + 1) rc, .bool false] 67)).heapAt T3.out (fun x => x))
  have F4 := hid (F3.out.alloc (.cells #[.int .i64 cap, .slice VA vals.length vc, .slice SA snd.length sc, .slice RA (r.length + 1) rc, .bool false] 67))
  clear hc2 ho2 hf2 hk hk2 hlen2 hfz
  rcases OM.out.rcv.form (n := r.length + 1) (by decide) (wts_len _) with ⟨_, h0, _⟩ | ⟨br, p3, hv3, _, hb3, hn3, _, hr3, _⟩
  · omega
  injection hv3 with e1 e2 e3
  subst e1 e3
  clear e2
  obtain ⟨d0, d1, d2, d3⟩ := hr3.wt (k := 0) (x := x) rfl
  simp only [Nat.zero_add, Nat.zero_mul] at d0 d1 d2 d3
  have hbr' : r.length ≤ 4194304 := by simp at hbr; omega
  have hrp : (0 : Int) < (r.length : Int) + 1 := by omega
  clear hr3
  go_wp2_with fail
  have hx := hid (heap_alloc_new (w2.alloc (.cells #[.int .i64 cap, .slice VA vals.length vc, .slice SA snd.length sc, .slice (some ⟨br, 0, none⟩) (r.length + 1) rc, .bool false] 67)) (.cells #[.int .i64 x.s, .int .i64 x.g, .int .i64 x.c, .int .i64 x.v] 114))
  simp only [World.size_alloc] at hx
  have T5 := hid (((Fr.refl (S := E0)).alloc (.cells #[.int .i64 x.s, .int .i64 x.g, .int .i64 x.c, .int .i64 x.v] 114)).heapAt T4.out (fun x => x))
  have FB := hid (((Fr.refl (S := E0) (w := w2)).alloc (.cells #[.int .i64 cap, .slice VA vals.length vc, .slice SA snd.length sc, .slice (some ⟨br, 0, none⟩) (r.length + 1) rc, .bool false] 67)).alloc (.cells #[.int .i64 x.s, .int .i64 x.g, .int .i64 x.c, .int .i64 x.v] 114))
  have HX := hid hx.out
  clear hx
  generalize ((w2.alloc _).alloc _) = W4 at *
  refine (leave2_ok ms2 _ x.s x.g W4 ((O3.out.rd).fr FB.out) (by have := HLN.out; omega) (by rw [C2.out]; exact HBG.out)).mono ?_
  rintro e w5 ⟨v5, ms5, rfl, hc5, ho5, hf5⟩
  rw [C2.out] at hc5
  have F5 := hid ((F3.out.trans FB.out).trans hf5)
  have O5 := hid (ho5.mono (F' := New w) (fun q hq => Nat.le_trans (F3.out.trans FB.out).size hq))
  have C5 := hid hc5
  obtain ⟨A5, n5, c5, rfl⟩ := ho5.row.shape
  have X5 := hid (hf5.heapAt HX.out (fun x => x))
  have T6 := hid (hf5.heapAt T5.out (fun x => x))
  obtain ⟨x0, x1, x2, x3⟩ := cell4 X5.out
  clear b0 b1 b2 b3 b4 z0 z1 z2 z3 z4 ho5 hf5 hc5
  have R5 := hid (rowNew w5 w F5.out.size [⟨x.s, x.g, x.c, val, true, 0⟩] (show 1 ≤ maxLen by decide) _ rfl)
  have T7 := hid (((Fr.refl (S := E0)).alloc (.cells #[.int .i64 x.s, .int .i64 x.g, .int .i64 x.c, .int .i64 val, .bool true, .int .i64 0] 39)).heapAt T6.out (fun x => x))
  have hT6l := heap_lt T6.out
  obtain ⟨⟨b0, b1, b2, b3, b4⟩, z0, z1, z2, z3, z4⟩ := blk5 T6.out
  simp only [tup2]
  go_wp2_with fail
  go_region
  all_goals
    go_wp2_with fail
    exact fin49 (m := { ok := true, woken := [⟨x.s, x.g, x.c, val, true, 0⟩] }) rfl rfl rfl rfl (((Fr.refl (S := E0)).alloc _).drew.heapAt (set5_heap T6.out _ _ _ _ _) (fun x => x)) ⟨_, _, rfl, .inr ⟨_, C5.out, (O5.out.set5 T6.out _ _ _ _ _).fr ((Fr.refl (S := E0)).alloc _).drew (fun _ _ x => x)⟩, rowNew5 w5 w F5.out.size [⟨x.s, x.g, x.c, val, true, 0⟩] (show 1 ≤ maxLen by decide) _ rfl _ _ _ _ _ _, ((fr_new5 F5.out (Nat.le_succ _) _ _ _ _ _).alloc _).drew⟩
set_option maxRecDepth 8000 in
set_option maxHeartbeats 4000000 in
theorem rsend_buffers {w : World} {v : Value} {ms : List CM} (hv : RdCs w v ms) (hn : ms.length ≤ 1024) (hbig : ∀ c ∈ chs ms, BigC c) (gs gg val : Int) (hw : waitsL gs gg (chs ms) = false) {k : Nat} {cap : Int} {vals : List Int} {snd : List Wt} (hk : (chs ms)[k]? = some ⟨cap, vals, snd, [], false⟩) (hb : (vals.length : Int) < cap) :
    Calls Try.prog 49 #[v, .int .i64 ((k : Int) + 1), .agg #[.int .i64 gs, .int .i64 gg], .int .i64 val] w (RMvPost w v (chs ms) ((chs ms).set k ⟨cap, vals ++ [val], snd, [], false⟩) { ok := true } 0) := by
  have HV := hid hv
  have HBG := hid hbig
  have HWT := hid hw
  obtain ⟨A, c0, rfl, hmx, _, _⟩ := hv.form
  clear hv hbig hw
  go_enter Try.func49, Try.ntmps49
  go_wp2_with fail
  generalize hW : ((w.alloc (Obj.cells #[Value.int IntKind.i64 gs, Value.int IntKind.i64 gg] 37)).alloc _) = W
  have FA := hid (show Fr E0 w W by rw [← hW]; exact (Fr.refl.alloc _).alloc _)
  have T1 := hid (show W.heap[w.heap.size + 1]? = some (.cells #[Value.bool false, Value.int IntKind.i64 0, Value.bool false, Value.int IntKind.i64 0, Value.slice none 0 0] 32 (0, 0)) by rw [← hW]; exact heap_alloc2_new w _ _)
  have G1 := hid (show W.heap[w.heap.size]? = some (.cells #[Value.int IntKind.i64 gs, Value.int IntKind.i64 gg] 37 (0, 0)) by rw [← hW]; exact heap_alloc2_old w _ _)
  clear hW
  refine (waits2_ok ms _ gs gg W (HV.out.fr FA.out) (by omega) HBG.out).mono ?_
  rintro e w1 ⟨rfl, hf1⟩
  rw [HWT.out]
  have T2 := hid (hf1.heapAt T1.out (fun x => x))
  have G2 := hid (hf1.heapAt G1.out (fun x => x))
  have F2 := hid (FA.out.trans hf1)
  clear hf1
  obtain ⟨⟨b0, b1, b2, b3, b4⟩, z0, z1, z2, z3, z4⟩ := blk5 T2.out
  have hz : (((k : Int) + 1 == 0) : Bool) = false := by simp; omega
  go_wp2_with fail
  refine (is2_ok hmx _).mono ?_
  rw [show isB (chs ms) ((k : Int) + 1) = true from by unfold isB; rw [getC_in hk]; rfl]
  rintro e w' ⟨rfl, rfl⟩
  go_wp2_with fail
  refine (copy_ok ms _ w1 (HV.out.fr F2.out) (by omega) (fun m hm => HBG.out _ (List.mem_map.2 ⟨m, hm, rfl⟩))).mono ?_
  rintro e w2 ⟨ov, ms2, rfl, hc2, ho2, hf2⟩
  clear b0 b1 b2 b3 b4 z0 z1 z2 z3 z4
  have T3 := hid (hf2.heapAt T2.out (fun x => x))
  have G3 := hid (hf2.heapAt G2.out (fun x => x))
  have F3 := hid (F2.out.trans hf2)
  have O3 := hid (ho2.mono (F' := New w) (fun q hq => Nat.le_trans F2.out.size hq))
  have C2 := hid hc2
  have hlen2 : ms2.length = ms.length := by rw [← chs_len, hc2, chs_len]
  obtain ⟨m2, hk2, hm2⟩ : ∃ m2, ms2[k]? = some m2 ∧ m2.ch = ⟨cap, vals, snd, [], false⟩ := by
    have h1 : (chs ms2)[k]? = some ⟨cap, vals, snd, [], false⟩ := by rw [hc2]; exact hk
    unfold chs at h1
    rw [List.getElem?_map] at h1
    obtain ⟨m2, h2, h3⟩ := Option.map_eq_some_iff.1 h1
    exact ⟨m2, h2, h3⟩
  obtain ⟨ch2, vv, sv, rv⟩ := m2
  simp only at hm2
  subst hm2
  have HBC := hid (HBG.out _ (List.mem_of_getElem? hk))
  obtain ⟨hbv, hbs, hbr⟩ : vals.length ≤ 4194304 ∧ snd.length ≤ 4194304 ∧ ([] : List Wt).length ≤ 4194304 := HBC.out
  have HK := hid hk
  have HK2 := hid hk2
  have HLN := hid hlen2
  have hlt := lt_of_get hk2
  have hkb : k < 1024 := by omega
  obtain ⟨L, cp, hov, hFL, hLl, c0', c1, c2, c3, c4, hfz⟩ := O3.out.at hk2
  subst hov
  have HFZ := hid hfz
  have OM := hid (O3.out.each _ (List.mem_of_getElem? hk2))
  obtain ⟨VA, vc, ev, _, _, _⟩ := OM.out.vals.read (n := vals.length) (by decide) (ints_len _)
  obtain ⟨SA, sc, es, _, _, _⟩ := OM.out.snd.read (n := snd.length) (by decide) (wts_len _)
  obtain ⟨RA, rc, er, _, _, _⟩ := OM.out.rcv.read (n := 0) (by decide) (wts_len _)
  simp only at ev es er c0' c1 c2 c3 c4
  subst ev es er
  have hTl := heap_lt T3.out
  have hGl : w.heap.size < w2.heap.size := by omega
  obtain ⟨⟨b0, b1, b2, b3, b4⟩, z0, z1, z2, z3, z4⟩ := blk5 T3.out
  have T4 := hid (((Fr.refl (S := E0) (w := w2)).alloc (.cells #[.int .i64 cap, .slice VA vals.length vc, .slice SA snd.length sc, .slice RA 0 rc, .bool false] 67)).heapAt T3.out (fun x => x))
  have F4 := hid (F3.out.alloc (.cells #[.int .i64 cap, .slice VA vals.length vc, .slice SA snd.length sc, .slice RA 0 rc, .bool false] 67))
  clear hc2 ho2 hf2 hk hk2 hlen2 hfz
  obtain ⟨i0, hi0, hz0, hz1, hz2⟩ := info_parts info2'
  have g0 := cell_of_row w2 _ 0 _ _ _ G3.out
  have g1 := cell_of_row w2 _ 1 _ _ _ G3.out
  have hf0 := HFZ.out (k * 5 + 1)
  have F5a := hid (((Fr.refl (S := E0) (w := w2)).alloc (.cells #[.int .i64 cap, .slice VA vals.length vc, .slice SA snd.length sc, .slice RA 0 rc, .bool false] 67)))
  have F5b := hid (F5a.out.alloc (.cells #[.int .i64 val] 2))
  have OB := hid (O3.out.fr F5b.out (fun _ _ x => x))
  have hown0 := hid (((OM.out.vals.fr F5b.out (fun _ _ x => x))).own (n := vals.length) (by decide) (ints_len _))
  have hnL : (Value.slice VA vals.length vc).ownBlock ≠ some L := fun hx => O3.out.row.ne_type OM.out.vals (by decide) rfl hx
  have HNL := hid hnL
  clear hnL
  have hTL1 : ¬ L = w.heap.size + 1 := ne32 O3.out.row T3.out
  have hTL2 : ¬ w.heap.size + 1 = L := fun e => hTL1 e.symm
  go_wp2_with (at_builtin; (refine wpList_append_lies _ rfl (.tmp 74) (.tmp 76) 22 rfl 0 2 i0 (.int .i64 0) 1 8 Try.underlying22 hi0 hz0 hz1 hz2 rfl (by decide) (.slice VA vals.length vc) vals.length (ints vals) rfl hown0.out ⟨w2.heap.size + 1, 0, none⟩ 1 1 [.int .i64 val] rfl rfl (World.news_of_block (newAt2 w2 _ _)) (by simp [Value.oneCell']) (by decide) (by unfold maxLen; omega) (by omega) (Nat.zero_le _) (w2.heap.size + 1 + 1) (by simp) ?_); intro gb cp3 w3 hown3 hgrow3 hat3 hlt3; have HN := hid (And.intro hown3 (And.intro hgrow3 hat3)); have x1 : w3.cell? ⟨L, k * 5 + 1, none⟩ = some (.slice VA vals.length vc) := hgrow3.cell (F5b.out.cell c1 (fun x => x)) (fun e => HNL.out e.symm); have x2 : w3.frozen? ⟨L, k * 5 + 1, none⟩ = false := frz (OB.out.row.fr (Fr.refl.grown hgrow3 (S := fun q => (Value.slice VA vals.length vc).ownBlock = some q) (fun q hq => .inl hq)) (fun q hq e => HNL.out (by simp [Value.ownBlock] at hq; subst hq; exact e))) _; have T5 := hid (keep32 (F5b.out.heapAt T3.out (fun x => x)) (OM.out.vals.fr F5b.out (fun _ _ x => x)) (by decide) hgrow3); obtain ⟨⟨p0, p1, p2, p3, p4⟩, s0, s1, s2, s3, s4⟩ := blk5 T5.out; clear hown3 hgrow3 hat3 hlt3)
  have FX := hid (Fr.refl.grown HN.out.2.1 (S := fun q => (Value.slice VA vals.length vc).ownBlock = some q) (fun q hq => .inl hq))
  have O6 := hid (OwnCs.putV (w1 := w3) (l' := vals ++ [val]) (v' := .slice (some ⟨gb, 0, none⟩) (vals.length + 1) cp3) OB.out HK2.out FX.out (fun _ hq => hq) ⟨⟨_, by rw [ints_app]; exact HN.out.1⟩, fun q hq => by
    simp [Value.ownBlock] at hq; subst hq
    rcases HN.out.2.2 with e | e
    · exact OM.out.vals.2 _ e
    · have := F3.out.size; unfold New; omega⟩ (fun q hq => by
    simp [Value.ownBlock] at hq; subst hq
    rcases HN.out.2.2 with e | e
    · exact .inl e
    · exact .inr (by simp; omega)))
  have F6 := hid (((F3.out.trans F5b.out).trans' FX.out (fun q hq => .inr (OM.out.vals.2 q hq))).setCell (p := ⟨L, k * 5 + 1, none⟩) (.slice (some ⟨gb, 0, none⟩) (vals.length + 1) cp3) (.inr hFL))
  have T6 := hid (show (w3.setCell ⟨L, k * 5 + 1, none⟩ (.slice (some ⟨gb, 0, none⟩) (vals.length + 1) cp3)).heap[w.heap.size + 1]? = _ from (heap_setCell_other _ _ _ _ hTL2).trans T5.out)
  exact fin49 (m := { ok := true }) rfl rfl rfl rfl (set5_heap T6.out _ _ _ _ _) ⟨_, _, rfl, .inr ⟨_, by rw [chs_set, C2.out]; rfl, O6.out.set5 T6.out _ _ _ _ _⟩, RowF.nil, fr_new5 F6.out (Nat.le_succ _) _ _ _ _ _⟩
set_option maxRecDepth 8000 in
set_option maxHeartbeats 4000000 in
theorem rsend_queues {w : World} {v : Value} {ms : List CM} (hv : RdCs w v ms) (hn : ms.length ≤ 1024) (hbig : ∀ c ∈ chs ms, BigC c) (gs gg val : Int) (hw : waitsL gs gg (chs ms) = false) {k : Nat} {cap : Int} {vals : List Int} {snd : List Wt} (hk : (chs ms)[k]? = some ⟨cap, vals, snd, [], false⟩) (hb : ¬ (vals.length : Int) < cap) :
    Calls Try.prog 49 #[v, .int .i64 ((k : Int) + 1), .agg #[.int .i64 gs, .int .i64 gg], .int .i64 val] w (RMvPost w v (chs ms) ((chs ms).set k ⟨cap, vals, snd ++ [⟨gs, gg, 0, val⟩], [], false⟩) { waits := true } 0) := by
  have HV := hid hv
  have HBG := hid hbig
  have HWT := hid hw
  obtain ⟨A, c0, rfl, hmx, _, _⟩ := hv.form
  clear hv hbig hw
  go_enter Try.func49, Try.ntmps49
  go_wp2_with fail
  generalize hW : ((w.alloc (Obj.cells #[Value.int IntKind.i64 gs, Value.int IntKind.i64 gg] 37)).alloc _) = W
  have FA := hid (show Fr E0 w W by rw [← hW]; exact (Fr.refl.alloc _).alloc _)
  have T1 := hid (show W.heap[w.heap.size + 1]? = some (.cells #[Value.bool false, Value.int IntKind.i64 0, Value.bool false, Value.int IntKind.i64 0, Value.slice none 0 0] 32 (0, 0)) by rw [← hW]; exact heap_alloc2_new w _ _)
  have G1 := hid (show W.heap[w.heap.size]? = some (.cells #[Value.int IntKind.i64 gs, Value.int IntKind.i64 gg] 37 (0, 0)) by rw [← hW]; exact heap_alloc2_old w _ _)
  clear hW
  refine (waits2_ok ms _ gs gg W (HV.out.fr FA.out) (by omega) HBG.out).mono ?_
  rintro e w1 ⟨rfl, hf1⟩
  rw [HWT.out]
  have T2 := hid (hf1.heapAt T1.out (fun x => x))
  have G2 := hid (hf1.heapAt G1.out (fun x => x))
  have F2 := hid (FA.out.trans hf1)
  clear hf1
  obtain ⟨⟨b0, b1, b2, b3, b4⟩, z0, z1, z2, z3, z4⟩ := blk5 T2.out
  have hz : (((k : Int) + 1 == 0) : Bool) = false := by simp; omega
  go_wp2_with fail
  refine (is2_ok hmx _).mono ?_
  rw [show isB (chs ms) ((k : Int) + 1) = true from by unfold isB; rw [getC_in hk]; rfl]
  rintro e w' ⟨rfl, rfl⟩
  go_wp2_with fail
  refine (copy_ok ms _ w1 (HV.out.fr F2.out) (by omega) (fun m hm => HBG.out _ (List.mem_map.2 ⟨m, hm, rfl⟩))).mono ?_
  rintro e w2 ⟨ov, ms2, rfl, hc2, ho2, hf2⟩
  clear b0 b1 b2 b3 b4 z0 z1 z2 z3 z4
  have T3 := hid (hf2.heapAt T2.out (fun x => x))
  have G3 := hid (hf2.heapAt G2.out (fun x => x))
  have F3 := hid (F2.out.trans hf2)
  have O3 := hid (ho2.mono (F' := New w) (fun q hq => Nat.le_trans F2.out.size hq))
  have C2 := hid hc2
  have hlen2 : ms2.length = ms.length := by rw [← chs_len, hc2, chs_len]
  obtain ⟨m2, hk2, hm2⟩ : ∃ m2, ms2[k]? = some m2 ∧ m2.ch = ⟨cap, vals, snd, [], false⟩ := by
    have h1 : (chs ms2)[k]? = some ⟨cap, vals, snd, [], false⟩ := by rw [hc2]; exact hk
    unfold chs at h1
    rw [List.getElem?_map] at h1
    obtain ⟨m2, h2, h3⟩ := Option.map_eq_some_iff.1 h1
    exact ⟨m2, h2, h3⟩
  obtain ⟨ch2, vv, sv, rv⟩ := m2
  simp only at hm2
  subst hm2
  have HBC := hid (HBG.out _ (List.mem_of_getElem? hk))
  obtain ⟨hbv, hbs, hbr⟩ : vals.length ≤ 4194304 ∧ snd.length ≤ 4194304 ∧ ([] : List Wt).length ≤ 4194304 := HBC.out
  have HK := hid hk
  have HK2 := hid hk2
  have HLN := hid hlen2
  have hlt := lt_of_get hk2
  have hkb : k < 1024 := by omega
  obtain ⟨L, cp, hov, hFL, hLl, c0', c1, c2, c3, c4, hfz⟩ := O3.out.at hk2
  subst hov
  have HFZ := hid hfz
  have OM := hid (O3.out.each _ (List.mem_of_getElem? hk2))
  obtain ⟨VA, vc, ev, _, _, _⟩ := OM.out.vals.read (n := vals.length) (by decide) (ints_len _)
  obtain ⟨SA, sc, es, _, _, _⟩ := OM.out.snd.read (n := snd.length) (by decide) (wts_len _)
  obtain ⟨RA, rc, er, _, _, _⟩ := OM.out.rcv.read (n := 0) (by decide) (wts_len _)
  simp only at ev es er c0' c1 c2 c3 c4
  subst ev es er
  have hTl := heap_lt T3.out
  have hGl : w.heap.size < w2.heap.size := by omega
  obtain ⟨⟨b0, b1, b2, b3, b4⟩, z0, z1, z2, z3, z4⟩ := blk5 T3.out
  have T4 := hid (((Fr.refl (S := E0) (w := w2)).alloc (.cells #[.int .i64 cap, .slice VA vals.length vc, .slice SA snd.length sc, .slice RA 0 rc, .bool false] 67)).heapAt T3.out (fun x => x))
  have F4 := hid (F3.out.alloc (.cells #[.int .i64 cap, .slice VA vals.length vc, .slice SA snd.length sc, .slice RA 0 rc, .bool false] 67))
  clear hc2 ho2 hf2 hk hk2 hlen2 hfz
  obtain ⟨i0, hi0, hz0, hz1, hz2⟩ := info_parts info114
  have g0 := cell_of_row w2 _ 0 _ _ _ G3.out
  have g1 := cell_of_row w2 _ 1 _ _ _ G3.out
  have hf0 := HFZ.out (k * 5 + 2)
  have F5a := hid (((Fr.refl (S := E0) (w := w2)).alloc (.cells #[.int .i64 cap, .slice VA vals.length vc, .slice SA snd.length sc, .slice RA 0 rc, .bool false] 67)))
  have F5b := hid (F5a.out.alloc (.cells #[.int .i64 gs, .int .i64 gg, .int .i64 0, .int .i64 val] 114))
  have OB := hid (O3.out.fr F5b.out (fun _ _ x => x))
  have hown0 := hid (((OM.out.snd.fr F5b.out (fun _ _ x => x))).own (n := snd.length) (by decide) (wts_len _))
  have hnL : (Value.slice SA snd.length sc).ownBlock ≠ some L := fun hx => O3.out.row.ne_type OM.out.snd (by decide) rfl hx
  have HNL := hid hnL
  clear hnL
  have hTL1 : ¬ L = w.heap.size + 1 := ne32 O3.out.row T3.out
  have hTL2 : ¬ w.heap.size + 1 = L := fun e => hTL1 e.symm
  go_wp2_with (at_builtin; (refine wpList_append_lies _ rfl (.tmp 86) (.tmp 90) 65 rfl 0 114 i0 (.agg #[.int .i64 0, .int .i64 0, .int .i64 0, .int .i64 0]) 4 32 Try.underlying65 hi0 hz0 hz1 hz2 rfl (by decide) (.slice SA snd.length sc) snd.length (wts snd) rfl hown0.out ⟨w2.heap.size + 1, 0, none⟩ 1 1 [.int .i64 gs, .int .i64 gg, .int .i64 0, .int .i64 val] rfl rfl (World.news_of_block (newAt2 w2 _ _)) (by simp [Value.oneCell']) (by decide) (by unfold maxLen; omega) (by omega) (Nat.zero_le _) (w2.heap.size + 1 + 1) (by simp) ?_); intro gb cp3 w3 hown3 hgrow3 hat3 hlt3; have HN := hid (And.intro hown3 (And.intro hgrow3 hat3)); have x1 : w3.cell? ⟨L, k * 5 + 2, none⟩ = some (.slice SA snd.length sc) := hgrow3.cell (F5b.out.cell c2 (fun x => x)) (fun e => HNL.out e.symm); have x2 : w3.frozen? ⟨L, k * 5 + 2, none⟩ = false := frz (OB.out.row.fr (Fr.refl.grown hgrow3 (S := fun q => (Value.slice SA snd.length sc).ownBlock = some q) (fun q hq => .inl hq)) (fun q hq e => HNL.out (by simp [Value.ownBlock] at hq; subst hq; exact e))) _; have T5 := hid (keep32 (F5b.out.heapAt T3.out (fun x => x)) (OM.out.snd.fr F5b.out (fun _ _ x => x)) (by decide) hgrow3); obtain ⟨⟨p0, p1, p2, p3, p4⟩, s0, s1, s2, s3, s4⟩ := blk5 T5.out; clear hown3 hgrow3 hat3 hlt3)
  have FX := hid (Fr.refl.grown HN.out.2.1 (S := fun q => (Value.slice SA snd.length sc).ownBlock = some q) (fun q hq => .inl hq))
  have O6 := hid (OwnCs.putS (w1 := w3) (l' := snd ++ [⟨gs, gg, 0, val⟩]) (v' := .slice (some ⟨gb, 0, none⟩) (snd.length + 1) cp3) OB.out HK2.out FX.out (fun _ hq => hq) ⟨⟨_, by rw [wts_app]; exact HN.out.1⟩, fun q hq => by
    simp [Value.ownBlock] at hq; subst hq
    rcases HN.out.2.2 with e | e
    · exact OM.out.snd.2 _ e
    · have := F3.out.size; unfold New; omega⟩ (fun q hq => by
    simp [Value.ownBlock] at hq; subst hq
    rcases HN.out.2.2 with e | e
    · exact .inl e
    · exact .inr (by simp; omega)))
  have F6 := hid (((F3.out.trans F5b.out).trans' FX.out (fun q hq => .inr (OM.out.snd.2 q hq))).setCell (p := ⟨L, k * 5 + 2, none⟩) (.slice (some ⟨gb, 0, none⟩) (snd.length + 1) cp3) (.inr hFL))
  have T6 := hid (show (w3.setCell ⟨L, k * 5 + 2, none⟩ (.slice (some ⟨gb, 0, none⟩) (snd.length + 1) cp3)).heap[w.heap.size + 1]? = _ from (heap_setCell_other _ _ _ _ hTL2).trans T5.out)
  exact fin49 (m := { waits := true }) rfl rfl rfl rfl (set5_heap T6.out _ _ _ _ _) ⟨_, _, rfl, .inr ⟨_, by rw [chs_set, C2.out]; rfl, O6.out.set5 T6.out _ _ _ _ _⟩, RowF.nil, fr_new5 F6.out (Nat.le_succ _) _ _ _ _ _⟩
end Go.Proofs.Yteffmnohgnmanaa

/- rotaref11.Make. -/
namespace Go.Proofs.Yteffmnohgnmanaa
open Go.RowKit
set_option linter.unusedVariables false
attribute [local go_sem ↓] Go.wp_at_zero Go.wp_at_succ
def RMakePost (w : World) (v : Value) (l l' : List Ch) (ch err : Int) (e : Ending) (w' : World) : Prop :=
  ∃ v', e = .returned (tup3 v' (.int .i64 ch) (.int .i64 err)) ∧ OutR w w' v l l' v' ∧ Fr E0 w w'
theorem fin60 {a : Act} {W : World} {Q : Ending → World → Prop} {x y z : Value} (hd : a.defers = []) (h4 : a.tmps.getD 4 undef = x) (h5 : a.tmps.getD 5 undef = y) (h6 : a.tmps.getD 6 undef = z) (hQ : Q (.returned (tup3 x y z)) W) : bodyPost Try.prog Try.f60 Q .ret a W := by
  have h4' : a.tmps[4]?.getD undef = x := by simpa using h4
  have h5' : a.tmps[5]?.getD undef = y := by simpa using h5
  have h6' : a.tmps[6]?.getD undef = z := by simpa using h6
  exact bodyPost_ret (v := tup3 x y z) (by simp [results, Try.results60, go_sem, h4', h5', h6', tup3]) hd hQ
theorem rmake_no {w : World} {v : Value} {ms : List CM} (hv : RdCs w v ms) (hn : ms.length ≤ 1024) (c : Int) (hno : makeNo (chs ms) c = true) :
    Calls Try.prog 60 #[v, .int .i64 c] w (RMakePost w v (chs ms) (chs ms) 0 5) := by
  obtain ⟨A, c0, rfl, hmx, _, _⟩ := hv.form
  clear hv
  have hq : c < 0 ∨ 1024 < c ∨ 1024 ≤ ms.length := by simpa [makeNo, chs_len] using hno
  go_enter Try.func60, Try.ntmps60
  rcases hq with h | h | h
  · go_wp2_with fail
    all_goals exact fin60 rfl rfl rfl rfl ⟨_, rfl, .inl ⟨rfl, rfl⟩, Fr.refl⟩
  · go_wp2_with fail
    all_goals exact fin60 rfl rfl rfl rfl ⟨_, rfl, .inl ⟨rfl, rfl⟩, Fr.refl⟩
  · have h' : (1024 : Int) ≤ (ms.length : Int) := by omega
    go_wp2_with fail
    all_goals exact fin60 rfl rfl rfl rfl ⟨_, rfl, .inl ⟨rfl, rfl⟩, Fr.refl⟩
set_option maxRecDepth 8000 in
set_option maxHeartbeats 1000000 in
theorem rmake_ok {w : World} {v : Value} {ms : List CM} (hv : RdCs w v ms) (hn : ms.length ≤ 1024) (hbig : ∀ c ∈ chs ms, BigC c) (c : Int) (hno : makeNo (chs ms) c = false) :
    Calls Try.prog 60 #[v, .int .i64 c] w (RMakePost w v (chs ms) (chs ms ++ [newCh c]) (ms.length + 1) 0) := by
  have HV := hid hv
  have HBG := hid hbig
  obtain ⟨A, c0, rfl, hmx, _, _⟩ := hv.form
  have h1 : ¬ c < 0 := fun x => by simp [makeNo, x] at hno
  have h2 : ¬ 1024 < c := fun x => by simp [makeNo, x] at hno
  have h3 : ¬ (1024 : Int) ≤ (ms.length : Int) := fun x => by simp [makeNo, chs_len] at hno; omega
  obtain ⟨i0, hi0, hz0, hz1, hz2⟩ := info_parts info67
  clear hv hbig hno
  go_enter Try.func60, Try.ntmps60
  go_wp2_with fail
  refine (copy_ok ms _ w HV.out (by omega) (fun m hm => HBG.out _ (List.mem_map.2 ⟨m, hm, rfl⟩))).mono ?_
  rintro e w2 ⟨v2, ms2, rfl, hch2, hown2, hf2⟩
  have hl2 : ms2.length = ms.length := by have := congrArg List.length hch2; simpa [chs_len] using this
  obtain ⟨A2, k2, c2, rfl⟩ := hown2.row.shape
  have O2 := hid (hown2.fr ((Fr.refl (S := E0)).alloc (.cells #[.int .i64 c, .slice none 0 0, .slice none 0 0, .slice none 0 0, .bool false] 67)) (fun _ _ x => x))
  have F2 := hid hf2
  have HC2 := hid hch2
  have hs2 := hf2.size
  clear hown2 hf2 hch2
  go_wp2_with (at_builtin; (refine wpList_append_own_at _ rfl (.tmp 21) (.tmp 24) 52 rfl 0 67 i0 (.agg #[.int .i64 0, .slice none 0 0, .slice none 0 0, .slice none 0 0, .bool false]) 5 88 Try.underlying52 hi0 hz0 hz1 hz2 rfl (by decide) _ ms2.length (ms2.flatMap CM.cells) rfl (O2.out.row.own (by decide) (cms_len ms2)) ⟨w2.heap.size, 0, none⟩ 1 1 [.int .i64 c, .slice none 0 0, .slice none 0 0, .slice none 0 0, .bool false] rfl rfl (World.news_of_block (heap_alloc_new w2 _)) (by simp [Value.oneCell']) (by unfold maxLen; omega) (by omega) (Nat.zero_le _) ?_); intro v' w3 hown3 hgrow3 hnil3 hat3; have hl0 : ms.length + 1 = ms2.length + 1 := (by omega); have O3 := hid (O2.out.push (m := ⟨newCh c, .slice none 0 0, .slice none 0 0, .slice none 0 0⟩) ⟨RowF.nil, RowF.nil, RowF.nil⟩ (by show ([] : List Nat).Nodup; exact List.nodup_nil) (fun k hk => absurd hk (by show ¬ k ∈ ([] : List Nat); exact List.not_mem_nil)) hown3 hgrow3 hat3 (show w.heap.size ≤ _ from (F2.out.alloc _).size)); have F3 := hid ((F2.out.alloc (.cells #[.int .i64 c, .slice none 0 0, .slice none 0 0, .slice none 0 0, .bool false] 67)).grown hgrow3 (fun q hq => .inr (O2.out.row.2 q hq))); clear hown3 hgrow3 hnil3 hat3; obtain ⟨N, hN⟩ : ∃ N, N = ms2.length + 1 := ⟨_, rfl⟩; obtain ⟨A3, c3, rfl, hnc3, hm3, _⟩ := O3.out.row.read (n := N) (by decide) (by have h8 := cms_len ms2; rw [cms_len, List.length_append, hN]; rfl); have hm3x : N ≤ 1025 := (by omega); have HN := hid (show (N : Int) = (ms.length : Int) + 1 by omega); clear hN hl0 hnc3 hm3)
  refine fin60 (x := .slice A3 N c3) (y := .int .i64 N) (z := .int .i64 0) rfl rfl rfl rfl ?_
  exact ⟨_, by rw [HN.out], .inr ⟨_, by rw [chs_push, HC2.out], O3.out⟩, F3.out⟩
end Go.Proofs.Yteffmnohgnmanaa
/- rotaref11: Wait in one contract, Fits; Send, Recv and Make in one contract each. -/
namespace Go.Proofs.Yteffmnohgnmanaa
open Go.RowKit
set_option linter.unusedVariables false
def RWaitPost (w : World) (v : Value) (l l' : List Ch) (t : Int) (e : Ending) (w' : World) : Prop := ∃ v', e = .returned (tup2 v' (.int .i64 t)) ∧ OutR w w' v l l' v' ∧ Fr E0 w w'
theorem getK {ms : List CM} {k : Nat} {m : CM} (hk : ms[k]? = some m) : (chs ms)[k]? = some ⟨m.ch.cap, m.ch.vals, m.ch.snd, m.ch.rcv, m.ch.cl⟩ := chs_get hk
theorem rwait_in {w : World} {v : Value} {ms : List CM} (hv : RdCs w v ms) (hn : ms.length ≤ 1024) (hbig : ∀ c ∈ chs ms, BigC c) (x : Wt) (send : Bool) {k : Nat} {m : CM} (hk : ms[k]? = some m) :
    Calls Try.prog 63 #[v, .int .i64 ((k : Int) + 1), x.val, .bool send] w (RNewPost w (waitL (chs ms) ((k : Int) + 1) x send).1 0) := by
  have hg := getC_in (chs_get hk)
  cases send with
  | true =>
    have e : (waitL (chs ms) ((k : Int) + 1) x true).1 = (chs ms).set k ⟨m.ch.cap, m.ch.vals, m.ch.snd ++ [x], m.ch.rcv, m.ch.cl⟩ := by unfold waitL; rw [hg]; simp [setK_k]
    rw [e]; exact rwait_sends hv hn hbig x (getK hk)
  | false =>
    have e : (waitL (chs ms) ((k : Int) + 1) x false).1 = (chs ms).set k ⟨m.ch.cap, m.ch.vals, m.ch.snd, m.ch.rcv ++ [{ x with v := 0 }], m.ch.cl⟩ := by unfold waitL; rw [hg]; simp [setK_k]
    rw [e]; exact rwait_recvs hv hn hbig x (getK hk)
theorem waitL_no {l : List Ch} {ch : Int} (x : Wt) (send : Bool) (hi : isB l ch = false) : waitL l ch x send = (l, trapC l ch) := by unfold waitL; rw [noC hi]
theorem waitL_trap {l : List Ch} {k : Nat} {c : Ch} (x : Wt) (send : Bool) (hk : l[k]? = some c) : (waitL l ((k : Int) + 1) x send).2 = 0 := by
  unfold waitL; rw [getC_in hk]; cases send <;> rfl
theorem rwait_all {w : World} {v : Value} {ms : List CM} (hv : RdCs w v ms) (hn : ms.length ≤ 1024) (hbig : ∀ c ∈ chs ms, BigC c) (ch : Int) (x : Wt) (send : Bool) :
    Calls Try.prog 63 #[v, .int .i64 ch, x.val, .bool send] w (RWaitPost w v (chs ms) (waitL (chs ms) ch x send).1 (waitL (chs ms) ch x send).2) := by
  cases hi : isB (chs ms) ch with
  | false =>
    rw [waitL_no x send hi]
    exact (rwait_no hv x ch send hi).mono fun e w' h => ⟨v, h.1, .inl ⟨rfl, rfl⟩, h.2⟩
  | true =>
    obtain ⟨k, m, rfl, hk⟩ := someC hi
    rw [waitL_trap x send (chs_get hk)]
    exact (rwait_in hv hn hbig x send hk).mono fun e w' ⟨v', ms', h1, h2, h3, h4⟩ => ⟨v', h1, .inr ⟨ms', h2, h3⟩, h4⟩
/-- May a goroutine wait so? -/
def fitsL (l : List Ch) (ch : Int) (x : Wt) (send : Bool) : Bool := match getC (waitL l ch x send).1 ch with | none => true | some c => mayC c
theorem rwait_agg {w : World} {v : Value} {ms : List CM} (hv : RdCs w v ms) (hn : ms.length ≤ 1024) (hbig : ∀ c ∈ chs ms, BigC c) (s g c xv : Int) (send : Bool) {k : Nat} {m : CM} (hk : ms[k]? = some m) :
    Calls Try.prog 63 #[v, .int .i64 ((k : Int) + 1), .agg #[.int .i64 s, .int .i64 g, .int .i64 c, .int .i64 xv], .bool send] w (RNewPost w (waitL (chs ms) ((k : Int) + 1) ⟨s, g, c, xv⟩ send).1 0) := rwait_in hv hn hbig ⟨s, g, c, xv⟩ send hk
theorem may2_agg (cap : Int) (vals : List Int) (snd rcv : List Wt) (cl : Bool) (A1 A2 A3 : Option Addr) (n1 c1 n2 c2 n3 c3 : Nat) (w : World) (h : CM.Rd w ⟨⟨cap, vals, snd, rcv, cl⟩, .slice A1 n1 c1, .slice A2 n2 c2, .slice A3 n3 c3⟩) (h1 : vals.length ≤ 4194305) (h2 : snd.length ≤ 4194305) (h3 : rcv.length ≤ 4194305) :
    Calls Try.prog 77 #[.agg #[.int .i64 cap, .slice A1 n1 c1, .slice A2 n2 c2, .slice A3 n3 c3, .bool cl]] w (Ret (.bool (mayC ⟨cap, vals, snd, rcv, cl⟩)) E0 w) := may2_ok _ w h h1 h2 h3
theorem waitL_len (l : List Ch) (ch : Int) (x : Wt) (send : Bool) : (waitL l ch x send).1.length = l.length := by
  unfold waitL; split
  · rfl
  · split <;> simp [setK]
theorem waitL_big {l : List Ch} (h : ∀ c ∈ l, BigC c) (ch : Int) (x : Wt) (send : Bool) : ∀ c ∈ (waitL l ch x send).1, c.vals.length ≤ 4194305 ∧ c.snd.length ≤ 4194305 ∧ c.rcv.length ≤ 4194305 := by
  intro c hc
  unfold waitL at hc
  split at hc
  · obtain ⟨h1, h2, h3⟩ := h c hc; omega
  rename_i c0 hc0
  obtain ⟨h1, h2, h3⟩ := h c0 (getC_mem hc0)
  split at hc
  all_goals
    rcases List.mem_or_eq_of_mem_set hc with hq | rfl
    · obtain ⟨h1, h2, h3⟩ := h c hq; omega
    · simp; omega
set_option maxRecDepth 8000 in
set_option maxHeartbeats 2000000 in
theorem fits_ok {w : World} {v : Value} {ms : List CM} (hv : RdCs w v ms) (hn : ms.length ≤ 1024) (hbig : ∀ c ∈ chs ms, BigC c) (ch : Int) (x : Wt) (send : Bool) :
    Calls Try.prog 62 #[v, .int .i64 ch, x.val, .bool send] w (Ret (.bool (fitsL (chs ms) ch x send)) E0 w) := by
  have HV := hid hv
  have HBG := hid hbig
  obtain ⟨A, c0, rfl, hmx, _, _⟩ := hv.form
  obtain ⟨s, gn, c, xv⟩ := x
  clear hv hbig
  have FA := hid ((Fr.refl (S := E0) (w := w)).alloc (.cells #[.int .i64 s, .int .i64 gn, .int .i64 c, .int .i64 xv] 114))
  have X1 := hid (heap_alloc_new w (.cells #[.int .i64 s, .int .i64 gn, .int .i64 c, .int .i64 xv] 114))
  cases hi : isB (chs ms) ch with
  | false =>
    have e1 : fitsL (chs ms) ch ⟨s, gn, c, xv⟩ send = true := by unfold fitsL; rw [waitL_no _ _ hi, noC hi]
    rw [e1]
    have HI := hid hi
    clear hi e1
    simp only [Wt.val]
    go_enter Try.func62, Try.ntmps62
    go_wp2_with fail
    refine (is2_ok hmx ch).mono ?_
    rw [HI.out]
    rintro e w' ⟨rfl, rfl⟩
    go_wp2_with fail
    go_ret
    exact ⟨rfl, FA.out⟩
  | true =>
    obtain ⟨k, m, rfl, hk⟩ := someC hi
    have HI := hid hi
    have HK := hid hk
    have hlt := lt_of_get hk
    clear hi hk
    simp only [Wt.val]
    go_enter Try.func62, Try.ntmps62
    go_wp2_with fail
    obtain ⟨y0, y1, y2, y3⟩ := cell4 X1.out
    generalize w.alloc (.cells #[.int .i64 s, .int .i64 gn, .int .i64 c, .int .i64 xv] 114) = W at *
    refine (is2_ok hmx _).mono ?_
    rw [HI.out]
    rintro e w' ⟨rfl, rfl⟩
    go_wp2_with fail
    refine (rwait_agg (HV.out.fr FA.out) hn HBG.out s gn c xv send HK.out).mono ?_
    rintro e w3 ⟨v3, ms3, rfl, hc3, ho3, hf3⟩
    have hlen : ms3.length = ms.length := by rw [← chs_len, hc3, waitL_len, chs_len]
    obtain ⟨m3, hk3⟩ : ∃ m3, ms3[k]? = some m3 := ⟨ms3[k]'(by omega), List.getElem?_eq_getElem _⟩
    have hfit : fitsL (chs ms) ((k : Int) + 1) ⟨s, gn, c, xv⟩ send = mayC m3.ch := by
      unfold fitsL; rw [← hc3, getC_in (chs_get hk3)]
    have hmem : m3.ch ∈ (waitL (chs ms) ((k : Int) + 1) ⟨s, gn, c, xv⟩ send).1 := by rw [← hc3]; exact List.mem_map.2 ⟨m3, List.mem_of_getElem? hk3, rfl⟩
    obtain ⟨q1, q2, q3⟩ := waitL_big HBG.out _ _ _ _ hmem
    have RD3 := hid ((ho3.each m3 (List.mem_of_getElem? hk3)).rd)
    obtain ⟨L, cp, ev, _, _, b0, b1, b2, b3, b4, _⟩ := ho3.at hk3
    subst ev
    have HF := hid hfit
    have F3 := hid (FA.out.trans hf3)
    obtain ⟨⟨cap, vals, snd, rcv, cl⟩, vv, sv, rv⟩ := m3
    obtain ⟨A1, n1, c1, e1, _⟩ := RD3.out.vals
    obtain ⟨A2, n2, c2, e2, _⟩ := RD3.out.snd
    obtain ⟨A3, n3, c3, e3, _⟩ := RD3.out.rcv
    simp only at e1 e2 e3 q1 q2 q3 b0 b1 b2 b3 b4 HF
    subst e1 e2 e3
    have Q := hid (And.intro q1 (And.intro q2 q3))
    have hl3 : k < ms3.length := by omega
    clear hc3 ho3 hf3 hk3 hfit hmem q1 q2 q3 hlen
    simp only [tup2]
    have hkb : k < 1024 := by omega
    go_wp2_with fail
    refine (may2_agg cap vals snd rcv cl _ _ _ _ _ _ _ _ _ w3 RD3.out Q.out.1 Q.out.2.1 Q.out.2.2).mono ?_
    rintro e w4 ⟨rfl, hf4⟩
    have F4 := hid (F3.out.trans hf4)
    clear hf4
    go_wp2_with fail
    go_ret
    exact ⟨by rw [HF.out]; rfl, F4.out⟩
end Go.Proofs.Yteffmnohgnmanaa
/- channel.Load. -/
namespace Go.Proofs.Yteffmnohgnmanaa
open Go.RowKit
attribute [local go_sem ↓] Go.wp_at_zero Go.wp_at_succ
theorem loadNo1 (x : CM) (w : World) (hx : x.Rd w) (hf : x.ch.Fit) : Calls Try.prog 75 (#[x.val] ++ #[]) w (Ret (.bool (!mayC x.ch)) E0 w) := by
  have HX := hid hx
  obtain ⟨ch, vv, sv, rv⟩ := x
  obtain ⟨A1, n1, c1, e1, _⟩ := hx.vals
  obtain ⟨A2, n2, c2, e2, _⟩ := hx.snd
  obtain ⟨A3, n3, c3, e3, _⟩ := hx.rcv
  simp only at e1 e2 e3
  subst e1 e2 e3
  clear hx
  simp only [CM.val]
  go_enter Try.func75, Try.ntmps75
  go_wp2_with fail
  refine (may_ok _ _ (HX.out.fr (Fr.refl.alloc _)) hf).mono ?_
  rintro e w1 ⟨rfl, hf1⟩
  have F1 := hid ((Fr.refl.alloc _).trans hf1)
  clear hf1
  go_wp2
  go_ret
  exact ⟨by rfl, F1.out⟩
set_option maxHeartbeats 400000 in
theorem indexL (A : Option Addr) (n c : Nat) (l : List CM) (w : World) (hl : l.length = n) (hn : n ≤ maxLen) (hc : RdA w A (l.flatMap CM.cells)) (he : ∀ m ∈ l, m.Rd w) (hq : ∀ m ∈ l, m.ch.Fit) :
    Calls Try.prog 87 #[.slice A n c, .func (.func 75) #[] #[]] w (Ret (.int .i64 (idxv (fun m => !mayC m.ch) l)) E0 w) := by
  unfold maxLen at hn
  have hK := enters 75 (by kernel_rfl)
  go_enter Try.func87, Try.ntmps87
  go_wp2
  go_loopw [8] (fun i wr => ∃ k : Nat, k ≤ n ∧ i = .int .i64 k ∧ Fr E0 w wr ∧ ∀ j, j < k → ∀ x : CM, l[j]? = some x → (!mayC x.ch) = false) (fun i _ => n - (intOf i).toNat)
  case atStart => exact ⟨0, Nat.zero_le _, rfl, Fr.refl, fun j hj => absurd hj (by omega)⟩
  case round =>
    obtain ⟨k, hk, rfl, hf, hno⟩ := hrel
    have H := hid hno; clear hno
    by_cases hlt : k < n
    · obtain ⟨x, hx⟩ : ∃ x, l[k]? = some x := ⟨l[k], List.getElem?_eq_getElem (by omega)⟩
      obtain ⟨b, o, rfl, hr⟩ := hc.cmAt hx
      obtain ⟨g0, g1, g2, g3, g4⟩ := (hr.fr hf (fun x => x)).cm hx
      have HR := hid ((he x (List.mem_of_getElem? hx)).fr hf)
      have HQ := hid (hq x (List.mem_of_getElem? hx))
      clear hr hc he hq
      go_wp2_with fail
      refine (loadNo1 x wr HR.out HQ.out).mono ?_
      rintro e w1 ⟨rfl, hf1⟩
      have F1 := hid (hf.trans hf1)
      clear hf hf1
      cases hpx : (!mayC x.ch) with
      | true =>
        have HX := hid hpx; clear hpx
        go_wp2
        go_ret
        exact ⟨by rw [idxv_hit (p := fun m : CM => !mayC m.ch) hx HX.out H.out]; rfl, F1.out⟩
      | false =>
        have HX := hid hpx; clear hpx
        go_wp2
        go_roundw
        case rel => exact ⟨k + 1, by omega, by go_num, F1.out, miss_succ (p := fun m : CM => !mayC m.ch) hx HX.out H.out⟩
        case measure => simp [intOf]; omega
    · have F := hid hf
      go_wp2
      go_ret
      exact ⟨by rw [idxv_miss (by omega) H.out]; rfl, F.out⟩
set_option maxHeartbeats 400000 in
theorem containsL (A : Option Addr) (n c : Nat) (l : List CM) (w : World) (hl : l.length = n) (hn : n ≤ maxLen) (hc : RdA w A (l.flatMap CM.cells)) (he : ∀ m ∈ l, m.Rd w) (hq : ∀ m ∈ l, m.ch.Fit) :
    Calls Try.prog 71 #[.slice A n c, .func (.func 75) #[] #[]] w (Ret (.bool (!(chs l).all mayC)) E0 w) := by
  have hi := idxv_any (fun m : CM => !mayC m.ch) l
  have e : (!(chs l).all mayC) = l.any (fun m => !mayC m.ch) := by unfold chs; rw [List.all_map, List.not_all_eq_any_not]; rfl
  rw [e]
  generalize l.any (fun m => !mayC m.ch) = r at *
  clear e
  go_enter Try.func71, Try.ntmps71
  go_wp2_with (go_at_call 87; refine (indexL A n c l w hl hn hc he hq).mono ?_; rintro e w1 ⟨rfl, hf1⟩; have F1 := hid hf1; clear hf1)
  go_ret
  exact ⟨by rfl, F1.out⟩
/-- A channel of its own is put behind the others. -/
theorem pushOwn {w w1 : World} {F : Nat → Prop} {g n H : Nat} {v v' : Value} {ms : List CM} {m : CM} (h : Chs w F g v ms) (hm : m.Own w (fun k => H ≤ k)) (hnd : m.blocks.Nodup) (hH : ∀ k, F k → k < H) (hHw : H ≤ w.heap.size) (o : Obj) (hrow : w1.ownsRow 0 67 5 v' n (ms.flatMap CM.cells ++ m.cells))
    (hg : (w.alloc o).grownBy w1 v.ownBlock) (hat : v'.ownBlock = v.ownBlock ∨ v'.ownBlock = some (w.alloc o).heap.size) :
    Chs (w1.setCell ⟨g, 1, none⟩ v') (fun k => (F k ∨ H ≤ k) ∧ k < w1.heap.size) g v' (ms ++ [m]) ∧ Fr F w (w1.setCell ⟨g, 1, none⟩ v') := by
  have h0 := h.fr (Fr.refl (S := E0) |>.alloc o) (fun _ _ x => x)
  have hgl : g < w.heap.size := h.lt g h.mine
  have hng : v.ownBlock ≠ some g := by
    intro hx
    obtain ⟨cur, hc⟩ := h.own.row.heap hx
    rw [h.obj] at hc; injection hc with hc; injection hc with _ hc _; exact absurd hc (by decide)
  have hobj1 : w1.heap[g]? = some (.cells #[.bool true, v] 108 (0, 0)) := by
    rw [hg.block g (by simp; omega) (fun hx => hng hx.symm)]; exact h0.obj
  have hm1 : m.Own (w.alloc o) (fun k => F k ∨ H ≤ k) := (hm.fr (Fr.refl (S := E0) |>.alloc o) (fun _ _ x => x)).mono (fun k hk => .inr hk)
  have hown : OwnCs w1 (fun k => F k ∨ H ≤ k) v' (ms ++ [m]) :=
    (h0.own.mono (F' := fun k => F k ∨ H ≤ k) (fun k hk => .inl hk)).push hm1 hnd (fun k hk q hq hkq => by
      have a := (hm.mem hk).1
      have b := hH k ((h.own.each q hq).mem hkq).1
      omega) hrow hg hat (.inr (by simp; omega))
  have hgs := hg.size
  simp at hgs
  refine ⟨⟨?_, ⟨.inl h.mine, by omega⟩, fun k hk => by simpa using hk.2, hown.restrict.setOther hobj1⟩, ?_⟩
  · exact heap_setCell_same w1 g 1 _ _ v' hobj1
  · exact (((Fr.refl (S := F) (w := w)).alloc o).grown hg (fun k hk => .inl (h.own.row.2 k hk))).setCell (p := ⟨g, 1, none⟩) v' (.inl h.mine)
def loadNo (l : List Ch) : Bool := decide (1024 < l.length) || !l.all mayC
/-- What Load answers. -/
def LoadPost (l : List Ch) (w : World) (e : Ending) (w' : World) : Prop :=
  Fr E0 w w' ∧ ((loadNo l = true ∧ e = .returned (tup2 (.pointer none) (.int .i64 110))) ∨
    (loadNo l = false ∧ ∃ g F, e = .returned (tup2 (.pointer (some ⟨g, 0, none⟩)) (.int .i64 0)) ∧ IsCh w' F g l ∧ ∀ k, F k → w.heap.size ≤ k))
theorem own_agg (ch : Ch) (A1 A2 A3 : Option Addr) (n1 c1 n2 c2 n3 c3 : Nat) (w : World) (h : CM.Rd w ⟨ch, .slice A1 n1 c1, .slice A2 n2 c2, .slice A3 n3 c3⟩) (hf : ch.Fit) : Calls Try.prog 69 #[.agg #[.int .i64 ch.cap, .slice A1 n1 c1, .slice A2 n2 c2, .slice A3 n3 c3, .bool ch.cl]] w (OwnPost ⟨ch, .slice A1 n1 c1, .slice A2 n2 c2, .slice A3 n3 c3⟩ w) := own_ok _ w h hf
set_option maxHeartbeats 4000000 in
theorem load_ok (v : Value) (ms : List CM) (w : World) (h : RdCs w v ms) (hfit : ∀ m ∈ ms, m.ch.Fit) : Calls Try.prog 40 #[v] w (LoadPost (chs ms) w) := by
  obtain ⟨⟨A, n, c, rfl, hl, hnc, hcm, hr⟩, he⟩ := h
  obtain rfl : ms.length = n := by rw [cms_len] at hl; omega
  have hn : ms.length ≤ maxLen := Nat.le_trans hnc hcm
  have HR := hid hr
  have HE := hid he
  have HF := hid hfit
  clear hl hr he hfit hnc hcm
  by_cases h1 : 1024 < ms.length
  · have hno : loadNo (chs ms) = true := by simp [loadNo, chs_len, h1]
    have h1' : (1024 : Int) < (ms.length : Int) := by omega
    have hn' : ms.length ≤ 2 ^ 63 - 1 := hn
    go_enter Try.func40, Try.ntmps40
    go_wp2_with fail
    go_ret2
    exact ⟨Fr.refl, .inl ⟨hno, rfl⟩⟩
  have h1' : ¬ (1024 : Int) < (ms.length : Int) := by omega
  cases h2 : (chs ms).all mayC with
  | false =>
    have hno : loadNo (chs ms) = true := by simp [loadNo, h2]
    have H2 := hid h2
    clear h2
    go_enter Try.func40, Try.ntmps40
    go_wp2_with (go_at_call 71; refine (containsL A ms.length c ms w rfl hn HR.out HE.out HF.out).mono ?_; rintro e w1 ⟨rfl, hf1⟩; rw [H2.out]; have F1 := hid hf1; clear hf1)
    go_ret2
    exact ⟨F1.out, .inl ⟨hno, rfl⟩⟩
  | true =>
    have hno : loadNo (chs ms) = false := by simp [loadNo, h2, chs_len]; omega
    have H2 := hid h2
    clear h2
    obtain ⟨i0, hi0, hz0, hz1, hz2⟩ := info_parts info67
    go_enter Try.func40, Try.ntmps40
    go_wp2_with (first
      | (go_at_call 71; refine (containsL A ms.length c ms w rfl hn HR.out HE.out HF.out).mono ?_; rintro e w1 ⟨rfl, hf1⟩; rw [H2.out]; have F1 := hid hf1; clear hf1)
      | (go_at_call 20; refine (new_ok w1).mono ?_; rintro e w2 ⟨g, rfl, his2, hf2⟩; have I2 := hid his2; have F2 := hid (F1.out.trans hf2); have S1 := hid F1.out.size; clear his2 hf2))
    have Z2 := hid (Nat.le_trans F1.out.size (show w1.heap.size ≤ w2.heap.size from by obtain ⟨_, _, hc, _⟩ := I2.out; have := hc.lt g hc.mine; have := hc.mine.1; omega))
    go_loopw [17] (fun i wr => ∃ (k : Nat) (F : Nat → Prop) (ov : Value) (ms' : List CM), i = .int .i64 k ∧ k ≤ ms.length ∧ Chs wr F g ov ms' ∧ chs ms' = (chs ms).take k ∧ (∀ q, F q → w.heap.size ≤ q) ∧ Fr E0 w wr) (fun i _ => ms.length - (intOf i).toNat)
    case atStart =>
      obtain ⟨ov, ms', hc, hm⟩ := I2.out
      exact ⟨0, _, ov, ms', rfl, Nat.zero_le _, hc, hm, fun q hq => Nat.le_trans S1.out hq.1, F2.out⟩
    case round =>
      obtain ⟨k, F, ov, ms', rfl, hk, hch, htk, hnew, hfr⟩ := hrel
      have HC := hid hch
      have HT := hid htk
      have HN0 := hid hnew
      have HFR := hid hfr
      clear hch htk hnew hfr
      by_cases hlt : k < ms.length
      · obtain ⟨m, hm⟩ : ∃ m, ms[k]? = some m := ⟨ms[k], List.getElem?_eq_getElem hlt⟩
        obtain ⟨b, o, rfl, hr⟩ := HR.out.cmAt hm
        obtain ⟨g0, g1, g2, g3, g4⟩ := (hr.fr HFR.out (fun x => x)).cm hm
        have HM := hid hm
        have HMR := hid ((HE.out m (List.mem_of_getElem? hm)).fr HFR.out)
        have hmf := HF.out m (List.mem_of_getElem? hm)
        have hml : ms'.length = k := by have := congrArg List.length HT.out; rw [chs_len, List.length_take, chs_len] at this; omega
        obtain ⟨OA, Oc, eo, _, _, _⟩ := HC.out.own.row.read (n := k) (by decide) (by rw [cms_len, hml])
        subst eo
        obtain ⟨A1, n1, c1, e1, _⟩ := HMR.out.vals
        obtain ⟨A2, n2, c2, e2, _⟩ := HMR.out.snd
        obtain ⟨A3, n3, c3, e3, _⟩ := HMR.out.rcv
        obtain ⟨ch, vv, sv, rv⟩ := m
        simp only at e1 e2 e3
        subst e1 e2 e3
        simp only at g0 g1 g2 g3 g4
        have HML := hid hml
        have hgl : g < wr.heap.size := HC.out.lt g HC.out.mine
        clear hr hm hml
        go_upto_region 7 with fail
        have FA := hid ((Fr.refl (S := E0) (w := wr)).alloc (.cells #[.int .i64 ch.cap, .slice A1 n1 c1, .slice A2 n2 c2, .slice A3 n3 c3, .bool ch.cl] 67)).drew
        have K0 := hid (show (wr.alloc (.cells #[.int .i64 ch.cap, .slice A1 n1 c1, .slice A2 n2 c2, .slice A3 n3 c3, .bool ch.cl] 67)).drew.heap[wr.heap.size]? = some (.cells #[.int .i64 ch.cap, .slice A1 n1 c1, .slice A2 n2 c2, .slice A3 n3 c3, .bool ch.cl] 67 (0, 0)) from heap_alloc_new wr _)
        obtain ⟨⟨k0, k1, k2, k3, k4⟩, _⟩ := blk5 K0.out
        have CA := hid (HC.out.fr FA.out (fun _ _ x => x))
        have l0 := CA.out.list
        clear g0 g1 g2 g3 g4
        have hnB : Hid (¬ (Value.slice OA k Oc).ownBlock = some wr.heap.size) := fun e => absurd (HC.out.lt _ (HC.out.own.row.2 _ e)) (Nat.lt_irrefl _)
        have hnG : Hid (¬ (Value.slice OA k Oc).ownBlock = some g) := fun e => by
          obtain ⟨cur, hc⟩ := HC.out.own.row.heap e
          rw [HC.out.obj] at hc; injection hc with hc; injection hc with _ hc _; exact absurd hc (by decide)
        have S0 := hid (And.intro l0 (blk5 K0.out).1)
        obtain ⟨_, _⟩ := S0.out
        go_region_law (first
          | (refine step_append_lies _ (by rfl) (.tmp 25) (.tmp 28) 52 (by rfl) 0 67 i0 (.agg #[.int .i64 0, .slice none 0 0, .slice none 0 0, .slice none 0 0, .bool false]) 5 88 Try.underlying52 hi0 hz0 hz1 hz2 rfl (by decide) (.slice OA k Oc) k (ms'.flatMap CM.cells) (by rfl) (C2.out.own.row.own (by decide) (by rw [cms_len, HML.out])) ⟨w1.heap.size, 0, none⟩ 1 1 [.int .i64 ch'.cap, .slice B1 p1 r1, .slice B2 p2 r2, .slice B3 p3 r3, .bool ch'.cl] (by rfl) (by rfl) (news1 _ _) hone.out (by decide) (by unfold maxLen; omega) (by omega) (Nat.zero_le _) (w1.heap.size + 1) (by simp) ?_; intro gb cap3 w3 hown3 hgrow3 hat3 hlt3; have FG := hid (Fr.refl.grown (S := fun q => (Value.slice OA k Oc).ownBlock = some q) hgrow3 (fun q hq => .inl hq)); have K3 := hid (FG.out.heapAt K2.out hnB.out); have O3 := hid (FG.out.heapAt C2.out.obj hnG.out); have l3 : w3.cell? ⟨g, 1, none⟩ = some (.slice OA k Oc) := FG.out.cell C2.out.list hnG.out; have z1 := frozen_of_row w3 g 1 _ _ O3.out; have HN := hid (And.intro hown3 (And.intro hgrow3 (And.intro hat3 hlt3))); clear hown3 hgrow3 hat3 hlt3)
          | (go_simp; go_at_call 69; ((with_reducible refine (own_agg ch A1 A2 A3 n1 c1 n2 c2 n3 c3 _ (HMR.out.fr FA.out) hmf).mono ?_); rintro e w1 ⟨⟨ch', v1, v2, v3⟩, rfl, hch, hown1, hnd1, hf1⟩); simp only at hch; subst hch; obtain ⟨B1, p1, r1, e1⟩ := hown1.vals.shape; obtain ⟨B2, p2, r2, e2⟩ := hown1.snd.shape; obtain ⟨B3, p3, r3, e3⟩ := hown1.rcv.shape; simp only at e1 e2 e3; subst e1 e2 e3; simp only [CM.val]; have C1 := hid (CA.out.fr hf1 (fun _ _ x => x)); have K1 := hid (hf1.heapAt K0.out (fun x => x)); have l1 := C1.out.list; have hg1 : g < w1.heap.size := C1.out.lt g C1.out.mine; have M1 := hid hown1; have ND1 := hid hnd1; have F1 := hid hf1; have FB := hid ((Fr.refl (S := E0) (w := w1)).alloc (.cells #[.int .i64 ch'.cap, .slice B1 p1 r1, .slice B2 p2 r2, .slice B3 p3 r3, .bool ch'.cl] 67)); have C2 := hid (C1.out.fr FB.out (fun _ _ x => x)); have K2 := hid (FB.out.heapAt K1.out (fun x => x));  have hone := hid (cm_oneCell M1.out); clear hown1 hnd1 hf1))
        all_goals
          have hz0 : wr.heap.size < w1.heap.size := Nat.lt_of_lt_of_le (by simp) F1.out.size
          have PW := hid (pushOwn (m := ⟨ch', .slice B1 p1 r1, .slice B2 p2 r2, .slice B3 p3 r3⟩) (H := wr.heap.size) C1.out (M1.out.mono (fun q hq => by unfold New at hq; simp at hq; omega)) ND1.out HC.out.lt (Nat.le_of_lt hz0) _ HN.out.1 HN.out.2.1 (hatOf HN.out.2.2.1 (by simp)))
          have FE := hid (((HFR.out.trans FA.out).trans F1.out).trans' PW.out.2 (fun q hq => .inr (HN0.out q hq)))
          go_wp2_with fail
          go_roundw
          case rel => exact ⟨k + 1, _, _, _, by simp, by omega, PW.out.1, by rw [chs_push, HT.out, List.take_add_one, chs_get HM.out]; rfl, fun q hq => hq.1.elim (HN0.out q) (fun x => Nat.le_trans HFR.out.size x), FE.out⟩
          case measure => simp [intOf]; omega
      · obtain rfl : k = ms.length := by omega
        clear hlt hk
        go_wp2_with fail
        go_ret2
        exact ⟨HFR.out, .inr ⟨hno, g, F, rfl, ⟨_, _, HC.out, by rw [HT.out, ← chs_len, List.take_length]⟩, HN0.out⟩⟩
end Go.Proofs.Yteffmnohgnmanaa
/- rotaref11: Send, Recv, Make in one contract each; Load. -/
namespace Go.Proofs.Yteffmnohgnmanaa
open Go.RowKit
set_option linter.unusedVariables false
theorem isB_out {ms : List CM} {ch : Int} (h : ch < 0 ∨ (ms.length : Int) < ch) : isB (chs ms) ch = false := by unfold isB; rw [getC_out (by rw [chs_len]; exact h)]; rfl
theorem rsend_all {w : World} {v : Value} {ms : List CM} (hv : RdCs w v ms) (hn : ms.length ≤ 1024) (hbig : ∀ c ∈ chs ms, BigC c) (ch gs gg val : Int) :
    Calls Try.prog 49 #[v, .int .i64 ch, .agg #[.int .i64 gs, .int .i64 gg], .int .i64 val] w (RMvPost w v (chs ms) (sendL (chs ms) ch gs gg val).1 (sendL (chs ms) ch gs gg val).2.1 (sendL (chs ms) ch gs gg val).2.2) := by
  cases hw : waitsL gs gg (chs ms) with
  | true =>
    have e : sendL (chs ms) ch gs gg val = (chs ms, {}, 111) := by unfold sendL; rw [if_pos hw]
    rw [e]; exact rsend_waits hv hn hbig gs gg val hw ch
  | false =>
    rcases handle ms ch with ho | rfl | ⟨k, m, rfl, hk⟩
    · have e : sendL (chs ms) ch gs gg val = (chs ms, { trap := 4 }, 0) := by
        unfold sendL; rw [trapC_out (by rw [chs_len]; exact ho)]; simp [hw]
      rw [e]; exact rsend_out hv hn hbig gs gg val hw ch (by omega) (isB_out ho)
    · have e : sendL (chs ms) 0 gs gg val = (chs ms, { waits := true }, 0) := by
        unfold sendL; rw [trapC_zero, getC_zero]; simp [hw]
      rw [e]; exact rsend_nil hv hn hbig gs gg val hw
    · have hg := getC_in (chs_get hk)
      have ht := trapC_in (chs_get hk)
      have hK := chs_get hk
      revert hK hg
      generalize hmc : m.ch = c0
      obtain ⟨cap, vals, snd, rcv, cl⟩ := c0
      intro hg hK
      cases cl with
      | true =>
        have e : sendL (chs ms) ((k : Int) + 1) gs gg val = (chs ms, { trap := 6 }, 0) := by unfold sendL; rw [ht, hg]; simp [hw]
        rw [e]; exact rsend_closed hv hn hbig gs gg val hw hK
      | false =>
        cases rcv with
        | cons x r =>
          have e : sendL (chs ms) ((k : Int) + 1) gs gg val = (leaveL x.s x.g (chs ms), { ok := true, woken := [⟨x.s, x.g, x.c, val, true, 0⟩] }, 0) := by unfold sendL; rw [ht, hg]; simp [hw]
          rw [e]; exact rsend_wakes hv hn hbig gs gg val hw hK
        | nil =>
          by_cases hb : (vals.length : Int) < cap
          · have e : sendL (chs ms) ((k : Int) + 1) gs gg val = ((chs ms).set k ⟨cap, vals ++ [val], snd, [], false⟩, { ok := true }, 0) := by unfold sendL; rw [ht, hg]; simp [hw, hb, setK_k]
            rw [e]; exact rsend_buffers hv hn hbig gs gg val hw hK hb
          · have e : sendL (chs ms) ((k : Int) + 1) gs gg val = ((chs ms).set k ⟨cap, vals, snd ++ [⟨gs, gg, 0, val⟩], [], false⟩, { waits := true }, 0) := by unfold sendL; rw [ht, hg]; simp [hw, hb, setK_k]
            rw [e]; exact rsend_queues hv hn hbig gs gg val hw hK hb
theorem rrecv_all {w : World} {v : Value} {ms : List CM} (hv : RdCs w v ms) (hn : ms.length ≤ 1024) (hbig : ∀ c ∈ chs ms, BigC c) (ch gs gg : Int) :
    Calls Try.prog 50 #[v, .int .i64 ch, .agg #[.int .i64 gs, .int .i64 gg]] w (RMvPost w v (chs ms) (recvL (chs ms) ch gs gg).1 (recvL (chs ms) ch gs gg).2.1 (recvL (chs ms) ch gs gg).2.2) := by
  cases hw : waitsL gs gg (chs ms) with
  | true =>
    have e : recvL (chs ms) ch gs gg = (chs ms, {}, 111) := by unfold recvL; rw [if_pos hw]
    rw [e]; exact rrecv_waits hv hn hbig gs gg hw ch
  | false =>
    rcases handle ms ch with ho | rfl | ⟨k, m, rfl, hk⟩
    · have e : recvL (chs ms) ch gs gg = (chs ms, { trap := 4 }, 0) := by
        unfold recvL; rw [trapC_out (by rw [chs_len]; exact ho)]; simp [hw]
      rw [e]; exact rrecv_out hv hn hbig gs gg hw ch (by omega) (isB_out ho)
    · have e : recvL (chs ms) 0 gs gg = (chs ms, { waits := true }, 0) := by
        unfold recvL; rw [trapC_zero, getC_zero]; simp [hw]
      rw [e]; exact rrecv_nil hv hn hbig gs gg hw
    · have hg := getC_in (chs_get hk)
      have ht := trapC_in (chs_get hk)
      have hK := chs_get hk
      revert hK hg
      generalize hmc : m.ch = c0
      obtain ⟨cap, vals, snd, rcv, cl⟩ := c0
      intro hg hK
      cases vals with
      | cons y vs =>
        cases snd with
        | nil =>
          have e : recvL (chs ms) ((k : Int) + 1) gs gg = ((chs ms).set k ⟨cap, vs, [], rcv, cl⟩, { value := y, ok := true }, 0) := by unfold recvL; rw [ht, hg]; simp [hw, setK_k]
          rw [e]; exact rrecv_value hv hn hbig gs gg hw hK
        | cons x r =>
          have e : recvL (chs ms) ((k : Int) + 1) gs gg = (leaveL x.s x.g ((chs ms).set k ⟨cap, vs ++ [x.v], x :: r, rcv, cl⟩), { value := y, ok := true, woken := [⟨x.s, x.g, x.c, 0, true, 0⟩] }, 0) := by unfold recvL; rw [ht, hg]; simp [hw, setK_k]
          rw [e]; exact rrecv_value_wakes hv hn hbig gs gg hw hK
      | nil =>
        cases snd with
        | cons x r =>
          have e : recvL (chs ms) ((k : Int) + 1) gs gg = (leaveL x.s x.g (chs ms), { value := x.v, ok := true, woken := [⟨x.s, x.g, x.c, 0, true, 0⟩] }, 0) := by unfold recvL; rw [ht, hg]; simp [hw]
          rw [e]; exact rrecv_wakes hv hn hbig gs gg hw hK
        | nil =>
          cases cl with
          | true =>
            have e : recvL (chs ms) ((k : Int) + 1) gs gg = (chs ms, {}, 0) := by unfold recvL; rw [ht, hg]; simp [hw]
            rw [e]; exact rrecv_closed hv hn hbig gs gg hw hK
          | false =>
            have e : recvL (chs ms) ((k : Int) + 1) gs gg = ((chs ms).set k ⟨cap, [], [], rcv ++ [⟨gs, gg, 0, 0⟩], false⟩, { waits := true }, 0) := by unfold recvL; rw [ht, hg]; simp [hw, setK_k]
            rw [e]; exact rrecv_queues hv hn hbig gs gg hw hK
def RLoadPost (l : List Ch) (w : World) (e : Ending) (w' : World) : Prop :=
  Fr E0 w w' ∧ ((loadNo l = true ∧ e = .returned (tup2 (.slice none 0 0) (.int .i64 110))) ∨
    (loadNo l = false ∧ ∃ v' ms', e = .returned (tup2 v' (.int .i64 0)) ∧ chs ms' = l ∧ OwnCs w' (New w) v' ms'))
def allMay (l : List Ch) : Bool := l.all mayC
theorem allMay_step {l : List Ch} {k : Nat} {c : Ch} (hc : l[k]? = some c) (h : allMay (l.take k) = true) (hm : mayC c = true) : allMay (l.take (k + 1)) = true := by
  rw [List.take_add_one, hc]; simp [allMay] at h ⊢; exact ⟨h, hm⟩
theorem allMay_no {l : List Ch} {k : Nat} {c : Ch} (hc : l[k]? = some c) (hm : mayC c = false) : loadNo l = true := by
  unfold loadNo; rw [Bool.or_eq_true]; right
  simp; exact ⟨c, List.mem_of_getElem? hc, hm⟩
theorem rloadNo (l : List Ch) (w w' : World) (hl : loadNo l = true) (hf : Fr E0 w w') : RLoadPost l w (.returned (.tuple #[.slice none 0 0, .int .i64 110])) w' := ⟨hf, .inl ⟨hl, rfl⟩⟩
theorem rloadYes (l : List Ch) (w w' : World) (v' : Value) (ms' : List CM) (hl : loadNo l = false) (hf : Fr E0 w w') (hc : chs ms' = l) (ho : OwnCs w' (New w) v' ms') : RLoadPost l w (.returned (.tuple #[v', .int .i64 0])) w' := ⟨hf, .inr ⟨hl, v', ms', rfl, hc, ho⟩⟩
set_option maxRecDepth 8000 in
set_option maxHeartbeats 4000000 in
theorem rload_ok {w : World} {v : Value} {ms : List CM} (hv : RdCs w v ms) (hbig : ∀ c ∈ chs ms, BigC c) : Calls Try.prog 41 #[v] w (RLoadPost (chs ms) w) := by
  have HV := hid hv
  have HBG := hid hbig
  obtain ⟨A, c0, rfl, hmx, hrow, heach⟩ := hv.form
  have HR := hid hrow
  have HE := hid heach
  unfold maxLen at hmx
  clear hv hbig hrow heach
  by_cases hlen : 1024 < ms.length
  · have hl' : (1024 : Int) < (ms.length : Int) := by omega
    have HP := hid (rloadNo (chs ms) w w (by unfold loadNo; rw [chs_len]; simp [hlen]) Fr.refl)
    clear hlen
    go_enter Try.func41, Try.ntmps41
    go_wp2_with fail
    go_ret2
    exact HP.out
  · have hl' : ¬ (1024 : Int) < (ms.length : Int) := by omega
    have hl2 : ms.length ≤ 1024 := by omega
    have HL := hid hl2
    obtain ⟨l, hl⟩ : ∃ l, l = chs ms := ⟨_, rfl⟩
    have HLL := hid hl
    rw [← hl]
    clear hl hlen
    go_enter Try.func41, Try.ntmps41
    go_wp2_with fail
    go_loopw [4] (fun i wr => ∃ k : Nat, i = .int .i64 k ∧ k ≤ ms.length ∧ allMay (l.take k) = true ∧ Fr E0 w wr) (fun i _ => ms.length - (intOf i).toNat)
    case atStart => exact ⟨0, rfl, Nat.zero_le _, rfl, Fr.refl⟩
    case round =>
      obtain ⟨k, rfl, hk, hall, hf⟩ := hrel
      have HA := hid hall
      have HF := hid hf
      clear hall hf
      by_cases hlt : k < ms.length
      · obtain ⟨m, hm⟩ : ∃ m, ms[k]? = some m := ⟨ms[k], List.getElem?_eq_getElem hlt⟩
        obtain ⟨b, o, rfl, r⟩ := HR.out.cmAt hm
        obtain ⟨b0, b1, b2, b3, b4⟩ := (r.fr HF.out (fun x => x)).cm hm
        have hmem := List.mem_of_getElem? hm
        have HMR := hid ((HE.out m hmem).fr HF.out)
        have HB := hid (HBG.out _ (List.mem_map.2 ⟨m, hmem, rfl⟩))
        have HC := hid (show l[k]? = some m.ch by rw [HLL.out]; exact chs_get hm)
        clear r hm hmem
        obtain ⟨⟨cap, vals, snd, rcv, cl⟩, vv, sv, rv⟩ := m
        obtain ⟨A1, n1, c1, e1, _⟩ := HMR.out.vals
        obtain ⟨A2, n2, c2, e2, _⟩ := HMR.out.snd
        obtain ⟨A3, n3, c3, e3, _⟩ := HMR.out.rcv
        simp only at e1 e2 e3 b0 b1 b2 b3 b4
        subst e1 e2 e3
        go_wp2_with fail
        refine (may2_agg cap vals snd rcv cl _ _ _ _ _ _ _ _ _ wr HMR.out (Nat.le_succ_of_le HB.out.1) (Nat.le_succ_of_le HB.out.2.1) (Nat.le_succ_of_le HB.out.2.2)).mono ?_
        rintro e w4 ⟨rfl, hf4⟩
        have F4 := hid (HF.out.trans hf4)
        clear hf4 b0 b1 b2 b3 b4
        cases hmy : mayC ⟨cap, vals, snd, rcv, cl⟩ with
        | true =>
          have HMY := hid hmy
          clear hmy
          go_wp2_with fail
          go_roundw
          case rel => exact ⟨k + 1, by simp, by omega, allMay_step HC.out HA.out HMY.out, F4.out⟩
          case measure => simp [intOf]; omega
        | false =>
          have HP := hid (rloadNo l w w4 (allMay_no HC.out hmy) F4.out)
          clear hmy
          go_wp2_with fail
          go_ret2
          exact HP.out
      · obtain rfl : k = ms.length := by omega
        have HNO := hid (show loadNo l = false by
          have h1 := HA.out
          have h2 : l.length = ms.length := by rw [HLL.out, chs_len]
          rw [← h2, List.take_length] at h1
          have h3 := HL.out
          unfold loadNo
          unfold allMay at h1
          rw [h1]; simp; omega)
        clear hlt hk
        go_wp2_with fail
        refine (copy_ok ms _ wr (HV.out.fr HF.out) (by have := HL.out; omega) (fun m hm => HBG.out _ (List.mem_map.2 ⟨m, hm, rfl⟩))).mono ?_
        rintro e w2 ⟨ov, ms2, rfl, hc2, ho2, hf2⟩
        have HP := hid (rloadYes l w w2 ov ms2 HNO.out (HF.out.trans hf2) (by rw [hc2, HLL.out]) (ho2.mono (F' := New w) (fun q hq => Nat.le_trans HF.out.size hq)))
        clear hc2 ho2 hf2
        go_wp2_with fail
        go_ret2
        exact HP.out
end Go.Proofs.Yteffmnohgnmanaa
/- rotaref11.Close. Printed by wip/gen/ref12.py. -/
namespace Go.Proofs.Yteffmnohgnmanaa
open Go.RowKit
set_option linter.unusedVariables false
attribute [local go_sem ↓] Go.wp_at_zero Go.wp_at_succ
def RMvPost1 (w : World) (v : Value) (l l' : List Ch) (m : Mv) (e : Ending) (w' : World) : Prop :=
  ∃ v' wv, e = .returned (tup2 v' (m.val wv)) ∧ OutR w w' v l l' v' ∧ RowF w' (New w) 39 6 wv (wks m.woken) ∧ Fr E0 w w'
theorem fin61 {a : Act} {W : World} {R : Nat} {Q : Ending → World → Prop} {m : Mv} {v wv : Value} (hd : a.defers = []) (h8 : a.tmps.getD 4 undef = v) (h9 : a.tmps.getD 5 undef = .pointer (some ⟨R, 0, none⟩))
    (hR : W.heap[R]? = some (.cells #[.bool m.waits, .int .i64 m.value, .bool m.ok, .int .i64 m.trap, wv] 32 (0, 0))) (hQ : Q (.returned (tup2 v (m.val wv))) W) : bodyPost Try.prog Try.f61 Q .ret a W := by
  obtain ⟨⟨k0, k1, k2, k3, k4⟩, _⟩ := blk5 hR
  have h8' : a.tmps[4]?.getD undef = v := by simpa using h8
  have h9' : a.tmps[5]?.getD undef = .pointer (some ⟨R, 0, none⟩) := by simpa using h9
  exact bodyPost_ret (v := tup2 v (m.val wv)) (by simp [results, Try.results61, go_sem, h8', h9', k0, k1, k2, k3, k4, tup2, Mv.val]) hd hQ
/-- How many wait at channel k, off memory. -/
def rlenV (v : Value) (w : World) (k j : Nat) : Nat := match v with | .slice (some a) _ _ => rlen w a.block k j | _ => 0
structure RClose (w wr : World) (k M R n0 : Nat) (l : List Ch) (acc : List Wk) (ov wv : Value) (c : Ch) : Prop where
  ch : ∃ ms, OwnCs wr (New w) ov ms ∧ chs ms = l
  len : l.length ≤ 1024
  big : ∀ c ∈ l, BigC c
  at' : l[k]? = some c
  room : acc.length + c.rcv.length + c.snd.length ≤ n0
  cell : wr.heap[M]? = some (.cells #[.bool false, .int .i64 0, .bool false, .int .i64 0, wv] 32 (0, 0))
  res : wr.heap[R]? = some (.cells #[.bool false, .int .i64 0, .bool false, .int .i64 0, .slice none 0 0] 32 (0, 0))
  row : RowF wr (New w) 39 6 wv (wks acc)
  fr : Fr E0 w wr
theorem rlenV_rcv {w wr : World} {k M R n0 : Nat} {l : List Ch} {acc : List Wk} {ov wv : Value} {c : Ch} (h : RClose w wr k M R n0 l acc ov wv c) : rlenV ov wr k 3 = c.rcv.length ∧ rlenV ov wr k 2 = c.snd.length := by
  obtain ⟨ms, ho, rfl⟩ := h.ch
  have hk := h.at'
  unfold chs at hk
  rw [List.getElem?_map] at hk
  obtain ⟨m, hm, rfl⟩ := Option.map_eq_some_iff.1 hk
  obtain ⟨L, cp, rfl, _, _, _, _, c2, c3, _, _⟩ := ho.at hm
  obtain ⟨A, cc, e, _⟩ := (ho.each m (List.mem_of_getElem? hm)).rcv.read (by decide) (wts_len _)
  obtain ⟨A', cc', e', _⟩ := (ho.each m (List.mem_of_getElem? hm)).snd.read (by decide) (wts_len _)
  rw [e] at c3
  rw [e'] at c2
  simp only [rlenV, rlen, c3, c2]
  exact ⟨trivial, trivial⟩
theorem big_leave {l : List Ch} (h : ∀ c ∈ l, BigC c) (gs gg : Int) : ∀ c ∈ leaveL gs gg l, BigC c := by
  intro c hc
  obtain ⟨q, hq, rfl⟩ := List.mem_map.1 hc
  obtain ⟨h1, h2, h3⟩ := h q hq
  have a := wout_le gs gg q.snd
  have b := wout_le gs gg q.rcv
  exact ⟨h1, Nat.le_trans a h2, Nat.le_trans b h3⟩
theorem rclose_step {w wr w5 w7 : World} {k M R n0 gb nn cap : Nat} {ov v5 wv : Value} {l : List Ch} {acc : List Wk} {c : Ch} {x : Wt} {y : Wk} {ms5 : List CM} (h : RClose w wr k M R n0 l acc ov wv c) (X : Obj)
    (hc5 : chs ms5 = leaveL x.s x.g l) (ho5 : OwnCs w5 (New (wr.alloc X)) v5 ms5) (hf5 : Fr E0 (wr.alloc X) w5) (o : Obj)
    (hown : w7.ownsRow 0 39 6 (.slice (some ⟨gb, 0, none⟩) nn cap) nn (wks acc ++ Wk.cells y)) (hgrow : (w5.alloc o).grownBy w7 wv.ownBlock) (hat : wv.ownBlock = some gb ∨ gb = (w5.alloc o).heap.size)
    (hroom : (acc.length + 1) + (leaveCh x.s x.g c).rcv.length + (leaveCh x.s x.g c).snd.length ≤ n0) (hRM : ¬ R = M) (hM : w.heap.size ≤ M) :
    RClose w (w7.setCell ⟨M, 4, none⟩ (.slice (some ⟨gb, 0, none⟩) nn cap)) k M R n0 (leaveL x.s x.g l) (acc ++ [y]) v5 (.slice (some ⟨gb, 0, none⟩) nn cap) (leaveCh x.s x.g c) := by
  have f1 : Fr E0 wr (w5.alloc o) := (((Fr.refl (S := E0)).alloc X).trans hf5).alloc o
  have row6 : RowF (w5.alloc o) (New w) 39 6 wv (wks acc) := h.row.fr f1 (fun _ _ x => x)
  have gfr : Fr (fun q => wv.ownBlock = some q) (w5.alloc o) w7 := Fr.refl.grown hgrow (fun q hq => .inl hq)
  have cell7 := keepT (f1.heapAt h.cell (fun x => x)) row6 (by decide) hgrow
  have res7 := keepT (f1.heapAt h.res (fun x => x)) row6 (by decide) hgrow
  have hsz : wr.heap.size < (wr.alloc X).heap.size := by simp
  have own7 : OwnCs w7 (New (wr.alloc X)) v5 ms5 := (ho5.fr ((Fr.refl (S := E0)).alloc o) (fun _ _ x => x)).fr gfr (fun q hq e => by
    have h1 := h.row.lt e
    have h2 : (wr.alloc X).heap.size ≤ q := hq
    omega)
  have row7 : RowF w7 (New w) 39 6 (.slice (some ⟨gb, 0, none⟩) nn cap) (wks (acc ++ [y])) := by
    refine ⟨⟨nn, by simpa [wks] using hown⟩, fun q hq => ?_⟩
    simp [Value.ownBlock] at hq; subst hq
    rcases hat with e | e
    · exact h.row.2 _ e
    · show w.heap.size ≤ gb
      have h1 := h.fr.size
      have h2 := f1.size
      omega
  refine ⟨⟨ms5, (own7.off cell7 (by decide) (by decide) (by decide)).mono (fun q hq => ?_), hc5⟩, by simpa [leaveL] using h.len, big_leave h.big _ _, ?_, ?_, ?_, ?_, ?_, ?_⟩
  · have h2 : (wr.alloc X).heap.size ≤ q := hq
    have h1 := h.fr.size
    show w.heap.size ≤ q
    omega
  · rw [leaveL_get, h.at']; rfl
  · simpa using hroom
  · exact heap_setCell_same w7 M 4 _ _ _ cell7
  · rw [heap_setCell_other _ _ _ _ hRM]; exact res7
  · exact row7.off cell7 (by decide)
  · refine Fr.setCell ?_ (p := ⟨M, 4, none⟩) _ (.inr hM)
    exact (h.fr.trans f1).trans' gfr (fun q hq => .inr (h.row.2 q hq))
set_option maxHeartbeats 2000000 in
theorem rclose_nil {w : World} {v : Value} {ms : List CM} (hv : RdCs w v ms) :
    Calls Try.prog 61 #[v, .int .i64 0] w (RMvPost1 w v (chs ms) (chs ms) { trap := 8 }) := by
  obtain ⟨A, c0, rfl, hmx, hrow, _⟩ := hv.form
  have T1 := hid (heap_alloc_new w (.cells #[Value.bool false, Value.int IntKind.i64 0, Value.bool false, Value.int IntKind.i64 0, Value.slice none 0 0] 32))
  have F1 := hid ((Fr.refl (S := E0) (w := w)).alloc (.cells #[Value.bool false, Value.int IntKind.i64 0, Value.bool false, Value.int IntKind.i64 0, Value.slice none 0 0] 32))
  clear hv hrow
  go_enter Try.func61, Try.ntmps61
  go_wp2_with fail
  exact fin61 (m := { trap := 8 }) rfl rfl rfl (heap_alloc_new w _) ⟨_, _, rfl, .inl ⟨rfl, rfl⟩, RowF.nil, Fr.refl.alloc _⟩
set_option maxHeartbeats 2000000 in
theorem rclose_out {w : World} {v : Value} {ms : List CM} (hv : RdCs w v ms) (ch : Int) (hz : ch ≠ 0) (hi : isB (chs ms) ch = false) :
    Calls Try.prog 61 #[v, .int .i64 ch] w (RMvPost1 w v (chs ms) (chs ms) { trap := 4 }) := by
  obtain ⟨A, c0, rfl, hmx, hrow, _⟩ := hv.form
  have T1 := hid (heap_alloc_new w (.cells #[Value.bool false, Value.int IntKind.i64 0, Value.bool false, Value.int IntKind.i64 0, Value.slice none 0 0] 32))
  have F1 := hid ((Fr.refl (S := E0) (w := w)).alloc (.cells #[Value.bool false, Value.int IntKind.i64 0, Value.bool false, Value.int IntKind.i64 0, Value.slice none 0 0] 32))
  have HI := hid hi
  have hb : ((ch == 0) : Bool) = false := by simpa using hz
  clear hv hrow hi hz
  go_enter Try.func61, Try.ntmps61
  go_wp2_with fail
  refine (is2_ok hmx ch).mono ?_
  rw [HI.out]
  rintro e w' ⟨rfl, rfl⟩
  generalize w.alloc _ = W at *
  obtain ⟨⟨b0, b1, b2, b3, b4⟩, z0, z1, z2, z3, z4⟩ := blk5 T1.out
  go_wp2_with fail
  exact fin61 (m := { trap := 4 }) rfl rfl rfl (set5_heap T1.out _ _ _ _ _) ⟨_, _, rfl, .inl ⟨rfl, rfl⟩, RowF.nil, fr_new5 F1.out (Nat.le_refl _) _ _ _ _ _⟩
set_option maxHeartbeats 2000000 in
theorem rclose_closed {w : World} {v : Value} {ms : List CM} (hv : RdCs w v ms) {k : Nat} {cap : Int} {vals : List Int} {snd rcv : List Wt} (hn : ms.length ≤ 1024) (hk : (chs ms)[k]? = some ⟨cap, vals, snd, rcv, true⟩) :
    Calls Try.prog 61 #[v, .int .i64 ((k : Int) + 1)] w (RMvPost1 w v (chs ms) (chs ms) { trap := 7 }) := by
  obtain ⟨A, c0, rfl, hmx, hrow, _⟩ := hv.form
  have T1 := hid (heap_alloc_new w (.cells #[Value.bool false, Value.int IntKind.i64 0, Value.bool false, Value.int IntKind.i64 0, Value.slice none 0 0] 32))
  have F1 := hid ((Fr.refl (S := E0) (w := w)).alloc (.cells #[Value.bool false, Value.int IntKind.i64 0, Value.bool false, Value.int IntKind.i64 0, Value.slice none 0 0] 32))
  have HI := hid (show isB (chs ms) ((k : Int) + 1) = true by unfold isB; rw [getC_in hk]; rfl)
  have hb : (((k : Int) + 1 == 0) : Bool) = false := by simp; omega
  unfold chs at hk
  rw [List.getElem?_map] at hk
  obtain ⟨m, hm, hmc⟩ := Option.map_eq_some_iff.1 hk
  obtain ⟨b, o, rfl, r⟩ := hrow.cmAt hm
  have r2 := r.fr ((Fr.refl (S := E0)).alloc (.cells #[Value.bool false, Value.int IntKind.i64 0, Value.bool false, Value.int IntKind.i64 0, Value.slice none 0 0] 32)) (fun x => x)
  obtain ⟨_, _, _, _, c4⟩ := r2.cm hm
  have c4' : (w.alloc (.cells #[Value.bool false, Value.int IntKind.i64 0, Value.bool false, Value.int IntKind.i64 0, Value.slice none 0 0] 32)).cell? ⟨b, o + k * 5 + 4, none⟩ = some (.bool true) := by rw [c4, hmc]
  have hlt := lt_of_get hm
  have hkb : k < 1024 := by omega
  have hb4 := World.block_lt_of_cell? w _ (r.cm hm).2.2.2.2
  have c4w : w.cell? ⟨b, o + k * 5 + 4, none⟩ = some (.bool true) := by rw [(r.cm hm).2.2.2.2, hmc]
  have hmx' := hmx
  unfold maxLen at hmx'
  clear hv hrow hk hm r r2 c4 hmc c4'
  go_enter Try.func61, Try.ntmps61
  go_wp2_with fail
  refine (is2_ok hmx _).mono ?_
  rw [HI.out]
  rintro e w' ⟨rfl, rfl⟩
  generalize w.alloc _ = W at *
  obtain ⟨⟨b0, b1, b2, b3, b4⟩, z0, z1, z2, z3, z4⟩ := blk5 T1.out
  have c4x := F1.out.cell c4w (fun x => x)
  go_wp2_with fail
  exact fin61 (m := { trap := 7 }) rfl rfl rfl (set5_heap T1.out _ _ _ _ _) ⟨_, _, rfl, .inl ⟨rfl, rfl⟩, RowF.nil, fr_new5 F1.out (Nat.le_refl _) _ _ _ _ _⟩
set_option maxRecDepth 8000 in
set_option maxHeartbeats 16000000 in
theorem rclose_go {w : World} {v : Value} {ms : List CM} (hv : RdCs w v ms) (hn : ms.length ≤ 1024) (hbig : ∀ c ∈ chs ms, BigC c) {k : Nat} {cap : Int} {vals : List Int} {snd rcv : List Wt} (hk : (chs ms)[k]? = some ⟨cap, vals, snd, rcv, false⟩)
    (l0 : List Ch) (hl0 : l0 = (chs ms).set k ⟨cap, vals, snd, rcv, true⟩) (la : List Ch) (ka : List Wk) (hla : wakeR l0 k [] = (la, ka)) (lb : List Ch) (kb : List Wk) (hlb : wakeS la k ka = (lb, kb)) :
    Calls Try.prog 61 #[v, .int .i64 ((k : Int) + 1)] w (RMvPost1 w v (chs ms) lb { woken := kb }) := by
  have HV := hid hv
  have HBG := hid hbig
  have HL0 := hid hl0
  have HLA := hid hla
  have HLB := hid hlb
  obtain ⟨A, c0, rfl, hmx, hrow, _⟩ := hv.form
  have HI := hid (show isB (chs ms) ((k : Int) + 1) = true by unfold isB; rw [getC_in hk]; rfl)
  have hb : (((k : Int) + 1 == 0) : Bool) = false := by simp; omega
  have HK := hid hk
  unfold chs at hk
  rw [List.getElem?_map] at hk
  obtain ⟨m, hm, hmc⟩ := Option.map_eq_some_iff.1 hk
  obtain ⟨b, o, rfl, r⟩ := hrow.cmAt hm
  have hlt := lt_of_get hm
  have hkb : k < 1024 := by omega
  have hb4 := World.block_lt_of_cell? w _ (r.cm hm).2.2.2.2
  have c4w : w.cell? ⟨b, o + k * 5 + 4, none⟩ = some (.bool false) := by rw [(r.cm hm).2.2.2.2, hmc]
  have hmx' := hmx
  unfold maxLen at hmx'
  clear hv hbig hrow hk hm r hmc hl0 hla hlb
  obtain ⟨i0, hi0, hz0, hz1, hz2⟩ := info_parts info39
  go_enter Try.func61, Try.ntmps61
  go_wp2_with fail
  have T1 := hid (heap_alloc_new w (.cells #[Value.bool false, Value.int IntKind.i64 0, Value.bool false, Value.int IntKind.i64 0, Value.slice none 0 0] 32))
  have F1 := hid ((Fr.refl (S := E0) (w := w)).alloc (.cells #[Value.bool false, Value.int IntKind.i64 0, Value.bool false, Value.int IntKind.i64 0, Value.slice none 0 0] 32))
  refine (is2_ok hmx _).mono ?_
  rw [HI.out]
  rintro e w' ⟨rfl, rfl⟩
  go_wp2_with fail
  generalize w.alloc _ = W at *
  refine (copy_ok ms _ W (HV.out.fr F1.out) (by omega) (fun m hm => HBG.out _ (List.mem_map.2 ⟨m, hm, rfl⟩))).mono ?_
  rintro e w2 ⟨ov, ms2, rfl, hc2, ho2, hf2⟩
  have F2 := hid (F1.out.trans hf2)
  have T2 := hid (hf2.heapAt T1.out (fun x => x))
  have O2 := hid (ho2.mono (F' := New w) (fun q hq => Nat.le_trans F1.out.size hq))
  have C2 := hid hc2
  have hlen2 : ms2.length = ms.length := by rw [← chs_len, hc2, chs_len]
  obtain ⟨m2, hk2, hm2⟩ : ∃ m2, ms2[k]? = some m2 ∧ m2.ch = ⟨cap, vals, snd, rcv, false⟩ := by
    have h1 : (chs ms2)[k]? = some ⟨cap, vals, snd, rcv, false⟩ := by rw [hc2]; exact HK.out
    unfold chs at h1
    rw [List.getElem?_map] at h1
    exact Option.map_eq_some_iff.1 h1
  have HK2 := hid hk2
  have hlt2 := lt_of_get hk2
  obtain ⟨L, cp, hov, hFL, hLl, _, _, _, _, c4, hfz⟩ := O2.out.at hk2
  subst hov
  have hf4 := hfz (k * 5 + 4)
  have hne : ¬ L = w.heap.size := ne32 O2.out.row T2.out
  have hne2 : ¬ w.heap.size = L := fun e => hne e.symm
  rw [hm2] at c4
  have HM2 := hid hm2
  clear hc2 ho2 hf2 hk2 hfz hm2 c4w hlen2
  go_wp2_with fail
  have O3 := hid (O2.out.putC HK2.out)
  have F3 := hid (F2.out.setCell (p := ⟨L, k * 5 + 4, none⟩) (.bool true) (.inr hFL))
  have T3 := hid (show (w2.setCell ⟨L, k * 5 + 4, none⟩ (.bool true)).heap[w.heap.size]? = _ from (heap_setCell_other _ _ _ _ hne2).trans T2.out)
  have HCH := hid (show chs (ms2.set k (CM.setC m2)) = l0 by rw [chs_set, C2.out, HL0.out]; simp only [CM.setC, HM2.out])
  have S3 := hid (show (w2.setCell ⟨L, k * 5 + 4, none⟩ (.bool true)).heap.size = w2.heap.size by simp)
  generalize w2.setCell ⟨L, k * 5 + 4, none⟩ (.bool true) = w3 at *
  have FA := hid ((Fr.refl (S := E0) (w := w3)).alloc (.cells #[Value.bool false, Value.int IntKind.i64 0, Value.bool false, Value.int IntKind.i64 0, Value.slice none 0 0] 32))
  have M4 := hid (heap_alloc_new w3 (.cells #[Value.bool false, Value.int IntKind.i64 0, Value.bool false, Value.int IntKind.i64 0, Value.slice none 0 0] 32))
  obtain ⟨M, hM⟩ : ∃ M, M = w2.heap.size := ⟨_, rfl⟩
  have hMw : w.heap.size ≤ M := by have := F2.out.size; omega
  have hRM : ¬ w.heap.size = M := by have h1 := heap_lt T2.out; omega
  have hMR : ¬ M = w.heap.size := fun e => hRM e.symm
  rw [S3.out, ← hM] at M4
  rw [← hM]
  obtain ⟨n0, hn0⟩ : ∃ n0, n0 = rcv.length + snd.length := ⟨_, rfl⟩
  have hn0b : n0 ≤ 8388608 := by obtain ⟨_, h2, h3⟩ := HBG.out _ (List.mem_of_getElem? HK.out); simp only at h2 h3; omega
  have RL0 := hid (show RClose w (w3.alloc _) k M w.heap.size n0 l0 [] (.slice (some ⟨L, 0, none⟩) ms2.length cp) (.slice none 0 0) ⟨cap, vals, snd, rcv, true⟩ from
    ⟨⟨_, O3.out.fr FA.out (fun _ _ x => x), HCH.out⟩, by rw [HL0.out, List.length_set, chs_len]; exact hn, by
      intro q hq
      rw [HL0.out] at hq
      rcases List.mem_or_eq_of_mem_set hq with hq | rfl
      · exact HBG.out q hq
      · have hbc := HBG.out _ (List.mem_of_getElem? HK.out)
        exact ⟨hbc.1, hbc.2.1, hbc.2.2⟩, by rw [HL0.out]; exact List.getElem?_set_self (lt_of_get HK.out), by rw [hn0]; simp, M4.out, FA.out.heapAt T3.out (fun x => x), RowF.nil, F3.out.trans FA.out⟩)
  clear hn0 hM c4 hf4 hne hne2 hlt2
  generalize w3.alloc _ = w4 at *
  go_loopw [6] (fun ov wr => ∃ (l : List Ch) (acc : List Wk) (wv : Value) (c : Ch), RClose w wr k M w.heap.size n0 l acc ov wv c ∧ wakeR l k acc = wakeR l0 k []) (fun ov wr => rlenV ov wr k 3)
  case atStart => exact ⟨l0, [], _, _, RL0.out, rfl⟩
  case round =>
    obtain ⟨l, acc, wv, c, hrel, hwk⟩ := hrel
    have HR := hid hrel
    have HW := hid hwk
    have hlen3 := rlenV_rcv hrel
    have HLEN := hid hlen3
    clear hrel hwk hlen3
    obtain ⟨ms', hch, hms⟩ := HR.out.ch
    have HC := hid hch
    have HMS := hid hms
    obtain ⟨m', hm', hmc⟩ : ∃ m', ms'[k]? = some m' ∧ m'.ch = c := by
      have := HR.out.at'
      rw [← hms] at this; unfold chs at this
      rw [List.getElem?_map] at this
      exact Option.map_eq_some_iff.1 this
    subst hmc
    have hml : ms'.length ≤ 1024 := by have := HR.out.len; rw [← hms, chs_len] at this; exact this
    have hkl := lt_of_get hm'
    obtain ⟨hbv, hbs, hbr⟩ : m'.ch.vals.length ≤ 4194304 ∧ m'.ch.snd.length ≤ 4194304 ∧ m'.ch.rcv.length ≤ 4194304 := HR.out.big _ (List.mem_of_getElem? HR.out.at')
    obtain ⟨L, cp, rfl, _, hLl, _, _, c2, c3, _, _⟩ := hch.at hm'
    have O1 := hid (HC.out.each m' (List.mem_of_getElem? hm'))
    obtain ⟨⟨_, _, _, _, i4⟩, _, _, _, _, q4⟩ := blk5 HR.out.cell
    clear hch hms hm'
    have hkb : k < 1024 := by omega
    cases hr : m'.ch.rcv with
    | nil =>
      obtain ⟨A, cc, e, _⟩ := O1.out.rcv.read (by decide) (wts_len _)
      rw [e, hr] at c3
      have HRR := hid hr
      clear hr e c2
      have RL1 := hid HR.out
      have e1 := HW.out.trans HLA.out
      rw [wakeR_nil acc HR.out.at' HRR.out] at e1
      cases e1
      go_wp2_with fail
      clear i4 q4 hml HC HMS O1 HRR HW HR HLEN c3 hbv hbs hbr hkl hLl
      go_loopw [6] (fun ov wr => ∃ (l : List Ch) (acc : List Wk) (wv : Value) (c : Ch), RClose w wr k M w.heap.size n0 l acc ov wv c ∧ wakeS l k acc = wakeS la k ka) (fun ov wr => rlenV ov wr k 2)
      case atStart => exact ⟨la, ka, _, _, RL1.out, rfl⟩
      case round =>
        obtain ⟨l, acc, wv, c, hrel, hwk⟩ := hrel
        have HR := hid hrel
        have HW := hid hwk
        have hlen3 := rlenV_rcv hrel
        have HLEN := hid hlen3
        clear hrel hwk hlen3
        obtain ⟨ms', hch, hms⟩ := HR.out.ch
        have HC := hid hch
        have HMS := hid hms
        obtain ⟨m', hm', hmc⟩ : ∃ m', ms'[k]? = some m' ∧ m'.ch = c := by
          have := HR.out.at'
          rw [← hms] at this; unfold chs at this
          rw [List.getElem?_map] at this
          exact Option.map_eq_some_iff.1 this
        subst hmc
        have hml : ms'.length ≤ 1024 := by have := HR.out.len; rw [← hms, chs_len] at this; exact this
        have hkl := lt_of_get hm'
        obtain ⟨hbv, hbs, hbr⟩ : m'.ch.vals.length ≤ 4194304 ∧ m'.ch.snd.length ≤ 4194304 ∧ m'.ch.rcv.length ≤ 4194304 := HR.out.big _ (List.mem_of_getElem? HR.out.at')
        obtain ⟨L, cp, rfl, _, hLl, _, _, c2, c3, _, _⟩ := hch.at hm'
        have O1 := hid (HC.out.each m' (List.mem_of_getElem? hm'))
        obtain ⟨⟨_, _, _, _, i4⟩, _, _, _, _, q4⟩ := blk5 HR.out.cell
        clear hch hms hm'
        have hkb : k < 1024 := by omega
        cases hr : m'.ch.snd with
        | nil =>
          obtain ⟨A, cc, e, _⟩ := O1.out.snd.read (by decide) (wts_len _)
          rw [e, hr] at c2
          have HRR := hid hr
          clear hr e c3
          have e1 := HW.out.trans HLB.out
          rw [wakeS_nil acc HR.out.at' HRR.out] at e1
          cases e1
          obtain ⟨Aw, nw, cw, rfl⟩ := HR.out.row.shape
          obtain ⟨⟨i0', i1, i2, i3, i4⟩, _⟩ := blk5 HR.out.cell
          obtain ⟨⟨b0, b1, b2, b3, b4⟩, z0, z1, z2, z3, z4⟩ := blk5 HR.out.res
          have hMl := heap_lt HR.out.cell
          have hRl := heap_lt HR.out.res
          go_wp2_with fail
          go_region
          all_goals
            go_wp2_with fail
            exact fin61 (m := { woken := kb }) rfl rfl rfl ((Fr.refl (S := E0)).drew.heapAt (set5_heap HR.out.res _ _ _ _ _) (fun x => x)) ⟨_, _, rfl, .inr ⟨_, HMS.out, (HC.out.set5 HR.out.res _ _ _ _ _).fr (Fr.refl (S := E0)).drew (fun _ _ x => x)⟩, (HR.out.row.off5 HR.out.res (by decide)).drew, (fr_new5 HR.out.fr (Nat.le_refl _) _ _ _ _ _).drew⟩
        | cons x r =>
          rw [hr] at hbs
          have HRR := hid hr
          rcases O1.out.snd.form (n := r.length + 1) (by decide) (by rw [wts_len, hr]; rfl) with ⟨_, h0, _⟩ | ⟨br, p3, hv3, _, hb3, hn3, _, hr3, _⟩
          · omega
          rw [hv3] at c2
          rw [hr] at hr3
          obtain ⟨d0, d1, d2, d3⟩ := hr3.wt (k := 0) (x := x) rfl
          simp only [Nat.zero_add, Nat.zero_mul] at d0 d1 d2 d3
          have hrp : (0 : Int) < (r.length : Int) + 1 := by omega
          have hbr' : r.length ≤ 4194304 := by simp at hbs; omega
          clear hr hr3 hv3 c3
          go_wp2_with fail
          have AX := hid (heap_alloc_new wr (.cells #[.int .i64 x.s, .int .i64 x.g, .int .i64 x.c, .int .i64 x.v] 114))
          have FX := hid ((Fr.refl (S := E0) (w := wr)).alloc (.cells #[.int .i64 x.s, .int .i64 x.g, .int .i64 x.c, .int .i64 x.v] 114))
          have KX : Hid (wr.alloc (.cells #[.int .i64 x.s, .int .i64 x.g, .int .i64 x.c, .int .i64 x.v] 114) = wr.alloc (.cells #[.int .i64 x.s, .int .i64 x.g, .int .i64 x.c, .int .i64 x.v] 114)) := hid rfl
          refine (leave2_ok ms' _ x.s x.g _ (HC.out.rd.fr FX.out) (by omega) (by rw [HMS.out]; exact HR.out.big)).mono ?_
          rintro e w5 ⟨v5, ms5, rfl, hc5, ho5, hf5⟩
          rw [HMS.out] at hc5
          obtain ⟨A5, n5, c5, rfl⟩ := ho5.row.shape
          obtain ⟨x0, x1, x2, x3⟩ := cell4 (hf5.heapAt AX.out (fun x => x))
          have hXl := heap_lt (hf5.heapAt AX.out (fun x => x))
          have f5 := hid ((FX.out.trans hf5).alloc (.cells #[.int .i64 x.s, .int .i64 x.g, .int .i64 x.c, .int .i64 0, .bool false, .int .i64 6] 39))
          have M5 := hid ((FX.out.trans hf5).heapAt HR.out.cell (fun x => x))
          obtain ⟨⟨_, _, _, _, j4⟩, _, _, _, _, k4⟩ := blk5 M5.out
          have hMl := heap_lt M5.out
          have H5 := hid (And.intro hc5 (And.intro ho5 hf5))
          have ROW6 := hid (HR.out.row.fr f5.out (fun _ _ x => x))
          have hroom := HR.out.room
          rw [HRR.out] at hroom
          have HM1 := hid (show acc.length + 1 ≤ maxLen by unfold maxLen; simp at hroom; omega)
          have HM2 := hid (show (acc.length + 1) * 48 ≤ 140737488355328 by simp at hroom; omega)
          have HROOM := hid (show (acc.length + 1) + (leaveCh x.s x.g m'.ch).rcv.length + (leaveCh x.s x.g m'.ch).snd.length ≤ n0 by
            have h1 := HR.out.room
            have a := wout_le x.s x.g m'.ch.snd
            have b := wout_le x.s x.g m'.ch.rcv
            have e := rlen_lt HRR.out
            simp only [leaveCh]
            omega)
          obtain ⟨WA, wc, ew, _⟩ := HR.out.row.read (by decide) (wks_len _)
          have EW := hid ew
          rw [ew] at j4
          clear hc5 ho5 hf5 i4 q4 c2 d0 d1 d2 d3 hroom ew
          simp only [tup2]
          go_wp2_with (at_builtin; (refine wpList_append_lies _ rfl (.tmp 93) (.tmp 99) 30 rfl 0 39 i0 (.agg #[.int .i64 0, .int .i64 0, .int .i64 0, .int .i64 0, .bool false, .int .i64 0]) 6 48 Try.underlying30 hi0 hz0 hz1 hz2 rfl (by decide) (.slice WA acc.length wc) acc.length (wks acc) rfl (by rw [← EW.out]; exact ROW6.out.own (by decide) (wks_len _)) ⟨w5.heap.size, 0, none⟩ 1 1 [.int .i64 x.s, .int .i64 x.g, .int .i64 x.c, .int .i64 0, .bool false, .int .i64 6] rfl rfl (World.news_of_block (heap_alloc_new w5 _)) (by simp [Value.oneCell']) (by decide) HM1.out HM2.out (Nat.zero_le _) (w5.heap.size + 1) (by simp) ?_); intro gb cap7 w7 hown7 hgrow7 hat7 hlt7; have M7 := hid (keepT (f5.out.heapAt HR.out.cell (fun x => x)) ROW6.out (by decide) (by rw [EW.out]; exact hgrow7)); have y4 : w7.cell? ⟨M, 4, none⟩ = some wv := cell_of_row w7 _ 4 _ _ _ M7.out; have y5 := frozen_of_row w7 _ 4 _ _ M7.out; have H7 := hid (And.intro hown7 (And.intro hgrow7 hat7)); clear hown7 hgrow7 hat7)
          have STEP := hid (rclose_step (y := ⟨x.s, x.g, x.c, 0, false, 6⟩) HR.out _ H5.out.1 H5.out.2.1 H5.out.2.2 _ H7.out.1 (by rw [EW.out]; exact H7.out.2.1) (by rw [EW.out]; have := H7.out.2.2; simpa using this) HROOM.out hRM hMw)
          have WK := hid (wakeS_cons acc HR.out.at' HRR.out)
          go_roundw
          case rel => exact ⟨_, _, _, _, STEP.out, by rw [← WK.out]; exact HW.out⟩
          case measure =>
            have h1 := rlenV_rcv STEP.out
            have h2 := HLEN.out
            rw [h1.2, h2.2]
            exact rlen_lt HRR.out

    | cons x r =>
      rw [hr] at hbr
      have HRR := hid hr
      rcases O1.out.rcv.form (n := r.length + 1) (by decide) (by rw [wts_len, hr]; rfl) with ⟨_, h0, _⟩ | ⟨br, p3, hv3, _, hb3, hn3, _, hr3, _⟩
      · omega
      rw [hv3] at c3
      rw [hr] at hr3
      obtain ⟨d0, d1, d2, d3⟩ := hr3.wt (k := 0) (x := x) rfl
      simp only [Nat.zero_add, Nat.zero_mul] at d0 d1 d2 d3
      have hrp : (0 : Int) < (r.length : Int) + 1 := by omega
      have hbr' : r.length ≤ 4194304 := by simp at hbr; omega
      clear hr hr3 hv3 c2
      go_wp2_with fail
      have AX := hid (heap_alloc_new wr (.cells #[.int .i64 x.s, .int .i64 x.g, .int .i64 x.c, .int .i64 x.v] 114))
      have FX := hid ((Fr.refl (S := E0) (w := wr)).alloc (.cells #[.int .i64 x.s, .int .i64 x.g, .int .i64 x.c, .int .i64 x.v] 114))
      have KX : Hid (wr.alloc (.cells #[.int .i64 x.s, .int .i64 x.g, .int .i64 x.c, .int .i64 x.v] 114) = wr.alloc (.cells #[.int .i64 x.s, .int .i64 x.g, .int .i64 x.c, .int .i64 x.v] 114)) := hid rfl
      refine (leave2_ok ms' _ x.s x.g _ (HC.out.rd.fr FX.out) (by omega) (by rw [HMS.out]; exact HR.out.big)).mono ?_
      rintro e w5 ⟨v5, ms5, rfl, hc5, ho5, hf5⟩
      rw [HMS.out] at hc5
      obtain ⟨A5, n5, c5, rfl⟩ := ho5.row.shape
      obtain ⟨x0, x1, x2, x3⟩ := cell4 (hf5.heapAt AX.out (fun x => x))
      have hXl := heap_lt (hf5.heapAt AX.out (fun x => x))
      have f5 := hid ((FX.out.trans hf5).alloc (.cells #[.int .i64 x.s, .int .i64 x.g, .int .i64 x.c, .int .i64 0, .bool false, .int .i64 0] 39))
      have M5 := hid ((FX.out.trans hf5).heapAt HR.out.cell (fun x => x))
      obtain ⟨⟨_, _, _, _, j4⟩, _, _, _, _, k4⟩ := blk5 M5.out
      have hMl := heap_lt M5.out
      have H5 := hid (And.intro hc5 (And.intro ho5 hf5))
      have ROW6 := hid (HR.out.row.fr f5.out (fun _ _ x => x))
      have hroom := HR.out.room
      rw [HRR.out] at hroom
      have HM1 := hid (show acc.length + 1 ≤ maxLen by unfold maxLen; simp at hroom; omega)
      have HM2 := hid (show (acc.length + 1) * 48 ≤ 140737488355328 by simp at hroom; omega)
      have HROOM := hid (show (acc.length + 1) + (leaveCh x.s x.g m'.ch).rcv.length + (leaveCh x.s x.g m'.ch).snd.length ≤ n0 by
        have h1 := HR.out.room
        have a := wout_le x.s x.g m'.ch.snd
        have b := wout_le x.s x.g m'.ch.rcv
        have e := rlen_lt HRR.out
        simp only [leaveCh]
        omega)
      obtain ⟨WA, wc, ew, _⟩ := HR.out.row.read (by decide) (wks_len _)
      have EW := hid ew
      rw [ew] at j4
      clear hc5 ho5 hf5 i4 q4 c3 d0 d1 d2 d3 hroom ew
      simp only [tup2]
      go_wp2_with (at_builtin; (refine wpList_append_lies _ rfl (.tmp 60) (.tmp 66) 30 rfl 0 39 i0 (.agg #[.int .i64 0, .int .i64 0, .int .i64 0, .int .i64 0, .bool false, .int .i64 0]) 6 48 Try.underlying30 hi0 hz0 hz1 hz2 rfl (by decide) (.slice WA acc.length wc) acc.length (wks acc) rfl (by rw [← EW.out]; exact ROW6.out.own (by decide) (wks_len _)) ⟨w5.heap.size, 0, none⟩ 1 1 [.int .i64 x.s, .int .i64 x.g, .int .i64 x.c, .int .i64 0, .bool false, .int .i64 0] rfl rfl (World.news_of_block (heap_alloc_new w5 _)) (by simp [Value.oneCell']) (by decide) HM1.out HM2.out (Nat.zero_le _) (w5.heap.size + 1) (by simp) ?_); intro gb cap7 w7 hown7 hgrow7 hat7 hlt7; have M7 := hid (keepT (f5.out.heapAt HR.out.cell (fun x => x)) ROW6.out (by decide) (by rw [EW.out]; exact hgrow7)); have y4 : w7.cell? ⟨M, 4, none⟩ = some wv := cell_of_row w7 _ 4 _ _ _ M7.out; have y5 := frozen_of_row w7 _ 4 _ _ M7.out; have H7 := hid (And.intro hown7 (And.intro hgrow7 hat7)); clear hown7 hgrow7 hat7)
      have STEP := hid (rclose_step (y := ⟨x.s, x.g, x.c, 0, false, 0⟩) HR.out _ H5.out.1 H5.out.2.1 H5.out.2.2 _ H7.out.1 (by rw [EW.out]; exact H7.out.2.1) (by rw [EW.out]; have := H7.out.2.2; simpa using this) HROOM.out hRM hMw)
      have WK := hid (wakeR_cons acc HR.out.at' HRR.out)
      go_roundw
      case rel => exact ⟨_, _, _, _, STEP.out, by rw [← WK.out]; exact HW.out⟩
      case measure =>
        have h1 := rlenV_rcv STEP.out
        have h2 := HLEN.out
        rw [h1.1, h2.1]
        exact rlen_lt HRR.out

end Go.Proofs.Yteffmnohgnmanaa

/- rotaref11: sameWaiters, Same, SameMoved, where they answer true. -/
namespace Go.Proofs.Yteffmnohgnmanaa
open Go.RowKit
set_option linter.unusedVariables false
attribute [local go_sem ↓] Go.wp_at_zero Go.wp_at_succ
set_option maxRecDepth 8000 in
set_option maxHeartbeats 4000000 in
theorem same_wts (l : List Wt) (v1 v2 : Value) (w : World) (h1 : RdV w v1 4 (wts l)) (h2 : RdV w v2 4 (wts l)) : Calls Try.prog 78 #[v1, v2] w (Ret (.bool true) E0 w) := by
  obtain ⟨A1, n, c1, rfl, hl1, hc1, hm1, r1⟩ := h1
  obtain ⟨A2, n2, c2, rfl, hl2, _, _, r2⟩ := h2
  have hl1' : l.length = n := by rw [wts_len] at hl1; omega
  obtain rfl : n = n2 := by rw [wts_len] at hl2; omega
  have HL := hid hl1'
  have R1 := hid r1
  have R2 := hid r2
  have hn := Nat.le_trans hc1 hm1
  unfold maxLen at hn
  clear hl1 hl2 r1 r2 hl1'
  go_enter Try.func78, Try.ntmps78
  go_wp2_with fail
  go_loopw [5] (fun i wr => ∃ k : Nat, i = .int .i64 k ∧ k ≤ n ∧ Fr E0 w wr) (fun i _ => n - (intOf i).toNat)
  case atStart => exact ⟨0, rfl, Nat.zero_le _, Fr.refl⟩
  case round =>
    obtain ⟨k, rfl, hk, hf⟩ := hrel
    have HF := hid hf
    clear hf
    by_cases hlt : k < n
    · obtain ⟨x, hx⟩ : ∃ x, l[k]? = some x := ⟨l[k]'(by have := HL.out; omega), List.getElem?_eq_getElem _⟩
      obtain ⟨b1, o1, rfl, q1⟩ := R1.out.wtAt hx
      obtain ⟨b2, o2, rfl, q2⟩ := R2.out.wtAt hx
      obtain ⟨d0, d1, d2, d3⟩ := (q1.fr HF.out (fun x => x)).wt hx
      obtain ⟨e0, e1, e2, e3⟩ := (q2.fr HF.out (fun x => x)).wt hx
      clear q1 q2 hx
      go_wp2_with (go_quiet (fail))
      all_goals
        go_roundw
        case rel => exact ⟨k + 1, by simp, by omega, HF.out.drewN nq⟩
        case measure => simp [intOf]; omega
    · obtain rfl : k = n := by omega
      go_wp2_with fail
      go_ret
      exact ⟨rfl, HF.out⟩
theorem RdA.wkAt {w : World} {A : Option Addr} {l : List Wk} {k : Nat} {x : Wk} (h : RdA w A (wks l)) (hx : l[k]? = some x) : ∃ b o, A = some ⟨b, o, none⟩ ∧ RdL w b o (wks l) := by
  rcases h with h | h
  · have h2 := congrArg List.length h
    have h3 := lt_of_get hx
    rw [wks_len] at h2
    have h4 : l.length * 6 = 0 := h2
    omega
  · exact h
theorem RdL.wk {w : World} {b o k : Nat} {l : List Wk} {x : Wk} (h : RdL w b o (wks l)) (hx : l[k]? = some x) :
    w.cell? ⟨b, o + k * 6, none⟩ = some (.int .i64 x.s) ∧ w.cell? ⟨b, o + k * 6 + 1, none⟩ = some (.int .i64 x.g) ∧ w.cell? ⟨b, o + k * 6 + 2, none⟩ = some (.int .i64 x.c) ∧ w.cell? ⟨b, o + k * 6 + 3, none⟩ = some (.int .i64 x.v) ∧ w.cell? ⟨b, o + k * 6 + 4, none⟩ = some (.bool x.ok) ∧ w.cell? ⟨b, o + k * 6 + 5, none⟩ = some (.int .i64 x.trap) := by
  have hg : ∀ j (u : Value), x.cells[j]? = some u → j < 6 → w.cell? ⟨b, o + (k * 6 + j), none⟩ = some u := fun j u hu hj => h _ _ ((flat_get (f := Wk.cells) (sz := 6) (fun _ => rfl) l k j x hx hj).trans hu)
  refine ⟨hg 0 _ rfl (by omega), ?_, ?_, ?_, ?_, ?_⟩
  · rw [Nat.add_assoc]; exact hg 1 _ rfl (by omega)
  · rw [Nat.add_assoc]; exact hg 2 _ rfl (by omega)
  · rw [Nat.add_assoc]; exact hg 3 _ rfl (by omega)
  · rw [Nat.add_assoc]; exact hg 4 _ rfl (by omega)
  · rw [Nat.add_assoc]; exact hg 5 _ rfl (by omega)
set_option maxRecDepth 8000 in
set_option maxHeartbeats 4000000 in
theorem same_mv (m : Mv) (v1 v2 : Value) (w : World) (h1 : RdV w v1 6 (wks m.woken)) (h2 : RdV w v2 6 (wks m.woken)) : Calls Try.prog 51 #[m.val v1, m.val v2] w (Ret (.bool true) E0 w) := by
  obtain ⟨wt, va, ok, tr, l⟩ := m
  obtain ⟨A1, n, c1, rfl, hl1, hc1, hm1, r1⟩ := h1
  obtain ⟨A2, n2, c2, rfl, hl2, _, _, r2⟩ := h2
  simp only at hl1 hl2 r1 r2
  have hl1' : l.length = n := by rw [wks_len] at hl1; omega
  obtain rfl : n = n2 := by rw [wks_len] at hl2; omega
  have HL := hid hl1'
  have hn := Nat.le_trans hc1 hm1
  unfold maxLen at hn
  have G1 := hid (heap_alloc2_old w (.cells #[.bool wt, .int .i64 va, .bool ok, .int .i64 tr, .slice A1 n c1] 32) (.cells #[.bool wt, .int .i64 va, .bool ok, .int .i64 tr, .slice A2 n c2] 32))
  have G2 := hid (heap_alloc2_new w (.cells #[.bool wt, .int .i64 va, .bool ok, .int .i64 tr, .slice A1 n c1] 32) (.cells #[.bool wt, .int .i64 va, .bool ok, .int .i64 tr, .slice A2 n c2] 32))
  have FW := hid (((Fr.refl (S := E0) (w := w)).alloc (.cells #[.bool wt, .int .i64 va, .bool ok, .int .i64 tr, .slice A1 n c1] 32)).alloc (.cells #[.bool wt, .int .i64 va, .bool ok, .int .i64 tr, .slice A2 n c2] 32))
  have R1 := hid (r1.fr FW.out)
  have R2 := hid (r2.fr FW.out)
  clear hl1 hl2 r1 r2 hl1'
  simp only [Mv.val]
  go_enter Try.func51, Try.ntmps51
  go_wp2_with fail
  generalize ((w.alloc _).alloc _) = W at *
  go_loopw [5] (fun i wr => ∃ k : Nat, i = .int .i64 k ∧ k ≤ n ∧ Fr E0 W wr) (fun i _ => n - (intOf i).toNat)
  case atStart => exact ⟨0, rfl, Nat.zero_le _, Fr.refl⟩
  case round =>
    obtain ⟨k, rfl, hk, hf⟩ := hrel
    have HF := hid hf
    obtain ⟨⟨_, _, _, _, a4⟩, _⟩ := blk5 (hf.heapAt G1.out (fun x => x))
    obtain ⟨⟨_, _, _, _, b4⟩, _⟩ := blk5 (hf.heapAt G2.out (fun x => x))
    clear hf
    by_cases hlt : k < n
    · obtain ⟨x, hx⟩ : ∃ x, l[k]? = some x := ⟨l[k]'(by have := HL.out; omega), List.getElem?_eq_getElem _⟩
      obtain ⟨b1, o1, rfl, q1⟩ := R1.out.wkAt hx
      obtain ⟨b2, o2, rfl, q2⟩ := R2.out.wkAt hx
      obtain ⟨d0, d1, d2, d3, d4, d5⟩ := (q1.fr HF.out (fun x => x)).wk hx
      obtain ⟨e0, e1, e2, e3, e4, e5⟩ := (q2.fr HF.out (fun x => x)).wk hx
      clear q1 q2 hx
      go_wp2_with (go_quiet (fail))
      all_goals
        go_roundw
        case rel => exact ⟨k + 1, by simp, by omega, HF.out.drewN nq⟩
        case measure => simp [intOf]; omega
    · obtain rfl : k = n := by omega
      go_wp2_with fail
      go_ret
      exact ⟨rfl, FW.out.trans HF.out⟩
def Cut6 (w wx : World) (m1 m2 : CM) (s6 s7 : Value) : Prop := ∃ B1 B2, s6 = .pointer (some ⟨B1, 0, none⟩) ∧ s7 = .pointer (some ⟨B2, 0, none⟩) ∧
  wx.heap[B1]? = some (.cells #[.int .i64 m1.ch.cap, m1.vv, m1.sv, m1.rv, .bool m1.ch.cl] 67 (0, 0)) ∧ wx.heap[B2]? = some (.cells #[.int .i64 m2.ch.cap, m2.vv, m2.sv, m2.rv, .bool m2.ch.cl] 67 (0, 0)) ∧ Fr E0 w wx
set_option maxRecDepth 8000 in
set_option maxHeartbeats 8000000 in
theorem same_cs (l : List Ch) (ms1 ms2 : List CM) (v1 v2 : Value) (w : World) (h1 : RdCs w v1 ms1) (h2 : RdCs w v2 ms2) (e1 : chs ms1 = l) (e2 : chs ms2 = l) : Calls Try.prog 42 #[v1, v2] w (Ret (.bool true) E0 w) := by
  obtain ⟨A1, c1, rfl, hm1, r1, p1⟩ := h1.form
  obtain ⟨A2, c2, rfl, hm2, r2, p2⟩ := h2.form
  have hl1 : ms1.length = l.length := by rw [← e1, chs_len]
  have hl2 : ms2.length = l.length := by rw [← e2, chs_len]
  rw [hl1] at hm1 ⊢
  rw [hl2]
  unfold maxLen at hm1
  have HL1 := hid hl1
  have HL2 := hid hl2
  have E1 := hid e1
  have E2 := hid e2
  have R1 := hid r1
  have R2 := hid r2
  have P1 := hid p1
  have P2 := hid p2
  clear h1 h2 hm2 hl1 hl2 e1 e2 r1 r2 p1 p2
  go_enter Try.func42, Try.ntmps42
  go_wp2_with fail
  go_loopw [5] (fun i wr => ∃ k : Nat, i = .int .i64 k ∧ k ≤ l.length ∧ Fr E0 w wr) (fun i _ => l.length - (intOf i).toNat)
  case atStart => exact ⟨0, rfl, Nat.zero_le _, Fr.refl⟩
  case round =>
    obtain ⟨k, rfl, hk, hf⟩ := hrel
    have HF := hid hf
    clear hf
    by_cases hlt : k < l.length
    · obtain ⟨m1, x1⟩ : ∃ m1, ms1[k]? = some m1 := ⟨ms1[k]'(by have := HL1.out; omega), List.getElem?_eq_getElem _⟩
      obtain ⟨m2, x2⟩ : ∃ m2, ms2[k]? = some m2 := ⟨ms2[k]'(by have := HL2.out; omega), List.getElem?_eq_getElem _⟩
      have hch : m1.ch = m2.ch := by
        have a := chs_get x1
        have b := chs_get x2
        rw [E1.out] at a
        rw [E2.out] at b
        rw [a] at b
        exact Option.some.inj b
      obtain ⟨b1, o1, rfl, q1⟩ := R1.out.cmAt x1
      obtain ⟨b2, o2, rfl, q2⟩ := R2.out.cmAt x2
      obtain ⟨d0, d1, d2, d3, d4⟩ := (q1.fr HF.out (fun x => x)).cm x1
      obtain ⟨f0, f1, f2, f3, f4⟩ := (q2.fr HF.out (fun x => x)).cm x2
      have M1 := hid ((P1.out m1 (List.mem_of_getElem? x1)).fr HF.out)
      have M2 := hid ((P2.out m2 (List.mem_of_getElem? x2)).fr HF.out)
      have hB1 := World.block_lt_of_cell? wr _ d0
      have hB2 := World.block_lt_of_cell? wr _ f0
      obtain ⟨⟨cap, vals, snd, rcv, cl⟩, vv1, sv1, rv1⟩ := m1
      obtain ⟨ch2, vv2, sv2, rv2⟩ := m2
      simp only at hch
      subst hch
      obtain ⟨VA1, n, vc1, e1, hln, hlc, hlm, hr1⟩ := M1.out.vals
      obtain ⟨SA1, sn1, sc1, e2, _⟩ := M1.out.snd
      obtain ⟨TA1, tn1, tc1, e3, _⟩ := M1.out.rcv
      obtain ⟨VA2, n2, vc2, e4, hln2, _, _, hr2⟩ := M2.out.vals
      obtain ⟨SA2, sn2, sc2, e5, _⟩ := M2.out.snd
      obtain ⟨TA2, tn2, tc2, e6, _⟩ := M2.out.rcv
      simp only at e1 e2 e3 e4 e5 e6 hln hln2 d0 d1 d2 d3 d4 f0 f1 f2 f3 f4 hr1 hr2
      subst e1 e2 e3 e4 e5 e6
      have hln' : vals.length = n := by rw [ints_len] at hln; omega
      obtain rfl : n = n2 := by rw [ints_len] at hln2; omega
      have HLN := hid hln'
      have HR1 := hid hr1
      have HR2 := hid hr2
      have hnm := Nat.le_trans hlc hlm
      unfold maxLen at hnm
      clear hln hln2 hln' hlc hlm hr1 hr2
      have z1 : ((wr.alloc (.cells #[.int .i64 0, .slice none 0 0, .slice none 0 0, .slice none 0 0, .bool false] 67)).alloc (.cells #[.int .i64 0, .slice none 0 0, .slice none 0 0, .slice none 0 0, .bool false] 67)).drew.heap[wr.heap.size]? = some (.cells #[.int .i64 0, .slice none 0 0, .slice none 0 0, .slice none 0 0, .bool false] 67 (0, 0)) := heap_alloc2_old wr _ _
      have z2 : ((wr.alloc (.cells #[.int .i64 0, .slice none 0 0, .slice none 0 0, .slice none 0 0, .bool false] 67)).alloc (.cells #[.int .i64 0, .slice none 0 0, .slice none 0 0, .slice none 0 0, .bool false] 67)).drew.heap[wr.heap.size + 1]? = some (.cells #[.int .i64 0, .slice none 0 0, .slice none 0 0, .slice none 0 0, .bool false] 67 (0, 0)) := heap_alloc2_new wr _ _
      have Z1 := hid z1
      have Z2 := hid z2
      obtain ⟨⟨u0, u1, u2, u3, u4⟩, u5, u6, u7, u8, u9⟩ := blk5 z1
      obtain ⟨⟨t0, t1, t2, t3, t4⟩, t5, t6, t7, t8, t9⟩ := blk5 z2
      have FZ := hid (show Fr E0 wr _ from (((Fr.refl (S := E0) (w := wr)).alloc (.cells #[.int .i64 0, .slice none 0 0, .slice none 0 0, .slice none 0 0, .bool false] 67)).alloc (.cells #[.int .i64 0, .slice none 0 0, .slice none 0 0, .slice none 0 0, .bool false] 67)).drew)
      clear x1 x2 q1 q2 z1 z2
      go_upto_region 6 with fail
      go_cut [6, 7] from 20 to 27 (fun s6 s7 wx => Cut6 wr wx ⟨⟨cap, vals, snd, rcv, cl⟩, .slice VA1 n vc1, .slice SA1 sn1 sc1, .slice TA1 tn1 tc1⟩ ⟨⟨cap, vals, snd, rcv, cl⟩, .slice VA2 n vc2, .slice SA2 sn2 sc2, .slice TA2 tn2 tc2⟩ s6 s7)
      case first =>
        go_region
        all_goals
          go_wp2_with fail
          go_meet
          first
            | exact ⟨_, _, rfl, rfl, heap_alloc2_old wr _ _, heap_alloc2_new wr _ _, ((Fr.refl.alloc _).alloc _).drew⟩
            | exact ⟨_, _, rfl, rfl, heap_alloc2_new wr _ _, heap_alloc2_old wr _ _, ((Fr.refl.alloc _).alloc _).drew⟩
      case rest =>
        obtain ⟨B1, B2, rfl, rfl, g1, g2, fx⟩ := hcut
        have FX := hid fx
        simp only at g1 g2
        have G1 := hid g1
        have G2 := hid g2
        clear u0 u1 u2 u3 u4 u5 u6 u7 u8 u9 t0 t1 t2 t3 t4 t5 t6 t7 t8 t9 Z1 Z2 FZ d0 d1 d2 d3 d4 f0 f1 f2 f3 f4 fx
        obtain ⟨⟨a0, a1, a2, a3, a4⟩, _⟩ := blk5 g1
        obtain ⟨⟨b0, b1, b2, b3, b4⟩, _⟩ := blk5 g2
        clear g1 g2
        go_wp2_with fail
        refine (same_wts snd _ _ wc (M1.out.snd.fr FX.out) (M2.out.snd.fr FX.out)).mono ?_
        rintro e w1 ⟨rfl, hf1⟩
        clear a0 a1 a2 a3 a4 b0 b1 b2 b3 b4
        obtain ⟨⟨a0, a1, a2, a3, a4⟩, _⟩ := blk5 (hf1.heapAt G1.out (fun x => x))
        obtain ⟨⟨b0, b1, b2, b3, b4⟩, _⟩ := blk5 (hf1.heapAt G2.out (fun x => x))
        have F1 := hid hf1
        clear hf1
        go_wp2_with fail
        refine (same_wts rcv _ _ w1 (M1.out.rcv.fr (FX.out.trans F1.out)) (M2.out.rcv.fr (FX.out.trans F1.out))).mono ?_
        rintro e w2 ⟨rfl, hf2⟩
        have F2 := hid (F1.out.trans hf2)
        clear a0 a1 a2 a3 a4 b0 b1 b2 b3 b4 hf2
        go_wp2_with fail
        go_loopw [8] (fun i w3 => ∃ q : Nat, i = .int .i64 q ∧ q ≤ n ∧ Fr E0 wc w3) (fun i _ => n - (intOf i).toNat)
        case atStart => exact ⟨0, rfl, Nat.zero_le _, F2.out⟩
        case round =>
          obtain ⟨q, rfl, hq, hf⟩ := hrel
          have HG := hid hf
          obtain ⟨⟨_, a1, _, _, _⟩, _⟩ := blk5 (hf.heapAt G1.out (fun x => x))
          obtain ⟨⟨_, b1, _, _, _⟩, _⟩ := blk5 (hf.heapAt G2.out (fun x => x))
          clear hf
          by_cases hql : q < n
          · obtain ⟨x, hx⟩ : ∃ x, vals[q]? = some x := ⟨vals[q]'(by have := HLN.out; omega), List.getElem?_eq_getElem _⟩
            obtain ⟨p1, o1', rfl, r1⟩ := HR1.out.at (fun e => by have h9 := congrArg List.length e; rw [ints_len, List.length_nil] at h9; have := HLN.out; omega)
            obtain ⟨p2, o2', rfl, r2⟩ := HR2.out.at (fun e => by have h9 := congrArg List.length e; rw [ints_len, List.length_nil] at h9; have := HLN.out; omega)
            have y1 := r1.fr (FX.out.trans HG.out) (fun x => x) q (.int .i64 x) (by simp only [ints, List.getElem?_map, hx, Option.map_some])
            have y2 := r2.fr (FX.out.trans HG.out) (fun x => x) q (.int .i64 x) (by simp only [ints, List.getElem?_map, hx, Option.map_some])
            clear r1 r2 hx
            go_wp2_with (go_quiet (fail))
            all_goals
              go_roundw
              case rel => exact ⟨q + 1, by simp, by omega, HG.out.drewN nq⟩
              case measure => simp [intOf]; omega
          · obtain rfl : q = n := by omega
            go_wp2_with fail
            go_roundw
            case rel => exact ⟨k + 1, by simp, by omega, (HF.out.trans FX.out).trans HG.out⟩
            case measure => simp [intOf]; omega
    · obtain rfl : k = l.length := by omega
      go_wp2_with fail
      go_ret
      exact ⟨rfl, HF.out⟩
end Go.Proofs.Yteffmnohgnmanaa
/- Program's channels and the document's side by side; one act. -/
namespace Go.Proofs.Yteffmnohgnmanaa
open Go.RowKit
set_option linter.unusedVariables false
/-- The program's channels l at g, in blocks of F; the document's l2 in the slice v, in blocks of G. -/
structure Both (w : World) (F G : Nat → Prop) (g : Nat) (l : List Ch) (v : Value) (l2 : List Ch) : Prop where
  is : IsCh w F g l
  own : ∃ ms, OwnCs w G v ms ∧ chs ms = l2
  glt : ∀ k, G k → k < w.heap.size
  apart : ∀ k, G k → ¬ F k
namespace Both
variable {w w' : World} {F G : Nat → Prop} {g : Nat} {l l2 l' : List Ch} {v v' : Value}
theorem e0 (h : Both w F G g l v l2) (hf : Fr E0 w w') : Both w' F G g l v l2 := by
  obtain ⟨ms, h1, h2⟩ := h.own
  exact ⟨h.is.fr hf (fun _ _ x => x), ⟨ms, h1.fr hf (fun _ _ x => x), h2⟩, fun k hk => Nat.lt_of_lt_of_le (h.glt k hk) hf.size, h.apart⟩
theorem far {S : Nat → Prop} (h : Both w F G g l v l2) (hf : Fr S w w') (h1 : ∀ k, F k → ¬ S k) (h2 : ∀ k, G k → ¬ S k) : Both w' F G g l v l2 := by
  obtain ⟨ms, q1, q2⟩ := h.own
  exact ⟨h.is.fr hf h1, ⟨ms, q1.fr hf h2, q2⟩, fun k hk => Nat.lt_of_lt_of_le (h.glt k hk) hf.size, h.apart⟩
theorem rd (h : Both w F G g l v l2) : ∃ ms, RdCs w v ms ∧ chs ms = l2 := by
  obtain ⟨ms, h1, h2⟩ := h.own
  exact ⟨ms, h1.rd, h2⟩
theorem outR (h : Both w F G g l v l2) (hf : Fr E0 w w') (ho : OutR w w' v l2 l' v') : ∃ G', Both w' F G' g l v' l' ∧ (∀ k, G' k → G k ∨ w.heap.size ≤ k) := by
  rcases ho with ⟨rfl, rfl⟩ | ⟨ms', h1, h2⟩
  · exact ⟨G, h.e0 hf, fun k hk => .inl hk⟩
  · refine ⟨fun k => w.heap.size ≤ k ∧ k < w'.heap.size, ⟨h.is.fr hf (fun _ _ x => x), ⟨ms', h2.restrict.mono (fun k hk => ⟨hk.1, hk.2⟩), h1⟩, fun k hk => hk.2, fun k hk hF => ?_⟩, fun k hk => .inr hk.1⟩
    have := h.is.lt k hF; omega
theorem step (h : Both w F G g l v l2) (hs : Step F g w l' w') : ∃ F', Both w' F' G g l' v l2 ∧ (∀ k, F' k → F k ∨ w.heap.size ≤ k) ∧ Fr F w w' := by
  obtain ⟨F', h1, h2, h3⟩ := hs
  obtain ⟨ms, q1, q2⟩ := h.own
  refine ⟨F', ⟨h1, ⟨ms, q1.fr h3 h.apart, q2⟩, fun k hk => Nat.lt_of_lt_of_le (h.glt k hk) h3.size, fun k hk hF => ?_⟩, h2, h3⟩
  rcases h2 k hF with hx | hx
  · exact h.apart k hk hx
  · have := h.glt k hk; omega
end Both
/-- One act. -/
structure ActD where
  kind : Int
  ch : Int
  s : Int
  g : Int
  v : Int
  c : Int
  send : Bool
def ActD.cells (a : ActD) : List Value := [.int .i64 a.kind, .int .i64 a.ch, .int .i64 a.s, .int .i64 a.g, .int .i64 a.v, .int .i64 a.c, .bool a.send]
def ActD.val (a : ActD) : Value := .agg #[.int .i64 a.kind, .int .i64 a.ch, .int .i64 a.s, .int .i64 a.g, .int .i64 a.v, .int .i64 a.c, .bool a.send]
def ActD.wt (a : ActD) : Wt := ⟨a.s, a.g, a.c, a.v⟩
/-- What an act leaves of the channels. -/
def actL (l : List Ch) (a : ActD) : List Ch :=
  if a.kind = 0 then (if makeNo l a.v then l else l ++ [newCh a.v])
  else if a.kind = 1 then (sendL l a.ch a.s a.g a.v).1
  else if a.kind = 2 then (recvL l a.ch a.s a.g).1
  else if a.kind = 3 then (closeL l a.ch).1
  else if a.kind = 4 then (if fitsL l a.ch a.wt a.send then (waitL l a.ch a.wt a.send).1 else l)
  else if a.kind = 5 then leaveL a.s a.g l
  else l
theorem Ok.act {N : Nat} {l : List Ch} (h : Ok N l) (a : ActD) : Ok (N + 1) (actL l a) := by
  have h' := h.mono (Nat.le_succ N)
  unfold actL
  split
  · split
    · exact h'
    · rename_i hno; exact h'.make (by simpa using hno)
  split
  · exact h.send _ _ _ _
  split
  · exact h.recv _ _ _
  split
  · exact h'.close _
  split
  · split
    · exact h.wait _ _ _
    · exact h'
  split
  · exact h'.leave
  · exact h'
theorem Ok.big {N : Nat} {l : List Ch} (h : Ok N l) (hN : N ≤ 4194304) : ∀ c ∈ l, BigC c := by
  intro c hc
  have h1 := h.cap c hc
  have h2 := h.vals c hc
  have h3 := h.who c hc
  refine ⟨?_, ?_, ?_⟩ <;> omega
def DoesPost (F G : Nat → Prop) (g : Nat) (l' : List Ch) (w : World) (e : Ending) (w' : World) : Prop :=
  ∃ v' F' G', e = .returned (tup2 v' (.bool true)) ∧ Both w' F' G' g l' v' l' ∧ (∀ k, F' k → F k ∨ w.heap.size ≤ k) ∧ (∀ k, G' k → G k ∨ w.heap.size ≤ k) ∧ Fr F w w'
def set7a (a b c d e f h : Value) (B : Nat) (w : World) : Prop := w.heap[B]? = some (.cells #[a, b, c, d, e, f, h] 56 (0, 0))
theorem keepT7 {w w' : World} {B : Nat} {a b c d e f h : Value} (hB : w.heap[B]? = some (.cells #[a, b, c, d, e, f, h] 56 (0, 0))) (hf : Fr E0 w w') : Fr E0 w w' ∧ w'.cell? ⟨B, 2, none⟩ = some c ∧ w'.cell? ⟨B, 3, none⟩ = some d := by
  have h1 := hf.heapAt hB (fun x => x)
  exact ⟨hf, cell_of_row w' _ 2 _ _ _ h1, cell_of_row w' _ 3 _ _ _ h1⟩
set_option maxRecDepth 8000 in
set_option maxHeartbeats 4000000 in
theorem told_ok {w : World} {F G : Nat → Prop} {g N : Nat} {l : List Ch} {v : Value} (h : Both w F G g l v l) (hok : Ok N l) (hN : N ≤ 4194304) (a : ActD) :
    Calls Try.prog 28 #[.pointer (some ⟨g, 0, none⟩), v, a.val] w (Ret (.bool true) E0 w) := by
  obtain ⟨kind, ch, s, gn, av, c, send⟩ := a
  obtain ⟨ms, hrd, hms⟩ := h.rd
  obtain ⟨A, vc, rfl, hmx, _, _⟩ := hrd.form
  have G1 := hid (heap_alloc_new w (.cells #[.int .i64 kind, .int .i64 ch, .int .i64 s, .int .i64 gn, .int .i64 av, .int .i64 c, .bool send] 56))
  have FA := hid ((Fr.refl (S := E0) (w := w)).alloc (.cells #[.int .i64 kind, .int .i64 ch, .int .i64 s, .int .i64 gn, .int .i64 av, .int .i64 c, .bool send] 56))
  have T1 := hid (h.e0 FA.out)
  have R1 := hid (hrd.fr FA.out)
  have HMS := hid hms
  have HOK := hid hok
  have hl := hok.len
  have hlm : ms.length = l.length := by rw [← hms, chs_len]
  have HLM := hid hlm
  rw [hlm] at hmx R1 T1 ⊢
  clear h hok hrd hms hlm
  simp only [ActD.val]
  go_enter Try.func28, Try.ntmps28
  go_wp2_with fail
  generalize w.alloc _ = W at *
  obtain ⟨⟨a0, a1, a2, a3, a4, a5, a6⟩, _⟩ := blk7 G1.out
  refine (len2_ok R1.out ch).mono ?_
  rintro e w' ⟨rfl, rfl⟩
  rw [HMS.out]
  simp only [tup2]
  go_wp2_with fail
  refine (len_all T1.out.is ch).mono ?_
  rintro e w' ⟨rfl, rfl⟩
  simp only [tup2]
  go_wp2_with fail
  refine (cap2_ok R1.out ch).mono ?_
  rintro e w' ⟨rfl, rfl⟩
  rw [HMS.out]
  simp only [tup2]
  go_wp2_with fail
  refine (cap_all T1.out.is HOK.out ch).mono ?_
  rintro e w' ⟨rfl, rfl⟩
  simp only [tup2]
  go_wp2_with fail
  generalize lenL l ch = x1
  generalize trapC l ch = x2
  generalize capL l ch = x3
  have z1 : ((x1 == x1) : Bool) = true := by simp
  have z2 : ((x2 == x2) : Bool) = true := by simp
  have z3 : ((x3 == x3) : Bool) = true := by simp
  have S0 := hid (keepT7 G1.out ((Fr.refl (S := E0)).drew))
  go_region_held3 (fun w' => Fr E0 W w' ∧ w'.cell? ⟨w.heap.size, 2, none⟩ = some (.int .i64 s) ∧ w'.cell? ⟨w.heap.size, 3, none⟩ = some (.int .i64 gn))
    (with_reducible first | exact S0.out | exact k1.out | exact k2.out | exact k3.out | exact k4.out)
    (first
      | (go_at_call 31; ((with_reducible refine (waits_all (T1.out.is.fr (S := E0) (by exact (‹Fr E0 W _ ∧ _›).1) (fun _ _ x => x)) s gn).mono ?_); rintro e w1 ⟨rfl, hf1⟩); have k1 := hid (keepT7 G1.out (((by exact (‹Fr E0 W _ ∧ _›).1) : Fr E0 W _).trans hf1)); clear hf1)
      | (go_at_call 52; ((with_reducible refine (waits2_ok ms _ s gn _ (R1.out.fr (by exact (‹Fr E0 W _ ∧ _›).1)) (by have := HLM.out; omega) (by rw [HMS.out]; exact HOK.out.big hN)).mono ?_); rintro e w2 ⟨rfl, hf2⟩); have k2 := hid (keepT7 G1.out (((by exact (‹Fr E0 W _ ∧ _›).1) : Fr E0 W _).trans hf2)); rw [HMS.out]; clear hf2)
      | (go_at_call 29; ((with_reducible refine (state_all (T1.out.is.fr (S := E0) (by exact (‹Fr E0 W _ ∧ _›).1) (fun _ _ x => x)) HOK.out (by omega)).mono ?_); rintro e w3 ⟨v3, ms3, rfl, hc3, ho3, hf3⟩); have k3 := hid (keepT7 G1.out (((by exact (‹Fr E0 W _ ∧ _›).1) : Fr E0 W _).trans hf3)); have C3 := hid hc3; have O3 := hid ho3.rd; clear hc3 ho3 hf3)
      | (go_at_call 42; ((with_reducible refine (same_cs l ms3 ms _ _ w3 O3.out (R1.out.fr (by exact (‹Fr E0 W _ ∧ _›).1)) C3.out HMS.out).mono ?_); rintro e w4 ⟨rfl, hf4⟩); have k4 := hid (keepT7 G1.out (((by exact (‹Fr E0 W _ ∧ _›).1) : Fr E0 W _).trans hf4)); clear hf4))
  all_goals
    go_wp2_with fail
    go_ret
    exact ⟨by first | rfl | simp, FA.out.trans k4.out.1⟩
end Go.Proofs.Yteffmnohgnmanaa
/- rotaref12.Order. -/
namespace Go.Proofs.Yteffmnohgnmanaa
open Go.RowKit
/-- The document's step, on the list as far as it is. -/
theorem ordAt_take (l : List Int) (k : Nat) (d : Int) (hk : k < l.length) (hj : (d % ((k : Int) + 1)).toNat ≤ k) :
    (((l.take k ++ [(k : Int)]).set k ((l.take k ++ [(k : Int)]).getD (d % ((k : Int) + 1)).toNat 0)).set (d % ((k : Int) + 1)).toNat k) = (ordAt l k d).take (k + 1) := by
  unfold ordAt
  generalize (d % ((k : Int) + 1)).toNat = j at *
  apply List.ext_getElem?
  intro i
  have hlen : (l.take k).length = k := by simp; omega
  simp only [List.getElem?_set, List.getElem?_take, List.length_set, List.length_append, hlen, List.length_cons, List.length_nil]
  by_cases hij : j = i
  · subst hij
    simp only [if_true]
    rw [if_pos (by omega), if_pos (by omega), if_pos (by omega)]
  · rw [if_neg hij]
    by_cases hik : k = i
    · subst hik
      simp only [if_true]
      rw [if_pos (by omega), if_pos (by omega), if_neg hij, if_pos hk]
      rw [List.getD_eq_getElem?_getD, List.getD_eq_getElem?_getD, List.getElem?_append_left (by omega), List.getElem?_take, if_pos (by omega)]
    · rw [if_neg hik]
      by_cases hlt : i < k
      · rw [List.getElem?_append_left (by omega), List.getElem?_take, if_pos hlt, if_pos (by omega), if_neg hij, if_neg hik]
      · rw [List.getElem?_append_right (by omega), if_neg (by omega), hlen, List.getElem?_eq_none (by simp; omega)]
/-- One number more behind a row of one's own. -/
theorem pushed3 {w wr w1 : World} {v : Value} {l : List Int} {k gb cp : Nat} (hf : Fr E0 w wr) (hr : RowF wr (New w) 3 1 v (ints l)) (hown : w1.ownsRow 0 3 1 (.slice (some ⟨gb, 0, none⟩) (k + 1) cp) (k + 1) (ints l ++ [.int .i64 (k : Int)])) (hg : (wr.alloc (.cells #[.int .i64 (k : Int)] 3)).grownBy w1 v.ownBlock)
    (hat : v.ownBlock = some gb ∨ gb = wr.heap.size + 1) (_hl : l.length = k) : RowF w1 (New w) 3 1 (.slice (some ⟨gb, 0, none⟩) (k + 1) cp) (ints (l ++ [(k : Int)])) ∧ Fr E0 w w1 := by
  refine ⟨⟨⟨_, by simpa [ints] using hown⟩, fun q hq => ?_⟩, ?_⟩
  · simp [Value.ownBlock] at hq; subst hq
    rcases hat with h | h
    · exact hr.2 _ h
    · subst h; have := hf.size; unfold New; omega
  · have h1 : Fr (New w) w w1 := ((hf.e0 (S := New w)).alloc _).grown hg (fun q hq => .inl (hr.2 q hq))
    exact ⟨h1.os, h1.tape, h1.output, h1.size, fun q hq _ => h1.block q hq (fun x => by unfold New at x; omega)⟩
/-- 'l[k] = l[j]; l[j] = k' on a row of one's own. -/
theorem steps3 {w w1 : World} {l : List Int} {k j gb cp : Nat} (hr : RowF w1 (New w) 3 1 (.slice (some ⟨gb, 0, none⟩) (k + 1) cp) (ints (l ++ [(k : Int)]))) (hf : Fr E0 w w1) (hl : l.length = k) (hj : j ≤ k) :
    ∃ x, Hid ((l ++ [(k : Int)])[j]? = some x) ∧ Hid (RowF ((w1.setCell ⟨gb, k, none⟩ (.int .i64 x)).setCell ⟨gb, j, none⟩ (.int .i64 (k : Int))) (New w) 3 1 (.slice (some ⟨gb, 0, none⟩) (k + 1) cp) (ints (((l ++ [(k : Int)]).set k x).set j (k : Int)))) ∧
      Hid (Fr E0 w ((w1.setCell ⟨gb, k, none⟩ (.int .i64 x)).setCell ⟨gb, j, none⟩ (.int .i64 (k : Int)))) ∧ w1.cell? ⟨gb, j, none⟩ = some (.int .i64 x) ∧ w1.cell? ⟨gb, k, none⟩ = some (.int .i64 (k : Int)) ∧ w1.frozen? ⟨gb, j, none⟩ = false ∧ w1.frozen? ⟨gb, k, none⟩ = false ∧
      ∃ y, (w1.setCell ⟨gb, k, none⟩ (.int .i64 x)).cell? ⟨gb, j, none⟩ = some y := by
  have hlen : (l ++ [(k : Int)]).length = k + 1 := by simp [hl]
  have hil : (ints (l ++ [(k : Int)])).length = k + 1 := by rw [ints_len, hlen, Nat.mul_one]
  obtain ⟨x, hx⟩ : ∃ x, (l ++ [(k : Int)])[j]? = some x := ⟨_, List.getElem?_eq_getElem (by omega)⟩
  have hk : (l ++ [(k : Int)])[k]? = some (k : Int) := by rw [List.getElem?_append_right (by omega), hl]; simp
  obtain ⟨A, c, he, _, _, hrd⟩ := hr.read (n := k + 1) (by decide) (by rw [hil, Nat.mul_one])
  cases he
  obtain ⟨b, o, he, hrd⟩ := hrd.at (fun e => by rw [e] at hil; simp at hil)
  cases he
  have z1 := hrd j (.int .i64 x) (by simp only [ints, List.getElem?_map, hx, Option.map_some])
  have z2 := hrd k (.int .i64 (k : Int)) (by simp only [ints, List.getElem?_map, hk, Option.map_some])
  simp only [Nat.zero_add] at z1 z2
  have hr1 := hr.stored (j := k) (u := .int .i64 x) (by omega)
  have hr2 := hr1.stored (j := j) (u := .int .i64 (k : Int)) (by rw [List.length_set]; omega)
  have hc := hr1.isCell (j := j) (by rw [List.length_set]; omega)
  have hb : w.heap.size ≤ gb := hr.2 gb rfl
  refine ⟨x, hid hx, hid ?_, hid ((hf.setCell (p := ⟨gb, k, none⟩) _ (.inr hb)).setCell (p := ⟨gb, j, none⟩) _ (.inr hb)), z1, z2, hr.free rfl j, hr.free rfl k, Option.isSome_iff_exists.1 hc⟩
  rw [ints_set, ints_set] at hr2
  exact hr2
set_option maxRecDepth 8000 in
set_option maxHeartbeats 1000000 in
theorem order2_ok (n : Int) (draws : List Int) (v : Value) (w : World) (hv : RdV w v 1 (us draws)) (hd : ∀ d ∈ draws, 0 ≤ d ∧ d < 18446744073709551616) :
    Calls Try.prog 35 #[.int .i64 n, v] w (OrderPost w (orderL n draws).1 (orderL n draws).2) := by
  obtain ⟨A, m, c, rfl, hl, _, _, hr⟩ := hv
  obtain rfl : draws.length = m := by simpa [us] using hl
  by_cases h1 : n < 0
  · have e : orderL n draws = ([], 1) := by unfold orderL; rw [if_pos (.inl h1)]
    rw [e]
    clear e hr hl
    go_enter Try.func35, Try.ntmps35
    go_wp2
    go_ret2
    exact ⟨_, rfl, RowF.nil, Fr.refl⟩
  by_cases h2 : 16 < n
  · have e : orderL n draws = ([], 1) := by unfold orderL; rw [if_pos (.inr h2)]
    rw [e]
    clear e hr hl
    go_enter Try.func35, Try.ntmps35
    go_wp2
    go_ret2
    exact ⟨_, rfl, RowF.nil, Fr.refl⟩
  by_cases h3 : (draws.length : Int) < n
  · have e : orderL n draws = ([], 120) := by unfold orderL; rw [if_neg (by omega), if_pos h3]
    rw [e]
    clear e hr hl
    go_enter Try.func35, Try.ntmps35
    go_wp2
    go_ret2
    exact ⟨_, rfl, RowF.nil, Fr.refl⟩
  obtain ⟨N, rfl⟩ : ∃ N : Nat, n = N := ⟨n.toNat, by omega⟩
  have e : orderL N draws = (ordN N draws N, 0) := by unfold orderL; rw [if_neg (by omega), if_neg h3]; simp
  rw [e]
  have HR := hid hr
  have HD := hid hd
  clear e hr hl hd
  obtain ⟨i0, hi0, hz0, hz1, hz2⟩ := info_parts info3
  go_enter Try.func35, Try.ntmps35
  go_wp2_with fail
  go_loopw [6, 7] (fun v i wr => ∃ k : Nat, i = .int .i64 k ∧ k ≤ N ∧ RowF wr (New w) 3 1 v (ints ((ordN N draws k).take k)) ∧ Fr E0 w wr) (fun _ i _ => N - (intOf i).toNat)
  case atStart => exact ⟨0, rfl, Nat.zero_le _, RowF.nil, Fr.refl⟩
  case round =>
    obtain ⟨k, rfl, hk, hrow, hf⟩ := hrel
    have HW := hid hrow
    have HF := hid hf
    clear hrow hf
    by_cases hlt : k < N
    · have hkd : k < draws.length := by omega
      obtain ⟨d, hdk⟩ : ∃ d, draws[k]? = some d := ⟨draws[k], List.getElem?_eq_getElem hkd⟩
      obtain ⟨b, o, rfl, r⟩ := HR.out.at (fun e => by have := congrArg List.length e; simp [us] at this; subst this; simp at hkd)
      have y1 := r.fr HF.out (fun x => x) k (.int .u64 d) (by simp [us, hdk])
      have hd0 := HD.out d (List.mem_of_getElem? hdk)
      have HK := hid hdk
      obtain ⟨j, hj⟩ : ∃ j : Nat, d % ((k : Int) + 1) = j := ⟨(d % ((k : Int) + 1)).toNat, by have := Int.emod_nonneg d (b := (k : Int) + 1) (by omega); omega⟩
      have hjk : j ≤ k := by have := Int.emod_lt_of_pos d (b := (k : Int) + 1) (by omega); omega
      have hj0 : (0 : Int) ≤ (j : Int) := by omega
      have hjl : (j : Int) < (k : Int) + 1 := by omega
      have hlen : ((ordN N draws k).take k).length = k := by rw [List.length_take, ordN_len]; omega
      have HLN := hid hlen
      have WR := hid (HW.out.fr ((Fr.refl (S := E0)).alloc (.cells #[.int .i64 (k : Int)] 3)) (fun _ _ x => x))
      have hsz := HF.out.size
      clear r hdk hlen
      go_wp2_with (at_builtin; (refine wpList_append_lies _ rfl (.tmp 33) (.tmp 35) 70 rfl 0 3 i0 (.int .i64 0) 1 8 Try.underlying70 hi0 hz0 hz1 hz2 rfl (by decide) u6 k (ints ((ordN N draws k).take k)) rfl (WR.out.own (by decide) (by rw [ints_len, HLN.out])) ⟨wr.heap.size, 0, none⟩ 1 1 [.int .i64 (k : Int)] rfl rfl (World.news_of_block (heap_alloc_new wr _)) (by simp [Value.oneCell']) (by decide) (by unfold maxLen; omega) (by omega) (Nat.zero_le _) (wr.heap.size + 1) (by simp) ?_); intro gb cp w1 hown1 hgrow1 hat1 hlt1; have HP := hid (pushed3 HF.out HW.out hown1 hgrow1 hat1 HLN.out); clear hown1 hgrow1 hat1; obtain ⟨x, HX, HW2, HF2, z1, z2, f1, f2, y', c1⟩ := steps3 HP.out.1 HP.out.2 HLN.out hjk; clear HP)
      have HE := hid (show ((((ordN N draws k).take k ++ [(k : Int)]).set k x).set j (k : Int)) = (ordN N draws (k + 1)).take (k + 1) by
        have h1 := ordAt_take (ordN N draws k) k d (by rw [ordN_len]; exact hlt) (by rw [hj]; omega)
        rw [ordN, show draws.getD k 0 = d from by rw [List.getD_eq_getElem?_getD, HK.out]; rfl, ← h1, hj, Int.toNat_natCast, List.getD_eq_getElem?_getD, HX.out]; rfl)
      go_roundw
      case rel => exact ⟨k + 1, by simp, by omega, by rw [← HE.out]; exact HW2.out, HF2.out⟩
      case measure => simp [intOf]; omega
    · obtain rfl : k = N := by omega
      clear hlt hk
      go_wp2_with fail
      go_ret2
      exact ⟨_, rfl, by have := HW.out; rw [List.take_of_length_le (by rw [ordN_len]; exact Nat.le_refl _)] at this; exact this, HF.out⟩
end Go.Proofs.Yteffmnohgnmanaa
/- rotaref12.Select. -/
namespace Go.Proofs.Yteffmnohgnmanaa
open Go.RowKit
set_option linter.unusedVariables false
attribute [local go_sem ↓] Go.wp_at_zero Go.wp_at_succ
def RSelPost (w : World) (v : Value) (l l' : List Ch) (r : Cho) (err : Int) (e : Ending) (w' : World) : Prop :=
  ∃ v' wv, e = .returned (tup3 v' (r.val wv) (.int .i64 err)) ∧ OutR w w' v l l' v' ∧ RowF w' (New w) 39 6 wv (wks r.m.woken) ∧ Fr E0 w w'
theorem fin47 {a : Act} {W : World} {R : Nat} {Q : Ending → World → Prop} {c : Cho} {v wv : Value} {err : Int} (hd : a.defers = []) (h8 : a.tmps.getD 10 undef = v) (h9 : a.tmps.getD 11 undef = .pointer (some ⟨R, 0, none⟩)) (h10 : a.tmps.getD 12 undef = .int .i64 err)
    (hR : W.heap[R]? = some (.cells #[.int .i64 c.case, .bool c.dft, .bool c.m.waits, .int .i64 c.m.value, .bool c.m.ok, .int .i64 c.m.trap, wv] 47 (0, 0))) (hQ : Q (.returned (tup3 v (c.val wv) (.int .i64 err))) W) : bodyPost Try.prog Try.f47 Q .ret a W := by
  obtain ⟨⟨k0, k1, k2, k3, k4, k5, k6⟩, _⟩ := blk7 hR
  have h8' : a.tmps[10]?.getD undef = v := by simpa using h8
  have h9' : a.tmps[11]?.getD undef = .pointer (some ⟨R, 0, none⟩) := by simpa using h9
  have h10' : a.tmps[12]?.getD undef = .int .i64 err := by simpa using h10
  exact bodyPost_ret (v := tup3 v (c.val wv) (.int .i64 err)) (by simp [results, Try.results47, go_sem, h8', h9', h10', k0, k1, k2, k3, k4, k5, k6, tup3, Cho.val]) hd hQ
theorem fr_set7 {w w' : World} {B : Nat} (h : Fr E0 w w') (hB : w.heap.size ≤ B) (y0 y1 y2 y3 y4 y5 y6 : Value) : Fr E0 w (set7 w' B y0 y1 y2 y3 y4 y5 y6) :=
  h.trans' (set7_fr (S := fun k => k = B) rfl y0 y1 y2 y3 y4 y5 y6) (fun k hk => .inr (by subst hk; exact hB))
theorem heapT3 (w : World) (a b c : Obj) : ((((w.alloc a).alloc b).alloc c).heap[w.heap.size]? = some a ∧ (((w.alloc a).alloc b).alloc c).heap[w.heap.size + 1]? = some b) ∧ (((w.alloc a).alloc b).alloc c).heap[w.heap.size + 2]? = some c := by
  refine ⟨⟨(Fr.refl (S := E0)).alloc c |>.heapAt (heap_alloc2_old w a b) (fun x => x), (Fr.refl (S := E0)).alloc c |>.heapAt (heap_alloc2_new w a b) (fun x => x)⟩, ?_⟩
  have h := heap_alloc_new ((w.alloc a).alloc b) c
  simpa using h
theorem OutR.trans {w w1 w2 : World} {v v1 v2 : Value} {l l1 l2 : List Ch} (h : OutR w w1 v l l1 v1) (k : OutR w1 w2 v1 l1 l2 v2) (f1 : Fr E0 w w1) (f2 : Fr E0 w1 w2) : OutR w w2 v l l2 v2 := by
  rcases k with ⟨rfl, rfl⟩ | ⟨ms, h1, h2⟩
  · rcases h with ⟨rfl, rfl⟩ | ⟨ms, h1, h2⟩
    · exact .inl ⟨rfl, rfl⟩
    · exact .inr ⟨ms, h1, h2.fr f2 (fun _ _ x => x)⟩
  · exact .inr ⟨ms, h1, h2.mono (fun q hq => Nat.le_trans f1.size hq)⟩
theorem OutR.rd {w w1 : World} {v v1 : Value} {ms : List CM} {l1 : List Ch} (h : OutR w w1 v (chs ms) l1 v1) (hv : RdCs w v ms) (f1 : Fr E0 w w1) : ∃ ms1, RdCs w1 v1 ms1 ∧ chs ms1 = l1 := by
  rcases h with ⟨rfl, rfl⟩ | ⟨ms', h1, h2⟩
  · exact ⟨ms, hv.fr f1, rfl⟩
  · exact ⟨ms', h2.rd, h1⟩
theorem trapP_step {t : Int → Int} {cases : List Pk} {k : Nat} {p : Pk} (hp : cases[k]? = some p) (h : trapP t (cases.take k) = 0) : trapP t (cases.take (k + 1)) = t p.ch := by
  rw [List.take_add_one, hp]
  simp only [Option.toList_some]
  generalize cases.take k = a at h
  induction a with
  | nil => simp [trapP]; omega
  | cons q r ih =>
    simp only [List.cons_append, trapP] at h ⊢
    by_cases hq : t q.ch = 0
    · rw [if_pos hq] at h ⊢; exact ih h
    · rw [if_neg hq] at h; exact absurd h hq
theorem trapP_found {t : Int → Int} {cases : List Pk} {k : Nat} {p : Pk} (hp : cases[k]? = some p) (h : trapP t (cases.take k) = 0) (hn : t p.ch ≠ 0) : trapP t cases = t p.ch := by
  have e : cases = cases.take k ++ cases.drop k := (List.take_append_drop k cases).symm
  have e2 : cases.drop k = p :: cases.drop (k + 1) := by
    obtain ⟨hk, he⟩ := List.getElem?_eq_some_iff.1 hp
    rw [List.drop_eq_getElem_cons hk, he]
  rw [e, e2]
  generalize cases.take k = a at h
  induction a with
  | nil => simp [trapP, hn]
  | cons q r ih =>
    simp only [List.cons_append, trapP] at h ⊢
    by_cases hq : t q.ch = 0
    · rw [if_pos hq] at h ⊢; exact ih h
    · rw [if_neg hq] at h; exact absurd h hq
theorem trapC_four {l : List Ch} {ch : Int} (h : trapC l ch ≠ 0) : trapC l ch = 4 := by
  unfold trapC at h ⊢
  split at h
  · exact absurd rfl h
  · rename_i hz
    rw [if_neg hz]
    cases hg : getC l ch with
    | none => rfl
    | some c => rw [hg] at h; exact absurd rfl h
theorem carry_err {l : List Ch} {p : Pk} {gs gg : Int} (hw : waitsL gs gg l = false) : (carryL l p gs gg).2.2 = 0 := by
  unfold carryL
  cases p.send with
  | true =>
    simp only [if_true, sendL, hw, Bool.false_eq_true, if_false]
    split
    · rfl
    · split
      · rfl
      · split
        · rfl
        · split
          · rfl
          · split <;> rfl
  | false =>
    simp only [Bool.false_eq_true, if_false, recvL, hw]
    split
    · rfl
    · split
      · rfl
      · split
        · split <;> rfl
        · split
          · rfl
          · split <;> rfl
theorem OwnCs.fr1 {w w' : World} {F : Nat → Prop} {v : Value} {ms : List CM} {B t : Nat} {cs : Array Value} (h : OwnCs w F v ms) (hf : Fr (fun k => k = B) w w') (hB : w.heap[B]? = some (.cells cs t (0, 0))) (h1 : t ≠ 67) (h2 : t ≠ 2) (h3 : t ≠ 114) : OwnCs w' F v ms := by
  have ne : ∀ {e sz : Nat} {u : Value} {xs : List Value}, RowF w F e sz u xs → e ≠ t → ∀ g, u.ownBlock = some g → w'.heap[g]? = w.heap[g]? := fun hr he g hg => hf.block g (hr.lt hg) (by
    rintro rfl
    obtain ⟨cur, hc⟩ := hr.heap hg
    rw [hB] at hc; injection hc with hc; injection hc with _ hc _; exact he hc.symm)
  exact ⟨h.row.same (ne h.row h1.symm), fun m hm => ⟨(h.each m hm).vals.same (ne (h.each m hm).vals h2.symm), (h.each m hm).snd.same (ne (h.each m hm).snd h3.symm), (h.each m hm).rcv.same (ne (h.each m hm).rcv h3.symm)⟩, h.apart⟩
theorem RowF.fr1 {w w' : World} {F : Nat → Prop} {e sz B t : Nat} {v : Value} {xs : List Value} {cs : Array Value} (h : RowF w F e sz v xs) (hf : Fr (fun k => k = B) w w') (hB : w.heap[B]? = some (.cells cs t (0, 0))) (he : e ≠ t) : RowF w' F e sz v xs :=
  h.same (fun g hg => hf.block g (h.lt hg) (by
    rintro rfl
    obtain ⟨cur, hc⟩ := h.heap hg
    rw [hB] at hc; injection hc with hc; injection hc with _ hc _; exact he hc.symm))
theorem OutR.fr1 {w W W' : World} {v v' : Value} {l l' : List Ch} {B t : Nat} {cs : Array Value} (h : OutR w W v l l' v') (hf : Fr (fun k => k = B) W W') (hB : W.heap[B]? = some (.cells cs t (0, 0))) (h1 : t ≠ 67) (h2 : t ≠ 2) (h3 : t ≠ 114) : OutR w W' v l l' v' := by
  rcases h with h | ⟨ms, a, b⟩
  · exact .inl h
  · exact .inr ⟨ms, a, b.fr1 hf hB h1 h2 h3⟩
theorem OutR.e0 {w W W' : World} {v v' : Value} {l l' : List Ch} (h : OutR w W v l l' v') (hf : Fr E0 W W') : OutR w W' v l l' v' := by
  rcases h with h | ⟨ms, a, b⟩
  · exact .inl h
  · exact .inr ⟨ms, a, b.fr hf (fun _ _ x => x)⟩
/-- Five cells of a block, from the third on. -/
def set5o (w : World) (B : Nat) (a b c d e : Value) : World := ((((w.setCell ⟨B, 2, none⟩ a).setCell ⟨B, 3, none⟩ b).setCell ⟨B, 4, none⟩ c).setCell ⟨B, 5, none⟩ d).setCell ⟨B, 6, none⟩ e
theorem set5o_heap {w : World} {B : Nat} {x0 x1 x2 x3 x4 x5 x6 : Value} {t : TypeId} (h : w.heap[B]? = some (.cells #[x0, x1, x2, x3, x4, x5, x6] t (0, 0))) (a b c d e : Value) : (set5o w B a b c d e).heap[B]? = some (.cells #[x0, x1, a, b, c, d, e] t (0, 0)) := by
  have h1 := heap_setCell_same w B 2 _ t a h
  have h2 := heap_setCell_same _ B 3 _ t b h1
  have h3 := heap_setCell_same _ B 4 _ t c h2
  have h4 := heap_setCell_same _ B 5 _ t d h3
  exact heap_setCell_same _ B 6 _ t e h4
theorem set5o_fr {w : World} {B : Nat} (a b c d e : Value) : Fr (fun k => k = B) w (set5o w B a b c d e) :=
  (((((Fr.refl (S := fun k => k = B)).setCell (p := ⟨B, 2, none⟩) a (.inl rfl)).setCell (p := ⟨B, 3, none⟩) b (.inl rfl)).setCell (p := ⟨B, 4, none⟩) c (.inl rfl)).setCell (p := ⟨B, 5, none⟩) d (.inl rfl)).setCell (p := ⟨B, 6, none⟩) e (.inl rfl)
/-- The end of a case that went on. -/
theorem rsel_end {w w8 w9 W10 W11 : World} {v v9 wv : Value} {l l5 : List Ch} {ws : List Wk} {O R : Nat} {cO cR : Array Value} (F8 : Fr E0 w w8) (ho : OutR w8 w9 v l l5 v9) (hr : RowF w9 (New w8) 39 6 wv (wks ws)) (hf : Fr E0 w8 w9)
    (hO : w9.heap[O]? = some (.cells cO 47 (0, 0))) (hOw : w.heap.size ≤ O) (hR : W10.heap[R]? = some (.cells cR 47 (0, 0))) (hRw : w.heap.size ≤ R) (f1 : Fr (fun k => k = O) w9 W10) (f2 : Fr (fun k => k = R) W10 W11) :
    OutR w W11.drew v l l5 v9 ∧ RowF W11.drew (New w) 39 6 wv (wks ws) ∧ Fr E0 w W11.drew := by
  have o1 : OutR w w9 v l l5 v9 := OutR.trans (.inl ⟨rfl, rfl⟩) ho F8 hf
  have r1 : RowF w9 (New w) 39 6 wv (wks ws) := hr.newer F8.size
  refine ⟨((o1.fr1 f1 hO (by decide) (by decide) (by decide)).fr1 f2 hR (by decide) (by decide) (by decide)).e0 (Fr.refl (S := E0)).drew, (((r1.fr1 f1 hO (by decide)).fr1 f2 hR (by decide))).same (fun _ _ => rfl), ?_⟩
  exact (((F8.trans hf).trans' f1 (fun k hk => .inr (by subst hk; exact hOw))).trans' f2 (fun k hk => .inr (by subst hk; exact hRw))).drew
theorem blk3 {w : World} {B : Nat} {x0 x1 x2 : Value} {t : TypeId} (h : w.heap[B]? = some (.cells #[x0, x1, x2] t (0, 0))) : w.cell? ⟨B, 0, none⟩ = some x0 ∧ w.cell? ⟨B, 1, none⟩ = some x1 ∧ w.cell? ⟨B, 2, none⟩ = some x2 :=
  ⟨cell_of_row w _ 0 _ _ _ h, cell_of_row w _ 1 _ _ _ h, cell_of_row w _ 2 _ _ _ h⟩
theorem keepP {wo : World} {b o k : Nat} {l : List Pk} {p : Pk} (r : RdL wo b o (pks l)) (hp : l[k]? = some p) : ∀ W, Fr E0 wo W → (Fr E0 wo W ∧ W.cell? ⟨b, o + k * 3, none⟩ = some (.bool p.send) ∧ W.cell? ⟨b, o + k * 3 + 1, none⟩ = some (.int .i64 p.ch)) := fun W hW => by
  obtain ⟨c0, c1, _⟩ := pk_at (r.fr hW (fun x => x)) hp
  exact ⟨hW, c0, c1⟩
theorem waitK_len (l : List Ch) (gs gg : Int) (cases : List Pk) : ∀ k, (waitK l gs gg cases k).length = l.length
  | 0 => rfl
  | k + 1 => by
    have ih := waitK_len l gs gg cases k
    unfold waitK
    split
    · exact ih
    · split
      · exact ih
      · rw [waitL_len]; exact ih
theorem waitK_succ {l : List Ch} {gs gg : Int} {cases : List Pk} {k : Nat} {p : Pk} (hp : cases[k]? = some p) (v : Int) (hv : p.send = true → v = p.v) : (waitL (waitK l gs gg cases k) p.ch ⟨gs, gg, k, v⟩ p.send).1 = waitK l gs gg cases (k + 1) := by
  rw [waitK, hp]
  simp only
  by_cases hz : p.ch = 0
  · rw [if_pos hz, hz]; unfold waitL; rw [getC_zero]
  · rw [if_neg hz]
    unfold waitL
    cases getC (waitK l gs gg cases k) p.ch with
    | none => rfl
    | some c =>
      cases hs : p.send with
      | true => rw [hv hs]
      | false => rfl
theorem keepW {w6 : World} {b o k Bx : Nat} {l : List Pk} {p : Pk} {a c d e : Value} (r : RdL w6 b o (pks l)) (hp : l[k]? = some p) (hB : w6.heap[Bx]? = some (.cells #[a, c, d, e] 114 (0, 0))) : ∀ W, Fr E0 w6 W → (Fr E0 w6 W ∧ W.cell? ⟨b, o + k * 3, none⟩ = some (.bool p.send) ∧ W.cell? ⟨b, o + k * 3 + 1, none⟩ = some (.int .i64 p.ch) ∧ W.cell? ⟨Bx, 0, none⟩ = some a ∧ W.cell? ⟨Bx, 1, none⟩ = some c ∧ W.cell? ⟨Bx, 2, none⟩ = some d ∧ W.cell? ⟨Bx, 3, none⟩ = some e) := fun W hW => by
  obtain ⟨c0, c1, _⟩ := pk_at (r.fr hW (fun x => x)) hp
  have h1 := hW.heapAt hB (fun x => x)
  exact ⟨hW, c0, c1, cell_of_row W _ 0 _ _ _ h1, cell_of_row W _ 1 _ _ _ h1, cell_of_row W _ 2 _ _ _ h1, cell_of_row W _ 3 _ _ _ h1⟩
theorem rwait_any' {w : World} {v : Value} {ms : List CM} (hv : RdCs w v ms) (hn : ms.length ≤ 1024) (hbig : ∀ c ∈ chs ms, BigC c) (ch s g c xv : Int) (send : Bool) {l' : List Ch} (hl : (waitL (chs ms) ch ⟨s, g, c, xv⟩ send).1 = l') :
    Calls Try.prog 63 #[v, .int .i64 ch, .agg #[.int .i64 s, .int .i64 g, .int .i64 c, .int .i64 xv], .bool send] w (RWaitPost w v (chs ms) l' (waitL (chs ms) ch ⟨s, g, c, xv⟩ send).2) := by rw [← hl]; exact rwait_all hv hn hbig ch ⟨s, g, c, xv⟩ send
set_option maxRecDepth 8000 in
set_option maxHeartbeats 16000000 in
theorem rsel_all {w : World} {N : Nat} {v : Value} {ms : List CM} (hv : RdCs w v ms) (hok : Ok N (chs ms)) (hN : N + 17 ≤ 4194304) (gs gg : Int) (cases : List Pk) (cv : Value) (dft : Bool) (draws : List Int) (dv : Value)
    (hc : RdV w cv 3 (pks cases)) (hn : cases.length ≤ 1048576) (hd : RdV w dv 1 (us draws)) (hdw : ∀ d ∈ draws, 0 ≤ d ∧ d < 18446744073709551616) (l' : List Ch) (r : Cho) (err : Int) (hsel : selL (chs ms) gs gg cases dft draws = (l', r, err)) :
    Calls Try.prog 47 #[v, .agg #[.int .i64 gs, .int .i64 gg], cv, .bool dft, dv] w (RSelPost w v (chs ms) l' r err) := by
  have HV := hid hv
  have HK := hid hok
  have HC := hid hc
  have HD := hid hd
  have HDW := hid hdw
  have HS := hid hsel
  have hl := hok.len
  have hlm : ms.length = (chs ms).length := (chs_len ms).symm
  obtain ⟨VA, vc, rfl, hmx, _, _⟩ := hv.form
  obtain ⟨A, n, c, rfl, hcl, _, _, _⟩ := hc
  obtain rfl : cases.length = n := by rw [pks_len] at hcl; omega
  rw [← hlm] at hl
  have HBG := hid (hok.big (by omega))
  clear hcl hd hdw hsel hok hv hlm
  have TZ := hid (heapT3 w (.cells #[.int .i64 gs, .int .i64 gg] 37) (.cells #[.int .i64 0, .bool false, .bool false, .int .i64 0, .bool false, .int .i64 0, .slice none 0 0] 47) (.cells #[.int .i64 (-1), .bool false, .bool false, .int .i64 0, .bool false, .int .i64 0, .slice none 0 0] 47))
  have FA := hid ((((Fr.refl (S := E0) (w := w)).alloc (.cells #[.int .i64 gs, .int .i64 gg] 37)).alloc (.cells #[.int .i64 0, .bool false, .bool false, .int .i64 0, .bool false, .int .i64 0, .slice none 0 0] 47)).alloc (.cells #[.int .i64 (-1), .bool false, .bool false, .int .i64 0, .bool false, .int .i64 0, .slice none 0 0] 47))
  go_enter Try.func47, Try.ntmps47
  go_wp2_with fail
  generalize (((w.alloc _).alloc _).alloc _) = W at *
  refine (order2_ok cases.length draws dv W (HD.out.fr FA.out) HDW.out).mono ?_
  rintro e w2 ⟨ov, rfl, hrow, hf2⟩
  simp only [tup2]
  have G2 := hid (hf2.heapAt TZ.out.1.1 (fun x => x))
  have T2 := hid (hf2.heapAt TZ.out.1.2 (fun x => x))
  have X2 := hid (hf2.heapAt TZ.out.2 (fun x => x))
  have F2 := hid (FA.out.trans hf2)
  have n1 : ¬ w.heap.size + 1 = w.heap.size + 2 := by omega
  have n2 : ¬ w.heap.size + 2 = w.heap.size + 1 := by omega
  clear TZ FA hf2
  by_cases he : (orderL cases.length draws).2 = 0
  · obtain ⟨q1, q2, q3⟩ := orderL_zero he
    rw [q3] at hrow
    have HO := hid hrow
    have HQ := hid q3
    have HE := hid he
    rw [he]
    clear hrow q2 q3 he
    obtain ⟨oA, oc, rfl, _, _, _⟩ := HO.out.read (n := cases.length) (by decide) (by simp [ints, ordN_len])
    have g0 := cell_of_row w2 _ 0 _ _ _ G2.out
    have g1 := cell_of_row w2 _ 1 _ _ _ G2.out
    go_wp2_with fail
    refine (waits2_ok ms _ gs gg w2 (HV.out.fr F2.out) (by omega) HBG.out).mono ?_
    rintro e w3 ⟨rfl, hf3⟩
    have T3 := hid (hf3.heapAt T2.out (fun x => x))
    have G3 := hid (hf3.heapAt G2.out (fun x => x))
    have X3 := hid (hf3.heapAt X2.out (fun x => x))
    have F3 := hid (F2.out.trans hf3)
    have O3 := hid (HO.out.fr hf3 (fun _ _ x => x))
    clear hf3 g0 g1
    obtain ⟨⟨k0, k1, k2, k3, k4, k5, k6⟩, z0, z1, z2, z3, z4, z5, z6⟩ := blk7 T3.out
    obtain ⟨⟨x0, x1, x2, x3, x4, x5, x6⟩, _⟩ := blk7 X3.out
    cases hw : waitsL gs gg (chs ms) with
    | true =>
      have e1 : selL (chs ms) gs gg cases dft draws = (chs ms, ⟨-1, false, {}⟩, 111) := by unfold selL; rw [if_neg (by simpa using HE.out), if_pos hw]
      have e2 := e1.symm.trans HS.out
      cases e2
      clear e1
      go_wp2_with fail
      go_region
      all_goals
        go_wp2_with fail
        exact fin47 (c := ⟨-1, false, {}⟩) rfl rfl rfl rfl ((Fr.refl (S := E0)).drew.heapAt (set7_heap T3.out _ _ _ _ _ _ _) (fun x => x)) ⟨_, _, rfl, .inl ⟨rfl, rfl⟩, RowF.nil, (fr_set7 F3.out (Nat.le_succ _) _ _ _ _ _ _ _).drew⟩
    | false =>
      have HWt := hid hw
      clear hw k0 k1 k2 k3 k4 k5 k6 z0 z1 z2 z3 z4 z5 z6 x0 x1 x2 x3 x4 x5 x6
      go_wp2_with fail
      go_loopw [17, 18, 19] (fun i _ _ wr => ∃ k : Nat, i = .int .i64 k ∧ k ≤ cases.length ∧ trapP (trapC (chs ms)) (cases.take k) = 0 ∧ Fr E0 w3 wr) (fun i _ _ _ => cases.length - (intOf i).toNat)
      case atStart => exact ⟨0, rfl, Nat.zero_le _, rfl, Fr.refl⟩
      case round =>
        obtain ⟨k, rfl, hk, htp, hf⟩ := hrel
        have HTP := hid htp
        have HF := hid hf
        have T4 := hid (hf.heapAt T3.out (fun x => x))
        have G4 := hid (hf.heapAt G3.out (fun x => x))
        have X4 := hid (hf.heapAt X3.out (fun x => x))
        have F4 := hid (F3.out.trans hf)
        clear hf htp
        by_cases hlt : k < cases.length
        · obtain ⟨wo, hwo⟩ : ∃ wo : World, wo = wr := ⟨_, rfl⟩
          subst hwo
          obtain ⟨p, hp⟩ : ∃ p, cases[k]? = some p := ⟨_, List.getElem?_eq_getElem hlt⟩
          obtain ⟨_, _, _, ev, _, _, _, rv⟩ := HC.out.fr F4.out
          cases ev
          obtain ⟨bv, bo, rfl, rv2⟩ := rv.at (fun e => by have := congrArg List.length e; rw [pks_len] at this; simp only [List.length_nil] at this; omega)
          have HP := hid hp
          have KC := hid (keepP rv2 hp)
          have S0 := hid (KC.out _ (Fr.refl (S := E0)).drew)
          clear rv rv2 hp
          go_upto_region 11 with fail
          go_region_held3 (fun w' => Fr E0 wo w' ∧ w'.cell? ⟨bv, bo + k * 3, none⟩ = some (.bool p.send) ∧ w'.cell? ⟨bv, bo + k * 3 + 1, none⟩ = some (.int .i64 p.ch))
            (with_reducible first | exact S0.out | exact k1.out)
            (first
              | (go_at_call 65; ((with_reducible refine (goes2_ok (HV.out.fr (F4.out.trans (Fr.refl (S := E0)).drew)) p.ch p.send).mono ?_); rintro e w5 ⟨rfl, hf5⟩); simp only [tup2]; have f5 := hid ((Fr.refl (S := E0)).drew.trans hf5); have k1 := hid (KC.out _ f5.out); clear hf5))
          all_goals
            by_cases ht : trapC (chs ms) p.ch = 0
            · have HT2 := hid (trapP_step (t := trapC (chs ms)) HP.out HTP.out)
              rw [ht] at HT2 ⊢
              clear ht
              go_wp2_with fail
              go_roundw
              case rel => exact ⟨k + 1, by simp, by omega, HT2.out, HF.out.trans f5.out⟩
              case measure => simp [intOf]; omega
            · have h4 := trapC_four ht
              have e1 : selL (chs ms) gs gg cases dft draws = (chs ms, ⟨-1, false, { trap := 4 }⟩, 0) := by
                have h5 : trapP (trapC (chs ms)) cases = 4 := (trapP_found HP.out HTP.out ht).trans h4
                unfold selL; rw [if_neg (by simpa using HE.out), if_neg (by rw [HWt.out]; simp), if_pos (by rw [h5]; decide), h5]
              have e2 := e1.symm.trans HS.out
              cases e2
              clear e1
              rw [h4]
              have T5 := hid (f5.out.heapAt T4.out (fun x => x))
              have X5 := hid (f5.out.heapAt X4.out (fun x => x))
              have F5 := hid (F4.out.trans f5.out)
              clear ht h4
              obtain ⟨⟨x0, x1, x2, x3, x4, x5, x6⟩, y0, y1, y2, y3, y4, y5, y6⟩ := blk7 X5.out
              go_wp2_with fail
              have X6 := hid (heap_setCell_same w5 (w.heap.size + 2) 5 _ 47 (.int .i64 4) X5.out)
              have T6 := hid (show (w5.setCell ⟨w.heap.size + 2, 5, none⟩ (.int .i64 4)).heap[w.heap.size + 1]? = _ from (heap_setCell_other _ _ _ _ n1).trans T5.out)
              have F6 := hid (F5.out.setCell (p := ⟨w.heap.size + 2, 5, none⟩) (.int .i64 4) (.inr (by show w.heap.size ≤ w.heap.size + 2; omega)))
              generalize w5.setCell _ _ = w6 at *
              clear x0 x1 x2 x3 x4 x5 x6 y0 y1 y2 y3 y4 y5 y6
              obtain ⟨⟨x0, x1, x2, x3, x4, x5, x6⟩, _⟩ := blk7 X6.out
              obtain ⟨⟨k0, k1, k2, k3, k4, k5, k6⟩, z0, z1, z2, z3, z4, z5, z6⟩ := blk7 T6.out
              go_region
              all_goals
                go_wp2_with fail
                exact fin47 (c := ⟨-1, false, { trap := 4 }⟩) rfl rfl rfl rfl ((Fr.refl (S := E0)).drew.heapAt (set7_heap T6.out _ _ _ _ _ _ _) (fun x => x)) ⟨_, _, rfl, .inl ⟨rfl, rfl⟩, RowF.nil, (fr_set7 F6.out (Nat.le_succ _) _ _ _ _ _ _ _).drew⟩
        · obtain rfl : k = cases.length := by omega
          rw [List.take_length] at HTP
          have HGO := hid (show selL (chs ms) gs gg cases dft draws = selGo (chs ms) gs gg cases dft (pickGo (chs ms) cases (ordN cases.length draws cases.length)) by
            unfold selL; rw [if_neg (by simpa using HE.out), if_neg (by rw [HWt.out]; simp), if_neg (by rw [HTP.out]; simp), HQ.out])
          have HG := hid (HGO.out.symm.trans HS.out)
          have O4 := hid (O3.out.fr HF.out (fun _ _ x => x))
          clear hlt hk HGO
          go_wp2_with fail
          go_loopw [0, 20] (fun v0 i wx => ∃ k : Nat, v0 = .slice VA ms.length vc ∧ i = .int .i64 k ∧ k ≤ cases.length ∧ Fr E0 wr wx ∧ pickGo (chs ms) cases ((ordN cases.length draws cases.length).drop k) = pickGo (chs ms) cases (ordN cases.length draws cases.length)) (fun _ i _ => cases.length - (intOf i).toNat)
          case atStart => exact ⟨0, rfl, rfl, Nat.zero_le _, Fr.refl, rfl⟩
          case round =>
            obtain ⟨k, rfl, rfl, hk, hf, hpk⟩ := hrel
            have HF2 := hid hf
            have HPK := hid hpk
            have T5 := hid (hf.heapAt T4.out (fun x => x))
            have G5 := hid (hf.heapAt G4.out (fun x => x))
            have X5 := hid (hf.heapAt X4.out (fun x => x))
            have F5 := hid (F4.out.trans hf)
            clear hf hpk
            by_cases hlt : k < cases.length
            · obtain ⟨i, hi, hic⟩ := ordN_at (draws := draws) hlt
              obtain ⟨p, hpi⟩ : ∃ p, cases[i]? = some p := ⟨_, List.getElem?_eq_getElem hic⟩
              have O5 := hid (O4.out.fr HF2.out (fun _ _ x => x))
              obtain ⟨_, _, eo, _, _, ro⟩ := O5.out.read (n := cases.length) (by decide) (by simp [ints, ordN_len])
              cases eo
              obtain ⟨bo, oo, rfl, ro2⟩ := ro.at (fun e => by have := congrArg List.length e; simp [ints, ordN_len] at this; subst this; simp at hlt)
              have oc1 := ro2 k (.int .i64 (i : Int)) (by simp [ints, hi])
              have hbo := World.block_lt_of_cell? wr _ oc1
              obtain ⟨_, _, _, ev, _, _, _, rv⟩ := HC.out.fr F5.out
              cases ev
              obtain ⟨bv, bb, rfl, rv2⟩ := rv.at (fun e => by have := congrArg List.length e; rw [pks_len] at this; simp only [List.length_nil] at this; omega)
              obtain ⟨c0, c1, c2⟩ := pk_at rv2 hpi
              have hbv := World.block_lt_of_cell? wr _ c0
              have RO := hid ro2
              have hnx := pickGo_next (l := chs ms) hi hpi
              have HX := hid hnx
              have HI := hid hi
              have HPI := hid hpi
              clear ro ro2 rv rv2 hi hpi hnx
              have i0 : (0 : Int) ≤ (i : Int) := by omega
              have i1 : (i : Int) < (cases.length : Int) := by omega
              go_wp2_with fail
              have B6 := hid (heap_alloc_new wr (.cells #[.bool p.send, .int .i64 p.ch, .int .i64 p.v] 78))
              have FB := hid ((Fr.refl (S := E0) (w := wr)).alloc (.cells #[.bool p.send, .int .i64 p.ch, .int .i64 p.v] 78))
              clear c0 c1 c2 oc1
              refine (goes2_ok (HV.out.fr (F5.out.trans FB.out)) p.ch p.send).mono ?_
              rintro e w7 ⟨rfl, hf7⟩
              have F7 := hid (FB.out.trans hf7)
              have B7 := hid (hf7.heapAt B6.out (fun x => x))
              have T7 := hid (F7.out.heapAt T5.out (fun x => x))
              have G7 := hid (F7.out.heapAt G5.out (fun x => x))
              have F8 := hid (F5.out.trans F7.out)
              clear hf7 B6
              simp only [tup2]
              cases hgo : goesL (chs ms) p.ch p.send with
              | false =>
                rw [hgo, if_neg (by simp)] at HX
                have HX2 := hid (HX.out.symm.trans HPK.out)
                clear hgo HX
                go_wp2_with fail
                go_roundw
                case rel => exact ⟨k + 1, rfl, by simp, by omega, HF2.out.trans F7.out, HX2.out⟩
                case measure => simp [intOf]; omega
              | true =>
                rw [hgo, if_pos rfl] at HX
                have HX2 := hid (HPK.out.symm.trans HX.out)
                obtain ⟨l5, mw, mv, mo, mt, mk, er, hcl⟩ : ∃ l5 mw mv mo mt mk er, carryL (chs ms) p gs gg = (l5, ⟨mw, mv, mo, mt, mk⟩, er) := ⟨_, _, _, _, _, _, _, rfl⟩
                have her : er = 0 := by have h := carry_err (p := p) (gs := gs) (gg := gg) HWt.out; rw [hcl] at h; exact h
                subst her
                have HCL := hid hcl
                clear hcl
                have hG2 : (l5, (⟨i, false, ⟨mw, mv, mo, mt, mk⟩⟩ : Cho), (0 : Int)) = (l', r, err) := by
                  have := HG.out
                  rw [HX2.out] at this
                  simp only [selGo, Int.toNat_natCast, List.getD_eq_getElem?_getD, HPI.out, Option.getD_some, HCL.out] at this
                  exact this
                cases hG2
                have oc2 := (RO.out.fr F7.out (fun x => x)) k (.int .i64 (i : Int)) (by simp [ints, HI.out])
                have hb7 := heap_lt B7.out
                have hbo7 := World.block_lt_of_cell? w7 _ oc2
                obtain ⟨p0, p1, p2⟩ := blk3 B7.out
                have hg7 := heap_lt G7.out
                have g0 := cell_of_row w7 _ 0 _ _ _ G7.out
                have g1 := cell_of_row w7 _ 1 _ _ _ G7.out
                obtain ⟨sd, pc, pv⟩ := p
                clear hgo HX
                simp only at p0 p1 p2
                cases sd with
                | true =>
                  go_wp2_with fail
                  have FO := hid ((Fr.refl (S := E0) (w := w7)).alloc (.cells #[.int .i64 (i : Int), .bool false, .bool false, .int .i64 0, .bool false, .int .i64 0, .slice none 0 0] 47))
                  have O8 := hid (heap_alloc_new w7 (.cells #[.int .i64 (i : Int), .bool false, .bool false, .int .i64 0, .bool false, .int .i64 0, .slice none 0 0] 47))
                  have F8b := hid (F8.out.trans FO.out)
                  have hOw : w.heap.size ≤ w7.heap.size := F8.out.size
                  have hT7 := heap_lt T7.out
                  have hnO : ¬ w.heap.size + 1 = w7.heap.size := by omega
                  have hnO2 : ¬ w7.heap.size = w.heap.size + 1 := by omega
                  clear p0 p1 p2 g0 g1 oc2
                  generalize w7.alloc _ = w8 at *
                  refine (rsend_all (HV.out.fr F8b.out) hl HBG.out pc gs gg pv).mono ?_
                  rw [show sendL (chs ms) pc gs gg pv = (l', ⟨mw, mv, mo, mt, mk⟩, 0) from HCL.out]
                  rintro e w9 ⟨v9, wv9, rfl, ho9, hr9, hf9⟩
                  simp only at ho9 hr9
                  obtain ⟨A9, n9, c9, rfl⟩ := hr9.shape
                  have O9 := hid (hf9.heapAt O8.out (fun x => x))
                  have T9 := hid (hf9.heapAt (FO.out.heapAt T7.out (fun x => x)) (fun x => x))
                  have HO9 := hid ho9
                  have HR9 := hid hr9
                  have HF9 := hid hf9
                  clear ho9 hr9 hf9
                  obtain ⟨⟨x0, x1, x2, x3, x4, x5, x6⟩, y0, y1, y2, y3, y4, y5, y6⟩ := blk7 O9.out
                  simp only [tup3, Mv.val]
                  go_wp2_with fail
                  have f1 := hid (set5o_fr (w := w9) (B := w7.heap.size) (.bool mw) (.int .i64 mv) (.bool mo) (.int .i64 mt) (.slice A9 n9 c9))
                  have O10 := hid (set5o_heap O9.out (.bool mw) (.int .i64 mv) (.bool mo) (.int .i64 mt) (.slice A9 n9 c9))
                  have T10 := hid (f1.out.heapAt T9.out hnO)
                  unfold set5o at f1 O10 T10
                  clear x0 x1 x2 x3 x4 x5 x6 y0 y1 y2 y3 y4 y5 y6
                  generalize ((((World.setCell w9 _ _).setCell _ _).setCell _ _).setCell _ _).setCell _ _ = W10 at *
                  obtain ⟨⟨x0, x1, x2, x3, x4, x5, x6⟩, _⟩ := blk7 O10.out
                  obtain ⟨⟨k0, k1, k2, k3, k4, k5, k6⟩, z0, z1, z2, z3, z4, z5, z6⟩ := blk7 T10.out
                  go_region
                  all_goals
                    go_wp2_with fail
                    have HE2 := hid (rsel_end F8b.out HO9.out HR9.out HF9.out O9.out hOw T10.out (Nat.le_succ _) f1.out (set7_fr (S := fun k => k = w.heap.size + 1) rfl (.int .i64 (i : Int)) (.bool false) (.bool mw) (.int .i64 mv) (.bool mo) (.int .i64 mt) (.slice A9 n9 c9)))
                    exact fin47 (c := ⟨(i : Int), false, ⟨mw, mv, mo, mt, mk⟩⟩) rfl rfl rfl rfl ((Fr.refl (S := E0)).drew.heapAt (set7_heap T10.out _ _ _ _ _ _ _) (fun x => x)) ⟨_, _, rfl, HE2.out.1, HE2.out.2.1, HE2.out.2.2⟩
                | false =>
                  go_wp2_with fail
                  have FO := hid ((Fr.refl (S := E0) (w := w7)).alloc (.cells #[.int .i64 (i : Int), .bool false, .bool false, .int .i64 0, .bool false, .int .i64 0, .slice none 0 0] 47))
                  have O8 := hid (heap_alloc_new w7 (.cells #[.int .i64 (i : Int), .bool false, .bool false, .int .i64 0, .bool false, .int .i64 0, .slice none 0 0] 47))
                  have F8b := hid (F8.out.trans FO.out)
                  have hOw : w.heap.size ≤ w7.heap.size := F8.out.size
                  have hT7 := heap_lt T7.out
                  have hnO : ¬ w.heap.size + 1 = w7.heap.size := by omega
                  have hnO2 : ¬ w7.heap.size = w.heap.size + 1 := by omega
                  clear p0 p1 p2 g0 g1 oc2
                  generalize w7.alloc _ = w8 at *
                  refine (rrecv_all (HV.out.fr F8b.out) hl HBG.out pc gs gg).mono ?_
                  rw [show recvL (chs ms) pc gs gg = (l', ⟨mw, mv, mo, mt, mk⟩, 0) from HCL.out]
                  rintro e w9 ⟨v9, wv9, rfl, ho9, hr9, hf9⟩
                  simp only at ho9 hr9
                  obtain ⟨A9, n9, c9, rfl⟩ := hr9.shape
                  have O9 := hid (hf9.heapAt O8.out (fun x => x))
                  have T9 := hid (hf9.heapAt (FO.out.heapAt T7.out (fun x => x)) (fun x => x))
                  have HO9 := hid ho9
                  have HR9 := hid hr9
                  have HF9 := hid hf9
                  clear ho9 hr9 hf9
                  obtain ⟨⟨x0, x1, x2, x3, x4, x5, x6⟩, y0, y1, y2, y3, y4, y5, y6⟩ := blk7 O9.out
                  simp only [tup3, Mv.val]
                  go_wp2_with fail
                  have f1 := hid (set5o_fr (w := w9) (B := w7.heap.size) (.bool mw) (.int .i64 mv) (.bool mo) (.int .i64 mt) (.slice A9 n9 c9))
                  have O10 := hid (set5o_heap O9.out (.bool mw) (.int .i64 mv) (.bool mo) (.int .i64 mt) (.slice A9 n9 c9))
                  have T10 := hid (f1.out.heapAt T9.out hnO)
                  unfold set5o at f1 O10 T10
                  clear x0 x1 x2 x3 x4 x5 x6 y0 y1 y2 y3 y4 y5 y6
                  generalize ((((World.setCell w9 _ _).setCell _ _).setCell _ _).setCell _ _).setCell _ _ = W10 at *
                  obtain ⟨⟨x0, x1, x2, x3, x4, x5, x6⟩, _⟩ := blk7 O10.out
                  obtain ⟨⟨k0, k1, k2, k3, k4, k5, k6⟩, z0, z1, z2, z3, z4, z5, z6⟩ := blk7 T10.out
                  go_region
                  all_goals
                    go_wp2_with fail
                    have HE2 := hid (rsel_end F8b.out HO9.out HR9.out HF9.out O9.out hOw T10.out (Nat.le_succ _) f1.out (set7_fr (S := fun k => k = w.heap.size + 1) rfl (.int .i64 (i : Int)) (.bool false) (.bool mw) (.int .i64 mv) (.bool mo) (.int .i64 mt) (.slice A9 n9 c9)))
                    exact fin47 (c := ⟨(i : Int), false, ⟨mw, mv, mo, mt, mk⟩⟩) rfl rfl rfl rfl ((Fr.refl (S := E0)).drew.heapAt (set7_heap T10.out _ _ _ _ _ _ _) (fun x => x)) ⟨_, _, rfl, HE2.out.1, HE2.out.2.1, HE2.out.2.2⟩
            · obtain rfl : k = cases.length := by omega
              have HNO := hid (show pickGo (chs ms) cases (ordN cases.length draws cases.length) = none by
                rw [← HPK.out, List.drop_eq_nil_of_le (by rw [ordN_len]; omega)]; rfl)
              have HG2 := hid (show selGo (chs ms) gs gg cases dft none = (l', r, err) by rw [← HNO.out]; exact HG.out)
              clear hlt hk
              obtain ⟨⟨k0, k1, k2, k3, k4, k5, k6⟩, z0, z1, z2, z3, z4, z5, z6⟩ := blk7 T5.out
              obtain ⟨⟨x0, x1, x2, x3, x4, x5, x6⟩, y0, y1, y2, y3, y4, y5, y6⟩ := blk7 X5.out
              cases dft with
              | true =>
                have hG3 : (chs ms, (⟨-1, true, {}⟩ : Cho), (0 : Int)) = (l', r, err) := HG2.out
                cases hG3
                go_wp2_with fail
                have X6 := hid (heap_setCell_same wr (w.heap.size + 2) 1 _ 47 (.bool true) X5.out)
                have T6 := hid (show (wr.setCell ⟨w.heap.size + 2, 1, none⟩ (.bool true)).heap[w.heap.size + 1]? = _ from (heap_setCell_other _ _ _ _ n1).trans T5.out)
                have F6 := hid (F5.out.setCell (p := ⟨w.heap.size + 2, 1, none⟩) (.bool true) (.inr (by show w.heap.size ≤ w.heap.size + 2; omega)))
                generalize wr.setCell _ _ = w6 at *
                clear x0 x1 x2 x3 x4 x5 x6 y0 y1 y2 y3 y4 y5 y6 k0 k1 k2 k3 k4 k5 k6 z0 z1 z2 z3 z4 z5 z6
                obtain ⟨⟨x0, x1, x2, x3, x4, x5, x6⟩, _⟩ := blk7 X6.out
                obtain ⟨⟨k0, k1, k2, k3, k4, k5, k6⟩, z0, z1, z2, z3, z4, z5, z6⟩ := blk7 T6.out
                go_region
                all_goals
                  go_wp2_with fail
                  exact fin47 (c := ⟨-1, true, {}⟩) rfl rfl rfl rfl ((Fr.refl (S := E0)).drew.heapAt (set7_heap T6.out _ _ _ _ _ _ _) (fun x => x)) ⟨_, _, rfl, .inl ⟨rfl, rfl⟩, RowF.nil, (fr_set7 F6.out (Nat.le_succ _) _ _ _ _ _ _ _).drew⟩
              | false =>
                have hG3 : (waitK (chs ms) gs gg cases cases.length, (⟨-1, false, { waits := true }⟩ : Cho), (0 : Int)) = (l', r, err) := HG2.out
                cases hG3
                clear x0 x1 x2 x3 x4 x5 x6 y0 y1 y2 y3 y4 y5 y6 k0 k1 k2 k3 k4 k5 k6 z0 z1 z2 z3 z4 z5 z6
                go_wp2_with fail
                go_loopw [0, 25] (fun v0 i wx => ∃ k : Nat, i = .int .i64 k ∧ k ≤ cases.length ∧ OutR w wx (.slice VA ms.length vc) (chs ms) (waitK (chs ms) gs gg cases k) v0 ∧ Fr E0 wr wx) (fun _ i _ => cases.length - (intOf i).toNat)
                case atStart => exact ⟨0, rfl, Nat.zero_le _, .inl ⟨rfl, rfl⟩, Fr.refl⟩
                case round =>
                  obtain ⟨k, rfl, hk, hout, hf⟩ := hrel
                  have HOUT := hid hout
                  have T6 := hid (hf.heapAt T5.out (fun x => x))
                  have G6 := hid (hf.heapAt G5.out (fun x => x))
                  have X6 := hid (hf.heapAt X5.out (fun x => x))
                  have F6 := hid (F5.out.trans hf)
                  have HF3 := hid hf
                  clear hf hout
                  by_cases hlt : k < cases.length
                  · obtain ⟨wo, hwo⟩ : ∃ wo : World, wo = wr := ⟨_, rfl⟩
                    subst hwo
                    obtain ⟨p, hp⟩ : ∃ p, cases[k]? = some p := ⟨_, List.getElem?_eq_getElem hlt⟩
                    obtain ⟨_, _, _, ev, _, _, _, rv⟩ := HC.out.fr F6.out
                    cases ev
                    obtain ⟨bv, bo, rfl, rv2⟩ := rv.at (fun e => by have := congrArg List.length e; rw [pks_len] at this; simp only [List.length_nil] at this; omega)
                    have HP := hid hp
                    have RV := hid rv2
                    obtain ⟨c0, c1, c2⟩ := pk_at rv2 hp
                    have hbv := World.block_lt_of_cell? wo _ c0
                    have hgl := heap_lt G6.out
                    have g0 := cell_of_row wo _ 0 _ _ _ G6.out
                    have g1 := cell_of_row wo _ 1 _ _ _ G6.out
                    clear rv rv2 hp
                    obtain ⟨ms1, hr1, hc1⟩ := HOUT.out.rd HV.out F6.out
                    have R1 := hid hr1
                    have C1 := hid hc1
                    have L1 := hid (show ms1.length ≤ 1024 by rw [← chs_len, hc1, waitK_len, chs_len]; exact hl)
                    have B1 := hid (show ∀ c ∈ chs ms1, BigC c by rw [hc1]; exact (ok_waitK HK.out gs gg cases k).big (by omega))
                    have FR := hid (Nat.le_refl wo.heap.size)
                    clear hr1 hc1
                    obtain ⟨sd, pc, pv⟩ := p
                    simp only at c0 c1 c2
                    cases sd with
                    | true =>
                      go_upto_region 35 with fail
                      have B6 := hid (heap_alloc_new wo (.cells #[.int .i64 gs, .int .i64 gg, .int .i64 (k : Int), .int .i64 pv] 114))
                      have FB := hid ((Fr.refl (S := E0) (w := wo)).alloc (.cells #[.int .i64 gs, .int .i64 gg, .int .i64 (k : Int), .int .i64 pv] 114))
                      have WS := hid (waitK_succ (l := chs ms) (gs := gs) (gg := gg) HP.out pv (fun _ => rfl))
                      simp only at WS
                      have WS2 := hid (show (waitL (chs ms1) pc ⟨gs, gg, (k : Int), pv⟩ true).1 = waitK (chs ms) gs gg cases (k + 1) by rw [C1.out]; exact WS.out)
                      generalize wo.alloc (.cells #[.int .i64 gs, .int .i64 gg, .int .i64 (k : Int), .int .i64 pv] 114) = w6 at *
                      have KC := hid (keepW (RV.out.fr FB.out (fun x => x)) HP.out B6.out)
                      have S0 := hid (KC.out _ (Fr.refl (S := E0)).drew)
                      clear c0 c1 c2 g0 g1
                      go_region_held3 (fun w' => Fr E0 w6 w' ∧ w'.cell? ⟨bv, bo + k * 3, none⟩ = some (.bool true) ∧ w'.cell? ⟨bv, bo + k * 3 + 1, none⟩ = some (.int .i64 pc) ∧ w'.cell? ⟨wo.heap.size, 0, none⟩ = some (.int .i64 gs) ∧ w'.cell? ⟨wo.heap.size, 1, none⟩ = some (.int .i64 gg) ∧ w'.cell? ⟨wo.heap.size, 2, none⟩ = some (.int .i64 (k : Int)) ∧ w'.cell? ⟨wo.heap.size, 3, none⟩ = some (.int .i64 pv))
                        (with_reducible first | exact S0.out | exact k1.out)
                        (first
                          | (go_at_call 63; ((with_reducible refine (rwait_any' (R1.out.fr (FB.out.trans (Fr.refl (S := E0)).drew)) L1.out B1.out pc gs gg (k : Int) pv true WS2.out).mono ?_); rintro e w7 ⟨v7, rfl, ho7, hf7⟩); simp only [tup2]; have f7 := hid ((Fr.refl (S := E0)).drew.trans hf7); have k1 := hid (KC.out _ f7.out); have O7 := hid ho7; have H7 := hid hf7; clear hf7 ho7))
                      all_goals
                        have FD := hid (FB.out.trans (Fr.refl (S := E0) (w := w6)).drew)
                        have ON := hid (show OutR w w7 (.slice VA ms.length vc) (chs ms) (waitK (chs ms) gs gg cases (k + 1)) v7 from (HOUT.out.e0 FD.out).trans (by rw [← C1.out]; exact O7.out) (F6.out.trans FD.out) H7.out)
                        go_wp2_with fail
                        go_roundw
                        case rel => exact ⟨k + 1, by simp, by omega, ON.out, HF3.out.trans (FD.out.trans H7.out)⟩
                        case measure => simp [intOf]; omega
                    | false =>
                      go_upto_region 35 with fail
                      have B6 := hid (heap_alloc_new wo (.cells #[.int .i64 gs, .int .i64 gg, .int .i64 (k : Int), .int .i64 0] 114))
                      have FB := hid ((Fr.refl (S := E0) (w := wo)).alloc (.cells #[.int .i64 gs, .int .i64 gg, .int .i64 (k : Int), .int .i64 0] 114))
                      have WS := hid (waitK_succ (l := chs ms) (gs := gs) (gg := gg) HP.out 0 (fun h => by simp at h))
                      simp only at WS
                      have WS2 := hid (show (waitL (chs ms1) pc ⟨gs, gg, (k : Int), 0⟩ false).1 = waitK (chs ms) gs gg cases (k + 1) by rw [C1.out]; exact WS.out)
                      generalize wo.alloc (.cells #[.int .i64 gs, .int .i64 gg, .int .i64 (k : Int), .int .i64 0] 114) = w6 at *
                      have KC := hid (keepW (RV.out.fr FB.out (fun x => x)) HP.out B6.out)
                      have S0 := hid (KC.out _ (Fr.refl (S := E0)).drew)
                      clear c0 c1 c2 g0 g1
                      go_region_held3 (fun w' => Fr E0 w6 w' ∧ w'.cell? ⟨bv, bo + k * 3, none⟩ = some (.bool false) ∧ w'.cell? ⟨bv, bo + k * 3 + 1, none⟩ = some (.int .i64 pc) ∧ w'.cell? ⟨wo.heap.size, 0, none⟩ = some (.int .i64 gs) ∧ w'.cell? ⟨wo.heap.size, 1, none⟩ = some (.int .i64 gg) ∧ w'.cell? ⟨wo.heap.size, 2, none⟩ = some (.int .i64 (k : Int)) ∧ w'.cell? ⟨wo.heap.size, 3, none⟩ = some (.int .i64 0))
                        (with_reducible first | exact S0.out | exact k1.out)
                        (first
                          | (go_at_call 63; ((with_reducible refine (rwait_any' (R1.out.fr (FB.out.trans (Fr.refl (S := E0)).drew)) L1.out B1.out pc gs gg (k : Int) 0 false WS2.out).mono ?_); rintro e w7 ⟨v7, rfl, ho7, hf7⟩); simp only [tup2]; have f7 := hid ((Fr.refl (S := E0)).drew.trans hf7); have k1 := hid (KC.out _ f7.out); have O7 := hid ho7; have H7 := hid hf7; clear hf7 ho7))
                      all_goals
                        have FD := hid (FB.out.trans (Fr.refl (S := E0) (w := w6)).drew)
                        have ON := hid (show OutR w w7 (.slice VA ms.length vc) (chs ms) (waitK (chs ms) gs gg cases (k + 1)) v7 from (HOUT.out.e0 FD.out).trans (by rw [← C1.out]; exact O7.out) (F6.out.trans FD.out) H7.out)
                        go_wp2_with fail
                        go_roundw
                        case rel => exact ⟨k + 1, by simp, by omega, ON.out, HF3.out.trans (FD.out.trans H7.out)⟩
                        case measure => simp [intOf]; omega
                  · obtain rfl : k = cases.length := by omega
                    clear hlt hk
                    obtain ⟨⟨x0, x1, x2, x3, x4, x5, x6⟩, y0, y1, y2, y3, y4, y5, y6⟩ := blk7 X6.out
                    go_wp2_with fail
                    have X7 := hid (heap_setCell_same wr (w.heap.size + 2) 2 _ 47 (.bool true) X6.out)
                    have fs := hid ((Fr.refl (S := fun q => q = w.heap.size + 2) (w := wr)).setCell (p := ⟨w.heap.size + 2, 2, none⟩) (.bool true) (.inl rfl))
                    have T7 := hid (fs.out.heapAt T6.out n1)
                    have O7 := hid (HOUT.out.fr1 fs.out X6.out (by decide) (by decide) (by decide))
                    have F7 := hid (F6.out.trans' fs.out (fun q hq => .inr (by subst hq; omega)))
                    generalize wr.setCell _ _ = w7 at *
                    clear x0 x1 x2 x3 x4 x5 x6 y0 y1 y2 y3 y4 y5 y6
                    obtain ⟨⟨x0, x1, x2, x3, x4, x5, x6⟩, _⟩ := blk7 X7.out
                    obtain ⟨⟨k0, k1, k2, k3, k4, k5, k6⟩, z0, z1, z2, z3, z4, z5, z6⟩ := blk7 T7.out
                    go_region
                    all_goals
                      go_wp2_with fail
                      have f9 := hid (set7_fr (S := fun q => q = w.heap.size + 1) (w := w7) rfl (.int .i64 (-1)) (.bool false) (.bool true) (.int .i64 0) (.bool false) (.int .i64 0) (.slice none 0 0))
                      exact fin47 (c := ⟨-1, false, { waits := true }⟩) rfl rfl rfl rfl ((Fr.refl (S := E0)).drew.heapAt (set7_heap T7.out _ _ _ _ _ _ _) (fun x => x)) ⟨_, _, rfl, (O7.out.fr1 f9.out T7.out (by decide) (by decide) (by decide)).e0 (Fr.refl (S := E0)).drew, RowF.nil, (fr_set7 F7.out (Nat.le_succ _) _ _ _ _ _ _ _).drew⟩
  · have e1 : selL (chs ms) gs gg cases dft draws = (chs ms, ⟨-1, false, {}⟩, (orderL cases.length draws).2) := by unfold selL; rw [if_pos he]
    have e2 := e1.symm.trans HS.out
    cases e2
    clear e1 hrow
    have hz : (((orderL cases.length draws).2 == 0) : Bool) = false := by simpa using he
    generalize (orderL cases.length draws).2 = er at *
    obtain ⟨⟨k0, k1, k2, k3, k4, k5, k6⟩, z0, z1, z2, z3, z4, z5, z6⟩ := blk7 T2.out
    obtain ⟨⟨x0, x1, x2, x3, x4, x5, x6⟩, _⟩ := blk7 X2.out
    clear he
    go_wp2_with fail
    go_region
    all_goals
      go_wp2_with fail
      exact fin47 (c := ⟨-1, false, {}⟩) rfl rfl rfl rfl ((Fr.refl (S := E0)).drew.heapAt (set7_heap T2.out _ _ _ _ _ _ _) (fun x => x)) ⟨_, _, rfl, .inl ⟨rfl, rfl⟩, RowF.nil, (fr_set7 F2.out (Nat.le_succ _) _ _ _ _ _ _ _).drew⟩
end Go.Proofs.Yteffmnohgnmanaa
/- Close and Make of the document in one contract each; how an act ends. -/
namespace Go.Proofs.Yteffmnohgnmanaa
open Go.RowKit
set_option linter.unusedVariables false
theorem rclose_all {w : World} {v : Value} {ms : List CM} (hv : RdCs w v ms) (hn : ms.length ≤ 1024) (hbig : ∀ c ∈ chs ms, BigC c) (ch : Int) :
    Calls Try.prog 61 #[v, .int .i64 ch] w (RMvPost1 w v (chs ms) (closeL (chs ms) ch).1 (closeL (chs ms) ch).2) := by
  rcases handle ms ch with ho | rfl | ⟨k, m, rfl, hk⟩
  · have e : closeL (chs ms) ch = (chs ms, { trap := 4 }) := by unfold closeL; rw [trapC_out (by rw [chs_len]; exact ho)]; simp
    rw [e]; exact rclose_out hv ch (by omega) (isB_out ho)
  · have e : closeL (chs ms) 0 = (chs ms, { trap := 8 }) := by unfold closeL; rw [trapC_zero, getC_zero]; simp
    rw [e]; exact rclose_nil hv
  · have hg := getC_in (chs_get hk)
    have ht := trapC_in (chs_get hk)
    have hK := chs_get hk
    revert hK hg
    generalize hmc : m.ch = c0
    obtain ⟨cap, vals, snd, rcv, cl⟩ := c0
    intro hg hK
    cases cl with
    | true =>
      have e : closeL (chs ms) ((k : Int) + 1) = (chs ms, { trap := 7 }) := by unfold closeL; rw [ht, hg]; simp
      rw [e]; exact rclose_closed hv hn hK
    | false =>
      obtain ⟨la, ka, hla⟩ : ∃ la ka, wakeR ((chs ms).set k ⟨cap, vals, snd, rcv, true⟩) k [] = (la, ka) := ⟨_, _, rfl⟩
      obtain ⟨lb, kb, hlb⟩ : ∃ lb kb, wakeS la k ka = (lb, kb) := ⟨_, _, rfl⟩
      have e : closeL (chs ms) ((k : Int) + 1) = (lb, { woken := kb }) := by
        unfold closeL; rw [ht, hg]
        simp only [setK_k]
        simp [hla, hlb]
      rw [e]; exact rclose_go hv hn hbig hK _ rfl la ka hla lb kb hlb
/-- What Make answers: its handle, and the trap. -/
def makeN (l : List Ch) (c : Int) : Int := if makeNo l c then 0 else l.length + 1
def makeT (l : List Ch) (c : Int) : Int := if makeNo l c then 5 else 0
def makeL (l : List Ch) (c : Int) : List Ch := if makeNo l c then l else l ++ [newCh c]
theorem rmake_all {w : World} {v : Value} {ms : List CM} (hv : RdCs w v ms) (hn : ms.length ≤ 1024) (hbig : ∀ c ∈ chs ms, BigC c) (c : Int) :
    Calls Try.prog 60 #[v, .int .i64 c] w (RMakePost w v (chs ms) (makeL (chs ms) c) (makeN (chs ms) c) (makeT (chs ms) c)) := by
  unfold makeL makeN makeT
  cases hno : makeNo (chs ms) c with
  | true => exact rmake_no hv hn c hno
  | false =>
    have := rmake_ok hv hn hbig c hno
    rw [← chs_len ms] at this
    exact this
def MakeAPost (F : Nat → Prop) (g : Nat) (l' : List Ch) (n t : Int) (w : World) (e : Ending) (w' : World) : Prop := e = .returned (tup2 (.int .i64 n) (.int .i64 t)) ∧ Step F g w l' w'
theorem make_any {w : World} {F : Nat → Prop} {g N : Nat} {l : List Ch} (h : IsCh w F g l) (hok : Ok N l) (c : Int) :
    Calls Try.prog 22 #[.pointer (some ⟨g, 0, none⟩), .int .i64 c] w (MakeAPost F g (makeL l c) (makeN l c) (makeT l c) w) := by
  unfold makeL makeN makeT
  cases hno : makeNo l c with
  | true => exact (make_all_no h hok c hno).mono fun e w' ⟨h1, h2⟩ => by subst h2; exact ⟨h1, Step.same h Fr.refl⟩
  | false => exact (make_all h hok c hno).mono fun e w' h => h
theorem does_end {w W w1 w2 : World} {F G F' G' : Nat → Prop} {g : Nat} {l' : List Ch} {v' : Value} (FA : Fr E0 w W) (hf1 : Fr E0 W w1) (hG : ∀ k, G' k → G k ∨ W.heap.size ≤ k) (hF : ∀ k, F' k → F k ∨ w1.heap.size ≤ k) (hf2 : Fr F w1 w2) (T3 : Both w2 F' G' g l' v' l') :
    DoesPost F G g l' w (.returned (.tuple #[v', .bool true])) w2 := by
  have h1 := FA.size
  have h2 := hf1.size
  refine ⟨v', F', G', rfl, T3, fun k hk => ?_, fun k hk => ?_, (FA.e0.trans hf1.e0).trans hf2⟩
  · rcases hF k hk with h | h
    · exact .inl h
    · exact .inr (by omega)
  · rcases hG k hk with h | h
    · exact .inl h
    · exact .inr (by omega)
/-- Where the program wrote nothing. -/
theorem does_end0 {w w2 : World} {F G G' : Nat → Prop} {g : Nat} {l' : List Ch} {v' : Value} (hf : Fr E0 w w2) (hG : ∀ k, G' k → G k ∨ w.heap.size ≤ k) (T3 : Both w2 F G' g l' v' l') : DoesPost F G g l' w (.returned (.tuple #[v', .bool true])) w2 :=
  ⟨v', F, G', rfl, T3, fun k hk => .inl hk, hG, hf.e0⟩
theorem RowF.rd {w : World} {F : Nat → Prop} {e sz n : Nat} {v : Value} {xs : List Value} (hsz : 0 < sz) (h : RowF w F e sz v xs) (hn : xs.length = n * sz) : RdV w v sz xs := CM.Own.rdv hsz h hn
end Go.Proofs.Yteffmnohgnmanaa
