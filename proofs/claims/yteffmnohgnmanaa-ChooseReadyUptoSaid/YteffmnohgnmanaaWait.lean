/- (*Chans).Wait: a theorem for each way. Printed by wip/gen/wait.py. -/
import Derived.Test.YteffmnohgnmanaaRecv
namespace Go.Proofs.Yteffmnohgnmanaa
open Go.RowKit
set_option linter.unusedVariables false
attribute [local go_sem ↓] Go.wp_at_zero Go.wp_at_succ
def WaitPost (F : Nat → Prop) (g : Nat) (w : World) (l' : List Ch) (t : Int) (e : Ending) (w' : World) : Prop := e = .returned (.int .i64 t) ∧ Step F g w l' w'
theorem wait_none (ch : Int) (x : Wt) (send : Bool) (w : World) : Calls Try.prog 59 #[.pointer none, .int .i64 ch, x.val, .bool send] w (Ret (.int .i64 4) E0 w) := by
  obtain ⟨s, gn, c, xv⟩ := x
  simp only [Wt.val]
  go_enter Try.func59, Try.ntmps59
  go_wp2_with (go_at_call 54; refine (at_none ch _).mono ?_; rintro e w1 ⟨rfl, rfl⟩; simp only [tup2])
  go_ret
  exact ⟨rfl, Fr.refl.alloc _⟩
theorem step_alloc {w W : World} {F : Nat → Prop} {g : Nat} {v : Value} {ms : List CM} (h : Chs w F g v ms) (h1 : Fr E0 w W) : Step F g w (chs ms) W := ⟨F, (h.fr h1 (fun _ _ x => x)).isCh, fun k hk => .inl hk, h1.e0⟩
theorem Step2.mono {w W w2 : World} {F : Nat → Prop} {g : Nat} {l : List Ch} (h : Step2 F g W l w2) (h1 : Fr E0 w W) : Step F g w l w2 := by
  obtain ⟨F', i1, i2, i3⟩ := h
  refine ⟨F', i1, fun q hq => ?_, (h1.e0 (S := F)).trans i3⟩
  have := h1.size
  rcases i2 q hq with hq | hq
  · exact .inl hq
  · exact .inr (by omega)
set_option maxHeartbeats 4000000 in
theorem wait_out {w : World} {F : Nat → Prop} {g : Nat} {v0 : Value} {ms : List CM} (h : Chs w F g v0 ms) (x : Wt) (ch : Int) (send : Bool) (hch : ch < 0 ∨ (ms.length : Int) < ch) :
    Calls Try.prog 59 #[.pointer (some ⟨g, 0, none⟩), .int .i64 ch, x.val, .bool send] w (WaitPost F g w (chs ms) 4) := by
  obtain ⟨s, gn, c, xv⟩ := x
  have H := hid h
  clear h
  simp only [Wt.val]
  go_enter Try.func59, Try.ntmps59
  go_wp2_with fail
  generalize hW : (w.alloc (Obj.cells #[Value.int IntKind.i64 s, Value.int IntKind.i64 gn, Value.int IntKind.i64 c, Value.int IntKind.i64 xv] 114)) = W
  have FA := hid (show Fr E0 w W by rw [← hW]; exact Fr.refl.alloc _)
  have G1 := hid (show W.heap[w.heap.size]? = some (.cells #[Value.int IntKind.i64 s, Value.int IntKind.i64 gn, Value.int IntKind.i64 c, Value.int IntKind.i64 xv] 114 (0, 0)) by rw [← hW]; exact heap_alloc_new w _)
  clear hW
  obtain ⟨A, cp, hv, hrd⟩ := (atW H.out FA.out).rd
  have RD := hid hrd
  have HC := hid hch; clear hch hrd
  refine (at_out RD.out ch HC.out).mono ?_
  rintro e w2 ⟨rfl, rfl⟩
  simp only [tup2]
  go_wp2_with fail
  go_ret
  exact ⟨rfl, step_alloc H.out FA.out⟩
set_option maxHeartbeats 4000000 in
theorem wait_nil {w : World} {F : Nat → Prop} {g : Nat} {v0 : Value} {ms : List CM} (h : Chs w F g v0 ms) (x : Wt) (send : Bool) :
    Calls Try.prog 59 #[.pointer (some ⟨g, 0, none⟩), .int .i64 0, x.val, .bool send] w (WaitPost F g w (chs ms) 0) := by
  obtain ⟨s, gn, c, xv⟩ := x
  have H := hid h
  clear h
  simp only [Wt.val]
  go_enter Try.func59, Try.ntmps59
  go_wp2_with fail
  generalize hW : (w.alloc (Obj.cells #[Value.int IntKind.i64 s, Value.int IntKind.i64 gn, Value.int IntKind.i64 c, Value.int IntKind.i64 xv] 114)) = W
  have FA := hid (show Fr E0 w W by rw [← hW]; exact Fr.refl.alloc _)
  have G1 := hid (show W.heap[w.heap.size]? = some (.cells #[Value.int IntKind.i64 s, Value.int IntKind.i64 gn, Value.int IntKind.i64 c, Value.int IntKind.i64 xv] 114 (0, 0)) by rw [← hW]; exact heap_alloc_new w _)
  clear hW
  obtain ⟨A, cp, hv, hrd⟩ := (atW H.out FA.out).rd
  have RD := hid hrd
  clear hrd
  refine (at_zero RD.out).mono ?_
  rintro e w2 ⟨rfl, rfl⟩
  simp only [tup2]
  go_wp2_with fail
  go_ret
  exact ⟨rfl, step_alloc H.out FA.out⟩
set_option maxHeartbeats 4000000 in
theorem wait_sends {w : World} {F : Nat → Prop} {g : Nat} {v0 : Value} {ms : List CM} (h : Chs w F g v0 ms) (x : Wt) {k : Nat} {m : CM} (hk : ms[k]? = some m) (hroom : (m.ch.snd.length + 1) * 32 ≤ 140737488355328) :
    Calls Try.prog 59 #[.pointer (some ⟨g, 0, none⟩), .int .i64 ((k : Int) + 1), x.val, .bool true] w (WaitPost F g w ((chs ms).set k { m.ch with snd := m.ch.snd ++ [x] }) 0) := by
  obtain ⟨s, gn, c, xv⟩ := x
  have H := hid h
  clear h
  simp only [Wt.val]
  go_enter Try.func59, Try.ntmps59
  go_wp2_with fail
  generalize hW : (w.alloc (Obj.cells #[Value.int IntKind.i64 s, Value.int IntKind.i64 gn, Value.int IntKind.i64 c, Value.int IntKind.i64 xv] 114)) = W
  have FA := hid (show Fr E0 w W by rw [← hW]; exact Fr.refl.alloc _)
  have G1 := hid (show W.heap[w.heap.size]? = some (.cells #[Value.int IntKind.i64 s, Value.int IntKind.i64 gn, Value.int IntKind.i64 c, Value.int IntKind.i64 xv] 114 (0, 0)) by rw [← hW]; exact heap_alloc_new w _)
  clear hW
  obtain ⟨L, cp, hv, hFL, _⟩ := H.out.at hk
  subst hv
  have RD := hid (atW H.out FA.out).rdAt
  have C1 := hid (atW H.out FA.out)
  obtain ⟨_, _, e0, _, c0, c1, c2, c3, c4, hfz⟩ := C1.out.at hk
  cases e0
  have HFZ := hid hfz
  have hlk := lt_of_get hk
  have HK := hid hk
  have O1 := hid (C1.out.own.each m (List.mem_of_getElem? hk))
  clear hk hfz
  refine (at_in RD.out k hlk).mono ?_
  rintro e w2 ⟨rfl, rfl⟩
  simp only [tup2, Nat.zero_add]
  obtain ⟨A2, n2', e2, _, hm2, _⟩ := O1.out.snd.read (by decide) (wts_len _)
  rw [e2] at c2
  have E2 := hid e2
  have hf1 := HFZ.out (k * 5 + 2)
  have hgw : ¬ F w.heap.size := fun hx => Nat.lt_irrefl _ (H.out.lt _ hx)
  obtain ⟨y0, y1, y2, y3⟩ := cell4 G1.out
  obtain ⟨i0, hi0, hz0, hz1, hz2⟩ := info_parts info114
  have CA := hid (C1.out.fr (Fr.refl (S := E0) |>.alloc (.cells #[.int .i64 s, .int .i64 gn, .int .i64 c, .int .i64 xv] 114)) (fun _ _ x => x))
  have OA := hid (CA.out.own.each m (List.mem_of_getElem? HK.out))
  have hown0 := hid (show World.ownsRow (World.alloc W (.cells #[.int .i64 s, .int .i64 gn, .int .i64 c, .int .i64 xv] 114)) 0 114 4 (.slice A2 m.ch.snd.length n2') m.ch.snd.length (wts m.ch.snd) by rw [← E2.out]; exact OA.out.snd.own (by decide) (wts_len _))
  have hnL : (Value.slice A2 m.ch.snd.length n2').ownBlock ≠ some L := fun hx => C1.out.own.row.ne_type O1.out.snd (by decide) rfl (by rw [E2.out]; exact hx)
  have hLl : L < (World.heap W).size := C1.out.lt L hFL
  clear e2 hgw
  go_wp2_with fail
  go_region_law (refine step_append_lies _ (by rfl) (.tmp 38) (.tmp 40) 65 (by rfl) 0 114 i0 (.agg #[.int .i64 0, .int .i64 0, .int .i64 0, .int .i64 0]) 4 32 Try.underlying65 hi0 hz0 hz1 hz2 rfl (by decide) (.slice A2 m.ch.snd.length n2') m.ch.snd.length (wts m.ch.snd) (by rfl) hown0.out ⟨(World.heap W).size, 0, none⟩ 1 1 [.int .i64 s, .int .i64 gn, .int .i64 c, .int .i64 xv] (by rfl) (by rfl) (news1 _ _) (by simp [Value.oneCell']) (by decide) (by unfold maxLen; omega) (by omega) (Nat.zero_le _) ((World.heap W).size + 1) (by simp) ?_; intro gb cap w3 hown3 hgrow3 hat3 hlt3; have x1 : w3.cell? ⟨L, k * 5 + 2, none⟩ = some (.slice A2 m.ch.snd.length n2') := hgrow3.cell (cellA hLl c2) (fun e => hnL e.symm); have x2 : w3.frozen? ⟨L, k * 5 + 2, none⟩ = false := (by rw [hgrow3.frozen_far _ (Nat.lt_of_lt_of_le hLl (by simp)) (fun e => hnL e.symm)]; exact frozenA hLl hf1); have HN := hid (And.intro hown3 (And.intro hgrow3 (And.intro hat3 hlt3))); clear hown3 hgrow3 hat3 hlt3)
  all_goals
    have ST := hid (appendS (m := m) (l' := m.ch.snd ++ [⟨s, gn, c, xv⟩]) CA.out HK.out hFL (by rw [wts_app]; exact HN.out.1) (by rw [E2.out]; exact undrew HN.out.2.1) (by rw [E2.out]; simpa using HN.out.2.2.1) HN.out.2.2.2)
    go_wp2_with fail
    go_ret
    exact ⟨rfl, ST.out.mono (FA.out.trans (Fr.refl.alloc _))⟩
set_option maxHeartbeats 4000000 in
theorem wait_recvs {w : World} {F : Nat → Prop} {g : Nat} {v0 : Value} {ms : List CM} (h : Chs w F g v0 ms) (x : Wt) {k : Nat} {m : CM} (hk : ms[k]? = some m) (hroom : (m.ch.rcv.length + 1) * 32 ≤ 140737488355328) :
    Calls Try.prog 59 #[.pointer (some ⟨g, 0, none⟩), .int .i64 ((k : Int) + 1), x.val, .bool false] w (WaitPost F g w ((chs ms).set k { m.ch with rcv := m.ch.rcv ++ [{ x with v := 0 }] }) 0) := by
  obtain ⟨s, gn, c, xv⟩ := x
  have H := hid h
  clear h
  simp only [Wt.val]
  go_enter Try.func59, Try.ntmps59
  go_wp2_with fail
  generalize hW : (w.alloc (Obj.cells #[Value.int IntKind.i64 s, Value.int IntKind.i64 gn, Value.int IntKind.i64 c, Value.int IntKind.i64 xv] 114)) = W
  have FA := hid (show Fr E0 w W by rw [← hW]; exact Fr.refl.alloc _)
  have G1 := hid (show W.heap[w.heap.size]? = some (.cells #[Value.int IntKind.i64 s, Value.int IntKind.i64 gn, Value.int IntKind.i64 c, Value.int IntKind.i64 xv] 114 (0, 0)) by rw [← hW]; exact heap_alloc_new w _)
  clear hW
  obtain ⟨L, cp, hv, hFL, _⟩ := H.out.at hk
  subst hv
  have RD := hid (atW H.out FA.out).rdAt
  have C1 := hid (atW H.out FA.out)
  obtain ⟨_, _, e0, _, c0, c1, c2, c3, c4, hfz⟩ := C1.out.at hk
  cases e0
  have HFZ := hid hfz
  have hlk := lt_of_get hk
  have HK := hid hk
  have O1 := hid (C1.out.own.each m (List.mem_of_getElem? hk))
  clear hk hfz
  refine (at_in RD.out k hlk).mono ?_
  rintro e w2 ⟨rfl, rfl⟩
  simp only [tup2, Nat.zero_add]
  obtain ⟨A2, n2', e2, _, hm2, _⟩ := O1.out.rcv.read (by decide) (wts_len _)
  rw [e2] at c3
  have E2 := hid e2
  have hf1 := HFZ.out (k * 5 + 3)
  have hgw : ¬ F w.heap.size := fun hx => Nat.lt_irrefl _ (H.out.lt _ hx)
  have HGW := hid hgw
  have hLw : L < w.heap.size := H.out.lt L hFL
  have G2 := hid (heap_setCell_same W w.heap.size 3 _ _ (.int .i64 0) G1.out)
  have FS := hid (Fr.refl (S := fun q => q = w.heap.size) (w := W) |>.setCell (p := ⟨w.heap.size, 3, none⟩) (.int .i64 0) (.inl rfl))
  obtain ⟨y0, y1, y2, y3⟩ := cell4 G1.out
  have y4 : W.frozen? ⟨w.heap.size, 3, none⟩ = false := frozen_of_row W _ 3 _ _ G1.out
  go_wp2_with fail
  generalize hW2 : World.setCell W ⟨w.heap.size, 3, none⟩ (.int .i64 0) = W2 at *
  have F2 := hid (FA.out.trans' FS.out (fun q hq => .inr (by omega)) (S := E0))
  have C2 := hid (H.out.fr F2.out (fun _ _ x => x))
  clear y0 y1 y2 y3 y4 c0 c1 c2 c3 c4
  obtain ⟨y0, y1, y2, y3⟩ := cell4 G2.out
  obtain ⟨L', cp', e0, _, c0, c1, c2, c3, c4, hfz⟩ := C2.out.at HK.out
  have ea : L = L' := by injection e0 with ea; injection ea with ea; injection ea with ea
  subst ea
  clear e0 hf1
  have hf1 := hfz (k * 5 + 3)
  rw [E2.out] at c3
  clear hfz
  obtain ⟨i0, hi0, hz0, hz1, hz2⟩ := info_parts info114
  have CA := hid (C2.out.fr (Fr.refl (S := E0) |>.alloc (.cells #[.int .i64 s, .int .i64 gn, .int .i64 c, .int .i64 0] 114)) (fun _ _ x => x))
  have OA := hid (CA.out.own.each m (List.mem_of_getElem? HK.out))
  have hown0 := hid (show World.ownsRow (World.alloc W2 (.cells #[.int .i64 s, .int .i64 gn, .int .i64 c, .int .i64 0] 114)) 0 114 4 (.slice A2 m.ch.rcv.length n2') m.ch.rcv.length (wts m.ch.rcv) by rw [← E2.out]; exact OA.out.rcv.own (by decide) (wts_len _))
  have hnL : (Value.slice A2 m.ch.rcv.length n2').ownBlock ≠ some L := fun hx => C1.out.own.row.ne_type O1.out.rcv (by decide) rfl (by rw [E2.out]; exact hx)
  have hLl : L < (World.heap W2).size := C2.out.lt L hFL
  clear e2 hgw
  go_wp2_with fail
  go_region_law (refine step_append_lies _ (by rfl) (.tmp 22) (.tmp 24) 65 (by rfl) 0 114 i0 (.agg #[.int .i64 0, .int .i64 0, .int .i64 0, .int .i64 0]) 4 32 Try.underlying65 hi0 hz0 hz1 hz2 rfl (by decide) (.slice A2 m.ch.rcv.length n2') m.ch.rcv.length (wts m.ch.rcv) (by rfl) hown0.out ⟨(World.heap W2).size, 0, none⟩ 1 1 [.int .i64 s, .int .i64 gn, .int .i64 c, .int .i64 0] (by rfl) (by rfl) (news1 _ _) (by simp [Value.oneCell']) (by decide) (by unfold maxLen; omega) (by omega) (Nat.zero_le _) ((World.heap W2).size + 1) (by simp) ?_; intro gb cap w3 hown3 hgrow3 hat3 hlt3; have x1 : w3.cell? ⟨L, k * 5 + 3, none⟩ = some (.slice A2 m.ch.rcv.length n2') := hgrow3.cell (cellA hLl c3) (fun e => hnL e.symm); have x2 : w3.frozen? ⟨L, k * 5 + 3, none⟩ = false := (by rw [hgrow3.frozen_far _ (Nat.lt_of_lt_of_le hLl (by simp)) (fun e => hnL e.symm)]; exact frozenA hLl hf1); have HN := hid (And.intro hown3 (And.intro hgrow3 (And.intro hat3 hlt3))); clear hown3 hgrow3 hat3 hlt3)
  all_goals
    have ST := hid (appendR (m := m) (l' := m.ch.rcv ++ [⟨s, gn, c, 0⟩]) CA.out HK.out hFL (by rw [wts_app]; exact HN.out.1) (by rw [E2.out]; exact undrew HN.out.2.1) (by rw [E2.out]; simpa using HN.out.2.2.1) HN.out.2.2.2)
    go_wp2_with fail
    go_ret
    exact ⟨rfl, ST.out.mono (F2.out.trans (Fr.refl.alloc _))⟩
end Go.Proofs.Yteffmnohgnmanaa
