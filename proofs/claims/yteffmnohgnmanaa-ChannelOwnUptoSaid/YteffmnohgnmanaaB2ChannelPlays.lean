/- Send, Del, Recv, Wait, Close, Close2, Ops, Lives, Ref0, Ref1, Ref2: merged by wip/gen/merge.py for the claim of ChannelPlays. -/
import Derived.Deep.RegionLaw
import Derived.BigRegion
import Derived.Test.YteffmnohgnmanaaProg
import Derived.Deep.LoopGhost
import Derived.Deep.CutRange
import Derived.Test.YteffmnohgnmanaaB1ChannelPlays
/- (*Chans).Send: a theorem for each way. Printed by wip/gen/send.py. -/
namespace Go.Proofs.Yteffmnohgnmanaa
open Go.RowKit
set_option linter.unusedVariables false
attribute [local go_sem ↓] Go.wp_at_zero Go.wp_at_succ
theorem atW {w W : World} {F : Nat → Prop} {g : Nat} {v : Value} {ms : List CM} (h : Chs w F g v ms) (hf : Fr E0 w W) : Chs W F g v ms := h.fr hf (fun _ _ x => x)
/-- Where nothing of the channels is turned. -/
theorem step_same {w W w2 : World} {F : Nat → Prop} {g B : Nat} {v : Value} {ms : List CM} (h : Chs w F g v ms) (hB : w.heap.size ≤ B) (h1 : Fr E0 w W) (h3 : Fr (fun k => k = B) W w2) : Step F g w (chs ms) w2 :=
  ⟨F, (IsCh.fr (h.fr h1 (fun _ _ x => x)).isCh h3 (fun k hk e => by have := h.lt k hk; omega)), fun k hk => .inl hk, (h1.e0 (S := F)).trans' h3 (fun i hi => .inr (by omega))⟩
theorem fin23 {a : Act} {W : World} {R : Nat} {Q : Ending → World → Prop} {m : Mv} {wv : Value} {err : Int} (hd : a.defers = []) (h8 : a.tmps.getD 8 undef = .pointer (some ⟨R, 0, none⟩)) (h9 : a.tmps.getD 9 undef = .int .i64 err)
    (hR : W.heap[R]? = some (.cells #[.bool m.waits, .int .i64 m.value, .bool m.ok, .int .i64 m.trap, wv] 32 (0, 0))) (hQ : Q (.returned (tup2 (m.val wv) (.int .i64 err))) W) : bodyPost Try.prog Try.f23 Q .ret a W := by
  obtain ⟨⟨k0, k1, k2, k3, k4⟩, _⟩ := blk5 hR
  have h8' : a.tmps[8]?.getD undef = .pointer (some ⟨R, 0, none⟩) := by simpa using h8
  have h9' : a.tmps[9]?.getD undef = .int .i64 err := by simpa using h9
  exact bodyPost_ret (v := tup2 (m.val wv) (.int .i64 err)) (by simp [results, Try.results23, go_sem, h8', h9', k0, k1, k2, k3, k4, tup2, Mv.val]) hd hQ
theorem Chs.at {w : World} {F : Nat → Prop} {g k : Nat} {v : Value} {ms : List CM} {m : CM} (h : Chs w F g v ms) (hk : ms[k]? = some m) : ∃ L cp, v = .slice (some ⟨L, 0, none⟩) ms.length cp ∧ F L ∧
    w.cell? ⟨L, k * 5, none⟩ = some (.int .i64 m.ch.cap) ∧ w.cell? ⟨L, k * 5 + 1, none⟩ = some m.vv ∧ w.cell? ⟨L, k * 5 + 2, none⟩ = some m.sv ∧ w.cell? ⟨L, k * 5 + 3, none⟩ = some m.rv ∧ w.cell? ⟨L, k * 5 + 4, none⟩ = some (.bool m.ch.cl) ∧ (∀ j, w.frozen? ⟨L, j, none⟩ = false) := by
  have hlt := lt_of_get hk
  rcases h.own.row.form (by decide) (cms_len ms) with ⟨_, h0, _⟩ | ⟨L, c, rfl, hF, _, _, _, hr, hfz⟩
  · omega
  obtain ⟨g0, g1, g2, g3, g4⟩ := hr.cm hk
  simp only [Nat.zero_add] at g0 g1 g2 g3 g4
  exact ⟨L, c, rfl, hF, g0, g1, g2, g3, g4, hfz⟩
theorem Chs.rdAt {w : World} {F : Nat → Prop} {g L n c : Nat} {ms : List CM} (h : Chs w F g (.slice (some ⟨L, 0, none⟩) n c) ms) : RdCh w g (some ⟨L, 0, none⟩) c ms := by
  obtain ⟨A, c', hv, hr⟩ := h.rd
  cases hv; exact hr
/-- The woken, made anew. -/
theorem rowNew (w2 w : World) (hs : w.heap.size ≤ w2.heap.size) (l : List Wk) (hl : l.length ≤ maxLen) (cs : Array Value) (hcs : cs.toList = wks l) : RowF (w2.alloc (.cells cs 39)) (New w) 39 6 (.slice (some ⟨w2.heap.size, 0, none⟩) l.length l.length) (wks l) := by
  have hsz : cs.size = l.length * 6 := by rw [← wks_len, ← hcs]; simp
  refine ⟨⟨l.length, wks_len l, .inr ⟨w2.heap.size, l.length, cs, rfl, Nat.zero_le _, heap_alloc_new w2 _, Nat.le_refl _, hl, hsz, ?_⟩⟩, fun g hg => by simp [Value.ownBlock] at hg; subst hg; exact hs⟩
  rw [← hsz, ← hcs, List.take_of_length_le (by simp)]
theorem ints_app (l : List Int) (v : Int) : ints (l ++ [v]) = ints l ++ [.int .i64 v] := by simp [ints]
theorem wts_app (l : List Wt) (x : Wt) : wts (l ++ [x]) = wts l ++ x.cells := by simp [wts]
theorem cell2 {w : World} {B : Nat} {x0 x1 : Value} {t : TypeId} (h : w.heap[B]? = some (.cells #[x0, x1] t (0, 0))) :
    w.cell? ⟨B, 0, none⟩ = some x0 ∧ w.cell? ⟨B, 1, none⟩ = some x1 ∧ w.frozen? ⟨B, 0, none⟩ = false ∧ w.frozen? ⟨B, 1, none⟩ = false :=
  ⟨cell_of_row w _ 0 _ _ _ h, cell_of_row w _ 1 _ _ _ h, frozen_of_row w _ 0 _ _ h, frozen_of_row w _ 1 _ _ h⟩
theorem cellA {W : World} {o : Obj} {b j : Nat} {v : Value} (hl : b < W.heap.size) (h : W.cell? ⟨b, j, none⟩ = some v) : (W.alloc o).drew.cell? ⟨b, j, none⟩ = some v := by
  show (W.alloc o).cell? _ = _; rw [World.cell?_alloc_past _ _ _ hl]; exact h
theorem frozenA {W : World} {o : Obj} {b j : Nat} {v : Bool} (hl : b < W.heap.size) (h : W.frozen? ⟨b, j, none⟩ = v) : (W.alloc o).drew.frozen? ⟨b, j, none⟩ = v := by
  show (W.alloc o).frozen? _ = _; rw [World.frozen?_alloc_past _ _ _ hl]; exact h
theorem undrew {W w : World} {r : Option Nat} (h : W.drew.grownBy w r) : W.grownBy w r := ⟨h.os, h.tape, h.output, h.size, h.block⟩
theorem getW {ms : List CM} {k : Nat} {m : CM} (hk : ms[k]? = some m) : getC (chs ms) ((k : Int) + 1) = some m.ch := getC_in (chs_get hk)
set_option maxHeartbeats 2000000 in
theorem send_waits {w : World} {F : Nat → Prop} {g : Nat} {v0 : Value} {ms : List CM} (h : Chs w F g v0 ms) (gs gg v : Int) (hn : ms.length ≤ 1024) (hfit : ∀ m ∈ ms, m.ch.Fit) (hw : waitsL gs gg (chs ms) = true) (ch : Int) :
    Calls Try.prog 23 #[.pointer (some ⟨g, 0, none⟩), .int .i64 ch, .agg #[.int .i64 gs, .int .i64 gg], .int .i64 v] w (MvPost F g w (chs ms) {} 111) := by
  have H := hid h
  have hm := h.made
  have hgl := h.lt g h.mine
  have HW := hid hw
  clear h hw
  go_enter Try.func23, Try.ntmps23
  go_wp2_with (go_at_call 53; refine (is_made (g := g) (by rw [World.cell?_alloc_past _ _ _ (by simp; omega), World.cell?_alloc_past _ _ _ hgl]; exact hm)).mono ?_; rintro e w1 ⟨rfl, rfl⟩)
  generalize hW : ((w.alloc (Obj.cells #[Value.int IntKind.i64 gs, Value.int IntKind.i64 gg] 37)).alloc _) = W
  have hA := hid (show Fr E0 w W by rw [← hW]; exact (Fr.refl.alloc _).alloc _)
  have hT := hid (show W.heap[w.heap.size + 1]? = some (.cells #[Value.bool false, Value.int IntKind.i64 0, Value.bool false, Value.int IntKind.i64 0, Value.slice none 0 0] 32 (0, 0)) by rw [← hW]; exact heap_alloc2_new w _ _)
  have hG := hid (show W.heap[w.heap.size]? = some (.cells #[Value.int IntKind.i64 gs, Value.int IntKind.i64 gg] 37 (0, 0)) by rw [← hW]; exact heap_alloc2_old w _ _)
  clear hW hm
  obtain ⟨A, cp, hv, hrd⟩ := (atW H.out hA.out).rd
  refine (waits_ok hrd gs gg).mono ?_
  rintro e w1 ⟨rfl, hf1⟩
  rw [HW.out]
  have F1 := hid hf1
  have FA := hid (hA.out.trans hf1)
  have T1 := hid (hf1.heapAt hT.out (fun x => x))
  have G1 := hid (hf1.heapAt hG.out (fun x => x))
  obtain ⟨⟨b0, b1, b2, b3, b4⟩, z0, z1, z2, z3, z4⟩ := blk5 T1.out
  have RD := hid (hrd.fr hf1)
  clear hf1 hrd
  go_wp2_with fail
  have T5 := hid (set5_heap (w := w1) T1.out (.bool false) (.int .i64 0) (.bool false) (.int .i64 0) (.slice none 0 0))
  have S5 := hid (set5_fr (S := fun k => k = w.heap.size + 1) (w := w1) (B := w.heap.size + 1) rfl (.bool false) (.int .i64 0) (.bool false) (.int .i64 0) (.slice none 0 0))
  exact fin23 (m := {}) rfl rfl rfl T5.out ⟨_, rfl, RowF.nil, step_same H.out (Nat.le_succ _) FA.out S5.out⟩
set_option maxHeartbeats 2000000 in
theorem send_out {w : World} {F : Nat → Prop} {g : Nat} {v0 : Value} {ms : List CM} (h : Chs w F g v0 ms) (gs gg v : Int) (hn : ms.length ≤ 1024) (hfit : ∀ m ∈ ms, m.ch.Fit) (hw : waitsL gs gg (chs ms) = false) (ch : Int) (hch : ch < 0 ∨ (ms.length : Int) < ch) :
    Calls Try.prog 23 #[.pointer (some ⟨g, 0, none⟩), .int .i64 ch, .agg #[.int .i64 gs, .int .i64 gg], .int .i64 v] w (MvPost F g w (chs ms) { trap := 4 } 0) := by
  have H := hid h
  have hm := h.made
  have hgl := h.lt g h.mine
  have HW := hid hw
  clear h hw
  go_enter Try.func23, Try.ntmps23
  go_wp2_with (go_at_call 53; refine (is_made (g := g) (by rw [World.cell?_alloc_past _ _ _ (by simp; omega), World.cell?_alloc_past _ _ _ hgl]; exact hm)).mono ?_; rintro e w1 ⟨rfl, rfl⟩)
  generalize hW : ((w.alloc (Obj.cells #[Value.int IntKind.i64 gs, Value.int IntKind.i64 gg] 37)).alloc _) = W
  have hA := hid (show Fr E0 w W by rw [← hW]; exact (Fr.refl.alloc _).alloc _)
  have hT := hid (show W.heap[w.heap.size + 1]? = some (.cells #[Value.bool false, Value.int IntKind.i64 0, Value.bool false, Value.int IntKind.i64 0, Value.slice none 0 0] 32 (0, 0)) by rw [← hW]; exact heap_alloc2_new w _ _)
  have hG := hid (show W.heap[w.heap.size]? = some (.cells #[Value.int IntKind.i64 gs, Value.int IntKind.i64 gg] 37 (0, 0)) by rw [← hW]; exact heap_alloc2_old w _ _)
  clear hW hm
  obtain ⟨A, cp, hv, hrd⟩ := (atW H.out hA.out).rd
  refine (waits_ok hrd gs gg).mono ?_
  rintro e w1 ⟨rfl, hf1⟩
  rw [HW.out]
  have F1 := hid hf1
  have FA := hid (hA.out.trans hf1)
  have T1 := hid (hf1.heapAt hT.out (fun x => x))
  have G1 := hid (hf1.heapAt hG.out (fun x => x))
  obtain ⟨⟨b0, b1, b2, b3, b4⟩, z0, z1, z2, z3, z4⟩ := blk5 T1.out
  have RD := hid (hrd.fr hf1)
  clear hf1 hrd
  have HC := hid hch; clear hch
  go_wp2_with (go_at_call 54; refine (at_out RD.out ch HC.out).mono ?_; rintro e w2 ⟨rfl, rfl⟩; simp only [tup2])
  have T5 := hid (set5_heap (w := w1) T1.out (.bool false) (.int .i64 0) (.bool false) (.int .i64 4) (.slice none 0 0))
  have S5 := hid (set5_fr (S := fun k => k = w.heap.size + 1) (w := w1) (B := w.heap.size + 1) rfl (.bool false) (.int .i64 0) (.bool false) (.int .i64 4) (.slice none 0 0))
  exact fin23 (m := { trap := 4 }) rfl rfl rfl T5.out ⟨_, rfl, RowF.nil, step_same H.out (Nat.le_succ _) FA.out S5.out⟩
set_option maxHeartbeats 2000000 in
theorem send_nil {w : World} {F : Nat → Prop} {g : Nat} {v0 : Value} {ms : List CM} (h : Chs w F g v0 ms) (gs gg v : Int) (hn : ms.length ≤ 1024) (hfit : ∀ m ∈ ms, m.ch.Fit) (hw : waitsL gs gg (chs ms) = false) :
    Calls Try.prog 23 #[.pointer (some ⟨g, 0, none⟩), .int .i64 0, .agg #[.int .i64 gs, .int .i64 gg], .int .i64 v] w (MvPost F g w (chs ms) { waits := true } 0) := by
  have H := hid h
  have hm := h.made
  have hgl := h.lt g h.mine
  have HW := hid hw
  clear h hw
  go_enter Try.func23, Try.ntmps23
  go_wp2_with (go_at_call 53; refine (is_made (g := g) (by rw [World.cell?_alloc_past _ _ _ (by simp; omega), World.cell?_alloc_past _ _ _ hgl]; exact hm)).mono ?_; rintro e w1 ⟨rfl, rfl⟩)
  generalize hW : ((w.alloc (Obj.cells #[Value.int IntKind.i64 gs, Value.int IntKind.i64 gg] 37)).alloc _) = W
  have hA := hid (show Fr E0 w W by rw [← hW]; exact (Fr.refl.alloc _).alloc _)
  have hT := hid (show W.heap[w.heap.size + 1]? = some (.cells #[Value.bool false, Value.int IntKind.i64 0, Value.bool false, Value.int IntKind.i64 0, Value.slice none 0 0] 32 (0, 0)) by rw [← hW]; exact heap_alloc2_new w _ _)
  have hG := hid (show W.heap[w.heap.size]? = some (.cells #[Value.int IntKind.i64 gs, Value.int IntKind.i64 gg] 37 (0, 0)) by rw [← hW]; exact heap_alloc2_old w _ _)
  clear hW hm
  obtain ⟨A, cp, hv, hrd⟩ := (atW H.out hA.out).rd
  refine (waits_ok hrd gs gg).mono ?_
  rintro e w1 ⟨rfl, hf1⟩
  rw [HW.out]
  have F1 := hid hf1
  have FA := hid (hA.out.trans hf1)
  have T1 := hid (hf1.heapAt hT.out (fun x => x))
  have G1 := hid (hf1.heapAt hG.out (fun x => x))
  obtain ⟨⟨b0, b1, b2, b3, b4⟩, z0, z1, z2, z3, z4⟩ := blk5 T1.out
  have RD := hid (hrd.fr hf1)
  clear hf1 hrd
  go_wp2_with (go_at_call 54; refine (at_zero RD.out).mono ?_; rintro e w2 ⟨rfl, rfl⟩; simp only [tup2])
  have T5 := hid (set5_heap (w := w1) T1.out (.bool true) (.int .i64 0) (.bool false) (.int .i64 0) (.slice none 0 0))
  have S5 := hid (set5_fr (S := fun k => k = w.heap.size + 1) (w := w1) (B := w.heap.size + 1) rfl (.bool true) (.int .i64 0) (.bool false) (.int .i64 0) (.slice none 0 0))
  exact fin23 (m := { waits := true }) rfl rfl rfl T5.out ⟨_, rfl, RowF.nil, step_same H.out (Nat.le_succ _) FA.out S5.out⟩
set_option maxHeartbeats 2000000 in
theorem send_closed {w : World} {F : Nat → Prop} {g : Nat} {v0 : Value} {ms : List CM} (h : Chs w F g v0 ms) (gs gg v : Int) (hn : ms.length ≤ 1024) (hfit : ∀ m ∈ ms, m.ch.Fit) (hw : waitsL gs gg (chs ms) = false) {k : Nat} {m : CM} (hk : ms[k]? = some m) (hcl : m.ch.cl = true) :
    Calls Try.prog 23 #[.pointer (some ⟨g, 0, none⟩), .int .i64 ((k : Int) + 1), .agg #[.int .i64 gs, .int .i64 gg], .int .i64 v] w (MvPost F g w (chs ms) { trap := 6 } 0) := by
  have H := hid h
  have hm := h.made
  have hgl := h.lt g h.mine
  have HW := hid hw
  clear h hw
  go_enter Try.func23, Try.ntmps23
  go_wp2_with (go_at_call 53; refine (is_made (g := g) (by rw [World.cell?_alloc_past _ _ _ (by simp; omega), World.cell?_alloc_past _ _ _ hgl]; exact hm)).mono ?_; rintro e w1 ⟨rfl, rfl⟩)
  generalize hW : ((w.alloc (Obj.cells #[Value.int IntKind.i64 gs, Value.int IntKind.i64 gg] 37)).alloc _) = W
  have hA := hid (show Fr E0 w W by rw [← hW]; exact (Fr.refl.alloc _).alloc _)
  have hT := hid (show W.heap[w.heap.size + 1]? = some (.cells #[Value.bool false, Value.int IntKind.i64 0, Value.bool false, Value.int IntKind.i64 0, Value.slice none 0 0] 32 (0, 0)) by rw [← hW]; exact heap_alloc2_new w _ _)
  have hG := hid (show W.heap[w.heap.size]? = some (.cells #[Value.int IntKind.i64 gs, Value.int IntKind.i64 gg] 37 (0, 0)) by rw [← hW]; exact heap_alloc2_old w _ _)
  clear hW hm
  obtain ⟨L, cp, hv, hFL, _⟩ := H.out.at hk
  subst hv
  have hrd := (atW H.out hA.out).rdAt
  refine (waits_ok hrd gs gg).mono ?_
  rintro e w1 ⟨rfl, hf1⟩
  rw [HW.out]
  have F1 := hid hf1
  have FA := hid (hA.out.trans hf1)
  have T1 := hid (hf1.heapAt hT.out (fun x => x))
  have G1 := hid (hf1.heapAt hG.out (fun x => x))
  obtain ⟨⟨b0, b1, b2, b3, b4⟩, z0, z1, z2, z3, z4⟩ := blk5 T1.out
  have RD := hid (hrd.fr hf1)
  clear hf1 hrd
  have C1 := hid (atW H.out FA.out)
  obtain ⟨_, _, e0, _, c0, c1, c2, c3, c4, hfz⟩ := C1.out.at hk
  cases e0
  have HFZ := hid hfz
  have hlk := lt_of_get hk
  have HK := hid hk
  have O1 := hid (C1.out.own.each m (List.mem_of_getElem? hk))
  clear hk hfz
  rw [hcl] at c4
  go_wp2_with (go_at_call 54; refine (at_in RD.out k hlk).mono ?_; rintro e w2 ⟨rfl, rfl⟩; simp only [tup2, Nat.zero_add])
  have T5 := hid (set5_heap (w := w1) T1.out (.bool false) (.int .i64 0) (.bool false) (.int .i64 6) (.slice none 0 0))
  have S5 := hid (set5_fr (S := fun k => k = w.heap.size + 1) (w := w1) (B := w.heap.size + 1) rfl (.bool false) (.int .i64 0) (.bool false) (.int .i64 6) (.slice none 0 0))
  exact fin23 (m := { trap := 6 }) rfl rfl rfl T5.out ⟨_, rfl, RowF.nil, step_same H.out (Nat.le_succ _) FA.out S5.out⟩
set_option maxHeartbeats 2000000 in
theorem send_wakes {w : World} {F : Nat → Prop} {g : Nat} {v0 : Value} {ms : List CM} (h : Chs w F g v0 ms) (gs gg v : Int) (hn : ms.length ≤ 1024) (hfit : ∀ m ∈ ms, m.ch.Fit) (hw : waitsL gs gg (chs ms) = false) {k : Nat} {m : CM} (hk : ms[k]? = some m) (hcl : m.ch.cl = false) {x : Wt} {r : List Wt} (hr : m.ch.rcv = x :: r) :
    Calls Try.prog 23 #[.pointer (some ⟨g, 0, none⟩), .int .i64 ((k : Int) + 1), .agg #[.int .i64 gs, .int .i64 gg], .int .i64 v] w (MvPost F g w (leaveL x.s x.g (chs ms)) { ok := true, woken := [⟨x.s, x.g, x.c, v, true, 0⟩] } 0) := by
  have H := hid h
  have hm := h.made
  have hgl := h.lt g h.mine
  have HW := hid hw
  clear h hw
  go_enter Try.func23, Try.ntmps23
  go_wp2_with (go_at_call 53; refine (is_made (g := g) (by rw [World.cell?_alloc_past _ _ _ (by simp; omega), World.cell?_alloc_past _ _ _ hgl]; exact hm)).mono ?_; rintro e w1 ⟨rfl, rfl⟩)
  generalize hW : ((w.alloc (Obj.cells #[Value.int IntKind.i64 gs, Value.int IntKind.i64 gg] 37)).alloc _) = W
  have hA := hid (show Fr E0 w W by rw [← hW]; exact (Fr.refl.alloc _).alloc _)
  have hT := hid (show W.heap[w.heap.size + 1]? = some (.cells #[Value.bool false, Value.int IntKind.i64 0, Value.bool false, Value.int IntKind.i64 0, Value.slice none 0 0] 32 (0, 0)) by rw [← hW]; exact heap_alloc2_new w _ _)
  have hG := hid (show W.heap[w.heap.size]? = some (.cells #[Value.int IntKind.i64 gs, Value.int IntKind.i64 gg] 37 (0, 0)) by rw [← hW]; exact heap_alloc2_old w _ _)
  clear hW hm
  obtain ⟨L, cp, hv, hFL, _⟩ := H.out.at hk
  subst hv
  have hrd := (atW H.out hA.out).rdAt
  refine (waits_ok hrd gs gg).mono ?_
  rintro e w1 ⟨rfl, hf1⟩
  rw [HW.out]
  have F1 := hid hf1
  have FA := hid (hA.out.trans hf1)
  have T1 := hid (hf1.heapAt hT.out (fun x => x))
  have G1 := hid (hf1.heapAt hG.out (fun x => x))
  obtain ⟨⟨b0, b1, b2, b3, b4⟩, z0, z1, z2, z3, z4⟩ := blk5 T1.out
  have RD := hid (hrd.fr hf1)
  clear hf1 hrd
  have C1 := hid (atW H.out FA.out)
  obtain ⟨_, _, e0, _, c0, c1, c2, c3, c4, hfz⟩ := C1.out.at hk
  cases e0
  have HFZ := hid hfz
  have hlk := lt_of_get hk
  have HK := hid hk
  have O1 := hid (C1.out.own.each m (List.mem_of_getElem? hk))
  clear hk hfz
  rw [hcl] at c4
  have hx : m.ch.rcv[0]? = some x := by rw [hr]; rfl
  rcases O1.out.rcv.form (by decide) (wts_len _) with ⟨_, h0, _⟩ | ⟨b3, p3, hv3, _, _, hn3, _, hr3, _⟩
  · rw [hr] at h0; simp at h0
  obtain ⟨d0, d1, d2, d3⟩ := hr3.wt hx
  simp only [Nat.zero_add, Nat.zero_mul] at d0 d1 d2 d3
  have hl3 : m.ch.rcv.length = r.length + 1 := by rw [hr]; rfl
  rw [hl3] at hv3 hn3
  rw [hv3] at c3
  clear hr3 hr hx hv3 hl3
  go_wp2_with (first
    | (go_at_call 54; refine (at_in RD.out k hlk).mono ?_; rintro e w2 ⟨rfl, rfl⟩; simp only [tup2, Nat.zero_add]))
  refine (wake_ok C1.out x v true 0 hn hfit).mono ?_
  rintro e w2 ⟨rfl, hl2, hf2⟩
  simp only [Wk.val]
  have T2 := hid ((Fr.refl (S := E0) |>.alloc (.cells #[.int .i64 x.s, .int .i64 x.g, .int .i64 x.c, .int .i64 v, .bool true, .int .i64 0] 39)).heapAt (hf2.heapAt T1.out (fun hx => by have := H.out.lt _ hx; omega)) (fun x => x))
  have hR2 := hid (rowNew w2 w (Nat.le_trans FA.out.size hf2.size) [⟨x.s, x.g, x.c, v, true, 0⟩] (show 1 ≤ maxLen by decide) _ rfl)
  obtain ⟨⟨b0, b1, b2, b3, b4⟩, z0, z1, z2, z3, z4⟩ := blk5 T2.out
  have L2 := hid hl2
  have F2 := hid (FA.out.e0.trans (hf2.trans (Fr.refl.alloc (.cells #[.int .i64 x.s, .int .i64 x.g, .int .i64 x.c, .int .i64 v, .bool true, .int .i64 0] 39))))
  have hne : ¬ w2.heap.size = w.heap.size + 1 := by have h1 := heap_lt T1.out; have h2 := hf2.size; omega
  have HNE := hid hne
  clear hl2 hf2 hne
  go_wp2_with fail
  have T5 := hid (set5_heap (w := (w2.alloc (.cells #[.int .i64 x.s, .int .i64 x.g, .int .i64 x.c, .int .i64 v, .bool true, .int .i64 0] 39))) T2.out (.bool false) (.int .i64 0) (.bool true) (.int .i64 0) (.slice (some ⟨w2.heap.size, 0, none⟩) 1 1))
  have S5 := hid (set5_fr (S := fun k => k = w.heap.size + 1) (w := (w2.alloc (.cells #[.int .i64 x.s, .int .i64 x.g, .int .i64 x.c, .int .i64 v, .bool true, .int .i64 0] 39))) (B := w.heap.size + 1) rfl (.bool false) (.int .i64 0) (.bool true) (.int .i64 0) (.slice (some ⟨w2.heap.size, 0, none⟩) 1 1))
  exact fin23 (m := { ok := true, woken := [⟨x.s, x.g, x.c, v, true, 0⟩] }) rfl rfl rfl T5.out ⟨_, rfl, (hR2.out.fr S5.out (fun q hq e => HNE.out (by simp [Value.ownBlock] at hq; omega))), ((L2.out.fr (Fr.refl.alloc _) (fun _ _ x => x)).fr S5.out (fun q hq e => by have := H.out.lt q hq; omega)).step (fun q hq => .inl hq) (F2.out.trans' S5.out (fun i hi => .inr (by omega)))⟩
set_option maxHeartbeats 2000000 in
theorem send_buffers {w : World} {F : Nat → Prop} {g : Nat} {v0 : Value} {ms : List CM} (h : Chs w F g v0 ms) (gs gg v : Int) (hn : ms.length ≤ 1024) (hfit : ∀ m ∈ ms, m.ch.Fit) (hw : waitsL gs gg (chs ms) = false) {k : Nat} {m : CM} (hk : ms[k]? = some m) (hcl : m.ch.cl = false) (hr : m.ch.rcv = []) (hb : (m.ch.vals.length : Int) < m.ch.cap) (hcap : m.ch.cap ≤ 1024) :
    Calls Try.prog 23 #[.pointer (some ⟨g, 0, none⟩), .int .i64 ((k : Int) + 1), .agg #[.int .i64 gs, .int .i64 gg], .int .i64 v] w (MvPost F g w ((chs ms).set k { m.ch with vals := m.ch.vals ++ [v] }) { ok := true } 0) := by
  have H := hid h
  have hm := h.made
  have hgl := h.lt g h.mine
  have HW := hid hw
  clear h hw
  go_enter Try.func23, Try.ntmps23
  go_wp2_with (go_at_call 53; refine (is_made (g := g) (by rw [World.cell?_alloc_past _ _ _ (by simp; omega), World.cell?_alloc_past _ _ _ hgl]; exact hm)).mono ?_; rintro e w1 ⟨rfl, rfl⟩)
  generalize hW : ((w.alloc (Obj.cells #[Value.int IntKind.i64 gs, Value.int IntKind.i64 gg] 37)).alloc _) = W
  have hA := hid (show Fr E0 w W by rw [← hW]; exact (Fr.refl.alloc _).alloc _)
  have hT := hid (show W.heap[w.heap.size + 1]? = some (.cells #[Value.bool false, Value.int IntKind.i64 0, Value.bool false, Value.int IntKind.i64 0, Value.slice none 0 0] 32 (0, 0)) by rw [← hW]; exact heap_alloc2_new w _ _)
  have hG := hid (show W.heap[w.heap.size]? = some (.cells #[Value.int IntKind.i64 gs, Value.int IntKind.i64 gg] 37 (0, 0)) by rw [← hW]; exact heap_alloc2_old w _ _)
  clear hW hm
  obtain ⟨L, cp, hv, hFL, _⟩ := H.out.at hk
  subst hv
  have hrd := (atW H.out hA.out).rdAt
  refine (waits_ok hrd gs gg).mono ?_
  rintro e w1 ⟨rfl, hf1⟩
  rw [HW.out]
  have F1 := hid hf1
  have FA := hid (hA.out.trans hf1)
  have T1 := hid (hf1.heapAt hT.out (fun x => x))
  have G1 := hid (hf1.heapAt hG.out (fun x => x))
  obtain ⟨⟨b0, b1, b2, b3, b4⟩, z0, z1, z2, z3, z4⟩ := blk5 T1.out
  have RD := hid (hrd.fr hf1)
  clear hf1 hrd
  have C1 := hid (atW H.out FA.out)
  obtain ⟨_, _, e0, _, c0, c1, c2, c3, c4, hfz⟩ := C1.out.at hk
  cases e0
  have HFZ := hid hfz
  have hlk := lt_of_get hk
  have HK := hid hk
  have O1 := hid (C1.out.own.each m (List.mem_of_getElem? hk))
  clear hk hfz
  obtain ⟨A1, n1', e1, _, hm1, _⟩ := O1.out.vals.read (by decide) (ints_len _)
  obtain ⟨A2, n2', e2, _, hm2, _⟩ := O1.out.snd.read (by decide) (wts_len _)
  obtain ⟨A3, n3', e3, _, hm3, _⟩ := O1.out.rcv.read (by decide) (wts_len _)
  rw [hcl] at c4
  rw [hr] at e3
  rw [e3] at c3
  rw [e1] at c1
  have E1 := hid e1
  have hn1 : m.ch.vals.length ≤ 1024 := by omega
  clear e1 e3 e2 hcl hr hm1 hm2 hm3
  go_wp2_with (first
    | (go_at_call 54; refine (at_in RD.out k hlk).mono ?_; rintro e w2 ⟨rfl, rfl⟩; simp only [tup2, Nat.zero_add]))
  go_quiet (fail)
  have FQ := hid ((Fr.refl (S := E0) (w := w1)).drewN nq)
  generalize w1.drewN nq = W at FQ ⊢
  have FA2 := hid (FA.out.trans FQ.out)
  have T2 := hid (FQ.out.heapAt T1.out (fun x => x))
  have G2 := hid (FQ.out.heapAt G1.out (fun x => x))
  have C2 := hid (C1.out.fr FQ.out (fun _ _ x => x))
  have O2 := hid (C2.out.own.each m (List.mem_of_getElem? HK.out))
  clear b0 b1 b2 b3 b4 z0 z1 z2 z3 z4 c0 c1 c2 c3 c4
  obtain ⟨_, _, e0, _, c0, c1, c2, c3, c4, hfz⟩ := C2.out.at HK.out
  cases e0
  obtain ⟨i0, hi0, hz0, hz1, hz2⟩ := info_parts info2'
  rw [E1.out] at c1
  have hf1 := hfz (k * 5 + 1)
  have CA := hid (C2.out.fr (Fr.refl (S := E0) |>.alloc (.cells #[.int .i64 v] 2)) (fun _ _ x => x))
  have OA := hid (CA.out.own.each m (List.mem_of_getElem? HK.out))
  have hown0 := hid (show World.ownsRow (W.alloc (.cells #[.int .i64 v] 2)) 0 2 1 (.slice A1 m.ch.vals.length n1') m.ch.vals.length (ints m.ch.vals) by rw [← E1.out]; exact OA.out.vals.own (by decide) (ints_len _))
  have hnL : (Value.slice A1 m.ch.vals.length n1').ownBlock ≠ some L := fun hx => C2.out.own.row.ne_type O2.out.vals (by decide) rfl (by rw [E1.out]; exact hx)
  have hnR : (Value.slice A1 m.ch.vals.length n1').ownBlock ≠ some (w.heap.size + 1) := fun hx => by have := H.out.lt _ (O2.out.vals.2 _ (by rw [E1.out]; exact hx)); omega
  have hLl : L < W.heap.size := C2.out.lt L hFL
  have hRl := heap_lt T2.out
  have hLw : L < w.heap.size := H.out.lt L hFL
  have hLR : ¬ L = w.heap.size + 1 := by omega
  have hLR' : ¬ w.heap.size + 1 = L := by omega
  have TA := hid ((Fr.refl (S := E0) |>.alloc (.cells #[.int .i64 v] 2)).heapAt T2.out (fun x => x))
  clear hfz c0 c2 c3 c4
  go_wp2_with (at_builtin; refine wpList_append_lies _ rfl (.tmp 74) (.tmp 76) 22 rfl 0 2 i0 (.int .i64 0) 1 8 Try.underlying22 hi0 hz0 hz1 hz2 rfl (by decide) (.slice A1 m.ch.vals.length n1') m.ch.vals.length (ints m.ch.vals) rfl hown0.out ⟨W.heap.size, 0, none⟩ 1 1 [.int .i64 v] rfl rfl (news1 _ _) (by simp [Value.oneCell']) (by decide) (by unfold maxLen; omega) (by omega) (Nat.zero_le _) (W.heap.size + 1) (by simp) ?_; intro gb cap w3 hown3 hgrow3 hat3 hlt3; have x1 : w3.cell? ⟨L, k * 5 + 1, none⟩ = some (.slice A1 m.ch.vals.length n1') := hgrow3.cell (by rw [World.cell?_alloc_past _ _ _ hLl]; exact c1) (fun e => hnL e.symm); have x2 : w3.frozen? ⟨L, k * 5 + 1, none⟩ = false := (by rw [hgrow3.frozen_far _ (Nat.lt_of_lt_of_le hLl (by simp)) (fun e => hnL e.symm), World.frozen?_alloc_past _ _ _ hLl]; exact hf1); have FG := hid (Fr.refl.grown (S := fun q => (Value.slice A1 m.ch.vals.length n1').ownBlock = some q) hgrow3 (fun q hq => .inl hq)); have T3 := hid (FG.out.heapAt TA.out hnR); have HN := hid (And.intro hown3 (And.intro hgrow3 (And.intro hat3 hlt3))); clear hown3 hgrow3 hat3 hlt3; obtain ⟨⟨b0, b1, b2, b3, b4⟩, z0, z1, z2, z3, z4⟩ := blk5 T3.out)
  have T4 := hid ((heap_setCell_other w3 ⟨L, k * 5 + 1, none⟩ (w.heap.size + 1) (.slice (some ⟨gb, 0, none⟩) (m.ch.vals.length + 1) cap) hLR').trans T3.out)
  have ST := hid (appendV (m := m) (l' := m.ch.vals ++ [v]) CA.out HK.out hFL (by rw [ints_app]; exact HN.out.1) (by rw [E1.out]; exact HN.out.2.1) (by rw [E1.out]; simpa using HN.out.2.2.1) HN.out.2.2.2)
  have T5 := hid (set5_heap (w := w3.setCell ⟨L, k * 5 + 1, none⟩ (.slice (some ⟨gb, 0, none⟩) (m.ch.vals.length + 1) cap)) T4.out (.bool false) (.int .i64 0) (.bool true) (.int .i64 0) (.slice none 0 0))
  have S5 := hid (set5_fr (S := fun k => k = w.heap.size + 1) (w := w3.setCell ⟨L, k * 5 + 1, none⟩ (.slice (some ⟨gb, 0, none⟩) (m.ch.vals.length + 1) cap)) (B := w.heap.size + 1) rfl (.bool false) (.int .i64 0) (.bool true) (.int .i64 0) (.slice none 0 0))
  exact fin23 (m := { ok := true }) rfl rfl rfl T5.out ⟨_, rfl, RowF.nil, ST.out.then (FA2.out.trans (Fr.refl.alloc _)) H.out.lt S5.out (fun q hq => by subst hq; exact ⟨Nat.le_succ _, by simp; omega⟩)⟩
set_option maxHeartbeats 2000000 in
theorem send_queues {w : World} {F : Nat → Prop} {g : Nat} {v0 : Value} {ms : List CM} (h : Chs w F g v0 ms) (gs gg v : Int) (hn : ms.length ≤ 1024) (hfit : ∀ m ∈ ms, m.ch.Fit) (hw : waitsL gs gg (chs ms) = false) {k : Nat} {m : CM} (hk : ms[k]? = some m) (hcl : m.ch.cl = false) (hr : m.ch.rcv = []) (hb : ¬ (m.ch.vals.length : Int) < m.ch.cap) (hroom : (m.ch.snd.length + 1) * 32 ≤ 140737488355328) :
    Calls Try.prog 23 #[.pointer (some ⟨g, 0, none⟩), .int .i64 ((k : Int) + 1), .agg #[.int .i64 gs, .int .i64 gg], .int .i64 v] w (MvPost F g w ((chs ms).set k { m.ch with snd := m.ch.snd ++ [⟨gs, gg, 0, v⟩] }) { waits := true } 0) := by
  have H := hid h
  have hm := h.made
  have hgl := h.lt g h.mine
  have HW := hid hw
  clear h hw
  go_enter Try.func23, Try.ntmps23
  go_wp2_with (go_at_call 53; refine (is_made (g := g) (by rw [World.cell?_alloc_past _ _ _ (by simp; omega), World.cell?_alloc_past _ _ _ hgl]; exact hm)).mono ?_; rintro e w1 ⟨rfl, rfl⟩)
  generalize hW : ((w.alloc (Obj.cells #[Value.int IntKind.i64 gs, Value.int IntKind.i64 gg] 37)).alloc _) = W
  have hA := hid (show Fr E0 w W by rw [← hW]; exact (Fr.refl.alloc _).alloc _)
  have hT := hid (show W.heap[w.heap.size + 1]? = some (.cells #[Value.bool false, Value.int IntKind.i64 0, Value.bool false, Value.int IntKind.i64 0, Value.slice none 0 0] 32 (0, 0)) by rw [← hW]; exact heap_alloc2_new w _ _)
  have hG := hid (show W.heap[w.heap.size]? = some (.cells #[Value.int IntKind.i64 gs, Value.int IntKind.i64 gg] 37 (0, 0)) by rw [← hW]; exact heap_alloc2_old w _ _)
  clear hW hm
  obtain ⟨L, cp, hv, hFL, _⟩ := H.out.at hk
  subst hv
  have hrd := (atW H.out hA.out).rdAt
  refine (waits_ok hrd gs gg).mono ?_
  rintro e w1 ⟨rfl, hf1⟩
  rw [HW.out]
  have F1 := hid hf1
  have FA := hid (hA.out.trans hf1)
  have T1 := hid (hf1.heapAt hT.out (fun x => x))
  have G1 := hid (hf1.heapAt hG.out (fun x => x))
  obtain ⟨⟨b0, b1, b2, b3, b4⟩, z0, z1, z2, z3, z4⟩ := blk5 T1.out
  have RD := hid (hrd.fr hf1)
  clear hf1 hrd
  have C1 := hid (atW H.out FA.out)
  obtain ⟨_, _, e0, _, c0, c1, c2, c3, c4, hfz⟩ := C1.out.at hk
  cases e0
  have HFZ := hid hfz
  have hlk := lt_of_get hk
  have HK := hid hk
  have O1 := hid (C1.out.own.each m (List.mem_of_getElem? hk))
  clear hk hfz
  obtain ⟨A1, n1', e1, _, hm1, _⟩ := O1.out.vals.read (by decide) (ints_len _)
  obtain ⟨A2, n2', e2, _, hm2, _⟩ := O1.out.snd.read (by decide) (wts_len _)
  obtain ⟨A3, n3', e3, _, hm3, _⟩ := O1.out.rcv.read (by decide) (wts_len _)
  rw [hcl] at c4
  rw [hr] at e3
  rw [e3] at c3
  rw [e1] at c1
  have E2 := hid e2
  have hb' : decide ((m.ch.vals.length : Int) < m.ch.cap) = false := by simp; omega
  have hn1 : m.ch.vals.length ≤ 2 ^ 63 - 1 := by rcases O1.out.vals.form (by decide) (ints_len _) with ⟨_, h0, _⟩ | ⟨_, _, _, _, _, h1, h2, _⟩; (omega); (exact Nat.le_trans h1 h2)
  clear e1 e3 e2 hcl hr hm1 hm2 hm3
  go_wp2_with (first
    | (go_at_call 54; refine (at_in RD.out k hlk).mono ?_; rintro e w2 ⟨rfl, rfl⟩; simp only [tup2, Nat.zero_add]))
  go_quiet (fail)
  have FQ := hid ((Fr.refl (S := E0) (w := w1)).drewN nq)
  generalize w1.drewN nq = W at FQ ⊢
  have FA2 := hid (FA.out.trans FQ.out)
  have T2 := hid (FQ.out.heapAt T1.out (fun x => x))
  have G2 := hid (FQ.out.heapAt G1.out (fun x => x))
  have C2 := hid (C1.out.fr FQ.out (fun _ _ x => x))
  have O2 := hid (C2.out.own.each m (List.mem_of_getElem? HK.out))
  clear b0 b1 b2 b3 b4 z0 z1 z2 z3 z4 c0 c1 c2 c3 c4
  obtain ⟨_, _, e0, _, c0, c1, c2, c3, c4, hfz⟩ := C2.out.at HK.out
  cases e0
  obtain ⟨i0, hi0, hz0, hz1, hz2⟩ := info_parts info114
  rw [E2.out] at c2
  have hf1 := hfz (k * 5 + 2)
  obtain ⟨y0, y1, _, _⟩ := cell2 G2.out
  have CA := hid (C2.out.fr (Fr.refl (S := E0) |>.alloc (.cells #[.int .i64 gs, .int .i64 gg, .int .i64 0, .int .i64 v] 114)) (fun _ _ x => x))
  have OA := hid (CA.out.own.each m (List.mem_of_getElem? HK.out))
  have hown0 := hid (show World.ownsRow (W.alloc (.cells #[.int .i64 gs, .int .i64 gg, .int .i64 0, .int .i64 v] 114)) 0 114 4 (.slice A2 m.ch.snd.length n2') m.ch.snd.length (wts m.ch.snd) by rw [← E2.out]; exact OA.out.snd.own (by decide) (wts_len _))
  have hnL : (Value.slice A2 m.ch.snd.length n2').ownBlock ≠ some L := fun hx => C2.out.own.row.ne_type O2.out.snd (by decide) rfl (by rw [E2.out]; exact hx)
  have hnR : (Value.slice A2 m.ch.snd.length n2').ownBlock ≠ some (w.heap.size + 1) := fun hx => by have := H.out.lt _ (O2.out.snd.2 _ (by rw [E2.out]; exact hx)); omega
  have hLl : L < W.heap.size := C2.out.lt L hFL
  have hRl := heap_lt T2.out
  have hLw : L < w.heap.size := H.out.lt L hFL
  have hLR : ¬ L = w.heap.size + 1 := by omega
  have hLR' : ¬ w.heap.size + 1 = L := by omega
  have TA := hid ((Fr.refl (S := E0) |>.alloc (.cells #[.int .i64 gs, .int .i64 gg, .int .i64 0, .int .i64 v] 114)).heapAt T2.out (fun x => x))
  clear hfz c0 c1 c3 c4
  go_wp2_with fail
  go_region_law (refine step_append_lies _ (by rfl) (.tmp 85) (.tmp 89) 65 (by rfl) 0 114 i0 (.agg #[.int .i64 0, .int .i64 0, .int .i64 0, .int .i64 0]) 4 32 Try.underlying65 hi0 hz0 hz1 hz2 rfl (by decide) (.slice A2 m.ch.snd.length n2') m.ch.snd.length (wts m.ch.snd) (by rfl) hown0.out ⟨W.heap.size, 0, none⟩ 1 1 [.int .i64 gs, .int .i64 gg, .int .i64 0, .int .i64 v] (by rfl) (by rfl) (news1 _ _) (by simp [Value.oneCell']) (by decide) (by unfold maxLen; omega) (by omega) (Nat.zero_le _) (W.heap.size + 1) (by simp) ?_; intro gb cap w3 hown3 hgrow3 hat3 hlt3; have x1 : w3.cell? ⟨L, k * 5 + 2, none⟩ = some (.slice A2 m.ch.snd.length n2') := hgrow3.cell (cellA hLl c2) (fun e => hnL e.symm); have x2 : w3.frozen? ⟨L, k * 5 + 2, none⟩ = false := (by rw [hgrow3.frozen_far _ (Nat.lt_of_lt_of_le hLl (by simp)) (fun e => hnL e.symm)]; exact frozenA hLl hf1); have FG := hid (Fr.refl.grown (S := fun q => (Value.slice A2 m.ch.snd.length n2').ownBlock = some q) hgrow3 (fun q hq => .inl hq)); have T3 := hid (FG.out.heapAt TA.out hnR); have HN := hid (And.intro hown3 (And.intro hgrow3 (And.intro hat3 hlt3))); clear hown3 hgrow3 hat3 hlt3; obtain ⟨⟨b0, b1, b2, b3, b4⟩, z0, z1, z2, z3, z4⟩ := blk5 T3.out)
  all_goals
    go_wp2_with fail
    have T4 := hid ((heap_setCell_other w3 ⟨L, k * 5 + 2, none⟩ (w.heap.size + 1) (.slice (some ⟨gb, 0, none⟩) (m.ch.snd.length + 1) cap) hLR').trans T3.out)
    have ST := hid (appendS (m := m) (l' := m.ch.snd ++ [⟨gs, gg, 0, v⟩]) CA.out HK.out hFL (by rw [wts_app]; exact HN.out.1) (by rw [E2.out]; exact undrew HN.out.2.1) (by rw [E2.out]; simpa using HN.out.2.2.1) HN.out.2.2.2)
    have T5 := hid (set5_heap (w := w3.setCell ⟨L, k * 5 + 2, none⟩ (.slice (some ⟨gb, 0, none⟩) (m.ch.snd.length + 1) cap)) T4.out (.bool true) (.int .i64 0) (.bool false) (.int .i64 0) (.slice none 0 0))
    have S5 := hid (set5_fr (S := fun k => k = w.heap.size + 1) (w := w3.setCell ⟨L, k * 5 + 2, none⟩ (.slice (some ⟨gb, 0, none⟩) (m.ch.snd.length + 1) cap)) (B := w.heap.size + 1) rfl (.bool true) (.int .i64 0) (.bool false) (.int .i64 0) (.slice none 0 0))
    exact fin23 (m := { waits := true }) rfl rfl rfl T5.out ⟨_, rfl, RowF.nil, ST.out.then (FA2.out.trans (Fr.refl.alloc _)) H.out.lt S5.out (fun q hq => by subst hq; exact ⟨Nat.le_succ _, by simp; omega⟩)⟩
end Go.Proofs.Yteffmnohgnmanaa
/- slices.Delete(s, 0, 1) over int64s, on a row that is owned. -/
namespace Go.Proofs.Yteffmnohgnmanaa
open Go.RowKit
def over : List Value → Nat → List Value → List Value
  | xs, _, [] => xs
  | xs, o, y :: ys => over (xs.set o y) (o + 1) ys
theorem over_len : ∀ (ys xs : List Value) (o : Nat), (over xs o ys).length = xs.length
  | [], xs, o => rfl
  | y :: ys, xs, o => by rw [over, over_len ys]; simp
theorem over_take : ∀ (ys xs : List Value) (o : Nat), o + ys.length ≤ xs.length → (over xs o ys).take (o + ys.length) = xs.take o ++ ys
  | [], xs, o, _ => by simp [over]
  | y :: ys, xs, o, h => by
    simp only [List.length_cons] at h
    have := over_take ys (xs.set o y) (o + 1) (by simp; omega)
    rw [over, List.length_cons, show o + (ys.length + 1) = o + 1 + ys.length from by omega, this]
    rw [List.take_add_one, List.getElem?_set_self (by omega), List.take_set_of_le (Nat.le_refl _)]
    simp
theorem RowF.setCells {F : Nat → Prop} {e sz g n c : Nat} : ∀ (ys xs : List Value) (o : Nat) (w : World), RowF w F e sz (.slice (some ⟨g, 0, none⟩) n c) xs → o + ys.length ≤ xs.length → RowF (w.setCells g o ys) F e sz (.slice (some ⟨g, 0, none⟩) n c) (over xs o ys)
  | [], xs, o, w, h, _ => h
  | y :: ys, xs, o, w, h, hl => by
    simp only [List.length_cons] at hl
    exact RowF.setCells ys (xs.set o y) (o + 1) _ (h.stored (by omega)) (by simp; omega)
theorem zero2 (w : World) : (zeroValue 2).run Try.prog w = .ok (.int .i64 0) w := by kernel_rfl
theorem info2 : (Try.prog.info? 2).map (fun i => (i.zero, i.size, i.bytes)) = some (some (.int .i64 0), 1, 8) := by kernel_rfl
theorem ints_get (l : List Int) (j : Nat) : (ints l)[j]? = (l[j]?).map (Value.int .i64) := by simp [ints]
def Del01 (g c : Nat) (l : List Int) (w : World) (F : Nat → Prop) (e : Ending) (w' : World) : Prop :=
  e = .returned (.slice (some ⟨g, 0, none⟩) l.length c) ∧ RowF w' F 2 1 (.slice (some ⟨g, 0, none⟩) l.length c) (ints l) ∧ Fr (fun k => k = g) w w'
set_option maxHeartbeats 800000 in
theorem delete01 (g c n : Nat) (x : Int) (l : List Int) (w : World) (F : Nat → Prop) (hn : n = l.length + 1) (hrow : RowF w F 2 1 (.slice (some ⟨g, 0, none⟩) n c) (ints (x :: l))) :
    Calls Try.prog 56 #[.slice (some ⟨g, 0, none⟩) n c, .int .i64 0, .int .i64 1] w (Del01 g c l w F) := by
  subst hn
  obtain ⟨i0, hi0, hz0, hz1, hz2⟩ := info_parts info2
  have hlen : (ints (x :: l)).length = (l.length + 1) * 1 := ints_len _
  rcases hrow.form (by decide) hlen with ⟨hh, _⟩ | ⟨g', c', hv, hFg, hg, hnc, hcm, hr, hfz⟩
  · cases hh
  injection hv with e1 e2 e3
  injection e1 with e1; injection e1 with e1; subst e1 e3
  clear e2
  have hcm' : c ≤ 2 ^ 63 - 1 := hcm
  obtain ⟨A, hA, hsrc⟩ : ∃ A : Addr, (if c = 1 then some (⟨g, 0, none⟩ : Addr) else some ⟨g, 1, none⟩) = some A ∧ Hid (∀ t u, (ints l)[t]? = some u → w.drew.cell? (A.add t) = some u) := by
    by_cases h : c = 1
    · refine ⟨⟨g, 0, none⟩, by simp [h], fun t u hu => ?_⟩
      have h0 : l = [] := List.eq_nil_of_length_eq_zero (by omega)
      subst h0; simp [ints] at hu
    · refine ⟨⟨g, 1, none⟩, by simp [h], fun t u hu => ?_⟩
      have := hr (t + 1) u (by simpa [ints] using hu)
      rw [Addr.add_lit, show 1 + t = 0 + (t + 1) from by omega]; exact this
  have s1 : Hid ((ints l).length = l.length * 1) := ints_len l
  have s2 : Hid (∀ u ∈ ints l, u.oneCell' = true) := ints_oneCell _ _
  have s3 : Hid (∀ t, t < (ints l).length → (w.drew.cell? ⟨g, 0 + 0 * 1 + t, none⟩).isSome = true ∧ w.drew.frozen? ⟨g, 0 + 0 * 1 + t, none⟩ = false) := by
    intro t ht
    rw [show 0 + 0 * 1 + t = t from by omega]
    have ht' : t < (ints (x :: l)).length := by rw [s1.out] at ht; rw [hlen]; omega
    exact ⟨hrow.isCell ht', hfz t⟩
  obtain ⟨W1, hW1⟩ : ∃ W1, W1 = w.drew.setCells g (0 + 0 * 1) (ints l) := ⟨_, rfl⟩
  have hR1 : RowF W1 F 2 1 (.slice (some ⟨g, 0, none⟩) (l.length + 1) c) (over (ints (x :: l)) 0 (ints l)) := by
    rw [hW1, show 0 + 0 * 1 = 0 from rfl]; exact RowF.setCells _ _ 0 w.drew hrow (by rw [hlen, s1.out]; omega)
  have hF1 : Fr (fun k => k = g) w W1 := by rw [hW1]; exact Fr.setCells (S := fun k => k = g) (Fr.refl.drew) (b := g) (.inl rfl) _ _
  obtain ⟨zs, hcl⟩ := run_clear_row (P := Try.prog) (t := 22) (sz := 1) (z := .int .i64 0) (i := l.length) Try.underlying22 zero2 rfl (by simp [Value.cells, Value.oneCell']) (by decide) hR1 (by rw [over_len, hlen]) (by omega) 0 (c - l.length)
  have hcut := hR1.cut (i := l.length) (by omega) zs
  rw [Nat.mul_one] at hcl hcut
  have hov : (over (ints (x :: l)) 0 (ints l)).take l.length = ints l := by
    have := over_take (ints l) (ints (x :: l)) 0 (by rw [hlen, s1.out]; omega)
    rw [s1.out] at this; simpa using this
  rw [hov] at hcut
  have H2 := hid hcut
  have H3 := hid (Fr.setCells (S := fun k => k = g) hF1 (b := g) (.inl rfl) zs l.length)
  have hW := hid hW1
  have e1 : l.length + 1 - l.length = 1 := by omega
  rw [e1] at hcl
  clear hcut hov hF1 hR1 hr hfz hlen hrow hW1 e1
  have hX := hid hnc
  have hb1 : (1 : Int) ≤ (l.length : Int) + 1 := by omega
  go_enter Try.func56, Try.ntmps56
  go_wp2_with fail
  go_region_law (refine step_append_room rfl (.tmp 22) (.tmp 25) 22 rfl 2 i0 1 Try.underlying22 hi0 hz1 g 0 0 c (by simp [Act.eval, Act.put]) A l.length (c - 1) (ints l) (by simp [Act.eval, Act.put]) s1.out hsrc.out s2.out (by omega) s3.out ?_; rw [← hW.out])
  go_wp2_with fail
  go_ret
  exact ⟨rfl, H2.out, H3.out⟩
end Go.Proofs.Yteffmnohgnmanaa
/- (*Chans).Recv: a theorem for each way. Printed by wip/gen/recv.py. -/
namespace Go.Proofs.Yteffmnohgnmanaa
open Go.RowKit
set_option linter.unusedVariables false
attribute [local go_sem ↓] Go.wp_at_zero Go.wp_at_succ
theorem fin24 {a : Act} {W : World} {R : Nat} {Q : Ending → World → Prop} {m : Mv} {wv : Value} {err : Int} (hd : a.defers = []) (h8 : a.tmps.getD 6 undef = .pointer (some ⟨R, 0, none⟩)) (h9 : a.tmps.getD 7 undef = .int .i64 err)
    (hR : W.heap[R]? = some (.cells #[.bool m.waits, .int .i64 m.value, .bool m.ok, .int .i64 m.trap, wv] 32 (0, 0))) (hQ : Q (.returned (tup2 (m.val wv) (.int .i64 err))) W) : bodyPost Try.prog Try.f24 Q .ret a W := by
  obtain ⟨⟨k0, k1, k2, k3, k4⟩, _⟩ := blk5 hR
  have h8' : a.tmps[6]?.getD undef = .pointer (some ⟨R, 0, none⟩) := by simpa using h8
  have h9' : a.tmps[7]?.getD undef = .int .i64 err := by simpa using h9
  exact bodyPost_ret (v := tup2 (m.val wv) (.int .i64 err)) (by simp [results, Try.results24, go_sem, h8', h9', k0, k1, k2, k3, k4, tup2, Mv.val]) hd hQ
theorem wake_is {w : World} {F : Nat → Prop} {g : Nat} {l : List Ch} (h : IsCh w F g l) (x : Wt) (v : Int) (ok : Bool) (trap : Int) (hn : l.length ≤ 1024) (hfit : ∀ c ∈ l, c.Fit) :
    Calls Try.prog 55 #[.pointer (some ⟨g, 0, none⟩), x.val, .int .i64 v, .bool ok, .int .i64 trap] w (WakePost F g l x v ok trap w) := by
  obtain ⟨v0, ms, h1, h2⟩ := h
  subst h2
  exact wake_ok h1 x v ok trap (by rw [← chs_len]; exact hn) (fun m hm => hfit _ (List.mem_map.2 ⟨m, hm, rfl⟩))
theorem c4fr {w w' : World} {S : Nat → Prop} {B : Nat} {a b c d : Value} (h : w.cell? ⟨B, 0, none⟩ = some a ∧ w.cell? ⟨B, 1, none⟩ = some b ∧ w.cell? ⟨B, 2, none⟩ = some c ∧ w.cell? ⟨B, 3, none⟩ = some d) (hf : Fr S w w') (hB : ¬ S B) :
    w'.cell? ⟨B, 0, none⟩ = some a ∧ w'.cell? ⟨B, 1, none⟩ = some b ∧ w'.cell? ⟨B, 2, none⟩ = some c ∧ w'.cell? ⟨B, 3, none⟩ = some d :=
  ⟨hf.cell h.1 hB, hf.cell h.2.1 hB, hf.cell h.2.2.1 hB, hf.cell h.2.2.2 hB⟩
theorem cell4 {w : World} {B : Nat} {x0 x1 x2 x3 : Value} {t : TypeId} (h : w.heap[B]? = some (.cells #[x0, x1, x2, x3] t (0, 0))) :
    w.cell? ⟨B, 0, none⟩ = some x0 ∧ w.cell? ⟨B, 1, none⟩ = some x1 ∧ w.cell? ⟨B, 2, none⟩ = some x2 ∧ w.cell? ⟨B, 3, none⟩ = some x3 :=
  ⟨cell_of_row w _ 0 _ _ _ h, cell_of_row w _ 1 _ _ _ h, cell_of_row w _ 2 _ _ _ h, cell_of_row w _ 3 _ _ _ h⟩
set_option maxHeartbeats 4000000 in
theorem recv_waits {w : World} {F : Nat → Prop} {g : Nat} {v0 : Value} {ms : List CM} (h : Chs w F g v0 ms) (gs gg : Int) (hn : ms.length ≤ 1024) (hfit : ∀ m ∈ ms, m.ch.Fit) (hw : waitsL gs gg (chs ms) = true) (ch : Int) :
    Calls Try.prog 24 #[.pointer (some ⟨g, 0, none⟩), .int .i64 ch, .agg #[.int .i64 gs, .int .i64 gg]] w (MvPost F g w (chs ms) {} 111) := by
  have H := hid h
  have hm := h.made
  have hgl := h.lt g h.mine
  have HW := hid hw
  clear h hw
  go_enter Try.func24, Try.ntmps24
  go_wp2_with (go_at_call 53; refine (is_made (g := g) (by rw [World.cell?_alloc_past _ _ _ (by simp; omega), World.cell?_alloc_past _ _ _ hgl]; exact hm)).mono ?_; rintro e w1 ⟨rfl, rfl⟩)
  generalize hW : ((w.alloc (Obj.cells #[Value.int IntKind.i64 gs, Value.int IntKind.i64 gg] 37)).alloc _) = W
  have hA := hid (show Fr E0 w W by rw [← hW]; exact (Fr.refl.alloc _).alloc _)
  have hT := hid (show W.heap[w.heap.size + 1]? = some (.cells #[Value.bool false, Value.int IntKind.i64 0, Value.bool false, Value.int IntKind.i64 0, Value.slice none 0 0] 32 (0, 0)) by rw [← hW]; exact heap_alloc2_new w _ _)
  have hG := hid (show W.heap[w.heap.size]? = some (.cells #[Value.int IntKind.i64 gs, Value.int IntKind.i64 gg] 37 (0, 0)) by rw [← hW]; exact heap_alloc2_old w _ _)
  clear hW hm
  obtain ⟨A, cp, hv, hrd⟩ := (atW H.out hA.out).rd
  refine (waits_ok hrd gs gg).mono ?_
  rintro e w1 ⟨rfl, hf1⟩
  rw [HW.out]
  have F1 := hid hf1
  have FA := hid (hA.out.trans hf1)
  have T1 := hid (hf1.heapAt hT.out (fun x => x))
  have G1 := hid (hf1.heapAt hG.out (fun x => x))
  obtain ⟨⟨b0, b1, b2, b3, b4⟩, z0, z1, z2, z3, z4⟩ := blk5 T1.out
  have RD := hid (hrd.fr hf1)
  clear hf1 hrd
  go_wp2_with fail
  have T5 := hid (set5_heap (w := w1) T1.out (.bool false) (.int .i64 0) (.bool false) (.int .i64 0) (.slice none 0 0))
  have S5 := hid (set5_fr (S := fun k => k = w.heap.size + 1) (w := w1) (B := w.heap.size + 1) rfl (.bool false) (.int .i64 0) (.bool false) (.int .i64 0) (.slice none 0 0))
  exact fin24 (m := {}) rfl rfl rfl T5.out ⟨_, rfl, RowF.nil, step_same H.out (Nat.le_succ _) FA.out S5.out⟩
set_option maxHeartbeats 4000000 in
theorem recv_out {w : World} {F : Nat → Prop} {g : Nat} {v0 : Value} {ms : List CM} (h : Chs w F g v0 ms) (gs gg : Int) (hn : ms.length ≤ 1024) (hfit : ∀ m ∈ ms, m.ch.Fit) (hw : waitsL gs gg (chs ms) = false) (ch : Int) (hch : ch < 0 ∨ (ms.length : Int) < ch) :
    Calls Try.prog 24 #[.pointer (some ⟨g, 0, none⟩), .int .i64 ch, .agg #[.int .i64 gs, .int .i64 gg]] w (MvPost F g w (chs ms) { trap := 4 } 0) := by
  have H := hid h
  have hm := h.made
  have hgl := h.lt g h.mine
  have HW := hid hw
  clear h hw
  go_enter Try.func24, Try.ntmps24
  go_wp2_with (go_at_call 53; refine (is_made (g := g) (by rw [World.cell?_alloc_past _ _ _ (by simp; omega), World.cell?_alloc_past _ _ _ hgl]; exact hm)).mono ?_; rintro e w1 ⟨rfl, rfl⟩)
  generalize hW : ((w.alloc (Obj.cells #[Value.int IntKind.i64 gs, Value.int IntKind.i64 gg] 37)).alloc _) = W
  have hA := hid (show Fr E0 w W by rw [← hW]; exact (Fr.refl.alloc _).alloc _)
  have hT := hid (show W.heap[w.heap.size + 1]? = some (.cells #[Value.bool false, Value.int IntKind.i64 0, Value.bool false, Value.int IntKind.i64 0, Value.slice none 0 0] 32 (0, 0)) by rw [← hW]; exact heap_alloc2_new w _ _)
  have hG := hid (show W.heap[w.heap.size]? = some (.cells #[Value.int IntKind.i64 gs, Value.int IntKind.i64 gg] 37 (0, 0)) by rw [← hW]; exact heap_alloc2_old w _ _)
  clear hW hm
  obtain ⟨A, cp, hv, hrd⟩ := (atW H.out hA.out).rd
  refine (waits_ok hrd gs gg).mono ?_
  rintro e w1 ⟨rfl, hf1⟩
  rw [HW.out]
  have F1 := hid hf1
  have FA := hid (hA.out.trans hf1)
  have T1 := hid (hf1.heapAt hT.out (fun x => x))
  have G1 := hid (hf1.heapAt hG.out (fun x => x))
  obtain ⟨⟨b0, b1, b2, b3, b4⟩, z0, z1, z2, z3, z4⟩ := blk5 T1.out
  have RD := hid (hrd.fr hf1)
  clear hf1 hrd
  have HC := hid hch; clear hch
  go_wp2_with (go_at_call 54; refine (at_out RD.out ch HC.out).mono ?_; rintro e w2 ⟨rfl, rfl⟩; simp only [tup2])
  have T5 := hid (set5_heap (w := w1) T1.out (.bool false) (.int .i64 0) (.bool false) (.int .i64 4) (.slice none 0 0))
  have S5 := hid (set5_fr (S := fun k => k = w.heap.size + 1) (w := w1) (B := w.heap.size + 1) rfl (.bool false) (.int .i64 0) (.bool false) (.int .i64 4) (.slice none 0 0))
  exact fin24 (m := { trap := 4 }) rfl rfl rfl T5.out ⟨_, rfl, RowF.nil, step_same H.out (Nat.le_succ _) FA.out S5.out⟩
set_option maxHeartbeats 4000000 in
theorem recv_nil {w : World} {F : Nat → Prop} {g : Nat} {v0 : Value} {ms : List CM} (h : Chs w F g v0 ms) (gs gg : Int) (hn : ms.length ≤ 1024) (hfit : ∀ m ∈ ms, m.ch.Fit) (hw : waitsL gs gg (chs ms) = false) :
    Calls Try.prog 24 #[.pointer (some ⟨g, 0, none⟩), .int .i64 0, .agg #[.int .i64 gs, .int .i64 gg]] w (MvPost F g w (chs ms) { waits := true } 0) := by
  have H := hid h
  have hm := h.made
  have hgl := h.lt g h.mine
  have HW := hid hw
  clear h hw
  go_enter Try.func24, Try.ntmps24
  go_wp2_with (go_at_call 53; refine (is_made (g := g) (by rw [World.cell?_alloc_past _ _ _ (by simp; omega), World.cell?_alloc_past _ _ _ hgl]; exact hm)).mono ?_; rintro e w1 ⟨rfl, rfl⟩)
  generalize hW : ((w.alloc (Obj.cells #[Value.int IntKind.i64 gs, Value.int IntKind.i64 gg] 37)).alloc _) = W
  have hA := hid (show Fr E0 w W by rw [← hW]; exact (Fr.refl.alloc _).alloc _)
  have hT := hid (show W.heap[w.heap.size + 1]? = some (.cells #[Value.bool false, Value.int IntKind.i64 0, Value.bool false, Value.int IntKind.i64 0, Value.slice none 0 0] 32 (0, 0)) by rw [← hW]; exact heap_alloc2_new w _ _)
  have hG := hid (show W.heap[w.heap.size]? = some (.cells #[Value.int IntKind.i64 gs, Value.int IntKind.i64 gg] 37 (0, 0)) by rw [← hW]; exact heap_alloc2_old w _ _)
  clear hW hm
  obtain ⟨A, cp, hv, hrd⟩ := (atW H.out hA.out).rd
  refine (waits_ok hrd gs gg).mono ?_
  rintro e w1 ⟨rfl, hf1⟩
  rw [HW.out]
  have F1 := hid hf1
  have FA := hid (hA.out.trans hf1)
  have T1 := hid (hf1.heapAt hT.out (fun x => x))
  have G1 := hid (hf1.heapAt hG.out (fun x => x))
  obtain ⟨⟨b0, b1, b2, b3, b4⟩, z0, z1, z2, z3, z4⟩ := blk5 T1.out
  have RD := hid (hrd.fr hf1)
  clear hf1 hrd
  go_wp2_with (go_at_call 54; refine (at_zero RD.out).mono ?_; rintro e w2 ⟨rfl, rfl⟩; simp only [tup2])
  have T5 := hid (set5_heap (w := w1) T1.out (.bool true) (.int .i64 0) (.bool false) (.int .i64 0) (.slice none 0 0))
  have S5 := hid (set5_fr (S := fun k => k = w.heap.size + 1) (w := w1) (B := w.heap.size + 1) rfl (.bool true) (.int .i64 0) (.bool false) (.int .i64 0) (.slice none 0 0))
  exact fin24 (m := { waits := true }) rfl rfl rfl T5.out ⟨_, rfl, RowF.nil, step_same H.out (Nat.le_succ _) FA.out S5.out⟩
set_option maxHeartbeats 4000000 in
theorem recv_closed {w : World} {F : Nat → Prop} {g : Nat} {v0 : Value} {ms : List CM} (h : Chs w F g v0 ms) (gs gg : Int) (hn : ms.length ≤ 1024) (hfit : ∀ m ∈ ms, m.ch.Fit) (hw : waitsL gs gg (chs ms) = false) {k : Nat} {m : CM} (hk : ms[k]? = some m) (hv : m.ch.vals = []) (hs : m.ch.snd = []) (hcl : m.ch.cl = true) :
    Calls Try.prog 24 #[.pointer (some ⟨g, 0, none⟩), .int .i64 ((k : Int) + 1), .agg #[.int .i64 gs, .int .i64 gg]] w (MvPost F g w (chs ms) {} 0) := by
  have H := hid h
  have hm := h.made
  have hgl := h.lt g h.mine
  have HW := hid hw
  clear h hw
  go_enter Try.func24, Try.ntmps24
  go_wp2_with (go_at_call 53; refine (is_made (g := g) (by rw [World.cell?_alloc_past _ _ _ (by simp; omega), World.cell?_alloc_past _ _ _ hgl]; exact hm)).mono ?_; rintro e w1 ⟨rfl, rfl⟩)
  generalize hW : ((w.alloc (Obj.cells #[Value.int IntKind.i64 gs, Value.int IntKind.i64 gg] 37)).alloc _) = W
  have hA := hid (show Fr E0 w W by rw [← hW]; exact (Fr.refl.alloc _).alloc _)
  have hT := hid (show W.heap[w.heap.size + 1]? = some (.cells #[Value.bool false, Value.int IntKind.i64 0, Value.bool false, Value.int IntKind.i64 0, Value.slice none 0 0] 32 (0, 0)) by rw [← hW]; exact heap_alloc2_new w _ _)
  have hG := hid (show W.heap[w.heap.size]? = some (.cells #[Value.int IntKind.i64 gs, Value.int IntKind.i64 gg] 37 (0, 0)) by rw [← hW]; exact heap_alloc2_old w _ _)
  clear hW hm
  obtain ⟨L, cp, hv, hFL, _⟩ := H.out.at hk
  subst hv
  have hrd := (atW H.out hA.out).rdAt
  refine (waits_ok hrd gs gg).mono ?_
  rintro e w1 ⟨rfl, hf1⟩
  rw [HW.out]
  have F1 := hid hf1
  have FA := hid (hA.out.trans hf1)
  have T1 := hid (hf1.heapAt hT.out (fun x => x))
  have G1 := hid (hf1.heapAt hG.out (fun x => x))
  obtain ⟨⟨b0, b1, b2, b3, b4⟩, z0, z1, z2, z3, z4⟩ := blk5 T1.out
  have RD := hid (hrd.fr hf1)
  clear hf1 hrd
  have C1 := hid (atW H.out FA.out)
  obtain ⟨_, _, e0, _, c0, c1, c2, c3, c4, hfz⟩ := C1.out.at hk
  cases e0
  have HFZ := hid hfz
  have hlk := lt_of_get hk
  have HK := hid hk
  have O1 := hid (C1.out.own.each m (List.mem_of_getElem? hk))
  clear hk hfz
  obtain ⟨A1, n1', e1, _, hm1, _⟩ := O1.out.vals.read (by decide) (ints_len _)
  obtain ⟨A2, n2', e2, _, hm2, _⟩ := O1.out.snd.read (by decide) (wts_len _)
  obtain ⟨A3, n3', e3, _, hm3, _⟩ := O1.out.rcv.read (by decide) (wts_len _)
  rw [hv] at e1
  rw [e1] at c1
  rw [hs] at e2
  rw [e2] at c2
  rw [hcl] at c4
  clear e1 e2 e3
  go_wp2_with (go_at_call 54; refine (at_in RD.out k hlk).mono ?_; rintro e w2 ⟨rfl, rfl⟩; simp only [tup2, Nat.zero_add])
  have T5 := hid (set5_heap (w := w1) T1.out (.bool false) (.int .i64 0) (.bool false) (.int .i64 0) (.slice none 0 0))
  have S5 := hid (set5_fr (S := fun k => k = w.heap.size + 1) (w := w1) (B := w.heap.size + 1) rfl (.bool false) (.int .i64 0) (.bool false) (.int .i64 0) (.slice none 0 0))
  exact fin24 (m := {}) rfl rfl rfl T5.out ⟨_, rfl, RowF.nil, step_same H.out (Nat.le_succ _) FA.out S5.out⟩
set_option maxHeartbeats 4000000 in
theorem recv_wakes {w : World} {F : Nat → Prop} {g : Nat} {v0 : Value} {ms : List CM} (h : Chs w F g v0 ms) (gs gg : Int) (hn : ms.length ≤ 1024) (hfit : ∀ m ∈ ms, m.ch.Fit) (hw : waitsL gs gg (chs ms) = false) {k : Nat} {m : CM} (hk : ms[k]? = some m) (hv : m.ch.vals = []) {x : Wt} {r : List Wt} (hs : m.ch.snd = x :: r) :
    Calls Try.prog 24 #[.pointer (some ⟨g, 0, none⟩), .int .i64 ((k : Int) + 1), .agg #[.int .i64 gs, .int .i64 gg]] w (MvPost F g w (leaveL x.s x.g (chs ms)) { value := x.v, ok := true, woken := [⟨x.s, x.g, x.c, 0, true, 0⟩] } 0) := by
  have H := hid h
  have hm := h.made
  have hgl := h.lt g h.mine
  have HW := hid hw
  clear h hw
  go_enter Try.func24, Try.ntmps24
  go_wp2_with (go_at_call 53; refine (is_made (g := g) (by rw [World.cell?_alloc_past _ _ _ (by simp; omega), World.cell?_alloc_past _ _ _ hgl]; exact hm)).mono ?_; rintro e w1 ⟨rfl, rfl⟩)
  generalize hW : ((w.alloc (Obj.cells #[Value.int IntKind.i64 gs, Value.int IntKind.i64 gg] 37)).alloc _) = W
  have hA := hid (show Fr E0 w W by rw [← hW]; exact (Fr.refl.alloc _).alloc _)
  have hT := hid (show W.heap[w.heap.size + 1]? = some (.cells #[Value.bool false, Value.int IntKind.i64 0, Value.bool false, Value.int IntKind.i64 0, Value.slice none 0 0] 32 (0, 0)) by rw [← hW]; exact heap_alloc2_new w _ _)
  have hG := hid (show W.heap[w.heap.size]? = some (.cells #[Value.int IntKind.i64 gs, Value.int IntKind.i64 gg] 37 (0, 0)) by rw [← hW]; exact heap_alloc2_old w _ _)
  clear hW hm
  obtain ⟨L, cp, hv, hFL, _⟩ := H.out.at hk
  subst hv
  have hrd := (atW H.out hA.out).rdAt
  refine (waits_ok hrd gs gg).mono ?_
  rintro e w1 ⟨rfl, hf1⟩
  rw [HW.out]
  have F1 := hid hf1
  have FA := hid (hA.out.trans hf1)
  have T1 := hid (hf1.heapAt hT.out (fun x => x))
  have G1 := hid (hf1.heapAt hG.out (fun x => x))
  obtain ⟨⟨b0, b1, b2, b3, b4⟩, z0, z1, z2, z3, z4⟩ := blk5 T1.out
  have RD := hid (hrd.fr hf1)
  clear hf1 hrd
  have C1 := hid (atW H.out FA.out)
  obtain ⟨_, _, e0, _, c0, c1, c2, c3, c4, hfz⟩ := C1.out.at hk
  cases e0
  have HFZ := hid hfz
  have hlk := lt_of_get hk
  have HK := hid hk
  have O1 := hid (C1.out.own.each m (List.mem_of_getElem? hk))
  clear hk hfz
  obtain ⟨A1, n1', e1, _, hm1, _⟩ := O1.out.vals.read (by decide) (ints_len _)
  obtain ⟨A2, n2', e2, _, hm2, _⟩ := O1.out.snd.read (by decide) (wts_len _)
  obtain ⟨A3, n3', e3, _, hm3, _⟩ := O1.out.rcv.read (by decide) (wts_len _)
  rw [hv] at e1
  rw [e1] at c1
  have hx : m.ch.snd[0]? = some x := by rw [hs]; rfl
  rcases O1.out.snd.form (by decide) (wts_len _) with ⟨_, h0, _⟩ | ⟨b3', p3, hv3, _, _, hn3, _, hr3, _⟩
  · rw [hs] at h0; simp at h0
  obtain ⟨d0, d1, d2, d3⟩ := hr3.wt hx
  simp only [Nat.zero_add, Nat.zero_mul] at d0 d1 d2 d3
  have hl3 : m.ch.snd.length = r.length + 1 := by rw [hs]; rfl
  rw [hl3] at hv3 hn3
  rw [hv3] at c2
  clear hr3 hs hx hv3 hl3 e1 e2 e3
  go_wp2_with (first
    | (go_at_call 54; refine (at_in RD.out k hlk).mono ?_; rintro e w2 ⟨rfl, rfl⟩; simp only [tup2, Nat.zero_add]))
  generalize hW : w1.alloc (Obj.cells #[Value.int IntKind.i64 x.s, Value.int IntKind.i64 x.g, Value.int IntKind.i64 x.c, Value.int IntKind.i64 x.v] 114) = W
  have FB := hid (show Fr E0 w1 W by rw [← hW]; exact Fr.refl.alloc _)
  have X1 := hid (show W.heap[w1.heap.size]? = some (.cells #[Value.int IntKind.i64 x.s, Value.int IntKind.i64 x.g, Value.int IntKind.i64 x.c, Value.int IntKind.i64 x.v] 114 (0, 0)) by rw [← hW]; exact heap_alloc_new w1 _)
  have C2 := hid ((C1.out.fr FB.out (fun _ _ x => x)).fr (Fr.refl (S := E0) |>.drew) (fun _ _ x => x))
  have TB := hid (FB.out.heapAt T1.out (fun x => x))
  have hBF : ¬ F w1.heap.size := fun hx => by have := H.out.lt _ hx; have := FA.out.size; omega
  have HBF := hid hBF
  have hR1 := heap_lt T1.out
  clear hW d0 d1 d2 d3 c0 c1 c2 c3 c4 b0 b1 b2 b3 b4 z0 z1 z2 z3 z4 hBF
  have X4 := hid (cell4 (w := W.drew) X1.out)
  go_region_held3 (fun w' => w'.cell? ⟨w1.heap.size, 0, none⟩ = some (.int .i64 x.s) ∧ w'.cell? ⟨w1.heap.size, 1, none⟩ = some (.int .i64 x.g) ∧ w'.cell? ⟨w1.heap.size, 2, none⟩ = some (.int .i64 x.c) ∧ w'.cell? ⟨w1.heap.size, 3, none⟩ = some (.int .i64 x.v))
    (first | (with_reducible exact X4.out) | (with_reducible exact hk2.out) | (with_reducible exact hk3.out) | exact hk4.out)
    (first
      | (go_at_call 55; refine (wake_ok C2.out x 0 true 0 hn hfit).mono ?_; rintro e w2 ⟨rfl, hl2, hf2⟩; simp only [Wk.val]; have hk2 := hid (c4fr (by assumption) hf2 HBF.out); have hk3 := hid (c4fr hk2.out (Fr.refl (S := E0) |>.alloc (.cells #[.int .i64 x.s, .int .i64 x.g, .int .i64 x.c, .int .i64 0, .bool true, .int .i64 0] 39)) (fun x => x)); have hk4 := hid (c4fr hk3.out (set5_fr (S := fun q => q = w.heap.size + 1) (B := w.heap.size + 1) rfl (.bool false) (.int .i64 x.v) (.bool true) (.int .i64 0) (.slice (some ⟨w2.heap.size, 0, none⟩) 1 1)) (fun h => by omega)); unfold set5 at hk4; have L2 := hid hl2; have F2 := hid hf2; have T2 := hid ((Fr.refl (S := E0) |>.alloc (.cells #[.int .i64 x.s, .int .i64 x.g, .int .i64 x.c, .int .i64 0, .bool true, .int .i64 0] 39)).heapAt (hf2.heapAt (w := W.drew) TB.out (fun hx => by have := H.out.lt _ hx; omega)) (fun x => x)); clear hl2 hf2; obtain ⟨⟨b0, b1, b2, b3, b4⟩, z0, z1, z2, z3, z4⟩ := blk5 T2.out))
  have hR2 := hid (rowNew w2 w (Nat.le_trans FA.out.size (Nat.le_trans FB.out.size F2.out.size)) [⟨x.s, x.g, x.c, 0, true, 0⟩] (show 1 ≤ maxLen by decide) _ rfl)
  have FC := hid (FA.out.e0 (S := F) |>.trans (FB.out.e0 |>.trans (Fr.refl.drew |>.trans F2.out)))
  have HNE : Hid (¬ w2.heap.size = w.heap.size + 1) := fun e => by have h1 := hR1; have h2 : w1.heap.size ≤ W.heap.size := FB.out.size; have h3 : W.heap.size ≤ w2.heap.size := F2.out.size; omega
  go_wp2_with fail
  have T5 := hid (set5_heap (w := (w2.alloc (.cells #[.int .i64 x.s, .int .i64 x.g, .int .i64 x.c, .int .i64 0, .bool true, .int .i64 0] 39))) T2.out (.bool false) (.int .i64 x.v) (.bool true) (.int .i64 0) (.slice (some ⟨w2.heap.size, 0, none⟩) 1 1))
  have S5 := hid (set5_fr (S := fun k => k = w.heap.size + 1) (w := (w2.alloc (.cells #[.int .i64 x.s, .int .i64 x.g, .int .i64 x.c, .int .i64 0, .bool true, .int .i64 0] 39))) (B := w.heap.size + 1) rfl (.bool false) (.int .i64 x.v) (.bool true) (.int .i64 0) (.slice (some ⟨w2.heap.size, 0, none⟩) 1 1))
  exact fin24 (m := { value := x.v, ok := true, woken := [⟨x.s, x.g, x.c, 0, true, 0⟩] }) rfl rfl rfl T5.out ⟨_, rfl, (hR2.out.fr S5.out (fun q hq e => HNE.out (by simp [Value.ownBlock] at hq; omega))), ((L2.out.fr (Fr.refl.alloc _) (fun _ _ x => x)).fr S5.out (fun q hq e => by have := H.out.lt q hq; omega)).step (fun q hq => .inl hq) ((FC.out.trans (Fr.refl.alloc _)).trans' S5.out (fun i hi => .inr (by omega)))⟩
set_option maxHeartbeats 4000000 in
theorem recv_queues {w : World} {F : Nat → Prop} {g : Nat} {v0 : Value} {ms : List CM} (h : Chs w F g v0 ms) (gs gg : Int) (hn : ms.length ≤ 1024) (hfit : ∀ m ∈ ms, m.ch.Fit) (hw : waitsL gs gg (chs ms) = false) {k : Nat} {m : CM} (hk : ms[k]? = some m) (hv : m.ch.vals = []) (hs : m.ch.snd = []) (hcl : m.ch.cl = false) (hroom : (m.ch.rcv.length + 1) * 32 ≤ 140737488355328) :
    Calls Try.prog 24 #[.pointer (some ⟨g, 0, none⟩), .int .i64 ((k : Int) + 1), .agg #[.int .i64 gs, .int .i64 gg]] w (MvPost F g w ((chs ms).set k { m.ch with rcv := m.ch.rcv ++ [⟨gs, gg, 0, 0⟩] }) { waits := true } 0) := by
  have H := hid h
  have hm := h.made
  have hgl := h.lt g h.mine
  have HW := hid hw
  clear h hw
  go_enter Try.func24, Try.ntmps24
  go_wp2_with (go_at_call 53; refine (is_made (g := g) (by rw [World.cell?_alloc_past _ _ _ (by simp; omega), World.cell?_alloc_past _ _ _ hgl]; exact hm)).mono ?_; rintro e w1 ⟨rfl, rfl⟩)
  generalize hW : ((w.alloc (Obj.cells #[Value.int IntKind.i64 gs, Value.int IntKind.i64 gg] 37)).alloc _) = W
  have hA := hid (show Fr E0 w W by rw [← hW]; exact (Fr.refl.alloc _).alloc _)
  have hT := hid (show W.heap[w.heap.size + 1]? = some (.cells #[Value.bool false, Value.int IntKind.i64 0, Value.bool false, Value.int IntKind.i64 0, Value.slice none 0 0] 32 (0, 0)) by rw [← hW]; exact heap_alloc2_new w _ _)
  have hG := hid (show W.heap[w.heap.size]? = some (.cells #[Value.int IntKind.i64 gs, Value.int IntKind.i64 gg] 37 (0, 0)) by rw [← hW]; exact heap_alloc2_old w _ _)
  clear hW hm
  obtain ⟨L, cp, hv, hFL, _⟩ := H.out.at hk
  subst hv
  have hrd := (atW H.out hA.out).rdAt
  refine (waits_ok hrd gs gg).mono ?_
  rintro e w1 ⟨rfl, hf1⟩
  rw [HW.out]
  have F1 := hid hf1
  have FA := hid (hA.out.trans hf1)
  have T1 := hid (hf1.heapAt hT.out (fun x => x))
  have G1 := hid (hf1.heapAt hG.out (fun x => x))
  obtain ⟨⟨b0, b1, b2, b3, b4⟩, z0, z1, z2, z3, z4⟩ := blk5 T1.out
  have RD := hid (hrd.fr hf1)
  clear hf1 hrd
  have C1 := hid (atW H.out FA.out)
  obtain ⟨_, _, e0, _, c0, c1, c2, c3, c4, hfz⟩ := C1.out.at hk
  cases e0
  have HFZ := hid hfz
  have hlk := lt_of_get hk
  have HK := hid hk
  have O1 := hid (C1.out.own.each m (List.mem_of_getElem? hk))
  clear hk hfz
  obtain ⟨A1, n1', e1, _, hm1, _⟩ := O1.out.vals.read (by decide) (ints_len _)
  obtain ⟨A2, n2', e2, _, hm2, _⟩ := O1.out.snd.read (by decide) (wts_len _)
  obtain ⟨A3, n3', e3, _, hm3, _⟩ := O1.out.rcv.read (by decide) (wts_len _)
  rw [hv] at e1
  rw [e1] at c1
  rw [hs] at e2
  rw [e2] at c2
  rw [hcl] at c4
  rw [e3] at c3
  have E3 := hid e3
  clear e1 e2 e3 hcl hs hv
  obtain ⟨i0, hi0, hz0, hz1, hz2⟩ := info_parts info114
  have hf1 := HFZ.out (k * 5 + 3)
  obtain ⟨y0, y1, _, _⟩ := cell2 G1.out
  have CA := hid (C1.out.fr (Fr.refl (S := E0) |>.alloc (.cells #[.int .i64 gs, .int .i64 gg, .int .i64 0, .int .i64 0] 114)) (fun _ _ x => x))
  have OA := hid (CA.out.own.each m (List.mem_of_getElem? HK.out))
  have hown0 := hid (show World.ownsRow (w1.alloc (.cells #[.int .i64 gs, .int .i64 gg, .int .i64 0, .int .i64 0] 114)) 0 114 4 (.slice A3 m.ch.rcv.length n3') m.ch.rcv.length (wts m.ch.rcv) by rw [← E3.out]; exact OA.out.rcv.own (by decide) (wts_len _))
  have hnL : (Value.slice A3 m.ch.rcv.length n3').ownBlock ≠ some L := fun hx => C1.out.own.row.ne_type O1.out.rcv (by decide) rfl (by rw [E3.out]; exact hx)
  have hnR : (Value.slice A3 m.ch.rcv.length n3').ownBlock ≠ some (w.heap.size + 1) := fun hx => by have := H.out.lt _ (O1.out.rcv.2 _ (by rw [E3.out]; exact hx)); omega
  have hLl : L < w1.heap.size := C1.out.lt L hFL
  have hRl := heap_lt T1.out
  have hLw : L < w.heap.size := H.out.lt L hFL
  have hLR : ¬ L = w.heap.size + 1 := by omega
  have hLR' : ¬ w.heap.size + 1 = L := by omega
  have TA := hid ((Fr.refl (S := E0) |>.alloc (.cells #[.int .i64 gs, .int .i64 gg, .int .i64 0, .int .i64 0] 114)).heapAt T1.out (fun x => x))
  clear b0 b1 b2 b3 b4 z0 z1 z2 z3 z4
  go_wp2_with (first
    | (go_at_call 54; refine (at_in RD.out k hlk).mono ?_; rintro e w2 ⟨rfl, rfl⟩; simp only [tup2, Nat.zero_add]))
  go_region_law (refine step_append_lies _ (by rfl) (.tmp 117) (.tmp 120) 65 (by rfl) 0 114 i0 (.agg #[.int .i64 0, .int .i64 0, .int .i64 0, .int .i64 0]) 4 32 Try.underlying65 hi0 hz0 hz1 hz2 rfl (by decide) (.slice A3 m.ch.rcv.length n3') m.ch.rcv.length (wts m.ch.rcv) (by rfl) hown0.out ⟨w1.heap.size, 0, none⟩ 1 1 [.int .i64 gs, .int .i64 gg, .int .i64 0, .int .i64 0] (by rfl) (by rfl) (news1 _ _) (by simp [Value.oneCell']) (by decide) (by unfold maxLen; omega) (by omega) (Nat.zero_le _) (w1.heap.size + 1) (by simp) ?_; intro gb cap w3 hown3 hgrow3 hat3 hlt3; have x1 : w3.cell? ⟨L, k * 5 + 3, none⟩ = some (.slice A3 m.ch.rcv.length n3') := hgrow3.cell (cellA hLl c3) (fun e => hnL e.symm); have x2 : w3.frozen? ⟨L, k * 5 + 3, none⟩ = false := (by rw [hgrow3.frozen_far _ (Nat.lt_of_lt_of_le hLl (by simp)) (fun e => hnL e.symm)]; exact frozenA hLl hf1); have FG := hid (Fr.refl.grown (S := fun q => (Value.slice A3 m.ch.rcv.length n3').ownBlock = some q) hgrow3 (fun q hq => .inl hq)); have T3 := hid (FG.out.heapAt TA.out hnR); have HN := hid (And.intro hown3 (And.intro hgrow3 (And.intro hat3 hlt3))); clear hown3 hgrow3 hat3 hlt3; obtain ⟨⟨b0, b1, b2, b3, b4⟩, z0, z1, z2, z3, z4⟩ := blk5 T3.out)
  all_goals
    go_wp2_with fail
    have T4 := hid ((heap_setCell_other w3 ⟨L, k * 5 + 3, none⟩ (w.heap.size + 1) (.slice (some ⟨gb, 0, none⟩) (m.ch.rcv.length + 1) cap) hLR').trans T3.out)
    have ST := hid (appendR (m := m) (l' := m.ch.rcv ++ [⟨gs, gg, 0, 0⟩]) CA.out HK.out hFL (by rw [wts_app]; exact HN.out.1) (by rw [E3.out]; exact undrew HN.out.2.1) (by rw [E3.out]; simpa using HN.out.2.2.1) HN.out.2.2.2)
    have T5 := hid (set5_heap (w := w3.setCell ⟨L, k * 5 + 3, none⟩ (.slice (some ⟨gb, 0, none⟩) (m.ch.rcv.length + 1) cap)) T4.out (.bool true) (.int .i64 0) (.bool false) (.int .i64 0) (.slice none 0 0))
    have S5 := hid (set5_fr (S := fun k => k = w.heap.size + 1) (w := w3.setCell ⟨L, k * 5 + 3, none⟩ (.slice (some ⟨gb, 0, none⟩) (m.ch.rcv.length + 1) cap)) (B := w.heap.size + 1) rfl (.bool true) (.int .i64 0) (.bool false) (.int .i64 0) (.slice none 0 0))
    exact fin24 (m := { waits := true }) rfl rfl rfl T5.out ⟨_, rfl, RowF.nil, ST.out.then (FA.out.trans (Fr.refl.alloc _)) H.out.lt S5.out (fun q hq => by subst hq; exact ⟨Nat.le_succ _, by simp; omega⟩)⟩
set_option maxHeartbeats 4000000 in
theorem recv_value {w : World} {F : Nat → Prop} {g : Nat} {v0 : Value} {ms : List CM} (h : Chs w F g v0 ms) (gs gg : Int) (hn : ms.length ≤ 1024) (hfit : ∀ m ∈ ms, m.ch.Fit) (hw : waitsL gs gg (chs ms) = false) {k : Nat} {m : CM} (hk : ms[k]? = some m) {v : Int} {vs : List Int} (hv : m.ch.vals = v :: vs) (hs : m.ch.snd = []) :
    Calls Try.prog 24 #[.pointer (some ⟨g, 0, none⟩), .int .i64 ((k : Int) + 1), .agg #[.int .i64 gs, .int .i64 gg]] w (MvPost F g w ((chs ms).set k { m.ch with vals := vs }) { value := v, ok := true } 0) := by
  have H := hid h
  have hm := h.made
  have hgl := h.lt g h.mine
  have HW := hid hw
  clear h hw
  go_enter Try.func24, Try.ntmps24
  go_wp2_with (go_at_call 53; refine (is_made (g := g) (by rw [World.cell?_alloc_past _ _ _ (by simp; omega), World.cell?_alloc_past _ _ _ hgl]; exact hm)).mono ?_; rintro e w1 ⟨rfl, rfl⟩)
  generalize hW : ((w.alloc (Obj.cells #[Value.int IntKind.i64 gs, Value.int IntKind.i64 gg] 37)).alloc _) = W
  have hA := hid (show Fr E0 w W by rw [← hW]; exact (Fr.refl.alloc _).alloc _)
  have hT := hid (show W.heap[w.heap.size + 1]? = some (.cells #[Value.bool false, Value.int IntKind.i64 0, Value.bool false, Value.int IntKind.i64 0, Value.slice none 0 0] 32 (0, 0)) by rw [← hW]; exact heap_alloc2_new w _ _)
  have hG := hid (show W.heap[w.heap.size]? = some (.cells #[Value.int IntKind.i64 gs, Value.int IntKind.i64 gg] 37 (0, 0)) by rw [← hW]; exact heap_alloc2_old w _ _)
  clear hW hm
  obtain ⟨L, cp, hv, hFL, _⟩ := H.out.at hk
  subst hv
  have hrd := (atW H.out hA.out).rdAt
  refine (waits_ok hrd gs gg).mono ?_
  rintro e w1 ⟨rfl, hf1⟩
  rw [HW.out]
  have F1 := hid hf1
  have FA := hid (hA.out.trans hf1)
  have T1 := hid (hf1.heapAt hT.out (fun x => x))
  have G1 := hid (hf1.heapAt hG.out (fun x => x))
  obtain ⟨⟨b0, b1, b2, b3, b4⟩, z0, z1, z2, z3, z4⟩ := blk5 T1.out
  have RD := hid (hrd.fr hf1)
  clear hf1 hrd
  have C1 := hid (atW H.out FA.out)
  obtain ⟨_, _, e0, _, c0, c1, c2, c3, c4, hfz⟩ := C1.out.at hk
  cases e0
  have HFZ := hid hfz
  have hlk := lt_of_get hk
  have HK := hid hk
  have O1 := hid (C1.out.own.each m (List.mem_of_getElem? hk))
  clear hk hfz
  rcases O1.out.vals.form (by decide) (ints_len _) with ⟨_, h0, _⟩ | ⟨b1', p1, hv1, hFb, _, hn1, hm1, hr1, _⟩
  · rw [hv] at h0; simp at h0
  have hlv : m.ch.vals.length = vs.length + 1 := by rw [hv]; rfl
  rw [hlv] at hv1 hn1
  rw [hv1] at c1
  have d0 : w1.cell? ⟨b1', 0, none⟩ = some (.int .i64 v) := hr1 0 _ (by rw [hv]; rfl)
  have E1 := hid hv1
  have HVV := hid hv
  obtain ⟨A2, n2', e2, _, hm2, _⟩ := O1.out.snd.read (by decide) (wts_len _)
  rw [e2] at c2
  have E2 := hid e2
  have hm1' : p1 ≤ 2 ^ 63 - 1 := hm1
  have hm2' : m.ch.snd.length ≤ 2 ^ 63 - 1 := by rcases O1.out.snd.form (by decide) (wts_len _) with ⟨_, h0, _⟩ | ⟨_, _, _, _, _, h1, h2, _⟩; (omega); (exact Nat.le_trans h1 h2)
  have hLl : L < w1.heap.size := C1.out.lt L hFL
  clear hr1 hv hv1 e2 hm1 hm2
  go_wp2_with (first
    | (go_at_call 54; refine (at_in RD.out k hlk).mono ?_; rintro e w2 ⟨rfl, rfl⟩; simp only [tup2, Nat.zero_add]))
  generalize hW : w1.alloc (Obj.cells #[Value.bool false, Value.int IntKind.i64 v, Value.bool true, Value.int IntKind.i64 0, Value.slice none 0 0] 32) = W
  have FB := hid (show Fr E0 w1 W by rw [← hW]; exact Fr.refl.alloc _)
  have M1 := hid (show W.heap[w1.heap.size]? = some (.cells #[Value.bool false, Value.int IntKind.i64 v, Value.bool true, Value.int IntKind.i64 0, Value.slice none 0 0] 32 (0, 0)) by rw [← hW]; exact heap_alloc_new w1 _)
  have C2 := hid (C1.out.fr FB.out (fun _ _ x => x))
  have TB := hid (FB.out.heapAt T1.out (fun x => x))
  have hBF : ¬ F w1.heap.size := fun hx => by have := H.out.lt _ hx; have := FA.out.size; omega
  have hRF : ¬ F (w.heap.size + 1) := fun hx => by have := H.out.lt _ hx; omega
  have HBF := hid hBF
  have HRF := hid hRF
  have hR1 := heap_lt T1.out
  have O2 := hid (C2.out.own.each m (List.mem_of_getElem? HK.out))
  have RV := hid (show RowF W F 2 1 (.slice (some ⟨b1', 0, none⟩) (vs.length + 1) p1) (ints (v :: vs)) by rw [← E1.out, ← HVV.out]; exact O2.out.vals)
  have hbL : ¬ b1' = L := fun e => C2.out.own.row.ne_type RV.out (by decide) (g := L) rfl (by rw [← e]; rfl)
  have hbL' : ¬ L = b1' := fun e => hbL e.symm
  clear hW d0 c0 c1 c2 c3 c4 b0 b1 b2 b3 b4 z0 z1 z2 z3 z4 hBF hRF
  obtain ⟨_, _, e0, _, c0, c1, c2, c3, c4, hfz⟩ := C2.out.at HK.out
  cases e0
  rw [E1.out] at c1
  rw [E2.out] at c2
  refine (delete01 b1' p1 (vs.length + 1) v vs W F rfl RV.out).mono ?_
  rintro e w2 ⟨rfl, hr2, hf2⟩
  have x1 : w2.cell? ⟨L, k * 5 + 1, none⟩ = some (.slice (some ⟨b1', 0, none⟩) (vs.length + 1) p1) := hf2.cell c1 hbL'
  have x2 : w2.cell? ⟨L, k * 5 + 2, none⟩ = some (.slice A2 m.ch.snd.length n2') := hf2.cell c2 hbL'
  have x3 : w2.frozen? ⟨L, k * 5 + 1, none⟩ = false := (C2.out.own.row.fr hf2 (fun q hq hq' => by simp [Value.ownBlock] at hq; omega)).free rfl _
  have C3 := hid (C2.out.putV HK.out (w1 := w2) (F' := F) (l' := vs) (v' := .slice (some ⟨b1', 0, none⟩) vs.length p1) (hf2.mono (fun q hq => by rw [E1.out, hq]; rfl)) (fun q hq => hq) (fun q hq => Nat.lt_of_lt_of_le (C2.out.lt q hq) hf2.size) hr2 (fun q hq => .inl (by rw [E1.out]; exact hq)))
  have F3 := hid ((hf2.mono (T := F) (fun q hq => by rw [hq]; exact hFb)).setCell (p := ⟨L, k * 5 + 1, none⟩) (.slice (some ⟨b1', 0, none⟩) vs.length p1) (.inl hFL))
  have M3 := hid (F3.out.heapAt M1.out HBF.out)
  have T3 := hid (F3.out.heapAt TB.out HRF.out)
  clear hr2 hf2 c0 c1 c2 c3 c4 hfz
  rw [hs] at x2
  clear hs
  obtain ⟨⟨i0, i1, i2, i3, i4⟩, _⟩ := blk5 M3.out
  obtain ⟨⟨b0, b1, b2, b3, b4⟩, z0, z1, z2, z3, z4⟩ := blk5 T3.out
  go_wp2_with fail
  have T5 := hid (set5_heap (w := (w2.setCell ⟨L, k * 5 + 1, none⟩ (.slice (some ⟨b1', 0, none⟩) vs.length p1))) T3.out (.bool false) (.int .i64 v) (.bool true) (.int .i64 0) (.slice none 0 0))
  have S5 := hid (set5_fr (S := fun k => k = w.heap.size + 1) (w := (w2.setCell ⟨L, k * 5 + 1, none⟩ (.slice (some ⟨b1', 0, none⟩) vs.length p1))) (B := w.heap.size + 1) rfl (.bool false) (.int .i64 v) (.bool true) (.int .i64 0) (.slice none 0 0))
  exact fin24 (m := { value := v, ok := true }) rfl rfl rfl T5.out ⟨_, rfl, RowF.nil, ((show IsCh _ F g ((chs ms).set k { m.ch with vals := vs }) from ⟨_, _, C3.out, chs_set⟩).fr S5.out (fun q hq e => HRF.out (e ▸ hq))).step (fun q hq => .inl hq) ((FA.out.e0.trans (FB.out.e0.trans F3.out)).trans' S5.out (fun i hi => .inr (by omega)))⟩
set_option maxHeartbeats 4000000 in
theorem recv_value_wakes {w : World} {F : Nat → Prop} {g : Nat} {v0 : Value} {ms : List CM} (h : Chs w F g v0 ms) (gs gg : Int) (hn : ms.length ≤ 1024) (hfit : ∀ m ∈ ms, m.ch.Fit) (hw : waitsL gs gg (chs ms) = false) {k : Nat} {m : CM} (hk : ms[k]? = some m) {v : Int} {vs : List Int} (hv : m.ch.vals = v :: vs) {x : Wt} {r : List Wt} (hs : m.ch.snd = x :: r) (hcv : vs.length ≤ 1024) :
    Calls Try.prog 24 #[.pointer (some ⟨g, 0, none⟩), .int .i64 ((k : Int) + 1), .agg #[.int .i64 gs, .int .i64 gg]] w (MvPost F g w (leaveL x.s x.g ((chs ms).set k { m.ch with vals := vs ++ [x.v] })) { value := v, ok := true, woken := [⟨x.s, x.g, x.c, 0, true, 0⟩] } 0) := by
  have H := hid h
  have hm := h.made
  have hgl := h.lt g h.mine
  have HW := hid hw
  clear h hw
  go_enter Try.func24, Try.ntmps24
  go_wp2_with (go_at_call 53; refine (is_made (g := g) (by rw [World.cell?_alloc_past _ _ _ (by simp; omega), World.cell?_alloc_past _ _ _ hgl]; exact hm)).mono ?_; rintro e w1 ⟨rfl, rfl⟩)
  generalize hW : ((w.alloc (Obj.cells #[Value.int IntKind.i64 gs, Value.int IntKind.i64 gg] 37)).alloc _) = W
  have hA := hid (show Fr E0 w W by rw [← hW]; exact (Fr.refl.alloc _).alloc _)
  have hT := hid (show W.heap[w.heap.size + 1]? = some (.cells #[Value.bool false, Value.int IntKind.i64 0, Value.bool false, Value.int IntKind.i64 0, Value.slice none 0 0] 32 (0, 0)) by rw [← hW]; exact heap_alloc2_new w _ _)
  have hG := hid (show W.heap[w.heap.size]? = some (.cells #[Value.int IntKind.i64 gs, Value.int IntKind.i64 gg] 37 (0, 0)) by rw [← hW]; exact heap_alloc2_old w _ _)
  clear hW hm
  obtain ⟨L, cp, hv, hFL, _⟩ := H.out.at hk
  subst hv
  have hrd := (atW H.out hA.out).rdAt
  refine (waits_ok hrd gs gg).mono ?_
  rintro e w1 ⟨rfl, hf1⟩
  rw [HW.out]
  have F1 := hid hf1
  have FA := hid (hA.out.trans hf1)
  have T1 := hid (hf1.heapAt hT.out (fun x => x))
  have G1 := hid (hf1.heapAt hG.out (fun x => x))
  obtain ⟨⟨b0, b1, b2, b3, b4⟩, z0, z1, z2, z3, z4⟩ := blk5 T1.out
  have RD := hid (hrd.fr hf1)
  clear hf1 hrd
  have C1 := hid (atW H.out FA.out)
  obtain ⟨_, _, e0, _, c0, c1, c2, c3, c4, hfz⟩ := C1.out.at hk
  cases e0
  have HFZ := hid hfz
  have hlk := lt_of_get hk
  have HK := hid hk
  have O1 := hid (C1.out.own.each m (List.mem_of_getElem? hk))
  clear hk hfz
  rcases O1.out.vals.form (by decide) (ints_len _) with ⟨_, h0, _⟩ | ⟨b1', p1, hv1, hFb, _, hn1, hm1, hr1, _⟩
  · rw [hv] at h0; simp at h0
  have hlv : m.ch.vals.length = vs.length + 1 := by rw [hv]; rfl
  rw [hlv] at hv1 hn1
  rw [hv1] at c1
  have d0 : w1.cell? ⟨b1', 0, none⟩ = some (.int .i64 v) := hr1 0 _ (by rw [hv]; rfl)
  have E1 := hid hv1
  have HVV := hid hv
  obtain ⟨A2, n2', e2, _, hm2, _⟩ := O1.out.snd.read (by decide) (wts_len _)
  rw [e2] at c2
  have E2 := hid e2
  have hm1' : p1 ≤ 2 ^ 63 - 1 := hm1
  have hm2' : m.ch.snd.length ≤ 2 ^ 63 - 1 := by rcases O1.out.snd.form (by decide) (wts_len _) with ⟨_, h0, _⟩ | ⟨_, _, _, _, _, h1, h2, _⟩; (omega); (exact Nat.le_trans h1 h2)
  have hLl : L < w1.heap.size := C1.out.lt L hFL
  clear hr1 hv hv1 e2 hm1 hm2
  go_wp2_with (first
    | (go_at_call 54; refine (at_in RD.out k hlk).mono ?_; rintro e w2 ⟨rfl, rfl⟩; simp only [tup2, Nat.zero_add]))
  generalize hW : w1.alloc (Obj.cells #[Value.bool false, Value.int IntKind.i64 v, Value.bool true, Value.int IntKind.i64 0, Value.slice none 0 0] 32) = W
  have FB := hid (show Fr E0 w1 W by rw [← hW]; exact Fr.refl.alloc _)
  have M1 := hid (show W.heap[w1.heap.size]? = some (.cells #[Value.bool false, Value.int IntKind.i64 v, Value.bool true, Value.int IntKind.i64 0, Value.slice none 0 0] 32 (0, 0)) by rw [← hW]; exact heap_alloc_new w1 _)
  have C2 := hid (C1.out.fr FB.out (fun _ _ x => x))
  have TB := hid (FB.out.heapAt T1.out (fun x => x))
  have hBF : ¬ F w1.heap.size := fun hx => by have := H.out.lt _ hx; have := FA.out.size; omega
  have hRF : ¬ F (w.heap.size + 1) := fun hx => by have := H.out.lt _ hx; omega
  have HBF := hid hBF
  have HRF := hid hRF
  have hR1 := heap_lt T1.out
  have O2 := hid (C2.out.own.each m (List.mem_of_getElem? HK.out))
  have RV := hid (show RowF W F 2 1 (.slice (some ⟨b1', 0, none⟩) (vs.length + 1) p1) (ints (v :: vs)) by rw [← E1.out, ← HVV.out]; exact O2.out.vals)
  have hbL : ¬ b1' = L := fun e => C2.out.own.row.ne_type RV.out (by decide) (g := L) rfl (by rw [← e]; rfl)
  have hbL' : ¬ L = b1' := fun e => hbL e.symm
  clear hW d0 c0 c1 c2 c3 c4 b0 b1 b2 b3 b4 z0 z1 z2 z3 z4 hBF hRF
  obtain ⟨_, _, e0, _, c0, c1, c2, c3, c4, hfz⟩ := C2.out.at HK.out
  cases e0
  rw [E1.out] at c1
  rw [E2.out] at c2
  refine (delete01 b1' p1 (vs.length + 1) v vs W F rfl RV.out).mono ?_
  rintro e w2 ⟨rfl, hr2, hf2⟩
  have x1 : w2.cell? ⟨L, k * 5 + 1, none⟩ = some (.slice (some ⟨b1', 0, none⟩) (vs.length + 1) p1) := hf2.cell c1 hbL'
  have x2 : w2.cell? ⟨L, k * 5 + 2, none⟩ = some (.slice A2 m.ch.snd.length n2') := hf2.cell c2 hbL'
  have x3 : w2.frozen? ⟨L, k * 5 + 1, none⟩ = false := (C2.out.own.row.fr hf2 (fun q hq hq' => by simp [Value.ownBlock] at hq; omega)).free rfl _
  have C3 := hid (C2.out.putV HK.out (w1 := w2) (F' := F) (l' := vs) (v' := .slice (some ⟨b1', 0, none⟩) vs.length p1) (hf2.mono (fun q hq => by rw [E1.out, hq]; rfl)) (fun q hq => hq) (fun q hq => Nat.lt_of_lt_of_le (C2.out.lt q hq) hf2.size) hr2 (fun q hq => .inl (by rw [E1.out]; exact hq)))
  have F3 := hid ((hf2.mono (T := F) (fun q hq => by rw [hq]; exact hFb)).setCell (p := ⟨L, k * 5 + 1, none⟩) (.slice (some ⟨b1', 0, none⟩) vs.length p1) (.inl hFL))
  have M3 := hid (F3.out.heapAt M1.out HBF.out)
  have T3 := hid (F3.out.heapAt TB.out HRF.out)
  clear hr2 hf2 c0 c1 c2 c3 c4 hfz
  have hx : m.ch.snd[0]? = some x := by rw [hs]; rfl
  have HK3 := hid (List.getElem?_set_self (lt_of_get HK.out) (l := ms) (a := m.setV (.slice (some ⟨b1', 0, none⟩) vs.length p1) vs))
  have O3 := hid (C3.out.own.each _ (List.mem_of_getElem? HK3.out))
  rcases O3.out.snd.form (by decide) (wts_len _) with ⟨_, h0, _⟩ | ⟨b3', p3, hv3, _, hb3l, hn3, _, hr3, _⟩
  · change m.ch.snd.length = 0 at h0; rw [hs] at h0; simp at h0
  obtain ⟨d0, d1, d2, d3⟩ := hr3.wt hx
  simp only [Nat.zero_add, Nat.zero_mul] at d0 d1 d2 d3
  have hl3 : m.ch.snd.length = r.length + 1 := by rw [hs]; rfl
  have e3 : (Value.slice A2 m.ch.snd.length n2') = .slice (some ⟨b3', 0, none⟩) (r.length + 1) p3 := by rw [← E2.out, ← hl3]; exact hv3
  change m.ch.snd.length ≤ p3 at hn3
  rw [hl3] at hn3
  rw [e3] at x2
  clear hr3 hx hv3 hl3 e3 hs
  go_wp2_with fail
  generalize hW4 : (w2.setCell ⟨L, k * 5 + 1, none⟩ (.slice (some ⟨b1', 0, none⟩) vs.length p1)).alloc (Obj.cells #[Value.int IntKind.i64 x.s, Value.int IntKind.i64 x.g, Value.int IntKind.i64 x.c, Value.int IntKind.i64 x.v] 114) = W4
  have FD := hid (show Fr E0 (w2.setCell ⟨L, k * 5 + 1, none⟩ (.slice (some ⟨b1', 0, none⟩) vs.length p1)) W4 by rw [← hW4]; exact Fr.refl.alloc _)
  have X4 := hid (show W4.heap[w2.heap.size]? = some (.cells #[.int .i64 x.s, .int .i64 x.g, .int .i64 x.c, .int .i64 x.v] 114 (0, 0)) by rw [← hW4]; have := heap_alloc_new (w2.setCell ⟨L, k * 5 + 1, none⟩ (.slice (some ⟨b1', 0, none⟩) vs.length p1)) (Obj.cells #[Value.int IntKind.i64 x.s, Value.int IntKind.i64 x.g, Value.int IntKind.i64 x.c, Value.int IntKind.i64 x.v] 114); simpa using this)
  have C4 := hid (C3.out.fr FD.out (fun _ _ x => x))
  have M4 := hid (FD.out.heapAt M3.out (fun x => x))
  have T4 := hid (FD.out.heapAt T3.out (fun x => x))
  have hw2 : W.heap.size ≤ w2.heap.size := by have := F3.out.size; simpa using this
  have hww : w.heap.size ≤ w2.heap.size := Nat.le_trans FA.out.size (Nat.le_trans FB.out.size hw2)
  have hXF : Hid (¬ F w2.heap.size) := fun hx => by have := H.out.lt _ hx; omega
  clear hW4 x1 x2 x3 d0 d1 d2 d3
  obtain ⟨L', cp', e0, _, c0, c1, c2, c3, c4, hfz⟩ := C4.out.at HK3.out
  have ea : L = L' := by injection e0 with ea; injection ea with ea; injection ea with ea
  subst ea
  clear e0
  change W4.cell? ⟨L, k * 5 + 1, none⟩ = some (.slice (some ⟨b1', 0, none⟩) vs.length p1) at c1
  obtain ⟨y0, y1, y2, y3⟩ := cell4 X4.out
  have hfz1 := hfz (k * 5 + 1)
  obtain ⟨j0, hi0, hz0, hz1, hz2⟩ := info_parts info2'
  have CA := hid (C4.out.fr (Fr.refl (S := E0) |>.alloc (.cells #[.int .i64 x.v] 2)) (fun _ _ x => x))
  have OA := hid (CA.out.own.each _ (List.mem_of_getElem? HK3.out))
  have hown0 := hid (show World.ownsRow (W4.alloc (.cells #[.int .i64 x.v] 2)) 0 2 1 (.slice (some ⟨b1', 0, none⟩) vs.length p1) vs.length (ints vs) from OA.out.vals.own (by decide) (ints_len _))
  have hnL : (Value.slice (some ⟨b1', 0, none⟩) vs.length p1).ownBlock ≠ some L := fun hx => hbL (by simpa [Value.ownBlock] using hx)
  have hL4 : L < W4.heap.size := C4.out.lt L hFL
  have hcv' : vs.length ≤ 2 ^ 63 - 1 := by omega
  clear c0 c2 c3 c4 hfz
  go_region_law (refine step_append_lies _ (by rfl) (.tmp 74) (.tmp 77) 22 (by rfl) 0 2 j0 (.int .i64 0) 1 8 Try.underlying22 hi0 hz0 hz1 hz2 rfl (by decide) (.slice (some ⟨b1', 0, none⟩) vs.length p1) vs.length (ints vs) (by rfl) hown0.out ⟨W4.heap.size, 0, none⟩ 1 1 [.int .i64 x.v] (by rfl) (by rfl) (news1 _ _) (by simp [Value.oneCell']) (by decide) (by unfold maxLen; omega) (by omega) (Nat.zero_le _) (W4.heap.size + 1) (by simp) ?_; intro gb cap w5 hown3 hgrow3 hat3 hlt3; have x1 : w5.cell? ⟨L, k * 5 + 1, none⟩ = some (.slice (some ⟨b1', 0, none⟩) vs.length p1) := hgrow3.cell (cellA hL4 c1) (fun e => hnL e.symm); have x2 : w5.frozen? ⟨L, k * 5 + 1, none⟩ = false := (by rw [hgrow3.frozen_far _ (Nat.lt_of_lt_of_le hL4 (by simp)) (fun e => hnL e.symm)]; exact frozenA hL4 hfz1); have HN := hid (And.intro hown3 (And.intro hgrow3 (And.intro hat3 hlt3))); clear hown3 hgrow3 hat3 hlt3)
  all_goals
    have ST := hid (appendV (m := m.setV (.slice (some ⟨b1', 0, none⟩) vs.length p1) vs) (l' := vs ++ [x.v]) CA.out HK3.out hFL (by rw [ints_app]; exact HN.out.1) (undrew HN.out.2.1) (by rcases HN.out.2.2.1 with h | h; (exact .inl h); (exact .inr (by simp; exact h))) HN.out.2.2.2)
    have hl2 : Hid ((chs (ms.set k (m.setV (.slice (some ⟨b1', 0, none⟩) vs.length p1) vs))).set k { (m.setV (.slice (some ⟨b1', 0, none⟩) vs.length p1) vs).ch with vals := vs ++ [x.v] } = (chs ms).set k { m.ch with vals := vs ++ [x.v] }) := by show _ = _; rw [chs_set, List.set_set]; rfl
    obtain ⟨F', IC, hF', FF⟩ := ST.out
    rw [hl2.out] at IC
    have HIC := hid IC
    have HF' := hid hF'
    have HFF := hid FF
    clear IC hF' FF
    have M6 := hid (HFF.out.heapAt (w := W4.alloc (.cells #[.int .i64 x.v] 2)) ((Fr.refl (S := E0) |>.alloc (.cells #[.int .i64 x.v] 2)).heapAt M4.out (fun x => x)) HBF.out)
    have T6 := hid (HFF.out.heapAt (w := W4.alloc (.cells #[.int .i64 x.v] 2)) ((Fr.refl (S := E0) |>.alloc (.cells #[.int .i64 x.v] 2)).heapAt T4.out (fun x => x)) HRF.out)
    have X6 := hid (HFF.out.heapAt (w := W4.alloc (.cells #[.int .i64 x.v] 2)) ((Fr.refl (S := E0) |>.alloc (.cells #[.int .i64 x.v] 2)).heapAt X4.out (fun x => x)) hXF.out)
    clear x1 x2 c1 y0 y1 y2 y3 hfz1
    generalize hW6 : w5.setCell ⟨L, k * 5 + 1, none⟩ (.slice (some ⟨gb, 0, none⟩) (vs.length + 1) cap) = W6 at *
    clear hW6
    obtain ⟨y0, y1, y2, y3⟩ := cell4 X6.out
    have hmm4 := heap_lt M4.out
    have hrr4 := heap_lt T4.out
    have hMF' : Hid (¬ F' w1.heap.size) := fun hx => by rcases HF'.out _ hx with h1 | h1; (exact HBF.out h1); (simp at h1; omega)
    have hRF' : Hid (¬ F' (w.heap.size + 1)) := fun hx => by rcases HF'.out _ hx with h1 | h1; (exact HRF.out h1); (simp at h1; omega)
    have hlen : ((chs ms).set k { m.ch with vals := vs ++ [x.v] }).length ≤ 1024 := by rw [List.length_set, chs_len]; exact hn
    have hfit2 : ∀ c ∈ (chs ms).set k { m.ch with vals := vs ++ [x.v] }, c.Fit := by
      intro c hc
      rcases List.mem_or_eq_of_mem_set hc with hc | rfl
      · obtain ⟨q, hq, rfl⟩ := List.mem_map.1 hc; exact hfit q hq
      · obtain ⟨_, f2, f3⟩ := hfit m (List.mem_of_getElem? HK.out)
        exact ⟨by simp; omega, f2, f3⟩
    clear hmm4 hrr4
    go_wp2_with (go_at_call 55; refine (wake_is HIC.out x 0 true 0 hlen hfit2).mono ?_; rintro e w7 ⟨rfl, hl7, hf7⟩; simp only [Wk.val]; have L7 := hid hl7; have F7 := hid hf7; have A7 := hid ((Fr.refl (S := E0) (w := w7)).alloc (.cells #[.int .i64 x.s, .int .i64 x.g, .int .i64 x.c, .int .i64 0, .bool true, .int .i64 0] 39)); have M7 := hid (A7.out.heapAt (hf7.heapAt M6.out hMF'.out) (fun x => x)); have T7 := hid (A7.out.heapAt (hf7.heapAt T6.out hRF'.out) (fun x => x)); clear hl7 hf7; obtain ⟨⟨b0, b1, b2, b3, b4⟩, z0, z1, z2, z3, z4⟩ := blk5 T7.out; obtain ⟨⟨p0, p1', p2, p3', p4⟩, _, _, _, _, q4⟩ := blk5 M7.out; have hMR : ¬ w1.heap.size = w.heap.size + 1 := (by omega); have hMR' : ¬ w.heap.size + 1 = w1.heap.size := (by omega))
    have T8 := hid ((heap_setCell_other (w7.alloc (.cells #[.int .i64 x.s, .int .i64 x.g, .int .i64 x.c, .int .i64 0, .bool true, .int .i64 0] 39)) ⟨w1.heap.size, 4, none⟩ (w.heap.size + 1) (.slice (some ⟨w7.heap.size, 0, none⟩) 1 1) hMR').trans T7.out)
    have F8 := hid ((Fr.refl (S := fun q => q = w1.heap.size) (w := w7.alloc (.cells #[.int .i64 x.s, .int .i64 x.g, .int .i64 x.c, .int .i64 0, .bool true, .int .i64 0] 39))).setCell (p := ⟨w1.heap.size, 4, none⟩) (.slice (some ⟨w7.heap.size, 0, none⟩) 1 1) (.inl rfl))
    have L8 := hid ((L7.out.fr A7.out (fun _ _ x => x)).fr F8.out (fun q hq e => hMF'.out (e ▸ hq)))
    have hw4 : w.heap.size ≤ W4.heap.size := by have := FD.out.size; simp at this; omega
    have FY := hid (((FA.out.e0 (S := F)).trans (FB.out.e0.trans (F3.out.trans (FD.out.e0.trans ((Fr.refl.alloc _).trans HFF.out))))).trans' F7.out (fun q hq => by rcases HF'.out q hq with h | h; (exact .inl h); (exact .inr (by simp at h; omega))))
    have FZ := hid ((FY.out.trans A7.out.e0).trans' F8.out (fun q hq => .inr (by have := FA.out.size; omega)))
    have hR2 := hid (rowNew w7 w FY.out.size [⟨x.s, x.g, x.c, 0, true, 0⟩] (show 1 ≤ maxLen by decide) _ rfl)
    have hs7 : Hid (W4.heap.size ≤ w7.heap.size) := by have h1 := HFF.out.size; have h2 := F7.out.size; simp at h1; show _ ≤ _; omega
    have hm4 := heap_lt M4.out
    have hr4 := heap_lt T4.out
    have HR3 := hid ((hR2.out.fr F8.out (fun q hq e => by have := hs7.out; simp [Value.ownBlock] at hq; omega)))
    have T5 := hid (set5_heap (w := ((w7.alloc (.cells #[.int .i64 x.s, .int .i64 x.g, .int .i64 x.c, .int .i64 0, .bool true, .int .i64 0] 39)).setCell ⟨w1.heap.size, 4, none⟩ (.slice (some ⟨w7.heap.size, 0, none⟩) 1 1))) T8.out (.bool false) (.int .i64 v) (.bool true) (.int .i64 0) (.slice (some ⟨w7.heap.size, 0, none⟩) 1 1))
    have S5 := hid (set5_fr (S := fun k => k = w.heap.size + 1) (w := ((w7.alloc (.cells #[.int .i64 x.s, .int .i64 x.g, .int .i64 x.c, .int .i64 0, .bool true, .int .i64 0] 39)).setCell ⟨w1.heap.size, 4, none⟩ (.slice (some ⟨w7.heap.size, 0, none⟩) 1 1))) (B := w.heap.size + 1) rfl (.bool false) (.int .i64 v) (.bool true) (.int .i64 0) (.slice (some ⟨w7.heap.size, 0, none⟩) 1 1))
    exact fin24 (m := { value := v, ok := true, woken := [⟨x.s, x.g, x.c, 0, true, 0⟩] }) rfl rfl rfl T5.out ⟨_, rfl, (HR3.out.fr S5.out (fun q hq e => by have := hs7.out; simp [Value.ownBlock] at hq; omega)), (L8.out.fr S5.out (fun q hq e => hRF'.out (e ▸ hq))).step (fun q hq => by rcases HF'.out q hq with h | h; (exact .inl h); (exact .inr (by simp at h; omega))) (FZ.out.trans' S5.out (fun i hi => .inr (by omega)))⟩
end Go.Proofs.Yteffmnohgnmanaa
/- (*Chans).Wait: a theorem for each way. Printed by wip/gen/wait.py. -/
namespace Go.Proofs.Yteffmnohgnmanaa
open Go.RowKit
set_option linter.unusedVariables false
attribute [local go_sem ↓] Go.wp_at_zero Go.wp_at_succ
def WaitPost (F : Nat → Prop) (g : Nat) (w : World) (l' : List Ch) (t : Int) (e : Ending) (w' : World) : Prop := e = .returned (.int .i64 t) ∧ Step F g w l' w'
theorem wait_none (ch : Int) (x : Wt) (send : Bool) (w : World) : Calls Try.prog 59 #[.pointer none, .int .i64 ch, x.val, .bool send] w (Ret (.int .i64 4) E0 w) := by
  obtain ⟨s, gn, c, xv⟩ := x
  simp only [Wt.val]
  go_enter Try.func59, Try.ntmps59
  go_wp2_with (go_at_call 54; refine (at_none ch _).mono ?_; rintro e w1 ⟨rfl, rfl⟩; simp only [tup2])
  go_ret
  exact ⟨rfl, Fr.refl.alloc _⟩
theorem step_alloc {w W : World} {F : Nat → Prop} {g : Nat} {v : Value} {ms : List CM} (h : Chs w F g v ms) (h1 : Fr E0 w W) : Step F g w (chs ms) W := ⟨F, (h.fr h1 (fun _ _ x => x)).isCh, fun k hk => .inl hk, h1.e0⟩
theorem Step2.mono {w W w2 : World} {F : Nat → Prop} {g : Nat} {l : List Ch} (h : Step2 F g W l w2) (h1 : Fr E0 w W) : Step F g w l w2 := by
  obtain ⟨F', i1, i2, i3⟩ := h
  refine ⟨F', i1, fun q hq => ?_, (h1.e0 (S := F)).trans i3⟩
  have := h1.size
  rcases i2 q hq with hq | hq
  · exact .inl hq
  · exact .inr (by omega)
set_option maxHeartbeats 4000000 in
theorem wait_out {w : World} {F : Nat → Prop} {g : Nat} {v0 : Value} {ms : List CM} (h : Chs w F g v0 ms) (x : Wt) (ch : Int) (send : Bool) (hch : ch < 0 ∨ (ms.length : Int) < ch) :
    Calls Try.prog 59 #[.pointer (some ⟨g, 0, none⟩), .int .i64 ch, x.val, .bool send] w (WaitPost F g w (chs ms) 4) := by
  obtain ⟨s, gn, c, xv⟩ := x
  have H := hid h
  clear h
  simp only [Wt.val]
  go_enter Try.func59, Try.ntmps59
  go_wp2_with fail
  generalize hW : (w.alloc (Obj.cells #[Value.int IntKind.i64 s, Value.int IntKind.i64 gn, Value.int IntKind.i64 c, Value.int IntKind.i64 xv] 114)) = W
  have FA := hid (show Fr E0 w W by rw [← hW]; exact Fr.refl.alloc _)
  have G1 := hid (show W.heap[w.heap.size]? = some (.cells #[Value.int IntKind.i64 s, Value.int IntKind.i64 gn, Value.int IntKind.i64 c, Value.int IntKind.i64 xv] 114 (0, 0)) by rw [← hW]; exact heap_alloc_new w _)
  clear hW
  obtain ⟨A, cp, hv, hrd⟩ := (atW H.out FA.out).rd
  have RD := hid hrd
  have HC := hid hch; clear hch hrd
  refine (at_out RD.out ch HC.out).mono ?_
  rintro e w2 ⟨rfl, rfl⟩
  simp only [tup2]
  go_wp2_with fail
  go_ret
  exact ⟨rfl, step_alloc H.out FA.out⟩
set_option maxHeartbeats 4000000 in
theorem wait_nil {w : World} {F : Nat → Prop} {g : Nat} {v0 : Value} {ms : List CM} (h : Chs w F g v0 ms) (x : Wt) (send : Bool) :
    Calls Try.prog 59 #[.pointer (some ⟨g, 0, none⟩), .int .i64 0, x.val, .bool send] w (WaitPost F g w (chs ms) 0) := by
  obtain ⟨s, gn, c, xv⟩ := x
  have H := hid h
  clear h
  simp only [Wt.val]
  go_enter Try.func59, Try.ntmps59
  go_wp2_with fail
  generalize hW : (w.alloc (Obj.cells #[Value.int IntKind.i64 s, Value.int IntKind.i64 gn, Value.int IntKind.i64 c, Value.int IntKind.i64 xv] 114)) = W
  have FA := hid (show Fr E0 w W by rw [← hW]; exact Fr.refl.alloc _)
  have G1 := hid (show W.heap[w.heap.size]? = some (.cells #[Value.int IntKind.i64 s, Value.int IntKind.i64 gn, Value.int IntKind.i64 c, Value.int IntKind.i64 xv] 114 (0, 0)) by rw [← hW]; exact heap_alloc_new w _)
  clear hW
  obtain ⟨A, cp, hv, hrd⟩ := (atW H.out FA.out).rd
  have RD := hid hrd
  clear hrd
  refine (at_zero RD.out).mono ?_
  rintro e w2 ⟨rfl, rfl⟩
  simp only [tup2]
  go_wp2_with fail
  go_ret
  exact ⟨rfl, step_alloc H.out FA.out⟩
set_option maxHeartbeats 4000000 in
theorem wait_sends {w : World} {F : Nat → Prop} {g : Nat} {v0 : Value} {ms : List CM} (h : Chs w F g v0 ms) (x : Wt) {k : Nat} {m : CM} (hk : ms[k]? = some m) (hroom : (m.ch.snd.length + 1) * 32 ≤ 140737488355328) :
    Calls Try.prog 59 #[.pointer (some ⟨g, 0, none⟩), .int .i64 ((k : Int) + 1), x.val, .bool true] w (WaitPost F g w ((chs ms).set k { m.ch with snd := m.ch.snd ++ [x] }) 0) := by
  obtain ⟨s, gn, c, xv⟩ := x
  have H := hid h
  clear h
  simp only [Wt.val]
  go_enter Try.func59, Try.ntmps59
  go_wp2_with fail
  generalize hW : (w.alloc (Obj.cells #[Value.int IntKind.i64 s, Value.int IntKind.i64 gn, Value.int IntKind.i64 c, Value.int IntKind.i64 xv] 114)) = W
  have FA := hid (show Fr E0 w W by rw [← hW]; exact Fr.refl.alloc _)
  have G1 := hid (show W.heap[w.heap.size]? = some (.cells #[Value.int IntKind.i64 s, Value.int IntKind.i64 gn, Value.int IntKind.i64 c, Value.int IntKind.i64 xv] 114 (0, 0)) by rw [← hW]; exact heap_alloc_new w _)
  clear hW
  obtain ⟨L, cp, hv, hFL, _⟩ := H.out.at hk
  subst hv
  have RD := hid (atW H.out FA.out).rdAt
  have C1 := hid (atW H.out FA.out)
  obtain ⟨_, _, e0, _, c0, c1, c2, c3, c4, hfz⟩ := C1.out.at hk
  cases e0
  have HFZ := hid hfz
  have hlk := lt_of_get hk
  have HK := hid hk
  have O1 := hid (C1.out.own.each m (List.mem_of_getElem? hk))
  clear hk hfz
  refine (at_in RD.out k hlk).mono ?_
  rintro e w2 ⟨rfl, rfl⟩
  simp only [tup2, Nat.zero_add]
  obtain ⟨A2, n2', e2, _, hm2, _⟩ := O1.out.snd.read (by decide) (wts_len _)
  rw [e2] at c2
  have E2 := hid e2
  have hf1 := HFZ.out (k * 5 + 2)
  have hgw : ¬ F w.heap.size := fun hx => Nat.lt_irrefl _ (H.out.lt _ hx)
  obtain ⟨y0, y1, y2, y3⟩ := cell4 G1.out
  obtain ⟨i0, hi0, hz0, hz1, hz2⟩ := info_parts info114
  have CA := hid (C1.out.fr (Fr.refl (S := E0) |>.alloc (.cells #[.int .i64 s, .int .i64 gn, .int .i64 c, .int .i64 xv] 114)) (fun _ _ x => x))
  have OA := hid (CA.out.own.each m (List.mem_of_getElem? HK.out))
  have hown0 := hid (show World.ownsRow (World.alloc W (.cells #[.int .i64 s, .int .i64 gn, .int .i64 c, .int .i64 xv] 114)) 0 114 4 (.slice A2 m.ch.snd.length n2') m.ch.snd.length (wts m.ch.snd) by rw [← E2.out]; exact OA.out.snd.own (by decide) (wts_len _))
  have hnL : (Value.slice A2 m.ch.snd.length n2').ownBlock ≠ some L := fun hx => C1.out.own.row.ne_type O1.out.snd (by decide) rfl (by rw [E2.out]; exact hx)
  have hLl : L < (World.heap W).size := C1.out.lt L hFL
  clear e2 hgw
  go_wp2_with fail
  go_region_law (refine step_append_lies _ (by rfl) (.tmp 38) (.tmp 40) 65 (by rfl) 0 114 i0 (.agg #[.int .i64 0, .int .i64 0, .int .i64 0, .int .i64 0]) 4 32 Try.underlying65 hi0 hz0 hz1 hz2 rfl (by decide) (.slice A2 m.ch.snd.length n2') m.ch.snd.length (wts m.ch.snd) (by rfl) hown0.out ⟨(World.heap W).size, 0, none⟩ 1 1 [.int .i64 s, .int .i64 gn, .int .i64 c, .int .i64 xv] (by rfl) (by rfl) (news1 _ _) (by simp [Value.oneCell']) (by decide) (by unfold maxLen; omega) (by omega) (Nat.zero_le _) ((World.heap W).size + 1) (by simp) ?_; intro gb cap w3 hown3 hgrow3 hat3 hlt3; have x1 : w3.cell? ⟨L, k * 5 + 2, none⟩ = some (.slice A2 m.ch.snd.length n2') := hgrow3.cell (cellA hLl c2) (fun e => hnL e.symm); have x2 : w3.frozen? ⟨L, k * 5 + 2, none⟩ = false := (by rw [hgrow3.frozen_far _ (Nat.lt_of_lt_of_le hLl (by simp)) (fun e => hnL e.symm)]; exact frozenA hLl hf1); have HN := hid (And.intro hown3 (And.intro hgrow3 (And.intro hat3 hlt3))); clear hown3 hgrow3 hat3 hlt3)
  all_goals
    have ST := hid (appendS (m := m) (l' := m.ch.snd ++ [⟨s, gn, c, xv⟩]) CA.out HK.out hFL (by rw [wts_app]; exact HN.out.1) (by rw [E2.out]; exact undrew HN.out.2.1) (by rw [E2.out]; simpa using HN.out.2.2.1) HN.out.2.2.2)
    go_wp2_with fail
    go_ret
    exact ⟨rfl, ST.out.mono (FA.out.trans (Fr.refl.alloc _))⟩
set_option maxHeartbeats 4000000 in
theorem wait_recvs {w : World} {F : Nat → Prop} {g : Nat} {v0 : Value} {ms : List CM} (h : Chs w F g v0 ms) (x : Wt) {k : Nat} {m : CM} (hk : ms[k]? = some m) (hroom : (m.ch.rcv.length + 1) * 32 ≤ 140737488355328) :
    Calls Try.prog 59 #[.pointer (some ⟨g, 0, none⟩), .int .i64 ((k : Int) + 1), x.val, .bool false] w (WaitPost F g w ((chs ms).set k { m.ch with rcv := m.ch.rcv ++ [{ x with v := 0 }] }) 0) := by
  obtain ⟨s, gn, c, xv⟩ := x
  have H := hid h
  clear h
  simp only [Wt.val]
  go_enter Try.func59, Try.ntmps59
  go_wp2_with fail
  generalize hW : (w.alloc (Obj.cells #[Value.int IntKind.i64 s, Value.int IntKind.i64 gn, Value.int IntKind.i64 c, Value.int IntKind.i64 xv] 114)) = W
  have FA := hid (show Fr E0 w W by rw [← hW]; exact Fr.refl.alloc _)
  have G1 := hid (show W.heap[w.heap.size]? = some (.cells #[Value.int IntKind.i64 s, Value.int IntKind.i64 gn, Value.int IntKind.i64 c, Value.int IntKind.i64 xv] 114 (0, 0)) by rw [← hW]; exact heap_alloc_new w _)
  clear hW
  obtain ⟨L, cp, hv, hFL, _⟩ := H.out.at hk
  subst hv
  have RD := hid (atW H.out FA.out).rdAt
  have C1 := hid (atW H.out FA.out)
  obtain ⟨_, _, e0, _, c0, c1, c2, c3, c4, hfz⟩ := C1.out.at hk
  cases e0
  have HFZ := hid hfz
  have hlk := lt_of_get hk
  have HK := hid hk
  have O1 := hid (C1.out.own.each m (List.mem_of_getElem? hk))
  clear hk hfz
  refine (at_in RD.out k hlk).mono ?_
  rintro e w2 ⟨rfl, rfl⟩
  simp only [tup2, Nat.zero_add]
  obtain ⟨A2, n2', e2, _, hm2, _⟩ := O1.out.rcv.read (by decide) (wts_len _)
  rw [e2] at c3
  have E2 := hid e2
  have hf1 := HFZ.out (k * 5 + 3)
  have hgw : ¬ F w.heap.size := fun hx => Nat.lt_irrefl _ (H.out.lt _ hx)
  have HGW := hid hgw
  have hLw : L < w.heap.size := H.out.lt L hFL
  have G2 := hid (heap_setCell_same W w.heap.size 3 _ _ (.int .i64 0) G1.out)
  have FS := hid (Fr.refl (S := fun q => q = w.heap.size) (w := W) |>.setCell (p := ⟨w.heap.size, 3, none⟩) (.int .i64 0) (.inl rfl))
  obtain ⟨y0, y1, y2, y3⟩ := cell4 G1.out
  have y4 : W.frozen? ⟨w.heap.size, 3, none⟩ = false := frozen_of_row W _ 3 _ _ G1.out
  go_wp2_with fail
  generalize hW2 : World.setCell W ⟨w.heap.size, 3, none⟩ (.int .i64 0) = W2 at *
  have F2 := hid (FA.out.trans' FS.out (fun q hq => .inr (by omega)) (S := E0))
  have C2 := hid (H.out.fr F2.out (fun _ _ x => x))
  clear y0 y1 y2 y3 y4 c0 c1 c2 c3 c4
  obtain ⟨y0, y1, y2, y3⟩ := cell4 G2.out
  obtain ⟨L', cp', e0, _, c0, c1, c2, c3, c4, hfz⟩ := C2.out.at HK.out
  have ea : L = L' := by injection e0 with ea; injection ea with ea; injection ea with ea
  subst ea
  clear e0 hf1
  have hf1 := hfz (k * 5 + 3)
  rw [E2.out] at c3
  clear hfz
  obtain ⟨i0, hi0, hz0, hz1, hz2⟩ := info_parts info114
  have CA := hid (C2.out.fr (Fr.refl (S := E0) |>.alloc (.cells #[.int .i64 s, .int .i64 gn, .int .i64 c, .int .i64 0] 114)) (fun _ _ x => x))
  have OA := hid (CA.out.own.each m (List.mem_of_getElem? HK.out))
  have hown0 := hid (show World.ownsRow (World.alloc W2 (.cells #[.int .i64 s, .int .i64 gn, .int .i64 c, .int .i64 0] 114)) 0 114 4 (.slice A2 m.ch.rcv.length n2') m.ch.rcv.length (wts m.ch.rcv) by rw [← E2.out]; exact OA.out.rcv.own (by decide) (wts_len _))
  have hnL : (Value.slice A2 m.ch.rcv.length n2').ownBlock ≠ some L := fun hx => C1.out.own.row.ne_type O1.out.rcv (by decide) rfl (by rw [E2.out]; exact hx)
  have hLl : L < (World.heap W2).size := C2.out.lt L hFL
  clear e2 hgw
  go_wp2_with fail
  go_region_law (refine step_append_lies _ (by rfl) (.tmp 22) (.tmp 24) 65 (by rfl) 0 114 i0 (.agg #[.int .i64 0, .int .i64 0, .int .i64 0, .int .i64 0]) 4 32 Try.underlying65 hi0 hz0 hz1 hz2 rfl (by decide) (.slice A2 m.ch.rcv.length n2') m.ch.rcv.length (wts m.ch.rcv) (by rfl) hown0.out ⟨(World.heap W2).size, 0, none⟩ 1 1 [.int .i64 s, .int .i64 gn, .int .i64 c, .int .i64 0] (by rfl) (by rfl) (news1 _ _) (by simp [Value.oneCell']) (by decide) (by unfold maxLen; omega) (by omega) (Nat.zero_le _) ((World.heap W2).size + 1) (by simp) ?_; intro gb cap w3 hown3 hgrow3 hat3 hlt3; have x1 : w3.cell? ⟨L, k * 5 + 3, none⟩ = some (.slice A2 m.ch.rcv.length n2') := hgrow3.cell (cellA hLl c3) (fun e => hnL e.symm); have x2 : w3.frozen? ⟨L, k * 5 + 3, none⟩ = false := (by rw [hgrow3.frozen_far _ (Nat.lt_of_lt_of_le hLl (by simp)) (fun e => hnL e.symm)]; exact frozenA hLl hf1); have HN := hid (And.intro hown3 (And.intro hgrow3 (And.intro hat3 hlt3))); clear hown3 hgrow3 hat3 hlt3)
  all_goals
    have ST := hid (appendR (m := m) (l' := m.ch.rcv ++ [⟨s, gn, c, 0⟩]) CA.out HK.out hFL (by rw [wts_app]; exact HN.out.1) (by rw [E2.out]; exact undrew HN.out.2.1) (by rw [E2.out]; simpa using HN.out.2.2.1) HN.out.2.2.2)
    go_wp2_with fail
    go_ret
    exact ⟨rfl, ST.out.mono (F2.out.trans (Fr.refl.alloc _))⟩
end Go.Proofs.Yteffmnohgnmanaa
/- (*Chans).Close. -/
namespace Go.Proofs.Yteffmnohgnmanaa
open Go.RowKit
set_option linter.unusedVariables false
attribute [local go_sem ↓] Go.wp_at_zero Go.wp_at_succ
theorem wakeR_nil {l : List Ch} {k : Nat} {c : Ch} (acc : List Wk) (h : l[k]? = some c) (hr : c.rcv = []) : wakeR l k acc = (l, acc) := by
  rw [wakeR]; split
  · rfl
  · rename_i c' h'; rw [h] at h'; cases h'; split
    · rfl
    · rename_i h2; rw [hr] at h2; cases h2
theorem wakeR_cons {l : List Ch} {k : Nat} {c : Ch} {x : Wt} {r : List Wt} (acc : List Wk) (h : l[k]? = some c) (hr : c.rcv = x :: r) : wakeR l k acc = wakeR (leaveL x.s x.g l) k (acc ++ [⟨x.s, x.g, x.c, 0, false, 0⟩]) := by
  rw [wakeR]; split
  · rename_i h'; rw [h] at h'; cases h'
  · rename_i c' h'; rw [h] at h'; cases h'; split
    · rename_i h2; rw [hr] at h2; cases h2
    · rename_i y s h2; rw [hr] at h2; cases h2; rfl
theorem wakeS_nil {l : List Ch} {k : Nat} {c : Ch} (acc : List Wk) (h : l[k]? = some c) (hr : c.snd = []) : wakeS l k acc = (l, acc) := by
  rw [wakeS]; split
  · rfl
  · rename_i c' h'; rw [h] at h'; cases h'; split
    · rfl
    · rename_i h2; rw [hr] at h2; cases h2
theorem wakeS_cons {l : List Ch} {k : Nat} {c : Ch} {x : Wt} {r : List Wt} (acc : List Wk) (h : l[k]? = some c) (hr : c.snd = x :: r) : wakeS l k acc = wakeS (leaveL x.s x.g l) k (acc ++ [⟨x.s, x.g, x.c, 0, false, 6⟩]) := by
  rw [wakeS]; split
  · rename_i h'; rw [h] at h'; cases h'
  · rename_i c' h'; rw [h] at h'; cases h'; split
    · rename_i h2; rw [hr] at h2; cases h2
    · rename_i y s h2; rw [hr] at h2; cases h2; rfl
theorem fit_leave {gs gg : Int} {c : Ch} (h : c.Fit) : (leaveCh gs gg c).Fit := by
  obtain ⟨h1, h2, h3⟩ := h
  have a := wout_le gs gg c.snd
  have b := wout_le gs gg c.rcv
  refine ⟨h1, ?_, ?_⟩ <;> simp only [leaveCh] <;> omega
theorem fits_leave {gs gg : Int} {l : List Ch} (h : ∀ c ∈ l, c.Fit) : ∀ c ∈ leaveL gs gg l, c.Fit := by
  intro c hc
  obtain ⟨q, hq, rfl⟩ := List.mem_map.1 hc
  exact fit_leave (h q hq)
/-- What holds at the head of each of Close's rounds. -/
structure CloseRel (W0 wr : World) (F : Nat → Prop) (g : Nat) (v0 : Value) (k M R n0 : Nat) (l : List Ch) (acc : List Wk) (wv : Value) (c : Ch) : Prop where
  ch : IsChV wr F g v0 l
  len : l.length ≤ 1024
  fit : ∀ c ∈ l, c.Fit
  at' : l[k]? = some c
  room : acc.length + c.rcv.length + c.snd.length ≤ n0
  cell : wr.heap[M]? = some (.cells #[.bool false, .int .i64 0, .bool false, .int .i64 0, wv] 32 (0, 0))
  res : wr.heap[R]? = some (.cells #[.bool false, .int .i64 0, .bool false, .int .i64 0, .slice none 0 0] 32 (0, 0))
  row : RowF wr (New W0) 39 6 wv (wks acc)
  fr : Fr (fun q => F q ∨ q = M) W0 wr
theorem info39 : (Try.prog.info? 39).map (fun i => (i.zero, i.size, i.bytes)) = some (some (.agg #[.int .i64 0, .int .i64 0, .int .i64 0, .int .i64 0, .bool false, .int .i64 0]), 6, 48) := by kernel_rfl
def MvPost1 (F : Nat → Prop) (g : Nat) (w : World) (l' : List Ch) (m : Mv) (e : Ending) (w' : World) : Prop := ∃ wv, e = .returned (m.val wv) ∧ (∃ G : Nat → Prop, RowF w' G 39 6 wv (wks m.woken)) ∧ Step F g w l' w'
theorem fin30 {a : Act} {W : World} {R : Nat} {Q : Ending → World → Prop} {m : Mv} {wv : Value} (hd : a.defers = []) (h8 : a.tmps.getD 4 undef = .pointer (some ⟨R, 0, none⟩))
    (hR : W.heap[R]? = some (.cells #[.bool m.waits, .int .i64 m.value, .bool m.ok, .int .i64 m.trap, wv] 32 (0, 0))) (hQ : Q (.returned (m.val wv)) W) : bodyPost Try.prog Try.f30 Q .ret a W := by
  obtain ⟨⟨k0, k1, k2, k3, k4⟩, _⟩ := blk5 hR
  have h8' : a.tmps[4]?.getD undef = .pointer (some ⟨R, 0, none⟩) := by simpa using h8
  exact bodyPost_ret (v := m.val wv) (by simp [results, Try.results30, go_sem, h8', k0, k1, k2, k3, k4, Mv.val]) hd hQ
set_option maxHeartbeats 2000000 in
theorem close_out {w : World} {F : Nat → Prop} {g : Nat} {v0 : Value} {ms : List CM} (h : Chs w F g v0 ms) (ch : Int) (hch : ch < 0 ∨ (ms.length : Int) < ch) :
    Calls Try.prog 30 #[.pointer (some ⟨g, 0, none⟩), .int .i64 ch] w (MvPost1 F g w (chs ms) { trap := 4 }) := by
  have H := hid h
  have HC := hid hch
  clear h hch
  go_enter Try.func30, Try.ntmps30
  go_wp2_with fail
  generalize hW : (w.alloc (Obj.cells _ 32)) = W
  have FA := hid (show Fr E0 w W by rw [← hW]; exact Fr.refl.alloc _)
  have T1 := hid (show W.heap[w.heap.size]? = some (.cells #[Value.bool false, Value.int IntKind.i64 0, Value.bool false, Value.int IntKind.i64 0, Value.slice none 0 0] 32 (0, 0)) by rw [← hW]; exact heap_alloc_new w _)
  clear hW
  obtain ⟨A, cp, hv, hrd⟩ := (atW H.out FA.out).rd
  have RD := hid hrd
  clear hrd
  obtain ⟨⟨b0, b1, b2, b3, b4⟩, z0, z1, z2, z3, z4⟩ := blk5 T1.out
  refine (at_out RD.out ch HC.out).mono ?_
  rintro e w2 ⟨rfl, rfl⟩
  simp only [tup2]
  go_wp2_with fail
  have T5 := hid (set5_heap (w := W) T1.out (.bool false) (.int .i64 0) (.bool false) (.int .i64 4) (.slice none 0 0))
  have S5 := hid (set5_fr (S := fun k => k = w.heap.size) (w := W) (B := w.heap.size) rfl (.bool false) (.int .i64 0) (.bool false) (.int .i64 4) (.slice none 0 0))
  exact fin30 (m := { trap := 4 }) rfl rfl T5.out ⟨_, rfl, ⟨F, RowF.nil⟩, step_same H.out (Nat.le_refl _) FA.out S5.out⟩
set_option maxHeartbeats 2000000 in
theorem close_nil {w : World} {F : Nat → Prop} {g : Nat} {v0 : Value} {ms : List CM} (h : Chs w F g v0 ms) :
    Calls Try.prog 30 #[.pointer (some ⟨g, 0, none⟩), .int .i64 0] w (MvPost1 F g w (chs ms) { trap := 8 }) := by
  have H := hid h
  clear h
  go_enter Try.func30, Try.ntmps30
  go_wp2_with fail
  generalize hW : (w.alloc (Obj.cells _ 32)) = W
  have FA := hid (show Fr E0 w W by rw [← hW]; exact Fr.refl.alloc _)
  have T1 := hid (show W.heap[w.heap.size]? = some (.cells #[Value.bool false, Value.int IntKind.i64 0, Value.bool false, Value.int IntKind.i64 0, Value.slice none 0 0] 32 (0, 0)) by rw [← hW]; exact heap_alloc_new w _)
  clear hW
  obtain ⟨A, cp, hv, hrd⟩ := (atW H.out FA.out).rd
  have RD := hid hrd
  clear hrd
  obtain ⟨⟨b0, b1, b2, b3, b4⟩, z0, z1, z2, z3, z4⟩ := blk5 T1.out
  refine (at_zero RD.out).mono ?_
  rintro e w2 ⟨rfl, rfl⟩
  simp only [tup2]
  go_wp2_with fail
  have T5 := hid (set5_heap (w := W) T1.out (.bool false) (.int .i64 0) (.bool false) (.int .i64 8) (.slice none 0 0))
  have S5 := hid (set5_fr (S := fun k => k = w.heap.size) (w := W) (B := w.heap.size) rfl (.bool false) (.int .i64 0) (.bool false) (.int .i64 8) (.slice none 0 0))
  exact fin30 (m := { trap := 8 }) rfl rfl T5.out ⟨_, rfl, ⟨F, RowF.nil⟩, step_same H.out (Nat.le_refl _) FA.out S5.out⟩
set_option maxHeartbeats 2000000 in
theorem close_closed {w : World} {F : Nat → Prop} {g k : Nat} {v0 : Value} {ms : List CM} {m : CM} (h : Chs w F g v0 ms) (hk : ms[k]? = some m) (hcl : m.ch.cl = true) :
    Calls Try.prog 30 #[.pointer (some ⟨g, 0, none⟩), .int .i64 ((k : Int) + 1)] w (MvPost1 F g w (chs ms) { trap := 7 }) := by
  have H := hid h
  clear h
  go_enter Try.func30, Try.ntmps30
  go_wp2_with fail
  generalize hW : (w.alloc (Obj.cells _ 32)) = W
  have FA := hid (show Fr E0 w W by rw [← hW]; exact Fr.refl.alloc _)
  have T1 := hid (show W.heap[w.heap.size]? = some (.cells #[Value.bool false, Value.int IntKind.i64 0, Value.bool false, Value.int IntKind.i64 0, Value.slice none 0 0] 32 (0, 0)) by rw [← hW]; exact heap_alloc_new w _)
  clear hW
  obtain ⟨L, cp, hv, hFL, _⟩ := H.out.at hk
  subst hv
  have C1 := hid (atW H.out FA.out)
  have RD := hid C1.out.rdAt
  obtain ⟨_, _, e0, _, c0, c1, c2, c3, c4, hfz⟩ := C1.out.at hk
  cases e0
  rw [hcl] at c4
  have hlk := lt_of_get hk
  clear hk hfz hcl
  obtain ⟨⟨b0, b1, b2, b3, b4⟩, z0, z1, z2, z3, z4⟩ := blk5 T1.out
  refine (at_in RD.out k hlk).mono ?_
  rintro e w2 ⟨rfl, rfl⟩
  simp only [tup2, Nat.zero_add]
  go_wp2_with fail
  have T5 := hid (set5_heap (w := W) T1.out (.bool false) (.int .i64 0) (.bool false) (.int .i64 7) (.slice none 0 0))
  have S5 := hid (set5_fr (S := fun k => k = w.heap.size) (w := W) (B := w.heap.size) rfl (.bool false) (.int .i64 0) (.bool false) (.int .i64 7) (.slice none 0 0))
  exact fin30 (m := { trap := 7 }) rfl rfl T5.out ⟨_, rfl, ⟨F, RowF.nil⟩, step_same H.out (Nat.le_refl _) FA.out S5.out⟩
end Go.Proofs.Yteffmnohgnmanaa
/- (*Chans).Close of an open channel. Printed by wip/gen/close.py. -/
namespace Go.Proofs.Yteffmnohgnmanaa
open Go.RowKit
set_option linter.unusedVariables false
attribute [local go_sem ↓] Go.wp_at_zero Go.wp_at_succ
/-- How many wait there, off memory. -/
def rlen (w : World) (L k j : Nat) : Nat := match w.cell? ⟨L, k * 5 + j, none⟩ with | some (.slice _ n _) => n | _ => 0
theorem rlen_rcv {w : World} {F : Nat → Prop} {g L n cp k : Nat} {l : List Ch} {c : Ch} (h : IsChV w F g (.slice (some ⟨L, 0, none⟩) n cp) l) (hk : l[k]? = some c) : rlen w L k 3 = c.rcv.length := by
  obtain ⟨ms, h1, rfl⟩ := h
  unfold chs at hk
  rw [List.getElem?_map] at hk
  obtain ⟨m, hm, rfl⟩ := Option.map_eq_some_iff.1 hk
  obtain ⟨L', cp', e0, _, c0, c1, c2, c3, c4, hfz⟩ := h1.at hm
  have ea : L = L' := by injection e0 with ea; injection ea with ea; injection ea with ea
  subst ea
  obtain ⟨A, cc, e, _⟩ := (h1.own.each m (List.mem_of_getElem? hm)).rcv.read (by decide) (wts_len _)
  unfold rlen; rw [c3, e]
theorem rlen_snd {w : World} {F : Nat → Prop} {g L n cp k : Nat} {l : List Ch} {c : Ch} (h : IsChV w F g (.slice (some ⟨L, 0, none⟩) n cp) l) (hk : l[k]? = some c) : rlen w L k 2 = c.snd.length := by
  obtain ⟨ms, h1, rfl⟩ := h
  unfold chs at hk
  rw [List.getElem?_map] at hk
  obtain ⟨m, hm, rfl⟩ := Option.map_eq_some_iff.1 hk
  obtain ⟨L', cp', e0, _, c0, c1, c2, c3, c4, hfz⟩ := h1.at hm
  have ea : L = L' := by injection e0 with ea; injection ea with ea; injection ea with ea
  subst ea
  obtain ⟨A, cc, e, _⟩ := (h1.own.each m (List.mem_of_getElem? hm)).snd.read (by decide) (wts_len _)
  unfold rlen; rw [c2, e]
theorem rlen_lt {l : List Wt} {x : Wt} {r : List Wt} (h : l = x :: r) : (wout x.s x.g l).length < l.length := by subst h; exact wout_lt
theorem close_step_rcv {W0 wr w5 w7 : World} {F : Nat → Prop} {g k M R n0 gb nn cap : Nat} {v0 wv : Value} {l : List Ch} {acc : List Wk} {c : Ch} {x : Wt} {r : List Wt} (h : CloseRel W0 wr F g v0 k M R n0 l acc wv c) (hr : c.rcv = x :: r)
    (hF : ∀ q, F q → q < R) (hRM : R < M) (hM : M < W0.heap.size) (h5 : IsChV w5 F g v0 (leaveL x.s x.g l)) (f5 : Fr F wr.drew w5) (o : Obj)
    (hown : w7.ownsRow 0 39 6 (.slice (some ⟨gb, 0, none⟩) nn cap) nn (wks acc ++ Wk.cells ⟨x.s, x.g, x.c, 0, false, 0⟩)) (hgrow : (w5.alloc o).grownBy w7 wv.ownBlock) (hat : wv.ownBlock = some gb ∨ gb = (w5.alloc o).heap.size) :
    CloseRel W0 (w7.setCell ⟨M, 4, none⟩ (.slice (some ⟨gb, 0, none⟩) nn cap)) F g v0 k M R n0 (leaveL x.s x.g l) (acc ++ [⟨x.s, x.g, x.c, 0, false, 0⟩]) (.slice (some ⟨gb, 0, none⟩) nn cap) (leaveCh x.s x.g c) := by
  have hnF : ∀ q, W0.heap.size ≤ q → ¬ F q := fun q hq hf => by have := hF q hf; omega
  have row5 : RowF w5 (New W0) 39 6 wv (wks acc) := (h.row.fr (Fr.refl (S := E0) |>.drew) (fun _ _ x => x)).fr f5 (fun q hq hf => hnF q (h.row.2 q hq) hf)
  have hs0 : W0.heap.size ≤ w5.heap.size := Nat.le_trans h.fr.size f5.size
  have gfr : Fr (fun q => wv.ownBlock = some q) (w5.alloc o) w7 := Fr.refl.grown hgrow (fun q hq => .inl hq)
  have hMF : ¬ F M := fun hf => by have := hF M hf; omega
  have hRF : ¬ F R := fun hf => by have := hF R hf; omega
  have hMv : ¬ wv.ownBlock = some M := fun e => by have : W0.heap.size ≤ M := h.row.2 M e; omega
  have hRv : ¬ wv.ownBlock = some R := fun e => by have : W0.heap.size ≤ R := h.row.2 R e; omega
  have cell7 := gfr.heapAt ((Fr.refl (S := E0) |>.alloc o).heapAt (f5.heapAt h.cell hMF) (fun x => x)) hMv
  have res7 := gfr.heapAt ((Fr.refl (S := E0) |>.alloc o).heapAt (f5.heapAt h.res hRF) (fun x => x)) hRv
  have row7 : RowF w7 (New W0) 39 6 (.slice (some ⟨gb, 0, none⟩) nn cap) (wks (acc ++ [⟨x.s, x.g, x.c, 0, false, 0⟩])) := by
    refine ⟨⟨nn, by simpa [wks] using hown⟩, fun q hq => ?_⟩
    simp [Value.ownBlock] at hq; subst hq
    rcases hat with e | e
    · exact h.row.2 _ e
    · show W0.heap.size ≤ gb; simp at e; omega
  have sfr : Fr (fun q => q = M) w7 (w7.setCell ⟨M, 4, none⟩ (.slice (some ⟨gb, 0, none⟩) nn cap)) := Fr.refl.setCell (p := ⟨M, 4, none⟩) _ (.inl rfl)
  refine ⟨?_, by simpa [leaveL] using h.len, fits_leave h.fit, ?_, ?_, ?_, ?_, ?_, ?_⟩
  · refine ((h5.fr (Fr.refl (S := E0) |>.alloc o) (fun _ _ x => x)).fr gfr (fun q hq e => ?_)).fr sfr (fun q hq e => hMF (e ▸ hq))
    exact hnF q (h.row.2 q e) hq
  · rw [leaveL_get, h.at']; rfl
  · have h1 := h.room
    have a := wout_le x.s x.g c.snd
    have b := wout_le x.s x.g c.rcv
    have e := rlen_lt hr
    simp only [leaveCh, List.length_append, List.length_singleton]
    omega
  · exact heap_setCell_same w7 M 4 _ _ _ cell7
  · rw [heap_setCell_other _ _ _ _ (by show R ≠ M; omega)]; exact res7
  · exact row7.fr sfr (fun q hq e => by have : W0.heap.size ≤ q := row7.2 q hq; omega)
  · refine Fr.trans' (T := fun q => q = M) ?_ sfr (fun q hq => .inl (.inr hq))
    refine Fr.trans' (T := fun q => wv.ownBlock = some q) ?_ gfr (fun q hq => .inr (h.row.2 q hq))
    exact ((h.fr.trans (Fr.refl.drew.trans (f5.mono (fun q hq => .inl hq)))).alloc o)
theorem close_step_snd {W0 wr w5 w7 : World} {F : Nat → Prop} {g k M R n0 gb nn cap : Nat} {v0 wv : Value} {l : List Ch} {acc : List Wk} {c : Ch} {x : Wt} {r : List Wt} (h : CloseRel W0 wr F g v0 k M R n0 l acc wv c) (hr : c.snd = x :: r)
    (hF : ∀ q, F q → q < R) (hRM : R < M) (hM : M < W0.heap.size) (h5 : IsChV w5 F g v0 (leaveL x.s x.g l)) (f5 : Fr F wr.drew w5) (o : Obj)
    (hown : w7.ownsRow 0 39 6 (.slice (some ⟨gb, 0, none⟩) nn cap) nn (wks acc ++ Wk.cells ⟨x.s, x.g, x.c, 0, false, 6⟩)) (hgrow : (w5.alloc o).grownBy w7 wv.ownBlock) (hat : wv.ownBlock = some gb ∨ gb = (w5.alloc o).heap.size) :
    CloseRel W0 (w7.setCell ⟨M, 4, none⟩ (.slice (some ⟨gb, 0, none⟩) nn cap)) F g v0 k M R n0 (leaveL x.s x.g l) (acc ++ [⟨x.s, x.g, x.c, 0, false, 6⟩]) (.slice (some ⟨gb, 0, none⟩) nn cap) (leaveCh x.s x.g c) := by
  have hnF : ∀ q, W0.heap.size ≤ q → ¬ F q := fun q hq hf => by have := hF q hf; omega
  have row5 : RowF w5 (New W0) 39 6 wv (wks acc) := (h.row.fr (Fr.refl (S := E0) |>.drew) (fun _ _ x => x)).fr f5 (fun q hq hf => hnF q (h.row.2 q hq) hf)
  have hs0 : W0.heap.size ≤ w5.heap.size := Nat.le_trans h.fr.size f5.size
  have gfr : Fr (fun q => wv.ownBlock = some q) (w5.alloc o) w7 := Fr.refl.grown hgrow (fun q hq => .inl hq)
  have hMF : ¬ F M := fun hf => by have := hF M hf; omega
  have hRF : ¬ F R := fun hf => by have := hF R hf; omega
  have hMv : ¬ wv.ownBlock = some M := fun e => by have : W0.heap.size ≤ M := h.row.2 M e; omega
  have hRv : ¬ wv.ownBlock = some R := fun e => by have : W0.heap.size ≤ R := h.row.2 R e; omega
  have cell7 := gfr.heapAt ((Fr.refl (S := E0) |>.alloc o).heapAt (f5.heapAt h.cell hMF) (fun x => x)) hMv
  have res7 := gfr.heapAt ((Fr.refl (S := E0) |>.alloc o).heapAt (f5.heapAt h.res hRF) (fun x => x)) hRv
  have row7 : RowF w7 (New W0) 39 6 (.slice (some ⟨gb, 0, none⟩) nn cap) (wks (acc ++ [⟨x.s, x.g, x.c, 0, false, 6⟩])) := by
    refine ⟨⟨nn, by simpa [wks] using hown⟩, fun q hq => ?_⟩
    simp [Value.ownBlock] at hq; subst hq
    rcases hat with e | e
    · exact h.row.2 _ e
    · show W0.heap.size ≤ gb; simp at e; omega
  have sfr : Fr (fun q => q = M) w7 (w7.setCell ⟨M, 4, none⟩ (.slice (some ⟨gb, 0, none⟩) nn cap)) := Fr.refl.setCell (p := ⟨M, 4, none⟩) _ (.inl rfl)
  refine ⟨?_, by simpa [leaveL] using h.len, fits_leave h.fit, ?_, ?_, ?_, ?_, ?_, ?_⟩
  · refine ((h5.fr (Fr.refl (S := E0) |>.alloc o) (fun _ _ x => x)).fr gfr (fun q hq e => ?_)).fr sfr (fun q hq e => hMF (e ▸ hq))
    exact hnF q (h.row.2 q e) hq
  · rw [leaveL_get, h.at']; rfl
  · have h1 := h.room
    have a := wout_le x.s x.g c.snd
    have b := wout_le x.s x.g c.rcv
    have e := rlen_lt hr
    simp only [leaveCh, List.length_append, List.length_singleton]
    omega
  · exact heap_setCell_same w7 M 4 _ _ _ cell7
  · rw [heap_setCell_other _ _ _ _ (by show R ≠ M; omega)]; exact res7
  · exact row7.fr sfr (fun q hq e => by have : W0.heap.size ≤ q := row7.2 q hq; omega)
  · refine Fr.trans' (T := fun q => q = M) ?_ sfr (fun q hq => .inl (.inr hq))
    refine Fr.trans' (T := fun q => wv.ownBlock = some q) ?_ gfr (fun q hq => .inr (h.row.2 q hq))
    exact ((h.fr.trans (Fr.refl.drew.trans (f5.mono (fun q hq => .inl hq)))).alloc o)
set_option maxHeartbeats 16000000 in
theorem close_open {w : World} {F : Nat → Prop} {g k : Nat} {v0 : Value} {ms : List CM} {m : CM} (h : Chs w F g v0 ms) (hk : ms[k]? = some m) (hcl : m.ch.cl = false) (hn : ms.length ≤ 1024) (hfit : ∀ m ∈ ms, m.ch.Fit)
    (hroom : (m.ch.rcv.length + m.ch.snd.length) * 48 ≤ 140737488355328) (l0 : List Ch) (hl0 : l0 = (chs ms).set k { m.ch with cl := true }) (la : List Ch) (ka : List Wk) (hla : wakeR l0 k [] = (la, ka)) (lb : List Ch) (kb : List Wk) (hlb : wakeS la k ka = (lb, kb)) :
    Calls Try.prog 30 #[.pointer (some ⟨g, 0, none⟩), .int .i64 ((k : Int) + 1)] w (MvPost1 F g w lb { woken := kb }) := by
  have H := hid h
  have HL0 := hid hl0
  have HLA := hid hla
  have HLB := hid hlb
  clear h hl0 hla hlb
  obtain ⟨n0, hn0⟩ : ∃ n0, n0 = m.ch.rcv.length + m.ch.snd.length := ⟨_, rfl⟩
  rw [← hn0] at hroom
  have HN0 := hid hn0
  clear hn0
  go_enter Try.func30, Try.ntmps30
  go_wp2_with fail
  generalize hW : (w.alloc (Obj.cells _ 32)) = W
  have FA := hid (show Fr E0 w W by rw [← hW]; exact Fr.refl.alloc _)
  have hWs := hid (show W.heap.size = w.heap.size + 1 by rw [← hW]; simp)
  have T1 := hid (show W.heap[w.heap.size]? = some (.cells #[Value.bool false, Value.int IntKind.i64 0, Value.bool false, Value.int IntKind.i64 0, Value.slice none 0 0] 32 (0, 0)) by rw [← hW]; exact heap_alloc_new w _)
  clear hW
  obtain ⟨L, cp, hv, hFL, _⟩ := H.out.at hk
  subst hv
  have C1 := hid (atW H.out FA.out)
  have RD := hid C1.out.rdAt
  obtain ⟨_, _, e0, _, c0, c1, c2, c3, c4, hfz⟩ := C1.out.at hk
  cases e0
  rw [hcl] at c4
  have hlk := lt_of_get hk
  have HK := hid hk
  have hfz4 := hfz (k * 5 + 4)
  clear hk hfz hcl
  refine (at_in RD.out k hlk).mono ?_
  rintro e w2 ⟨rfl, rfl⟩
  simp only [tup2, Nat.zero_add]
  go_wp2_with fail
  generalize hW0 : (W.setCell ⟨L, k * 5 + 4, none⟩ (.bool true)).alloc (Obj.cells _ 32) = W0
  have C0 := hid (show Chs W0 F g (.slice (some ⟨L, 0, none⟩) ms.length cp) (ms.set k m.setC) by rw [← hW0]; exact (C1.out.putC HK.out).fr (Fr.refl (S := E0) |>.alloc _) (fun _ _ x => x))
  have M0 := hid (show W0.heap[W.heap.size]? = some (.cells #[Value.bool false, Value.int IntKind.i64 0, Value.bool false, Value.int IntKind.i64 0, Value.slice none 0 0] 32 (0, 0)) by rw [← hW0]; have := heap_alloc_new (W.setCell ⟨L, k * 5 + 4, none⟩ (.bool true)) (.cells #[Value.bool false, Value.int IntKind.i64 0, Value.bool false, Value.int IntKind.i64 0, Value.slice none 0 0] 32); simpa using this)
  have hLw : L < w.heap.size := H.out.lt L hFL
  have hLR : w.heap.size ≠ L := by omega
  have T0 := hid (show W0.heap[w.heap.size]? = some (.cells #[Value.bool false, Value.int IntKind.i64 0, Value.bool false, Value.int IntKind.i64 0, Value.slice none 0 0] 32 (0, 0)) by rw [← hW0]; exact (Fr.refl (S := E0) |>.alloc _).heapAt ((heap_setCell_other _ _ _ _ hLR).trans T1.out) (fun x => x))
  have F0 := hid (show Fr F W W0 by rw [← hW0]; exact (Fr.refl.setCell (p := ⟨L, k * 5 + 4, none⟩) _ (.inl hFL)).alloc _)
  have hM0 := hid (heap_lt M0.out)
  have hlx : Hid (chs (ms.set k m.setC) = l0) := by show _ = _; rw [chs_set, HL0.out]; rfl
  have RL0 := hid (show CloseRel W0 W0 F g (.slice (some ⟨L, 0, none⟩) ms.length cp) k W.heap.size w.heap.size n0 l0 [] (.slice none 0 0) { m.ch with cl := true } from
    ⟨⟨_, C0.out, hlx.out⟩, by rw [← hlx.out, chs_len, List.length_set]; exact hn, by
      intro q hq
      rw [HL0.out] at hq
      rcases List.mem_or_eq_of_mem_set hq with hq | rfl
      · obtain ⟨y, hy, rfl⟩ := List.mem_map.1 hq; exact hfit y hy
      · exact hfit m (List.mem_of_getElem? HK.out), by rw [HL0.out]; exact List.getElem?_set_self (by rw [chs_len]; exact hlk), by rw [HN0.out]; simp, M0.out, T0.out, RowF.nil, Fr.refl⟩)
  clear hW0 c0 c1 c2 c3 c4 hfz4 hLw hLR
  go_loopw [32] (fun _ wr => ∃ (l : List Ch) (acc : List Wk) (wv : Value) (c : Ch), CloseRel W0 wr F g (.slice (some ⟨L, 0, none⟩) ms.length cp) k W.heap.size w.heap.size n0 l acc wv c ∧ wakeR l k acc = wakeR l0 k []) (fun _ wr => rlen wr L k 3)
  case atStart => exact ⟨l0, [], _, _, RL0.out, rfl⟩
  case round =>
    obtain ⟨l, acc, wv, c, hrel, hwk⟩ := hrel
    have HR := hid hrel
    have HW := hid hwk
    clear hrel hwk
    obtain ⟨ms', hch, hms⟩ := HR.out.ch
    have HC := hid hch
    have HMS := hid hms
    have hml : ms'.length ≤ 1024 := by have := HR.out.len; rw [← hms, chs_len] at this; exact this
    have hmf : ∀ q ∈ ms', q.ch.Fit := fun q hq => HR.out.fit _ (by rw [← hms]; exact List.mem_map.2 ⟨q, hq, rfl⟩)
    obtain ⟨m', hm', hmc⟩ : ∃ m', ms'[k]? = some m' ∧ m'.ch = c := by
      have := HR.out.at'
      rw [← hms] at this; unfold chs at this
      rw [List.getElem?_map] at this
      exact Option.map_eq_some_iff.1 this
    subst hmc
    have hmd := hch.made
    obtain ⟨L', cp', e0, _, c0, c1, c2, c3, c4, hfz⟩ := hch.at hm'
    have ea : L = L' := by injection e0 with ea; injection ea with ea; injection ea with ea
    subst ea
    clear e0 hfz hch hms
    have O1 := hid (HC.out.own.each m' (List.mem_of_getElem? hm'))
    obtain ⟨⟨i0', i1, i2, i3, i4⟩, q0, q1, q2, q3, q4⟩ := blk5 HR.out.cell
    clear i0' i1 i2 i3 q0 q1 q2 q3 c0 c1 c4
    have HMM := hid hm'
    clear hm'
    cases hr : m'.ch.rcv with
    | nil =>
      obtain ⟨A, cc, e, _⟩ := O1.out.rcv.read (by decide) (wts_len _)
      rw [e, hr] at c3
      have HRR := hid hr
      clear hr e
      have RL1 := hid HR.out
      have e1 := HW.out.trans HLA.out
      rw [wakeR_nil acc HR.out.at' HRR.out] at e1
      cases e1
      go_wp2_with fail
      clear hmd i4 q4 c2 c3 hml hmf HC HMS HMM O1 HRR HW HR
      go_loopw [51] (fun _ wr => ∃ (l : List Ch) (acc : List Wk) (wv : Value) (c : Ch), CloseRel W0 wr F g (.slice (some ⟨L, 0, none⟩) ms.length cp) k W.heap.size w.heap.size n0 l acc wv c ∧ wakeS l k acc = wakeS la k ka) (fun _ wr => rlen wr L k 2)
      case atStart => exact ⟨la, ka, _, _, RL1.out, rfl⟩
      case round =>
        obtain ⟨l, acc, wv, c, hrel, hwk⟩ := hrel
        have HR := hid hrel
        have HW := hid hwk
        clear hrel hwk
        obtain ⟨ms', hch, hms⟩ := HR.out.ch
        have HC := hid hch
        have HMS := hid hms
        have hml : ms'.length ≤ 1024 := by have := HR.out.len; rw [← hms, chs_len] at this; exact this
        have hmf : ∀ q ∈ ms', q.ch.Fit := fun q hq => HR.out.fit _ (by rw [← hms]; exact List.mem_map.2 ⟨q, hq, rfl⟩)
        obtain ⟨m', hm', hmc⟩ : ∃ m', ms'[k]? = some m' ∧ m'.ch = c := by
          have := HR.out.at'
          rw [← hms] at this; unfold chs at this
          rw [List.getElem?_map] at this
          exact Option.map_eq_some_iff.1 this
        subst hmc
        have hmd := hch.made
        obtain ⟨L', cp', e0, _, c0, c1, c2, c3, c4, hfz⟩ := hch.at hm'
        have ea : L = L' := by injection e0 with ea; injection ea with ea; injection ea with ea
        subst ea
        clear e0 hfz hch hms
        have O1 := hid (HC.out.own.each m' (List.mem_of_getElem? hm'))
        obtain ⟨⟨i0', i1, i2, i3, i4⟩, q0, q1, q2, q3, q4⟩ := blk5 HR.out.cell
        clear i0' i1 i2 i3 q0 q1 q2 q3 c0 c1 c4
        have HMM := hid hm'
        clear hm'
        cases hr : m'.ch.snd with
        | nil =>
          obtain ⟨A, cc, e, _⟩ := O1.out.snd.read (by decide) (wts_len _)
          rw [e, hr] at c2
          have HRR := hid hr
          clear hr e
          obtain ⟨Aw, nw, cw, rfl⟩ := HR.out.row.shape
          have HR2 := hid HR.out.res
          obtain ⟨⟨b0, b1, b2, b3, b4⟩, z0, z1, z2, z3, z4⟩ := blk5 HR.out.res
          obtain ⟨⟨i0, i1, i2, i3, _⟩, _⟩ := blk5 HR.out.cell
          go_wp2_with fail
          have T5 := hid (set5_heap (w := wr) HR2.out (.bool false) (.int .i64 0) (.bool false) (.int .i64 0) (.slice Aw nw cw))
          have S5 := hid (set5_fr (S := fun q => q = w.heap.size) (w := wr) (B := w.heap.size) rfl (.bool false) (.int .i64 0) (.bool false) (.int .i64 0) (.slice Aw nw cw))
          have e1 := HW.out.trans HLB.out
          rw [wakeS_nil acc HR.out.at' HRR.out] at e1
          cases e1
          refine fin30 (m := { woken := kb }) rfl rfl T5.out ⟨_, rfl, ⟨_, HR.out.row.fr S5.out (fun q hq e => ?_)⟩, ?_⟩
          · have h1 : W0.heap.size ≤ q := HR.out.row.2 q hq
            have := hM0.out; have := hWs.out; omega
          · refine (HR.out.ch.is.fr S5.out (fun q hq e => by have := H.out.lt q hq; omega)).step (fun q hq => .inl hq) ?_
            refine Fr.trans' ?_ S5.out (fun q hq => .inr (by omega))
            exact ((FA.out.e0 (S := F)).trans F0.out).trans' HR.out.fr (fun q hq => by rcases hq with hq | hq; (exact .inl hq); (exact .inr (by have := hWs.out; omega)))
        | cons x r =>
          rcases O1.out.snd.form (by decide) (wts_len _) with ⟨_, h0, _⟩ | ⟨b3, p3, hv3, _, hb3, hn3, _, hr3, _⟩
          · rw [hr] at h0; simp at h0
          obtain ⟨d0, d1, d2, d3⟩ := hr3.wt (k := 0) (x := x) (by rw [hr]; rfl)
          simp only [Nat.zero_add, Nat.zero_mul] at d0 d1 d2 d3
          have hl3 : m'.ch.snd.length = r.length + 1 := by rw [hr]; rfl
          rw [hl3] at hv3 hn3
          rw [hv3] at c2
          have HRR := hid hr
          have CD := hid (HC.out.fr (Fr.refl (S := E0) (w := wr) |>.drew) (fun _ _ x => x))
          have hroom1 : acc.length + (r.length + 1) ≤ n0 := by have := HR.out.room; rw [← hl3]; omega
          have hMF : Hid (¬ F W.heap.size) := fun hx => by have := H.out.lt _ hx; have := hWs.out; omega
          have hNF : Hid (∀ q, W0.heap.size ≤ q → ¬ F q) := fun q hq hx => by have := H.out.lt q hx; have := hM0.out; have := hWs.out; omega
          have HRow := hid HR.out.row
          obtain ⟨j0, hi0, hz0, hz1, hz2⟩ := info_parts info39
          clear hr3 hr hv3 hl3 O1
          go_wp2_with fail
          go_region_law (first
            | (refine step_append_lies _ (by rfl) (.tmp 58) (.tmp 67) 30 (by rfl) 0 39 j0 (.agg #[.int .i64 0, .int .i64 0, .int .i64 0, .int .i64 0, .bool false, .int .i64 0]) 6 48 Try.underlying30 hi0 hz0 hz1 hz2 rfl (by decide) wv acc.length (wks acc) (by rfl) (HO5.out.own (by decide) (wks_len acc)) ⟨w5.heap.size, 0, none⟩ 1 1 [.int .i64 x.s, .int .i64 x.g, .int .i64 x.c, .int .i64 0, .bool false, .int .i64 6] (by rfl) (by rfl) (news1 _ _) (by simp [Value.oneCell']) (by decide) (by unfold maxLen; omega) (by omega) (Nat.zero_le _) (w5.heap.size + 1) (by simp) ?_; intro gb cap w7 hown7 hgrow7 hat7 hlt7; have y1 : w7.cell? ⟨W.heap.size, 4, none⟩ = some wv := hgrow7.cell (by rw [World.cell?_alloc_past _ _ _ hM5.out]; exact y0) (fun e => HMV.out e.symm); have y2 : w7.frozen? ⟨W.heap.size, 4, none⟩ = false := (by rw [hgrow7.frozen_far _ (Nat.lt_of_lt_of_le hM5.out (by simp)) (fun e => HMV.out e.symm), World.frozen?_alloc_past _ _ _ hM5.out]; exact z0); have HN := hid (And.intro hown7 (And.intro hgrow7 hat7)); clear hown7 hgrow7 hat7)
            | (go_simp; go_at_call 55; refine (wake_okV CD.out x 0 false 6 hml hmf).mono ?_; rintro e w5 ⟨rfl, hl5, hf5⟩; simp only [Wk.val]; rw [HMS.out] at hl5; have M5 := hid (hf5.heapAt (w := wr.drew) HR.out.cell hMF.out); obtain ⟨⟨_, _, _, _, y0⟩, _, _, _, _, z0⟩ := blk5 M5.out; have hM5 := hid (heap_lt M5.out); have hM5v : W.heap.size < w5.heap.size := hM5.out; have HO5 := hid (((HRow.out.fr (Fr.refl (S := E0) (w := wr) |>.drew) (fun _ _ x => x)).fr hf5 (fun q hq hx => hNF.out q (HRow.out.2 q hq) hx)).fr (Fr.refl (S := E0) |>.alloc (.cells #[.int .i64 x.s, .int .i64 x.g, .int .i64 x.c, .int .i64 0, .bool false, .int .i64 6] 39)) (fun _ _ x => x)); have HMV : Hid (¬ wv.ownBlock = some W.heap.size) := (fun e => absurd (HRow.out.2 _ e) (by unfold New; have := hM0.out; omega)); have L5 := hid hl5; have F5 := hid hf5; clear hl5 hf5 d0 d1 d2 d3 c2))
          all_goals
            have ST := hid (close_step_snd HR.out HRR.out (fun q hq => H.out.lt q hq) (by rw [hWs.out]; exact Nat.lt_succ_self _) hM0.out L5.out F5.out (.cells #[.int .i64 x.s, .int .i64 x.g, .int .i64 x.c, .int .i64 0, .bool false, .int .i64 6] 39) HN.out.1 HN.out.2.1 (by rcases HN.out.2.2 with h | h; (exact .inl h); (exact .inr (by simp; exact h))))
            have HMeas : Hid (rlen (w7.setCell ⟨W.heap.size, 4, none⟩ (.slice (some ⟨gb, 0, none⟩) (acc.length + 1) cap)) L k 2 < rlen wr L k 2) := by
              show _ < _
              rw [rlen_snd ST.out.ch ST.out.at', rlen_snd HR.out.ch HR.out.at']
              exact rlen_lt HRR.out
            have HWK : Hid (wakeS (leaveL x.s x.g l) k (acc ++ [⟨x.s, x.g, x.c, 0, false, 6⟩]) = wakeS la k ka) := by
              show _ = _
              rw [← wakeS_cons acc HR.out.at' HRR.out]; exact HW.out
            go_wp2_with fail
            go_roundw
            case rel => exact ⟨_, _, _, _, ST.out, HWK.out⟩
            case measure => exact HMeas.out

    | cons x r =>
      rcases O1.out.rcv.form (by decide) (wts_len _) with ⟨_, h0, _⟩ | ⟨b3, p3, hv3, _, hb3, hn3, _, hr3, _⟩
      · rw [hr] at h0; simp at h0
      obtain ⟨d0, d1, d2, d3⟩ := hr3.wt (k := 0) (x := x) (by rw [hr]; rfl)
      simp only [Nat.zero_add, Nat.zero_mul] at d0 d1 d2 d3
      have hl3 : m'.ch.rcv.length = r.length + 1 := by rw [hr]; rfl
      rw [hl3] at hv3 hn3
      rw [hv3] at c3
      have HRR := hid hr
      have CD := hid (HC.out.fr (Fr.refl (S := E0) (w := wr) |>.drew) (fun _ _ x => x))
      have hroom1 : acc.length + (r.length + 1) ≤ n0 := by have := HR.out.room; rw [← hl3]; omega
      have hMF : Hid (¬ F W.heap.size) := fun hx => by have := H.out.lt _ hx; have := hWs.out; omega
      have hNF : Hid (∀ q, W0.heap.size ≤ q → ¬ F q) := fun q hq hx => by have := H.out.lt q hx; have := hM0.out; have := hWs.out; omega
      have HRow := hid HR.out.row
      obtain ⟨j0, hi0, hz0, hz1, hz2⟩ := info_parts info39
      clear hr3 hr hv3 hl3 O1
      go_wp2_with fail
      go_region_law (first
        | (refine step_append_lies _ (by rfl) (.tmp 39) (.tmp 48) 30 (by rfl) 0 39 j0 (.agg #[.int .i64 0, .int .i64 0, .int .i64 0, .int .i64 0, .bool false, .int .i64 0]) 6 48 Try.underlying30 hi0 hz0 hz1 hz2 rfl (by decide) wv acc.length (wks acc) (by rfl) (HO5.out.own (by decide) (wks_len acc)) ⟨w5.heap.size, 0, none⟩ 1 1 [.int .i64 x.s, .int .i64 x.g, .int .i64 x.c, .int .i64 0, .bool false, .int .i64 0] (by rfl) (by rfl) (news1 _ _) (by simp [Value.oneCell']) (by decide) (by unfold maxLen; omega) (by omega) (Nat.zero_le _) (w5.heap.size + 1) (by simp) ?_; intro gb cap w7 hown7 hgrow7 hat7 hlt7; have y1 : w7.cell? ⟨W.heap.size, 4, none⟩ = some wv := hgrow7.cell (by rw [World.cell?_alloc_past _ _ _ hM5.out]; exact y0) (fun e => HMV.out e.symm); have y2 : w7.frozen? ⟨W.heap.size, 4, none⟩ = false := (by rw [hgrow7.frozen_far _ (Nat.lt_of_lt_of_le hM5.out (by simp)) (fun e => HMV.out e.symm), World.frozen?_alloc_past _ _ _ hM5.out]; exact z0); have HN := hid (And.intro hown7 (And.intro hgrow7 hat7)); clear hown7 hgrow7 hat7)
        | (go_simp; go_at_call 55; refine (wake_okV CD.out x 0 false 0 hml hmf).mono ?_; rintro e w5 ⟨rfl, hl5, hf5⟩; simp only [Wk.val]; rw [HMS.out] at hl5; have M5 := hid (hf5.heapAt (w := wr.drew) HR.out.cell hMF.out); obtain ⟨⟨_, _, _, _, y0⟩, _, _, _, _, z0⟩ := blk5 M5.out; have hM5 := hid (heap_lt M5.out); have hM5v : W.heap.size < w5.heap.size := hM5.out; have HO5 := hid (((HRow.out.fr (Fr.refl (S := E0) (w := wr) |>.drew) (fun _ _ x => x)).fr hf5 (fun q hq hx => hNF.out q (HRow.out.2 q hq) hx)).fr (Fr.refl (S := E0) |>.alloc (.cells #[.int .i64 x.s, .int .i64 x.g, .int .i64 x.c, .int .i64 0, .bool false, .int .i64 0] 39)) (fun _ _ x => x)); have HMV : Hid (¬ wv.ownBlock = some W.heap.size) := (fun e => absurd (HRow.out.2 _ e) (by unfold New; have := hM0.out; omega)); have L5 := hid hl5; have F5 := hid hf5; clear hl5 hf5 d0 d1 d2 d3 c3))
      all_goals
        have ST := hid (close_step_rcv HR.out HRR.out (fun q hq => H.out.lt q hq) (by rw [hWs.out]; exact Nat.lt_succ_self _) hM0.out L5.out F5.out (.cells #[.int .i64 x.s, .int .i64 x.g, .int .i64 x.c, .int .i64 0, .bool false, .int .i64 0] 39) HN.out.1 HN.out.2.1 (by rcases HN.out.2.2 with h | h; (exact .inl h); (exact .inr (by simp; exact h))))
        have HMeas : Hid (rlen (w7.setCell ⟨W.heap.size, 4, none⟩ (.slice (some ⟨gb, 0, none⟩) (acc.length + 1) cap)) L k 3 < rlen wr L k 3) := by
          show _ < _
          rw [rlen_rcv ST.out.ch ST.out.at', rlen_rcv HR.out.ch HR.out.at']
          exact rlen_lt HRR.out
        have HWK : Hid (wakeR (leaveL x.s x.g l) k (acc ++ [⟨x.s, x.g, x.c, 0, false, 0⟩]) = wakeR l0 k []) := by
          show _ = _
          rw [← wakeR_cons acc HR.out.at' HRR.out]; exact HW.out
        go_wp2_with fail
        go_roundw
        case rel => exact ⟨_, _, _, _, ST.out, HWK.out⟩
        case measure => exact HMeas.out
end Go.Proofs.Yteffmnohgnmanaa
/- The calls on channels, each by one contract over plain data. -/
namespace Go.Proofs.Yteffmnohgnmanaa
open Go.RowKit
/-- Channels of which no list is longer than memory bears: at most N wait on each. -/
structure Ok (N : Nat) (l : List Ch) : Prop where
  len : l.length ≤ 1024
  cap : ∀ c ∈ l, 0 ≤ c.cap ∧ c.cap ≤ 1024
  vals : ∀ c ∈ l, (c.vals.length : Int) ≤ c.cap
  who : ∀ c ∈ l, c.snd.length + c.rcv.length ≤ N
theorem Ok.mono {N M : Nat} {l : List Ch} (h : Ok N l) (hNM : N ≤ M) : Ok M l := ⟨h.len, h.cap, h.vals, fun c hc => Nat.le_trans (h.who c hc) hNM⟩
theorem Ok.fit {N : Nat} {l : List Ch} (h : Ok N l) (hN : N * 48 ≤ 140737488355328) : ∀ c ∈ l, c.Fit := by
  intro c hc
  have h1 := h.cap c hc
  have h2 := h.vals c hc
  have h3 := h.who c hc
  refine ⟨?_, ?_, ?_⟩ <;> omega
theorem Ok.fitM {N : Nat} {ms : List CM} (h : Ok N (chs ms)) (hN : N * 48 ≤ 140737488355328) : ∀ m ∈ ms, m.ch.Fit := fun m hm => h.fit hN _ (List.mem_map.2 ⟨m, hm, rfl⟩)
theorem ok_nil : Ok 0 [] := ⟨by simp, by simp, by simp, by simp⟩
theorem Ok.set {N : Nat} {l : List Ch} {k : Nat} {c : Ch} (h : Ok N l) (h1 : 0 ≤ c.cap ∧ c.cap ≤ 1024) (h2 : (c.vals.length : Int) ≤ c.cap) (h3 : c.snd.length + c.rcv.length ≤ N) : Ok N (l.set k c) := by
  refine ⟨by rw [List.length_set]; exact h.len, ?_, ?_, ?_⟩
  · intro q hq; rcases List.mem_or_eq_of_mem_set hq with hq | rfl; (exact h.cap q hq); (exact h1)
  · intro q hq; rcases List.mem_or_eq_of_mem_set hq with hq | rfl; (exact h.vals q hq); (exact h2)
  · intro q hq; rcases List.mem_or_eq_of_mem_set hq with hq | rfl; (exact h.who q hq); (exact h3)
theorem Ok.leave {N : Nat} {l : List Ch} {gs gg : Int} (h : Ok N l) : Ok N (leaveL gs gg l) := by
  refine ⟨by simpa [leaveL] using h.len, ?_, ?_, ?_⟩
  · intro c hc; obtain ⟨q, hq, rfl⟩ := List.mem_map.1 hc; exact h.cap q hq
  · intro c hc; obtain ⟨q, hq, rfl⟩ := List.mem_map.1 hc; exact h.vals q hq
  · intro c hc; obtain ⟨q, hq, rfl⟩ := List.mem_map.1 hc
    have h1 := h.who q hq
    have a := wout_le gs gg q.snd
    have b := wout_le gs gg q.rcv
    simp only [leaveCh]; omega
theorem getC_k {l : List Ch} {ch : Int} {c : Ch} (h : getC l ch = some c) : ∃ k : Nat, ch = (k : Int) + 1 ∧ l[k]? = some c := by
  unfold getC at h
  split at h
  · exact ⟨(ch - 1).toNat, by omega, h⟩
  · cases h
theorem getC_mem {l : List Ch} {ch : Int} {c : Ch} (h : getC l ch = some c) : c ∈ l := by
  obtain ⟨k, _, hk⟩ := getC_k h; exact List.mem_of_getElem? hk
theorem setK_k {l : List Ch} {k : Nat} {c : Ch} : setK l ((k : Int) + 1) c = l.set k c := by unfold setK; congr 1; omega
theorem Ok.send {N : Nat} {l : List Ch} (h : Ok N l) (ch gs gg v : Int) : Ok (N + 1) (sendL l ch gs gg v).1 := by
  have h' := h.mono (Nat.le_succ N)
  unfold sendL
  split
  · exact h'
  split
  · exact h'
  split
  · exact h'
  rename_i c hc
  have hm := getC_mem hc
  split
  · exact h'
  split
  · exact h'.leave
  rename_i hr
  have h1 := h.cap c hm
  have h2 := h.vals c hm
  have h3 := h.who c hm
  split
  · exact h'.set h1 (by simp; omega) (by simp; omega)
  · exact h'.set h1 h2 (by simp; omega)
theorem Ok.recv {N : Nat} {l : List Ch} (h : Ok N l) (ch gs gg : Int) : Ok (N + 1) (recvL l ch gs gg).1 := by
  have h' := h.mono (Nat.le_succ N)
  unfold recvL
  split
  · exact h'
  split
  · exact h'
  split
  · exact h'
  rename_i c hc
  have hm := getC_mem hc
  have h1 := h.cap c hm
  have h2 := h.vals c hm
  have h3 := h.who c hm
  split
  · rename_i v vs hv
    rw [hv] at h2
    simp at h2
    split
    · exact h'.set (c := { c with vals := vs }) h1 (by simp; omega) (by simp; omega)
    · rename_i x r hs
      have h4 : Ok (N + 1) (setK l ch { c with vals := vs ++ [x.v] }) := h'.set h1 (by simp; omega) (by simp only; omega)
      exact h4.leave
  · split
    · exact h'.leave
    · split
      · exact h'
      · exact h'.set h1 h2 (by simp; omega)
theorem ok_wakeR {N k : Nat} : ∀ (n : Nat) (l : List Ch) (acc : List Wk), Ok N l → (match l[k]? with | some c => c.rcv.length | none => 0) ≤ n → Ok N (wakeR l k acc).1 := by
  intro n
  induction n with
  | zero =>
    intro l acc h hn
    cases hc : l[k]? with
    | none => rw [wakeR]; split; (exact h); (rename_i h'; rw [hc] at h'; cases h')
    | some c => rw [hc] at hn; rw [wakeR_nil acc hc (List.eq_nil_of_length_eq_zero (by simpa using hn))]; exact h
  | succ n ih =>
    intro l acc h hn
    cases hc : l[k]? with
    | none => rw [wakeR]; split; (exact h); (rename_i h'; rw [hc] at h'; cases h')
    | some c =>
      cases hr : c.rcv with
      | nil => rw [wakeR_nil acc hc hr]; exact h
      | cons x r =>
        rw [wakeR_cons acc hc hr]
        refine ih _ _ h.leave ?_
        rw [leaveL_get, hc]
        rw [hc] at hn
        have := rlen_lt hr
        simp only [Option.map_some, leaveCh] at hn ⊢
        omega
theorem ok_wakeS {N k : Nat} : ∀ (n : Nat) (l : List Ch) (acc : List Wk), Ok N l → (match l[k]? with | some c => c.snd.length | none => 0) ≤ n → Ok N (wakeS l k acc).1 := by
  intro n
  induction n with
  | zero =>
    intro l acc h hn
    cases hc : l[k]? with
    | none => rw [wakeS]; split; (exact h); (rename_i h'; rw [hc] at h'; cases h')
    | some c => rw [hc] at hn; rw [wakeS_nil acc hc (List.eq_nil_of_length_eq_zero (by simpa using hn))]; exact h
  | succ n ih =>
    intro l acc h hn
    cases hc : l[k]? with
    | none => rw [wakeS]; split; (exact h); (rename_i h'; rw [hc] at h'; cases h')
    | some c =>
      cases hr : c.snd with
      | nil => rw [wakeS_nil acc hc hr]; exact h
      | cons x r =>
        rw [wakeS_cons acc hc hr]
        refine ih _ _ h.leave ?_
        rw [leaveL_get, hc]
        rw [hc] at hn
        have := rlen_lt hr
        simp only [Option.map_some, leaveCh] at hn ⊢
        omega
theorem Ok.close {N : Nat} {l : List Ch} (h : Ok N l) (ch : Int) : Ok N (closeL l ch).1 := by
  unfold closeL
  split
  · exact h
  split
  · exact h
  rename_i c hc
  have hm := getC_mem hc
  split
  · exact h
  · exact ok_wakeS _ _ _ (ok_wakeR _ _ _ (h.set (h.cap c hm) (h.vals c hm) (h.who c hm)) (Nat.le_refl _)) (Nat.le_refl _)
theorem Ok.wait {N : Nat} {l : List Ch} (h : Ok N l) (ch : Int) (x : Wt) (send : Bool) : Ok (N + 1) (waitL l ch x send).1 := by
  have h' := h.mono (Nat.le_succ N)
  unfold waitL
  split
  · exact h'
  rename_i c hc
  have hm := getC_mem hc
  have h3 := h.who c hm
  split
  · exact h'.set (h.cap c hm) (h.vals c hm) (by simp; omega)
  · exact h'.set (h.cap c hm) (h.vals c hm) (by simp; omega)
theorem Ok.make {N : Nat} {l : List Ch} {c : Int} (h : Ok N l) (hno : makeNo l c = false) : Ok N (l ++ [newCh c]) := by
  simp [makeNo] at hno
  refine ⟨by simp; omega, ?_, ?_, ?_⟩
  · intro q hq; rcases List.mem_append.1 hq with hq | hq
    · exact h.cap q hq
    · simp at hq; subst hq; exact ⟨hno.1, hno.2.1⟩
  · intro q hq; rcases List.mem_append.1 hq with hq | hq
    · exact h.vals q hq
    · simp at hq; subst hq; exact hno.1
  · intro q hq; rcases List.mem_append.1 hq with hq | hq
    · exact h.who q hq
    · simp at hq; subst hq; simp [newCh]

theorem trapC_some {l : List Ch} {ch : Int} {c : Ch} (h : getC l ch = some c) : trapC l ch = 0 := by
  obtain ⟨k, rfl, hk⟩ := getC_k h; exact trapC_in hk
theorem send_all {w : World} {F : Nat → Prop} {g N : Nat} {l : List Ch} (h : IsCh w F g l) (hok : Ok N l) (hN : (N + 1) * 48 ≤ 140737488355328) (ch gs gg v : Int) :
    Calls Try.prog 23 #[.pointer (some ⟨g, 0, none⟩), .int .i64 ch, .agg #[.int .i64 gs, .int .i64 gg], .int .i64 v] w (MvPost F g w (sendL l ch gs gg v).1 (sendL l ch gs gg v).2.1 (sendL l ch gs gg v).2.2) := by
  obtain ⟨v0, ms, hc, rfl⟩ := h
  have hn : ms.length ≤ 1024 := by rw [← chs_len]; exact hok.len
  have hfit := hok.fitM (by omega)
  cases hw : waitsL gs gg (chs ms) with
  | true =>
    have e : sendL (chs ms) ch gs gg v = (chs ms, {}, 111) := by unfold sendL; rw [if_pos hw]
    rw [e]; exact send_waits hc gs gg v hn hfit hw ch
  | false =>
    rcases handle ms ch with ho | rfl | ⟨k, m, rfl, hk⟩
    · have e : sendL (chs ms) ch gs gg v = (chs ms, { trap := 4 }, 0) := by
        unfold sendL; rw [trapC_out (by rw [chs_len]; exact ho)]; simp [hw]
      rw [e]; exact send_out hc gs gg v hn hfit hw ch ho
    · have e : sendL (chs ms) 0 gs gg v = (chs ms, { waits := true }, 0) := by
        unfold sendL; rw [trapC_zero, getC_zero]; simp [hw]
      rw [e]; exact send_nil hc gs gg v hn hfit hw
    · have hg := getC_in (chs_get hk)
      have ht := trapC_in (chs_get hk)
      have hmem : m.ch ∈ chs ms := List.mem_map.2 ⟨m, List.mem_of_getElem? hk, rfl⟩
      cases hcl : m.ch.cl with
      | true =>
        have e : sendL (chs ms) ((k : Int) + 1) gs gg v = (chs ms, { trap := 6 }, 0) := by unfold sendL; rw [ht, hg]; simp [hw, hcl]
        rw [e]; exact send_closed hc gs gg v hn hfit hw hk hcl
      | false =>
        cases hr : m.ch.rcv with
        | cons x r =>
          have e : sendL (chs ms) ((k : Int) + 1) gs gg v = (leaveL x.s x.g (chs ms), { ok := true, woken := [⟨x.s, x.g, x.c, v, true, 0⟩] }, 0) := by unfold sendL; rw [ht, hg]; simp [hw, hcl, hr]
          rw [e]; exact send_wakes hc gs gg v hn hfit hw hk hcl hr
        | nil =>
          by_cases hb : (m.ch.vals.length : Int) < m.ch.cap
          · have e : sendL (chs ms) ((k : Int) + 1) gs gg v = ((chs ms).set k { m.ch with vals := m.ch.vals ++ [v] }, { ok := true }, 0) := by unfold sendL; rw [ht, hg]; simp [hw, hcl, hr, hb, setK_k]
            rw [e]; exact send_buffers hc gs gg v hn hfit hw hk hcl hr hb (hok.cap _ hmem).2
          · have e : sendL (chs ms) ((k : Int) + 1) gs gg v = ((chs ms).set k { m.ch with snd := m.ch.snd ++ [⟨gs, gg, 0, v⟩] }, { waits := true }, 0) := by unfold sendL; rw [ht, hg]; simp [hw, hcl, hr, hb, setK_k]
            rw [e]; exact send_queues hc gs gg v hn hfit hw hk hcl hr hb (by have := hok.who _ hmem; omega)
theorem recv_all {w : World} {F : Nat → Prop} {g N : Nat} {l : List Ch} (h : IsCh w F g l) (hok : Ok N l) (hN : (N + 1) * 48 ≤ 140737488355328) (ch gs gg : Int) :
    Calls Try.prog 24 #[.pointer (some ⟨g, 0, none⟩), .int .i64 ch, .agg #[.int .i64 gs, .int .i64 gg]] w (MvPost F g w (recvL l ch gs gg).1 (recvL l ch gs gg).2.1 (recvL l ch gs gg).2.2) := by
  obtain ⟨v0, ms, hc, rfl⟩ := h
  have hn : ms.length ≤ 1024 := by rw [← chs_len]; exact hok.len
  have hfit := hok.fitM (by omega)
  cases hw : waitsL gs gg (chs ms) with
  | true =>
    have e : recvL (chs ms) ch gs gg = (chs ms, {}, 111) := by unfold recvL; rw [if_pos hw]
    rw [e]; exact recv_waits hc gs gg hn hfit hw ch
  | false =>
    rcases handle ms ch with ho | rfl | ⟨k, m, rfl, hk⟩
    · have e : recvL (chs ms) ch gs gg = (chs ms, { trap := 4 }, 0) := by
        unfold recvL; rw [trapC_out (by rw [chs_len]; exact ho)]; simp [hw]
      rw [e]; exact recv_out hc gs gg hn hfit hw ch ho
    · have e : recvL (chs ms) 0 gs gg = (chs ms, { waits := true }, 0) := by
        unfold recvL; rw [trapC_zero, getC_zero]; simp [hw]
      rw [e]; exact recv_nil hc gs gg hn hfit hw
    · have hg := getC_in (chs_get hk)
      have ht := trapC_in (chs_get hk)
      have hmem : m.ch ∈ chs ms := List.mem_map.2 ⟨m, List.mem_of_getElem? hk, rfl⟩
      cases hv : m.ch.vals with
      | cons v vs =>
        cases hs : m.ch.snd with
        | nil =>
          have e : recvL (chs ms) ((k : Int) + 1) gs gg = ((chs ms).set k { m.ch with vals := vs }, { value := v, ok := true }, 0) := by unfold recvL; rw [ht, hg]; simp [hw, hv, hs, setK_k]
          rw [e]; exact recv_value hc gs gg hn hfit hw hk hv hs
        | cons x r =>
          have e : recvL (chs ms) ((k : Int) + 1) gs gg = (leaveL x.s x.g ((chs ms).set k { m.ch with vals := vs ++ [x.v] }), { value := v, ok := true, woken := [⟨x.s, x.g, x.c, 0, true, 0⟩] }, 0) := by unfold recvL; rw [ht, hg]; simp [hw, hv, hs, setK_k]
          rw [e]; exact recv_value_wakes hc gs gg hn hfit hw hk hv hs (by have h1 := hok.vals _ hmem; have h2 := hok.cap _ hmem; rw [hv] at h1; simp at h1; omega)
      | nil =>
        cases hs : m.ch.snd with
        | cons x r =>
          have e : recvL (chs ms) ((k : Int) + 1) gs gg = (leaveL x.s x.g (chs ms), { value := x.v, ok := true, woken := [⟨x.s, x.g, x.c, 0, true, 0⟩] }, 0) := by unfold recvL; rw [ht, hg]; simp [hw, hv, hs]
          rw [e]; exact recv_wakes hc gs gg hn hfit hw hk hv hs
        | nil =>
          cases hcl : m.ch.cl with
          | true =>
            have e : recvL (chs ms) ((k : Int) + 1) gs gg = (chs ms, {}, 0) := by unfold recvL; rw [ht, hg]; simp [hw, hv, hs, hcl]
            rw [e]; exact recv_closed hc gs gg hn hfit hw hk hv hs hcl
          | false =>
            have e : recvL (chs ms) ((k : Int) + 1) gs gg = ((chs ms).set k { m.ch with rcv := m.ch.rcv ++ [⟨gs, gg, 0, 0⟩] }, { waits := true }, 0) := by unfold recvL; rw [ht, hg]; simp [hw, hv, hs, hcl, setK_k]
            rw [e]; exact recv_queues hc gs gg hn hfit hw hk hv hs hcl (by have := hok.who _ hmem; omega)
theorem wait_all {w : World} {F : Nat → Prop} {g N : Nat} {l : List Ch} (h : IsCh w F g l) (hok : Ok N l) (hN : (N + 1) * 48 ≤ 140737488355328) (ch : Int) (x : Wt) (send : Bool) :
    Calls Try.prog 59 #[.pointer (some ⟨g, 0, none⟩), .int .i64 ch, x.val, .bool send] w (WaitPost F g w (waitL l ch x send).1 (waitL l ch x send).2) := by
  obtain ⟨v0, ms, hc, rfl⟩ := h
  rcases handle ms ch with ho | rfl | ⟨k, m, rfl, hk⟩
  · have e : waitL (chs ms) ch x send = (chs ms, 4) := by unfold waitL; rw [getC_out (by rw [chs_len]; exact ho), trapC_out (by rw [chs_len]; exact ho)]
    rw [e]; exact wait_out hc x ch send ho
  · have e : waitL (chs ms) 0 x send = (chs ms, 0) := by unfold waitL; rw [getC_zero, trapC_zero]
    rw [e]; exact wait_nil hc x send
  · have hg := getC_in (chs_get hk)
    have hmem : m.ch ∈ chs ms := List.mem_map.2 ⟨m, List.mem_of_getElem? hk, rfl⟩
    have hwho := hok.who _ hmem
    cases send with
    | true =>
      have e : waitL (chs ms) ((k : Int) + 1) x true = ((chs ms).set k { m.ch with snd := m.ch.snd ++ [x] }, 0) := by unfold waitL; rw [hg]; simp [setK_k]
      rw [e]; exact wait_sends hc x hk (by omega)
    | false =>
      have e : waitL (chs ms) ((k : Int) + 1) x false = ((chs ms).set k { m.ch with rcv := m.ch.rcv ++ [{ x with v := 0 }] }, 0) := by unfold waitL; rw [hg]; simp [setK_k]
      rw [e]; exact wait_recvs hc x hk (by omega)
theorem close_all {w : World} {F : Nat → Prop} {g N : Nat} {l : List Ch} (h : IsCh w F g l) (hok : Ok N l) (hN : (N + 1) * 48 ≤ 140737488355328) (ch : Int) :
    Calls Try.prog 30 #[.pointer (some ⟨g, 0, none⟩), .int .i64 ch] w (MvPost1 F g w (closeL l ch).1 (closeL l ch).2) := by
  obtain ⟨v0, ms, hc, rfl⟩ := h
  have hn : ms.length ≤ 1024 := by rw [← chs_len]; exact hok.len
  have hfit := hok.fitM (by omega)
  rcases handle ms ch with ho | rfl | ⟨k, m, rfl, hk⟩
  · have e : closeL (chs ms) ch = (chs ms, { trap := 4 }) := by unfold closeL; rw [trapC_out (by rw [chs_len]; exact ho)]; simp
    rw [e]; exact close_out hc ch ho
  · have e : closeL (chs ms) 0 = (chs ms, { trap := 8 }) := by unfold closeL; rw [trapC_zero, getC_zero]; simp
    rw [e]; exact close_nil hc
  · have hg := getC_in (chs_get hk)
    have ht := trapC_in (chs_get hk)
    have hmem : m.ch ∈ chs ms := List.mem_map.2 ⟨m, List.mem_of_getElem? hk, rfl⟩
    have hwho := hok.who _ hmem
    cases hcl : m.ch.cl with
    | true =>
      have e : closeL (chs ms) ((k : Int) + 1) = (chs ms, { trap := 7 }) := by unfold closeL; rw [ht, hg]; simp [hcl]
      rw [e]; exact close_closed hc hk hcl
    | false =>
      obtain ⟨la, ka, hla⟩ : ∃ la ka, wakeR ((chs ms).set k { m.ch with cl := true }) k [] = (la, ka) := ⟨_, _, rfl⟩
      obtain ⟨lb, kb, hlb⟩ : ∃ lb kb, wakeS la k ka = (lb, kb) := ⟨_, _, rfl⟩
      have e : closeL (chs ms) ((k : Int) + 1) = (lb, { woken := kb }) := by
        unfold closeL; rw [ht, hg]
        simp only [hcl, setK_k]
        simp [hla, hlb]
      rw [e]; exact close_open hc hk hcl hn hfit (by omega) _ rfl la ka hla lb kb hlb
theorem leave_all {w : World} {F : Nat → Prop} {g N : Nat} {l : List Ch} (h : IsCh w F g l) (hok : Ok N l) (hN : (N + 1) * 48 ≤ 140737488355328) (gs gg : Int) :
    Calls Try.prog 64 #[.pointer (some ⟨g, 0, none⟩), .agg #[.int .i64 gs, .int .i64 gg]] w (LeavePost F g l gs gg w) := by
  obtain ⟨v0, ms, hc, rfl⟩ := h
  exact leave_ok hc gs gg (by rw [← chs_len]; exact hok.len) (hok.fitM (by omega))
theorem state_all {w : World} {F : Nat → Prop} {g N : Nat} {l : List Ch} (h : IsCh w F g l) (hok : Ok N l) (hN : (N + 1) * 48 ≤ 140737488355328) : Calls Try.prog 29 #[.pointer (some ⟨g, 0, none⟩)] w (MadeCs l w) := by
  obtain ⟨v0, ms, hc, rfl⟩ := h
  obtain ⟨A, c, _, hr⟩ := hc.rd
  exact state_ok hr (hok.fitM (by omega)) (by rw [← chs_len]; exact hok.len)
theorem waits_all {w : World} {F : Nat → Prop} {g : Nat} {l : List Ch} (h : IsCh w F g l) (gs gg : Int) : Calls Try.prog 31 #[.pointer (some ⟨g, 0, none⟩), .agg #[.int .i64 gs, .int .i64 gg]] w (Ret (.bool (waitsL gs gg l)) E0 w) := by
  obtain ⟨v0, ms, hc, rfl⟩ := h
  obtain ⟨A, c, _, hr⟩ := hc.rd
  exact waits_ok hr gs gg
theorem goes_all {w : World} {F : Nat → Prop} {g : Nat} {l : List Ch} (h : IsCh w F g l) (ch : Int) (send : Bool) : Calls Try.prog 46 #[.pointer (some ⟨g, 0, none⟩), .int .i64 ch, .bool send] w (Ret (tup2 (.bool (goesL l ch send)) (.int .i64 (trapC l ch))) E0 w) := by
  obtain ⟨v0, ms, hc, rfl⟩ := h
  obtain ⟨A, c, _, hr⟩ := hc.rd
  exact goes_ok hr ch send
theorem len_all {w : World} {F : Nat → Prop} {g : Nat} {l : List Ch} (h : IsCh w F g l) (ch : Int) : Calls Try.prog 25 #[.pointer (some ⟨g, 0, none⟩), .int .i64 ch] w fun e w' => e = .returned (tup2 (.int .i64 (lenL l ch)) (.int .i64 (trapC l ch))) ∧ w = w' := by
  obtain ⟨v0, ms, hc, rfl⟩ := h
  obtain ⟨A, c, _, hr⟩ := hc.rd
  exact len_ok hr ch
theorem cap_all {w : World} {F : Nat → Prop} {g N : Nat} {l : List Ch} (h : IsCh w F g l) (hok : Ok N l) (ch : Int) : Calls Try.prog 68 #[.pointer (some ⟨g, 0, none⟩), .int .i64 ch] w fun e w' => e = .returned (tup2 (.int .i64 (capL l ch)) (.int .i64 (trapC l ch))) ∧ w = w' := by
  obtain ⟨v0, ms, hc, rfl⟩ := h
  obtain ⟨A, c, _, hr⟩ := hc.rd
  exact cap_ok hr ch (fun m hm => hok.cap _ (List.mem_map.2 ⟨m, hm, rfl⟩))
theorem make_all {w : World} {F : Nat → Prop} {g N : Nat} {l : List Ch} (h : IsCh w F g l) (hok : Ok N l) (c : Int) (hno : makeNo l c = false) :
    Calls Try.prog 22 #[.pointer (some ⟨g, 0, none⟩), .int .i64 c] w (MakePost F g l c w) := by
  obtain ⟨v0, ms, hc, rfl⟩ := h
  exact make_ok hc c (by rw [← chs_len]; exact hok.len) hno
theorem make_all_no {w : World} {F : Nat → Prop} {g N : Nat} {l : List Ch} (h : IsCh w F g l) (hok : Ok N l) (c : Int) (hno : makeNo l c = true) :
    Calls Try.prog 22 #[.pointer (some ⟨g, 0, none⟩), .int .i64 c] w fun e w' => e = .returned (tup2 (.int .i64 0) (.int .i64 5)) ∧ w = w' := by
  obtain ⟨v0, ms, hc, rfl⟩ := h
  exact make_no hc c (by rw [← chs_len]; exact hok.len) hno
end Go.Proofs.Yteffmnohgnmanaa
/- rotalaw11.lives: the program's channel of one tells what it was sent. -/
namespace Go.Proofs.Yteffmnohgnmanaa
open Go.RowKit
/-- The channels l at g, in blocks that are new since w0; nothing old has changed. -/
structure Mine (w0 w : World) (F : Nat → Prop) (g : Nat) (l : List Ch) : Prop where
  is : IsCh w F g l
  new : ∀ k, F k → w0.heap.size ≤ k
  fr : Fr E0 w0 w
theorem Mine.step {w0 w w' : World} {F : Nat → Prop} {g : Nat} {l l' : List Ch} (h : Mine w0 w F g l) (hs : Step F g w l' w') : ∃ F', Mine w0 w' F' g l' ∧ (∀ k, F' k → F k ∨ w.heap.size ≤ k) ∧ Fr F w w' := by
  obtain ⟨F', i1, i2, i3⟩ := hs
  refine ⟨F', ⟨i1, fun k hk => ?_, h.fr.trans' i3 (fun k hk => .inr (h.new k hk))⟩, i2, i3⟩
  rcases i2 k hk with h1 | h1
  · exact h.new k h1
  · exact Nat.le_trans h.fr.size h1
theorem Mine.e0 {w0 w w' : World} {F : Nat → Prop} {g : Nat} {l : List Ch} (h : Mine w0 w F g l) (hf : Fr E0 w w') : Mine w0 w' F g l := ⟨h.is.fr hf (fun _ _ x => x), h.new, h.fr.trans hf⟩
theorem Mine.lt {w0 w : World} {F : Nat → Prop} {g : Nat} {l : List Ch} (h : Mine w0 w F g l) : ∀ k, F k → k < w.heap.size := by
  obtain ⟨_, _, hc, _⟩ := h.is; exact hc.lt
theorem Mine.mine_new {w w' : World} {g : Nat} (h : IsCh w' (fun k => w.heap.size ≤ k ∧ k < w'.heap.size) g []) (hf : Fr E0 w w') : Mine w w' (fun k => w.heap.size ≤ k ∧ k < w'.heap.size) g [] := ⟨h, fun _ hk => hk.1, hf⟩
set_option maxHeartbeats 2000000 in
theorem lives_ok (w : World) : Calls Try.prog 21 #[] w (Ret (.bool true) E0 w) := by
  go_enter Try.func21, Try.ntmps21
  go_wp2_with fail
  refine (new_ok w).mono ?_
  rintro e w1 ⟨g, rfl, hi, hf⟩
  have M1 := hid (Mine.mine_new hi hf)
  clear hi hf
  go_wp2_with fail
  refine (make_all M1.out.is ok_nil 1 rfl).mono ?_
  rintro e w2 ⟨rfl, hs⟩
  obtain ⟨F2, m2, _, _⟩ := M1.out.step hs
  have M2 := hid m2
  have K2 := hid (ok_nil.make (c := 1) rfl)
  clear hs m2
  simp only [tup2]
  go_wp2_with fail
  refine (send_all M2.out.is K2.out (by omega) 1 1 0 8).mono ?_
  rintro e w3 ⟨wv, rfl, hr3, hs3⟩
  obtain ⟨F3, m3, _, _⟩ := M2.out.step hs3
  rw [show sendL ([] ++ [newCh 1]) 1 1 0 8 = ([{ newCh 1 with vals := [8] }], { ok := true }, 0) from by decide] at m3 hr3 ⊢
  obtain ⟨A3, n3, c3, rfl⟩ := hr3.shape
  have M3 := hid m3
  have K3 := hid (K2.out.send 1 1 0 8)
  rw [show sendL ([] ++ [newCh 1]) 1 1 0 8 = ([{ newCh 1 with vals := [8] }], { ok := true }, 0) from by decide] at K3
  clear hs3 m3 hr3
  simp only [tup2, Mv.val]
  go_wp2_with fail
  generalize hW3 : w3.alloc (.cells #[.bool false, .int .i64 0, .bool true, .int .i64 0, .slice A3 n3 c3] 32) = W3
  have M3' := hid (hW3 ▸ M3.out.e0 (Fr.refl.alloc _))
  have b3 : W3.heap[w3.heap.size]? = some (.cells #[.bool false, .int .i64 0, .bool true, .int .i64 0, .slice A3 n3 c3] 32 (0, 0)) := hW3 ▸ heap_alloc_new w3 _
  have l3 := M3.out.lt
  clear hW3 M3
  refine (recv_all M3'.out.is K3.out (by omega) 1 2 0).mono ?_
  rintro e w4 ⟨wv, rfl, hr4, hs4⟩
  obtain ⟨F4, m4, _, f4⟩ := M3'.out.step hs4
  have b4 := f4.heapAt b3 (fun x => absurd (l3 _ x) (by omega))
  rw [show recvL [{ newCh 1 with vals := [8] }] 1 2 0 = ([newCh 1], { value := 8, ok := true }, 0) from by decide] at m4 hr4 ⊢
  obtain ⟨A4, n4, c4, rfl⟩ := hr4.shape
  clear hr4 hs4
  simp only [tup2, Mv.val]
  have f5 := hid (m4.fr.alloc (.cells #[.bool false, .int .i64 8, .bool true, .int .i64 0, .slice A4 n4 c4] 32))
  obtain ⟨⟨_, _, x2, _, _⟩, _⟩ := blk5 (t := 32) (((Fr.refl (S := E0)).alloc (.cells #[.bool false, .int .i64 8, .bool true, .int .i64 0, .slice A4 n4 c4] 32)).heapAt b4 (fun x => x))
  obtain ⟨⟨_, y1, y2, _, _⟩, _⟩ := blk5 (t := 32) (heap_alloc_new w4 (.cells #[.bool false, .int .i64 8, .bool true, .int .i64 0, .slice A4 n4 c4] 32))
  clear b4
  go_wp2
  go_ret
  exact ⟨rfl, f5.out⟩
end Go.Proofs.Yteffmnohgnmanaa
/- Words of the select's side that the document's side needs. -/
namespace Go.Proofs.Yteffmnohgnmanaa
open Go.RowKit
/-- Something more behind a row of one's own. -/
theorem pushed {w wr w1 : World} {v : Value} {e sz n gb cp : Nat} {xs news : List Value} {o : Obj} (hf : Fr E0 w wr) (hr : RowF wr (New w) e sz v xs) (hown : w1.ownsRow 0 e sz (.slice (some ⟨gb, 0, none⟩) n cp) n (xs ++ news)) (hg : (wr.alloc o).grownBy w1 v.ownBlock)
    (hat : v.ownBlock = some gb ∨ gb = wr.heap.size + 1) : RowF w1 (New w) e sz (.slice (some ⟨gb, 0, none⟩) n cp) (xs ++ news) ∧ Fr E0 w w1 := by
  refine ⟨⟨⟨_, hown⟩, fun q hq => ?_⟩, ?_⟩
  · simp [Value.ownBlock] at hq; subst hq
    rcases hat with h | h
    · exact hr.2 _ h
    · subst h; have := hf.size; unfold New; omega
  · have h1 : Fr (New w) w w1 := ((hf.e0 (S := New w)).alloc _).grown hg (fun q hq => .inl (hr.2 q hq))
    exact ⟨h1.os, h1.tape, h1.output, h1.size, fun q hq _ => h1.block q hq (fun x => by unfold New at x; omega)⟩
theorem ints_push (l : List Int) (x : Int) : ints l ++ [.int .i64 x] = ints (l ++ [x]) := by simp [ints]
theorem RowF.newer {w W w' : World} {e sz : Nat} {v : Value} {xs : List Value} (h : RowF w' (New W) e sz v xs) (hs : w.heap.size ≤ W.heap.size) : RowF w' (New w) e sz v xs := h.mono (fun _ hk => Nat.le_trans hs hk)
theorem newDrew (w : World) (o : Obj) : (w.alloc o).drew.heap[w.heap.size]? = some o := heap_alloc_new w o
theorem fr_set5 {w w' : World} {F : Nat → Prop} {B : Nat} (h : Fr F w w') (hB : w.heap.size ≤ B) (a b c d e : Value) : Fr F w (((((w'.setCell ⟨B, 0, none⟩ a).setCell ⟨B, 1, none⟩ b).setCell ⟨B, 2, none⟩ c).setCell ⟨B, 3, none⟩ d).setCell ⟨B, 4, none⟩ e) :=
  ((((h.setCell (p := ⟨B, 0, none⟩) a (.inr hB)).setCell (p := ⟨B, 1, none⟩) b (.inr hB)).setCell (p := ⟨B, 2, none⟩) c (.inr hB)).setCell (p := ⟨B, 3, none⟩) d (.inr hB)).setCell (p := ⟨B, 4, none⟩) e (.inr hB)
theorem Step.same {w w1 : World} {F : Nat → Prop} {g : Nat} {l : List Ch} (h : IsCh w F g l) (hf : Fr E0 w w1) : Step F g w l w1 := ⟨F, h.fr hf (fun _ _ x => x), fun _ hk => .inl hk, hf.e0⟩
theorem blk7 {w : World} {B : Nat} {x0 x1 x2 x3 x4 x5 x6 : Value} {t : TypeId} (h : w.heap[B]? = some (.cells #[x0, x1, x2, x3, x4, x5, x6] t (0, 0))) :
    (w.cell? ⟨B, 0, none⟩ = some x0 ∧ w.cell? ⟨B, 1, none⟩ = some x1 ∧ w.cell? ⟨B, 2, none⟩ = some x2 ∧ w.cell? ⟨B, 3, none⟩ = some x3 ∧ w.cell? ⟨B, 4, none⟩ = some x4 ∧ w.cell? ⟨B, 5, none⟩ = some x5 ∧ w.cell? ⟨B, 6, none⟩ = some x6) ∧ (w.frozen? ⟨B, 0, none⟩ = false ∧ w.frozen? ⟨B, 1, none⟩ = false ∧ w.frozen? ⟨B, 2, none⟩ = false ∧ w.frozen? ⟨B, 3, none⟩ = false ∧ w.frozen? ⟨B, 4, none⟩ = false ∧ w.frozen? ⟨B, 5, none⟩ = false ∧ w.frozen? ⟨B, 6, none⟩ = false) :=
  ⟨⟨cell_of_row w _ 0 _ _ _ h, cell_of_row w _ 1 _ _ _ h, cell_of_row w _ 2 _ _ _ h, cell_of_row w _ 3 _ _ _ h, cell_of_row w _ 4 _ _ _ h, cell_of_row w _ 5 _ _ _ h, cell_of_row w _ 6 _ _ _ h⟩, ⟨frozen_of_row w _ 0 _ _ h, frozen_of_row w _ 1 _ _ h, frozen_of_row w _ 2 _ _ h, frozen_of_row w _ 3 _ _ h, frozen_of_row w _ 4 _ _ h, frozen_of_row w _ 5 _ _ h, frozen_of_row w _ 6 _ _ h⟩⟩
end Go.Proofs.Yteffmnohgnmanaa
/- rotaref11: waiters, without. -/
namespace Go.Proofs.Yteffmnohgnmanaa
open Go.RowKit
theorem wts_push (l : List Wt) (x : Wt) : wts l ++ x.cells = wts (l ++ [x]) := by simp [wts]
theorem RdV.wtAt {w : World} {v : Value} {l : List Wt} {k : Nat} {x : Wt} (h : RdV w v 4 (wts l)) (hx : l[k]? = some x) : ∃ b o c, v = .slice (some ⟨b, o, none⟩) l.length c ∧ RdL w b o (wts l) := by
  obtain ⟨A, n, c, rfl, hl, _, _, hr⟩ := h
  obtain rfl : l.length = n := by rw [wts_len] at hl; omega
  obtain ⟨b, o, rfl, r⟩ := hr.wtAt hx
  exact ⟨b, o, c, rfl, r⟩
set_option maxHeartbeats 1000000 in
theorem waiters_ok (l : List Wt) (v : Value) (w : World) (hv : RdV w v 4 (wts l)) (hsz : l.length ≤ 4194304) : Calls Try.prog 79 #[v] w (Made 114 4 (wts l) w) := by
  obtain ⟨A, n, c, rfl, hl, _, _, hr⟩ := hv
  obtain rfl : l.length = n := by rw [wts_len] at hl; omega
  have HR := hid hr
  clear hl hr
  obtain ⟨i0, hi0, hz0, hz1, hz2⟩ := info_parts info114
  go_enter Try.func79, Try.ntmps79
  go_wp2_with fail
  have R0 := hid (rowF_empty w 114 4)
  go_loopw [3, 4] (fun ov i wr => ∃ k : Nat, i = .int .i64 k ∧ k ≤ l.length ∧ RowF wr (New w) 114 4 ov (wts (l.take k)) ∧ Fr E0 w wr) (fun _ i _ => l.length - (intOf i).toNat)
  case atStart => exact ⟨0, rfl, Nat.zero_le _, R0.out, Fr.refl.alloc _⟩
  case round =>
    obtain ⟨k, rfl, hk, hrow, hf⟩ := hrel
    have HW := hid hrow
    have HF := hid hf
    clear hrow hf
    by_cases hlt : k < l.length
    · obtain ⟨x, hx⟩ : ∃ x, l[k]? = some x := ⟨_, List.getElem?_eq_getElem hlt⟩
      obtain ⟨b, o, rfl, r⟩ := HR.out.wtAt hx
      obtain ⟨c0, c1, c2, c3⟩ := (r.fr HF.out (fun x => x)).wt hx
      have HT := hid (show l.take (k + 1) = l.take k ++ [x] by rw [List.take_add_one, hx]; rfl)
      have hkl : (l.take k).length = k := by rw [List.length_take]; omega
      have HKL := hid hkl
      have WR := hid (HW.out.fr ((Fr.refl (S := E0)).alloc (.cells #[.int .i64 x.s, .int .i64 x.g, .int .i64 x.c, .int .i64 x.v] 114)) (fun _ _ x => x))
      clear r hx hkl
      go_wp2_with (at_builtin; (refine wpList_append_lies _ rfl (.tmp 12) (.tmp 17) 65 rfl 0 114 i0 (.agg #[.int .i64 0, .int .i64 0, .int .i64 0, .int .i64 0]) 4 32 Try.underlying65 hi0 hz0 hz1 hz2 rfl (by decide) u3 k (wts (l.take k)) rfl (WR.out.own (by decide) (by rw [wts_len, HKL.out])) ⟨wr.heap.size, 0, none⟩ 1 1 [.int .i64 x.s, .int .i64 x.g, .int .i64 x.c, .int .i64 x.v] rfl rfl (World.news_of_block (heap_alloc_new wr _)) (by simp [Value.oneCell']) (by decide) (by unfold maxLen; omega) (by omega) (Nat.zero_le _) (wr.heap.size + 1) (by simp) ?_); intro gb cp w1 hown1 hgrow1 hat1 hlt1; have HP := hid (pushed HF.out HW.out hown1 hgrow1 hat1); clear hown1 hgrow1 hat1 hlt1)
      rw [show [Value.int .i64 x.s, .int .i64 x.g, .int .i64 x.c, .int .i64 x.v] = x.cells from rfl, wts_push, ← HT.out] at HP
      go_roundw
      case rel => exact ⟨k + 1, by simp, by omega, HP.out.1, HP.out.2⟩
      case measure => simp [intOf]; omega
    · obtain rfl : k = l.length := by omega
      clear hlt hk
      rw [List.take_length] at HW
      go_wp2_with fail
      go_ret
      exact ⟨_, rfl, HW.out, HF.out⟩
theorem newN (w : World) (nq : Nat) (o : Obj) : ((w.drewN nq).alloc o).heap[w.heap.size]? = some o := heap_alloc_new (w.drewN nq) o
/-- A block of another type stays where a row grows. -/
theorem heldN {w0 w w1 : World} {g : Nat} {cs : Array Value} {v : Value} {xs : List Value} {o : Obj} (hg : w.heap[g]? = some (.cells cs 37 (0, 0))) (hr : Nat → RowF w (New w0) 114 4 v xs) (hgrow : (w.alloc o).grownBy w1 v.ownBlock) : w1.heap[g]? = some (.cells cs 37 (0, 0)) := by
  have hf : Fr (fun q => v.ownBlock = some q) w w1 := ((Fr.refl (S := fun q => v.ownBlock = some q)).alloc o).grown hgrow (fun q hq => .inl hq)
  refine hf.heapAt hg (fun e => ?_)
  obtain ⟨cur, hc⟩ := (hr 0).heap e
  rw [hg] at hc; injection hc with hc; injection hc with _ hc _; exact absurd hc (by decide)
def WoutPost (w : World) (gs gg : Int) (l : List Wt) (e : Ending) (w' : World) : Prop :=
  ∃ v, e = .returned (tup2 v (.int .i64 (l.length - (wout gs gg l).length : Int))) ∧ RowF w' (New w) 114 4 v (wts (wout gs gg l)) ∧ Fr E0 w w'
theorem wout_step {gs gg : Int} {l : List Wt} {k : Nat} {x : Wt} (hx : l[k]? = some x) : wout gs gg (l.take (k + 1)) = if isG gs gg x then wout gs gg (l.take k) else wout gs gg (l.take k) ++ [x] := by
  rw [List.take_add_one, hx]
  unfold wout
  cases h : isG gs gg x <;> simp [h]
set_option maxRecDepth 8000 in
set_option maxHeartbeats 2000000 in
theorem without_ok (l : List Wt) (v : Value) (gs gg : Int) (w : World) (hv : RdV w v 4 (wts l)) (hsz : l.length ≤ 4194304) : Calls Try.prog 74 #[v, .agg #[.int .i64 gs, .int .i64 gg]] w (WoutPost w gs gg l) := by
  obtain ⟨A, n, c, rfl, hl, _, _, hr⟩ := hv
  obtain rfl : l.length = n := by rw [wts_len] at hl; omega
  have HR := hid hr
  clear hl hr
  obtain ⟨i0, hi0, hz0, hz1, hz2⟩ := info_parts info114
  go_enter Try.func74, Try.ntmps74
  go_wp2_with fail
  have R0 := hid ((rowF_empty (w.alloc (.cells #[.int .i64 gs, .int .i64 gg] 37)) 114 4).mono (F' := New w) (fun q hq => by unfold New at *; simp at hq; omega))
  have G0 := hid (((Fr.refl (S := E0)).alloc (.cells #[] 114)).heapAt (heap_alloc_new w (.cells #[.int .i64 gs, .int .i64 gg] 37)) (fun x => x))
  have F0 := hid (((Fr.refl (S := E0) (w := w)).alloc (.cells #[.int .i64 gs, .int .i64 gg] 37)).alloc (.cells #[] 114))
  simp only [World.size_alloc] at R0
  generalize ((w.alloc (.cells #[.int .i64 gs, .int .i64 gg] 37)).alloc (.cells #[] 114)) = W0 at *
  go_loopw [6, 7] (fun ov i wr => ∃ k : Nat, i = .int .i64 k ∧ k ≤ l.length ∧ RowF wr (New w) 114 4 ov (wts (wout gs gg (l.take k))) ∧ Fr E0 w wr ∧ wr.heap[w.heap.size]? = some (.cells #[.int .i64 gs, .int .i64 gg] 37 (0, 0))) (fun _ i _ => l.length - (intOf i).toNat)
  case atStart => exact ⟨0, rfl, Nat.zero_le _, R0.out, F0.out, G0.out⟩
  case round =>
    obtain ⟨k, rfl, hk, hrow, hf, hg⟩ := hrel
    have HW := hid hrow
    have HF := hid hf
    have HG := hid hg
    clear hrow hf hg
    have hkl : (wout gs gg (l.take k)).length ≤ k := by have := wout_le gs gg (l.take k); rw [List.length_take] at this; omega
    obtain ⟨N, hN⟩ : ∃ N, N = (wout gs gg (l.take k)).length := ⟨_, rfl⟩
    rw [← hN] at hkl
    obtain ⟨OA, Oc, rfl, _, _, _⟩ := HW.out.read (n := N) (by decide) (by rw [wts_len, hN])
    have HN := hid hN
    clear hN
    by_cases hlt : k < l.length
    · obtain ⟨x, hx⟩ : ∃ x, l[k]? = some x := ⟨_, List.getElem?_eq_getElem hlt⟩
      obtain ⟨b, o, rfl, r⟩ := HR.out.wtAt hx
      obtain ⟨c0, c1, c2, c3⟩ := (r.fr HF.out (fun x => x)).wt hx
      have g0 := cell_of_row wr _ 0 _ _ _ HG.out
      have g1 := cell_of_row wr _ 1 _ _ _ HG.out
      have hst := wout_step (gs := gs) (gg := gg) hx
      clear r hx
      cases hi : isG gs gg x with
      | true =>
        rw [hi, if_pos rfl] at hst
        have HST := hid hst
        have he : gs = x.s ∧ gg = x.g := by unfold isG at hi; simp at hi; omega
        obtain ⟨rfl, rfl⟩ := he
        clear hi hst
        go_wp2_with (go_quiet (fail))
        all_goals
          go_roundw
          case rel => exact ⟨k + 1, by simp, by omega, by rw [HST.out]; exact HW.out.same (fun _ _ => rfl), HF.out.drewN nq, HG.out⟩
          case measure => simp [intOf]; omega
      | false =>
        rw [hi, if_neg (by simp)] at hst
        have HST := hid hst
        have he : (¬ x.s = gs) ∨ (x.s = gs ∧ ¬ x.g = gg) := by unfold isG at hi; simp at hi; omega
        clear hi hst
        rcases he with h1 | ⟨h1, h2⟩
        all_goals
          first
            | (have z1 : ((x.s == gs) : Bool) = false := by simpa using h1)
            | (have z1 : ((x.s == gs) : Bool) = true := by simpa using h1
               have z2 : ((x.g == gg) : Bool) = false := by simpa using h2
               clear h1)
          go_wp2_with fail
          go_quiet (fail)
          all_goals
            have d0 : (wr.drewN nq).cell? ⟨b, o + k * 4, none⟩ = some (.int .i64 x.s) := c0
            have d1 : (wr.drewN nq).cell? ⟨b, o + k * 4 + 1, none⟩ = some (.int .i64 x.g) := c1
            have d2 : (wr.drewN nq).cell? ⟨b, o + k * 4 + 2, none⟩ = some (.int .i64 x.c) := c2
            have d3 : (wr.drewN nq).cell? ⟨b, o + k * 4 + 3, none⟩ = some (.int .i64 x.v) := c3
            have HW2 := hid (HW.out.same (w' := wr.drewN nq) (fun _ _ => rfl))
            have HF2 := hid (HF.out.drewN nq)
            have HG2 := hid (show (wr.drewN nq).heap[w.heap.size]? = some (.cells #[.int .i64 gs, .int .i64 gg] 37 (0, 0)) from HG.out)
            clear c0 c1 c2 c3 g0 g1
            generalize wr.drewN nq = w2 at *
            have WR := hid (HW2.out.fr ((Fr.refl (S := E0)).alloc (.cells #[.int .i64 x.s, .int .i64 x.g, .int .i64 x.c, .int .i64 x.v] 114)) (fun _ _ x => x))
            go_wp2_with (at_builtin; (refine wpList_append_lies _ rfl (.tmp 22) (.tmp 27) 65 rfl 0 114 i0 (.agg #[.int .i64 0, .int .i64 0, .int .i64 0, .int .i64 0]) 4 32 Try.underlying65 hi0 hz0 hz1 hz2 rfl (by decide) (.slice OA N Oc) N (wts (wout gs gg (l.take k))) rfl (WR.out.own (by decide) (by rw [wts_len, HN.out])) ⟨w2.heap.size, 0, none⟩ 1 1 [.int .i64 x.s, .int .i64 x.g, .int .i64 x.c, .int .i64 x.v] rfl rfl (World.news_of_block (heap_alloc_new w2 _)) (by simp [Value.oneCell']) (by decide) (by unfold maxLen; omega) (by omega) (Nat.zero_le _) (w2.heap.size + 1) (by simp) ?_); intro gb cp w1 hown1 hgrow1 hat1 hlt1; have HP := hid (pushed HF2.out HW2.out hown1 hgrow1 hat1); have HGG := hid (heldN HG2.out (fun _ => HW2.out) hgrow1); clear hown1 hgrow1 hat1 hlt1)
            rw [show [Value.int .i64 x.s, .int .i64 x.g, .int .i64 x.c, .int .i64 x.v] = x.cells from rfl, wts_push, ← HST.out] at HP
            go_roundw
            case rel => exact ⟨k + 1, by simp, by omega, HP.out.1, HP.out.2, HGG.out⟩
            case measure => simp [intOf]; omega
    · obtain rfl : k = l.length := by omega
      clear hlt hk
      rw [List.take_length] at HW HN
      have hnl : N ≤ l.length := hkl
      have HNN := HN.out
      subst HNN
      go_wp2_with fail
      go_ret2
      exact ⟨_, rfl, HW.out, HF.out⟩
end Go.Proofs.Yteffmnohgnmanaa
/- rotaref11.Copy. -/
namespace Go.Proofs.Yteffmnohgnmanaa
open Go.RowKit
attribute [local go_sem ↓] Go.wp_at_zero Go.wp_at_succ
/-- A channel that is being made, at B. -/
structure Part (w0 w : World) (B : Nat) (m : CM) : Prop where
  cell : w.heap[B]? = some (.cells #[.int .i64 m.ch.cap, m.vv, m.sv, m.rv, .bool m.ch.cl] 67 (0, 0))
  new : w0.heap.size ≤ B
  own : m.Own w (New w0)
  nd : m.blocks.Nodup
  fr : Fr E0 w0 w
theorem CM.Own.ne67 {w : World} {F : Nat → Prop} {m : CM} {B : Nat} {cs : Array Value} (h : m.Own w F) (hB : w.heap[B]? = some (.cells cs 67 (0, 0))) : B ∉ m.blocks := by
  intro hm
  obtain ⟨_, _, cur, e, he, hne⟩ := h.mem hm
  rw [hB] at he; injection he with he; injection he with _ he _; exact hne he.symm
theorem Part.drew {w0 w : World} {B : Nat} {m : CM} (h : Part w0 w B m) : Part w0 w.drew B m := ⟨h.cell, h.new, h.own.same (fun _ _ => rfl), h.nd, h.fr.drew⟩
theorem Part.e0 {w0 w w' : World} {B : Nat} {m : CM} (h : Part w0 w B m) (hf : Fr E0 w w') : Part w0 w' B m := ⟨hf.heapAt h.cell (fun x => x), h.new, h.own.fr hf (fun _ _ x => x), h.nd, h.fr.trans hf⟩
/-- Two rows made one behind the other. -/
theorem twoRows {w0 w1 w2 : World} {ch : Ch} {v2 v3 : Value} (hv : ch.vals = []) (r1 : RowF w1 (New w0) 114 4 v2 (wts ch.snd)) (g2 : Fr E0 w1 w2) (r2 : RowF w2 (New w1) 114 4 v3 (wts ch.rcv)) (g1 : w0.heap.size ≤ w1.heap.size) :
    CM.Own w2 (New w0) ⟨ch, .slice none 0 0, v2, v3⟩ ∧ (CM.blocks ⟨ch, .slice none 0 0, v2, v3⟩).Nodup := by
  refine ⟨⟨by rw [hv]; exact RowF.nil, r1.fr g2 (fun _ _ x => x), r2.mono (fun q hq => Nat.le_trans g1 hq)⟩, ?_⟩
  have e0 : (Value.slice none 0 0).ownBlock = none := rfl
  simp only [CM.blocks, e0]
  cases h2 : v2.ownBlock <;> cases h3 : v3.ownBlock <;> simp
  have h4 := r1.lt h2
  have h5 := r2.2 _ h3
  unfold New at h5
  omega
theorem partSet {w0 w1 w2 : World} {B : Nat} {cap : Int} {snd rcv : List Wt} {cl : Bool} {v2 v3 x0 x1 x2 x3 x4 : Value} (hB : w0.heap.size ≤ B) (hc : w2.heap[B]? = some (.cells #[x0, x1, x2, x3, x4] 67 (0, 0))) (r1 : RowF w1 (New w0) 114 4 v2 (wts snd)) (g2 : Fr E0 w1 w2) (r2 : RowF w2 (New w1) 114 4 v3 (wts rcv)) (g1 : Fr E0 w0 w1) :
    Part w0 (((((w2.setCell ⟨B, 0, none⟩ (.int .i64 cap)).setCell ⟨B, 1, none⟩ (.slice none 0 0)).setCell ⟨B, 2, none⟩ v2).setCell ⟨B, 3, none⟩ v3).setCell ⟨B, 4, none⟩ (.bool cl)) B ⟨⟨cap, [], snd, rcv, cl⟩, .slice none 0 0, v2, v3⟩ := by
  obtain ⟨o1, o2⟩ := twoRows (ch := ⟨cap, [], snd, rcv, cl⟩) rfl r1 g2 r2 g1.size
  have hne := o1.ne67 hc
  exact ⟨cells5 hc _ _ _ _ _, hB, o1.same (fun g hg => far5 (fun e => by subst e; exact hne hg) _ _ _ _ _), o2, fr_set5 (g1.trans g2) hB _ _ _ _ _⟩
theorem partNew {w0 w1 w2 : World} {cap : Int} {snd rcv : List Wt} {cl : Bool} {v2 v3 : Value} (r1 : RowF w1 (New w0) 114 4 v2 (wts snd)) (g2 : Fr E0 w1 w2) (r2 : RowF w2 (New w1) 114 4 v3 (wts rcv)) (g1 : Fr E0 w0 w1) :
    Part w0 (w2.alloc (.cells #[.int .i64 cap, .slice none 0 0, v2, v3, .bool cl] 67)) w2.heap.size ⟨⟨cap, [], snd, rcv, cl⟩, .slice none 0 0, v2, v3⟩ := by
  obtain ⟨o1, o2⟩ := twoRows (ch := ⟨cap, [], snd, rcv, cl⟩) rfl r1 g2 r2 g1.size
  exact ⟨heap_alloc_new w2 _, (g1.trans g2).size, o1.fr ((Fr.refl (S := E0)).alloc _) (fun _ _ x => x), o2, (g1.trans g2).alloc _⟩
/-- One value more. -/
theorem Part.val {w0 w w2 : World} {B gb nn cp : Nat} {m : CM} {o : Obj} {vals' : List Int} (h : Part w0 w B m) (hown : w2.ownsRow 0 2 1 (.slice (some ⟨gb, 0, none⟩) nn cp) nn (ints vals')) (hg : (w.alloc o).grownBy w2 m.vv.ownBlock) (hat : m.vv.ownBlock = some gb ∨ gb = w.heap.size + 1) :
    Part w0 (w2.setCell ⟨B, 1, none⟩ (.slice (some ⟨gb, 0, none⟩) nn cp)) B ⟨{ m.ch with vals := vals' }, .slice (some ⟨gb, 0, none⟩) nn cp, m.sv, m.rv⟩ := by
  have hf : Fr (fun q => m.vv.ownBlock = some q) w w2 := ((Fr.refl (S := fun q => m.vv.ownBlock = some q)).alloc o).grown hg (fun q hq => .inl hq)
  have hB := h.own.ne67 h.cell
  have hBv : ¬ m.vv.ownBlock = some B := fun e => hB (by simp [CM.blocks, e])
  have hc := hf.heapAt h.cell hBv
  have hBl := heap_lt h.cell
  have hgb : gb ≠ B := by
    rcases hat with e | e
    · intro e2; subst e2; exact hBv e
    · omega
  have hnd := h.nd
  simp only [CM.blocks, List.nodup_append] at hnd
  obtain ⟨_, hn2, hn3⟩ := hnd
  have away : ∀ g, g ∈ m.sv.ownBlock.toList ++ m.rv.ownBlock.toList → w2.heap[g]? = w.heap[g]? ∧ g ≠ gb ∧ g ≠ B := by
    intro g hgm
    have hmem : g ∈ m.blocks := by simp only [CM.blocks, List.mem_append]; exact .inr (by simpa using hgm)
    have hlt := (h.own.mem hmem).2.1
    have hvv : ¬ m.vv.ownBlock = some g := fun e => hn3 g (by simp [e]) g hgm rfl
    refine ⟨hf.block g hlt hvv, ?_, fun e => hB (e ▸ hmem)⟩
    rcases hat with e | e
    · intro e2; subst e2; exact hvv e
    · omega
  have hset : ∀ g, g ≠ B → (w2.setCell ⟨B, 1, none⟩ (.slice (some ⟨gb, 0, none⟩) nn cp)).heap[g]? = w2.heap[g]? := fun g hg => heap_setCell_other _ _ _ _ hg
  have hnew : w0.heap.size ≤ gb := by
    rcases hat with e | e
    · exact h.own.vals.2 gb e
    · have := h.fr.size; omega
  refine ⟨heap_setCell_same w2 B 1 _ 67 _ hc, h.new, ⟨?_, ?_, ?_⟩, ?_, ?_⟩
  · have hrow : RowF w2 (New w0) 2 1 (.slice (some ⟨gb, 0, none⟩) nn cp) (ints vals') := ⟨⟨nn, hown⟩, fun q hq => by simp [Value.ownBlock] at hq; subst hq; exact hnew⟩
    exact hrow.same (fun g hg => by simp [Value.ownBlock] at hg; subst hg; exact hset _ hgb)
  · exact h.own.snd.same (fun g hg => by
      obtain ⟨a1, a2, a3⟩ := away g (by simp [hg])
      rw [hset g a3, a1])
  · exact h.own.rcv.same (fun g hg => by
      obtain ⟨a1, a2, a3⟩ := away g (by simp [hg])
      rw [hset g a3, a1])
  · simp only [CM.blocks, List.nodup_append]
    refine ⟨by simp [Value.ownBlock], hn2, fun x hx y hy e => ?_⟩
    simp [Value.ownBlock] at hx
    subst hx e
    exact (away _ hy).2.1 rfl
  · have hf0 : Fr E0 w0 w2 := h.fr.trans' hf (fun q hq => .inr (h.own.vals.2 q hq))
    exact hf0.setCell (p := ⟨B, 1, none⟩) _ (.inr h.new)
/-- What is read of a channel in the midst of a row. -/
theorem keepM {wr : World} {b o k : Nat} {ms : List CM} {m : CM} (r : RdL wr b o (ms.flatMap CM.cells)) (hm : ms[k]? = some m) : ∀ W, Fr E0 wr W → (Fr E0 wr W ∧ W.cell? ⟨b, o + k * 5, none⟩ = some (.int .i64 m.ch.cap) ∧ W.cell? ⟨b, o + k * 5 + 4, none⟩ = some (.bool m.ch.cl) ∧ W.cell? ⟨b, o + k * 5 + 2, none⟩ = some m.sv ∧ W.cell? ⟨b, o + k * 5 + 3, none⟩ = some m.rv) := fun W hW => by
  obtain ⟨g0, g1, g2, g3, g4⟩ := (r.fr hW (fun x => x)).cm hm
  exact ⟨hW, g0, g4, g2, g3⟩
def Big (m : CM) : Prop := m.ch.vals.length ≤ 4194304 ∧ m.ch.snd.length ≤ 4194304 ∧ m.ch.rcv.length ≤ 4194304
set_option maxRecDepth 8000 in
set_option maxHeartbeats 8000000 in
theorem copy_ok (ms : List CM) (v : Value) (w : World) (hv : RdCs w v ms) (hn : ms.length ≤ 1572864) (hbig : ∀ m ∈ ms, Big m) : Calls Try.prog 43 #[v] w (MadeCs (chs ms) w) := by
  obtain ⟨⟨A, n, c, rfl, hl, _, _, hr⟩, he⟩ := hv
  obtain rfl : ms.length = n := by rw [cms_len] at hl; omega
  have HR := hid hr
  have HE := hid he
  have HBG := hid hbig
  clear hl hr he hbig
  obtain ⟨i0, hi0, hz0, hz1, hz2⟩ := info_parts info67
  obtain ⟨i1, ji0, jz0, jz1, jz2⟩ := info_parts info2'
  go_enter Try.func43, Try.ntmps43
  go_wp2_with fail
  have O0 := hid (show OwnCs (w.alloc (.cells #[] 67)) (New w) (.slice (some ⟨w.heap.size, 0, none⟩) 0 0) [] from ⟨rowF_empty w 67 5, fun m hm => by simp at hm, by simp⟩)
  go_loopw [3, 4] (fun ov i wr => ∃ (k : Nat) (ms' : List CM), i = .int .i64 k ∧ k ≤ ms.length ∧ OwnCs wr (New w) ov ms' ∧ chs ms' = (chs ms).take k ∧ Fr E0 w wr) (fun _ i _ => ms.length - (intOf i).toNat)
  case atStart => exact ⟨0, [], rfl, Nat.zero_le _, O0.out, rfl, Fr.refl.alloc _⟩
  case round =>
    obtain ⟨k, ms', rfl, hk, hown, htk, hfr⟩ := hrel
    have HO := hid hown
    have HT := hid htk
    have HF := hid hfr
    clear hown htk hfr
    by_cases hlt : k < ms.length
    · obtain ⟨wo, hwo⟩ : ∃ wo : World, wo = wr := ⟨_, rfl⟩
      subst hwo
      obtain ⟨m, hm⟩ : ∃ m, ms[k]? = some m := ⟨ms[k], List.getElem?_eq_getElem hlt⟩
      obtain ⟨b, o, rfl, hr⟩ := HR.out.cmAt hm
      have hmem := List.mem_of_getElem? hm
      have HMR := hid ((HE.out m hmem).fr HF.out)
      have HB := hid (HBG.out m hmem)
      have RL := hid (hr.fr HF.out (fun x => x))
      have HM := hid hm
      have hml : ms'.length = k := by have := congrArg List.length HT.out; rw [chs_len, List.length_take, chs_len] at this; omega
      have HML := hid hml
      obtain ⟨OA, Oc, rfl, _, _, _⟩ := HO.out.row.read (n := k) (by decide) (by rw [cms_len, hml])
      have KC := hid (keepM RL.out hm)
      obtain ⟨VA, vn, vc, ev, hvl, _, _, hvr⟩ := HMR.out.vals
      obtain ⟨SA, sn, sc, es, _⟩ := HMR.out.snd
      obtain ⟨TA, tn, tc, et, _⟩ := HMR.out.rcv
      obtain ⟨⟨cap, vals, snd, rcv, cl⟩, vv, sv, rv⟩ := m
      simp only at ev es et hvl hvr
      subst ev es et
      simp only at KC
      obtain rfl : vals.length = vn := by rw [ints_len] at hvl; omega
      have HVR := hid hvr
      have hg0 := hid (KC.out _ Fr.refl.drew)
      obtain ⟨hb1, hb2, hb3⟩ : vals.length ≤ 4194304 ∧ snd.length ≤ 4194304 ∧ rcv.length ≤ 4194304 := HB.out
      clear hr hm hmem hml hvl hvr
      go_upto_region 5 with fail
      go_cut [5] from 8 to 63 (fun s5 wx => ∃ (B : Nat) (v1 v2 : Value), s5 = .pointer (some ⟨B, 0, none⟩) ∧ Part wo wx B ⟨⟨cap, [], snd, rcv, cl⟩, .slice none 0 0, v1, v2⟩)
      case first =>
        go_region_held3 (fun w' => Fr E0 wo w' ∧ w'.cell? ⟨b, o + k * 5, none⟩ = some (.int .i64 cap) ∧ w'.cell? ⟨b, o + k * 5 + 4, none⟩ = some (.bool cl) ∧ w'.cell? ⟨b, o + k * 5 + 2, none⟩ = some (.slice SA sn sc) ∧ w'.cell? ⟨b, o + k * 5 + 3, none⟩ = some (.slice TA tn tc))
          (with_reducible first | exact KC.out _ F2.out | exact KC.out _ (F2.out.alloc _) | exact KC.out _ F1.out | exact KC.out _ (F1.out.alloc _) | exact KC.out _ (Fr.refl.alloc _).drew | exact hg0.out | exact KC.out _ (fr_set5 F2.out (Nat.le_refl _) _ _ _ _ _) | exact KC.out _ (fr_set5 F2.out F1.out.size _ _ _ _ _))
          (first
            | (go_at_call 79; ((with_reducible refine (waiters_ok snd (.slice SA sn sc) wo.drew (HMR.out.snd.fr Fr.refl.drew) hb2).mono ?_); rintro e w1 ⟨v1, rfl, hr1, hg1⟩); obtain ⟨A1, n1, c1, rfl⟩ := hr1.shape; have R1 := hid (show RowF w1 (New wo) 114 4 (.slice A1 n1 c1) (wts snd) from hr1); have F1 := hid ((Fr.refl (S := E0)).drew.trans hg1); clear hr1 hg1)
            | (go_at_call 79; ((with_reducible refine (waiters_ok snd (.slice SA sn sc) (wo.alloc (.cells #[.int .i64 0, .slice none 0 0, .slice none 0 0, .slice none 0 0, .bool false] 67)).drew (HMR.out.snd.fr (Fr.refl.alloc _).drew) hb2).mono ?_); rintro e w1 ⟨v1, rfl, hr1, hg1⟩); obtain ⟨A1, n1, c1, rfl⟩ := hr1.shape; have R1 := hid (show RowF w1 (New wo) 114 4 (.slice A1 n1 c1) (wts snd) from hr1.newer ((Fr.refl (S := E0)).alloc _).size); have F1 := hid (((Fr.refl (S := E0)).alloc (.cells #[.int .i64 0, .slice none 0 0, .slice none 0 0, .slice none 0 0, .bool false] 67)).drew.trans hg1); have T1 := hid (hg1.heapAt (newDrew wo _) (fun x => x)); clear hr1 hg1)
            | (go_at_call 79; ((with_reducible refine (waiters_ok rcv (.slice TA tn tc) w1 (HMR.out.rcv.fr F1.out) hb3).mono ?_); rintro e w2 ⟨v2, rfl, hr2, hg2⟩); obtain ⟨A2, n2, c2, rfl⟩ := hr2.shape; have R2 := hid hr2; have G2 := hid hg2; have F2 := hid (F1.out.trans hg2); (try (have T2 := hid (hg2.heapAt T1.out (fun x => x)); obtain ⟨⟨q0, q1, q2, q3, q4⟩, z0, z1, z2, z3, z4⟩ := blk5 T2.out)); clear hr2 hg2)
            | (go_at_call 79; ((with_reducible refine (waiters_ok rcv (.slice TA tn tc) (w1.alloc (.cells #[.int .i64 0, .slice none 0 0, .slice none 0 0, .slice none 0 0, .bool false] 67)) (HMR.out.rcv.fr (F1.out.alloc _)) hb3).mono ?_); rintro e w2 ⟨v2, rfl, hr2, hg2⟩); obtain ⟨A2, n2, c2, rfl⟩ := hr2.shape; have R2 := hid (hr2.newer ((Fr.refl (S := E0)).alloc _).size); have G2 := hid (((Fr.refl (S := E0)).alloc _).trans hg2); have F2 := hid ((F1.out.alloc _).trans hg2); have T2 := hid (hg2.heapAt (heap_alloc_new w1 _) (fun x => x)); obtain ⟨⟨q0, q1, q2, q3, q4⟩, z0, z1, z2, z3, z4⟩ := blk5 T2.out; clear hr2 hg2))
        all_goals
          go_wp2_with fail
          go_meet
          first
            | exact ⟨_, _, _, rfl, partNew R1.out G2.out R2.out F1.out⟩
            | exact ⟨_, _, _, rfl, partSet (Nat.le_refl _) T2.out R1.out G2.out R2.out F1.out⟩
            | exact ⟨_, _, _, rfl, partSet F1.out.size T2.out R1.out G2.out R2.out F1.out⟩
      case rest =>
        obtain ⟨B, v1, v2, rfl, hpart⟩ := hcut
        have HPT := hid hpart
        clear hpart
        go_wp2_with fail
        go_loopw [6] (fun jx wx => ∃ (q : Nat) (vv' : Value), jx = .int .i64 q ∧ q ≤ vals.length ∧ Part wo wx B ⟨⟨cap, vals.take q, snd, rcv, cl⟩, vv', v1, v2⟩) (fun jx _ => vals.length - (intOf jx).toNat)
        case atStart => exact ⟨0, _, rfl, Nat.zero_le _, HPT.out⟩
        case round =>
          obtain ⟨q, vv', rfl, hq, hpart⟩ := hrel
          have HP := hid hpart
          clear hpart
          obtain ⟨p0, p1, p2, p3, p4⟩ := (blk5 HP.out.cell).1
          obtain ⟨_, z1, _, _, _⟩ := (blk5 HP.out.cell).2
          simp only at p0 p1 p2 p3 p4
          obtain ⟨_, e1, _, _, _⟩ := (RL.out.fr HP.out.fr (fun x => x)).cm HM.out
          simp only at e1
          obtain ⟨P1A, P1n, P1c, hp1⟩ := HP.out.own.vals.shape
          simp only at hp1
          subst hp1
          by_cases hql : q < vals.length
          · have hqn : q = P1n := by
              obtain ⟨_, _, e, _⟩ := HP.out.own.vals.read (n := q) (by decide) (by simp [ints]; omega)
              cases e; rfl
            subst hqn
            obtain ⟨x, hx⟩ : ∃ x, vals[q]? = some x := ⟨_, List.getElem?_eq_getElem hql⟩
            obtain ⟨b2, o2, rfl, r2⟩ := HVR.out.at (fun e => by have := congrArg List.length e; rw [ints_len, List.length_nil] at this; omega)
            have y1 := r2.fr HP.out.fr (fun x => x) q (.int .i64 x) (by simp only [ints, List.getElem?_map, hx, Option.map_some])
            have HTK := hid (show vals.take (q + 1) = vals.take q ++ [x] by rw [List.take_add_one, hx]; rfl)
            have hown0 := hid (show World.ownsRow (World.alloc wr (.cells #[.int .i64 x] 2)) 0 2 1 (.slice P1A q P1c) q (ints (vals.take q)) from (HP.out.own.vals.fr ((Fr.refl (S := E0)).alloc (.cells #[.int .i64 x] 2)) (fun _ _ x => x)).own (by decide) (by simp [ints]; omega))
            have hBv : (Value.slice P1A q P1c).ownBlock ≠ some B := fun e => HP.out.own.ne67 HP.out.cell (by simp [CM.blocks, e])
            have hBl := heap_lt HP.out.cell
            clear r2 hx p0 p2 p3 p4
            go_wp2_with fail
            go_region_law (refine step_append_lies _ (by rfl) (.tmp 48) (.tmp 57) 22 (by rfl) 0 2 i1 (.int .i64 0) 1 8 Try.underlying22 ji0 jz0 jz1 jz2 rfl (by decide) (.slice P1A q P1c) q (ints (vals.take q)) (by rfl) hown0.out ⟨(World.heap wr).size, 0, none⟩ 1 1 [.int .i64 x] (by rfl) (by rfl) (news1 _ _) (by simp [Value.oneCell']) (by decide) (by unfold maxLen; omega) (by omega) (Nat.zero_le _) ((World.heap wr).size + 1) (by simp) ?_; intro gb cap3 w3 hown3 hgrow3 hat3 hlt3; have x1 : w3.cell? ⟨B, 1, none⟩ = some (.slice P1A q P1c) := hgrow3.cell (cellA hBl p1) (fun e => hBv e.symm); have x2 : w3.frozen? ⟨B, 1, none⟩ = false := (by rw [hgrow3.frozen_far _ (Nat.lt_of_lt_of_le hBl (by simp)) (fun e => hBv e.symm)]; exact frozenA hBl z1); have HN := hid (And.intro hown3 (And.intro hgrow3 (And.intro hat3 hlt3))); clear hown3 hgrow3 hat3 hlt3)
            all_goals
              have HP2 := hid (HP.out.val (vals' := vals.take (q + 1)) (by rw [HTK.out, ← ints_push]; exact HN.out.1) (undrew HN.out.2.1) HN.out.2.2.1)
              go_wp2_with fail
              go_roundw
              case rel => exact ⟨q + 1, _, by simp, by omega, HP2.out⟩
              case measure => simp [intOf]; omega
          · obtain rfl : q = vals.length := by omega
            rw [List.take_length] at HP
            have O1 := hid (HO.out.fr HP.out.fr (fun _ _ x => x))
            have M1 := hid (HP.out.own.mono (F' := New w) (fun g hg => Nat.le_trans HF.out.size hg))
            have hdis : Hid (∀ g ∈ (CM.mk ⟨cap, vals, snd, rcv, cl⟩ (.slice P1A P1n P1c) v1 v2).blocks, ∀ z ∈ ms', g ∉ z.blocks) := fun g hg z hz hgz => by
              have x1 := (HP.out.own.mem hg).1
              have x2 := ((HO.out.each z hz).mem hgz).2.1
              unfold New at x1; omega
            obtain ⟨S1A, S1n, S1c, hp2⟩ := HP.out.own.snd.shape
            obtain ⟨T1A, T1n, T1c, hp3⟩ := HP.out.own.rcv.shape
            simp only at hp2 hp3
            subst hp2 hp3
            have FD := hid ((Fr.refl (S := E0) (w := wr)).alloc (.cells #[.int .i64 cap, .slice P1A P1n P1c, .slice S1A S1n S1c, .slice T1A T1n T1c, .bool cl] 67))
            have O2 := hid (O1.out.fr FD.out (fun _ _ x => x))
            have M2 := hid (M1.out.fr FD.out (fun _ _ x => x))
            have hone := hid (cm_oneCell M1.out)
            clear z1 hql hq
            go_wp2_with (at_builtin; (refine wpList_append_own_at _ rfl (.tmp 60) (.tmp 62) 52 rfl 0 67 i0 (.agg #[.int .i64 0, .slice none 0 0, .slice none 0 0, .slice none 0 0, .bool false]) 5 88 Try.underlying52 hi0 hz0 hz1 hz2 rfl (by decide) (.slice OA k Oc) k (ms'.flatMap CM.cells) rfl (O2.out.row.own (by decide) (by rw [cms_len, HML.out])) ⟨wr.heap.size, 0, none⟩ 1 1 [.int .i64 cap, .slice P1A P1n P1c, .slice S1A S1n S1c, .slice T1A T1n T1c, .bool cl] rfl rfl (World.news_of_block (heap_alloc_new wr _)) hone.out (by unfold maxLen; omega) (by omega) (Nat.zero_le _) ?_); intro v' w2 hown2 hgrow2 hnil2 hat2)
            have O3 := hid (O2.out.push M2.out HP.out.nd hdis.out hown2 hgrow2 hat2 (by have := HF.out.size; have := HP.out.fr.size; unfold New; simp; omega))
            have F3 := hid (((HF.out.trans HP.out.fr).trans FD.out).grown hgrow2 (fun q hq => .inr (O2.out.row.2 q hq)))
            clear hown2 hgrow2 hnil2 hat2
            go_wp2_with fail
            go_roundw
            case rel => exact ⟨k + 1, _, by simp, by omega, O3.out, by rw [chs_push, HT.out, List.take_add_one, chs_get HM.out]; rfl, F3.out⟩
            case measure => simp [intOf]; omega
    · obtain rfl : k = ms.length := by omega
      clear hlt hk
      go_wp2_with fail
      go_ret
      exact ⟨_, _, rfl, by rw [HT.out, ← chs_len, List.take_length], HO.out, HF.out⟩
end Go.Proofs.Yteffmnohgnmanaa
