/- (*Chans).Send: a theorem for each way. Printed by wip/gen/send.py. -/
import Derived.Test.YteffmnohgnmanaaApp
import Derived.Deep.RegionLaw
import Derived.BigRegion
namespace Go.Proofs.Yteffmnohgnmanaa
open Go.RowKit
set_option linter.unusedVariables false
attribute [local go_sem ↓] Go.wp_at_zero Go.wp_at_succ
theorem atW {w W : World} {F : Nat → Prop} {g : Nat} {v : Value} {ms : List CM} (h : Chs w F g v ms) (hf : Fr E0 w W) : Chs W F g v ms := h.fr hf (fun _ _ x => x)
/-- Where nothing of the channels is turned. -/
theorem step_same {w W w2 : World} {F : Nat → Prop} {g B : Nat} {v : Value} {ms : List CM} (h : Chs w F g v ms) (hB : w.heap.size ≤ B) (h1 : Fr E0 w W) (h3 : Fr (fun k => k = B) W w2) : Step F g w (chs ms) w2 :=
  ⟨F, (IsCh.fr (h.fr h1 (fun _ _ x => x)).isCh h3 (fun k hk e => by have := h.lt k hk; omega)), fun k hk => .inl hk, (h1.e0 (S := F)).trans' h3 (fun i hi => .inr (by omega))⟩
theorem fin23 {a : Act} {W : World} {R : Nat} {Q : Ending → World → Prop} {m : Mv} {wv : Value} {err : Int} (hd : a.defers = []) (h8 : a.tmps.getD 8 undef = .pointer (some ⟨R, 0, none⟩)) (h9 : a.tmps.getD 9 undef = .int .i64 err)
    (hR : W.heap[R]? = some (.cells #[.bool m.waits, .int .i64 m.value, .bool m.ok, .int .i64 m.trap, wv] 32 (0, 0))) (hQ : Q (.returned (tup2 (m.val wv) (.int .i64 err))) W) : bodyPost Try.prog Try.f23 Q .ret a W := by
  obtain ⟨⟨k0, k1, k2, k3, k4⟩, _⟩ := blk5 hR
  have h8' : a.tmps[8]?.getD undef = .pointer (some ⟨R, 0, none⟩) := by simpa using h8
  have h9' : a.tmps[9]?.getD undef = .int .i64 err := by simpa using h9
  exact bodyPost_ret (v := tup2 (m.val wv) (.int .i64 err)) (by simp [results, Try.results23, go_sem, h8', h9', k0, k1, k2, k3, k4, tup2, Mv.val]) hd hQ
theorem Chs.at {w : World} {F : Nat → Prop} {g k : Nat} {v : Value} {ms : List CM} {m : CM} (h : Chs w F g v ms) (hk : ms[k]? = some m) : ∃ L cp, v = .slice (some ⟨L, 0, none⟩) ms.length cp ∧ F L ∧
    w.cell? ⟨L, k * 5, none⟩ = some (.int .i64 m.ch.cap) ∧ w.cell? ⟨L, k * 5 + 1, none⟩ = some m.vv ∧ w.cell? ⟨L, k * 5 + 2, none⟩ = some m.sv ∧ w.cell? ⟨L, k * 5 + 3, none⟩ = some m.rv ∧ w.cell? ⟨L, k * 5 + 4, none⟩ = some (.bool m.ch.cl) ∧ (∀ j, w.frozen? ⟨L, j, none⟩ = false) := by
  have hlt := lt_of_get hk
  rcases h.own.row.form (by decide) (cms_len ms) with ⟨_, h0, _⟩ | ⟨L, c, rfl, hF, _, _, _, hr, hfz⟩
  · omega
  obtain ⟨g0, g1, g2, g3, g4⟩ := hr.cm hk
  simp only [Nat.zero_add] at g0 g1 g2 g3 g4
  exact ⟨L, c, rfl, hF, g0, g1, g2, g3, g4, hfz⟩
theorem Chs.rdAt {w : World} {F : Nat → Prop} {g L n c : Nat} {ms : List CM} (h : Chs w F g (.slice (some ⟨L, 0, none⟩) n c) ms) : RdCh w g (some ⟨L, 0, none⟩) c ms := by
  obtain ⟨A, c', hv, hr⟩ := h.rd
  cases hv; exact hr
/-- The woken, made anew. -/
theorem rowNew (w2 w : World) (hs : w.heap.size ≤ w2.heap.size) (l : List Wk) (hl : l.length ≤ maxLen) (cs : Array Value) (hcs : cs.toList = wks l) : RowF (w2.alloc (.cells cs 39)) (New w) 39 6 (.slice (some ⟨w2.heap.size, 0, none⟩) l.length l.length) (wks l) := by
  have hsz : cs.size = l.length * 6 := by rw [← wks_len, ← hcs]; simp
  refine ⟨⟨l.length, wks_len l, .inr ⟨w2.heap.size, l.length, cs, rfl, Nat.zero_le _, heap_alloc_new w2 _, Nat.le_refl _, hl, hsz, ?_⟩⟩, fun g hg => by simp [Value.ownBlock] at hg; subst hg; exact hs⟩
  rw [← hsz, ← hcs, List.take_of_length_le (by simp)]
theorem ints_app (l : List Int) (v : Int) : ints (l ++ [v]) = ints l ++ [.int .i64 v] := by simp [ints]
theorem wts_app (l : List Wt) (x : Wt) : wts (l ++ [x]) = wts l ++ x.cells := by simp [wts]
theorem cell2 {w : World} {B : Nat} {x0 x1 : Value} {t : TypeId} (h : w.heap[B]? = some (.cells #[x0, x1] t (0, 0))) :
    w.cell? ⟨B, 0, none⟩ = some x0 ∧ w.cell? ⟨B, 1, none⟩ = some x1 ∧ w.frozen? ⟨B, 0, none⟩ = false ∧ w.frozen? ⟨B, 1, none⟩ = false :=
  ⟨cell_of_row w _ 0 _ _ _ h, cell_of_row w _ 1 _ _ _ h, frozen_of_row w _ 0 _ _ h, frozen_of_row w _ 1 _ _ h⟩
theorem cellA {W : World} {o : Obj} {b j : Nat} {v : Value} (hl : b < W.heap.size) (h : W.cell? ⟨b, j, none⟩ = some v) : (W.alloc o).drew.cell? ⟨b, j, none⟩ = some v := by
  show (W.alloc o).cell? _ = _; rw [World.cell?_alloc_past _ _ _ hl]; exact h
theorem frozenA {W : World} {o : Obj} {b j : Nat} {v : Bool} (hl : b < W.heap.size) (h : W.frozen? ⟨b, j, none⟩ = v) : (W.alloc o).drew.frozen? ⟨b, j, none⟩ = v := by
  show (W.alloc o).frozen? _ = _; rw [World.frozen?_alloc_past _ _ _ hl]; exact h
theorem undrew {W w : World} {r : Option Nat} (h : W.drew.grownBy w r) : W.grownBy w r := ⟨h.os, h.tape, h.output, h.size, h.block⟩
theorem getW {ms : List CM} {k : Nat} {m : CM} (hk : ms[k]? = some m) : getC (chs ms) ((k : Int) + 1) = some m.ch := getC_in (chs_get hk)
set_option maxHeartbeats 2000000 in
theorem send_waits {w : World} {F : Nat → Prop} {g : Nat} {v0 : Value} {ms : List CM} (h : Chs w F g v0 ms) (gs gg v : Int) (hn : ms.length ≤ 1024) (hfit : ∀ m ∈ ms, m.ch.Fit) (hw : waitsL gs gg (chs ms) = true) (ch : Int) :
    Calls Try.prog 23 #[.pointer (some ⟨g, 0, none⟩), .int .i64 ch, .agg #[.int .i64 gs, .int .i64 gg], .int .i64 v] w (MvPost F g w (chs ms) {} 111) := by
  have H := hid h
  have hm := h.made
  have hgl := h.lt g h.mine
  have HW := hid hw
  clear h hw
  go_enter Try.func23, Try.ntmps23
  go_wp2_with (go_at_call 53; refine (is_made (g := g) (by rw [World.cell?_alloc_past _ _ _ (by simp; omega), World.cell?_alloc_past _ _ _ hgl]; exact hm)).mono ?_; rintro e w1 ⟨rfl, rfl⟩)
  generalize hW : ((w.alloc (Obj.cells #[Value.int IntKind.i64 gs, Value.int IntKind.i64 gg] 37)).alloc _) = W
  have hA := hid (show Fr E0 w W by rw [← hW]; exact (Fr.refl.alloc _).alloc _)
  have hT := hid (show W.heap[w.heap.size + 1]? = some (.cells #[Value.bool false, Value.int IntKind.i64 0, Value.bool false, Value.int IntKind.i64 0, Value.slice none 0 0] 32 (0, 0)) by rw [← hW]; exact heap_alloc2_new w _ _)
  have hG := hid (show W.heap[w.heap.size]? = some (.cells #[Value.int IntKind.i64 gs, Value.int IntKind.i64 gg] 37 (0, 0)) by rw [← hW]; exact heap_alloc2_old w _ _)
  clear hW hm
  obtain ⟨A, cp, hv, hrd⟩ := (atW H.out hA.out).rd
  refine (waits_ok hrd gs gg).mono ?_
  rintro e w1 ⟨rfl, hf1⟩
  rw [HW.out]
  have F1 := hid hf1
  have FA := hid (hA.out.trans hf1)
  have T1 := hid (hf1.heapAt hT.out (fun x => x))
  have G1 := hid (hf1.heapAt hG.out (fun x => x))
  obtain ⟨⟨b0, b1, b2, b3, b4⟩, z0, z1, z2, z3, z4⟩ := blk5 T1.out
  have RD := hid (hrd.fr hf1)
  clear hf1 hrd
  go_wp2_with fail
  have T5 := hid (set5_heap (w := w1) T1.out (.bool false) (.int .i64 0) (.bool false) (.int .i64 0) (.slice none 0 0))
  have S5 := hid (set5_fr (S := fun k => k = w.heap.size + 1) (w := w1) (B := w.heap.size + 1) rfl (.bool false) (.int .i64 0) (.bool false) (.int .i64 0) (.slice none 0 0))
  exact fin23 (m := {}) rfl rfl rfl T5.out ⟨_, rfl, RowF.nil, step_same H.out (Nat.le_succ _) FA.out S5.out⟩
set_option maxHeartbeats 2000000 in
theorem send_out {w : World} {F : Nat → Prop} {g : Nat} {v0 : Value} {ms : List CM} (h : Chs w F g v0 ms) (gs gg v : Int) (hn : ms.length ≤ 1024) (hfit : ∀ m ∈ ms, m.ch.Fit) (hw : waitsL gs gg (chs ms) = false) (ch : Int) (hch : ch < 0 ∨ (ms.length : Int) < ch) :
    Calls Try.prog 23 #[.pointer (some ⟨g, 0, none⟩), .int .i64 ch, .agg #[.int .i64 gs, .int .i64 gg], .int .i64 v] w (MvPost F g w (chs ms) { trap := 4 } 0) := by
  have H := hid h
  have hm := h.made
  have hgl := h.lt g h.mine
  have HW := hid hw
  clear h hw
  go_enter Try.func23, Try.ntmps23
  go_wp2_with (go_at_call 53; refine (is_made (g := g) (by rw [World.cell?_alloc_past _ _ _ (by simp; omega), World.cell?_alloc_past _ _ _ hgl]; exact hm)).mono ?_; rintro e w1 ⟨rfl, rfl⟩)
  generalize hW : ((w.alloc (Obj.cells #[Value.int IntKind.i64 gs, Value.int IntKind.i64 gg] 37)).alloc _) = W
  have hA := hid (show Fr E0 w W by rw [← hW]; exact (Fr.refl.alloc _).alloc _)
  have hT := hid (show W.heap[w.heap.size + 1]? = some (.cells #[Value.bool false, Value.int IntKind.i64 0, Value.bool false, Value.int IntKind.i64 0, Value.slice none 0 0] 32 (0, 0)) by rw [← hW]; exact heap_alloc2_new w _ _)
  have hG := hid (show W.heap[w.heap.size]? = some (.cells #[Value.int IntKind.i64 gs, Value.int IntKind.i64 gg] 37 (0, 0)) by rw [← hW]; exact heap_alloc2_old w _ _)
  clear hW hm
  obtain ⟨A, cp, hv, hrd⟩ := (atW H.out hA.out).rd
  refine (waits_ok hrd gs gg).mono ?_
  rintro e w1 ⟨rfl, hf1⟩
  rw [HW.out]
  have F1 := hid hf1
  have FA := hid (hA.out.trans hf1)
  have T1 := hid (hf1.heapAt hT.out (fun x => x))
  have G1 := hid (hf1.heapAt hG.out (fun x => x))
  obtain ⟨⟨b0, b1, b2, b3, b4⟩, z0, z1, z2, z3, z4⟩ := blk5 T1.out
  have RD := hid (hrd.fr hf1)
  clear hf1 hrd
  have HC := hid hch; clear hch
  go_wp2_with (go_at_call 54; refine (at_out RD.out ch HC.out).mono ?_; rintro e w2 ⟨rfl, rfl⟩; simp only [tup2])
  have T5 := hid (set5_heap (w := w1) T1.out (.bool false) (.int .i64 0) (.bool false) (.int .i64 4) (.slice none 0 0))
  have S5 := hid (set5_fr (S := fun k => k = w.heap.size + 1) (w := w1) (B := w.heap.size + 1) rfl (.bool false) (.int .i64 0) (.bool false) (.int .i64 4) (.slice none 0 0))
  exact fin23 (m := { trap := 4 }) rfl rfl rfl T5.out ⟨_, rfl, RowF.nil, step_same H.out (Nat.le_succ _) FA.out S5.out⟩
set_option maxHeartbeats 2000000 in
theorem send_nil {w : World} {F : Nat → Prop} {g : Nat} {v0 : Value} {ms : List CM} (h : Chs w F g v0 ms) (gs gg v : Int) (hn : ms.length ≤ 1024) (hfit : ∀ m ∈ ms, m.ch.Fit) (hw : waitsL gs gg (chs ms) = false) :
    Calls Try.prog 23 #[.pointer (some ⟨g, 0, none⟩), .int .i64 0, .agg #[.int .i64 gs, .int .i64 gg], .int .i64 v] w (MvPost F g w (chs ms) { waits := true } 0) := by
  have H := hid h
  have hm := h.made
  have hgl := h.lt g h.mine
  have HW := hid hw
  clear h hw
  go_enter Try.func23, Try.ntmps23
  go_wp2_with (go_at_call 53; refine (is_made (g := g) (by rw [World.cell?_alloc_past _ _ _ (by simp; omega), World.cell?_alloc_past _ _ _ hgl]; exact hm)).mono ?_; rintro e w1 ⟨rfl, rfl⟩)
  generalize hW : ((w.alloc (Obj.cells #[Value.int IntKind.i64 gs, Value.int IntKind.i64 gg] 37)).alloc _) = W
  have hA := hid (show Fr E0 w W by rw [← hW]; exact (Fr.refl.alloc _).alloc _)
  have hT := hid (show W.heap[w.heap.size + 1]? = some (.cells #[Value.bool false, Value.int IntKind.i64 0, Value.bool false, Value.int IntKind.i64 0, Value.slice none 0 0] 32 (0, 0)) by rw [← hW]; exact heap_alloc2_new w _ _)
  have hG := hid (show W.heap[w.heap.size]? = some (.cells #[Value.int IntKind.i64 gs, Value.int IntKind.i64 gg] 37 (0, 0)) by rw [← hW]; exact heap_alloc2_old w _ _)
  clear hW hm
  obtain ⟨A, cp, hv, hrd⟩ := (atW H.out hA.out).rd
  refine (waits_ok hrd gs gg).mono ?_
  rintro e w1 ⟨rfl, hf1⟩
  rw [HW.out]
  have F1 := hid hf1
  have FA := hid (hA.out.trans hf1)
  have T1 := hid (hf1.heapAt hT.out (fun x => x))
  have G1 := hid (hf1.heapAt hG.out (fun x => x))
  obtain ⟨⟨b0, b1, b2, b3, b4⟩, z0, z1, z2, z3, z4⟩ := blk5 T1.out
  have RD := hid (hrd.fr hf1)
  clear hf1 hrd
  go_wp2_with (go_at_call 54; refine (at_zero RD.out).mono ?_; rintro e w2 ⟨rfl, rfl⟩; simp only [tup2])
  have T5 := hid (set5_heap (w := w1) T1.out (.bool true) (.int .i64 0) (.bool false) (.int .i64 0) (.slice none 0 0))
  have S5 := hid (set5_fr (S := fun k => k = w.heap.size + 1) (w := w1) (B := w.heap.size + 1) rfl (.bool true) (.int .i64 0) (.bool false) (.int .i64 0) (.slice none 0 0))
  exact fin23 (m := { waits := true }) rfl rfl rfl T5.out ⟨_, rfl, RowF.nil, step_same H.out (Nat.le_succ _) FA.out S5.out⟩
set_option maxHeartbeats 2000000 in
theorem send_closed {w : World} {F : Nat → Prop} {g : Nat} {v0 : Value} {ms : List CM} (h : Chs w F g v0 ms) (gs gg v : Int) (hn : ms.length ≤ 1024) (hfit : ∀ m ∈ ms, m.ch.Fit) (hw : waitsL gs gg (chs ms) = false) {k : Nat} {m : CM} (hk : ms[k]? = some m) (hcl : m.ch.cl = true) :
    Calls Try.prog 23 #[.pointer (some ⟨g, 0, none⟩), .int .i64 ((k : Int) + 1), .agg #[.int .i64 gs, .int .i64 gg], .int .i64 v] w (MvPost F g w (chs ms) { trap := 6 } 0) := by
  have H := hid h
  have hm := h.made
  have hgl := h.lt g h.mine
  have HW := hid hw
  clear h hw
  go_enter Try.func23, Try.ntmps23
  go_wp2_with (go_at_call 53; refine (is_made (g := g) (by rw [World.cell?_alloc_past _ _ _ (by simp; omega), World.cell?_alloc_past _ _ _ hgl]; exact hm)).mono ?_; rintro e w1 ⟨rfl, rfl⟩)
  generalize hW : ((w.alloc (Obj.cells #[Value.int IntKind.i64 gs, Value.int IntKind.i64 gg] 37)).alloc _) = W
  have hA := hid (show Fr E0 w W by rw [← hW]; exact (Fr.refl.alloc _).alloc _)
  have hT := hid (show W.heap[w.heap.size + 1]? = some (.cells #[Value.bool false, Value.int IntKind.i64 0, Value.bool false, Value.int IntKind.i64 0, Value.slice none 0 0] 32 (0, 0)) by rw [← hW]; exact heap_alloc2_new w _ _)
  have hG := hid (show W.heap[w.heap.size]? = some (.cells #[Value.int IntKind.i64 gs, Value.int IntKind.i64 gg] 37 (0, 0)) by rw [← hW]; exact heap_alloc2_old w _ _)
  clear hW hm
  obtain ⟨L, cp, hv, hFL, _⟩ := H.out.at hk
  subst hv
  have hrd := (atW H.out hA.out).rdAt
  refine (waits_ok hrd gs gg).mono ?_
  rintro e w1 ⟨rfl, hf1⟩
  rw [HW.out]
  have F1 := hid hf1
  have FA := hid (hA.out.trans hf1)
  have T1 := hid (hf1.heapAt hT.out (fun x => x))
  have G1 := hid (hf1.heapAt hG.out (fun x => x))
  obtain ⟨⟨b0, b1, b2, b3, b4⟩, z0, z1, z2, z3, z4⟩ := blk5 T1.out
  have RD := hid (hrd.fr hf1)
  clear hf1 hrd
  have C1 := hid (atW H.out FA.out)
  obtain ⟨_, _, e0, _, c0, c1, c2, c3, c4, hfz⟩ := C1.out.at hk
  cases e0
  have HFZ := hid hfz
  have hlk := lt_of_get hk
  have HK := hid hk
  have O1 := hid (C1.out.own.each m (List.mem_of_getElem? hk))
  clear hk hfz
  rw [hcl] at c4
  go_wp2_with (go_at_call 54; refine (at_in RD.out k hlk).mono ?_; rintro e w2 ⟨rfl, rfl⟩; simp only [tup2, Nat.zero_add])
  have T5 := hid (set5_heap (w := w1) T1.out (.bool false) (.int .i64 0) (.bool false) (.int .i64 6) (.slice none 0 0))
  have S5 := hid (set5_fr (S := fun k => k = w.heap.size + 1) (w := w1) (B := w.heap.size + 1) rfl (.bool false) (.int .i64 0) (.bool false) (.int .i64 6) (.slice none 0 0))
  exact fin23 (m := { trap := 6 }) rfl rfl rfl T5.out ⟨_, rfl, RowF.nil, step_same H.out (Nat.le_succ _) FA.out S5.out⟩
set_option maxHeartbeats 2000000 in
theorem send_wakes {w : World} {F : Nat → Prop} {g : Nat} {v0 : Value} {ms : List CM} (h : Chs w F g v0 ms) (gs gg v : Int) (hn : ms.length ≤ 1024) (hfit : ∀ m ∈ ms, m.ch.Fit) (hw : waitsL gs gg (chs ms) = false) {k : Nat} {m : CM} (hk : ms[k]? = some m) (hcl : m.ch.cl = false) {x : Wt} {r : List Wt} (hr : m.ch.rcv = x :: r) :
    Calls Try.prog 23 #[.pointer (some ⟨g, 0, none⟩), .int .i64 ((k : Int) + 1), .agg #[.int .i64 gs, .int .i64 gg], .int .i64 v] w (MvPost F g w (leaveL x.s x.g (chs ms)) { ok := true, woken := [⟨x.s, x.g, x.c, v, true, 0⟩] } 0) := by
  have H := hid h
  have hm := h.made
  have hgl := h.lt g h.mine
  have HW := hid hw
  clear h hw
  go_enter Try.func23, Try.ntmps23
  go_wp2_with (go_at_call 53; refine (is_made (g := g) (by rw [World.cell?_alloc_past _ _ _ (by simp; omega), World.cell?_alloc_past _ _ _ hgl]; exact hm)).mono ?_; rintro e w1 ⟨rfl, rfl⟩)
  generalize hW : ((w.alloc (Obj.cells #[Value.int IntKind.i64 gs, Value.int IntKind.i64 gg] 37)).alloc _) = W
  have hA := hid (show Fr E0 w W by rw [← hW]; exact (Fr.refl.alloc _).alloc _)
  have hT := hid (show W.heap[w.heap.size + 1]? = some (.cells #[Value.bool false, Value.int IntKind.i64 0, Value.bool false, Value.int IntKind.i64 0, Value.slice none 0 0] 32 (0, 0)) by rw [← hW]; exact heap_alloc2_new w _ _)
  have hG := hid (show W.heap[w.heap.size]? = some (.cells #[Value.int IntKind.i64 gs, Value.int IntKind.i64 gg] 37 (0, 0)) by rw [← hW]; exact heap_alloc2_old w _ _)
  clear hW hm
  obtain ⟨L, cp, hv, hFL, _⟩ := H.out.at hk
  subst hv
  have hrd := (atW H.out hA.out).rdAt
  refine (waits_ok hrd gs gg).mono ?_
  rintro e w1 ⟨rfl, hf1⟩
  rw [HW.out]
  have F1 := hid hf1
  have FA := hid (hA.out.trans hf1)
  have T1 := hid (hf1.heapAt hT.out (fun x => x))
  have G1 := hid (hf1.heapAt hG.out (fun x => x))
  obtain ⟨⟨b0, b1, b2, b3, b4⟩, z0, z1, z2, z3, z4⟩ := blk5 T1.out
  have RD := hid (hrd.fr hf1)
  clear hf1 hrd
  have C1 := hid (atW H.out FA.out)
  obtain ⟨_, _, e0, _, c0, c1, c2, c3, c4, hfz⟩ := C1.out.at hk
  cases e0
  have HFZ := hid hfz
  have hlk := lt_of_get hk
  have HK := hid hk
  have O1 := hid (C1.out.own.each m (List.mem_of_getElem? hk))
  clear hk hfz
  rw [hcl] at c4
  have hx : m.ch.rcv[0]? = some x := by rw [hr]; rfl
  rcases O1.out.rcv.form (by decide) (wts_len _) with ⟨_, h0, _⟩ | ⟨b3, p3, hv3, _, _, hn3, _, hr3, _⟩
  · rw [hr] at h0; simp at h0
  obtain ⟨d0, d1, d2, d3⟩ := hr3.wt hx
  simp only [Nat.zero_add, Nat.zero_mul] at d0 d1 d2 d3
  have hl3 : m.ch.rcv.length = r.length + 1 := by rw [hr]; rfl
  rw [hl3] at hv3 hn3
  rw [hv3] at c3
  clear hr3 hr hx hv3 hl3
  go_wp2_with (first
    | (go_at_call 54; refine (at_in RD.out k hlk).mono ?_; rintro e w2 ⟨rfl, rfl⟩; simp only [tup2, Nat.zero_add]))
  refine (wake_ok C1.out x v true 0 hn hfit).mono ?_
  rintro e w2 ⟨rfl, hl2, hf2⟩
  simp only [Wk.val]
  have T2 := hid ((Fr.refl (S := E0) |>.alloc (.cells #[.int .i64 x.s, .int .i64 x.g, .int .i64 x.c, .int .i64 v, .bool true, .int .i64 0] 39)).heapAt (hf2.heapAt T1.out (fun hx => by have := H.out.lt _ hx; omega)) (fun x => x))
  have hR2 := hid (rowNew w2 w (Nat.le_trans FA.out.size hf2.size) [⟨x.s, x.g, x.c, v, true, 0⟩] (show 1 ≤ maxLen by decide) _ rfl)
  obtain ⟨⟨b0, b1, b2, b3, b4⟩, z0, z1, z2, z3, z4⟩ := blk5 T2.out
  have L2 := hid hl2
  have F2 := hid (FA.out.e0.trans (hf2.trans (Fr.refl.alloc (.cells #[.int .i64 x.s, .int .i64 x.g, .int .i64 x.c, .int .i64 v, .bool true, .int .i64 0] 39))))
  have hne : ¬ w2.heap.size = w.heap.size + 1 := by have h1 := heap_lt T1.out; have h2 := hf2.size; omega
  have HNE := hid hne
  clear hl2 hf2 hne
  go_wp2_with fail
  have T5 := hid (set5_heap (w := (w2.alloc (.cells #[.int .i64 x.s, .int .i64 x.g, .int .i64 x.c, .int .i64 v, .bool true, .int .i64 0] 39))) T2.out (.bool false) (.int .i64 0) (.bool true) (.int .i64 0) (.slice (some ⟨w2.heap.size, 0, none⟩) 1 1))
  have S5 := hid (set5_fr (S := fun k => k = w.heap.size + 1) (w := (w2.alloc (.cells #[.int .i64 x.s, .int .i64 x.g, .int .i64 x.c, .int .i64 v, .bool true, .int .i64 0] 39))) (B := w.heap.size + 1) rfl (.bool false) (.int .i64 0) (.bool true) (.int .i64 0) (.slice (some ⟨w2.heap.size, 0, none⟩) 1 1))
  exact fin23 (m := { ok := true, woken := [⟨x.s, x.g, x.c, v, true, 0⟩] }) rfl rfl rfl T5.out ⟨_, rfl, (hR2.out.fr S5.out (fun q hq e => HNE.out (by simp [Value.ownBlock] at hq; omega))), ((L2.out.fr (Fr.refl.alloc _) (fun _ _ x => x)).fr S5.out (fun q hq e => by have := H.out.lt q hq; omega)).step (fun q hq => .inl hq) (F2.out.trans' S5.out (fun i hi => .inr (by omega)))⟩
set_option maxHeartbeats 2000000 in
theorem send_buffers {w : World} {F : Nat → Prop} {g : Nat} {v0 : Value} {ms : List CM} (h : Chs w F g v0 ms) (gs gg v : Int) (hn : ms.length ≤ 1024) (hfit : ∀ m ∈ ms, m.ch.Fit) (hw : waitsL gs gg (chs ms) = false) {k : Nat} {m : CM} (hk : ms[k]? = some m) (hcl : m.ch.cl = false) (hr : m.ch.rcv = []) (hb : (m.ch.vals.length : Int) < m.ch.cap) (hcap : m.ch.cap ≤ 1024) :
    Calls Try.prog 23 #[.pointer (some ⟨g, 0, none⟩), .int .i64 ((k : Int) + 1), .agg #[.int .i64 gs, .int .i64 gg], .int .i64 v] w (MvPost F g w ((chs ms).set k { m.ch with vals := m.ch.vals ++ [v] }) { ok := true } 0) := by
  have H := hid h
  have hm := h.made
  have hgl := h.lt g h.mine
  have HW := hid hw
  clear h hw
  go_enter Try.func23, Try.ntmps23
  go_wp2_with (go_at_call 53; refine (is_made (g := g) (by rw [World.cell?_alloc_past _ _ _ (by simp; omega), World.cell?_alloc_past _ _ _ hgl]; exact hm)).mono ?_; rintro e w1 ⟨rfl, rfl⟩)
  generalize hW : ((w.alloc (Obj.cells #[Value.int IntKind.i64 gs, Value.int IntKind.i64 gg] 37)).alloc _) = W
  have hA := hid (show Fr E0 w W by rw [← hW]; exact (Fr.refl.alloc _).alloc _)
  have hT := hid (show W.heap[w.heap.size + 1]? = some (.cells #[Value.bool false, Value.int IntKind.i64 0, Value.bool false, Value.int IntKind.i64 0, Value.slice none 0 0] 32 (0, 0)) by rw [← hW]; exact heap_alloc2_new w _ _)
  have hG := hid (show W.heap[w.heap.size]? = some (.cells #[Value.int IntKind.i64 gs, Value.int IntKind.i64 gg] 37 (0, 0)) by rw [← hW]; exact heap_alloc2_old w _ _)
  clear hW hm
  obtain ⟨L, cp, hv, hFL, _⟩ := H.out.at hk
  subst hv
  have hrd := (atW H.out hA.out).rdAt
  refine (waits_ok hrd gs gg).mono ?_
  rintro e w1 ⟨rfl, hf1⟩
  rw [HW.out]
  have F1 := hid hf1
  have FA := hid (hA.out.trans hf1)
  have T1 := hid (hf1.heapAt hT.out (fun x => x))
  have G1 := hid (hf1.heapAt hG.out (fun x => x))
  obtain ⟨⟨b0, b1, b2, b3, b4⟩, z0, z1, z2, z3, z4⟩ := blk5 T1.out
  have RD := hid (hrd.fr hf1)
  clear hf1 hrd
  have C1 := hid (atW H.out FA.out)
  obtain ⟨_, _, e0, _, c0, c1, c2, c3, c4, hfz⟩ := C1.out.at hk
  cases e0
  have HFZ := hid hfz
  have hlk := lt_of_get hk
  have HK := hid hk
  have O1 := hid (C1.out.own.each m (List.mem_of_getElem? hk))
  clear hk hfz
  obtain ⟨A1, n1', e1, _, hm1, _⟩ := O1.out.vals.read (by decide) (ints_len _)
  obtain ⟨A2, n2', e2, _, hm2, _⟩ := O1.out.snd.read (by decide) (wts_len _)
  obtain ⟨A3, n3', e3, _, hm3, _⟩ := O1.out.rcv.read (by decide) (wts_len _)
  rw [hcl] at c4
  rw [hr] at e3
  rw [e3] at c3
  rw [e1] at c1
  have E1 := hid e1
  have hn1 : m.ch.vals.length ≤ 1024 := by omega
  clear e1 e3 e2 hcl hr hm1 hm2 hm3
  go_wp2_with (first
    | (go_at_call 54; refine (at_in RD.out k hlk).mono ?_; rintro e w2 ⟨rfl, rfl⟩; simp only [tup2, Nat.zero_add]))
  go_quiet (fail)
  have FQ := hid ((Fr.refl (S := E0) (w := w1)).drewN nq)
  generalize w1.drewN nq = W at FQ ⊢
  have FA2 := hid (FA.out.trans FQ.out)
  have T2 := hid (FQ.out.heapAt T1.out (fun x => x))
  have G2 := hid (FQ.out.heapAt G1.out (fun x => x))
  have C2 := hid (C1.out.fr FQ.out (fun _ _ x => x))
  have O2 := hid (C2.out.own.each m (List.mem_of_getElem? HK.out))
  clear b0 b1 b2 b3 b4 z0 z1 z2 z3 z4 c0 c1 c2 c3 c4
  obtain ⟨_, _, e0, _, c0, c1, c2, c3, c4, hfz⟩ := C2.out.at HK.out
  cases e0
  obtain ⟨i0, hi0, hz0, hz1, hz2⟩ := info_parts info2'
  rw [E1.out] at c1
  have hf1 := hfz (k * 5 + 1)
  have CA := hid (C2.out.fr (Fr.refl (S := E0) |>.alloc (.cells #[.int .i64 v] 2)) (fun _ _ x => x))
  have OA := hid (CA.out.own.each m (List.mem_of_getElem? HK.out))
  have hown0 := hid (show World.ownsRow (W.alloc (.cells #[.int .i64 v] 2)) 0 2 1 (.slice A1 m.ch.vals.length n1') m.ch.vals.length (ints m.ch.vals) by rw [← E1.out]; exact OA.out.vals.own (by decide) (ints_len _))
  have hnL : (Value.slice A1 m.ch.vals.length n1').ownBlock ≠ some L := fun hx => C2.out.own.row.ne_type O2.out.vals (by decide) rfl (by rw [E1.out]; exact hx)
  have hnR : (Value.slice A1 m.ch.vals.length n1').ownBlock ≠ some (w.heap.size + 1) := fun hx => by have := H.out.lt _ (O2.out.vals.2 _ (by rw [E1.out]; exact hx)); omega
  have hLl : L < W.heap.size := C2.out.lt L hFL
  have hRl := heap_lt T2.out
  have hLw : L < w.heap.size := H.out.lt L hFL
  have hLR : ¬ L = w.heap.size + 1 := by omega
  have hLR' : ¬ w.heap.size + 1 = L := by omega
  have TA := hid ((Fr.refl (S := E0) |>.alloc (.cells #[.int .i64 v] 2)).heapAt T2.out (fun x => x))
  clear hfz c0 c2 c3 c4
  go_wp2_with (at_builtin; refine wpList_append_lies _ rfl (.tmp 74) (.tmp 76) 22 rfl 0 2 i0 (.int .i64 0) 1 8 Try.underlying22 hi0 hz0 hz1 hz2 rfl (by decide) (.slice A1 m.ch.vals.length n1') m.ch.vals.length (ints m.ch.vals) rfl hown0.out ⟨W.heap.size, 0, none⟩ 1 1 [.int .i64 v] rfl rfl (news1 _ _) (by simp [Value.oneCell']) (by decide) (by unfold maxLen; omega) (by omega) (Nat.zero_le _) (W.heap.size + 1) (by simp) ?_; intro gb cap w3 hown3 hgrow3 hat3 hlt3; have x1 : w3.cell? ⟨L, k * 5 + 1, none⟩ = some (.slice A1 m.ch.vals.length n1') := hgrow3.cell (by rw [World.cell?_alloc_past _ _ _ hLl]; exact c1) (fun e => hnL e.symm); have x2 : w3.frozen? ⟨L, k * 5 + 1, none⟩ = false := (by rw [hgrow3.frozen_far _ (Nat.lt_of_lt_of_le hLl (by simp)) (fun e => hnL e.symm), World.frozen?_alloc_past _ _ _ hLl]; exact hf1); have FG := hid (Fr.refl.grown (S := fun q => (Value.slice A1 m.ch.vals.length n1').ownBlock = some q) hgrow3 (fun q hq => .inl hq)); have T3 := hid (FG.out.heapAt TA.out hnR); have HN := hid (And.intro hown3 (And.intro hgrow3 (And.intro hat3 hlt3))); clear hown3 hgrow3 hat3 hlt3; obtain ⟨⟨b0, b1, b2, b3, b4⟩, z0, z1, z2, z3, z4⟩ := blk5 T3.out)
  have T4 := hid ((heap_setCell_other w3 ⟨L, k * 5 + 1, none⟩ (w.heap.size + 1) (.slice (some ⟨gb, 0, none⟩) (m.ch.vals.length + 1) cap) hLR').trans T3.out)
  have ST := hid (appendV (m := m) (l' := m.ch.vals ++ [v]) CA.out HK.out hFL (by rw [ints_app]; exact HN.out.1) (by rw [E1.out]; exact HN.out.2.1) (by rw [E1.out]; simpa using HN.out.2.2.1) HN.out.2.2.2)
  have T5 := hid (set5_heap (w := w3.setCell ⟨L, k * 5 + 1, none⟩ (.slice (some ⟨gb, 0, none⟩) (m.ch.vals.length + 1) cap)) T4.out (.bool false) (.int .i64 0) (.bool true) (.int .i64 0) (.slice none 0 0))
  have S5 := hid (set5_fr (S := fun k => k = w.heap.size + 1) (w := w3.setCell ⟨L, k * 5 + 1, none⟩ (.slice (some ⟨gb, 0, none⟩) (m.ch.vals.length + 1) cap)) (B := w.heap.size + 1) rfl (.bool false) (.int .i64 0) (.bool true) (.int .i64 0) (.slice none 0 0))
  exact fin23 (m := { ok := true }) rfl rfl rfl T5.out ⟨_, rfl, RowF.nil, ST.out.then (FA2.out.trans (Fr.refl.alloc _)) H.out.lt S5.out (fun q hq => by subst hq; exact ⟨Nat.le_succ _, by simp; omega⟩)⟩
set_option maxHeartbeats 2000000 in
theorem send_queues {w : World} {F : Nat → Prop} {g : Nat} {v0 : Value} {ms : List CM} (h : Chs w F g v0 ms) (gs gg v : Int) (hn : ms.length ≤ 1024) (hfit : ∀ m ∈ ms, m.ch.Fit) (hw : waitsL gs gg (chs ms) = false) {k : Nat} {m : CM} (hk : ms[k]? = some m) (hcl : m.ch.cl = false) (hr : m.ch.rcv = []) (hb : ¬ (m.ch.vals.length : Int) < m.ch.cap) (hroom : (m.ch.snd.length + 1) * 32 ≤ 140737488355328) :
    Calls Try.prog 23 #[.pointer (some ⟨g, 0, none⟩), .int .i64 ((k : Int) + 1), .agg #[.int .i64 gs, .int .i64 gg], .int .i64 v] w (MvPost F g w ((chs ms).set k { m.ch with snd := m.ch.snd ++ [⟨gs, gg, 0, v⟩] }) { waits := true } 0) := by
  have H := hid h
  have hm := h.made
  have hgl := h.lt g h.mine
  have HW := hid hw
  clear h hw
  go_enter Try.func23, Try.ntmps23
  go_wp2_with (go_at_call 53; refine (is_made (g := g) (by rw [World.cell?_alloc_past _ _ _ (by simp; omega), World.cell?_alloc_past _ _ _ hgl]; exact hm)).mono ?_; rintro e w1 ⟨rfl, rfl⟩)
  generalize hW : ((w.alloc (Obj.cells #[Value.int IntKind.i64 gs, Value.int IntKind.i64 gg] 37)).alloc _) = W
  have hA := hid (show Fr E0 w W by rw [← hW]; exact (Fr.refl.alloc _).alloc _)
  have hT := hid (show W.heap[w.heap.size + 1]? = some (.cells #[Value.bool false, Value.int IntKind.i64 0, Value.bool false, Value.int IntKind.i64 0, Value.slice none 0 0] 32 (0, 0)) by rw [← hW]; exact heap_alloc2_new w _ _)
  have hG := hid (show W.heap[w.heap.size]? = some (.cells #[Value.int IntKind.i64 gs, Value.int IntKind.i64 gg] 37 (0, 0)) by rw [← hW]; exact heap_alloc2_old w _ _)
  clear hW hm
  obtain ⟨L, cp, hv, hFL, _⟩ := H.out.at hk
  subst hv
  have hrd := (atW H.out hA.out).rdAt
  refine (waits_ok hrd gs gg).mono ?_
  rintro e w1 ⟨rfl, hf1⟩
  rw [HW.out]
  have F1 := hid hf1
  have FA := hid (hA.out.trans hf1)
  have T1 := hid (hf1.heapAt hT.out (fun x => x))
  have G1 := hid (hf1.heapAt hG.out (fun x => x))
  obtain ⟨⟨b0, b1, b2, b3, b4⟩, z0, z1, z2, z3, z4⟩ := blk5 T1.out
  have RD := hid (hrd.fr hf1)
  clear hf1 hrd
  have C1 := hid (atW H.out FA.out)
  obtain ⟨_, _, e0, _, c0, c1, c2, c3, c4, hfz⟩ := C1.out.at hk
  cases e0
  have HFZ := hid hfz
  have hlk := lt_of_get hk
  have HK := hid hk
  have O1 := hid (C1.out.own.each m (List.mem_of_getElem? hk))
  clear hk hfz
  obtain ⟨A1, n1', e1, _, hm1, _⟩ := O1.out.vals.read (by decide) (ints_len _)
  obtain ⟨A2, n2', e2, _, hm2, _⟩ := O1.out.snd.read (by decide) (wts_len _)
  obtain ⟨A3, n3', e3, _, hm3, _⟩ := O1.out.rcv.read (by decide) (wts_len _)
  rw [hcl] at c4
  rw [hr] at e3
  rw [e3] at c3
  rw [e1] at c1
  have E2 := hid e2
  have hb' : decide ((m.ch.vals.length : Int) < m.ch.cap) = false := by simp; omega
  have hn1 : m.ch.vals.length ≤ 2 ^ 63 - 1 := by rcases O1.out.vals.form (by decide) (ints_len _) with ⟨_, h0, _⟩ | ⟨_, _, _, _, _, h1, h2, _⟩; (omega); (exact Nat.le_trans h1 h2)
  clear e1 e3 e2 hcl hr hm1 hm2 hm3
  go_wp2_with (first
    | (go_at_call 54; refine (at_in RD.out k hlk).mono ?_; rintro e w2 ⟨rfl, rfl⟩; simp only [tup2, Nat.zero_add]))
  go_quiet (fail)
  have FQ := hid ((Fr.refl (S := E0) (w := w1)).drewN nq)
  generalize w1.drewN nq = W at FQ ⊢
  have FA2 := hid (FA.out.trans FQ.out)
  have T2 := hid (FQ.out.heapAt T1.out (fun x => x))
  have G2 := hid (FQ.out.heapAt G1.out (fun x => x))
  have C2 := hid (C1.out.fr FQ.out (fun _ _ x => x))
  have O2 := hid (C2.out.own.each m (List.mem_of_getElem? HK.out))
  clear b0 b1 b2 b3 b4 z0 z1 z2 z3 z4 c0 c1 c2 c3 c4
  obtain ⟨_, _, e0, _, c0, c1, c2, c3, c4, hfz⟩ := C2.out.at HK.out
  cases e0
  obtain ⟨i0, hi0, hz0, hz1, hz2⟩ := info_parts info114
  rw [E2.out] at c2
  have hf1 := hfz (k * 5 + 2)
  obtain ⟨y0, y1, _, _⟩ := cell2 G2.out
  have CA := hid (C2.out.fr (Fr.refl (S := E0) |>.alloc (.cells #[.int .i64 gs, .int .i64 gg, .int .i64 0, .int .i64 v] 114)) (fun _ _ x => x))
  have OA := hid (CA.out.own.each m (List.mem_of_getElem? HK.out))
  have hown0 := hid (show World.ownsRow (W.alloc (.cells #[.int .i64 gs, .int .i64 gg, .int .i64 0, .int .i64 v] 114)) 0 114 4 (.slice A2 m.ch.snd.length n2') m.ch.snd.length (wts m.ch.snd) by rw [← E2.out]; exact OA.out.snd.own (by decide) (wts_len _))
  have hnL : (Value.slice A2 m.ch.snd.length n2').ownBlock ≠ some L := fun hx => C2.out.own.row.ne_type O2.out.snd (by decide) rfl (by rw [E2.out]; exact hx)
  have hnR : (Value.slice A2 m.ch.snd.length n2').ownBlock ≠ some (w.heap.size + 1) := fun hx => by have := H.out.lt _ (O2.out.snd.2 _ (by rw [E2.out]; exact hx)); omega
  have hLl : L < W.heap.size := C2.out.lt L hFL
  have hRl := heap_lt T2.out
  have hLw : L < w.heap.size := H.out.lt L hFL
  have hLR : ¬ L = w.heap.size + 1 := by omega
  have hLR' : ¬ w.heap.size + 1 = L := by omega
  have TA := hid ((Fr.refl (S := E0) |>.alloc (.cells #[.int .i64 gs, .int .i64 gg, .int .i64 0, .int .i64 v] 114)).heapAt T2.out (fun x => x))
  clear hfz c0 c1 c3 c4
  go_wp2_with fail
  go_region_law (refine step_append_lies _ (by rfl) (.tmp 85) (.tmp 89) 65 (by rfl) 0 114 i0 (.agg #[.int .i64 0, .int .i64 0, .int .i64 0, .int .i64 0]) 4 32 Try.underlying65 hi0 hz0 hz1 hz2 rfl (by decide) (.slice A2 m.ch.snd.length n2') m.ch.snd.length (wts m.ch.snd) (by rfl) hown0.out ⟨W.heap.size, 0, none⟩ 1 1 [.int .i64 gs, .int .i64 gg, .int .i64 0, .int .i64 v] (by rfl) (by rfl) (news1 _ _) (by simp [Value.oneCell']) (by decide) (by unfold maxLen; omega) (by omega) (Nat.zero_le _) (W.heap.size + 1) (by simp) ?_; intro gb cap w3 hown3 hgrow3 hat3 hlt3; have x1 : w3.cell? ⟨L, k * 5 + 2, none⟩ = some (.slice A2 m.ch.snd.length n2') := hgrow3.cell (cellA hLl c2) (fun e => hnL e.symm); have x2 : w3.frozen? ⟨L, k * 5 + 2, none⟩ = false := (by rw [hgrow3.frozen_far _ (Nat.lt_of_lt_of_le hLl (by simp)) (fun e => hnL e.symm)]; exact frozenA hLl hf1); have FG := hid (Fr.refl.grown (S := fun q => (Value.slice A2 m.ch.snd.length n2').ownBlock = some q) hgrow3 (fun q hq => .inl hq)); have T3 := hid (FG.out.heapAt TA.out hnR); have HN := hid (And.intro hown3 (And.intro hgrow3 (And.intro hat3 hlt3))); clear hown3 hgrow3 hat3 hlt3; obtain ⟨⟨b0, b1, b2, b3, b4⟩, z0, z1, z2, z3, z4⟩ := blk5 T3.out)
  all_goals
    go_wp2_with fail
    have T4 := hid ((heap_setCell_other w3 ⟨L, k * 5 + 2, none⟩ (w.heap.size + 1) (.slice (some ⟨gb, 0, none⟩) (m.ch.snd.length + 1) cap) hLR').trans T3.out)
    have ST := hid (appendS (m := m) (l' := m.ch.snd ++ [⟨gs, gg, 0, v⟩]) CA.out HK.out hFL (by rw [wts_app]; exact HN.out.1) (by rw [E2.out]; exact undrew HN.out.2.1) (by rw [E2.out]; simpa using HN.out.2.2.1) HN.out.2.2.2)
    have T5 := hid (set5_heap (w := w3.setCell ⟨L, k * 5 + 2, none⟩ (.slice (some ⟨gb, 0, none⟩) (m.ch.snd.length + 1) cap)) T4.out (.bool true) (.int .i64 0) (.bool false) (.int .i64 0) (.slice none 0 0))
    have S5 := hid (set5_fr (S := fun k => k = w.heap.size + 1) (w := w3.setCell ⟨L, k * 5 + 2, none⟩ (.slice (some ⟨gb, 0, none⟩) (m.ch.snd.length + 1) cap)) (B := w.heap.size + 1) rfl (.bool true) (.int .i64 0) (.bool false) (.int .i64 0) (.slice none 0 0))
    exact fin23 (m := { waits := true }) rfl rfl rfl T5.out ⟨_, rfl, RowF.nil, ST.out.then (FA2.out.trans (Fr.refl.alloc _)) H.out.lt S5.out (fun q hq => by subst hq; exact ⟨Nat.le_succ _, by simp; omega⟩)⟩
end Go.Proofs.Yteffmnohgnmanaa
