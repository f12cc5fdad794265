/- Recv, Wait, Close, Close2, Ops, Lives, Row, Args, Opens, Trap, SelB, Carry, Order, SelP, Nobody: merged by wip/gen/merge.py for the claim of ChooseSelects. -/
import Derived.Deep.RegionLaw
import Derived.BigRegion
import Derived.Test.YteffmnohgnmanaaRows
import Derived.ProofKit
import Derived.OpenShut
import Derived.JoinedCond
import Derived.Deep.Slices
import Derived.Deep.Grids
import Derived.ChangeSlices
import Derived.Test.YteffmnohgnmanaaS1ChooseSelects
/- (*Chans).Recv: a theorem for each way. Printed by wip/gen/recv.py. -/
namespace Go.Proofs.Yteffmnohgnmanaa
open Go.RowKit
set_option linter.unusedVariables false
attribute [local go_sem ↓] Go.wp_at_zero Go.wp_at_succ
theorem fin24 {a : Act} {W : World} {R : Nat} {Q : Ending → World → Prop} {m : Mv} {wv : Value} {err : Int} (hd : a.defers = []) (h8 : a.tmps.getD 6 undef = .pointer (some ⟨R, 0, none⟩)) (h9 : a.tmps.getD 7 undef = .int .i64 err)
    (hR : W.heap[R]? = some (.cells #[.bool m.waits, .int .i64 m.value, .bool m.ok, .int .i64 m.trap, wv] 32 (0, 0))) (hQ : Q (.returned (tup2 (m.val wv) (.int .i64 err))) W) : bodyPost Try.prog Try.f24 Q .ret a W := by
  obtain ⟨⟨k0, k1, k2, k3, k4⟩, _⟩ := blk5 hR
  have h8' : a.tmps[6]?.getD undef = .pointer (some ⟨R, 0, none⟩) := by simpa using h8
  have h9' : a.tmps[7]?.getD undef = .int .i64 err := by simpa using h9
  exact bodyPost_ret (v := tup2 (m.val wv) (.int .i64 err)) (by simp [results, Try.results24, go_sem, h8', h9', k0, k1, k2, k3, k4, tup2, Mv.val]) hd hQ
theorem wake_is {w : World} {F : Nat → Prop} {g : Nat} {l : List Ch} (h : IsCh w F g l) (x : Wt) (v : Int) (ok : Bool) (trap : Int) (hn : l.length ≤ 1024) (hfit : ∀ c ∈ l, c.Fit) :
    Calls Try.prog 55 #[.pointer (some ⟨g, 0, none⟩), x.val, .int .i64 v, .bool ok, .int .i64 trap] w (WakePost F g l x v ok trap w) := by
  obtain ⟨v0, ms, h1, h2⟩ := h
  subst h2
  exact wake_ok h1 x v ok trap (by rw [← chs_len]; exact hn) (fun m hm => hfit _ (List.mem_map.2 ⟨m, hm, rfl⟩))
theorem c4fr {w w' : World} {S : Nat → Prop} {B : Nat} {a b c d : Value} (h : w.cell? ⟨B, 0, none⟩ = some a ∧ w.cell? ⟨B, 1, none⟩ = some b ∧ w.cell? ⟨B, 2, none⟩ = some c ∧ w.cell? ⟨B, 3, none⟩ = some d) (hf : Fr S w w') (hB : ¬ S B) :
    w'.cell? ⟨B, 0, none⟩ = some a ∧ w'.cell? ⟨B, 1, none⟩ = some b ∧ w'.cell? ⟨B, 2, none⟩ = some c ∧ w'.cell? ⟨B, 3, none⟩ = some d :=
  ⟨hf.cell h.1 hB, hf.cell h.2.1 hB, hf.cell h.2.2.1 hB, hf.cell h.2.2.2 hB⟩
theorem cell4 {w : World} {B : Nat} {x0 x1 x2 x3 : Value} {t : TypeId} (h : w.heap[B]? = some (.cells #[x0, x1, x2, x3] t (0, 0))) :
    w.cell? ⟨B, 0, none⟩ = some x0 ∧ w.cell? ⟨B, 1, none⟩ = some x1 ∧ w.cell? ⟨B, 2, none⟩ = some x2 ∧ w.cell? ⟨B, 3, none⟩ = some x3 :=
  ⟨cell_of_row w _ 0 _ _ _ h, cell_of_row w _ 1 _ _ _ h, cell_of_row w _ 2 _ _ _ h, cell_of_row w _ 3 _ _ _ h⟩
set_option maxHeartbeats 4000000 in
theorem recv_waits {w : World} {F : Nat → Prop} {g : Nat} {v0 : Value} {ms : List CM} (h : Chs w F g v0 ms) (gs gg : Int) (hn : ms.length ≤ 1024) (hfit : ∀ m ∈ ms, m.ch.Fit) (hw : waitsL gs gg (chs ms) = true) (ch : Int) :
    Calls Try.prog 24 #[.pointer (some ⟨g, 0, none⟩), .int .i64 ch, .agg #[.int .i64 gs, .int .i64 gg]] w (MvPost F g w (chs ms) {} 111) := by
  have H := hid h
  have hm := h.made
  have hgl := h.lt g h.mine
  have HW := hid hw
  clear h hw
  go_enter Try.func24, Try.ntmps24
  go_wp2_with (go_at_call 53; refine (is_made (g := g) (by rw [World.cell?_alloc_past _ _ _ (by simp; omega), World.cell?_alloc_past _ _ _ hgl]; exact hm)).mono ?_; rintro e w1 ⟨rfl, rfl⟩)
  generalize hW : ((w.alloc (Obj.cells #[Value.int IntKind.i64 gs, Value.int IntKind.i64 gg] 37)).alloc _) = W
  have hA := hid (show Fr E0 w W by rw [← hW]; exact (Fr.refl.alloc _).alloc _)
  have hT := hid (show W.heap[w.heap.size + 1]? = some (.cells #[Value.bool false, Value.int IntKind.i64 0, Value.bool false, Value.int IntKind.i64 0, Value.slice none 0 0] 32 (0, 0)) by rw [← hW]; exact heap_alloc2_new w _ _)
  have hG := hid (show W.heap[w.heap.size]? = some (.cells #[Value.int IntKind.i64 gs, Value.int IntKind.i64 gg] 37 (0, 0)) by rw [← hW]; exact heap_alloc2_old w _ _)
  clear hW hm
  obtain ⟨A, cp, hv, hrd⟩ := (atW H.out hA.out).rd
  refine (waits_ok hrd gs gg).mono ?_
  rintro e w1 ⟨rfl, hf1⟩
  rw [HW.out]
  have F1 := hid hf1
  have FA := hid (hA.out.trans hf1)
  have T1 := hid (hf1.heapAt hT.out (fun x => x))
  have G1 := hid (hf1.heapAt hG.out (fun x => x))
  obtain ⟨⟨b0, b1, b2, b3, b4⟩, z0, z1, z2, z3, z4⟩ := blk5 T1.out
  have RD := hid (hrd.fr hf1)
  clear hf1 hrd
  go_wp2_with fail
  have T5 := hid (set5_heap (w := w1) T1.out (.bool false) (.int .i64 0) (.bool false) (.int .i64 0) (.slice none 0 0))
  have S5 := hid (set5_fr (S := fun k => k = w.heap.size + 1) (w := w1) (B := w.heap.size + 1) rfl (.bool false) (.int .i64 0) (.bool false) (.int .i64 0) (.slice none 0 0))
  exact fin24 (m := {}) rfl rfl rfl T5.out ⟨_, rfl, RowF.nil, step_same H.out (Nat.le_succ _) FA.out S5.out⟩
set_option maxHeartbeats 4000000 in
theorem recv_out {w : World} {F : Nat → Prop} {g : Nat} {v0 : Value} {ms : List CM} (h : Chs w F g v0 ms) (gs gg : Int) (hn : ms.length ≤ 1024) (hfit : ∀ m ∈ ms, m.ch.Fit) (hw : waitsL gs gg (chs ms) = false) (ch : Int) (hch : ch < 0 ∨ (ms.length : Int) < ch) :
    Calls Try.prog 24 #[.pointer (some ⟨g, 0, none⟩), .int .i64 ch, .agg #[.int .i64 gs, .int .i64 gg]] w (MvPost F g w (chs ms) { trap := 4 } 0) := by
  have H := hid h
  have hm := h.made
  have hgl := h.lt g h.mine
  have HW := hid hw
  clear h hw
  go_enter Try.func24, Try.ntmps24
  go_wp2_with (go_at_call 53; refine (is_made (g := g) (by rw [World.cell?_alloc_past _ _ _ (by simp; omega), World.cell?_alloc_past _ _ _ hgl]; exact hm)).mono ?_; rintro e w1 ⟨rfl, rfl⟩)
  generalize hW : ((w.alloc (Obj.cells #[Value.int IntKind.i64 gs, Value.int IntKind.i64 gg] 37)).alloc _) = W
  have hA := hid (show Fr E0 w W by rw [← hW]; exact (Fr.refl.alloc _).alloc _)
  have hT := hid (show W.heap[w.heap.size + 1]? = some (.cells #[Value.bool false, Value.int IntKind.i64 0, Value.bool false, Value.int IntKind.i64 0, Value.slice none 0 0] 32 (0, 0)) by rw [← hW]; exact heap_alloc2_new w _ _)
  have hG := hid (show W.heap[w.heap.size]? = some (.cells #[Value.int IntKind.i64 gs, Value.int IntKind.i64 gg] 37 (0, 0)) by rw [← hW]; exact heap_alloc2_old w _ _)
  clear hW hm
  obtain ⟨A, cp, hv, hrd⟩ := (atW H.out hA.out).rd
  refine (waits_ok hrd gs gg).mono ?_
  rintro e w1 ⟨rfl, hf1⟩
  rw [HW.out]
  have F1 := hid hf1
  have FA := hid (hA.out.trans hf1)
  have T1 := hid (hf1.heapAt hT.out (fun x => x))
  have G1 := hid (hf1.heapAt hG.out (fun x => x))
  obtain ⟨⟨b0, b1, b2, b3, b4⟩, z0, z1, z2, z3, z4⟩ := blk5 T1.out
  have RD := hid (hrd.fr hf1)
  clear hf1 hrd
  have HC := hid hch; clear hch
  go_wp2_with (go_at_call 54; refine (at_out RD.out ch HC.out).mono ?_; rintro e w2 ⟨rfl, rfl⟩; simp only [tup2])
  have T5 := hid (set5_heap (w := w1) T1.out (.bool false) (.int .i64 0) (.bool false) (.int .i64 4) (.slice none 0 0))
  have S5 := hid (set5_fr (S := fun k => k = w.heap.size + 1) (w := w1) (B := w.heap.size + 1) rfl (.bool false) (.int .i64 0) (.bool false) (.int .i64 4) (.slice none 0 0))
  exact fin24 (m := { trap := 4 }) rfl rfl rfl T5.out ⟨_, rfl, RowF.nil, step_same H.out (Nat.le_succ _) FA.out S5.out⟩
set_option maxHeartbeats 4000000 in
theorem recv_nil {w : World} {F : Nat → Prop} {g : Nat} {v0 : Value} {ms : List CM} (h : Chs w F g v0 ms) (gs gg : Int) (hn : ms.length ≤ 1024) (hfit : ∀ m ∈ ms, m.ch.Fit) (hw : waitsL gs gg (chs ms) = false) :
    Calls Try.prog 24 #[.pointer (some ⟨g, 0, none⟩), .int .i64 0, .agg #[.int .i64 gs, .int .i64 gg]] w (MvPost F g w (chs ms) { waits := true } 0) := by
  have H := hid h
  have hm := h.made
  have hgl := h.lt g h.mine
  have HW := hid hw
  clear h hw
  go_enter Try.func24, Try.ntmps24
  go_wp2_with (go_at_call 53; refine (is_made (g := g) (by rw [World.cell?_alloc_past _ _ _ (by simp; omega), World.cell?_alloc_past _ _ _ hgl]; exact hm)).mono ?_; rintro e w1 ⟨rfl, rfl⟩)
  generalize hW : ((w.alloc (Obj.cells #[Value.int IntKind.i64 gs, Value.int IntKind.i64 gg] 37)).alloc _) = W
  have hA := hid (show Fr E0 w W by rw [← hW]; exact (Fr.refl.alloc _).alloc _)
  have hT := hid (show W.heap[w.heap.size + 1]? = some (.cells #[Value.bool false, Value.int IntKind.i64 0, Value.bool false, Value.int IntKind.i64 0, Value.slice none 0 0] 32 (0, 0)) by rw [← hW]; exact heap_alloc2_new w _ _)
  have hG := hid (show W.heap[w.heap.size]? = some (.cells #[Value.int IntKind.i64 gs, Value.int IntKind.i64 gg] 37 (0, 0)) by rw [← hW]; exact heap_alloc2_old w _ _)
  clear hW hm
  obtain ⟨A, cp, hv, hrd⟩ := (atW H.out hA.out).rd
  refine (waits_ok hrd gs gg).mono ?_
  rintro e w1 ⟨rfl, hf1⟩
  rw [HW.out]
  have F1 := hid hf1
  have FA := hid (hA.out.trans hf1)
  have T1 := hid (hf1.heapAt hT.out (fun x => x))
  have G1 := hid (hf1.heapAt hG.out (fun x => x))
  obtain ⟨⟨b0, b1, b2, b3, b4⟩, z0, z1, z2, z3, z4⟩ := blk5 T1.out
  have RD := hid (hrd.fr hf1)
  clear hf1 hrd
  go_wp2_with (go_at_call 54; refine (at_zero RD.out).mono ?_; rintro e w2 ⟨rfl, rfl⟩; simp only [tup2])
  have T5 := hid (set5_heap (w := w1) T1.out (.bool true) (.int .i64 0) (.bool false) (.int .i64 0) (.slice none 0 0))
  have S5 := hid (set5_fr (S := fun k => k = w.heap.size + 1) (w := w1) (B := w.heap.size + 1) rfl (.bool true) (.int .i64 0) (.bool false) (.int .i64 0) (.slice none 0 0))
  exact fin24 (m := { waits := true }) rfl rfl rfl T5.out ⟨_, rfl, RowF.nil, step_same H.out (Nat.le_succ _) FA.out S5.out⟩
set_option maxHeartbeats 4000000 in
theorem recv_closed {w : World} {F : Nat → Prop} {g : Nat} {v0 : Value} {ms : List CM} (h : Chs w F g v0 ms) (gs gg : Int) (hn : ms.length ≤ 1024) (hfit : ∀ m ∈ ms, m.ch.Fit) (hw : waitsL gs gg (chs ms) = false) {k : Nat} {m : CM} (hk : ms[k]? = some m) (hv : m.ch.vals = []) (hs : m.ch.snd = []) (hcl : m.ch.cl = true) :
    Calls Try.prog 24 #[.pointer (some ⟨g, 0, none⟩), .int .i64 ((k : Int) + 1), .agg #[.int .i64 gs, .int .i64 gg]] w (MvPost F g w (chs ms) {} 0) := by
  have H := hid h
  have hm := h.made
  have hgl := h.lt g h.mine
  have HW := hid hw
  clear h hw
  go_enter Try.func24, Try.ntmps24
  go_wp2_with (go_at_call 53; refine (is_made (g := g) (by rw [World.cell?_alloc_past _ _ _ (by simp; omega), World.cell?_alloc_past _ _ _ hgl]; exact hm)).mono ?_; rintro e w1 ⟨rfl, rfl⟩)
  generalize hW : ((w.alloc (Obj.cells #[Value.int IntKind.i64 gs, Value.int IntKind.i64 gg] 37)).alloc _) = W
  have hA := hid (show Fr E0 w W by rw [← hW]; exact (Fr.refl.alloc _).alloc _)
  have hT := hid (show W.heap[w.heap.size + 1]? = some (.cells #[Value.bool false, Value.int IntKind.i64 0, Value.bool false, Value.int IntKind.i64 0, Value.slice none 0 0] 32 (0, 0)) by rw [← hW]; exact heap_alloc2_new w _ _)
  have hG := hid (show W.heap[w.heap.size]? = some (.cells #[Value.int IntKind.i64 gs, Value.int IntKind.i64 gg] 37 (0, 0)) by rw [← hW]; exact heap_alloc2_old w _ _)
  clear hW hm
  obtain ⟨L, cp, hv, hFL, _⟩ := H.out.at hk
  subst hv
  have hrd := (atW H.out hA.out).rdAt
  refine (waits_ok hrd gs gg).mono ?_
  rintro e w1 ⟨rfl, hf1⟩
  rw [HW.out]
  have F1 := hid hf1
  have FA := hid (hA.out.trans hf1)
  have T1 := hid (hf1.heapAt hT.out (fun x => x))
  have G1 := hid (hf1.heapAt hG.out (fun x => x))
  obtain ⟨⟨b0, b1, b2, b3, b4⟩, z0, z1, z2, z3, z4⟩ := blk5 T1.out
  have RD := hid (hrd.fr hf1)
  clear hf1 hrd
  have C1 := hid (atW H.out FA.out)
  obtain ⟨_, _, e0, _, c0, c1, c2, c3, c4, hfz⟩ := C1.out.at hk
  cases e0
  have HFZ := hid hfz
  have hlk := lt_of_get hk
  have HK := hid hk
  have O1 := hid (C1.out.own.each m (List.mem_of_getElem? hk))
  clear hk hfz
  obtain ⟨A1, n1', e1, _, hm1, _⟩ := O1.out.vals.read (by decide) (ints_len _)
  obtain ⟨A2, n2', e2, _, hm2, _⟩ := O1.out.snd.read (by decide) (wts_len _)
  obtain ⟨A3, n3', e3, _, hm3, _⟩ := O1.out.rcv.read (by decide) (wts_len _)
  rw [hv] at e1
  rw [e1] at c1
  rw [hs] at e2
  rw [e2] at c2
  rw [hcl] at c4
  clear e1 e2 e3
  go_wp2_with (go_at_call 54; refine (at_in RD.out k hlk).mono ?_; rintro e w2 ⟨rfl, rfl⟩; simp only [tup2, Nat.zero_add])
  have T5 := hid (set5_heap (w := w1) T1.out (.bool false) (.int .i64 0) (.bool false) (.int .i64 0) (.slice none 0 0))
  have S5 := hid (set5_fr (S := fun k => k = w.heap.size + 1) (w := w1) (B := w.heap.size + 1) rfl (.bool false) (.int .i64 0) (.bool false) (.int .i64 0) (.slice none 0 0))
  exact fin24 (m := {}) rfl rfl rfl T5.out ⟨_, rfl, RowF.nil, step_same H.out (Nat.le_succ _) FA.out S5.out⟩
set_option maxHeartbeats 4000000 in
theorem recv_wakes {w : World} {F : Nat → Prop} {g : Nat} {v0 : Value} {ms : List CM} (h : Chs w F g v0 ms) (gs gg : Int) (hn : ms.length ≤ 1024) (hfit : ∀ m ∈ ms, m.ch.Fit) (hw : waitsL gs gg (chs ms) = false) {k : Nat} {m : CM} (hk : ms[k]? = some m) (hv : m.ch.vals = []) {x : Wt} {r : List Wt} (hs : m.ch.snd = x :: r) :
    Calls Try.prog 24 #[.pointer (some ⟨g, 0, none⟩), .int .i64 ((k : Int) + 1), .agg #[.int .i64 gs, .int .i64 gg]] w (MvPost F g w (leaveL x.s x.g (chs ms)) { value := x.v, ok := true, woken := [⟨x.s, x.g, x.c, 0, true, 0⟩] } 0) := by
  have H := hid h
  have hm := h.made
  have hgl := h.lt g h.mine
  have HW := hid hw
  clear h hw
  go_enter Try.func24, Try.ntmps24
  go_wp2_with (go_at_call 53; refine (is_made (g := g) (by rw [World.cell?_alloc_past _ _ _ (by simp; omega), World.cell?_alloc_past _ _ _ hgl]; exact hm)).mono ?_; rintro e w1 ⟨rfl, rfl⟩)
  generalize hW : ((w.alloc (Obj.cells #[Value.int IntKind.i64 gs, Value.int IntKind.i64 gg] 37)).alloc _) = W
  have hA := hid (show Fr E0 w W by rw [← hW]; exact (Fr.refl.alloc _).alloc _)
  have hT := hid (show W.heap[w.heap.size + 1]? = some (.cells #[Value.bool false, Value.int IntKind.i64 0, Value.bool false, Value.int IntKind.i64 0, Value.slice none 0 0] 32 (0, 0)) by rw [← hW]; exact heap_alloc2_new w _ _)
  have hG := hid (show W.heap[w.heap.size]? = some (.cells #[Value.int IntKind.i64 gs, Value.int IntKind.i64 gg] 37 (0, 0)) by rw [← hW]; exact heap_alloc2_old w _ _)
  clear hW hm
  obtain ⟨L, cp, hv, hFL, _⟩ := H.out.at hk
  subst hv
  have hrd := (atW H.out hA.out).rdAt
  refine (waits_ok hrd gs gg).mono ?_
  rintro e w1 ⟨rfl, hf1⟩
  rw [HW.out]
  have F1 := hid hf1
  have FA := hid (hA.out.trans hf1)
  have T1 := hid (hf1.heapAt hT.out (fun x => x))
  have G1 := hid (hf1.heapAt hG.out (fun x => x))
  obtain ⟨⟨b0, b1, b2, b3, b4⟩, z0, z1, z2, z3, z4⟩ := blk5 T1.out
  have RD := hid (hrd.fr hf1)
  clear hf1 hrd
  have C1 := hid (atW H.out FA.out)
  obtain ⟨_, _, e0, _, c0, c1, c2, c3, c4, hfz⟩ := C1.out.at hk
  cases e0
  have HFZ := hid hfz
  have hlk := lt_of_get hk
  have HK := hid hk
  have O1 := hid (C1.out.own.each m (List.mem_of_getElem? hk))
  clear hk hfz
  obtain ⟨A1, n1', e1, _, hm1, _⟩ := O1.out.vals.read (by decide) (ints_len _)
  obtain ⟨A2, n2', e2, _, hm2, _⟩ := O1.out.snd.read (by decide) (wts_len _)
  obtain ⟨A3, n3', e3, _, hm3, _⟩ := O1.out.rcv.read (by decide) (wts_len _)
  rw [hv] at e1
  rw [e1] at c1
  have hx : m.ch.snd[0]? = some x := by rw [hs]; rfl
  rcases O1.out.snd.form (by decide) (wts_len _) with ⟨_, h0, _⟩ | ⟨b3', p3, hv3, _, _, hn3, _, hr3, _⟩
  · rw [hs] at h0; simp at h0
  obtain ⟨d0, d1, d2, d3⟩ := hr3.wt hx
  simp only [Nat.zero_add, Nat.zero_mul] at d0 d1 d2 d3
  have hl3 : m.ch.snd.length = r.length + 1 := by rw [hs]; rfl
  rw [hl3] at hv3 hn3
  rw [hv3] at c2
  clear hr3 hs hx hv3 hl3 e1 e2 e3
  go_wp2_with (first
    | (go_at_call 54; refine (at_in RD.out k hlk).mono ?_; rintro e w2 ⟨rfl, rfl⟩; simp only [tup2, Nat.zero_add]))
  generalize hW : w1.alloc (Obj.cells #[Value.int IntKind.i64 x.s, Value.int IntKind.i64 x.g, Value.int IntKind.i64 x.c, Value.int IntKind.i64 x.v] 114) = W
  have FB := hid (show Fr E0 w1 W by rw [← hW]; exact Fr.refl.alloc _)
  have X1 := hid (show W.heap[w1.heap.size]? = some (.cells #[Value.int IntKind.i64 x.s, Value.int IntKind.i64 x.g, Value.int IntKind.i64 x.c, Value.int IntKind.i64 x.v] 114 (0, 0)) by rw [← hW]; exact heap_alloc_new w1 _)
  have C2 := hid ((C1.out.fr FB.out (fun _ _ x => x)).fr (Fr.refl (S := E0) |>.drew) (fun _ _ x => x))
  have TB := hid (FB.out.heapAt T1.out (fun x => x))
  have hBF : ¬ F w1.heap.size := fun hx => by have := H.out.lt _ hx; have := FA.out.size; omega
  have HBF := hid hBF
  have hR1 := heap_lt T1.out
  clear hW d0 d1 d2 d3 c0 c1 c2 c3 c4 b0 b1 b2 b3 b4 z0 z1 z2 z3 z4 hBF
  have X4 := hid (cell4 (w := W.drew) X1.out)
  go_region_held3 (fun w' => w'.cell? ⟨w1.heap.size, 0, none⟩ = some (.int .i64 x.s) ∧ w'.cell? ⟨w1.heap.size, 1, none⟩ = some (.int .i64 x.g) ∧ w'.cell? ⟨w1.heap.size, 2, none⟩ = some (.int .i64 x.c) ∧ w'.cell? ⟨w1.heap.size, 3, none⟩ = some (.int .i64 x.v))
    (first | (with_reducible exact X4.out) | (with_reducible exact hk2.out) | (with_reducible exact hk3.out) | exact hk4.out)
    (first
      | (go_at_call 55; refine (wake_ok C2.out x 0 true 0 hn hfit).mono ?_; rintro e w2 ⟨rfl, hl2, hf2⟩; simp only [Wk.val]; have hk2 := hid (c4fr (by assumption) hf2 HBF.out); have hk3 := hid (c4fr hk2.out (Fr.refl (S := E0) |>.alloc (.cells #[.int .i64 x.s, .int .i64 x.g, .int .i64 x.c, .int .i64 0, .bool true, .int .i64 0] 39)) (fun x => x)); have hk4 := hid (c4fr hk3.out (set5_fr (S := fun q => q = w.heap.size + 1) (B := w.heap.size + 1) rfl (.bool false) (.int .i64 x.v) (.bool true) (.int .i64 0) (.slice (some ⟨w2.heap.size, 0, none⟩) 1 1)) (fun h => by omega)); unfold set5 at hk4; have L2 := hid hl2; have F2 := hid hf2; have T2 := hid ((Fr.refl (S := E0) |>.alloc (.cells #[.int .i64 x.s, .int .i64 x.g, .int .i64 x.c, .int .i64 0, .bool true, .int .i64 0] 39)).heapAt (hf2.heapAt (w := W.drew) TB.out (fun hx => by have := H.out.lt _ hx; omega)) (fun x => x)); clear hl2 hf2; obtain ⟨⟨b0, b1, b2, b3, b4⟩, z0, z1, z2, z3, z4⟩ := blk5 T2.out))
  have hR2 := hid (rowNew w2 w (Nat.le_trans FA.out.size (Nat.le_trans FB.out.size F2.out.size)) [⟨x.s, x.g, x.c, 0, true, 0⟩] (show 1 ≤ maxLen by decide) _ rfl)
  have FC := hid (FA.out.e0 (S := F) |>.trans (FB.out.e0 |>.trans (Fr.refl.drew |>.trans F2.out)))
  have HNE : Hid (¬ w2.heap.size = w.heap.size + 1) := fun e => by have h1 := hR1; have h2 : w1.heap.size ≤ W.heap.size := FB.out.size; have h3 : W.heap.size ≤ w2.heap.size := F2.out.size; omega
  go_wp2_with fail
  have T5 := hid (set5_heap (w := (w2.alloc (.cells #[.int .i64 x.s, .int .i64 x.g, .int .i64 x.c, .int .i64 0, .bool true, .int .i64 0] 39))) T2.out (.bool false) (.int .i64 x.v) (.bool true) (.int .i64 0) (.slice (some ⟨w2.heap.size, 0, none⟩) 1 1))
  have S5 := hid (set5_fr (S := fun k => k = w.heap.size + 1) (w := (w2.alloc (.cells #[.int .i64 x.s, .int .i64 x.g, .int .i64 x.c, .int .i64 0, .bool true, .int .i64 0] 39))) (B := w.heap.size + 1) rfl (.bool false) (.int .i64 x.v) (.bool true) (.int .i64 0) (.slice (some ⟨w2.heap.size, 0, none⟩) 1 1))
  exact fin24 (m := { value := x.v, ok := true, woken := [⟨x.s, x.g, x.c, 0, true, 0⟩] }) rfl rfl rfl T5.out ⟨_, rfl, (hR2.out.fr S5.out (fun q hq e => HNE.out (by simp [Value.ownBlock] at hq; omega))), ((L2.out.fr (Fr.refl.alloc _) (fun _ _ x => x)).fr S5.out (fun q hq e => by have := H.out.lt q hq; omega)).step (fun q hq => .inl hq) ((FC.out.trans (Fr.refl.alloc _)).trans' S5.out (fun i hi => .inr (by omega)))⟩
set_option maxHeartbeats 4000000 in
theorem recv_queues {w : World} {F : Nat → Prop} {g : Nat} {v0 : Value} {ms : List CM} (h : Chs w F g v0 ms) (gs gg : Int) (hn : ms.length ≤ 1024) (hfit : ∀ m ∈ ms, m.ch.Fit) (hw : waitsL gs gg (chs ms) = false) {k : Nat} {m : CM} (hk : ms[k]? = some m) (hv : m.ch.vals = []) (hs : m.ch.snd = []) (hcl : m.ch.cl = false) (hroom : (m.ch.rcv.length + 1) * 32 ≤ 140737488355328) :
    Calls Try.prog 24 #[.pointer (some ⟨g, 0, none⟩), .int .i64 ((k : Int) + 1), .agg #[.int .i64 gs, .int .i64 gg]] w (MvPost F g w ((chs ms).set k { m.ch with rcv := m.ch.rcv ++ [⟨gs, gg, 0, 0⟩] }) { waits := true } 0) := by
  have H := hid h
  have hm := h.made
  have hgl := h.lt g h.mine
  have HW := hid hw
  clear h hw
  go_enter Try.func24, Try.ntmps24
  go_wp2_with (go_at_call 53; refine (is_made (g := g) (by rw [World.cell?_alloc_past _ _ _ (by simp; omega), World.cell?_alloc_past _ _ _ hgl]; exact hm)).mono ?_; rintro e w1 ⟨rfl, rfl⟩)
  generalize hW : ((w.alloc (Obj.cells #[Value.int IntKind.i64 gs, Value.int IntKind.i64 gg] 37)).alloc _) = W
  have hA := hid (show Fr E0 w W by rw [← hW]; exact (Fr.refl.alloc _).alloc _)
  have hT := hid (show W.heap[w.heap.size + 1]? = some (.cells #[Value.bool false, Value.int IntKind.i64 0, Value.bool false, Value.int IntKind.i64 0, Value.slice none 0 0] 32 (0, 0)) by rw [← hW]; exact heap_alloc2_new w _ _)
  have hG := hid (show W.heap[w.heap.size]? = some (.cells #[Value.int IntKind.i64 gs, Value.int IntKind.i64 gg] 37 (0, 0)) by rw [← hW]; exact heap_alloc2_old w _ _)
  clear hW hm
  obtain ⟨L, cp, hv, hFL, _⟩ := H.out.at hk
  subst hv
  have hrd := (atW H.out hA.out).rdAt
  refine (waits_ok hrd gs gg).mono ?_
  rintro e w1 ⟨rfl, hf1⟩
  rw [HW.out]
  have F1 := hid hf1
  have FA := hid (hA.out.trans hf1)
  have T1 := hid (hf1.heapAt hT.out (fun x => x))
  have G1 := hid (hf1.heapAt hG.out (fun x => x))
  obtain ⟨⟨b0, b1, b2, b3, b4⟩, z0, z1, z2, z3, z4⟩ := blk5 T1.out
  have RD := hid (hrd.fr hf1)
  clear hf1 hrd
  have C1 := hid (atW H.out FA.out)
  obtain ⟨_, _, e0, _, c0, c1, c2, c3, c4, hfz⟩ := C1.out.at hk
  cases e0
  have HFZ := hid hfz
  have hlk := lt_of_get hk
  have HK := hid hk
  have O1 := hid (C1.out.own.each m (List.mem_of_getElem? hk))
  clear hk hfz
  obtain ⟨A1, n1', e1, _, hm1, _⟩ := O1.out.vals.read (by decide) (ints_len _)
  obtain ⟨A2, n2', e2, _, hm2, _⟩ := O1.out.snd.read (by decide) (wts_len _)
  obtain ⟨A3, n3', e3, _, hm3, _⟩ := O1.out.rcv.read (by decide) (wts_len _)
  rw [hv] at e1
  rw [e1] at c1
  rw [hs] at e2
  rw [e2] at c2
  rw [hcl] at c4
  rw [e3] at c3
  have E3 := hid e3
  clear e1 e2 e3 hcl hs hv
  obtain ⟨i0, hi0, hz0, hz1, hz2⟩ := info_parts info114
  have hf1 := HFZ.out (k * 5 + 3)
  obtain ⟨y0, y1, _, _⟩ := cell2 G1.out
  have CA := hid (C1.out.fr (Fr.refl (S := E0) |>.alloc (.cells #[.int .i64 gs, .int .i64 gg, .int .i64 0, .int .i64 0] 114)) (fun _ _ x => x))
  have OA := hid (CA.out.own.each m (List.mem_of_getElem? HK.out))
  have hown0 := hid (show World.ownsRow (w1.alloc (.cells #[.int .i64 gs, .int .i64 gg, .int .i64 0, .int .i64 0] 114)) 0 114 4 (.slice A3 m.ch.rcv.length n3') m.ch.rcv.length (wts m.ch.rcv) by rw [← E3.out]; exact OA.out.rcv.own (by decide) (wts_len _))
  have hnL : (Value.slice A3 m.ch.rcv.length n3').ownBlock ≠ some L := fun hx => C1.out.own.row.ne_type O1.out.rcv (by decide) rfl (by rw [E3.out]; exact hx)
  have hnR : (Value.slice A3 m.ch.rcv.length n3').ownBlock ≠ some (w.heap.size + 1) := fun hx => by have := H.out.lt _ (O1.out.rcv.2 _ (by rw [E3.out]; exact hx)); omega
  have hLl : L < w1.heap.size := C1.out.lt L hFL
  have hRl := heap_lt T1.out
  have hLw : L < w.heap.size := H.out.lt L hFL
  have hLR : ¬ L = w.heap.size + 1 := by omega
  have hLR' : ¬ w.heap.size + 1 = L := by omega
  have TA := hid ((Fr.refl (S := E0) |>.alloc (.cells #[.int .i64 gs, .int .i64 gg, .int .i64 0, .int .i64 0] 114)).heapAt T1.out (fun x => x))
  clear b0 b1 b2 b3 b4 z0 z1 z2 z3 z4
  go_wp2_with (first
    | (go_at_call 54; refine (at_in RD.out k hlk).mono ?_; rintro e w2 ⟨rfl, rfl⟩; simp only [tup2, Nat.zero_add]))
  go_region_law (refine step_append_lies _ (by rfl) (.tmp 117) (.tmp 120) 65 (by rfl) 0 114 i0 (.agg #[.int .i64 0, .int .i64 0, .int .i64 0, .int .i64 0]) 4 32 Try.underlying65 hi0 hz0 hz1 hz2 rfl (by decide) (.slice A3 m.ch.rcv.length n3') m.ch.rcv.length (wts m.ch.rcv) (by rfl) hown0.out ⟨w1.heap.size, 0, none⟩ 1 1 [.int .i64 gs, .int .i64 gg, .int .i64 0, .int .i64 0] (by rfl) (by rfl) (news1 _ _) (by simp [Value.oneCell']) (by decide) (by unfold maxLen; omega) (by omega) (Nat.zero_le _) (w1.heap.size + 1) (by simp) ?_; intro gb cap w3 hown3 hgrow3 hat3 hlt3; have x1 : w3.cell? ⟨L, k * 5 + 3, none⟩ = some (.slice A3 m.ch.rcv.length n3') := hgrow3.cell (cellA hLl c3) (fun e => hnL e.symm); have x2 : w3.frozen? ⟨L, k * 5 + 3, none⟩ = false := (by rw [hgrow3.frozen_far _ (Nat.lt_of_lt_of_le hLl (by simp)) (fun e => hnL e.symm)]; exact frozenA hLl hf1); have FG := hid (Fr.refl.grown (S := fun q => (Value.slice A3 m.ch.rcv.length n3').ownBlock = some q) hgrow3 (fun q hq => .inl hq)); have T3 := hid (FG.out.heapAt TA.out hnR); have HN := hid (And.intro hown3 (And.intro hgrow3 (And.intro hat3 hlt3))); clear hown3 hgrow3 hat3 hlt3; obtain ⟨⟨b0, b1, b2, b3, b4⟩, z0, z1, z2, z3, z4⟩ := blk5 T3.out)
  all_goals
    go_wp2_with fail
    have T4 := hid ((heap_setCell_other w3 ⟨L, k * 5 + 3, none⟩ (w.heap.size + 1) (.slice (some ⟨gb, 0, none⟩) (m.ch.rcv.length + 1) cap) hLR').trans T3.out)
    have ST := hid (appendR (m := m) (l' := m.ch.rcv ++ [⟨gs, gg, 0, 0⟩]) CA.out HK.out hFL (by rw [wts_app]; exact HN.out.1) (by rw [E3.out]; exact undrew HN.out.2.1) (by rw [E3.out]; simpa using HN.out.2.2.1) HN.out.2.2.2)
    have T5 := hid (set5_heap (w := w3.setCell ⟨L, k * 5 + 3, none⟩ (.slice (some ⟨gb, 0, none⟩) (m.ch.rcv.length + 1) cap)) T4.out (.bool true) (.int .i64 0) (.bool false) (.int .i64 0) (.slice none 0 0))
    have S5 := hid (set5_fr (S := fun k => k = w.heap.size + 1) (w := w3.setCell ⟨L, k * 5 + 3, none⟩ (.slice (some ⟨gb, 0, none⟩) (m.ch.rcv.length + 1) cap)) (B := w.heap.size + 1) rfl (.bool true) (.int .i64 0) (.bool false) (.int .i64 0) (.slice none 0 0))
    exact fin24 (m := { waits := true }) rfl rfl rfl T5.out ⟨_, rfl, RowF.nil, ST.out.then (FA.out.trans (Fr.refl.alloc _)) H.out.lt S5.out (fun q hq => by subst hq; exact ⟨Nat.le_succ _, by simp; omega⟩)⟩
set_option maxHeartbeats 4000000 in
theorem recv_value {w : World} {F : Nat → Prop} {g : Nat} {v0 : Value} {ms : List CM} (h : Chs w F g v0 ms) (gs gg : Int) (hn : ms.length ≤ 1024) (hfit : ∀ m ∈ ms, m.ch.Fit) (hw : waitsL gs gg (chs ms) = false) {k : Nat} {m : CM} (hk : ms[k]? = some m) {v : Int} {vs : List Int} (hv : m.ch.vals = v :: vs) (hs : m.ch.snd = []) :
    Calls Try.prog 24 #[.pointer (some ⟨g, 0, none⟩), .int .i64 ((k : Int) + 1), .agg #[.int .i64 gs, .int .i64 gg]] w (MvPost F g w ((chs ms).set k { m.ch with vals := vs }) { value := v, ok := true } 0) := by
  have H := hid h
  have hm := h.made
  have hgl := h.lt g h.mine
  have HW := hid hw
  clear h hw
  go_enter Try.func24, Try.ntmps24
  go_wp2_with (go_at_call 53; refine (is_made (g := g) (by rw [World.cell?_alloc_past _ _ _ (by simp; omega), World.cell?_alloc_past _ _ _ hgl]; exact hm)).mono ?_; rintro e w1 ⟨rfl, rfl⟩)
  generalize hW : ((w.alloc (Obj.cells #[Value.int IntKind.i64 gs, Value.int IntKind.i64 gg] 37)).alloc _) = W
  have hA := hid (show Fr E0 w W by rw [← hW]; exact (Fr.refl.alloc _).alloc _)
  have hT := hid (show W.heap[w.heap.size + 1]? = some (.cells #[Value.bool false, Value.int IntKind.i64 0, Value.bool false, Value.int IntKind.i64 0, Value.slice none 0 0] 32 (0, 0)) by rw [← hW]; exact heap_alloc2_new w _ _)
  have hG := hid (show W.heap[w.heap.size]? = some (.cells #[Value.int IntKind.i64 gs, Value.int IntKind.i64 gg] 37 (0, 0)) by rw [← hW]; exact heap_alloc2_old w _ _)
  clear hW hm
  obtain ⟨L, cp, hv, hFL, _⟩ := H.out.at hk
  subst hv
  have hrd := (atW H.out hA.out).rdAt
  refine (waits_ok hrd gs gg).mono ?_
  rintro e w1 ⟨rfl, hf1⟩
  rw [HW.out]
  have F1 := hid hf1
  have FA := hid (hA.out.trans hf1)
  have T1 := hid (hf1.heapAt hT.out (fun x => x))
  have G1 := hid (hf1.heapAt hG.out (fun x => x))
  obtain ⟨⟨b0, b1, b2, b3, b4⟩, z0, z1, z2, z3, z4⟩ := blk5 T1.out
  have RD := hid (hrd.fr hf1)
  clear hf1 hrd
  have C1 := hid (atW H.out FA.out)
  obtain ⟨_, _, e0, _, c0, c1, c2, c3, c4, hfz⟩ := C1.out.at hk
  cases e0
  have HFZ := hid hfz
  have hlk := lt_of_get hk
  have HK := hid hk
  have O1 := hid (C1.out.own.each m (List.mem_of_getElem? hk))
  clear hk hfz
  rcases O1.out.vals.form (by decide) (ints_len _) with ⟨_, h0, _⟩ | ⟨b1', p1, hv1, hFb, _, hn1, hm1, hr1, _⟩
  · rw [hv] at h0; simp at h0
  have hlv : m.ch.vals.length = vs.length + 1 := by rw [hv]; rfl
  rw [hlv] at hv1 hn1
  rw [hv1] at c1
  have d0 : w1.cell? ⟨b1', 0, none⟩ = some (.int .i64 v) := hr1 0 _ (by rw [hv]; rfl)
  have E1 := hid hv1
  have HVV := hid hv
  obtain ⟨A2, n2', e2, _, hm2, _⟩ := O1.out.snd.read (by decide) (wts_len _)
  rw [e2] at c2
  have E2 := hid e2
  have hm1' : p1 ≤ 2 ^ 63 - 1 := hm1
  have hm2' : m.ch.snd.length ≤ 2 ^ 63 - 1 := by rcases O1.out.snd.form (by decide) (wts_len _) with ⟨_, h0, _⟩ | ⟨_, _, _, _, _, h1, h2, _⟩; (omega); (exact Nat.le_trans h1 h2)
  have hLl : L < w1.heap.size := C1.out.lt L hFL
  clear hr1 hv hv1 e2 hm1 hm2
  go_wp2_with (first
    | (go_at_call 54; refine (at_in RD.out k hlk).mono ?_; rintro e w2 ⟨rfl, rfl⟩; simp only [tup2, Nat.zero_add]))
  generalize hW : w1.alloc (Obj.cells #[Value.bool false, Value.int IntKind.i64 v, Value.bool true, Value.int IntKind.i64 0, Value.slice none 0 0] 32) = W
  have FB := hid (show Fr E0 w1 W by rw [← hW]; exact Fr.refl.alloc _)
  have M1 := hid (show W.heap[w1.heap.size]? = some (.cells #[Value.bool false, Value.int IntKind.i64 v, Value.bool true, Value.int IntKind.i64 0, Value.slice none 0 0] 32 (0, 0)) by rw [← hW]; exact heap_alloc_new w1 _)
  have C2 := hid (C1.out.fr FB.out (fun _ _ x => x))
  have TB := hid (FB.out.heapAt T1.out (fun x => x))
  have hBF : ¬ F w1.heap.size := fun hx => by have := H.out.lt _ hx; have := FA.out.size; omega
  have hRF : ¬ F (w.heap.size + 1) := fun hx => by have := H.out.lt _ hx; omega
  have HBF := hid hBF
  have HRF := hid hRF
  have hR1 := heap_lt T1.out
  have O2 := hid (C2.out.own.each m (List.mem_of_getElem? HK.out))
  have RV := hid (show RowF W F 2 1 (.slice (some ⟨b1', 0, none⟩) (vs.length + 1) p1) (ints (v :: vs)) by rw [← E1.out, ← HVV.out]; exact O2.out.vals)
  have hbL : ¬ b1' = L := fun e => C2.out.own.row.ne_type RV.out (by decide) (g := L) rfl (by rw [← e]; rfl)
  have hbL' : ¬ L = b1' := fun e => hbL e.symm
  clear hW d0 c0 c1 c2 c3 c4 b0 b1 b2 b3 b4 z0 z1 z2 z3 z4 hBF hRF
  obtain ⟨_, _, e0, _, c0, c1, c2, c3, c4, hfz⟩ := C2.out.at HK.out
  cases e0
  rw [E1.out] at c1
  rw [E2.out] at c2
  refine (delete01 b1' p1 (vs.length + 1) v vs W F rfl RV.out).mono ?_
  rintro e w2 ⟨rfl, hr2, hf2⟩
  have x1 : w2.cell? ⟨L, k * 5 + 1, none⟩ = some (.slice (some ⟨b1', 0, none⟩) (vs.length + 1) p1) := hf2.cell c1 hbL'
  have x2 : w2.cell? ⟨L, k * 5 + 2, none⟩ = some (.slice A2 m.ch.snd.length n2') := hf2.cell c2 hbL'
  have x3 : w2.frozen? ⟨L, k * 5 + 1, none⟩ = false := (C2.out.own.row.fr hf2 (fun q hq hq' => by simp [Value.ownBlock] at hq; omega)).free rfl _
  have C3 := hid (C2.out.putV HK.out (w1 := w2) (F' := F) (l' := vs) (v' := .slice (some ⟨b1', 0, none⟩) vs.length p1) (hf2.mono (fun q hq => by rw [E1.out, hq]; rfl)) (fun q hq => hq) (fun q hq => Nat.lt_of_lt_of_le (C2.out.lt q hq) hf2.size) hr2 (fun q hq => .inl (by rw [E1.out]; exact hq)))
  have F3 := hid ((hf2.mono (T := F) (fun q hq => by rw [hq]; exact hFb)).setCell (p := ⟨L, k * 5 + 1, none⟩) (.slice (some ⟨b1', 0, none⟩) vs.length p1) (.inl hFL))
  have M3 := hid (F3.out.heapAt M1.out HBF.out)
  have T3 := hid (F3.out.heapAt TB.out HRF.out)
  clear hr2 hf2 c0 c1 c2 c3 c4 hfz
  rw [hs] at x2
  clear hs
  obtain ⟨⟨i0, i1, i2, i3, i4⟩, _⟩ := blk5 M3.out
  obtain ⟨⟨b0, b1, b2, b3, b4⟩, z0, z1, z2, z3, z4⟩ := blk5 T3.out
  go_wp2_with fail
  have T5 := hid (set5_heap (w := (w2.setCell ⟨L, k * 5 + 1, none⟩ (.slice (some ⟨b1', 0, none⟩) vs.length p1))) T3.out (.bool false) (.int .i64 v) (.bool true) (.int .i64 0) (.slice none 0 0))
  have S5 := hid (set5_fr (S := fun k => k = w.heap.size + 1) (w := (w2.setCell ⟨L, k * 5 + 1, none⟩ (.slice (some ⟨b1', 0, none⟩) vs.length p1))) (B := w.heap.size + 1) rfl (.bool false) (.int .i64 v) (.bool true) (.int .i64 0) (.slice none 0 0))
  exact fin24 (m := { value := v, ok := true }) rfl rfl rfl T5.out ⟨_, rfl, RowF.nil, ((show IsCh _ F g ((chs ms).set k { m.ch with vals := vs }) from ⟨_, _, C3.out, chs_set⟩).fr S5.out (fun q hq e => HRF.out (e ▸ hq))).step (fun q hq => .inl hq) ((FA.out.e0.trans (FB.out.e0.trans F3.out)).trans' S5.out (fun i hi => .inr (by omega)))⟩
set_option maxHeartbeats 4000000 in
theorem recv_value_wakes {w : World} {F : Nat → Prop} {g : Nat} {v0 : Value} {ms : List CM} (h : Chs w F g v0 ms) (gs gg : Int) (hn : ms.length ≤ 1024) (hfit : ∀ m ∈ ms, m.ch.Fit) (hw : waitsL gs gg (chs ms) = false) {k : Nat} {m : CM} (hk : ms[k]? = some m) {v : Int} {vs : List Int} (hv : m.ch.vals = v :: vs) {x : Wt} {r : List Wt} (hs : m.ch.snd = x :: r) (hcv : vs.length ≤ 1024) :
    Calls Try.prog 24 #[.pointer (some ⟨g, 0, none⟩), .int .i64 ((k : Int) + 1), .agg #[.int .i64 gs, .int .i64 gg]] w (MvPost F g w (leaveL x.s x.g ((chs ms).set k { m.ch with vals := vs ++ [x.v] })) { value := v, ok := true, woken := [⟨x.s, x.g, x.c, 0, true, 0⟩] } 0) := by
  have H := hid h
  have hm := h.made
  have hgl := h.lt g h.mine
  have HW := hid hw
  clear h hw
  go_enter Try.func24, Try.ntmps24
  go_wp2_with (go_at_call 53; refine (is_made (g := g) (by rw [World.cell?_alloc_past _ _ _ (by simp; omega), World.cell?_alloc_past _ _ _ hgl]; exact hm)).mono ?_; rintro e w1 ⟨rfl, rfl⟩)
  generalize hW : ((w.alloc (Obj.cells #[Value.int IntKind.i64 gs, Value.int IntKind.i64 gg] 37)).alloc _) = W
  have hA := hid (show Fr E0 w W by rw [← hW]; exact (Fr.refl.alloc _).alloc _)
  have hT := hid (show W.heap[w.heap.size + 1]? = some (.cells #[Value.bool false, Value.int IntKind.i64 0, Value.bool false, Value.int IntKind.i64 0, Value.slice none 0 0] 32 (0, 0)) by rw [← hW]; exact heap_alloc2_new w _ _)
  have hG := hid (show W.heap[w.heap.size]? = some (.cells #[Value.int IntKind.i64 gs, Value.int IntKind.i64 gg] 37 (0, 0)) by rw [← hW]; exact heap_alloc2_old w _ _)
  clear hW hm
  obtain ⟨L, cp, hv, hFL, _⟩ := H.out.at hk
  subst hv
  have hrd := (atW H.out hA.out).rdAt
  refine (waits_ok hrd gs gg).mono ?_
  rintro e w1 ⟨rfl, hf1⟩
  rw [HW.out]
  have F1 := hid hf1
  have FA := hid (hA.out.trans hf1)
  have T1 := hid (hf1.heapAt hT.out (fun x => x))
  have G1 := hid (hf1.heapAt hG.out (fun x => x))
  obtain ⟨⟨b0, b1, b2, b3, b4⟩, z0, z1, z2, z3, z4⟩ := blk5 T1.out
  have RD := hid (hrd.fr hf1)
  clear hf1 hrd
  have C1 := hid (atW H.out FA.out)
  obtain ⟨_, _, e0, _, c0, c1, c2, c3, c4, hfz⟩ := C1.out.at hk
  cases e0
  have HFZ := hid hfz
  have hlk := lt_of_get hk
  have HK := hid hk
  have O1 := hid (C1.out.own.each m (List.mem_of_getElem? hk))
  clear hk hfz
  rcases O1.out.vals.form (by decide) (ints_len _) with ⟨_, h0, _⟩ | ⟨b1', p1, hv1, hFb, _, hn1, hm1, hr1, _⟩
  · rw [hv] at h0; simp at h0
  have hlv : m.ch.vals.length = vs.length + 1 := by rw [hv]; rfl
  rw [hlv] at hv1 hn1
  rw [hv1] at c1
  have d0 : w1.cell? ⟨b1', 0, none⟩ = some (.int .i64 v) := hr1 0 _ (by rw [hv]; rfl)
  have E1 := hid hv1
  have HVV := hid hv
  obtain ⟨A2, n2', e2, _, hm2, _⟩ := O1.out.snd.read (by decide) (wts_len _)
  rw [e2] at c2
  have E2 := hid e2
  have hm1' : p1 ≤ 2 ^ 63 - 1 := hm1
  have hm2' : m.ch.snd.length ≤ 2 ^ 63 - 1 := by rcases O1.out.snd.form (by decide) (wts_len _) with ⟨_, h0, _⟩ | ⟨_, _, _, _, _, h1, h2, _⟩; (omega); (exact Nat.le_trans h1 h2)
  have hLl : L < w1.heap.size := C1.out.lt L hFL
  clear hr1 hv hv1 e2 hm1 hm2
  go_wp2_with (first
    | (go_at_call 54; refine (at_in RD.out k hlk).mono ?_; rintro e w2 ⟨rfl, rfl⟩; simp only [tup2, Nat.zero_add]))
  generalize hW : w1.alloc (Obj.cells #[Value.bool false, Value.int IntKind.i64 v, Value.bool true, Value.int IntKind.i64 0, Value.slice none 0 0] 32) = W
  have FB := hid (show Fr E0 w1 W by rw [← hW]; exact Fr.refl.alloc _)
  have M1 := hid (show W.heap[w1.heap.size]? = some (.cells #[Value.bool false, Value.int IntKind.i64 v, Value.bool true, Value.int IntKind.i64 0, Value.slice none 0 0] 32 (0, 0)) by rw [← hW]; exact heap_alloc_new w1 _)
  have C2 := hid (C1.out.fr FB.out (fun _ _ x => x))
  have TB := hid (FB.out.heapAt T1.out (fun x => x))
  have hBF : ¬ F w1.heap.size := fun hx => by have := H.out.lt _ hx; have := FA.out.size; omega
  have hRF : ¬ F (w.heap.size + 1) := fun hx => by have := H.out.lt _ hx; omega
  have HBF := hid hBF
  have HRF := hid hRF
  have hR1 := heap_lt T1.out
  have O2 := hid (C2.out.own.each m (List.mem_of_getElem? HK.out))
  have RV := hid (show RowF W F 2 1 (.slice (some ⟨b1', 0, none⟩) (vs.length + 1) p1) (ints (v :: vs)) by rw [← E1.out, ← HVV.out]; exact O2.out.vals)
  have hbL : ¬ b1' = L := fun e => C2.out.own.row.ne_type RV.out (by decide) (g := L) rfl (by rw [← e]; rfl)
  have hbL' : ¬ L = b1' := fun e => hbL e.symm
  clear hW d0 c0 c1 c2 c3 c4 b0 b1 b2 b3 b4 z0 z1 z2 z3 z4 hBF hRF
  obtain ⟨_, _, e0, _, c0, c1, c2, c3, c4, hfz⟩ := C2.out.at HK.out
  cases e0
  rw [E1.out] at c1
  rw [E2.out] at c2
  refine (delete01 b1' p1 (vs.length + 1) v vs W F rfl RV.out).mono ?_
  rintro e w2 ⟨rfl, hr2, hf2⟩
  have x1 : w2.cell? ⟨L, k * 5 + 1, none⟩ = some (.slice (some ⟨b1', 0, none⟩) (vs.length + 1) p1) := hf2.cell c1 hbL'
  have x2 : w2.cell? ⟨L, k * 5 + 2, none⟩ = some (.slice A2 m.ch.snd.length n2') := hf2.cell c2 hbL'
  have x3 : w2.frozen? ⟨L, k * 5 + 1, none⟩ = false := (C2.out.own.row.fr hf2 (fun q hq hq' => by simp [Value.ownBlock] at hq; omega)).free rfl _
  have C3 := hid (C2.out.putV HK.out (w1 := w2) (F' := F) (l' := vs) (v' := .slice (some ⟨b1', 0, none⟩) vs.length p1) (hf2.mono (fun q hq => by rw [E1.out, hq]; rfl)) (fun q hq => hq) (fun q hq => Nat.lt_of_lt_of_le (C2.out.lt q hq) hf2.size) hr2 (fun q hq => .inl (by rw [E1.out]; exact hq)))
  have F3 := hid ((hf2.mono (T := F) (fun q hq => by rw [hq]; exact hFb)).setCell (p := ⟨L, k * 5 + 1, none⟩) (.slice (some ⟨b1', 0, none⟩) vs.length p1) (.inl hFL))
  have M3 := hid (F3.out.heapAt M1.out HBF.out)
  have T3 := hid (F3.out.heapAt TB.out HRF.out)
  clear hr2 hf2 c0 c1 c2 c3 c4 hfz
  have hx : m.ch.snd[0]? = some x := by rw [hs]; rfl
  have HK3 := hid (List.getElem?_set_self (lt_of_get HK.out) (l := ms) (a := m.setV (.slice (some ⟨b1', 0, none⟩) vs.length p1) vs))
  have O3 := hid (C3.out.own.each _ (List.mem_of_getElem? HK3.out))
  rcases O3.out.snd.form (by decide) (wts_len _) with ⟨_, h0, _⟩ | ⟨b3', p3, hv3, _, hb3l, hn3, _, hr3, _⟩
  · change m.ch.snd.length = 0 at h0; rw [hs] at h0; simp at h0
  obtain ⟨d0, d1, d2, d3⟩ := hr3.wt hx
  simp only [Nat.zero_add, Nat.zero_mul] at d0 d1 d2 d3
  have hl3 : m.ch.snd.length = r.length + 1 := by rw [hs]; rfl
  have e3 : (Value.slice A2 m.ch.snd.length n2') = .slice (some ⟨b3', 0, none⟩) (r.length + 1) p3 := by rw [← E2.out, ← hl3]; exact hv3
  change m.ch.snd.length ≤ p3 at hn3
  rw [hl3] at hn3
  rw [e3] at x2
  clear hr3 hx hv3 hl3 e3 hs
  go_wp2_with fail
  generalize hW4 : (w2.setCell ⟨L, k * 5 + 1, none⟩ (.slice (some ⟨b1', 0, none⟩) vs.length p1)).alloc (Obj.cells #[Value.int IntKind.i64 x.s, Value.int IntKind.i64 x.g, Value.int IntKind.i64 x.c, Value.int IntKind.i64 x.v] 114) = W4
  have FD := hid (show Fr E0 (w2.setCell ⟨L, k * 5 + 1, none⟩ (.slice (some ⟨b1', 0, none⟩) vs.length p1)) W4 by rw [← hW4]; exact Fr.refl.alloc _)
  have X4 := hid (show W4.heap[w2.heap.size]? = some (.cells #[.int .i64 x.s, .int .i64 x.g, .int .i64 x.c, .int .i64 x.v] 114 (0, 0)) by rw [← hW4]; have := heap_alloc_new (w2.setCell ⟨L, k * 5 + 1, none⟩ (.slice (some ⟨b1', 0, none⟩) vs.length p1)) (Obj.cells #[Value.int IntKind.i64 x.s, Value.int IntKind.i64 x.g, Value.int IntKind.i64 x.c, Value.int IntKind.i64 x.v] 114); simpa using this)
  have C4 := hid (C3.out.fr FD.out (fun _ _ x => x))
  have M4 := hid (FD.out.heapAt M3.out (fun x => x))
  have T4 := hid (FD.out.heapAt T3.out (fun x => x))
  have hw2 : W.heap.size ≤ w2.heap.size := by have := F3.out.size; simpa using this
  have hww : w.heap.size ≤ w2.heap.size := Nat.le_trans FA.out.size (Nat.le_trans FB.out.size hw2)
  have hXF : Hid (¬ F w2.heap.size) := fun hx => by have := H.out.lt _ hx; omega
  clear hW4 x1 x2 x3 d0 d1 d2 d3
  obtain ⟨L', cp', e0, _, c0, c1, c2, c3, c4, hfz⟩ := C4.out.at HK3.out
  have ea : L = L' := by injection e0 with ea; injection ea with ea; injection ea with ea
  subst ea
  clear e0
  change W4.cell? ⟨L, k * 5 + 1, none⟩ = some (.slice (some ⟨b1', 0, none⟩) vs.length p1) at c1
  obtain ⟨y0, y1, y2, y3⟩ := cell4 X4.out
  have hfz1 := hfz (k * 5 + 1)
  obtain ⟨j0, hi0, hz0, hz1, hz2⟩ := info_parts info2'
  have CA := hid (C4.out.fr (Fr.refl (S := E0) |>.alloc (.cells #[.int .i64 x.v] 2)) (fun _ _ x => x))
  have OA := hid (CA.out.own.each _ (List.mem_of_getElem? HK3.out))
  have hown0 := hid (show World.ownsRow (W4.alloc (.cells #[.int .i64 x.v] 2)) 0 2 1 (.slice (some ⟨b1', 0, none⟩) vs.length p1) vs.length (ints vs) from OA.out.vals.own (by decide) (ints_len _))
  have hnL : (Value.slice (some ⟨b1', 0, none⟩) vs.length p1).ownBlock ≠ some L := fun hx => hbL (by simpa [Value.ownBlock] using hx)
  have hL4 : L < W4.heap.size := C4.out.lt L hFL
  have hcv' : vs.length ≤ 2 ^ 63 - 1 := by omega
  clear c0 c2 c3 c4 hfz
  go_region_law (refine step_append_lies _ (by rfl) (.tmp 74) (.tmp 77) 22 (by rfl) 0 2 j0 (.int .i64 0) 1 8 Try.underlying22 hi0 hz0 hz1 hz2 rfl (by decide) (.slice (some ⟨b1', 0, none⟩) vs.length p1) vs.length (ints vs) (by rfl) hown0.out ⟨W4.heap.size, 0, none⟩ 1 1 [.int .i64 x.v] (by rfl) (by rfl) (news1 _ _) (by simp [Value.oneCell']) (by decide) (by unfold maxLen; omega) (by omega) (Nat.zero_le _) (W4.heap.size + 1) (by simp) ?_; intro gb cap w5 hown3 hgrow3 hat3 hlt3; have x1 : w5.cell? ⟨L, k * 5 + 1, none⟩ = some (.slice (some ⟨b1', 0, none⟩) vs.length p1) := hgrow3.cell (cellA hL4 c1) (fun e => hnL e.symm); have x2 : w5.frozen? ⟨L, k * 5 + 1, none⟩ = false := (by rw [hgrow3.frozen_far _ (Nat.lt_of_lt_of_le hL4 (by simp)) (fun e => hnL e.symm)]; exact frozenA hL4 hfz1); have HN := hid (And.intro hown3 (And.intro hgrow3 (And.intro hat3 hlt3))); clear hown3 hgrow3 hat3 hlt3)
  all_goals
    have ST := hid (appendV (m := m.setV (.slice (some ⟨b1', 0, none⟩) vs.length p1) vs) (l' := vs ++ [x.v]) CA.out HK3.out hFL (by rw [ints_app]; exact HN.out.1) (undrew HN.out.2.1) (by rcases HN.out.2.2.1 with h | h; (exact .inl h); (exact .inr (by simp; exact h))) HN.out.2.2.2)
    have hl2 : Hid ((chs (ms.set k (m.setV (.slice (some ⟨b1', 0, none⟩) vs.length p1) vs))).set k { (m.setV (.slice (some ⟨b1', 0, none⟩) vs.length p1) vs).ch with vals := vs ++ [x.v] } = (chs ms).set k { m.ch with vals := vs ++ [x.v] }) := by show _ = _; rw [chs_set, List.set_set]; rfl
    obtain ⟨F', IC, hF', FF⟩ := ST.out
    rw [hl2.out] at IC
    have HIC := hid IC
    have HF' := hid hF'
    have HFF := hid FF
    clear IC hF' FF
    have M6 := hid (HFF.out.heapAt (w := W4.alloc (.cells #[.int .i64 x.v] 2)) ((Fr.refl (S := E0) |>.alloc (.cells #[.int .i64 x.v] 2)).heapAt M4.out (fun x => x)) HBF.out)
    have T6 := hid (HFF.out.heapAt (w := W4.alloc (.cells #[.int .i64 x.v] 2)) ((Fr.refl (S := E0) |>.alloc (.cells #[.int .i64 x.v] 2)).heapAt T4.out (fun x => x)) HRF.out)
    have X6 := hid (HFF.out.heapAt (w := W4.alloc (.cells #[.int .i64 x.v] 2)) ((Fr.refl (S := E0) |>.alloc (.cells #[.int .i64 x.v] 2)).heapAt X4.out (fun x => x)) hXF.out)
    clear x1 x2 c1 y0 y1 y2 y3 hfz1
    generalize hW6 : w5.setCell ⟨L, k * 5 + 1, none⟩ (.slice (some ⟨gb, 0, none⟩) (vs.length + 1) cap) = W6 at *
    clear hW6
    obtain ⟨y0, y1, y2, y3⟩ := cell4 X6.out
    have hmm4 := heap_lt M4.out
    have hrr4 := heap_lt T4.out
    have hMF' : Hid (¬ F' w1.heap.size) := fun hx => by rcases HF'.out _ hx with h1 | h1; (exact HBF.out h1); (simp at h1; omega)
    have hRF' : Hid (¬ F' (w.heap.size + 1)) := fun hx => by rcases HF'.out _ hx with h1 | h1; (exact HRF.out h1); (simp at h1; omega)
    have hlen : ((chs ms).set k { m.ch with vals := vs ++ [x.v] }).length ≤ 1024 := by rw [List.length_set, chs_len]; exact hn
    have hfit2 : ∀ c ∈ (chs ms).set k { m.ch with vals := vs ++ [x.v] }, c.Fit := by
      intro c hc
      rcases List.mem_or_eq_of_mem_set hc with hc | rfl
      · obtain ⟨q, hq, rfl⟩ := List.mem_map.1 hc; exact hfit q hq
      · obtain ⟨_, f2, f3⟩ := hfit m (List.mem_of_getElem? HK.out)
        exact ⟨by simp; omega, f2, f3⟩
    clear hmm4 hrr4
    go_wp2_with (go_at_call 55; refine (wake_is HIC.out x 0 true 0 hlen hfit2).mono ?_; rintro e w7 ⟨rfl, hl7, hf7⟩; simp only [Wk.val]; have L7 := hid hl7; have F7 := hid hf7; have A7 := hid ((Fr.refl (S := E0) (w := w7)).alloc (.cells #[.int .i64 x.s, .int .i64 x.g, .int .i64 x.c, .int .i64 0, .bool true, .int .i64 0] 39)); have M7 := hid (A7.out.heapAt (hf7.heapAt M6.out hMF'.out) (fun x => x)); have T7 := hid (A7.out.heapAt (hf7.heapAt T6.out hRF'.out) (fun x => x)); clear hl7 hf7; obtain ⟨⟨b0, b1, b2, b3, b4⟩, z0, z1, z2, z3, z4⟩ := blk5 T7.out; obtain ⟨⟨p0, p1', p2, p3', p4⟩, _, _, _, _, q4⟩ := blk5 M7.out; have hMR : ¬ w1.heap.size = w.heap.size + 1 := (by omega); have hMR' : ¬ w.heap.size + 1 = w1.heap.size := (by omega))
    have T8 := hid ((heap_setCell_other (w7.alloc (.cells #[.int .i64 x.s, .int .i64 x.g, .int .i64 x.c, .int .i64 0, .bool true, .int .i64 0] 39)) ⟨w1.heap.size, 4, none⟩ (w.heap.size + 1) (.slice (some ⟨w7.heap.size, 0, none⟩) 1 1) hMR').trans T7.out)
    have F8 := hid ((Fr.refl (S := fun q => q = w1.heap.size) (w := w7.alloc (.cells #[.int .i64 x.s, .int .i64 x.g, .int .i64 x.c, .int .i64 0, .bool true, .int .i64 0] 39))).setCell (p := ⟨w1.heap.size, 4, none⟩) (.slice (some ⟨w7.heap.size, 0, none⟩) 1 1) (.inl rfl))
    have L8 := hid ((L7.out.fr A7.out (fun _ _ x => x)).fr F8.out (fun q hq e => hMF'.out (e ▸ hq)))
    have hw4 : w.heap.size ≤ W4.heap.size := by have := FD.out.size; simp at this; omega
    have FY := hid (((FA.out.e0 (S := F)).trans (FB.out.e0.trans (F3.out.trans (FD.out.e0.trans ((Fr.refl.alloc _).trans HFF.out))))).trans' F7.out (fun q hq => by rcases HF'.out q hq with h | h; (exact .inl h); (exact .inr (by simp at h; omega))))
    have FZ := hid ((FY.out.trans A7.out.e0).trans' F8.out (fun q hq => .inr (by have := FA.out.size; omega)))
    have hR2 := hid (rowNew w7 w FY.out.size [⟨x.s, x.g, x.c, 0, true, 0⟩] (show 1 ≤ maxLen by decide) _ rfl)
    have hs7 : Hid (W4.heap.size ≤ w7.heap.size) := by have h1 := HFF.out.size; have h2 := F7.out.size; simp at h1; show _ ≤ _; omega
    have hm4 := heap_lt M4.out
    have hr4 := heap_lt T4.out
    have HR3 := hid ((hR2.out.fr F8.out (fun q hq e => by have := hs7.out; simp [Value.ownBlock] at hq; omega)))
    have T5 := hid (set5_heap (w := ((w7.alloc (.cells #[.int .i64 x.s, .int .i64 x.g, .int .i64 x.c, .int .i64 0, .bool true, .int .i64 0] 39)).setCell ⟨w1.heap.size, 4, none⟩ (.slice (some ⟨w7.heap.size, 0, none⟩) 1 1))) T8.out (.bool false) (.int .i64 v) (.bool true) (.int .i64 0) (.slice (some ⟨w7.heap.size, 0, none⟩) 1 1))
    have S5 := hid (set5_fr (S := fun k => k = w.heap.size + 1) (w := ((w7.alloc (.cells #[.int .i64 x.s, .int .i64 x.g, .int .i64 x.c, .int .i64 0, .bool true, .int .i64 0] 39)).setCell ⟨w1.heap.size, 4, none⟩ (.slice (some ⟨w7.heap.size, 0, none⟩) 1 1))) (B := w.heap.size + 1) rfl (.bool false) (.int .i64 v) (.bool true) (.int .i64 0) (.slice (some ⟨w7.heap.size, 0, none⟩) 1 1))
    exact fin24 (m := { value := v, ok := true, woken := [⟨x.s, x.g, x.c, 0, true, 0⟩] }) rfl rfl rfl T5.out ⟨_, rfl, (HR3.out.fr S5.out (fun q hq e => by have := hs7.out; simp [Value.ownBlock] at hq; omega)), (L8.out.fr S5.out (fun q hq e => hRF'.out (e ▸ hq))).step (fun q hq => by rcases HF'.out q hq with h | h; (exact .inl h); (exact .inr (by simp at h; omega))) (FZ.out.trans' S5.out (fun i hi => .inr (by omega)))⟩
end Go.Proofs.Yteffmnohgnmanaa
/- (*Chans).Wait: a theorem for each way. Printed by wip/gen/wait.py. -/
namespace Go.Proofs.Yteffmnohgnmanaa
open Go.RowKit
set_option linter.unusedVariables false
attribute [local go_sem ↓] Go.wp_at_zero Go.wp_at_succ
def WaitPost (F : Nat → Prop) (g : Nat) (w : World) (l' : List Ch) (t : Int) (e : Ending) (w' : World) : Prop := e = .returned (.int .i64 t) ∧ Step F g w l' w'
theorem wait_none (ch : Int) (x : Wt) (send : Bool) (w : World) : Calls Try.prog 59 #[.pointer none, .int .i64 ch, x.val, .bool send] w (Ret (.int .i64 4) E0 w) := by
  obtain ⟨s, gn, c, xv⟩ := x
  simp only [Wt.val]
  go_enter Try.func59, Try.ntmps59
  go_wp2_with (go_at_call 54; refine (at_none ch _).mono ?_; rintro e w1 ⟨rfl, rfl⟩; simp only [tup2])
  go_ret
  exact ⟨rfl, Fr.refl.alloc _⟩
theorem step_alloc {w W : World} {F : Nat → Prop} {g : Nat} {v : Value} {ms : List CM} (h : Chs w F g v ms) (h1 : Fr E0 w W) : Step F g w (chs ms) W := ⟨F, (h.fr h1 (fun _ _ x => x)).isCh, fun k hk => .inl hk, h1.e0⟩
theorem Step2.mono {w W w2 : World} {F : Nat → Prop} {g : Nat} {l : List Ch} (h : Step2 F g W l w2) (h1 : Fr E0 w W) : Step F g w l w2 := by
  obtain ⟨F', i1, i2, i3⟩ := h
  refine ⟨F', i1, fun q hq => ?_, (h1.e0 (S := F)).trans i3⟩
  have := h1.size
  rcases i2 q hq with hq | hq
  · exact .inl hq
  · exact .inr (by omega)
set_option maxHeartbeats 4000000 in
theorem wait_out {w : World} {F : Nat → Prop} {g : Nat} {v0 : Value} {ms : List CM} (h : Chs w F g v0 ms) (x : Wt) (ch : Int) (send : Bool) (hch : ch < 0 ∨ (ms.length : Int) < ch) :
    Calls Try.prog 59 #[.pointer (some ⟨g, 0, none⟩), .int .i64 ch, x.val, .bool send] w (WaitPost F g w (chs ms) 4) := by
  obtain ⟨s, gn, c, xv⟩ := x
  have H := hid h
  clear h
  simp only [Wt.val]
  go_enter Try.func59, Try.ntmps59
  go_wp2_with fail
  generalize hW : (w.alloc (Obj.cells #[Value.int IntKind.i64 s, Value.int IntKind.i64 gn, Value.int IntKind.i64 c, Value.int IntKind.i64 xv] 114)) = W
  have FA := hid (show Fr E0 w W by rw [← hW]; exact Fr.refl.alloc _)
  have G1 := hid (show W.heap[w.heap.size]? = some (.cells #[Value.int IntKind.i64 s, Value.int IntKind.i64 gn, Value.int IntKind.i64 c, Value.int IntKind.i64 xv] 114 (0, 0)) by rw [← hW]; exact heap_alloc_new w _)
  clear hW
  obtain ⟨A, cp, hv, hrd⟩ := (atW H.out FA.out).rd
  have RD := hid hrd
  have HC := hid hch; clear hch hrd
  refine (at_out RD.out ch HC.out).mono ?_
  rintro e w2 ⟨rfl, rfl⟩
  simp only [tup2]
  go_wp2_with fail
  go_ret
  exact ⟨rfl, step_alloc H.out FA.out⟩
set_option maxHeartbeats 4000000 in
theorem wait_nil {w : World} {F : Nat → Prop} {g : Nat} {v0 : Value} {ms : List CM} (h : Chs w F g v0 ms) (x : Wt) (send : Bool) :
    Calls Try.prog 59 #[.pointer (some ⟨g, 0, none⟩), .int .i64 0, x.val, .bool send] w (WaitPost F g w (chs ms) 0) := by
  obtain ⟨s, gn, c, xv⟩ := x
  have H := hid h
  clear h
  simp only [Wt.val]
  go_enter Try.func59, Try.ntmps59
  go_wp2_with fail
  generalize hW : (w.alloc (Obj.cells #[Value.int IntKind.i64 s, Value.int IntKind.i64 gn, Value.int IntKind.i64 c, Value.int IntKind.i64 xv] 114)) = W
  have FA := hid (show Fr E0 w W by rw [← hW]; exact Fr.refl.alloc _)
  have G1 := hid (show W.heap[w.heap.size]? = some (.cells #[Value.int IntKind.i64 s, Value.int IntKind.i64 gn, Value.int IntKind.i64 c, Value.int IntKind.i64 xv] 114 (0, 0)) by rw [← hW]; exact heap_alloc_new w _)
  clear hW
  obtain ⟨A, cp, hv, hrd⟩ := (atW H.out FA.out).rd
  have RD := hid hrd
  clear hrd
  refine (at_zero RD.out).mono ?_
  rintro e w2 ⟨rfl, rfl⟩
  simp only [tup2]
  go_wp2_with fail
  go_ret
  exact ⟨rfl, step_alloc H.out FA.out⟩
set_option maxHeartbeats 4000000 in
theorem wait_sends {w : World} {F : Nat → Prop} {g : Nat} {v0 : Value} {ms : List CM} (h : Chs w F g v0 ms) (x : Wt) {k : Nat} {m : CM} (hk : ms[k]? = some m) (hroom : (m.ch.snd.length + 1) * 32 ≤ 140737488355328) :
    Calls Try.prog 59 #[.pointer (some ⟨g, 0, none⟩), .int .i64 ((k : Int) + 1), x.val, .bool true] w (WaitPost F g w ((chs ms).set k { m.ch with snd := m.ch.snd ++ [x] }) 0) := by
  obtain ⟨s, gn, c, xv⟩ := x
  have H := hid h
  clear h
  simp only [Wt.val]
  go_enter Try.func59, Try.ntmps59
  go_wp2_with fail
  generalize hW : (w.alloc (Obj.cells #[Value.int IntKind.i64 s, Value.int IntKind.i64 gn, Value.int IntKind.i64 c, Value.int IntKind.i64 xv] 114)) = W
  have FA := hid (show Fr E0 w W by rw [← hW]; exact Fr.refl.alloc _)
  have G1 := hid (show W.heap[w.heap.size]? = some (.cells #[Value.int IntKind.i64 s, Value.int IntKind.i64 gn, Value.int IntKind.i64 c, Value.int IntKind.i64 xv] 114 (0, 0)) by rw [← hW]; exact heap_alloc_new w _)
  clear hW
  obtain ⟨L, cp, hv, hFL, _⟩ := H.out.at hk
  subst hv
  have RD := hid (atW H.out FA.out).rdAt
  have C1 := hid (atW H.out FA.out)
  obtain ⟨_, _, e0, _, c0, c1, c2, c3, c4, hfz⟩ := C1.out.at hk
  cases e0
  have HFZ := hid hfz
  have hlk := lt_of_get hk
  have HK := hid hk
  have O1 := hid (C1.out.own.each m (List.mem_of_getElem? hk))
  clear hk hfz
  refine (at_in RD.out k hlk).mono ?_
  rintro e w2 ⟨rfl, rfl⟩
  simp only [tup2, Nat.zero_add]
  obtain ⟨A2, n2', e2, _, hm2, _⟩ := O1.out.snd.read (by decide) (wts_len _)
  rw [e2] at c2
  have E2 := hid e2
  have hf1 := HFZ.out (k * 5 + 2)
  have hgw : ¬ F w.heap.size := fun hx => Nat.lt_irrefl _ (H.out.lt _ hx)
  obtain ⟨y0, y1, y2, y3⟩ := cell4 G1.out
  obtain ⟨i0, hi0, hz0, hz1, hz2⟩ := info_parts info114
  have CA := hid (C1.out.fr (Fr.refl (S := E0) |>.alloc (.cells #[.int .i64 s, .int .i64 gn, .int .i64 c, .int .i64 xv] 114)) (fun _ _ x => x))
  have OA := hid (CA.out.own.each m (List.mem_of_getElem? HK.out))
  have hown0 := hid (show World.ownsRow (World.alloc W (.cells #[.int .i64 s, .int .i64 gn, .int .i64 c, .int .i64 xv] 114)) 0 114 4 (.slice A2 m.ch.snd.length n2') m.ch.snd.length (wts m.ch.snd) by rw [← E2.out]; exact OA.out.snd.own (by decide) (wts_len _))
  have hnL : (Value.slice A2 m.ch.snd.length n2').ownBlock ≠ some L := fun hx => C1.out.own.row.ne_type O1.out.snd (by decide) rfl (by rw [E2.out]; exact hx)
  have hLl : L < (World.heap W).size := C1.out.lt L hFL
  clear e2 hgw
  go_wp2_with fail
  go_region_law (refine step_append_lies _ (by rfl) (.tmp 38) (.tmp 40) 65 (by rfl) 0 114 i0 (.agg #[.int .i64 0, .int .i64 0, .int .i64 0, .int .i64 0]) 4 32 Try.underlying65 hi0 hz0 hz1 hz2 rfl (by decide) (.slice A2 m.ch.snd.length n2') m.ch.snd.length (wts m.ch.snd) (by rfl) hown0.out ⟨(World.heap W).size, 0, none⟩ 1 1 [.int .i64 s, .int .i64 gn, .int .i64 c, .int .i64 xv] (by rfl) (by rfl) (news1 _ _) (by simp [Value.oneCell']) (by decide) (by unfold maxLen; omega) (by omega) (Nat.zero_le _) ((World.heap W).size + 1) (by simp) ?_; intro gb cap w3 hown3 hgrow3 hat3 hlt3; have x1 : w3.cell? ⟨L, k * 5 + 2, none⟩ = some (.slice A2 m.ch.snd.length n2') := hgrow3.cell (cellA hLl c2) (fun e => hnL e.symm); have x2 : w3.frozen? ⟨L, k * 5 + 2, none⟩ = false := (by rw [hgrow3.frozen_far _ (Nat.lt_of_lt_of_le hLl (by simp)) (fun e => hnL e.symm)]; exact frozenA hLl hf1); have HN := hid (And.intro hown3 (And.intro hgrow3 (And.intro hat3 hlt3))); clear hown3 hgrow3 hat3 hlt3)
  all_goals
    have ST := hid (appendS (m := m) (l' := m.ch.snd ++ [⟨s, gn, c, xv⟩]) CA.out HK.out hFL (by rw [wts_app]; exact HN.out.1) (by rw [E2.out]; exact undrew HN.out.2.1) (by rw [E2.out]; simpa using HN.out.2.2.1) HN.out.2.2.2)
    go_wp2_with fail
    go_ret
    exact ⟨rfl, ST.out.mono (FA.out.trans (Fr.refl.alloc _))⟩
set_option maxHeartbeats 4000000 in
theorem wait_recvs {w : World} {F : Nat → Prop} {g : Nat} {v0 : Value} {ms : List CM} (h : Chs w F g v0 ms) (x : Wt) {k : Nat} {m : CM} (hk : ms[k]? = some m) (hroom : (m.ch.rcv.length + 1) * 32 ≤ 140737488355328) :
    Calls Try.prog 59 #[.pointer (some ⟨g, 0, none⟩), .int .i64 ((k : Int) + 1), x.val, .bool false] w (WaitPost F g w ((chs ms).set k { m.ch with rcv := m.ch.rcv ++ [{ x with v := 0 }] }) 0) := by
  obtain ⟨s, gn, c, xv⟩ := x
  have H := hid h
  clear h
  simp only [Wt.val]
  go_enter Try.func59, Try.ntmps59
  go_wp2_with fail
  generalize hW : (w.alloc (Obj.cells #[Value.int IntKind.i64 s, Value.int IntKind.i64 gn, Value.int IntKind.i64 c, Value.int IntKind.i64 xv] 114)) = W
  have FA := hid (show Fr E0 w W by rw [← hW]; exact Fr.refl.alloc _)
  have G1 := hid (show W.heap[w.heap.size]? = some (.cells #[Value.int IntKind.i64 s, Value.int IntKind.i64 gn, Value.int IntKind.i64 c, Value.int IntKind.i64 xv] 114 (0, 0)) by rw [← hW]; exact heap_alloc_new w _)
  clear hW
  obtain ⟨L, cp, hv, hFL, _⟩ := H.out.at hk
  subst hv
  have RD := hid (atW H.out FA.out).rdAt
  have C1 := hid (atW H.out FA.out)
  obtain ⟨_, _, e0, _, c0, c1, c2, c3, c4, hfz⟩ := C1.out.at hk
  cases e0
  have HFZ := hid hfz
  have hlk := lt_of_get hk
  have HK := hid hk
  have O1 := hid (C1.out.own.each m (List.mem_of_getElem? hk))
  clear hk hfz
  refine (at_in RD.out k hlk).mono ?_
  rintro e w2 ⟨rfl, rfl⟩
  simp only [tup2, Nat.zero_add]
  obtain ⟨A2, n2', e2, _, hm2, _⟩ := O1.out.rcv.read (by decide) (wts_len _)
  rw [e2] at c3
  have E2 := hid e2
  have hf1 := HFZ.out (k * 5 + 3)
  have hgw : ¬ F w.heap.size := fun hx => Nat.lt_irrefl _ (H.out.lt _ hx)
  have HGW := hid hgw
  have hLw : L < w.heap.size := H.out.lt L hFL
  have G2 := hid (heap_setCell_same W w.heap.size 3 _ _ (.int .i64 0) G1.out)
  have FS := hid (Fr.refl (S := fun q => q = w.heap.size) (w := W) |>.setCell (p := ⟨w.heap.size, 3, none⟩) (.int .i64 0) (.inl rfl))
  obtain ⟨y0, y1, y2, y3⟩ := cell4 G1.out
  have y4 : W.frozen? ⟨w.heap.size, 3, none⟩ = false := frozen_of_row W _ 3 _ _ G1.out
  go_wp2_with fail
  generalize hW2 : World.setCell W ⟨w.heap.size, 3, none⟩ (.int .i64 0) = W2 at *
  have F2 := hid (FA.out.trans' FS.out (fun q hq => .inr (by omega)) (S := E0))
  have C2 := hid (H.out.fr F2.out (fun _ _ x => x))
  clear y0 y1 y2 y3 y4 c0 c1 c2 c3 c4
  obtain ⟨y0, y1, y2, y3⟩ := cell4 G2.out
  obtain ⟨L', cp', e0, _, c0, c1, c2, c3, c4, hfz⟩ := C2.out.at HK.out
  have ea : L = L' := by injection e0 with ea; injection ea with ea; injection ea with ea
  subst ea
  clear e0 hf1
  have hf1 := hfz (k * 5 + 3)
  rw [E2.out] at c3
  clear hfz
  obtain ⟨i0, hi0, hz0, hz1, hz2⟩ := info_parts info114
  have CA := hid (C2.out.fr (Fr.refl (S := E0) |>.alloc (.cells #[.int .i64 s, .int .i64 gn, .int .i64 c, .int .i64 0] 114)) (fun _ _ x => x))
  have OA := hid (CA.out.own.each m (List.mem_of_getElem? HK.out))
  have hown0 := hid (show World.ownsRow (World.alloc W2 (.cells #[.int .i64 s, .int .i64 gn, .int .i64 c, .int .i64 0] 114)) 0 114 4 (.slice A2 m.ch.rcv.length n2') m.ch.rcv.length (wts m.ch.rcv) by rw [← E2.out]; exact OA.out.rcv.own (by decide) (wts_len _))
  have hnL : (Value.slice A2 m.ch.rcv.length n2').ownBlock ≠ some L := fun hx => C1.out.own.row.ne_type O1.out.rcv (by decide) rfl (by rw [E2.out]; exact hx)
  have hLl : L < (World.heap W2).size := C2.out.lt L hFL
  clear e2 hgw
  go_wp2_with fail
  go_region_law (refine step_append_lies _ (by rfl) (.tmp 22) (.tmp 24) 65 (by rfl) 0 114 i0 (.agg #[.int .i64 0, .int .i64 0, .int .i64 0, .int .i64 0]) 4 32 Try.underlying65 hi0 hz0 hz1 hz2 rfl (by decide) (.slice A2 m.ch.rcv.length n2') m.ch.rcv.length (wts m.ch.rcv) (by rfl) hown0.out ⟨(World.heap W2).size, 0, none⟩ 1 1 [.int .i64 s, .int .i64 gn, .int .i64 c, .int .i64 0] (by rfl) (by rfl) (news1 _ _) (by simp [Value.oneCell']) (by decide) (by unfold maxLen; omega) (by omega) (Nat.zero_le _) ((World.heap W2).size + 1) (by simp) ?_; intro gb cap w3 hown3 hgrow3 hat3 hlt3; have x1 : w3.cell? ⟨L, k * 5 + 3, none⟩ = some (.slice A2 m.ch.rcv.length n2') := hgrow3.cell (cellA hLl c3) (fun e => hnL e.symm); have x2 : w3.frozen? ⟨L, k * 5 + 3, none⟩ = false := (by rw [hgrow3.frozen_far _ (Nat.lt_of_lt_of_le hLl (by simp)) (fun e => hnL e.symm)]; exact frozenA hLl hf1); have HN := hid (And.intro hown3 (And.intro hgrow3 (And.intro hat3 hlt3))); clear hown3 hgrow3 hat3 hlt3)
  all_goals
    have ST := hid (appendR (m := m) (l' := m.ch.rcv ++ [⟨s, gn, c, 0⟩]) CA.out HK.out hFL (by rw [wts_app]; exact HN.out.1) (by rw [E2.out]; exact undrew HN.out.2.1) (by rw [E2.out]; simpa using HN.out.2.2.1) HN.out.2.2.2)
    go_wp2_with fail
    go_ret
    exact ⟨rfl, ST.out.mono (F2.out.trans (Fr.refl.alloc _))⟩
end Go.Proofs.Yteffmnohgnmanaa
/- (*Chans).Close. -/
namespace Go.Proofs.Yteffmnohgnmanaa
open Go.RowKit
set_option linter.unusedVariables false
attribute [local go_sem ↓] Go.wp_at_zero Go.wp_at_succ
theorem wakeR_nil {l : List Ch} {k : Nat} {c : Ch} (acc : List Wk) (h : l[k]? = some c) (hr : c.rcv = []) : wakeR l k acc = (l, acc) := by
  rw [wakeR]; split
  · rfl
  · rename_i c' h'; rw [h] at h'; cases h'; split
    · rfl
    · rename_i h2; rw [hr] at h2; cases h2
theorem wakeR_cons {l : List Ch} {k : Nat} {c : Ch} {x : Wt} {r : List Wt} (acc : List Wk) (h : l[k]? = some c) (hr : c.rcv = x :: r) : wakeR l k acc = wakeR (leaveL x.s x.g l) k (acc ++ [⟨x.s, x.g, x.c, 0, false, 0⟩]) := by
  rw [wakeR]; split
  · rename_i h'; rw [h] at h'; cases h'
  · rename_i c' h'; rw [h] at h'; cases h'; split
    · rename_i h2; rw [hr] at h2; cases h2
    · rename_i y s h2; rw [hr] at h2; cases h2; rfl
theorem wakeS_nil {l : List Ch} {k : Nat} {c : Ch} (acc : List Wk) (h : l[k]? = some c) (hr : c.snd = []) : wakeS l k acc = (l, acc) := by
  rw [wakeS]; split
  · rfl
  · rename_i c' h'; rw [h] at h'; cases h'; split
    · rfl
    · rename_i h2; rw [hr] at h2; cases h2
theorem wakeS_cons {l : List Ch} {k : Nat} {c : Ch} {x : Wt} {r : List Wt} (acc : List Wk) (h : l[k]? = some c) (hr : c.snd = x :: r) : wakeS l k acc = wakeS (leaveL x.s x.g l) k (acc ++ [⟨x.s, x.g, x.c, 0, false, 6⟩]) := by
  rw [wakeS]; split
  · rename_i h'; rw [h] at h'; cases h'
  · rename_i c' h'; rw [h] at h'; cases h'; split
    · rename_i h2; rw [hr] at h2; cases h2
    · rename_i y s h2; rw [hr] at h2; cases h2; rfl
theorem fit_leave {gs gg : Int} {c : Ch} (h : c.Fit) : (leaveCh gs gg c).Fit := by
  obtain ⟨h1, h2, h3⟩ := h
  have a := wout_le gs gg c.snd
  have b := wout_le gs gg c.rcv
  refine ⟨h1, ?_, ?_⟩ <;> simp only [leaveCh] <;> omega
theorem fits_leave {gs gg : Int} {l : List Ch} (h : ∀ c ∈ l, c.Fit) : ∀ c ∈ leaveL gs gg l, c.Fit := by
  intro c hc
  obtain ⟨q, hq, rfl⟩ := List.mem_map.1 hc
  exact fit_leave (h q hq)
/-- What holds at the head of each of Close's rounds. -/
structure CloseRel (W0 wr : World) (F : Nat → Prop) (g : Nat) (v0 : Value) (k M R n0 : Nat) (l : List Ch) (acc : List Wk) (wv : Value) (c : Ch) : Prop where
  ch : IsChV wr F g v0 l
  len : l.length ≤ 1024
  fit : ∀ c ∈ l, c.Fit
  at' : l[k]? = some c
  room : acc.length + c.rcv.length + c.snd.length ≤ n0
  cell : wr.heap[M]? = some (.cells #[.bool false, .int .i64 0, .bool false, .int .i64 0, wv] 32 (0, 0))
  res : wr.heap[R]? = some (.cells #[.bool false, .int .i64 0, .bool false, .int .i64 0, .slice none 0 0] 32 (0, 0))
  row : RowF wr (New W0) 39 6 wv (wks acc)
  fr : Fr (fun q => F q ∨ q = M) W0 wr
theorem info39 : (Try.prog.info? 39).map (fun i => (i.zero, i.size, i.bytes)) = some (some (.agg #[.int .i64 0, .int .i64 0, .int .i64 0, .int .i64 0, .bool false, .int .i64 0]), 6, 48) := by kernel_rfl
def MvPost1 (F : Nat → Prop) (g : Nat) (w : World) (l' : List Ch) (m : Mv) (e : Ending) (w' : World) : Prop := ∃ wv, e = .returned (m.val wv) ∧ (∃ G : Nat → Prop, RowF w' G 39 6 wv (wks m.woken)) ∧ Step F g w l' w'
theorem fin30 {a : Act} {W : World} {R : Nat} {Q : Ending → World → Prop} {m : Mv} {wv : Value} (hd : a.defers = []) (h8 : a.tmps.getD 4 undef = .pointer (some ⟨R, 0, none⟩))
    (hR : W.heap[R]? = some (.cells #[.bool m.waits, .int .i64 m.value, .bool m.ok, .int .i64 m.trap, wv] 32 (0, 0))) (hQ : Q (.returned (m.val wv)) W) : bodyPost Try.prog Try.f30 Q .ret a W := by
  obtain ⟨⟨k0, k1, k2, k3, k4⟩, _⟩ := blk5 hR
  have h8' : a.tmps[4]?.getD undef = .pointer (some ⟨R, 0, none⟩) := by simpa using h8
  exact bodyPost_ret (v := m.val wv) (by simp [results, Try.results30, go_sem, h8', k0, k1, k2, k3, k4, Mv.val]) hd hQ
set_option maxHeartbeats 2000000 in
theorem close_out {w : World} {F : Nat → Prop} {g : Nat} {v0 : Value} {ms : List CM} (h : Chs w F g v0 ms) (ch : Int) (hch : ch < 0 ∨ (ms.length : Int) < ch) :
    Calls Try.prog 30 #[.pointer (some ⟨g, 0, none⟩), .int .i64 ch] w (MvPost1 F g w (chs ms) { trap := 4 }) := by
  have H := hid h
  have HC := hid hch
  clear h hch
  go_enter Try.func30, Try.ntmps30
  go_wp2_with fail
  generalize hW : (w.alloc (Obj.cells _ 32)) = W
  have FA := hid (show Fr E0 w W by rw [← hW]; exact Fr.refl.alloc _)
  have T1 := hid (show W.heap[w.heap.size]? = some (.cells #[Value.bool false, Value.int IntKind.i64 0, Value.bool false, Value.int IntKind.i64 0, Value.slice none 0 0] 32 (0, 0)) by rw [← hW]; exact heap_alloc_new w _)
  clear hW
  obtain ⟨A, cp, hv, hrd⟩ := (atW H.out FA.out).rd
  have RD := hid hrd
  clear hrd
  obtain ⟨⟨b0, b1, b2, b3, b4⟩, z0, z1, z2, z3, z4⟩ := blk5 T1.out
  refine (at_out RD.out ch HC.out).mono ?_
  rintro e w2 ⟨rfl, rfl⟩
  simp only [tup2]
  go_wp2_with fail
  have T5 := hid (set5_heap (w := W) T1.out (.bool false) (.int .i64 0) (.bool false) (.int .i64 4) (.slice none 0 0))
  have S5 := hid (set5_fr (S := fun k => k = w.heap.size) (w := W) (B := w.heap.size) rfl (.bool false) (.int .i64 0) (.bool false) (.int .i64 4) (.slice none 0 0))
  exact fin30 (m := { trap := 4 }) rfl rfl T5.out ⟨_, rfl, ⟨F, RowF.nil⟩, step_same H.out (Nat.le_refl _) FA.out S5.out⟩
set_option maxHeartbeats 2000000 in
theorem close_nil {w : World} {F : Nat → Prop} {g : Nat} {v0 : Value} {ms : List CM} (h : Chs w F g v0 ms) :
    Calls Try.prog 30 #[.pointer (some ⟨g, 0, none⟩), .int .i64 0] w (MvPost1 F g w (chs ms) { trap := 8 }) := by
  have H := hid h
  clear h
  go_enter Try.func30, Try.ntmps30
  go_wp2_with fail
  generalize hW : (w.alloc (Obj.cells _ 32)) = W
  have FA := hid (show Fr E0 w W by rw [← hW]; exact Fr.refl.alloc _)
  have T1 := hid (show W.heap[w.heap.size]? = some (.cells #[Value.bool false, Value.int IntKind.i64 0, Value.bool false, Value.int IntKind.i64 0, Value.slice none 0 0] 32 (0, 0)) by rw [← hW]; exact heap_alloc_new w _)
  clear hW
  obtain ⟨A, cp, hv, hrd⟩ := (atW H.out FA.out).rd
  have RD := hid hrd
  clear hrd
  obtain ⟨⟨b0, b1, b2, b3, b4⟩, z0, z1, z2, z3, z4⟩ := blk5 T1.out
  refine (at_zero RD.out).mono ?_
  rintro e w2 ⟨rfl, rfl⟩
  simp only [tup2]
  go_wp2_with fail
  have T5 := hid (set5_heap (w := W) T1.out (.bool false) (.int .i64 0) (.bool false) (.int .i64 8) (.slice none 0 0))
  have S5 := hid (set5_fr (S := fun k => k = w.heap.size) (w := W) (B := w.heap.size) rfl (.bool false) (.int .i64 0) (.bool false) (.int .i64 8) (.slice none 0 0))
  exact fin30 (m := { trap := 8 }) rfl rfl T5.out ⟨_, rfl, ⟨F, RowF.nil⟩, step_same H.out (Nat.le_refl _) FA.out S5.out⟩
set_option maxHeartbeats 2000000 in
theorem close_closed {w : World} {F : Nat → Prop} {g k : Nat} {v0 : Value} {ms : List CM} {m : CM} (h : Chs w F g v0 ms) (hk : ms[k]? = some m) (hcl : m.ch.cl = true) :
    Calls Try.prog 30 #[.pointer (some ⟨g, 0, none⟩), .int .i64 ((k : Int) + 1)] w (MvPost1 F g w (chs ms) { trap := 7 }) := by
  have H := hid h
  clear h
  go_enter Try.func30, Try.ntmps30
  go_wp2_with fail
  generalize hW : (w.alloc (Obj.cells _ 32)) = W
  have FA := hid (show Fr E0 w W by rw [← hW]; exact Fr.refl.alloc _)
  have T1 := hid (show W.heap[w.heap.size]? = some (.cells #[Value.bool false, Value.int IntKind.i64 0, Value.bool false, Value.int IntKind.i64 0, Value.slice none 0 0] 32 (0, 0)) by rw [← hW]; exact heap_alloc_new w _)
  clear hW
  obtain ⟨L, cp, hv, hFL, _⟩ := H.out.at hk
  subst hv
  have C1 := hid (atW H.out FA.out)
  have RD := hid C1.out.rdAt
  obtain ⟨_, _, e0, _, c0, c1, c2, c3, c4, hfz⟩ := C1.out.at hk
  cases e0
  rw [hcl] at c4
  have hlk := lt_of_get hk
  clear hk hfz hcl
  obtain ⟨⟨b0, b1, b2, b3, b4⟩, z0, z1, z2, z3, z4⟩ := blk5 T1.out
  refine (at_in RD.out k hlk).mono ?_
  rintro e w2 ⟨rfl, rfl⟩
  simp only [tup2, Nat.zero_add]
  go_wp2_with fail
  have T5 := hid (set5_heap (w := W) T1.out (.bool false) (.int .i64 0) (.bool false) (.int .i64 7) (.slice none 0 0))
  have S5 := hid (set5_fr (S := fun k => k = w.heap.size) (w := W) (B := w.heap.size) rfl (.bool false) (.int .i64 0) (.bool false) (.int .i64 7) (.slice none 0 0))
  exact fin30 (m := { trap := 7 }) rfl rfl T5.out ⟨_, rfl, ⟨F, RowF.nil⟩, step_same H.out (Nat.le_refl _) FA.out S5.out⟩
end Go.Proofs.Yteffmnohgnmanaa
/- (*Chans).Close of an open channel. Printed by wip/gen/close.py. -/
namespace Go.Proofs.Yteffmnohgnmanaa
open Go.RowKit
set_option linter.unusedVariables false
attribute [local go_sem ↓] Go.wp_at_zero Go.wp_at_succ
/-- How many wait there, off memory. -/
def rlen (w : World) (L k j : Nat) : Nat := match w.cell? ⟨L, k * 5 + j, none⟩ with | some (.slice _ n _) => n | _ => 0
theorem rlen_rcv {w : World} {F : Nat → Prop} {g L n cp k : Nat} {l : List Ch} {c : Ch} (h : IsChV w F g (.slice (some ⟨L, 0, none⟩) n cp) l) (hk : l[k]? = some c) : rlen w L k 3 = c.rcv.length := by
  obtain ⟨ms, h1, rfl⟩ := h
  unfold chs at hk
  rw [List.getElem?_map] at hk
  obtain ⟨m, hm, rfl⟩ := Option.map_eq_some_iff.1 hk
  obtain ⟨L', cp', e0, _, c0, c1, c2, c3, c4, hfz⟩ := h1.at hm
  have ea : L = L' := by injection e0 with ea; injection ea with ea; injection ea with ea
  subst ea
  obtain ⟨A, cc, e, _⟩ := (h1.own.each m (List.mem_of_getElem? hm)).rcv.read (by decide) (wts_len _)
  unfold rlen; rw [c3, e]
theorem rlen_snd {w : World} {F : Nat → Prop} {g L n cp k : Nat} {l : List Ch} {c : Ch} (h : IsChV w F g (.slice (some ⟨L, 0, none⟩) n cp) l) (hk : l[k]? = some c) : rlen w L k 2 = c.snd.length := by
  obtain ⟨ms, h1, rfl⟩ := h
  unfold chs at hk
  rw [List.getElem?_map] at hk
  obtain ⟨m, hm, rfl⟩ := Option.map_eq_some_iff.1 hk
  obtain ⟨L', cp', e0, _, c0, c1, c2, c3, c4, hfz⟩ := h1.at hm
  have ea : L = L' := by injection e0 with ea; injection ea with ea; injection ea with ea
  subst ea
  obtain ⟨A, cc, e, _⟩ := (h1.own.each m (List.mem_of_getElem? hm)).snd.read (by decide) (wts_len _)
  unfold rlen; rw [c2, e]
theorem rlen_lt {l : List Wt} {x : Wt} {r : List Wt} (h : l = x :: r) : (wout x.s x.g l).length < l.length := by subst h; exact wout_lt
theorem close_step_rcv {W0 wr w5 w7 : World} {F : Nat → Prop} {g k M R n0 gb nn cap : Nat} {v0 wv : Value} {l : List Ch} {acc : List Wk} {c : Ch} {x : Wt} {r : List Wt} (h : CloseRel W0 wr F g v0 k M R n0 l acc wv c) (hr : c.rcv = x :: r)
    (hF : ∀ q, F q → q < R) (hRM : R < M) (hM : M < W0.heap.size) (h5 : IsChV w5 F g v0 (leaveL x.s x.g l)) (f5 : Fr F wr.drew w5) (o : Obj)
    (hown : w7.ownsRow 0 39 6 (.slice (some ⟨gb, 0, none⟩) nn cap) nn (wks acc ++ Wk.cells ⟨x.s, x.g, x.c, 0, false, 0⟩)) (hgrow : (w5.alloc o).grownBy w7 wv.ownBlock) (hat : wv.ownBlock = some gb ∨ gb = (w5.alloc o).heap.size) :
    CloseRel W0 (w7.setCell ⟨M, 4, none⟩ (.slice (some ⟨gb, 0, none⟩) nn cap)) F g v0 k M R n0 (leaveL x.s x.g l) (acc ++ [⟨x.s, x.g, x.c, 0, false, 0⟩]) (.slice (some ⟨gb, 0, none⟩) nn cap) (leaveCh x.s x.g c) := by
  have hnF : ∀ q, W0.heap.size ≤ q → ¬ F q := fun q hq hf => by have := hF q hf; omega
  have row5 : RowF w5 (New W0) 39 6 wv (wks acc) := (h.row.fr (Fr.refl (S := E0) |>.drew) (fun _ _ x => x)).fr f5 (fun q hq hf => hnF q (h.row.2 q hq) hf)
  have hs0 : W0.heap.size ≤ w5.heap.size := Nat.le_trans h.fr.size f5.size
  have gfr : Fr (fun q => wv.ownBlock = some q) (w5.alloc o) w7 := Fr.refl.grown hgrow (fun q hq => .inl hq)
  have hMF : ¬ F M := fun hf => by have := hF M hf; omega
  have hRF : ¬ F R := fun hf => by have := hF R hf; omega
  have hMv : ¬ wv.ownBlock = some M := fun e => by have : W0.heap.size ≤ M := h.row.2 M e; omega
  have hRv : ¬ wv.ownBlock = some R := fun e => by have : W0.heap.size ≤ R := h.row.2 R e; omega
  have cell7 := gfr.heapAt ((Fr.refl (S := E0) |>.alloc o).heapAt (f5.heapAt h.cell hMF) (fun x => x)) hMv
  have res7 := gfr.heapAt ((Fr.refl (S := E0) |>.alloc o).heapAt (f5.heapAt h.res hRF) (fun x => x)) hRv
  have row7 : RowF w7 (New W0) 39 6 (.slice (some ⟨gb, 0, none⟩) nn cap) (wks (acc ++ [⟨x.s, x.g, x.c, 0, false, 0⟩])) := by
    refine ⟨⟨nn, by simpa [wks] using hown⟩, fun q hq => ?_⟩
    simp [Value.ownBlock] at hq; subst hq
    rcases hat with e | e
    · exact h.row.2 _ e
    · show W0.heap.size ≤ gb; simp at e; omega
  have sfr : Fr (fun q => q = M) w7 (w7.setCell ⟨M, 4, none⟩ (.slice (some ⟨gb, 0, none⟩) nn cap)) := Fr.refl.setCell (p := ⟨M, 4, none⟩) _ (.inl rfl)
  refine ⟨?_, by simpa [leaveL] using h.len, fits_leave h.fit, ?_, ?_, ?_, ?_, ?_, ?_⟩
  · refine ((h5.fr (Fr.refl (S := E0) |>.alloc o) (fun _ _ x => x)).fr gfr (fun q hq e => ?_)).fr sfr (fun q hq e => hMF (e ▸ hq))
    exact hnF q (h.row.2 q e) hq
  · rw [leaveL_get, h.at']; rfl
  · have h1 := h.room
    have a := wout_le x.s x.g c.snd
    have b := wout_le x.s x.g c.rcv
    have e := rlen_lt hr
    simp only [leaveCh, List.length_append, List.length_singleton]
    omega
  · exact heap_setCell_same w7 M 4 _ _ _ cell7
  · rw [heap_setCell_other _ _ _ _ (by show R ≠ M; omega)]; exact res7
  · exact row7.fr sfr (fun q hq e => by have : W0.heap.size ≤ q := row7.2 q hq; omega)
  · refine Fr.trans' (T := fun q => q = M) ?_ sfr (fun q hq => .inl (.inr hq))
    refine Fr.trans' (T := fun q => wv.ownBlock = some q) ?_ gfr (fun q hq => .inr (h.row.2 q hq))
    exact ((h.fr.trans (Fr.refl.drew.trans (f5.mono (fun q hq => .inl hq)))).alloc o)
theorem close_step_snd {W0 wr w5 w7 : World} {F : Nat → Prop} {g k M R n0 gb nn cap : Nat} {v0 wv : Value} {l : List Ch} {acc : List Wk} {c : Ch} {x : Wt} {r : List Wt} (h : CloseRel W0 wr F g v0 k M R n0 l acc wv c) (hr : c.snd = x :: r)
    (hF : ∀ q, F q → q < R) (hRM : R < M) (hM : M < W0.heap.size) (h5 : IsChV w5 F g v0 (leaveL x.s x.g l)) (f5 : Fr F wr.drew w5) (o : Obj)
    (hown : w7.ownsRow 0 39 6 (.slice (some ⟨gb, 0, none⟩) nn cap) nn (wks acc ++ Wk.cells ⟨x.s, x.g, x.c, 0, false, 6⟩)) (hgrow : (w5.alloc o).grownBy w7 wv.ownBlock) (hat : wv.ownBlock = some gb ∨ gb = (w5.alloc o).heap.size) :
    CloseRel W0 (w7.setCell ⟨M, 4, none⟩ (.slice (some ⟨gb, 0, none⟩) nn cap)) F g v0 k M R n0 (leaveL x.s x.g l) (acc ++ [⟨x.s, x.g, x.c, 0, false, 6⟩]) (.slice (some ⟨gb, 0, none⟩) nn cap) (leaveCh x.s x.g c) := by
  have hnF : ∀ q, W0.heap.size ≤ q → ¬ F q := fun q hq hf => by have := hF q hf; omega
  have row5 : RowF w5 (New W0) 39 6 wv (wks acc) := (h.row.fr (Fr.refl (S := E0) |>.drew) (fun _ _ x => x)).fr f5 (fun q hq hf => hnF q (h.row.2 q hq) hf)
  have hs0 : W0.heap.size ≤ w5.heap.size := Nat.le_trans h.fr.size f5.size
  have gfr : Fr (fun q => wv.ownBlock = some q) (w5.alloc o) w7 := Fr.refl.grown hgrow (fun q hq => .inl hq)
  have hMF : ¬ F M := fun hf => by have := hF M hf; omega
  have hRF : ¬ F R := fun hf => by have := hF R hf; omega
  have hMv : ¬ wv.ownBlock = some M := fun e => by have : W0.heap.size ≤ M := h.row.2 M e; omega
  have hRv : ¬ wv.ownBlock = some R := fun e => by have : W0.heap.size ≤ R := h.row.2 R e; omega
  have cell7 := gfr.heapAt ((Fr.refl (S := E0) |>.alloc o).heapAt (f5.heapAt h.cell hMF) (fun x => x)) hMv
  have res7 := gfr.heapAt ((Fr.refl (S := E0) |>.alloc o).heapAt (f5.heapAt h.res hRF) (fun x => x)) hRv
  have row7 : RowF w7 (New W0) 39 6 (.slice (some ⟨gb, 0, none⟩) nn cap) (wks (acc ++ [⟨x.s, x.g, x.c, 0, false, 6⟩])) := by
    refine ⟨⟨nn, by simpa [wks] using hown⟩, fun q hq => ?_⟩
    simp [Value.ownBlock] at hq; subst hq
    rcases hat with e | e
    · exact h.row.2 _ e
    · show W0.heap.size ≤ gb; simp at e; omega
  have sfr : Fr (fun q => q = M) w7 (w7.setCell ⟨M, 4, none⟩ (.slice (some ⟨gb, 0, none⟩) nn cap)) := Fr.refl.setCell (p := ⟨M, 4, none⟩) _ (.inl rfl)
  refine ⟨?_, by simpa [leaveL] using h.len, fits_leave h.fit, ?_, ?_, ?_, ?_, ?_, ?_⟩
  · refine ((h5.fr (Fr.refl (S := E0) |>.alloc o) (fun _ _ x => x)).fr gfr (fun q hq e => ?_)).fr sfr (fun q hq e => hMF (e ▸ hq))
    exact hnF q (h.row.2 q e) hq
  · rw [leaveL_get, h.at']; rfl
  · have h1 := h.room
    have a := wout_le x.s x.g c.snd
    have b := wout_le x.s x.g c.rcv
    have e := rlen_lt hr
    simp only [leaveCh, List.length_append, List.length_singleton]
    omega
  · exact heap_setCell_same w7 M 4 _ _ _ cell7
  · rw [heap_setCell_other _ _ _ _ (by show R ≠ M; omega)]; exact res7
  · exact row7.fr sfr (fun q hq e => by have : W0.heap.size ≤ q := row7.2 q hq; omega)
  · refine Fr.trans' (T := fun q => q = M) ?_ sfr (fun q hq => .inl (.inr hq))
    refine Fr.trans' (T := fun q => wv.ownBlock = some q) ?_ gfr (fun q hq => .inr (h.row.2 q hq))
    exact ((h.fr.trans (Fr.refl.drew.trans (f5.mono (fun q hq => .inl hq)))).alloc o)
set_option maxHeartbeats 16000000 in
theorem close_open {w : World} {F : Nat → Prop} {g k : Nat} {v0 : Value} {ms : List CM} {m : CM} (h : Chs w F g v0 ms) (hk : ms[k]? = some m) (hcl : m.ch.cl = false) (hn : ms.length ≤ 1024) (hfit : ∀ m ∈ ms, m.ch.Fit)
    (hroom : (m.ch.rcv.length + m.ch.snd.length) * 48 ≤ 140737488355328) (l0 : List Ch) (hl0 : l0 = (chs ms).set k { m.ch with cl := true }) (la : List Ch) (ka : List Wk) (hla : wakeR l0 k [] = (la, ka)) (lb : List Ch) (kb : List Wk) (hlb : wakeS la k ka = (lb, kb)) :
    Calls Try.prog 30 #[.pointer (some ⟨g, 0, none⟩), .int .i64 ((k : Int) + 1)] w (MvPost1 F g w lb { woken := kb }) := by
  have H := hid h
  have HL0 := hid hl0
  have HLA := hid hla
  have HLB := hid hlb
  clear h hl0 hla hlb
  obtain ⟨n0, hn0⟩ : ∃ n0, n0 = m.ch.rcv.length + m.ch.snd.length := ⟨_, rfl⟩
  rw [← hn0] at hroom
  have HN0 := hid hn0
  clear hn0
  go_enter Try.func30, Try.ntmps30
  go_wp2_with fail
  generalize hW : (w.alloc (Obj.cells _ 32)) = W
  have FA := hid (show Fr E0 w W by rw [← hW]; exact Fr.refl.alloc _)
  have hWs := hid (show W.heap.size = w.heap.size + 1 by rw [← hW]; simp)
  have T1 := hid (show W.heap[w.heap.size]? = some (.cells #[Value.bool false, Value.int IntKind.i64 0, Value.bool false, Value.int IntKind.i64 0, Value.slice none 0 0] 32 (0, 0)) by rw [← hW]; exact heap_alloc_new w _)
  clear hW
  obtain ⟨L, cp, hv, hFL, _⟩ := H.out.at hk
  subst hv
  have C1 := hid (atW H.out FA.out)
  have RD := hid C1.out.rdAt
  obtain ⟨_, _, e0, _, c0, c1, c2, c3, c4, hfz⟩ := C1.out.at hk
  cases e0
  rw [hcl] at c4
  have hlk := lt_of_get hk
  have HK := hid hk
  have hfz4 := hfz (k * 5 + 4)
  clear hk hfz hcl
  refine (at_in RD.out k hlk).mono ?_
  rintro e w2 ⟨rfl, rfl⟩
  simp only [tup2, Nat.zero_add]
  go_wp2_with fail
  generalize hW0 : (W.setCell ⟨L, k * 5 + 4, none⟩ (.bool true)).alloc (Obj.cells _ 32) = W0
  have C0 := hid (show Chs W0 F g (.slice (some ⟨L, 0, none⟩) ms.length cp) (ms.set k m.setC) by rw [← hW0]; exact (C1.out.putC HK.out).fr (Fr.refl (S := E0) |>.alloc _) (fun _ _ x => x))
  have M0 := hid (show W0.heap[W.heap.size]? = some (.cells #[Value.bool false, Value.int IntKind.i64 0, Value.bool false, Value.int IntKind.i64 0, Value.slice none 0 0] 32 (0, 0)) by rw [← hW0]; have := heap_alloc_new (W.setCell ⟨L, k * 5 + 4, none⟩ (.bool true)) (.cells #[Value.bool false, Value.int IntKind.i64 0, Value.bool false, Value.int IntKind.i64 0, Value.slice none 0 0] 32); simpa using this)
  have hLw : L < w.heap.size := H.out.lt L hFL
  have hLR : w.heap.size ≠ L := by omega
  have T0 := hid (show W0.heap[w.heap.size]? = some (.cells #[Value.bool false, Value.int IntKind.i64 0, Value.bool false, Value.int IntKind.i64 0, Value.slice none 0 0] 32 (0, 0)) by rw [← hW0]; exact (Fr.refl (S := E0) |>.alloc _).heapAt ((heap_setCell_other _ _ _ _ hLR).trans T1.out) (fun x => x))
  have F0 := hid (show Fr F W W0 by rw [← hW0]; exact (Fr.refl.setCell (p := ⟨L, k * 5 + 4, none⟩) _ (.inl hFL)).alloc _)
  have hM0 := hid (heap_lt M0.out)
  have hlx : Hid (chs (ms.set k m.setC) = l0) := by show _ = _; rw [chs_set, HL0.out]; rfl
  have RL0 := hid (show CloseRel W0 W0 F g (.slice (some ⟨L, 0, none⟩) ms.length cp) k W.heap.size w.heap.size n0 l0 [] (.slice none 0 0) { m.ch with cl := true } from
    ⟨⟨_, C0.out, hlx.out⟩, by rw [← hlx.out, chs_len, List.length_set]; exact hn, by
      intro q hq
      rw [HL0.out] at hq
      rcases List.mem_or_eq_of_mem_set hq with hq | rfl
      · obtain ⟨y, hy, rfl⟩ := List.mem_map.1 hq; exact hfit y hy
      · exact hfit m (List.mem_of_getElem? HK.out), by rw [HL0.out]; exact List.getElem?_set_self (by rw [chs_len]; exact hlk), by rw [HN0.out]; simp, M0.out, T0.out, RowF.nil, Fr.refl⟩)
  clear hW0 c0 c1 c2 c3 c4 hfz4 hLw hLR
  go_loopw [32] (fun _ wr => ∃ (l : List Ch) (acc : List Wk) (wv : Value) (c : Ch), CloseRel W0 wr F g (.slice (some ⟨L, 0, none⟩) ms.length cp) k W.heap.size w.heap.size n0 l acc wv c ∧ wakeR l k acc = wakeR l0 k []) (fun _ wr => rlen wr L k 3)
  case atStart => exact ⟨l0, [], _, _, RL0.out, rfl⟩
  case round =>
    obtain ⟨l, acc, wv, c, hrel, hwk⟩ := hrel
    have HR := hid hrel
    have HW := hid hwk
    clear hrel hwk
    obtain ⟨ms', hch, hms⟩ := HR.out.ch
    have HC := hid hch
    have HMS := hid hms
    have hml : ms'.length ≤ 1024 := by have := HR.out.len; rw [← hms, chs_len] at this; exact this
    have hmf : ∀ q ∈ ms', q.ch.Fit := fun q hq => HR.out.fit _ (by rw [← hms]; exact List.mem_map.2 ⟨q, hq, rfl⟩)
    obtain ⟨m', hm', hmc⟩ : ∃ m', ms'[k]? = some m' ∧ m'.ch = c := by
      have := HR.out.at'
      rw [← hms] at this; unfold chs at this
      rw [List.getElem?_map] at this
      exact Option.map_eq_some_iff.1 this
    subst hmc
    have hmd := hch.made
    obtain ⟨L', cp', e0, _, c0, c1, c2, c3, c4, hfz⟩ := hch.at hm'
    have ea : L = L' := by injection e0 with ea; injection ea with ea; injection ea with ea
    subst ea
    clear e0 hfz hch hms
    have O1 := hid (HC.out.own.each m' (List.mem_of_getElem? hm'))
    obtain ⟨⟨i0', i1, i2, i3, i4⟩, q0, q1, q2, q3, q4⟩ := blk5 HR.out.cell
    clear i0' i1 i2 i3 q0 q1 q2 q3 c0 c1 c4
    have HMM := hid hm'
    clear hm'
    cases hr : m'.ch.rcv with
    | nil =>
      obtain ⟨A, cc, e, _⟩ := O1.out.rcv.read (by decide) (wts_len _)
      rw [e, hr] at c3
      have HRR := hid hr
      clear hr e
      have RL1 := hid HR.out
      have e1 := HW.out.trans HLA.out
      rw [wakeR_nil acc HR.out.at' HRR.out] at e1
      cases e1
      go_wp2_with fail
      clear hmd i4 q4 c2 c3 hml hmf HC HMS HMM O1 HRR HW HR
      go_loopw [51] (fun _ wr => ∃ (l : List Ch) (acc : List Wk) (wv : Value) (c : Ch), CloseRel W0 wr F g (.slice (some ⟨L, 0, none⟩) ms.length cp) k W.heap.size w.heap.size n0 l acc wv c ∧ wakeS l k acc = wakeS la k ka) (fun _ wr => rlen wr L k 2)
      case atStart => exact ⟨la, ka, _, _, RL1.out, rfl⟩
      case round =>
        obtain ⟨l, acc, wv, c, hrel, hwk⟩ := hrel
        have HR := hid hrel
        have HW := hid hwk
        clear hrel hwk
        obtain ⟨ms', hch, hms⟩ := HR.out.ch
        have HC := hid hch
        have HMS := hid hms
        have hml : ms'.length ≤ 1024 := by have := HR.out.len; rw [← hms, chs_len] at this; exact this
        have hmf : ∀ q ∈ ms', q.ch.Fit := fun q hq => HR.out.fit _ (by rw [← hms]; exact List.mem_map.2 ⟨q, hq, rfl⟩)
        obtain ⟨m', hm', hmc⟩ : ∃ m', ms'[k]? = some m' ∧ m'.ch = c := by
          have := HR.out.at'
          rw [← hms] at this; unfold chs at this
          rw [List.getElem?_map] at this
          exact Option.map_eq_some_iff.1 this
        subst hmc
        have hmd := hch.made
        obtain ⟨L', cp', e0, _, c0, c1, c2, c3, c4, hfz⟩ := hch.at hm'
        have ea : L = L' := by injection e0 with ea; injection ea with ea; injection ea with ea
        subst ea
        clear e0 hfz hch hms
        have O1 := hid (HC.out.own.each m' (List.mem_of_getElem? hm'))
        obtain ⟨⟨i0', i1, i2, i3, i4⟩, q0, q1, q2, q3, q4⟩ := blk5 HR.out.cell
        clear i0' i1 i2 i3 q0 q1 q2 q3 c0 c1 c4
        have HMM := hid hm'
        clear hm'
        cases hr : m'.ch.snd with
        | nil =>
          obtain ⟨A, cc, e, _⟩ := O1.out.snd.read (by decide) (wts_len _)
          rw [e, hr] at c2
          have HRR := hid hr
          clear hr e
          obtain ⟨Aw, nw, cw, rfl⟩ := HR.out.row.shape
          have HR2 := hid HR.out.res
          obtain ⟨⟨b0, b1, b2, b3, b4⟩, z0, z1, z2, z3, z4⟩ := blk5 HR.out.res
          obtain ⟨⟨i0, i1, i2, i3, _⟩, _⟩ := blk5 HR.out.cell
          go_wp2_with fail
          have T5 := hid (set5_heap (w := wr) HR2.out (.bool false) (.int .i64 0) (.bool false) (.int .i64 0) (.slice Aw nw cw))
          have S5 := hid (set5_fr (S := fun q => q = w.heap.size) (w := wr) (B := w.heap.size) rfl (.bool false) (.int .i64 0) (.bool false) (.int .i64 0) (.slice Aw nw cw))
          have e1 := HW.out.trans HLB.out
          rw [wakeS_nil acc HR.out.at' HRR.out] at e1
          cases e1
          refine fin30 (m := { woken := kb }) rfl rfl T5.out ⟨_, rfl, ⟨_, HR.out.row.fr S5.out (fun q hq e => ?_)⟩, ?_⟩
          · have h1 : W0.heap.size ≤ q := HR.out.row.2 q hq
            have := hM0.out; have := hWs.out; omega
          · refine (HR.out.ch.is.fr S5.out (fun q hq e => by have := H.out.lt q hq; omega)).step (fun q hq => .inl hq) ?_
            refine Fr.trans' ?_ S5.out (fun q hq => .inr (by omega))
            exact ((FA.out.e0 (S := F)).trans F0.out).trans' HR.out.fr (fun q hq => by rcases hq with hq | hq; (exact .inl hq); (exact .inr (by have := hWs.out; omega)))
        | cons x r =>
          rcases O1.out.snd.form (by decide) (wts_len _) with ⟨_, h0, _⟩ | ⟨b3, p3, hv3, _, hb3, hn3, _, hr3, _⟩
          · rw [hr] at h0; simp at h0
          obtain ⟨d0, d1, d2, d3⟩ := hr3.wt (k := 0) (x := x) (by rw [hr]; rfl)
          simp only [Nat.zero_add, Nat.zero_mul] at d0 d1 d2 d3
          have hl3 : m'.ch.snd.length = r.length + 1 := by rw [hr]; rfl
          rw [hl3] at hv3 hn3
          rw [hv3] at c2
          have HRR := hid hr
          have CD := hid (HC.out.fr (Fr.refl (S := E0) (w := wr) |>.drew) (fun _ _ x => x))
          have hroom1 : acc.length + (r.length + 1) ≤ n0 := by have := HR.out.room; rw [← hl3]; omega
          have hMF : Hid (¬ F W.heap.size) := fun hx => by have := H.out.lt _ hx; have := hWs.out; omega
          have hNF : Hid (∀ q, W0.heap.size ≤ q → ¬ F q) := fun q hq hx => by have := H.out.lt q hx; have := hM0.out; have := hWs.out; omega
          have HRow := hid HR.out.row
          obtain ⟨j0, hi0, hz0, hz1, hz2⟩ := info_parts info39
          clear hr3 hr hv3 hl3 O1
          go_wp2_with fail
          go_region_law (first
            | (refine step_append_lies _ (by rfl) (.tmp 58) (.tmp 67) 30 (by rfl) 0 39 j0 (.agg #[.int .i64 0, .int .i64 0, .int .i64 0, .int .i64 0, .bool false, .int .i64 0]) 6 48 Try.underlying30 hi0 hz0 hz1 hz2 rfl (by decide) wv acc.length (wks acc) (by rfl) (HO5.out.own (by decide) (wks_len acc)) ⟨w5.heap.size, 0, none⟩ 1 1 [.int .i64 x.s, .int .i64 x.g, .int .i64 x.c, .int .i64 0, .bool false, .int .i64 6] (by rfl) (by rfl) (news1 _ _) (by simp [Value.oneCell']) (by decide) (by unfold maxLen; omega) (by omega) (Nat.zero_le _) (w5.heap.size + 1) (by simp) ?_; intro gb cap w7 hown7 hgrow7 hat7 hlt7; have y1 : w7.cell? ⟨W.heap.size, 4, none⟩ = some wv := hgrow7.cell (by rw [World.cell?_alloc_past _ _ _ hM5.out]; exact y0) (fun e => HMV.out e.symm); have y2 : w7.frozen? ⟨W.heap.size, 4, none⟩ = false := (by rw [hgrow7.frozen_far _ (Nat.lt_of_lt_of_le hM5.out (by simp)) (fun e => HMV.out e.symm), World.frozen?_alloc_past _ _ _ hM5.out]; exact z0); have HN := hid (And.intro hown7 (And.intro hgrow7 hat7)); clear hown7 hgrow7 hat7)
            | (go_simp; go_at_call 55; refine (wake_okV CD.out x 0 false 6 hml hmf).mono ?_; rintro e w5 ⟨rfl, hl5, hf5⟩; simp only [Wk.val]; rw [HMS.out] at hl5; have M5 := hid (hf5.heapAt (w := wr.drew) HR.out.cell hMF.out); obtain ⟨⟨_, _, _, _, y0⟩, _, _, _, _, z0⟩ := blk5 M5.out; have hM5 := hid (heap_lt M5.out); have hM5v : W.heap.size < w5.heap.size := hM5.out; have HO5 := hid (((HRow.out.fr (Fr.refl (S := E0) (w := wr) |>.drew) (fun _ _ x => x)).fr hf5 (fun q hq hx => hNF.out q (HRow.out.2 q hq) hx)).fr (Fr.refl (S := E0) |>.alloc (.cells #[.int .i64 x.s, .int .i64 x.g, .int .i64 x.c, .int .i64 0, .bool false, .int .i64 6] 39)) (fun _ _ x => x)); have HMV : Hid (¬ wv.ownBlock = some W.heap.size) := (fun e => absurd (HRow.out.2 _ e) (by unfold New; have := hM0.out; omega)); have L5 := hid hl5; have F5 := hid hf5; clear hl5 hf5 d0 d1 d2 d3 c2))
          all_goals
            have ST := hid (close_step_snd HR.out HRR.out (fun q hq => H.out.lt q hq) (by rw [hWs.out]; exact Nat.lt_succ_self _) hM0.out L5.out F5.out (.cells #[.int .i64 x.s, .int .i64 x.g, .int .i64 x.c, .int .i64 0, .bool false, .int .i64 6] 39) HN.out.1 HN.out.2.1 (by rcases HN.out.2.2 with h | h; (exact .inl h); (exact .inr (by simp; exact h))))
            have HMeas : Hid (rlen (w7.setCell ⟨W.heap.size, 4, none⟩ (.slice (some ⟨gb, 0, none⟩) (acc.length + 1) cap)) L k 2 < rlen wr L k 2) := by
              show _ < _
              rw [rlen_snd ST.out.ch ST.out.at', rlen_snd HR.out.ch HR.out.at']
              exact rlen_lt HRR.out
            have HWK : Hid (wakeS (leaveL x.s x.g l) k (acc ++ [⟨x.s, x.g, x.c, 0, false, 6⟩]) = wakeS la k ka) := by
              show _ = _
              rw [← wakeS_cons acc HR.out.at' HRR.out]; exact HW.out
            go_wp2_with fail
            go_roundw
            case rel => exact ⟨_, _, _, _, ST.out, HWK.out⟩
            case measure => exact HMeas.out

    | cons x r =>
      rcases O1.out.rcv.form (by decide) (wts_len _) with ⟨_, h0, _⟩ | ⟨b3, p3, hv3, _, hb3, hn3, _, hr3, _⟩
      · rw [hr] at h0; simp at h0
      obtain ⟨d0, d1, d2, d3⟩ := hr3.wt (k := 0) (x := x) (by rw [hr]; rfl)
      simp only [Nat.zero_add, Nat.zero_mul] at d0 d1 d2 d3
      have hl3 : m'.ch.rcv.length = r.length + 1 := by rw [hr]; rfl
      rw [hl3] at hv3 hn3
      rw [hv3] at c3
      have HRR := hid hr
      have CD := hid (HC.out.fr (Fr.refl (S := E0) (w := wr) |>.drew) (fun _ _ x => x))
      have hroom1 : acc.length + (r.length + 1) ≤ n0 := by have := HR.out.room; rw [← hl3]; omega
      have hMF : Hid (¬ F W.heap.size) := fun hx => by have := H.out.lt _ hx; have := hWs.out; omega
      have hNF : Hid (∀ q, W0.heap.size ≤ q → ¬ F q) := fun q hq hx => by have := H.out.lt q hx; have := hM0.out; have := hWs.out; omega
      have HRow := hid HR.out.row
      obtain ⟨j0, hi0, hz0, hz1, hz2⟩ := info_parts info39
      clear hr3 hr hv3 hl3 O1
      go_wp2_with fail
      go_region_law (first
        | (refine step_append_lies _ (by rfl) (.tmp 39) (.tmp 48) 30 (by rfl) 0 39 j0 (.agg #[.int .i64 0, .int .i64 0, .int .i64 0, .int .i64 0, .bool false, .int .i64 0]) 6 48 Try.underlying30 hi0 hz0 hz1 hz2 rfl (by decide) wv acc.length (wks acc) (by rfl) (HO5.out.own (by decide) (wks_len acc)) ⟨w5.heap.size, 0, none⟩ 1 1 [.int .i64 x.s, .int .i64 x.g, .int .i64 x.c, .int .i64 0, .bool false, .int .i64 0] (by rfl) (by rfl) (news1 _ _) (by simp [Value.oneCell']) (by decide) (by unfold maxLen; omega) (by omega) (Nat.zero_le _) (w5.heap.size + 1) (by simp) ?_; intro gb cap w7 hown7 hgrow7 hat7 hlt7; have y1 : w7.cell? ⟨W.heap.size, 4, none⟩ = some wv := hgrow7.cell (by rw [World.cell?_alloc_past _ _ _ hM5.out]; exact y0) (fun e => HMV.out e.symm); have y2 : w7.frozen? ⟨W.heap.size, 4, none⟩ = false := (by rw [hgrow7.frozen_far _ (Nat.lt_of_lt_of_le hM5.out (by simp)) (fun e => HMV.out e.symm), World.frozen?_alloc_past _ _ _ hM5.out]; exact z0); have HN := hid (And.intro hown7 (And.intro hgrow7 hat7)); clear hown7 hgrow7 hat7)
        | (go_simp; go_at_call 55; refine (wake_okV CD.out x 0 false 0 hml hmf).mono ?_; rintro e w5 ⟨rfl, hl5, hf5⟩; simp only [Wk.val]; rw [HMS.out] at hl5; have M5 := hid (hf5.heapAt (w := wr.drew) HR.out.cell hMF.out); obtain ⟨⟨_, _, _, _, y0⟩, _, _, _, _, z0⟩ := blk5 M5.out; have hM5 := hid (heap_lt M5.out); have hM5v : W.heap.size < w5.heap.size := hM5.out; have HO5 := hid (((HRow.out.fr (Fr.refl (S := E0) (w := wr) |>.drew) (fun _ _ x => x)).fr hf5 (fun q hq hx => hNF.out q (HRow.out.2 q hq) hx)).fr (Fr.refl (S := E0) |>.alloc (.cells #[.int .i64 x.s, .int .i64 x.g, .int .i64 x.c, .int .i64 0, .bool false, .int .i64 0] 39)) (fun _ _ x => x)); have HMV : Hid (¬ wv.ownBlock = some W.heap.size) := (fun e => absurd (HRow.out.2 _ e) (by unfold New; have := hM0.out; omega)); have L5 := hid hl5; have F5 := hid hf5; clear hl5 hf5 d0 d1 d2 d3 c3))
      all_goals
        have ST := hid (close_step_rcv HR.out HRR.out (fun q hq => H.out.lt q hq) (by rw [hWs.out]; exact Nat.lt_succ_self _) hM0.out L5.out F5.out (.cells #[.int .i64 x.s, .int .i64 x.g, .int .i64 x.c, .int .i64 0, .bool false, .int .i64 0] 39) HN.out.1 HN.out.2.1 (by rcases HN.out.2.2 with h | h; (exact .inl h); (exact .inr (by simp; exact h))))
        have HMeas : Hid (rlen (w7.setCell ⟨W.heap.size, 4, none⟩ (.slice (some ⟨gb, 0, none⟩) (acc.length + 1) cap)) L k 3 < rlen wr L k 3) := by
          show _ < _
          rw [rlen_rcv ST.out.ch ST.out.at', rlen_rcv HR.out.ch HR.out.at']
          exact rlen_lt HRR.out
        have HWK : Hid (wakeR (leaveL x.s x.g l) k (acc ++ [⟨x.s, x.g, x.c, 0, false, 0⟩]) = wakeR l0 k []) := by
          show _ = _
          rw [← wakeR_cons acc HR.out.at' HRR.out]; exact HW.out
        go_wp2_with fail
        go_roundw
        case rel => exact ⟨_, _, _, _, ST.out, HWK.out⟩
        case measure => exact HMeas.out
end Go.Proofs.Yteffmnohgnmanaa
/- The calls on channels, each by one contract over plain data. -/
namespace Go.Proofs.Yteffmnohgnmanaa
open Go.RowKit
/-- Channels of which no list is longer than memory bears: at most N wait on each. -/
structure Ok (N : Nat) (l : List Ch) : Prop where
  len : l.length ≤ 1024
  cap : ∀ c ∈ l, 0 ≤ c.cap ∧ c.cap ≤ 1024
  vals : ∀ c ∈ l, (c.vals.length : Int) ≤ c.cap
  who : ∀ c ∈ l, c.snd.length + c.rcv.length ≤ N
theorem Ok.mono {N M : Nat} {l : List Ch} (h : Ok N l) (hNM : N ≤ M) : Ok M l := ⟨h.len, h.cap, h.vals, fun c hc => Nat.le_trans (h.who c hc) hNM⟩
theorem Ok.fit {N : Nat} {l : List Ch} (h : Ok N l) (hN : N * 48 ≤ 140737488355328) : ∀ c ∈ l, c.Fit := by
  intro c hc
  have h1 := h.cap c hc
  have h2 := h.vals c hc
  have h3 := h.who c hc
  refine ⟨?_, ?_, ?_⟩ <;> omega
theorem Ok.fitM {N : Nat} {ms : List CM} (h : Ok N (chs ms)) (hN : N * 48 ≤ 140737488355328) : ∀ m ∈ ms, m.ch.Fit := fun m hm => h.fit hN _ (List.mem_map.2 ⟨m, hm, rfl⟩)
theorem ok_nil : Ok 0 [] := ⟨by simp, by simp, by simp, by simp⟩
theorem Ok.set {N : Nat} {l : List Ch} {k : Nat} {c : Ch} (h : Ok N l) (h1 : 0 ≤ c.cap ∧ c.cap ≤ 1024) (h2 : (c.vals.length : Int) ≤ c.cap) (h3 : c.snd.length + c.rcv.length ≤ N) : Ok N (l.set k c) := by
  refine ⟨by rw [List.length_set]; exact h.len, ?_, ?_, ?_⟩
  · intro q hq; rcases List.mem_or_eq_of_mem_set hq with hq | rfl; (exact h.cap q hq); (exact h1)
  · intro q hq; rcases List.mem_or_eq_of_mem_set hq with hq | rfl; (exact h.vals q hq); (exact h2)
  · intro q hq; rcases List.mem_or_eq_of_mem_set hq with hq | rfl; (exact h.who q hq); (exact h3)
theorem Ok.leave {N : Nat} {l : List Ch} {gs gg : Int} (h : Ok N l) : Ok N (leaveL gs gg l) := by
  refine ⟨by simpa [leaveL] using h.len, ?_, ?_, ?_⟩
  · intro c hc; obtain ⟨q, hq, rfl⟩ := List.mem_map.1 hc; exact h.cap q hq
  · intro c hc; obtain ⟨q, hq, rfl⟩ := List.mem_map.1 hc; exact h.vals q hq
  · intro c hc; obtain ⟨q, hq, rfl⟩ := List.mem_map.1 hc
    have h1 := h.who q hq
    have a := wout_le gs gg q.snd
    have b := wout_le gs gg q.rcv
    simp only [leaveCh]; omega
theorem getC_k {l : List Ch} {ch : Int} {c : Ch} (h : getC l ch = some c) : ∃ k : Nat, ch = (k : Int) + 1 ∧ l[k]? = some c := by
  unfold getC at h
  split at h
  · exact ⟨(ch - 1).toNat, by omega, h⟩
  · cases h
theorem getC_mem {l : List Ch} {ch : Int} {c : Ch} (h : getC l ch = some c) : c ∈ l := by
  obtain ⟨k, _, hk⟩ := getC_k h; exact List.mem_of_getElem? hk
theorem setK_k {l : List Ch} {k : Nat} {c : Ch} : setK l ((k : Int) + 1) c = l.set k c := by unfold setK; congr 1; omega
theorem Ok.send {N : Nat} {l : List Ch} (h : Ok N l) (ch gs gg v : Int) : Ok (N + 1) (sendL l ch gs gg v).1 := by
  have h' := h.mono (Nat.le_succ N)
  unfold sendL
  split
  · exact h'
  split
  · exact h'
  split
  · exact h'
  rename_i c hc
  have hm := getC_mem hc
  split
  · exact h'
  split
  · exact h'.leave
  rename_i hr
  have h1 := h.cap c hm
  have h2 := h.vals c hm
  have h3 := h.who c hm
  split
  · exact h'.set h1 (by simp; omega) (by simp; omega)
  · exact h'.set h1 h2 (by simp; omega)
theorem Ok.recv {N : Nat} {l : List Ch} (h : Ok N l) (ch gs gg : Int) : Ok (N + 1) (recvL l ch gs gg).1 := by
  have h' := h.mono (Nat.le_succ N)
  unfold recvL
  split
  · exact h'
  split
  · exact h'
  split
  · exact h'
  rename_i c hc
  have hm := getC_mem hc
  have h1 := h.cap c hm
  have h2 := h.vals c hm
  have h3 := h.who c hm
  split
  · rename_i v vs hv
    rw [hv] at h2
    simp at h2
    split
    · exact h'.set (c := { c with vals := vs }) h1 (by simp; omega) (by simp; omega)
    · rename_i x r hs
      have h4 : Ok (N + 1) (setK l ch { c with vals := vs ++ [x.v] }) := h'.set h1 (by simp; omega) (by simp only; omega)
      exact h4.leave
  · split
    · exact h'.leave
    · split
      · exact h'
      · exact h'.set h1 h2 (by simp; omega)
theorem ok_wakeR {N k : Nat} : ∀ (n : Nat) (l : List Ch) (acc : List Wk), Ok N l → (match l[k]? with | some c => c.rcv.length | none => 0) ≤ n → Ok N (wakeR l k acc).1 := by
  intro n
  induction n with
  | zero =>
    intro l acc h hn
    cases hc : l[k]? with
    | none => rw [wakeR]; split; (exact h); (rename_i h'; rw [hc] at h'; cases h')
    | some c => rw [hc] at hn; rw [wakeR_nil acc hc (List.eq_nil_of_length_eq_zero (by simpa using hn))]; exact h
  | succ n ih =>
    intro l acc h hn
    cases hc : l[k]? with
    | none => rw [wakeR]; split; (exact h); (rename_i h'; rw [hc] at h'; cases h')
    | some c =>
      cases hr : c.rcv with
      | nil => rw [wakeR_nil acc hc hr]; exact h
      | cons x r =>
        rw [wakeR_cons acc hc hr]
        refine ih _ _ h.leave ?_
        rw [leaveL_get, hc]
        rw [hc] at hn
        have := rlen_lt hr
        simp only [Option.map_some, leaveCh] at hn ⊢
        omega
theorem ok_wakeS {N k : Nat} : ∀ (n : Nat) (l : List Ch) (acc : List Wk), Ok N l → (match l[k]? with | some c => c.snd.length | none => 0) ≤ n → Ok N (wakeS l k acc).1 := by
  intro n
  induction n with
  | zero =>
    intro l acc h hn
    cases hc : l[k]? with
    | none => rw [wakeS]; split; (exact h); (rename_i h'; rw [hc] at h'; cases h')
    | some c => rw [hc] at hn; rw [wakeS_nil acc hc (List.eq_nil_of_length_eq_zero (by simpa using hn))]; exact h
  | succ n ih =>
    intro l acc h hn
    cases hc : l[k]? with
    | none => rw [wakeS]; split; (exact h); (rename_i h'; rw [hc] at h'; cases h')
    | some c =>
      cases hr : c.snd with
      | nil => rw [wakeS_nil acc hc hr]; exact h
      | cons x r =>
        rw [wakeS_cons acc hc hr]
        refine ih _ _ h.leave ?_
        rw [leaveL_get, hc]
        rw [hc] at hn
        have := rlen_lt hr
        simp only [Option.map_some, leaveCh] at hn ⊢
        omega
theorem Ok.close {N : Nat} {l : List Ch} (h : Ok N l) (ch : Int) : Ok N (closeL l ch).1 := by
  unfold closeL
  split
  · exact h
  split
  · exact h
  rename_i c hc
  have hm := getC_mem hc
  split
  · exact h
  · exact ok_wakeS _ _ _ (ok_wakeR _ _ _ (h.set (h.cap c hm) (h.vals c hm) (h.who c hm)) (Nat.le_refl _)) (Nat.le_refl _)
theorem Ok.wait {N : Nat} {l : List Ch} (h : Ok N l) (ch : Int) (x : Wt) (send : Bool) : Ok (N + 1) (waitL l ch x send).1 := by
  have h' := h.mono (Nat.le_succ N)
  unfold waitL
  split
  · exact h'
  rename_i c hc
  have hm := getC_mem hc
  have h3 := h.who c hm
  split
  · exact h'.set (h.cap c hm) (h.vals c hm) (by simp; omega)
  · exact h'.set (h.cap c hm) (h.vals c hm) (by simp; omega)
theorem Ok.make {N : Nat} {l : List Ch} {c : Int} (h : Ok N l) (hno : makeNo l c = false) : Ok N (l ++ [newCh c]) := by
  simp [makeNo] at hno
  refine ⟨by simp; omega, ?_, ?_, ?_⟩
  · intro q hq; rcases List.mem_append.1 hq with hq | hq
    · exact h.cap q hq
    · simp at hq; subst hq; exact ⟨hno.1, hno.2.1⟩
  · intro q hq; rcases List.mem_append.1 hq with hq | hq
    · exact h.vals q hq
    · simp at hq; subst hq; exact hno.1
  · intro q hq; rcases List.mem_append.1 hq with hq | hq
    · exact h.who q hq
    · simp at hq; subst hq; simp [newCh]

theorem trapC_some {l : List Ch} {ch : Int} {c : Ch} (h : getC l ch = some c) : trapC l ch = 0 := by
  obtain ⟨k, rfl, hk⟩ := getC_k h; exact trapC_in hk
theorem send_all {w : World} {F : Nat → Prop} {g N : Nat} {l : List Ch} (h : IsCh w F g l) (hok : Ok N l) (hN : (N + 1) * 48 ≤ 140737488355328) (ch gs gg v : Int) :
    Calls Try.prog 23 #[.pointer (some ⟨g, 0, none⟩), .int .i64 ch, .agg #[.int .i64 gs, .int .i64 gg], .int .i64 v] w (MvPost F g w (sendL l ch gs gg v).1 (sendL l ch gs gg v).2.1 (sendL l ch gs gg v).2.2) := by
  obtain ⟨v0, ms, hc, rfl⟩ := h
  have hn : ms.length ≤ 1024 := by rw [← chs_len]; exact hok.len
  have hfit := hok.fitM (by omega)
  cases hw : waitsL gs gg (chs ms) with
  | true =>
    have e : sendL (chs ms) ch gs gg v = (chs ms, {}, 111) := by unfold sendL; rw [if_pos hw]
    rw [e]; exact send_waits hc gs gg v hn hfit hw ch
  | false =>
    rcases handle ms ch with ho | rfl | ⟨k, m, rfl, hk⟩
    · have e : sendL (chs ms) ch gs gg v = (chs ms, { trap := 4 }, 0) := by
        unfold sendL; rw [trapC_out (by rw [chs_len]; exact ho)]; simp [hw]
      rw [e]; exact send_out hc gs gg v hn hfit hw ch ho
    · have e : sendL (chs ms) 0 gs gg v = (chs ms, { waits := true }, 0) := by
        unfold sendL; rw [trapC_zero, getC_zero]; simp [hw]
      rw [e]; exact send_nil hc gs gg v hn hfit hw
    · have hg := getC_in (chs_get hk)
      have ht := trapC_in (chs_get hk)
      have hmem : m.ch ∈ chs ms := List.mem_map.2 ⟨m, List.mem_of_getElem? hk, rfl⟩
      cases hcl : m.ch.cl with
      | true =>
        have e : sendL (chs ms) ((k : Int) + 1) gs gg v = (chs ms, { trap := 6 }, 0) := by unfold sendL; rw [ht, hg]; simp [hw, hcl]
        rw [e]; exact send_closed hc gs gg v hn hfit hw hk hcl
      | false =>
        cases hr : m.ch.rcv with
        | cons x r =>
          have e : sendL (chs ms) ((k : Int) + 1) gs gg v = (leaveL x.s x.g (chs ms), { ok := true, woken := [⟨x.s, x.g, x.c, v, true, 0⟩] }, 0) := by unfold sendL; rw [ht, hg]; simp [hw, hcl, hr]
          rw [e]; exact send_wakes hc gs gg v hn hfit hw hk hcl hr
        | nil =>
          by_cases hb : (m.ch.vals.length : Int) < m.ch.cap
          · have e : sendL (chs ms) ((k : Int) + 1) gs gg v = ((chs ms).set k { m.ch with vals := m.ch.vals ++ [v] }, { ok := true }, 0) := by unfold sendL; rw [ht, hg]; simp [hw, hcl, hr, hb, setK_k]
            rw [e]; exact send_buffers hc gs gg v hn hfit hw hk hcl hr hb (hok.cap _ hmem).2
          · have e : sendL (chs ms) ((k : Int) + 1) gs gg v = ((chs ms).set k { m.ch with snd := m.ch.snd ++ [⟨gs, gg, 0, v⟩] }, { waits := true }, 0) := by unfold sendL; rw [ht, hg]; simp [hw, hcl, hr, hb, setK_k]
            rw [e]; exact send_queues hc gs gg v hn hfit hw hk hcl hr hb (by have := hok.who _ hmem; omega)
theorem recv_all {w : World} {F : Nat → Prop} {g N : Nat} {l : List Ch} (h : IsCh w F g l) (hok : Ok N l) (hN : (N + 1) * 48 ≤ 140737488355328) (ch gs gg : Int) :
    Calls Try.prog 24 #[.pointer (some ⟨g, 0, none⟩), .int .i64 ch, .agg #[.int .i64 gs, .int .i64 gg]] w (MvPost F g w (recvL l ch gs gg).1 (recvL l ch gs gg).2.1 (recvL l ch gs gg).2.2) := by
  obtain ⟨v0, ms, hc, rfl⟩ := h
  have hn : ms.length ≤ 1024 := by rw [← chs_len]; exact hok.len
  have hfit := hok.fitM (by omega)
  cases hw : waitsL gs gg (chs ms) with
  | true =>
    have e : recvL (chs ms) ch gs gg = (chs ms, {}, 111) := by unfold recvL; rw [if_pos hw]
    rw [e]; exact recv_waits hc gs gg hn hfit hw ch
  | false =>
    rcases handle ms ch with ho | rfl | ⟨k, m, rfl, hk⟩
    · have e : recvL (chs ms) ch gs gg = (chs ms, { trap := 4 }, 0) := by
        unfold recvL; rw [trapC_out (by rw [chs_len]; exact ho)]; simp [hw]
      rw [e]; exact recv_out hc gs gg hn hfit hw ch ho
    · have e : recvL (chs ms) 0 gs gg = (chs ms, { waits := true }, 0) := by
        unfold recvL; rw [trapC_zero, getC_zero]; simp [hw]
      rw [e]; exact recv_nil hc gs gg hn hfit hw
    · have hg := getC_in (chs_get hk)
      have ht := trapC_in (chs_get hk)
      have hmem : m.ch ∈ chs ms := List.mem_map.2 ⟨m, List.mem_of_getElem? hk, rfl⟩
      cases hv : m.ch.vals with
      | cons v vs =>
        cases hs : m.ch.snd with
        | nil =>
          have e : recvL (chs ms) ((k : Int) + 1) gs gg = ((chs ms).set k { m.ch with vals := vs }, { value := v, ok := true }, 0) := by unfold recvL; rw [ht, hg]; simp [hw, hv, hs, setK_k]
          rw [e]; exact recv_value hc gs gg hn hfit hw hk hv hs
        | cons x r =>
          have e : recvL (chs ms) ((k : Int) + 1) gs gg = (leaveL x.s x.g ((chs ms).set k { m.ch with vals := vs ++ [x.v] }), { value := v, ok := true, woken := [⟨x.s, x.g, x.c, 0, true, 0⟩] }, 0) := by unfold recvL; rw [ht, hg]; simp [hw, hv, hs, setK_k]
          rw [e]; exact recv_value_wakes hc gs gg hn hfit hw hk hv hs (by have h1 := hok.vals _ hmem; have h2 := hok.cap _ hmem; rw [hv] at h1; simp at h1; omega)
      | nil =>
        cases hs : m.ch.snd with
        | cons x r =>
          have e : recvL (chs ms) ((k : Int) + 1) gs gg = (leaveL x.s x.g (chs ms), { value := x.v, ok := true, woken := [⟨x.s, x.g, x.c, 0, true, 0⟩] }, 0) := by unfold recvL; rw [ht, hg]; simp [hw, hv, hs]
          rw [e]; exact recv_wakes hc gs gg hn hfit hw hk hv hs
        | nil =>
          cases hcl : m.ch.cl with
          | true =>
            have e : recvL (chs ms) ((k : Int) + 1) gs gg = (chs ms, {}, 0) := by unfold recvL; rw [ht, hg]; simp [hw, hv, hs, hcl]
            rw [e]; exact recv_closed hc gs gg hn hfit hw hk hv hs hcl
          | false =>
            have e : recvL (chs ms) ((k : Int) + 1) gs gg = ((chs ms).set k { m.ch with rcv := m.ch.rcv ++ [⟨gs, gg, 0, 0⟩] }, { waits := true }, 0) := by unfold recvL; rw [ht, hg]; simp [hw, hv, hs, hcl, setK_k]
            rw [e]; exact recv_queues hc gs gg hn hfit hw hk hv hs hcl (by have := hok.who _ hmem; omega)
theorem wait_all {w : World} {F : Nat → Prop} {g N : Nat} {l : List Ch} (h : IsCh w F g l) (hok : Ok N l) (hN : (N + 1) * 48 ≤ 140737488355328) (ch : Int) (x : Wt) (send : Bool) :
    Calls Try.prog 59 #[.pointer (some ⟨g, 0, none⟩), .int .i64 ch, x.val, .bool send] w (WaitPost F g w (waitL l ch x send).1 (waitL l ch x send).2) := by
  obtain ⟨v0, ms, hc, rfl⟩ := h
  rcases handle ms ch with ho | rfl | ⟨k, m, rfl, hk⟩
  · have e : waitL (chs ms) ch x send = (chs ms, 4) := by unfold waitL; rw [getC_out (by rw [chs_len]; exact ho), trapC_out (by rw [chs_len]; exact ho)]
    rw [e]; exact wait_out hc x ch send ho
  · have e : waitL (chs ms) 0 x send = (chs ms, 0) := by unfold waitL; rw [getC_zero, trapC_zero]
    rw [e]; exact wait_nil hc x send
  · have hg := getC_in (chs_get hk)
    have hmem : m.ch ∈ chs ms := List.mem_map.2 ⟨m, List.mem_of_getElem? hk, rfl⟩
    have hwho := hok.who _ hmem
    cases send with
    | true =>
      have e : waitL (chs ms) ((k : Int) + 1) x true = ((chs ms).set k { m.ch with snd := m.ch.snd ++ [x] }, 0) := by unfold waitL; rw [hg]; simp [setK_k]
      rw [e]; exact wait_sends hc x hk (by omega)
    | false =>
      have e : waitL (chs ms) ((k : Int) + 1) x false = ((chs ms).set k { m.ch with rcv := m.ch.rcv ++ [{ x with v := 0 }] }, 0) := by unfold waitL; rw [hg]; simp [setK_k]
      rw [e]; exact wait_recvs hc x hk (by omega)
theorem close_all {w : World} {F : Nat → Prop} {g N : Nat} {l : List Ch} (h : IsCh w F g l) (hok : Ok N l) (hN : (N + 1) * 48 ≤ 140737488355328) (ch : Int) :
    Calls Try.prog 30 #[.pointer (some ⟨g, 0, none⟩), .int .i64 ch] w (MvPost1 F g w (closeL l ch).1 (closeL l ch).2) := by
  obtain ⟨v0, ms, hc, rfl⟩ := h
  have hn : ms.length ≤ 1024 := by rw [← chs_len]; exact hok.len
  have hfit := hok.fitM (by omega)
  rcases handle ms ch with ho | rfl | ⟨k, m, rfl, hk⟩
  · have e : closeL (chs ms) ch = (chs ms, { trap := 4 }) := by unfold closeL; rw [trapC_out (by rw [chs_len]; exact ho)]; simp
    rw [e]; exact close_out hc ch ho
  · have e : closeL (chs ms) 0 = (chs ms, { trap := 8 }) := by unfold closeL; rw [trapC_zero, getC_zero]; simp
    rw [e]; exact close_nil hc
  · have hg := getC_in (chs_get hk)
    have ht := trapC_in (chs_get hk)
    have hmem : m.ch ∈ chs ms := List.mem_map.2 ⟨m, List.mem_of_getElem? hk, rfl⟩
    have hwho := hok.who _ hmem
    cases hcl : m.ch.cl with
    | true =>
      have e : closeL (chs ms) ((k : Int) + 1) = (chs ms, { trap := 7 }) := by unfold closeL; rw [ht, hg]; simp [hcl]
      rw [e]; exact close_closed hc hk hcl
    | false =>
      obtain ⟨la, ka, hla⟩ : ∃ la ka, wakeR ((chs ms).set k { m.ch with cl := true }) k [] = (la, ka) := ⟨_, _, rfl⟩
      obtain ⟨lb, kb, hlb⟩ : ∃ lb kb, wakeS la k ka = (lb, kb) := ⟨_, _, rfl⟩
      have e : closeL (chs ms) ((k : Int) + 1) = (lb, { woken := kb }) := by
        unfold closeL; rw [ht, hg]
        simp only [hcl, setK_k]
        simp [hla, hlb]
      rw [e]; exact close_open hc hk hcl hn hfit (by omega) _ rfl la ka hla lb kb hlb
theorem leave_all {w : World} {F : Nat → Prop} {g N : Nat} {l : List Ch} (h : IsCh w F g l) (hok : Ok N l) (hN : (N + 1) * 48 ≤ 140737488355328) (gs gg : Int) :
    Calls Try.prog 64 #[.pointer (some ⟨g, 0, none⟩), .agg #[.int .i64 gs, .int .i64 gg]] w (LeavePost F g l gs gg w) := by
  obtain ⟨v0, ms, hc, rfl⟩ := h
  exact leave_ok hc gs gg (by rw [← chs_len]; exact hok.len) (hok.fitM (by omega))
theorem state_all {w : World} {F : Nat → Prop} {g N : Nat} {l : List Ch} (h : IsCh w F g l) (hok : Ok N l) (hN : (N + 1) * 48 ≤ 140737488355328) : Calls Try.prog 29 #[.pointer (some ⟨g, 0, none⟩)] w (MadeCs l w) := by
  obtain ⟨v0, ms, hc, rfl⟩ := h
  obtain ⟨A, c, _, hr⟩ := hc.rd
  exact state_ok hr (hok.fitM (by omega)) (by rw [← chs_len]; exact hok.len)
theorem waits_all {w : World} {F : Nat → Prop} {g : Nat} {l : List Ch} (h : IsCh w F g l) (gs gg : Int) : Calls Try.prog 31 #[.pointer (some ⟨g, 0, none⟩), .agg #[.int .i64 gs, .int .i64 gg]] w (Ret (.bool (waitsL gs gg l)) E0 w) := by
  obtain ⟨v0, ms, hc, rfl⟩ := h
  obtain ⟨A, c, _, hr⟩ := hc.rd
  exact waits_ok hr gs gg
theorem goes_all {w : World} {F : Nat → Prop} {g : Nat} {l : List Ch} (h : IsCh w F g l) (ch : Int) (send : Bool) : Calls Try.prog 46 #[.pointer (some ⟨g, 0, none⟩), .int .i64 ch, .bool send] w (Ret (tup2 (.bool (goesL l ch send)) (.int .i64 (trapC l ch))) E0 w) := by
  obtain ⟨v0, ms, hc, rfl⟩ := h
  obtain ⟨A, c, _, hr⟩ := hc.rd
  exact goes_ok hr ch send
theorem len_all {w : World} {F : Nat → Prop} {g : Nat} {l : List Ch} (h : IsCh w F g l) (ch : Int) : Calls Try.prog 25 #[.pointer (some ⟨g, 0, none⟩), .int .i64 ch] w fun e w' => e = .returned (tup2 (.int .i64 (lenL l ch)) (.int .i64 (trapC l ch))) ∧ w = w' := by
  obtain ⟨v0, ms, hc, rfl⟩ := h
  obtain ⟨A, c, _, hr⟩ := hc.rd
  exact len_ok hr ch
theorem cap_all {w : World} {F : Nat → Prop} {g N : Nat} {l : List Ch} (h : IsCh w F g l) (hok : Ok N l) (ch : Int) : Calls Try.prog 68 #[.pointer (some ⟨g, 0, none⟩), .int .i64 ch] w fun e w' => e = .returned (tup2 (.int .i64 (capL l ch)) (.int .i64 (trapC l ch))) ∧ w = w' := by
  obtain ⟨v0, ms, hc, rfl⟩ := h
  obtain ⟨A, c, _, hr⟩ := hc.rd
  exact cap_ok hr ch (fun m hm => hok.cap _ (List.mem_map.2 ⟨m, hm, rfl⟩))
theorem make_all {w : World} {F : Nat → Prop} {g N : Nat} {l : List Ch} (h : IsCh w F g l) (hok : Ok N l) (c : Int) (hno : makeNo l c = false) :
    Calls Try.prog 22 #[.pointer (some ⟨g, 0, none⟩), .int .i64 c] w (MakePost F g l c w) := by
  obtain ⟨v0, ms, hc, rfl⟩ := h
  exact make_ok hc c (by rw [← chs_len]; exact hok.len) hno
theorem make_all_no {w : World} {F : Nat → Prop} {g N : Nat} {l : List Ch} (h : IsCh w F g l) (hok : Ok N l) (c : Int) (hno : makeNo l c = true) :
    Calls Try.prog 22 #[.pointer (some ⟨g, 0, none⟩), .int .i64 c] w fun e w' => e = .returned (tup2 (.int .i64 0) (.int .i64 5)) ∧ w = w' := by
  obtain ⟨v0, ms, hc, rfl⟩ := h
  exact make_no hc c (by rw [← chs_len]; exact hok.len) hno
end Go.Proofs.Yteffmnohgnmanaa
/- rotalaw11.lives: the program's channel of one tells what it was sent. -/
namespace Go.Proofs.Yteffmnohgnmanaa
open Go.RowKit
/-- The channels l at g, in blocks that are new since w0; nothing old has changed. -/
structure Mine (w0 w : World) (F : Nat → Prop) (g : Nat) (l : List Ch) : Prop where
  is : IsCh w F g l
  new : ∀ k, F k → w0.heap.size ≤ k
  fr : Fr E0 w0 w
theorem Mine.step {w0 w w' : World} {F : Nat → Prop} {g : Nat} {l l' : List Ch} (h : Mine w0 w F g l) (hs : Step F g w l' w') : ∃ F', Mine w0 w' F' g l' ∧ (∀ k, F' k → F k ∨ w.heap.size ≤ k) ∧ Fr F w w' := by
  obtain ⟨F', i1, i2, i3⟩ := hs
  refine ⟨F', ⟨i1, fun k hk => ?_, h.fr.trans' i3 (fun k hk => .inr (h.new k hk))⟩, i2, i3⟩
  rcases i2 k hk with h1 | h1
  · exact h.new k h1
  · exact Nat.le_trans h.fr.size h1
theorem Mine.e0 {w0 w w' : World} {F : Nat → Prop} {g : Nat} {l : List Ch} (h : Mine w0 w F g l) (hf : Fr E0 w w') : Mine w0 w' F g l := ⟨h.is.fr hf (fun _ _ x => x), h.new, h.fr.trans hf⟩
theorem Mine.lt {w0 w : World} {F : Nat → Prop} {g : Nat} {l : List Ch} (h : Mine w0 w F g l) : ∀ k, F k → k < w.heap.size := by
  obtain ⟨_, _, hc, _⟩ := h.is; exact hc.lt
theorem Mine.mine_new {w w' : World} {g : Nat} (h : IsCh w' (fun k => w.heap.size ≤ k ∧ k < w'.heap.size) g []) (hf : Fr E0 w w') : Mine w w' (fun k => w.heap.size ≤ k ∧ k < w'.heap.size) g [] := ⟨h, fun _ hk => hk.1, hf⟩
set_option maxHeartbeats 2000000 in
theorem lives_ok (w : World) : Calls Try.prog 21 #[] w (Ret (.bool true) E0 w) := by
  go_enter Try.func21, Try.ntmps21
  go_wp2_with fail
  refine (new_ok w).mono ?_
  rintro e w1 ⟨g, rfl, hi, hf⟩
  have M1 := hid (Mine.mine_new hi hf)
  clear hi hf
  go_wp2_with fail
  refine (make_all M1.out.is ok_nil 1 rfl).mono ?_
  rintro e w2 ⟨rfl, hs⟩
  obtain ⟨F2, m2, _, _⟩ := M1.out.step hs
  have M2 := hid m2
  have K2 := hid (ok_nil.make (c := 1) rfl)
  clear hs m2
  simp only [tup2]
  go_wp2_with fail
  refine (send_all M2.out.is K2.out (by omega) 1 1 0 8).mono ?_
  rintro e w3 ⟨wv, rfl, hr3, hs3⟩
  obtain ⟨F3, m3, _, _⟩ := M2.out.step hs3
  rw [show sendL ([] ++ [newCh 1]) 1 1 0 8 = ([{ newCh 1 with vals := [8] }], { ok := true }, 0) from by decide] at m3 hr3 ⊢
  obtain ⟨A3, n3, c3, rfl⟩ := hr3.shape
  have M3 := hid m3
  have K3 := hid (K2.out.send 1 1 0 8)
  rw [show sendL ([] ++ [newCh 1]) 1 1 0 8 = ([{ newCh 1 with vals := [8] }], { ok := true }, 0) from by decide] at K3
  clear hs3 m3 hr3
  simp only [tup2, Mv.val]
  go_wp2_with fail
  generalize hW3 : w3.alloc (.cells #[.bool false, .int .i64 0, .bool true, .int .i64 0, .slice A3 n3 c3] 32) = W3
  have M3' := hid (hW3 ▸ M3.out.e0 (Fr.refl.alloc _))
  have b3 : W3.heap[w3.heap.size]? = some (.cells #[.bool false, .int .i64 0, .bool true, .int .i64 0, .slice A3 n3 c3] 32 (0, 0)) := hW3 ▸ heap_alloc_new w3 _
  have l3 := M3.out.lt
  clear hW3 M3
  refine (recv_all M3'.out.is K3.out (by omega) 1 2 0).mono ?_
  rintro e w4 ⟨wv, rfl, hr4, hs4⟩
  obtain ⟨F4, m4, _, f4⟩ := M3'.out.step hs4
  have b4 := f4.heapAt b3 (fun x => absurd (l3 _ x) (by omega))
  rw [show recvL [{ newCh 1 with vals := [8] }] 1 2 0 = ([newCh 1], { value := 8, ok := true }, 0) from by decide] at m4 hr4 ⊢
  obtain ⟨A4, n4, c4, rfl⟩ := hr4.shape
  clear hr4 hs4
  simp only [tup2, Mv.val]
  have f5 := hid (m4.fr.alloc (.cells #[.bool false, .int .i64 8, .bool true, .int .i64 0, .slice A4 n4 c4] 32))
  obtain ⟨⟨_, _, x2, _, _⟩, _⟩ := blk5 (t := 32) (((Fr.refl (S := E0)).alloc (.cells #[.bool false, .int .i64 8, .bool true, .int .i64 0, .slice A4 n4 c4] 32)).heapAt b4 (fun x => x))
  obtain ⟨⟨_, y1, y2, _, _⟩, _⟩ := blk5 (t := 32) (heap_alloc_new w4 (.cells #[.bool false, .int .i64 8, .bool true, .int .i64 0, .slice A4 n4 c4] 32))
  clear b4
  go_wp2
  go_ret
  exact ⟨rfl, f5.out⟩
end Go.Proofs.Yteffmnohgnmanaa
/- What every law's row wants: the argument's memory is as it was, so it reads as it did. -/
namespace Go.Proofs.Yteffmnohgnmanaa
open Go.ChangeShapes Go.WideShapes Go.ChangeAt Go.RowKit
theorem laid_ok : laidOutB Try.prog = true := by kernel_rfl
section
variable {H : Type} {enc : TypeId × Value → H} {W W' : World}
theorem stays {sp : Nat → Bool} (hb : Below W.heap.size W W') : ∀ {ts : List TypeId} {vs : List Value} {ds : List (DataW H)} {ps : List MemPlace}, DataW.TrodAll enc Try.prog W 0 (fun _ => true) true ts vs ds ps →
    (∀ t ∈ ts, Try.prog.readableRec t = true ∧ t < Try.prog.types.size) → (∀ x ∈ ps, x.block < W.heap.size ∧ sp x.block = true) → DataW.TrodAll enc Try.prog W' 0 sp true ts vs ds ps
  | [], _, _, _, h, _, _ => by
    obtain ⟨rfl, rfl, rfl⟩ := trodAll_nil h
    rfl
  | t :: ts, _, _, _, h, hr, hp => by
    obtain ⟨v, vs1, d, ds1, a, b, rfl, rfl, rfl, h1, h2⟩ := trodAll_cons h
    refine ⟨a, b, ?_, stays hb h2 (fun t ht => hr t (List.mem_cons_of_mem _ ht)) (fun x hx => hp x (List.mem_append_right _ hx)), rfl⟩
    have ht := hr t (List.mem_cons_self ..)
    exact WideElems.Trod_stays laid_ok ht.1 ht.2 h1 (fun x hx => hb.same (hp x (List.mem_append_left _ hx)).1) (fun x hx => (hp x (List.mem_append_left _ hx)).2)
set_option maxRecDepth 100000 in
theorem post_law {f : Func} {s : ChangeSpec} {args : Array Value} {ds gs : List (DataW H)} {before : List MemPlace} (hW : DataW.Whole enc Try.prog f.params.toList s.vars false W args.toList ds gs before) (hv : s.vars = [])
    (hr : (s.fn H (ds ++ gs)).results = [.lit (.bool true)]) (ha : (s.fn H (ds ++ gs)).args = ds) (hvv : (s.fn H (ds ++ gs)).vars = []) (hres : f.resultTypes = #[4])
    (hread : ∀ t ∈ f.params.toList, Try.prog.readableRec t = true ∧ t < Try.prog.types.size) (hf : Fr E0 W W') : s.post enc Try.prog f false true false false W args (.bool true) W' := by
  have hW' := hW
  obtain ⟨p, q, hA, hV, hb, hfz, hnd⟩ := hW
  rw [hv] at hV
  obtain ⟨rfl, rfl⟩ := trodVars_none hV
  rw [List.append_nil] at hb
  subst hb
  have hold : ∀ x ∈ before, x.block < W.heap.size := fun x hx => by simpa using hW'.lt x hx
  have hargs : ∀ sp : Nat → Bool, (∀ x ∈ before, sp x.block = true) → DataW.TrodAll enc Try.prog W' 0 sp true f.params.toList args.toList (s.fn H (ds ++ [])).args before := fun sp hsp => by
    rw [ha]; exact stays hf.below hA hread (fun x hx => ⟨hold x hx, hsp x hx⟩)
  have hvars : ∀ sp : Nat → Bool, DataW.TrodVars enc Try.prog W' sp s.vars (s.fn H (ds ++ [])).vars [] := fun sp => by rw [hv, hvv]; rfl
  have hres' : ∀ (b : Nat) (sp : Nat → Bool) (hd : Bool), DataW.TrodAll enc Try.prog W' b sp hd f.resultTypes.toList ((Value.bool true).resultList f.resultTypes.size) (s.fn H (ds ++ [])).results [] := fun b sp hd => by
    rw [hr, hres]; exact trodAll_mk1 (shut_bool Try.underlying4 _)
  refine ⟨ds, [], before, [], before, [], hW', hres' _ _ _, hargs _ (fun x hx => by simpa using hold x hx), hvars _, hf.below.frame _, fun _ => ?_⟩
  refine ⟨ok_one hres rfl (okWide_bool_mk Try.underlying4 _), _, _, ([] ++ before) ++ [], ⟨[] ++ before, [], trodAll_append (hargs _ (fun _ _ => rfl)) (hres' _ _ _), hvars _, rfl, ?_, ?_⟩, ?_⟩
  · intro b off hx
    have hx' : MemPlace.cell b off ∈ before := by simpa using hx
    rw [World.frozen?_of_block (w := W) (hf.block b (hold _ hx') (fun x => x))]
    exact hfz b off (by simpa using hx')
  · intro hx; cases hx
  · intro x hx _
    simpa using hx
end
end Go.Proofs.Yteffmnohgnmanaa
/- Arguments as plain data: rows of numbers and of bools; how many, by the bound. -/
namespace Go.Proofs.Yteffmnohgnmanaa
open Go.ChangeShapes Go.WideShapes Go.ChangeAt Go.RowKit
def bools (l : List Bool) : List Value := l.map .bool
theorem rdA_of {w : World} {a : Addr} {xs : List Value} (h : ∀ i u, xs[i]? = some u → w.cell? (a.add i) = some u) : RdA w (some a) xs := by
  cases xs with
  | nil => exact .inl rfl
  | cons x r =>
    obtain ⟨b, o, spot⟩ := a
    have h0 := h 0 x rfl
    have hs : spot = none := by simpa [Addr.add] using World.cell?_spot h0
    subst hs
    exact .inr ⟨b, o, rfl, fun j u hu => by rw [← Addr.add_lit]; exact h j u hu⟩
theorem bulk_one {H : Type} (d : DataW H) : 1 ≤ Rows.uptoBulk d := by
  cases d with
  | lit l => cases l <;> simp [Rows.uptoBulk]
  | nil => simp [Rows.uptoBulk]
  | ptr d => simp [Rows.uptoBulk]
  | slice elems spare => simp [Rows.uptoBulk]
  | agg parts => simp [Rows.uptoBulk]
  | iface t d => simp [Rows.uptoBulk]
  | map entries => simp [Rows.uptoBulk]
  | held h => simp [Rows.uptoBulk]
theorem bulk_len {H : Type} (l : List (DataW H)) : l.length ≤ Rows.uptoBulkAll l := by
  induction l with
  | nil => simp [Rows.uptoBulkAll]
  | cons x r ih => have := bulk_one x; simp only [Rows.uptoBulkAll, List.length_cons]; omega
theorem bulk_mem {H : Type} {d : DataW H} {l : List (DataW H)} (h : d ∈ l) : Rows.uptoBulk d ≤ Rows.uptoBulkAll l := by
  induction l with
  | nil => cases h
  | cons x r ih =>
    simp only [Rows.uptoBulkAll]
    rcases List.mem_cons.1 h with e | e
    · subst e; omega
    · have := ih e; omega
theorem bulk_slice {H : Type} (elems spare : List (DataW H)) : Rows.uptoBulkAll elems + 1 ≤ Rows.uptoBulk (.slice elems spare) := by
  simp only [Rows.uptoBulk]; omega
theorem small {H : Type} {l : List (DataW H)} (hk : Rows.uptoSmall H l = true) : Rows.uptoBulkAll l ≤ 1048576 := of_decide_eq_true hk
section
variable {H : Type} {enc : TypeId × Value → H} {W : World} {base : Nat} {v : Value} {d : DataW H} {p : List MemPlace} {r : Reach}
theorem cells2 : Try.prog.cellsOf 2 = 1 := by kernel_rfl
theorem cells4 : Try.prog.cellsOf 4 = 1 := by kernel_rfl
set_option maxRecDepth 100000 in
theorem open_intsV {t e : TypeId} {k : IntKind} (ht : Try.prog.underlying t = some (.slice e)) (he : Try.prog.underlying e = some (.int k)) (hc : Try.prog.cellsOf e = 1) (hv : Value.okWide Try.prog W r base t v) (h : DataW.Trod enc Try.prog W 0 (fun _ => true) true t v d p) :
    ∃ l : List Int, RdV W v 1 (l.map (Value.int k)) ∧ l.length ≤ Rows.uptoBulk d ∧ ∀ n ∈ l, (Lit.int k n).wf = true := by
  obtain ⟨a0, len0, cap0, rfl⟩ := okWide_slice ht hv
  obtain ⟨fuel, hf⟩ := h
  rcases open_ints ht he hc hf with ⟨hcs, hx⟩ | ⟨a, len, cap, zs, hcs, _, hl, hm, hz, hx, hcell, hwf⟩
  · simp only [Value.cells, List.cons.injEq, Value.slice.injEq] at hcs
    obtain ⟨⟨rfl, rfl, rfl⟩, _⟩ := hcs
    exact ⟨[], ⟨none, 0, 0, rfl, rfl, Nat.le_refl _, Nat.zero_le _, .inl rfl⟩, Nat.zero_le _, by simp⟩
  · simp only [Value.cells, List.cons.injEq, Value.slice.injEq] at hcs
    obtain ⟨⟨rfl, rfl, rfl⟩, _⟩ := hcs
    simp only [if_true] at hz
    have hlen : (zs.take len0).length = len0 := by simp; omega
    refine ⟨zs.take len0, ⟨_, _, _, rfl, by simp; omega, hl, hm, rdA_of (fun i u hu => ?_)⟩, ?_, fun n hn => hwf n (List.mem_of_mem_take hn)⟩
    · rw [List.getElem?_map] at hu
      obtain ⟨z, hz1, rfl⟩ := Option.map_eq_some_iff.1 hu
      have hi : i < len0 := by have := (List.getElem?_eq_some_iff.1 hz1).1; rwa [hlen] at this
      rw [List.getElem?_take_of_lt hi] at hz1
      have := hcell i (by omega)
      rw [this]; simp [List.getD, hz1]
    · injection hx with hx1 _
      subst hx1
      have h1 := bulk_slice (H := H) (lits k (zs.take len0)) (lits k (zs.drop len0))
      have h2 := bulk_len (H := H) (lits k (zs.take len0))
      have h3 : (lits (H := H) k (zs.take len0)).length = (zs.take len0).length := by simp [lits]
      omega
set_option maxRecDepth 100000 in
theorem open_boolsV {t e : TypeId} (ht : Try.prog.underlying t = some (.slice e)) (he : Try.prog.underlying e = some .bool) (hc : Try.prog.cellsOf e = 1) (hv : Value.okWide Try.prog W r base t v) (h : DataW.Trod enc Try.prog W 0 (fun _ => true) true t v d p) :
    ∃ l : List Bool, RdV W v 1 (bools l) ∧ l.length ≤ Rows.uptoBulk d := by
  obtain ⟨a0, len0, cap0, rfl⟩ := okWide_slice ht hv
  obtain ⟨fuel, hf⟩ := h
  rcases Go.Deep.open_slice1 ht hc hf with ⟨hcs, hx⟩ | ⟨a, len, cap, m, n, V, D, Pl, hcs, _, hl, hm, hmm, hx, hcell⟩
  · simp only [Value.cells, List.cons.injEq, Value.slice.injEq] at hcs
    obtain ⟨⟨rfl, rfl, rfl⟩, _⟩ := hcs
    exact ⟨[], ⟨none, 0, 0, rfl, rfl, Nat.le_refl _, Nat.zero_le _, .inl rfl⟩, Nat.zero_le _⟩
  · simp only [Value.cells, List.cons.injEq, Value.slice.injEq] at hcs
    obtain ⟨⟨rfl, rfl, rfl⟩, _⟩ := hcs
    simp only [if_true] at hmm
    subst hmm
    have hb : ∀ i, i < m → ∃ b, V i = .bool b := fun i hi => by
      obtain ⟨b, h1, _⟩ := DataW.trod_bool he (hcell i hi).2
      exact ⟨b, by simpa using h1⟩
    refine ⟨(List.range len0).map (fun i => match V i with | .bool b => b | _ => false), ⟨_, _, _, rfl, by simp [bools], hl, hm, rdA_of (fun i u hu => ?_)⟩, ?_⟩
    · simp only [bools, List.map_map] at hu
      rw [List.getElem?_map] at hu
      obtain ⟨j, hj, rfl⟩ := Option.map_eq_some_iff.1 hu
      have hi : i < len0 := by have := (List.getElem?_eq_some_iff.1 hj).1; simpa using this
      rw [List.getElem?_range hi] at hj
      cases hj
      rw [(hcell i (by omega)).1]
      obtain ⟨b, hb'⟩ := hb i (by omega)
      simp [hb']
    · injection hx with hx1 _
      subst hx1
      have h1 := bulk_slice (H := H) ((List.range len0).map D) ((List.range (m - len0)).map fun j => D (len0 + j))
      have h2 := bulk_len (H := H) ((List.range len0).map D)
      simp at h2 ⊢
      omega
end
end Go.Proofs.Yteffmnohgnmanaa
/- What an argument reads as, as plain data: numbers, bools, structs of them, rows of them. -/
namespace Go.Proofs.Yteffmnohgnmanaa
open Go.ChangeShapes Go.WideShapes Go.ChangeAt Go.RowKit
/-- Cells of type t are f a for some a that Q holds of; and a weighs no more than the datum. -/
def Opens (t : TypeId) {α : Type} (f : α → List Value) (Q : World → α → Prop) (wt : α → Nat) : Prop :=
  ∀ (H : Type) (enc : TypeId × Value → H) (W : World) (fuel : Nat) (cs : List Value) (x : DataW H × List MemPlace), DataW.trod enc Try.prog W 0 (fun _ => true) true fuel t cs = some x → ∃ a, cs = f a ∧ Q W a ∧ wt a ≤ Rows.uptoBulk x.1
def wfI (k : IntKind) : World → Int → Prop := fun _ n => (Lit.int k n).wf = true
theorem opens_int {t : TypeId} {k : IntKind} (ht : Try.prog.underlying t = some (.int k)) : Opens t (fun n : Int => [.int k n]) (wfI k) (fun _ => 1) := by
  intro H enc W fuel cs x h
  obtain ⟨n, h1, rfl, hw⟩ := DataW.trod_int ht h
  exact ⟨n, h1, hw, by simp [Rows.uptoBulk]⟩
theorem opens_bool {t : TypeId} (ht : Try.prog.underlying t = some .bool) : Opens t (fun b : Bool => [.bool b]) (fun _ _ => True) (fun _ => 1) := by
  intro H enc W fuel cs x h
  obtain ⟨b, h1, rfl⟩ := DataW.trod_bool ht h
  exact ⟨b, h1, trivial, by simp [Rows.uptoBulk]⟩
theorem Opens.map {t : TypeId} {α β : Type} {f : α → List Value} {Q : World → α → Prop} {wt : α → Nat} (h : Opens t f Q wt) {f' : β → List Value} {Q' : World → β → Prop} {wt' : β → Nat} (g : α → β) (hf : ∀ a, f a = f' (g a)) (hQ : ∀ W a, Q W a → Q' W (g a)) (hw : ∀ a, wt' (g a) ≤ wt a) : Opens t f' Q' wt' := by
  intro H enc W fuel cs x hx
  obtain ⟨a, h1, h2, h3⟩ := h H enc W fuel cs x hx
  exact ⟨g a, h1.trans (hf a), hQ W a h2, Nat.le_trans (hw a) h3⟩
/-! ### a struct's fields, one behind the other -/
def OpensF (total : Nat) (fs : List Field) (off : Nat) {α : Type} (f : α → List Value) (Q : World → α → Prop) (wt : α → Nat) : Prop :=
  ∀ (H : Type) (enc : TypeId × Value → H) (W : World) (n : Nat) (cs : List Value) (xs : List (DataW H × List MemPlace)), cs.length = total → xs.length = fs.length →
    (∀ (i : Nat) (fd : Field), fs[i]? = some fd → DataW.trod enc Try.prog W 0 (fun _ => true) true n fd.type ((cs.drop fd.offset).take (Try.prog.cellsOf fd.type)) = xs[i]?) →
    ∃ a, cs.drop off = f a ∧ Q W a ∧ wt a ≤ Rows.uptoBulkAll (xs.map (·.1))
theorem opensF_nil (total : Nat) : OpensF total [] total (fun _ : Unit => []) (fun _ _ => True) (fun _ => 0) := by
  intro H enc W n cs xs hc _ _
  exact ⟨(), by rw [← hc]; simp, trivial, Nat.zero_le _⟩
theorem OpensF.cons {total off sz : Nat} {fd : Field} {fs : List Field} {α β : Type} {f : α → List Value} {Q : World → α → Prop} {wt : α → Nat} {f' : β → List Value} {Q' : World → β → Prop} {wt' : β → Nat}
    (ho : fd.offset = off) (hs : Try.prog.cellsOf fd.type = sz) (h : Opens fd.type f Q wt) (hr : OpensF total fs (off + sz) f' Q' wt') :
    OpensF total (fd :: fs) off (fun ab : α × β => f ab.1 ++ f' ab.2) (fun W ab => Q W ab.1 ∧ Q' W ab.2) (fun ab => wt ab.1 + wt' ab.2) := by
  intro H enc W n cs xs hc hx hf
  cases xs with
  | nil => simp at hx
  | cons x xs =>
    have h0 := hf 0 fd rfl
    rw [ho, hs] at h0
    obtain ⟨a, ha, hq, hw⟩ := h H enc W n _ x h0
    obtain ⟨b, hb, hq', hw'⟩ := hr H enc W n cs xs hc (by simpa using hx) (fun i g hg => by have := hf (i + 1) g (by simpa using hg); simpa using this)
    refine ⟨(a, b), ?_, ⟨hq, hq'⟩, ?_⟩
    · show cs.drop off = f a ++ f' b
      rw [← ha, ← hb, ← List.drop_drop]
      exact (List.take_append_drop sz (cs.drop off)).symm
    · simp only [List.map_cons, Rows.uptoBulkAll]; omega
theorem opens_struct {t : TypeId} {fs : Array Field} {total : Nat} {α : Type} {f : α → List Value} {Q : World → α → Prop} {wt : α → Nat} (ht : Try.prog.underlying t = some (.struct fs)) (hc : Try.prog.cellsOf t = total) (h : OpensF total fs.toList 0 f Q wt) : Opens t f Q (fun a => wt a + 1) := by
  intro H enc W fuel cs x hx
  obtain ⟨xs, n, _, rfl, hl, hxl, hf⟩ := DataW.trod_struct ht hx
  obtain ⟨a, ha, hq, hw⟩ := h H enc W n cs xs (hl.trans hc) (by simpa using hxl) (fun i fd hi => hf i fd (by simpa using hi))
  exact ⟨a, by simpa using ha, hq, by simp only [Rows.uptoBulk]; omega⟩
/-- A row: the slice's value, and what lies there. -/
def RowQ {α : Type} (sz : Nat) (f : α → List Value) (Q : World → α → Prop) (W : World) (vl : Value × List α) : Prop := RdV W vl.1 sz (vl.2.flatMap f) ∧ ∀ a ∈ vl.2, Q W a
theorem opens_slice {t e : TypeId} {sz : Nat} {α : Type} {f : α → List Value} {Q : World → α → Prop} {wt : α → Nat} (ht : Try.prog.underlying t = some (.slice e)) (hc : Try.prog.cellsOf e = sz) (hpos : 0 < sz) (hf : ∀ a, (f a).length = sz) (h : Opens e f Q wt) :
    Opens t (fun vl : Value × List α => [vl.1]) (RowQ sz f Q) (fun vl => (vl.2.map wt).sum + 1) := by
  intro H enc W fuel cs x hx
  rcases Go.Deep.open_slice ht hx with ⟨rfl, rfl⟩ | ⟨a, len, cap, m, n, D, Pl, rfl, _, hl, hm, hmm, rfl, hcell⟩
  · exact ⟨(.slice none 0 0, []), rfl, ⟨⟨none, 0, 0, rfl, by simp, Nat.le_refl _, Nat.zero_le _, .inl rfl⟩, by simp⟩, by simp [Rows.uptoBulk]⟩
  · simp only [if_true] at hmm
    subst hmm
    rw [hc] at hcell
    have each : ∀ i, i < m → ∃ z : α, W.cells? 0 (a.add (i * sz)) sz = some (f z) ∧ Q W z ∧ wt z ≤ Rows.uptoBulk (D i) := fun i hi => by
      obtain ⟨cs', h1, h2⟩ := hcell i hi
      obtain ⟨z, rfl, hq, hw⟩ := h H enc W n cs' _ h2
      exact ⟨z, h1, hq, hw⟩
    have all : ∀ k, k ≤ len → ∃ l : List α, l.length = k ∧ (∀ i z, l[i]? = some z → W.cells? 0 (a.add (i * sz)) sz = some (f z)) ∧ (∀ z ∈ l, Q W z) ∧ (l.map wt).sum ≤ Rows.uptoBulkAll ((List.range k).map D) := by
      intro k
      induction k with
      | zero => intro _; exact ⟨[], rfl, by simp, by simp, by simp⟩
      | succ k ih =>
        intro hk
        obtain ⟨l, h1, h2, h3, h4⟩ := ih (by omega)
        obtain ⟨z, z1, z2, z3⟩ := each k (by omega)
        refine ⟨l ++ [z], by simp [h1], ?_, ?_, ?_⟩
        · intro i y hy
          rcases Nat.lt_or_ge i l.length with hi | hi
          · rw [List.getElem?_append_left hi] at hy; exact h2 i y hy
          · rw [List.getElem?_append_right hi] at hy
            have hi' : i - l.length = 0 := by
              rcases Nat.eq_zero_or_pos (i - l.length) with h | h
              · exact h
              · rw [List.getElem?_eq_none (by simp; omega)] at hy; cases hy
            rw [hi'] at hy
            simp at hy
            subst hy
            have : i = k := by omega
            subst this; exact z1
        · intro y hy
          rcases List.mem_append.1 hy with hy | hy
          · exact h3 y hy
          · simp at hy; subst hy; exact z2
        · have e : ∀ (u v : List (DataW H)), Rows.uptoBulkAll (u ++ v) = Rows.uptoBulkAll u + Rows.uptoBulkAll v := by
            intro u v
            induction u with
            | nil => simp [Rows.uptoBulkAll]
            | cons p q ihq => simp only [List.cons_append, Rows.uptoBulkAll, ihq]; omega
          rw [List.range_succ, List.map_append (f := D), e]
          simp [Rows.uptoBulkAll]
          omega
    obtain ⟨l, h1, h2, h3, h4⟩ := all len (Nat.le_refl _)
    refine ⟨(.slice (some a) len m, l), rfl, ⟨⟨_, _, _, rfl, ?_, hl, hm, rdA_of (fun j u hu => ?_)⟩, h3⟩, ?_⟩
    · show (l.flatMap f).length = len * sz
      rw [flat_len hf, h1]
    · show W.cell? (a.add j) = some u
      have hj : j < l.length * sz := by rw [← flat_len hf l]; exact (List.getElem?_eq_some_iff.1 hu).1
      have hq : j / sz < l.length := by rw [Nat.div_lt_iff_lt_mul hpos]; exact hj
      obtain ⟨z, hz⟩ : ∃ z, l[j / sz]? = some z := ⟨_, List.getElem?_eq_getElem hq⟩
      have hdm : j / sz * sz + j % sz = j := by rw [Nat.mul_comm]; exact Nat.div_add_mod j sz
      have hr := Nat.mod_lt j hpos
      have hu' : (f z)[j % sz]? = some u := by
        rw [← flat_get hf l (j / sz) (j % sz) z hz hr, hdm]; exact hu
      have hcz := (World.cells?_some (h2 _ _ hz)).2.2 (j % sz) hr
      rw [Addr.add_add, hdm, hu'] at hcz
      exact hcz
    · have := bulk_slice (H := H) ((List.range len).map D) ((List.range (m - len)).map fun j => D (len + j))
      show (l.map wt).sum + 1 ≤ Rows.uptoBulk (DataW.slice (List.map D (List.range len)) (List.map (fun j => D (len + j)) (List.range (m - len))))
      omega

theorem flatMap_one {α β : Type} (g : α → β) (l : List α) : l.flatMap (fun a => [g a]) = l.map g := by
  induction l with
  | nil => rfl
  | cons x r ih => simp [ih]
theorem sum_one {α : Type} (l : List α) : (l.map fun _ => 1).sum = l.length := by
  induction l with
  | nil => rfl
  | cons x r ih => simp [ih]; omega
/-! ### the types of these laws -/
theorem opens_3 : Opens 3 (fun n : Int => [.int .i64 n]) (wfI .i64) (fun _ => 1) := opens_int Try.underlying3
theorem opens_2 : Opens 2 (fun n : Int => [.int .i64 n]) (wfI .i64) (fun _ => 1) := opens_int Try.underlying2
theorem opens_4 : Opens 4 (fun b : Bool => [.bool b]) (fun _ _ => True) (fun _ => 1) := opens_bool Try.underlying4
theorem opens_75 : Opens 75 (fun n : Int => [.int .u64 n]) (wfI .u64) (fun _ => 1) := opens_int Try.underlying75
theorem cells3 : Try.prog.cellsOf 3 = 1 := by kernel_rfl
theorem cells37 : Try.prog.cellsOf 37 = 2 := by kernel_rfl
theorem cells78 : Try.prog.cellsOf 78 = 3 := by kernel_rfl
theorem cells75 : Try.prog.cellsOf 75 = 1 := by kernel_rfl
theorem cells42 : Try.prog.cellsOf 42 = 1 := by kernel_rfl
theorem cells43 : Try.prog.cellsOf 43 = 1 := by kernel_rfl
theorem cells45 : Try.prog.cellsOf 45 = 5 := by kernel_rfl
/-- A case of a select. -/
structure Pk where
  send : Bool
  ch : Int
  v : Int
  deriving DecidableEq
def Pk.cells (p : Pk) : List Value := [.bool p.send, .int .i64 p.ch, .int .i64 p.v]
def Pk.val (p : Pk) : Value := .agg #[.bool p.send, .int .i64 p.ch, .int .i64 p.v]
def Pk.wf (p : Pk) : Prop := (Lit.int .i64 p.ch).wf = true ∧ (Lit.int .i64 p.v).wf = true
def pks (l : List Pk) : List Value := l.flatMap Pk.cells
theorem opens_pk : Opens 78 Pk.cells (fun _ p => p.wf) (fun _ => 1) :=
  (opens_struct (total := 3) Try.underlying78 cells78 (.cons (sz := 1) rfl cells4 opens_4 (.cons (sz := 1) rfl cells2 opens_2 (.cons (sz := 1) rfl cells2 opens_2 (opensF_nil 3))))).map
    (fun a => ⟨a.1, a.2.1, a.2.2.1⟩) (fun _ => rfl) (fun _ _ h => ⟨h.2.1, h.2.2.1⟩) (fun _ => by simp)
theorem opens_gid : Opens 37 (fun g : Int × Int => [.int .i64 g.1, .int .i64 g.2]) (fun _ g => (Lit.int .i64 g.1).wf = true ∧ (Lit.int .i64 g.2).wf = true) (fun _ => 1) :=
  (opens_struct (total := 2) Try.underlying37 cells37 (.cons (sz := 1) rfl cells3 opens_3 (.cons (sz := 1) rfl cells3 opens_3 (opensF_nil 2)))).map
    (fun a => (a.1, a.2.1)) (fun _ => rfl) (fun _ _ h => ⟨h.1, h.2.1⟩) (fun _ => by simp)
/-- A select that is asked: who, of what; the two slices' values beside what lies there. -/
structure Ask where
  gs : Int
  gg : Int
  cv : Value
  cases : List Pk
  deflt : Bool
  dv : Value
  draws : List Int
def Ask.cells (x : Ask) : List Value := [.int .i64 x.gs, .int .i64 x.gg, x.cv, .bool x.deflt, x.dv]
structure Ask.Ok (W : World) (x : Ask) : Prop where
  g : (Lit.int .i64 x.gs).wf = true ∧ (Lit.int .i64 x.gg).wf = true
  c : RdV W x.cv 3 (pks x.cases)
  cw : ∀ p ∈ x.cases, p.wf
  d : RdV W x.dv 1 (x.draws.map (Value.int .u64))
  dw : ∀ n ∈ x.draws, (Lit.int .u64 n).wf = true
theorem opens_ask : Opens 45 Ask.cells Ask.Ok (fun x => x.cases.length + x.draws.length) :=
  (opens_struct (total := 5) Try.underlying45 cells45 (.cons (sz := 2) rfl cells37 opens_gid (.cons (sz := 1) rfl cells42 (opens_slice Try.underlying42 cells78 (by decide) (fun _ => rfl) opens_pk)
    (.cons (sz := 1) rfl cells4 opens_4 (.cons (sz := 1) rfl cells43 (opens_slice Try.underlying43 cells75 (by decide) (fun _ => rfl) opens_75) (opensF_nil 5)))))).map
    (fun a => ⟨a.1.1, a.1.2, a.2.1.1, a.2.1.2, a.2.2.1, a.2.2.2.1.1, a.2.2.2.1.2⟩) (fun _ => rfl)
    (fun W a h => ⟨h.1, h.2.1.1, h.2.1.2, by have := h.2.2.2.1.1; rw [flatMap_one] at this; exact this, h.2.2.2.1.2⟩) (fun a => by simp [sum_one]; omega)
end Go.Proofs.Yteffmnohgnmanaa
/- choose.trap, over whatever Goes tells. -/
namespace Go.Proofs.Yteffmnohgnmanaa
open Go.RowKit
/-- What Goes tells of a receiver, in every world that has grown from w. -/
def GoesAs (C : Value) (w : World) (gf : Int → Bool → Bool) (tf : Int → Int) : Prop :=
  ∀ w', Fr E0 w w' → ∀ ch send, Calls Try.prog 46 #[C, .int .i64 ch, .bool send] w' (Ret (tup2 (.bool (gf ch send)) (.int .i64 (tf ch))) E0 w')
theorem goesAs_none (w : World) : GoesAs (.pointer none) w (fun _ _ => false) (fun _ => 4) := fun w1 _ ch send => (goes_none ch send w1).mono fun _ _ ⟨h, e⟩ => ⟨h, e ▸ Fr.refl⟩
theorem goesAs_ch {w : World} {F : Nat → Prop} {g : Nat} {l : List Ch} (h : IsCh w F g l) : GoesAs (.pointer (some ⟨g, 0, none⟩)) w (goesL l) (trapC l) := fun _ hf ch send => goes_all (h.fr hf (fun _ _ x => x)) ch send
def trapP (tf : Int → Int) : List Pk → Int
  | [] => 0
  | p :: r => if tf p.ch = 0 then trapP tf r else tf p.ch
theorem pk_at {w : World} {b o k : Nat} {l : List Pk} {p : Pk} (h : RdL w b o (pks l)) (hp : l[k]? = some p) :
    w.cell? ⟨b, o + k * 3, none⟩ = some (.bool p.send) ∧ w.cell? ⟨b, o + k * 3 + 1, none⟩ = some (.int .i64 p.ch) ∧ w.cell? ⟨b, o + k * 3 + 2, none⟩ = some (.int .i64 p.v) := by
  have e : ∀ j, j < 3 → (pks l)[k * 3 + j]? = p.cells[j]? := fun j hj => flat_get (f := Pk.cells) (sz := 3) (fun _ => rfl) l k j p hp hj
  refine ⟨?_, ?_, ?_⟩
  · have := h (k * 3 + 0) (.bool p.send) ((e 0 (by omega)).trans rfl); simpa using this
  · have := h (k * 3 + 1) (.int .i64 p.ch) ((e 1 (by omega)).trans rfl); simpa [Nat.add_assoc] using this
  · have := h (k * 3 + 2) (.int .i64 p.v) ((e 2 (by omega)).trans rfl); simpa [Nat.add_assoc] using this
theorem trapP_next {tf : Int → Int} {l : List Pk} {k : Nat} {p : Pk} (hp : l[k]? = some p) : trapP tf (l.drop k) = if tf p.ch = 0 then trapP tf (l.drop (k + 1)) else tf p.ch := by
  obtain ⟨hk, rfl⟩ := List.getElem?_eq_some_iff.1 hp
  rw [List.drop_eq_getElem_cons hk]; rfl
set_option maxHeartbeats 1000000 in
theorem trap_ok {C : Value} {w : World} {gf : Int → Bool → Bool} {tf : Int → Int} (hC : GoesAs C w gf tf) (l : List Pk) (v : Value) (hv : RdV w v 3 (pks l)) (hn : l.length ≤ 1048576) :
    Calls Try.prog 57 #[C, v] w (Ret (.int .i64 (trapP tf l)) E0 w) := by
  obtain ⟨A, n, c, rfl, hl, _, _, hr⟩ := hv
  obtain rfl : l.length = n := by have := flat_len (f := Pk.cells) (sz := 3) (fun _ => rfl) l; unfold pks at hl; omega
  have HR := hid hr
  have HC := hid hC
  clear hl hr hC
  go_enter Try.func57, Try.ntmps57
  go_wp2_with fail
  go_loopw [11] (fun i wr => ∃ k : Nat, i = .int .i64 k ∧ k ≤ l.length ∧ trapP tf (l.drop k) = trapP tf l ∧ Fr E0 w wr) (fun i _ => l.length - (intOf i).toNat)
  case atStart => exact ⟨0, rfl, Nat.zero_le _, rfl, Fr.refl⟩
  case round =>
    obtain ⟨k, rfl, hk, he, hf⟩ := hrel
    have HF := hid hf
    have HE := hid he
    clear hf he
    by_cases hlt : k < l.length
    · obtain ⟨p, hp⟩ : ∃ p, l[k]? = some p := ⟨_, List.getElem?_eq_getElem hlt⟩
      obtain ⟨b, o, rfl, r⟩ := HR.out.at (fun e => by have := congrArg List.length e; rw [pks, flat_len (f := Pk.cells) (sz := 3) (fun _ => rfl) l] at this; simp at this; omega)
      obtain ⟨c0, c1, c2⟩ := pk_at (r.fr HF.out (fun x => x)) hp
      have HP := hid hp
      clear r hp
      go_wp2_with fail
      refine (HC.out _ (HF.out.alloc _) p.ch p.send).mono ?_
      rintro e w2 ⟨rfl, hf2⟩
      have HF2 := hid ((HF.out.alloc _).trans hf2)
      clear hf2
      simp only [tup2]
      have hx := trapP_next (tf := tf) HP.out
      by_cases ht : tf p.ch = 0
      · rw [if_pos ht] at hx
        have HX := hid hx
        clear hx
        go_wp2_with fail
        go_roundw
        case rel => exact ⟨k + 1, by simp, by omega, HX.out.symm.trans HE.out, HF2.out⟩
        case measure => simp [intOf]; omega
      · rw [if_neg ht] at hx
        have HX := hid (hx.symm.trans HE.out)
        clear hx
        go_wp2_with fail
        go_ret
        exact ⟨by rw [← HX.out]; rfl, HF2.out⟩
    · obtain rfl : k = l.length := by omega
      clear hlt hk
      have HE' : Hid (trapP tf l = 0) := by have := HE.out; rw [List.drop_length] at this; exact this.symm
      go_wp2_with fail
      go_ret
      exact ⟨by rw [HE'.out]; rfl, HF.out⟩
end Go.Proofs.Yteffmnohgnmanaa
/- A select's answer: a block of seven cells. -/
namespace Go.Proofs.Yteffmnohgnmanaa
open Go.RowKit
theorem blk7 {w : World} {B : Nat} {x0 x1 x2 x3 x4 x5 x6 : Value} {t : TypeId} (h : w.heap[B]? = some (.cells #[x0, x1, x2, x3, x4, x5, x6] t (0, 0))) :
    (w.cell? ⟨B, 0, none⟩ = some x0 ∧ w.cell? ⟨B, 1, none⟩ = some x1 ∧ w.cell? ⟨B, 2, none⟩ = some x2 ∧ w.cell? ⟨B, 3, none⟩ = some x3 ∧ w.cell? ⟨B, 4, none⟩ = some x4 ∧ w.cell? ⟨B, 5, none⟩ = some x5 ∧ w.cell? ⟨B, 6, none⟩ = some x6) ∧ (w.frozen? ⟨B, 0, none⟩ = false ∧ w.frozen? ⟨B, 1, none⟩ = false ∧ w.frozen? ⟨B, 2, none⟩ = false ∧ w.frozen? ⟨B, 3, none⟩ = false ∧ w.frozen? ⟨B, 4, none⟩ = false ∧ w.frozen? ⟨B, 5, none⟩ = false ∧ w.frozen? ⟨B, 6, none⟩ = false) :=
  ⟨⟨cell_of_row w _ 0 _ _ _ h, cell_of_row w _ 1 _ _ _ h, cell_of_row w _ 2 _ _ _ h, cell_of_row w _ 3 _ _ _ h, cell_of_row w _ 4 _ _ _ h, cell_of_row w _ 5 _ _ _ h, cell_of_row w _ 6 _ _ _ h⟩, ⟨frozen_of_row w _ 0 _ _ h, frozen_of_row w _ 1 _ _ h, frozen_of_row w _ 2 _ _ h, frozen_of_row w _ 3 _ _ h, frozen_of_row w _ 4 _ _ h, frozen_of_row w _ 5 _ _ h, frozen_of_row w _ 6 _ _ h⟩⟩
def set7 (w : World) (B : Nat) (y0 y1 y2 y3 y4 y5 y6 : Value) : World := (((((((w).setCell ⟨B, 0, none⟩ y0).setCell ⟨B, 1, none⟩ y1).setCell ⟨B, 2, none⟩ y2).setCell ⟨B, 3, none⟩ y3).setCell ⟨B, 4, none⟩ y4).setCell ⟨B, 5, none⟩ y5).setCell ⟨B, 6, none⟩ y6
theorem set7_heap {w : World} {B : Nat} {x0 x1 x2 x3 x4 x5 x6 : Value} {t : TypeId} (h : w.heap[B]? = some (.cells #[x0, x1, x2, x3, x4, x5, x6] t (0, 0))) (y0 y1 y2 y3 y4 y5 y6 : Value) : (set7 w B y0 y1 y2 y3 y4 y5 y6).heap[B]? = some (.cells #[y0, y1, y2, y3, y4, y5, y6] t (0, 0)) := by
  unfold set7
  have h0 : (World.setCell w ⟨B, 0, none⟩ y0).heap[B]? = some (.cells #[y0, x1, x2, x3, x4, x5, x6] t (0, 0)) := heap_setCell_same _ B 0 _ t y0 h
  have h1 : (World.setCell (World.setCell w ⟨B, 0, none⟩ y0) ⟨B, 1, none⟩ y1).heap[B]? = some (.cells #[y0, y1, x2, x3, x4, x5, x6] t (0, 0)) := heap_setCell_same _ B 1 _ t y1 h0
  have h2 : (World.setCell (World.setCell (World.setCell w ⟨B, 0, none⟩ y0) ⟨B, 1, none⟩ y1) ⟨B, 2, none⟩ y2).heap[B]? = some (.cells #[y0, y1, y2, x3, x4, x5, x6] t (0, 0)) := heap_setCell_same _ B 2 _ t y2 h1
  have h3 : (World.setCell (World.setCell (World.setCell (World.setCell w ⟨B, 0, none⟩ y0) ⟨B, 1, none⟩ y1) ⟨B, 2, none⟩ y2) ⟨B, 3, none⟩ y3).heap[B]? = some (.cells #[y0, y1, y2, y3, x4, x5, x6] t (0, 0)) := heap_setCell_same _ B 3 _ t y3 h2
  have h4 : (World.setCell (World.setCell (World.setCell (World.setCell (World.setCell w ⟨B, 0, none⟩ y0) ⟨B, 1, none⟩ y1) ⟨B, 2, none⟩ y2) ⟨B, 3, none⟩ y3) ⟨B, 4, none⟩ y4).heap[B]? = some (.cells #[y0, y1, y2, y3, y4, x5, x6] t (0, 0)) := heap_setCell_same _ B 4 _ t y4 h3
  have h5 : (World.setCell (World.setCell (World.setCell (World.setCell (World.setCell (World.setCell w ⟨B, 0, none⟩ y0) ⟨B, 1, none⟩ y1) ⟨B, 2, none⟩ y2) ⟨B, 3, none⟩ y3) ⟨B, 4, none⟩ y4) ⟨B, 5, none⟩ y5).heap[B]? = some (.cells #[y0, y1, y2, y3, y4, y5, x6] t (0, 0)) := heap_setCell_same _ B 5 _ t y5 h4
  have h6 : (World.setCell (World.setCell (World.setCell (World.setCell (World.setCell (World.setCell (World.setCell w ⟨B, 0, none⟩ y0) ⟨B, 1, none⟩ y1) ⟨B, 2, none⟩ y2) ⟨B, 3, none⟩ y3) ⟨B, 4, none⟩ y4) ⟨B, 5, none⟩ y5) ⟨B, 6, none⟩ y6).heap[B]? = some (.cells #[y0, y1, y2, y3, y4, y5, y6] t (0, 0)) := heap_setCell_same _ B 6 _ t y6 h5
  exact h6
theorem set7_fr {S : Nat → Prop} {w : World} {B : Nat} (hB : S B) (y0 y1 y2 y3 y4 y5 y6 : Value) : Fr S w (set7 w B y0 y1 y2 y3 y4 y5 y6) :=
  (((((((Fr.refl).setCell (p := ⟨B, 0, none⟩) y0 (.inl hB)).setCell (p := ⟨B, 1, none⟩) y1 (.inl hB)).setCell (p := ⟨B, 2, none⟩) y2 (.inl hB)).setCell (p := ⟨B, 3, none⟩) y3 (.inl hB)).setCell (p := ⟨B, 4, none⟩) y4 (.inl hB)).setCell (p := ⟨B, 5, none⟩) y5 (.inl hB)).setCell (p := ⟨B, 6, none⟩) y6 (.inl hB)
/-- What a select did. -/
structure Cho where
  case : Int
  dft : Bool
  m : Mv
  deriving DecidableEq
def Cho.val (c : Cho) (wv : Value) : Value := .agg #[.int .i64 c.case, .bool c.dft, .bool c.m.waits, .int .i64 c.m.value, .bool c.m.ok, .int .i64 c.m.trap, wv]
theorem fin26 {a : Act} {W : World} {R : Nat} {Q : Ending → World → Prop} {c : Cho} {wv : Value} {err : Int} (hd : a.defers = []) (h8 : a.tmps.getD 10 undef = .pointer (some ⟨R, 0, none⟩)) (h9 : a.tmps.getD 11 undef = .int .i64 err)
    (hR : W.heap[R]? = some (.cells #[.int .i64 c.case, .bool c.dft, .bool c.m.waits, .int .i64 c.m.value, .bool c.m.ok, .int .i64 c.m.trap, wv] 47 (0, 0))) (hQ : Q (.returned (tup2 (c.val wv) (.int .i64 err))) W) : bodyPost Try.prog Try.f26 Q .ret a W := by
  obtain ⟨⟨k0, k1, k2, k3, k4, k5, k6⟩, _⟩ := blk7 hR
  have h8' : a.tmps[10]?.getD undef = .pointer (some ⟨R, 0, none⟩) := by simpa using h8
  have h9' : a.tmps[11]?.getD undef = .int .i64 err := by simpa using h9
  exact bodyPost_ret (v := tup2 (c.val wv) (.int .i64 err)) (by simp [results, Try.results26, go_sem, h8', h9', k0, k1, k2, k3, k4, k5, k6, tup2, Cho.val]) hd hQ
end Go.Proofs.Yteffmnohgnmanaa
/- choose.carry: a case of a select is carried out. -/
namespace Go.Proofs.Yteffmnohgnmanaa
open Go.RowKit
/-- A call inside: new blocks ahead of it, new blocks written behind it. -/
theorem Step.wrap {w W W1 W2 : World} {F S : Nat → Prop} {g : Nat} {l l' : List Ch} (h : IsCh w F g l) (h1 : Fr E0 w W) (hs : Step F g W l' W1) (h2 : Fr S W1 W2) (hB : ∀ B, S B → w.heap.size ≤ B ∧ B < W.heap.size) : Step F g w l' W2 := by
  obtain ⟨F', i1, i2, i3⟩ := hs
  have hlt := h.lt
  refine ⟨F', i1.fr h2 (fun k hk e => ?_), fun k hk => ?_, ((h1.e0 (S := F)).trans i3).trans' h2 (fun k hk => .inr (hB k hk).1)⟩
  · have := hB k e
    rcases i2 k hk with x | x
    · have := hlt k x; omega
    · omega
  · rcases i2 k hk with x | x
    · exact .inl x
    · exact .inr (Nat.le_trans h1.size x)
theorem Step.fr' {w w' : World} {F : Nat → Prop} {g : Nat} {l' : List Ch} (h : Step F g w l' w') : Fr F w w' := by
  obtain ⟨_, _, _, h3⟩ := h; exact h3
theorem fin58 {a : Act} {W : World} {R : Nat} {Q : Ending → World → Prop} {m : Mv} {wv : Value} {err : Int} (hd : a.defers = []) (h8 : a.tmps.getD 6 undef = .pointer (some ⟨R, 0, none⟩)) (h9 : a.tmps.getD 7 undef = .int .i64 err)
    (hR : W.heap[R]? = some (.cells #[.bool m.waits, .int .i64 m.value, .bool m.ok, .int .i64 m.trap, wv] 32 (0, 0))) (hQ : Q (.returned (tup2 (m.val wv) (.int .i64 err))) W) : bodyPost Try.prog Try.f58 Q .ret a W := by
  obtain ⟨⟨k0, k1, k2, k3, k4⟩, _⟩ := blk5 hR
  have h8' : a.tmps[6]?.getD undef = .pointer (some ⟨R, 0, none⟩) := by simpa using h8
  have h9' : a.tmps[7]?.getD undef = .int .i64 err := by simpa using h9
  exact bodyPost_ret (v := tup2 (m.val wv) (.int .i64 err)) (by simp [results, Try.results58, go_sem, h8', h9', k0, k1, k2, k3, k4, tup2, Mv.val]) hd hQ
theorem heap3 (w : World) (o1 o2 o3 : Obj) : ((((w.alloc o1).alloc o2).alloc o3).heap[w.heap.size]? = some o1) ∧ ((((w.alloc o1).alloc o2).alloc o3).heap[w.heap.size + 1]? = some o2) ∧ ((((w.alloc o1).alloc o2).alloc o3).heap[w.heap.size + 2]? = some o3) := by
  have h3 := heap_alloc_new ((w.alloc o1).alloc o2) o3
  have h2 := heap_alloc_new (w.alloc o1) o2
  have h1 := heap_alloc_new w o1
  have f3 := (Fr.refl (S := E0) (w := (w.alloc o1).alloc o2)).alloc o3
  have f2 := (Fr.refl (S := E0) (w := w.alloc o1)).alloc o2
  simp only [World.size_alloc] at h2 h3
  exact ⟨f3.heapAt (f2.heapAt h1 (fun x => x)) (fun x => x), f3.heapAt h2 (fun x => x), h3⟩
def carryL (l : List Ch) (p : Pk) (gs gg : Int) : List Ch × Mv × Int := if p.send then sendL l p.ch gs gg p.v else recvL l p.ch gs gg
theorem RowF.newer {w W w' : World} {e sz : Nat} {v : Value} {xs : List Value} (h : RowF w' (New W) e sz v xs) (hs : w.heap.size ≤ W.heap.size) : RowF w' (New w) e sz v xs := h.mono (fun _ hk => Nat.le_trans hs hk)
set_option maxHeartbeats 2000000 in
theorem carry_ok {w : World} {F : Nat → Prop} {g N : Nat} {l : List Ch} (h : IsCh w F g l) (hok : Ok N l) (hN : (N + 1) * 48 ≤ 140737488355328) (p : Pk) (gs gg : Int) :
    Calls Try.prog 58 #[.pointer (some ⟨g, 0, none⟩), .agg #[.int .i64 gs, .int .i64 gg], p.val] w (MvPost F g w (carryL l p gs gg).1 (carryL l p gs gg).2.1 (carryL l p gs gg).2.2) := by
  obtain ⟨snd, ch, v⟩ := p
  have H := hid h
  have HN := hid hN
  have HK := hid hok
  clear h hN hok
  simp only [Pk.val]
  cases snd with
  | true =>
    have e0 : carryL l ⟨true, ch, v⟩ gs gg = sendL l ch gs gg v := rfl
    rw [e0]
    clear e0
    go_enter Try.func58, Try.ntmps58
    go_wp2_with fail
    generalize hW : (((w.alloc (Obj.cells #[Value.int IntKind.i64 gs, Value.int IntKind.i64 gg] 37)).alloc (Obj.cells #[.bool true, .int .i64 ch, .int .i64 v] 78)).alloc (Obj.cells _ 32)) = W
    have FA := hid (show Fr E0 w W by rw [← hW]; exact ((Fr.refl.alloc _).alloc _).alloc _)
    have T1 := hid (show W.heap[w.heap.size + 2]? = some (.cells #[Value.bool false, Value.int IntKind.i64 0, Value.bool false, Value.int IntKind.i64 0, Value.slice none 0 0] 32 (0, 0)) by rw [← hW]; exact (heap3 w _ _ _).2.2)
    have hsz : W.heap.size = w.heap.size + 3 := by rw [← hW]; simp
    have HI := hid (H.out.fr FA.out (fun _ _ x => x))
    have HS := hid hsz
    clear hW hsz
    refine (send_all HI.out HK.out HN.out ch gs gg v).mono ?_
    rintro e w1 ⟨wv, rfl, hr, hs⟩
    have HL := hid H.out.lt
    have T2 := hid ((Step.fr' hs).heapAt T1.out (fun x => by have := HL.out _ x; omega))
    obtain ⟨⟨b0, b1, b2, b3, b4⟩, z0, z1, z2, z3, z4⟩ := blk5 T2.out
    generalize sendL l ch gs gg v = r at *
    obtain ⟨l', ⟨mw, mval, mok, mtrap, mwk⟩, er⟩ := r
    simp only at hr hs ⊢
    have T5 := hid (set5_heap (w := w1) T2.out (.bool mw) (.int .i64 mval) (.bool mok) (.int .i64 mtrap) wv)
    have S5 := hid (set5_fr (S := fun k => k = w.heap.size + 2) (w := w1) (B := w.heap.size + 2) rfl (.bool mw) (.int .i64 mval) (.bool mok) (.int .i64 mtrap) wv)
    obtain ⟨A4, n4, c4, rfl⟩ := hr.shape
    have HR := hid ((hr.newer FA.out.size).fr S5.out (fun q hq e => by have := hr.2 q hq; have := HS.out; unfold New at *; omega))
    have ST := hid (Step.wrap H.out FA.out hs S5.out (fun B e => by have := HS.out; omega))
    clear hr hs
    simp only [tup2, Mv.val]
    go_wp2_with fail
    exact fin58 (m := ⟨mw, mval, mok, mtrap, mwk⟩) rfl rfl rfl T5.out ⟨_, rfl, HR.out, ST.out⟩
  | false =>
    have e0 : carryL l ⟨false, ch, v⟩ gs gg = recvL l ch gs gg := rfl
    rw [e0]
    clear e0
    go_enter Try.func58, Try.ntmps58
    go_wp2_with fail
    generalize hW : (((w.alloc (Obj.cells #[Value.int IntKind.i64 gs, Value.int IntKind.i64 gg] 37)).alloc (Obj.cells #[.bool false, .int .i64 ch, .int .i64 v] 78)).alloc (Obj.cells _ 32)) = W
    have FA := hid (show Fr E0 w W by rw [← hW]; exact ((Fr.refl.alloc _).alloc _).alloc _)
    have T1 := hid (show W.heap[w.heap.size + 2]? = some (.cells #[Value.bool false, Value.int IntKind.i64 0, Value.bool false, Value.int IntKind.i64 0, Value.slice none 0 0] 32 (0, 0)) by rw [← hW]; exact (heap3 w _ _ _).2.2)
    have hsz : W.heap.size = w.heap.size + 3 := by rw [← hW]; simp
    have HI := hid (H.out.fr FA.out (fun _ _ x => x))
    have HS := hid hsz
    clear hW hsz
    refine (recv_all HI.out HK.out HN.out ch gs gg).mono ?_
    rintro e w1 ⟨wv, rfl, hr, hs⟩
    have HL := hid H.out.lt
    have T2 := hid ((Step.fr' hs).heapAt T1.out (fun x => by have := HL.out _ x; omega))
    obtain ⟨⟨b0, b1, b2, b3, b4⟩, z0, z1, z2, z3, z4⟩ := blk5 T2.out
    generalize recvL l ch gs gg = r at *
    obtain ⟨l', ⟨mw, mval, mok, mtrap, mwk⟩, er⟩ := r
    simp only at hr hs ⊢
    have T5 := hid (set5_heap (w := w1) T2.out (.bool mw) (.int .i64 mval) (.bool mok) (.int .i64 mtrap) wv)
    have S5 := hid (set5_fr (S := fun k => k = w.heap.size + 2) (w := w1) (B := w.heap.size + 2) rfl (.bool mw) (.int .i64 mval) (.bool mok) (.int .i64 mtrap) wv)
    obtain ⟨A4, n4, c4, rfl⟩ := hr.shape
    have HR := hid ((hr.newer FA.out.size).fr S5.out (fun q hq e => by have := hr.2 q hq; have := HS.out; unfold New at *; omega))
    have ST := hid (Step.wrap H.out FA.out hs S5.out (fun B e => by have := HS.out; omega))
    clear hr hs
    simp only [tup2, Mv.val]
    go_wp2_with fail
    exact fin58 (m := ⟨mw, mval, mok, mtrap, mwk⟩) rfl rfl rfl T5.out ⟨_, rfl, HR.out, ST.out⟩
end Go.Proofs.Yteffmnohgnmanaa
/- choose.Order. -/
namespace Go.Proofs.Yteffmnohgnmanaa
open Go.RowKit
theorem info3 : (Try.prog.info? 3).map (fun i => (i.zero, i.size, i.bytes)) = some (some (.int .i64 0), 1, 8) := by kernel_rfl
def us (l : List Int) : List Value := l.map (Value.int .u64)
/-- One step: the new case takes the place that its number drew; what stood there goes to the end. -/
def ordAt (l : List Int) (i : Nat) (d : Int) : List Int := (l.set i (l.getD (d % ((i : Int) + 1)).toNat 0)).set (d % ((i : Int) + 1)).toNat i
def ordN (n : Nat) (draws : List Int) : Nat → List Int
  | 0 => List.replicate n 0
  | k + 1 => ordAt (ordN n draws k) k (draws.getD k 0)
theorem ordN_len (n : Nat) (draws : List Int) : ∀ k, (ordN n draws k).length = n
  | 0 => by simp [ordN]
  | k + 1 => by simp [ordN, ordAt, ordN_len n draws k]
def orderL (n : Int) (draws : List Int) : List Int × Int :=
  if n < 0 ∨ 16 < n then ([], 1) else if (draws.length : Int) < n then ([], 120) else (ordN n.toNat draws n.toNat, 0)
def OrderPost (w : World) (l : List Int) (err : Int) (e : Ending) (w' : World) : Prop :=
  ∃ v, e = .returned (tup2 v (.int .i64 err)) ∧ RowF w' (New w) 3 1 v (ints l) ∧ Fr E0 w w'
theorem ints_set (l : List Int) (j : Nat) (x : Int) : (ints l).set j (.int .i64 x) = ints (l.set j x) := by simp [ints]
theorem madeN (z : Value) (n : Nat) : (madeCells #[z] n).toList = List.replicate n z := by
  apply List.ext_getElem?
  intro i
  simp only [madeCells, Array.toList_map, Array.toList_range, List.getElem?_map, List.getElem?_replicate]
  by_cases h : i < n
  · rw [List.getElem?_range h]; simp [h, Nat.mod_one]
  · simp [h]
theorem rowF_made (w : World) (e n : Nat) (z : Value) (hn : n ≤ 1048576) : RowF (w.alloc (.cells (madeCells #[z] n) e)) (New w) e 1 (.slice (some ⟨w.heap.size, 0, none⟩) n n) (List.replicate n z) :=
  ⟨⟨n, by simp, .inr ⟨w.heap.size, n, _, rfl, Nat.zero_le _, heap_alloc_new w _, Nat.le_refl _, by unfold maxLen; omega, by simp [size_madeCells], by rw [madeN]; simp⟩⟩, fun g hg => by simp [Value.ownBlock] at hg; subst hg; exact Nat.le_refl _⟩
set_option maxHeartbeats 1000000 in
theorem order_ok (n : Int) (draws : List Int) (v : Value) (w : World) (hv : RdV w v 1 (us draws)) (hd : ∀ d ∈ draws, 0 ≤ d ∧ d < 18446744073709551616) :
    Calls Try.prog 34 #[.int .i64 n, v] w (OrderPost w (orderL n draws).1 (orderL n draws).2) := by
  obtain ⟨A, m, c, rfl, hl, _, _, hr⟩ := hv
  obtain rfl : draws.length = m := by simpa [us] using hl
  by_cases h1 : n < 0
  · have e : orderL n draws = ([], 1) := by unfold orderL; rw [if_pos (.inl h1)]
    rw [e]
    clear e hr hl
    go_enter Try.func34, Try.ntmps34
    go_wp2
    go_ret2
    exact ⟨_, rfl, RowF.nil, Fr.refl⟩
  by_cases h2 : 16 < n
  · have e : orderL n draws = ([], 1) := by unfold orderL; rw [if_pos (.inr h2)]
    rw [e]
    clear e hr hl
    go_enter Try.func34, Try.ntmps34
    go_wp2
    go_ret2
    exact ⟨_, rfl, RowF.nil, Fr.refl⟩
  by_cases h3 : (draws.length : Int) < n
  · have e : orderL n draws = ([], 120) := by unfold orderL; rw [if_neg (by omega), if_pos h3]
    rw [e]
    clear e hr hl
    go_enter Try.func34, Try.ntmps34
    go_wp2
    go_ret2
    exact ⟨_, rfl, RowF.nil, Fr.refl⟩
  obtain ⟨N, rfl⟩ : ∃ N : Nat, n = N := ⟨n.toNat, by omega⟩
  have e : orderL N draws = (ordN N draws N, 0) := by unfold orderL; rw [if_neg (by omega), if_neg h3]; simp
  rw [e]
  have HR := hid hr
  have HD := hid hd
  clear e hr hl hd
  obtain ⟨i0, hi0, hz0, hz1, hz2⟩ := info_parts info3
  have hmk : ∀ u : World, (Instr.makeSlice 70 (.int .i64 (N : Int)) (.int .i64 (N : Int))).run Try.prog u = .ok (.slice (some ⟨u.heap.size, 0, none⟩) N N) (u.alloc (.cells (madeCells #[.int .i64 0] N) 3)) := fun u => by
    have h := run_make (P := Try.prog) u 70 3 i0 (.int .i64 0) Try.underlying70 hi0 hz0 .i64 .i64 (N : Int) (N : Int) (by omega) (Int.le_refl _) (by rw [hz2]; omega) (by omega)
    simpa [hz1, Value.cells] using h
  clear hi0 hz0 hz1 hz2
  go_enter Try.func34, Try.ntmps34
  go_wp2_with fail
  have H0 := hid (show RowF (w.alloc (.cells (madeCells #[.int .i64 0] N) 3)) (New w) 3 1 (.slice (some ⟨w.heap.size, 0, none⟩) N N) (ints (ordN N draws 0)) by
    have := rowF_made w 3 N (.int .i64 0) (by omega)
    simpa [ordN, ints] using this)
  go_loopw [25] (fun i wr => ∃ k : Nat, i = .int .i64 k ∧ k ≤ N ∧ RowF wr (New w) 3 1 (.slice (some ⟨w.heap.size, 0, none⟩) N N) (ints (ordN N draws k)) ∧ Fr E0 w wr) (fun i _ => N - (intOf i).toNat)
  case atStart => exact ⟨0, rfl, Nat.zero_le _, H0.out, Fr.refl.alloc _⟩
  case round =>
    obtain ⟨k, rfl, hk, hrow, hf⟩ := hrel
    have HW := hid hrow
    have HF := hid hf
    clear hrow hf
    by_cases hlt : k < N
    · have hkd : k < draws.length := by omega
      obtain ⟨d, hdk⟩ : ∃ d, draws[k]? = some d := ⟨draws[k], List.getElem?_eq_getElem hkd⟩
      obtain ⟨b, o, rfl, r⟩ := HR.out.at (fun e => by have := congrArg List.length e; simp [us] at this; subst this; simp at hkd)
      have y1 := r.fr HF.out (fun x => x) k (.int .u64 d) (by simp [us, hdk])
      have hd0 := HD.out d (List.mem_of_getElem? hdk)
      have HK := hid hdk
      obtain ⟨j, hj⟩ : ∃ j : Nat, d % ((k : Int) + 1) = j := ⟨(d % ((k : Int) + 1)).toNat, by have := Int.emod_nonneg d (b := (k : Int) + 1) (by omega); omega⟩
      have hjk : j ≤ k := by have := Int.emod_lt_of_pos d (b := (k : Int) + 1) (by omega); omega
      obtain ⟨x, hx⟩ : ∃ x, (ordN N draws k)[j]? = some x := ⟨_, List.getElem?_eq_getElem (by rw [ordN_len]; omega)⟩
      obtain ⟨y, hy⟩ : ∃ y, (ordN N draws k)[k]? = some y := ⟨_, List.getElem?_eq_getElem (by rw [ordN_len]; omega)⟩
      obtain ⟨_, _, he, _, _, hrd⟩ := HW.out.read (n := N) (by decide) (by simp [ints, ordN_len])
      cases he
      obtain ⟨_, _, he, hrd⟩ := hrd.at (fun e => by have := congrArg List.length e; simp [ints, ordN_len] at this; omega)
      cases he
      have z1 := hrd j (.int .i64 x) (by simp [ints, hx])
      have z2 := hrd k (.int .i64 y) (by simp [ints, hy])
      simp only [Nat.zero_add] at z1 z2
      have f1 := HW.out.free (g := w.heap.size) rfl j
      have f2 := HW.out.free (g := w.heap.size) rfl k
      have HX := hid hx
      have HW1 := hid (HW.out.stored (j := k) (u := .int .i64 x) (by simp [ints, ordN_len]; omega))
      have HW2 := hid (HW1.out.stored (j := j) (u := .int .i64 k) (by simp [ints, ordN_len]; omega))
      have c1 := HW1.out.isCell (j := j) (by simp [ints, ordN_len]; omega)
      obtain ⟨y', c1⟩ := Option.isSome_iff_exists.1 c1
      have HJ := hid hj
      clear r hdk hrd hx hy
      have HE : Hid (((ints (ordN N draws k)).set k (.int .i64 x)).set j (.int .i64 k) = ints (ordN N draws (k + 1))) := by
        show _ = _
        rw [ints_set, ints_set]
        simp only [ordN, ordAt, List.getD, HK.out, Option.getD_some, HJ.out, Int.toNat_natCast, HX.out]
      have HF2 := hid ((HF.out.setCell (p := ⟨w.heap.size, k, none⟩) (.int .i64 x) (.inr (Nat.le_refl _))).setCell (p := ⟨w.heap.size, j, none⟩) (.int .i64 k) (.inr (Nat.le_refl _)))
      go_wp2_with fail
      go_roundw
      case rel => exact ⟨k + 1, by simp, by omega, by rw [← HE.out]; exact HW2.out, HF2.out⟩
      case measure => simp [intOf]; omega
    · obtain rfl : k = N := by omega
      clear hlt hk
      go_wp2_with fail
      go_ret2
      exact ⟨_, rfl, HW.out, HF.out⟩
end Go.Proofs.Yteffmnohgnmanaa
/- choose.Select as plain data; a row that is read whatever the channels do. -/
namespace Go.Proofs.Yteffmnohgnmanaa
open Go.RowKit
/-- The first case, by the order, that goes on. -/
def pickGo (l : List Ch) (cases : List Pk) : List Int → Option Int
  | [] => none
  | i :: r => match cases[i.toNat]? with
    | none => pickGo l cases r
    | some p => if goesL l p.ch p.send then some i else pickGo l cases r
def waitK (l : List Ch) (gs gg : Int) (cases : List Pk) : Nat → List Ch
  | 0 => l
  | k + 1 => match cases[k]? with
    | none => waitK l gs gg cases k
    | some p => if p.ch = 0 then waitK l gs gg cases k else (waitL (waitK l gs gg cases k) p.ch ⟨gs, gg, k, p.v⟩ p.send).1
def selGo (l : List Ch) (gs gg : Int) (cases : List Pk) (dft : Bool) : Option Int → List Ch × Cho × Int
  | some i => let c := carryL l (cases.getD i.toNat ⟨false, 0, 0⟩) gs gg; (c.1, ⟨i, false, c.2.1⟩, c.2.2)
  | none => if dft then (l, ⟨-1, true, {}⟩, 0) else (waitK l gs gg cases cases.length, ⟨-1, false, { waits := true }⟩, 0)
def selL (l : List Ch) (gs gg : Int) (cases : List Pk) (dft : Bool) (draws : List Int) : List Ch × Cho × Int :=
  if (orderL cases.length draws).2 ≠ 0 then (l, ⟨-1, false, {}⟩, (orderL cases.length draws).2)
  else if waitsL gs gg l then (l, ⟨-1, false, {}⟩, 111)
  else if trapP (trapC l) cases ≠ 0 then (l, ⟨-1, false, { trap := trapP (trapC l) cases }⟩, 0)
  else selGo l gs gg cases dft (pickGo l cases (orderL cases.length draws).1)
/-- A row that is read, whatever is written in F. -/
def RdOut (F : Nat → Prop) (w : World) (v : Value) (sz : Nat) (xs : List Value) : Prop := ∀ w', Fr F w w' → RdV w' v sz xs
theorem RdOut.here {F : Nat → Prop} {w : World} {v : Value} {sz : Nat} {xs : List Value} (h : RdOut F w v sz xs) : RdV w v sz xs := h w Fr.refl
theorem RdOut.fr {F : Nat → Prop} {w w' : World} {v : Value} {sz : Nat} {xs : List Value} (h : RdOut F w v sz xs) (hf : Fr F w w') : RdV w' v sz xs := h w' hf
theorem RdOut.later {F F' : Nat → Prop} {w w' : World} {v : Value} {sz : Nat} {xs : List Value} (h : RdOut F w v sz xs) (hf : Fr F w w') (hF : ∀ k, F' k → F k ∨ w.heap.size ≤ k) : RdOut F' w' v sz xs := fun w2 h2 => h w2 (hf.trans' h2 hF)
theorem RdOut.e0 {F : Nat → Prop} {w w' : World} {v : Value} {sz : Nat} {xs : List Value} (h : RdOut F w v sz xs) (hf : Fr E0 w w') : RdOut F w' v sz xs := h.later hf.e0 (fun _ hk => .inl hk)
theorem RdV.out {F : Nat → Prop} {w : World} {v : Value} {sz : Nat} {xs : List Value} (h : RdV w v sz xs) (hF : ∀ b o sp, F b → (∃ n c, v = .slice (some ⟨b, o, sp⟩) n c) → xs = []) : RdOut F w v sz xs := fun w' hf => by
  obtain ⟨A, n, c, rfl, h2, h3, h4, h5⟩ := h
  refine ⟨A, n, c, rfl, h2, h3, h4, ?_⟩
  rcases h5 with h5 | ⟨b, o, rfl, h6⟩
  · exact .inl h5
  · by_cases hb : F b
    · exact .inl (hF b o none hb ⟨n, c, rfl⟩)
    · exact .inr ⟨b, o, rfl, h6.fr hf hb⟩
/-- old memory is read whatever is written in what is new -/
theorem RdV.old {F : Nat → Prop} {w0 w : World} {v : Value} {sz : Nat} {xs : List Value} (h : RdV w0 v sz xs) (hf : Fr E0 w0 w) (hF : ∀ k, F k → w0.heap.size ≤ k) : RdOut F w v sz xs := fun w' hw => by
  have hx : Fr E0 w0 w' := hf.trans' hw (fun k hk => .inr (hF k hk))
  exact h.fr hx
theorem Step.trans {w w1 w2 : World} {F : Nat → Prop} {g : Nat} {l1 l2 : List Ch} (h : Step F g w l1 w1) (h2 : ∀ F', IsCh w1 F' g l1 → Step F' g w1 l2 w2) : Step F g w l2 w2 := by
  obtain ⟨F1, i1, i2, i3⟩ := h
  obtain ⟨F2, j1, j2, j3⟩ := h2 F1 i1
  refine ⟨F2, j1, fun k hk => ?_, i3.trans' j3 i2⟩
  rcases j2 k hk with x | x
  · exact i2 k x
  · exact .inr (Nat.le_trans i3.size x)
theorem Step.same {w w1 : World} {F : Nat → Prop} {g : Nat} {l : List Ch} (h : IsCh w F g l) (hf : Fr E0 w w1) : Step F g w l w1 := ⟨F, h.fr hf (fun _ _ x => x), fun _ hk => .inl hk, hf.e0⟩
theorem ok_waitK {N : Nat} {l : List Ch} (h : Ok N l) (gs gg : Int) (cases : List Pk) : ∀ k, Ok (N + k) (waitK l gs gg cases k)
  | 0 => h
  | k + 1 => by
    have ih := ok_waitK h gs gg cases k
    unfold waitK
    split
    · exact ih.mono (by omega)
    · split
      · exact ih.mono (by omega)
      · exact ih.wait _ _ _
theorem pickGo_next {l : List Ch} {cases : List Pk} {ord : List Int} {k i : Nat} {p : Pk} (hi : ord[k]? = some (i : Int)) (hp : cases[i]? = some p) : pickGo l cases (ord.drop k) = if goesL l p.ch p.send then some (i : Int) else pickGo l cases (ord.drop (k + 1)) := by
  obtain ⟨hk, he⟩ := List.getElem?_eq_some_iff.1 hi
  rw [List.drop_eq_getElem_cons hk, he, pickGo]
  simp only [Int.toNat_natCast, hp]
/-! ### an order's numbers -/
theorem ordN_range (n : Nat) (draws : List Int) : ∀ k, k ≤ n → ∀ x ∈ ordN n draws k, 0 ≤ x ∧ (x < n ∨ x = 0)
  | 0, _ => by intro x hx; simp [ordN] at hx; omega
  | k + 1, hk => by
    have ih := ordN_range n draws k (by omega)
    intro x hx
    simp only [ordN, ordAt] at hx
    rcases List.mem_or_eq_of_mem_set hx with hx | hx
    · rcases List.mem_or_eq_of_mem_set hx with hx | hx
      · exact ih x hx
      · subst hx
        rw [List.getD_eq_getElem?_getD]
        cases he : (ordN n draws k)[(draws.getD k 0 % (↑k + 1)).toNat]? with
        | none => simp
        | some y => simpa using ih y (List.mem_of_getElem? he)
    · subst hx; omega
theorem ordN_at {n k : Nat} {draws : List Int} (hk : k < n) : ∃ i : Nat, (ordN n draws n)[k]? = some (i : Int) ∧ i < n := by
  have hl := ordN_len n draws n
  refine ⟨((ordN n draws n)[k]'(by omega)).toNat, ?_, ?_⟩
  · rw [List.getElem?_eq_getElem (by omega)]
    have := ordN_range n draws n (Nat.le_refl _) _ (List.getElem_mem (l := ordN n draws n) (n := k) (by omega))
    congr 1; omega
  · have := ordN_range n draws n (Nat.le_refl _) _ (List.getElem_mem (l := ordN n draws n) (n := k) (by omega))
    omega
theorem orderL_zero {n : Nat} {draws : List Int} (h : (orderL n draws).2 = 0) : n ≤ 16 ∧ n ≤ draws.length ∧ (orderL n draws).1 = ordN n draws n := by
  unfold orderL at h ⊢
  split at h
  · simp at h
  · split at h
    · simp at h
    · rename_i h1 h2
      rw [if_neg h1, if_neg h2]
      refine ⟨by omega, by omega, by simp⟩
end Go.Proofs.Yteffmnohgnmanaa
/- ChooseNobody: channels that nobody made. -/
namespace Go.Proofs.Yteffmnohgnmanaa
open Go.RowKit
def selNobody (l : List Pk) (dft : Bool) (draws : List Int) : Cho × Int :=
  if (orderL l.length draws).2 ≠ 0 then (⟨-1, false, {}⟩, (orderL l.length draws).2)
  else if l ≠ [] then (⟨-1, false, { trap := 4 }⟩, 0)
  else if dft then (⟨-1, true, {}⟩, 0) else (⟨-1, false, { waits := true }⟩, 0)
theorem pks_len (l : List Pk) : (pks l).length = l.length * 3 := flat_len (f := Pk.cells) (sz := 3) (fun _ => rfl) l
set_option maxHeartbeats 2000000 in
theorem sel_nobody (gs gg : Int) (l : List Pk) (v : Value) (dft : Bool) (draws : List Int) (dv : Value) (w : World) (hv : RdV w v 3 (pks l)) (hn : l.length ≤ 1048576) (hd : RdV w dv 1 (us draws)) (hdw : ∀ d ∈ draws, 0 ≤ d ∧ d < 18446744073709551616) (r : Cho) (err : Int) (hsel : selNobody l dft draws = (r, err)) :
    Calls Try.prog 26 #[.pointer none, .agg #[.int .i64 gs, .int .i64 gg], v, .bool dft, dv] w (Ret (tup2 (r.val (.slice none 0 0)) (.int .i64 err)) E0 w) := by
  have HV := hid hv
  have HD := hid hd
  have HDW := hid hdw
  obtain ⟨A, n, c, rfl, hl, _, _, hr⟩ := hv
  obtain rfl : l.length = n := by rw [pks_len] at hl; omega
  have HS := hid hsel
  clear hl hr hd hdw hsel
  go_enter Try.func26, Try.ntmps26
  go_wp2_with fail
  generalize hW : ((w.alloc (Obj.cells #[Value.int IntKind.i64 gs, Value.int IntKind.i64 gg] 37)).alloc _) = W
  have FA := hid (show Fr E0 w W by rw [← hW]; exact (Fr.refl.alloc _).alloc _)
  have T1 := hid (show W.heap[w.heap.size + 1]? = some (.cells #[Value.int IntKind.i64 0, Value.bool false, Value.bool false, Value.int IntKind.i64 0, Value.bool false, Value.int IntKind.i64 0, Value.slice none 0 0] 47 (0, 0)) by rw [← hW]; exact heap_alloc2_new w _ _)
  have G1 := hid (show W.heap[w.heap.size]? = some (.cells #[Value.int IntKind.i64 gs, Value.int IntKind.i64 gg] 37 (0, 0)) by rw [← hW]; exact heap_alloc2_old w _ _)
  clear hW
  refine (order_ok l.length draws dv W (HD.out.fr FA.out) HDW.out).mono ?_
  rintro e w2 ⟨ov, rfl, hrow, hf2⟩
  simp only [tup2]
  have T2 := hid (hf2.heapAt T1.out (fun x => x))
  have G2 := hid (hf2.heapAt G1.out (fun x => x))
  have F2 := hid (FA.out.trans hf2)
  obtain ⟨⟨k0, k1, k2, k3, k4, k5, k6⟩, z0, z1, z2, z3, z4, z5, z6⟩ := blk7 T2.out
  have g0 := cell_of_row w2 _ 0 _ _ _ G2.out
  have g1 := cell_of_row w2 _ 1 _ _ _ G2.out
  by_cases he : (orderL l.length draws).2 = 0
  · rw [he]
    go_wp2_with fail
    refine (waits_none gs gg w2).mono ?_
    rintro e w3 ⟨rfl, hf3⟩
    have T3 := hid (hf3.heapAt T2.out (fun x => x))
    have F3 := hid (F2.out.trans hf3)
    clear k0 k1 k2 k3 k4 k5 k6 z0 z1 z2 z3 z4 z5 z6
    obtain ⟨⟨k0, k1, k2, k3, k4, k5, k6⟩, z0, z1, z2, z3, z4, z5, z6⟩ := blk7 T3.out
    go_wp2_with fail
    refine (trap_ok (goesAs_none w3) l (.slice A l.length c) (HV.out.fr F3.out) hn).mono ?_
    rintro e w4 ⟨rfl, hf4⟩
    have T4 := hid (hf4.heapAt T3.out (fun x => x))
    have F4 := hid (F3.out.trans hf4)
    clear k0 k1 k2 k3 k4 k5 k6 z0 z1 z2 z3 z4 z5 z6
    obtain ⟨⟨k0, k1, k2, k3, k4, k5, k6⟩, z0, z1, z2, z3, z4, z5, z6⟩ := blk7 T4.out
    cases l with
    | cons p q =>
      have e1 : selNobody (p :: q) dft draws = (⟨-1, false, { trap := 4 }⟩, 0) := by unfold selNobody; rw [if_neg (by simpa using he), if_pos (by simp)]
      have e2 := e1.symm.trans HS.out
      cases e2
      rw [show trapP (fun _ => 4) (p :: q) = 4 from rfl]
      clear e1
      go_wp2_with fail
      exact fin26 (c := ⟨-1, false, { trap := 4 }⟩) rfl rfl rfl (set7_heap T4.out _ _ _ _ _ _ _) ⟨rfl, F4.out.trans' (set7_fr (S := fun q => q = w.heap.size + 1) rfl _ _ _ _ _ _ _) (fun q hq => .inr (by omega))⟩
    | nil =>
      rw [show trapP (fun _ => 4) [] = 0 from rfl]
      have ho : Hid (orderL ([] : List Pk).length draws = ([], 0)) := by show _ = _; unfold orderL; simp [ordN]
      rw [ho.out] at hrow
      have hov : ∃ oA oc, ov = .slice oA 0 oc := by
        obtain ⟨oA, oc, h, _⟩ := hrow.read (n := 0) (by decide) (by simp [ints])
        exact ⟨oA, oc, h⟩
      obtain ⟨oA, oc, rfl⟩ := hov
      cases dft with
      | true =>
        have e1 : selNobody [] true draws = (⟨-1, true, {}⟩, 0) := by unfold selNobody; rw [if_neg (by simpa using he)]; simp
        have e2 := e1.symm.trans HS.out
        cases e2
        clear e1 he hrow
        go_wp2_with fail
        go_loopw [50] (fun i wr => i = .int .i64 0 ∧ w4 = wr) (fun _ _ => 0)
        case atStart => exact ⟨rfl, rfl⟩
        case round =>
          obtain ⟨rfl, rfl⟩ := hrel
          go_wp2_with fail
          exact fin26 (c := ⟨-1, true, {}⟩) rfl rfl rfl (set7_heap T4.out _ _ _ _ _ _ _) ⟨rfl, F4.out.trans' (set7_fr (S := fun q => q = w.heap.size + 1) rfl _ _ _ _ _ _ _) (fun q hq => .inr (by omega))⟩
      | false =>
        have e1 : selNobody [] false draws = (⟨-1, false, { waits := true }⟩, 0) := by unfold selNobody; rw [if_neg (by simpa using he)]; simp
        have e2 := e1.symm.trans HS.out
        cases e2
        clear e1 he hrow
        go_wp2_with fail
        go_loopw [50] (fun i wr => i = .int .i64 0 ∧ w4 = wr) (fun _ _ => 0)
        case atStart => exact ⟨rfl, rfl⟩
        case round =>
          obtain ⟨rfl, rfl⟩ := hrel
          go_wp2_with fail
          go_loopw [89] (fun i wr => i = .int .i64 0 ∧ w4 = wr) (fun _ _ => 0)
          case atStart => exact ⟨rfl, rfl⟩
          case round =>
            obtain ⟨rfl, rfl⟩ := hrel
            go_wp2_with fail
            exact fin26 (c := ⟨-1, false, { waits := true }⟩) rfl rfl rfl (set7_heap T4.out _ _ _ _ _ _ _) ⟨rfl, F4.out.trans' (set7_fr (S := fun q => q = w.heap.size + 1) rfl _ _ _ _ _ _ _) (fun q hq => .inr (by omega))⟩
  · have e1 : selNobody l dft draws = (⟨-1, false, {}⟩, (orderL l.length draws).2) := by unfold selNobody; rw [if_pos he]
    have e2 := e1.symm.trans HS.out
    cases e2
    clear e1 hrow hf2
    have HE := hid he
    have hne : (((orderL l.length draws).2 == 0) : Bool) = false := by simpa using he
    go_wp2_with fail
    exact fin26 (c := ⟨-1, false, {}⟩) rfl rfl rfl (set7_heap T2.out _ _ _ _ _ _ _) ⟨rfl, F2.out.trans' (set7_fr (S := fun q => q = w.heap.size + 1) rfl _ _ _ _ _ _ _) (fun q hq => .inr (by omega))⟩
def Ask.val (x : Ask) : Value := .agg #[.int .i64 x.gs, .int .i64 x.gg, x.cv, .bool x.deflt, x.dv]
theorem wf_u64 {n : Int} (h : (Lit.int .u64 n).wf = true) : 0 ≤ n ∧ n < 18446744073709551616 := by
  have : 0 ≤ n ∧ n ≤ 18446744073709551615 := by simpa [Lit.wf, IntKind.min, IntKind.max, IntKind.signed, IntKind.bits] using h
  omega
set_option maxRecDepth 4000 in
set_option maxHeartbeats 2000000 in
theorem nobody_walk (x : Ask) (w : World) (hx : x.Ok w) (hn : x.cases.length ≤ 1048576) : Calls Try.prog 4 #[x.val] w (Ret (.bool true) E0 w) := by
  obtain ⟨gs, gg, cv, l, dft, dv, draws⟩ := x
  obtain ⟨_, hc, _, hd, hdw⟩ := hx
  simp only at hc hd hdw hn
  have HC := hid hc
  have HD := hid hd
  have HDW := hid hdw
  obtain ⟨A, n, c, rfl, hl, _, _, _⟩ := hc
  obtain rfl : l.length = n := by rw [pks_len] at hl; omega
  obtain ⟨B, m, k, rfl, hm, _, _, _⟩ := hd
  obtain rfl : draws.length = m := by simpa using hm
  clear hl hm hdw
  unfold Ask.val
  simp only
  obtain ⟨r, err, hsel⟩ : ∃ r err, selNobody l dft draws = (r, err) := ⟨_, _, rfl⟩
  have HS := hid hsel
  go_enter Try.func4, Try.ntmps4
  go_wp2_with fail
  refine (sel_nobody gs gg l (.slice A l.length c) dft draws (.slice B draws.length k) _ (HC.out.fr (Fr.refl.alloc _)) hn (HD.out.fr (Fr.refl.alloc _)) (fun d hd => wf_u64 (HDW.out d hd)) r err HS.out).mono ?_
  rintro e w2 ⟨rfl, hf⟩
  obtain ⟨rc, rd, ⟨rw, rv, ro, rt, rk⟩⟩ := r
  have FF := hid (((Fr.refl.alloc _).trans hf).alloc (.cells #[.int .i64 rc, .bool rd, .bool rw, .int .i64 rv, .bool ro, .int .i64 rt, .slice none 0 0] 47))
  have T1 := hid (((Fr.refl (S := E0)).alloc (.cells #[.int .i64 rc, .bool rd, .bool rw, .int .i64 rv, .bool ro, .int .i64 rt, .slice none 0 0] 47)).heapAt (hf.heapAt (heap_alloc_new w _) (fun x => x)) (fun x => x))
  have T2 := hid (heap_alloc_new w2 (.cells #[.int .i64 rc, .bool rd, .bool rw, .int .i64 rv, .bool ro, .int .i64 rt, .slice none 0 0] 47))
  clear hf hsel
  simp only [tup2, Cho.val]
  by_cases he : (orderL l.length draws).2 = 0
  · have h16 : ¬ 16 < l.length := fun h => by unfold orderL at he; rw [if_pos (.inr (by omega))] at he; cases he
    have hdr : ¬ draws.length < l.length := fun h => by unfold orderL at he; rw [if_neg (by omega), if_pos (by omega)] at he; cases he
    cases l with
    | cons p q =>
      have e1 : selNobody (p :: q) dft draws = (⟨-1, false, { trap := 4 }⟩, 0) := by unfold selNobody; rw [if_neg (by simpa using he), if_pos (by simp)]
      have e2 := HS.out.symm.trans e1
      cases e2
      obtain ⟨⟨_, _, x2, x3, x4⟩, _⟩ := blk5 T1.out
      obtain ⟨⟨y0, y1, y2, _, _, y5, _⟩, _⟩ := blk7 T2.out
      have hp : ((p :: q).length : Int) > 0 := by simp
      clear e1 he
      generalize (p :: q).length = n at *
      go_wp2
      go_ret
      exact ⟨rfl, FF.out⟩
    | nil =>
      have e1 : selNobody [] dft draws = (⟨-1, dft, { waits := !dft }⟩, 0) := by unfold selNobody; rw [if_neg (by simpa using he)]; cases dft <;> simp
      have e2 := HS.out.symm.trans e1
      cases e2
      obtain ⟨⟨_, _, x2, x3, x4⟩, _⟩ := blk5 T1.out
      obtain ⟨⟨y0, y1, y2, _, _, y5, _⟩, _⟩ := blk7 T2.out
      clear e1 he
      simp only [List.length_nil] at *
      go_wp2
      go_ret
      exact ⟨by simp, FF.out⟩
  · have e1 : selNobody l dft draws = (⟨-1, false, {}⟩, (orderL l.length draws).2) := by unfold selNobody; rw [if_pos he]
    have e2 := HS.out.symm.trans e1
    have hor : 16 < l.length ∨ (¬ 16 < l.length ∧ draws.length < l.length) := by
      by_cases h : 16 < l.length
      · exact .inl h
      · refine .inr ⟨h, ?_⟩
        apply Classical.byContradiction; intro h2
        apply he; unfold orderL; rw [if_neg (by omega), if_neg (by omega)]
    generalize (orderL l.length draws).2 = er at *
    cases e2
    obtain ⟨⟨_, _, x2, x3, x4⟩, _⟩ := blk5 T1.out
    obtain ⟨⟨y0, y1, y2, _, _, y5, _⟩, _⟩ := blk7 T2.out
    have hne : ((err == 0) : Bool) = false := by simpa using he
    have hne2 : ((err != 0) : Bool) = true := by simpa using he
    clear e1
    rcases hor with h | ⟨h1, h2⟩
    · go_wp2
      go_ret
      exact ⟨rfl, FF.out⟩
    · go_wp2
      go_ret
      exact ⟨rfl, FF.out⟩
end Go.Proofs.Yteffmnohgnmanaa
