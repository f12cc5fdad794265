/- (*Chans).Recv: a theorem for each way. Printed by wip/gen/recv.py. -/
import Derived.Test.YteffmnohgnmanaaSend
import Derived.Test.YteffmnohgnmanaaDel
import Derived.Deep.RegionLaw
import Derived.BigRegion
namespace Go.Proofs.Yteffmnohgnmanaa
open Go.RowKit
set_option linter.unusedVariables false
attribute [local go_sem ↓] Go.wp_at_zero Go.wp_at_succ
theorem fin24 {a : Act} {W : World} {R : Nat} {Q : Ending → World → Prop} {m : Mv} {wv : Value} {err : Int} (hd : a.defers = []) (h8 : a.tmps.getD 6 undef = .pointer (some ⟨R, 0, none⟩)) (h9 : a.tmps.getD 7 undef = .int .i64 err)
    (hR : W.heap[R]? = some (.cells #[.bool m.waits, .int .i64 m.value, .bool m.ok, .int .i64 m.trap, wv] 32 (0, 0))) (hQ : Q (.returned (tup2 (m.val wv) (.int .i64 err))) W) : bodyPost Try.prog Try.f24 Q .ret a W := by
  obtain ⟨⟨k0, k1, k2, k3, k4⟩, _⟩ := blk5 hR
  have h8' : a.tmps[6]?.getD undef = .pointer (some ⟨R, 0, none⟩) := by simpa using h8
  have h9' : a.tmps[7]?.getD undef = .int .i64 err := by simpa using h9
  exact bodyPost_ret (v := tup2 (m.val wv) (.int .i64 err)) (by simp [results, Try.results24, go_sem, h8', h9', k0, k1, k2, k3, k4, tup2, Mv.val]) hd hQ
theorem wake_is {w : World} {F : Nat → Prop} {g : Nat} {l : List Ch} (h : IsCh w F g l) (x : Wt) (v : Int) (ok : Bool) (trap : Int) (hn : l.length ≤ 1024) (hfit : ∀ c ∈ l, c.Fit) :
    Calls Try.prog 55 #[.pointer (some ⟨g, 0, none⟩), x.val, .int .i64 v, .bool ok, .int .i64 trap] w (WakePost F g l x v ok trap w) := by
  obtain ⟨v0, ms, h1, h2⟩ := h
  subst h2
  exact wake_ok h1 x v ok trap (by rw [← chs_len]; exact hn) (fun m hm => hfit _ (List.mem_map.2 ⟨m, hm, rfl⟩))
theorem c4fr {w w' : World} {S : Nat → Prop} {B : Nat} {a b c d : Value} (h : w.cell? ⟨B, 0, none⟩ = some a ∧ w.cell? ⟨B, 1, none⟩ = some b ∧ w.cell? ⟨B, 2, none⟩ = some c ∧ w.cell? ⟨B, 3, none⟩ = some d) (hf : Fr S w w') (hB : ¬ S B) :
    w'.cell? ⟨B, 0, none⟩ = some a ∧ w'.cell? ⟨B, 1, none⟩ = some b ∧ w'.cell? ⟨B, 2, none⟩ = some c ∧ w'.cell? ⟨B, 3, none⟩ = some d :=
  ⟨hf.cell h.1 hB, hf.cell h.2.1 hB, hf.cell h.2.2.1 hB, hf.cell h.2.2.2 hB⟩
theorem cell4 {w : World} {B : Nat} {x0 x1 x2 x3 : Value} {t : TypeId} (h : w.heap[B]? = some (.cells #[x0, x1, x2, x3] t (0, 0))) :
    w.cell? ⟨B, 0, none⟩ = some x0 ∧ w.cell? ⟨B, 1, none⟩ = some x1 ∧ w.cell? ⟨B, 2, none⟩ = some x2 ∧ w.cell? ⟨B, 3, none⟩ = some x3 :=
  ⟨cell_of_row w _ 0 _ _ _ h, cell_of_row w _ 1 _ _ _ h, cell_of_row w _ 2 _ _ _ h, cell_of_row w _ 3 _ _ _ h⟩
set_option maxHeartbeats 4000000 in
theorem recv_waits {w : World} {F : Nat → Prop} {g : Nat} {v0 : Value} {ms : List CM} (h : Chs w F g v0 ms) (gs gg : Int) (hn : ms.length ≤ 1024) (hfit : ∀ m ∈ ms, m.ch.Fit) (hw : waitsL gs gg (chs ms) = true) (ch : Int) :
    Calls Try.prog 24 #[.pointer (some ⟨g, 0, none⟩), .int .i64 ch, .agg #[.int .i64 gs, .int .i64 gg]] w (MvPost F g w (chs ms) {} 111) := by
  have H := hid h
  have hm := h.made
  have hgl := h.lt g h.mine
  have HW := hid hw
  clear h hw
  go_enter Try.func24, Try.ntmps24
  go_wp2_with (go_at_call 53; refine (is_made (g := g) (by rw [World.cell?_alloc_past _ _ _ (by simp; omega), World.cell?_alloc_past _ _ _ hgl]; exact hm)).mono ?_; rintro e w1 ⟨rfl, rfl⟩)
  generalize hW : ((w.alloc (Obj.cells #[Value.int IntKind.i64 gs, Value.int IntKind.i64 gg] 37)).alloc _) = W
  have hA := hid (show Fr E0 w W by rw [← hW]; exact (Fr.refl.alloc _).alloc _)
  have hT := hid (show W.heap[w.heap.size + 1]? = some (.cells #[Value.bool false, Value.int IntKind.i64 0, Value.bool false, Value.int IntKind.i64 0, Value.slice none 0 0] 32 (0, 0)) by rw [← hW]; exact heap_alloc2_new w _ _)
  have hG := hid (show W.heap[w.heap.size]? = some (.cells #[Value.int IntKind.i64 gs, Value.int IntKind.i64 gg] 37 (0, 0)) by rw [← hW]; exact heap_alloc2_old w _ _)
  clear hW hm
  obtain ⟨A, cp, hv, hrd⟩ := (atW H.out hA.out).rd
  refine (waits_ok hrd gs gg).mono ?_
  rintro e w1 ⟨rfl, hf1⟩
  rw [HW.out]
  have F1 := hid hf1
  have FA := hid (hA.out.trans hf1)
  have T1 := hid (hf1.heapAt hT.out (fun x => x))
  have G1 := hid (hf1.heapAt hG.out (fun x => x))
  obtain ⟨⟨b0, b1, b2, b3, b4⟩, z0, z1, z2, z3, z4⟩ := blk5 T1.out
  have RD := hid (hrd.fr hf1)
  clear hf1 hrd
  go_wp2_with fail
  have T5 := hid (set5_heap (w := w1) T1.out (.bool false) (.int .i64 0) (.bool false) (.int .i64 0) (.slice none 0 0))
  have S5 := hid (set5_fr (S := fun k => k = w.heap.size + 1) (w := w1) (B := w.heap.size + 1) rfl (.bool false) (.int .i64 0) (.bool false) (.int .i64 0) (.slice none 0 0))
  exact fin24 (m := {}) rfl rfl rfl T5.out ⟨_, rfl, RowF.nil, step_same H.out (Nat.le_succ _) FA.out S5.out⟩
set_option maxHeartbeats 4000000 in
theorem recv_out {w : World} {F : Nat → Prop} {g : Nat} {v0 : Value} {ms : List CM} (h : Chs w F g v0 ms) (gs gg : Int) (hn : ms.length ≤ 1024) (hfit : ∀ m ∈ ms, m.ch.Fit) (hw : waitsL gs gg (chs ms) = false) (ch : Int) (hch : ch < 0 ∨ (ms.length : Int) < ch) :
    Calls Try.prog 24 #[.pointer (some ⟨g, 0, none⟩), .int .i64 ch, .agg #[.int .i64 gs, .int .i64 gg]] w (MvPost F g w (chs ms) { trap := 4 } 0) := by
  have H := hid h
  have hm := h.made
  have hgl := h.lt g h.mine
  have HW := hid hw
  clear h hw
  go_enter Try.func24, Try.ntmps24
  go_wp2_with (go_at_call 53; refine (is_made (g := g) (by rw [World.cell?_alloc_past _ _ _ (by simp; omega), World.cell?_alloc_past _ _ _ hgl]; exact hm)).mono ?_; rintro e w1 ⟨rfl, rfl⟩)
  generalize hW : ((w.alloc (Obj.cells #[Value.int IntKind.i64 gs, Value.int IntKind.i64 gg] 37)).alloc _) = W
  have hA := hid (show Fr E0 w W by rw [← hW]; exact (Fr.refl.alloc _).alloc _)
  have hT := hid (show W.heap[w.heap.size + 1]? = some (.cells #[Value.bool false, Value.int IntKind.i64 0, Value.bool false, Value.int IntKind.i64 0, Value.slice none 0 0] 32 (0, 0)) by rw [← hW]; exact heap_alloc2_new w _ _)
  have hG := hid (show W.heap[w.heap.size]? = some (.cells #[Value.int IntKind.i64 gs, Value.int IntKind.i64 gg] 37 (0, 0)) by rw [← hW]; exact heap_alloc2_old w _ _)
  clear hW hm
  obtain ⟨A, cp, hv, hrd⟩ := (atW H.out hA.out).rd
  refine (waits_ok hrd gs gg).mono ?_
  rintro e w1 ⟨rfl, hf1⟩
  rw [HW.out]
  have F1 := hid hf1
  have FA := hid (hA.out.trans hf1)
  have T1 := hid (hf1.heapAt hT.out (fun x => x))
  have G1 := hid (hf1.heapAt hG.out (fun x => x))
  obtain ⟨⟨b0, b1, b2, b3, b4⟩, z0, z1, z2, z3, z4⟩ := blk5 T1.out
  have RD := hid (hrd.fr hf1)
  clear hf1 hrd
  have HC := hid hch; clear hch
  go_wp2_with (go_at_call 54; refine (at_out RD.out ch HC.out).mono ?_; rintro e w2 ⟨rfl, rfl⟩; simp only [tup2])
  have T5 := hid (set5_heap (w := w1) T1.out (.bool false) (.int .i64 0) (.bool false) (.int .i64 4) (.slice none 0 0))
  have S5 := hid (set5_fr (S := fun k => k = w.heap.size + 1) (w := w1) (B := w.heap.size + 1) rfl (.bool false) (.int .i64 0) (.bool false) (.int .i64 4) (.slice none 0 0))
  exact fin24 (m := { trap := 4 }) rfl rfl rfl T5.out ⟨_, rfl, RowF.nil, step_same H.out (Nat.le_succ _) FA.out S5.out⟩
set_option maxHeartbeats 4000000 in
theorem recv_nil {w : World} {F : Nat → Prop} {g : Nat} {v0 : Value} {ms : List CM} (h : Chs w F g v0 ms) (gs gg : Int) (hn : ms.length ≤ 1024) (hfit : ∀ m ∈ ms, m.ch.Fit) (hw : waitsL gs gg (chs ms) = false) :
    Calls Try.prog 24 #[.pointer (some ⟨g, 0, none⟩), .int .i64 0, .agg #[.int .i64 gs, .int .i64 gg]] w (MvPost F g w (chs ms) { waits := true } 0) := by
  have H := hid h
  have hm := h.made
  have hgl := h.lt g h.mine
  have HW := hid hw
  clear h hw
  go_enter Try.func24, Try.ntmps24
  go_wp2_with (go_at_call 53; refine (is_made (g := g) (by rw [World.cell?_alloc_past _ _ _ (by simp; omega), World.cell?_alloc_past _ _ _ hgl]; exact hm)).mono ?_; rintro e w1 ⟨rfl, rfl⟩)
  generalize hW : ((w.alloc (Obj.cells #[Value.int IntKind.i64 gs, Value.int IntKind.i64 gg] 37)).alloc _) = W
  have hA := hid (show Fr E0 w W by rw [← hW]; exact (Fr.refl.alloc _).alloc _)
  have hT := hid (show W.heap[w.heap.size + 1]? = some (.cells #[Value.bool false, Value.int IntKind.i64 0, Value.bool false, Value.int IntKind.i64 0, Value.slice none 0 0] 32 (0, 0)) by rw [← hW]; exact heap_alloc2_new w _ _)
  have hG := hid (show W.heap[w.heap.size]? = some (.cells #[Value.int IntKind.i64 gs, Value.int IntKind.i64 gg] 37 (0, 0)) by rw [← hW]; exact heap_alloc2_old w _ _)
  clear hW hm
  obtain ⟨A, cp, hv, hrd⟩ := (atW H.out hA.out).rd
  refine (waits_ok hrd gs gg).mono ?_
  rintro e w1 ⟨rfl, hf1⟩
  rw [HW.out]
  have F1 := hid hf1
  have FA := hid (hA.out.trans hf1)
  have T1 := hid (hf1.heapAt hT.out (fun x => x))
  have G1 := hid (hf1.heapAt hG.out (fun x => x))
  obtain ⟨⟨b0, b1, b2, b3, b4⟩, z0, z1, z2, z3, z4⟩ := blk5 T1.out
  have RD := hid (hrd.fr hf1)
  clear hf1 hrd
  go_wp2_with (go_at_call 54; refine (at_zero RD.out).mono ?_; rintro e w2 ⟨rfl, rfl⟩; simp only [tup2])
  have T5 := hid (set5_heap (w := w1) T1.out (.bool true) (.int .i64 0) (.bool false) (.int .i64 0) (.slice none 0 0))
  have S5 := hid (set5_fr (S := fun k => k = w.heap.size + 1) (w := w1) (B := w.heap.size + 1) rfl (.bool true) (.int .i64 0) (.bool false) (.int .i64 0) (.slice none 0 0))
  exact fin24 (m := { waits := true }) rfl rfl rfl T5.out ⟨_, rfl, RowF.nil, step_same H.out (Nat.le_succ _) FA.out S5.out⟩
set_option maxHeartbeats 4000000 in
theorem recv_closed {w : World} {F : Nat → Prop} {g : Nat} {v0 : Value} {ms : List CM} (h : Chs w F g v0 ms) (gs gg : Int) (hn : ms.length ≤ 1024) (hfit : ∀ m ∈ ms, m.ch.Fit) (hw : waitsL gs gg (chs ms) = false) {k : Nat} {m : CM} (hk : ms[k]? = some m) (hv : m.ch.vals = []) (hs : m.ch.snd = []) (hcl : m.ch.cl = true) :
    Calls Try.prog 24 #[.pointer (some ⟨g, 0, none⟩), .int .i64 ((k : Int) + 1), .agg #[.int .i64 gs, .int .i64 gg]] w (MvPost F g w (chs ms) {} 0) := by
  have H := hid h
  have hm := h.made
  have hgl := h.lt g h.mine
  have HW := hid hw
  clear h hw
  go_enter Try.func24, Try.ntmps24
  go_wp2_with (go_at_call 53; refine (is_made (g := g) (by rw [World.cell?_alloc_past _ _ _ (by simp; omega), World.cell?_alloc_past _ _ _ hgl]; exact hm)).mono ?_; rintro e w1 ⟨rfl, rfl⟩)
  generalize hW : ((w.alloc (Obj.cells #[Value.int IntKind.i64 gs, Value.int IntKind.i64 gg] 37)).alloc _) = W
  have hA := hid (show Fr E0 w W by rw [← hW]; exact (Fr.refl.alloc _).alloc _)
  have hT := hid (show W.heap[w.heap.size + 1]? = some (.cells #[Value.bool false, Value.int IntKind.i64 0, Value.bool false, Value.int IntKind.i64 0, Value.slice none 0 0] 32 (0, 0)) by rw [← hW]; exact heap_alloc2_new w _ _)
  have hG := hid (show W.heap[w.heap.size]? = some (.cells #[Value.int IntKind.i64 gs, Value.int IntKind.i64 gg] 37 (0, 0)) by rw [← hW]; exact heap_alloc2_old w _ _)
  clear hW hm
  obtain ⟨L, cp, hv, hFL, _⟩ := H.out.at hk
  subst hv
  have hrd := (atW H.out hA.out).rdAt
  refine (waits_ok hrd gs gg).mono ?_
  rintro e w1 ⟨rfl, hf1⟩
  rw [HW.out]
  have F1 := hid hf1
  have FA := hid (hA.out.trans hf1)
  have T1 := hid (hf1.heapAt hT.out (fun x => x))
  have G1 := hid (hf1.heapAt hG.out (fun x => x))
  obtain ⟨⟨b0, b1, b2, b3, b4⟩, z0, z1, z2, z3, z4⟩ := blk5 T1.out
  have RD := hid (hrd.fr hf1)
  clear hf1 hrd
  have C1 := hid (atW H.out FA.out)
  obtain ⟨_, _, e0, _, c0, c1, c2, c3, c4, hfz⟩ := C1.out.at hk
  cases e0
  have HFZ := hid hfz
  have hlk := lt_of_get hk
  have HK := hid hk
  have O1 := hid (C1.out.own.each m (List.mem_of_getElem? hk))
  clear hk hfz
  obtain ⟨A1, n1', e1, _, hm1, _⟩ := O1.out.vals.read (by decide) (ints_len _)
  obtain ⟨A2, n2', e2, _, hm2, _⟩ := O1.out.snd.read (by decide) (wts_len _)
  obtain ⟨A3, n3', e3, _, hm3, _⟩ := O1.out.rcv.read (by decide) (wts_len _)
  rw [hv] at e1
  rw [e1] at c1
  rw [hs] at e2
  rw [e2] at c2
  rw [hcl] at c4
  clear e1 e2 e3
  go_wp2_with (go_at_call 54; refine (at_in RD.out k hlk).mono ?_; rintro e w2 ⟨rfl, rfl⟩; simp only [tup2, Nat.zero_add])
  have T5 := hid (set5_heap (w := w1) T1.out (.bool false) (.int .i64 0) (.bool false) (.int .i64 0) (.slice none 0 0))
  have S5 := hid (set5_fr (S := fun k => k = w.heap.size + 1) (w := w1) (B := w.heap.size + 1) rfl (.bool false) (.int .i64 0) (.bool false) (.int .i64 0) (.slice none 0 0))
  exact fin24 (m := {}) rfl rfl rfl T5.out ⟨_, rfl, RowF.nil, step_same H.out (Nat.le_succ _) FA.out S5.out⟩
set_option maxHeartbeats 4000000 in
theorem recv_wakes {w : World} {F : Nat → Prop} {g : Nat} {v0 : Value} {ms : List CM} (h : Chs w F g v0 ms) (gs gg : Int) (hn : ms.length ≤ 1024) (hfit : ∀ m ∈ ms, m.ch.Fit) (hw : waitsL gs gg (chs ms) = false) {k : Nat} {m : CM} (hk : ms[k]? = some m) (hv : m.ch.vals = []) {x : Wt} {r : List Wt} (hs : m.ch.snd = x :: r) :
    Calls Try.prog 24 #[.pointer (some ⟨g, 0, none⟩), .int .i64 ((k : Int) + 1), .agg #[.int .i64 gs, .int .i64 gg]] w (MvPost F g w (leaveL x.s x.g (chs ms)) { value := x.v, ok := true, woken := [⟨x.s, x.g, x.c, 0, true, 0⟩] } 0) := by
  have H := hid h
  have hm := h.made
  have hgl := h.lt g h.mine
  have HW := hid hw
  clear h hw
  go_enter Try.func24, Try.ntmps24
  go_wp2_with (go_at_call 53; refine (is_made (g := g) (by rw [World.cell?_alloc_past _ _ _ (by simp; omega), World.cell?_alloc_past _ _ _ hgl]; exact hm)).mono ?_; rintro e w1 ⟨rfl, rfl⟩)
  generalize hW : ((w.alloc (Obj.cells #[Value.int IntKind.i64 gs, Value.int IntKind.i64 gg] 37)).alloc _) = W
  have hA := hid (show Fr E0 w W by rw [← hW]; exact (Fr.refl.alloc _).alloc _)
  have hT := hid (show W.heap[w.heap.size + 1]? = some (.cells #[Value.bool false, Value.int IntKind.i64 0, Value.bool false, Value.int IntKind.i64 0, Value.slice none 0 0] 32 (0, 0)) by rw [← hW]; exact heap_alloc2_new w _ _)
  have hG := hid (show W.heap[w.heap.size]? = some (.cells #[Value.int IntKind.i64 gs, Value.int IntKind.i64 gg] 37 (0, 0)) by rw [← hW]; exact heap_alloc2_old w _ _)
  clear hW hm
  obtain ⟨L, cp, hv, hFL, _⟩ := H.out.at hk
  subst hv
  have hrd := (atW H.out hA.out).rdAt
  refine (waits_ok hrd gs gg).mono ?_
  rintro e w1 ⟨rfl, hf1⟩
  rw [HW.out]
  have F1 := hid hf1
  have FA := hid (hA.out.trans hf1)
  have T1 := hid (hf1.heapAt hT.out (fun x => x))
  have G1 := hid (hf1.heapAt hG.out (fun x => x))
  obtain ⟨⟨b0, b1, b2, b3, b4⟩, z0, z1, z2, z3, z4⟩ := blk5 T1.out
  have RD := hid (hrd.fr hf1)
  clear hf1 hrd
  have C1 := hid (atW H.out FA.out)
  obtain ⟨_, _, e0, _, c0, c1, c2, c3, c4, hfz⟩ := C1.out.at hk
  cases e0
  have HFZ := hid hfz
  have hlk := lt_of_get hk
  have HK := hid hk
  have O1 := hid (C1.out.own.each m (List.mem_of_getElem? hk))
  clear hk hfz
  obtain ⟨A1, n1', e1, _, hm1, _⟩ := O1.out.vals.read (by decide) (ints_len _)
  obtain ⟨A2, n2', e2, _, hm2, _⟩ := O1.out.snd.read (by decide) (wts_len _)
  obtain ⟨A3, n3', e3, _, hm3, _⟩ := O1.out.rcv.read (by decide) (wts_len _)
  rw [hv] at e1
  rw [e1] at c1
  have hx : m.ch.snd[0]? = some x := by rw [hs]; rfl
  rcases O1.out.snd.form (by decide) (wts_len _) with ⟨_, h0, _⟩ | ⟨b3', p3, hv3, _, _, hn3, _, hr3, _⟩
  · rw [hs] at h0; simp at h0
  obtain ⟨d0, d1, d2, d3⟩ := hr3.wt hx
  simp only [Nat.zero_add, Nat.zero_mul] at d0 d1 d2 d3
  have hl3 : m.ch.snd.length = r.length + 1 := by rw [hs]; rfl
  rw [hl3] at hv3 hn3
  rw [hv3] at c2
  clear hr3 hs hx hv3 hl3 e1 e2 e3
  go_wp2_with (first
    | (go_at_call 54; refine (at_in RD.out k hlk).mono ?_; rintro e w2 ⟨rfl, rfl⟩; simp only [tup2, Nat.zero_add]))
  generalize hW : w1.alloc (Obj.cells #[Value.int IntKind.i64 x.s, Value.int IntKind.i64 x.g, Value.int IntKind.i64 x.c, Value.int IntKind.i64 x.v] 114) = W
  have FB := hid (show Fr E0 w1 W by rw [← hW]; exact Fr.refl.alloc _)
  have X1 := hid (show W.heap[w1.heap.size]? = some (.cells #[Value.int IntKind.i64 x.s, Value.int IntKind.i64 x.g, Value.int IntKind.i64 x.c, Value.int IntKind.i64 x.v] 114 (0, 0)) by rw [← hW]; exact heap_alloc_new w1 _)
  have C2 := hid ((C1.out.fr FB.out (fun _ _ x => x)).fr (Fr.refl (S := E0) |>.drew) (fun _ _ x => x))
  have TB := hid (FB.out.heapAt T1.out (fun x => x))
  have hBF : ¬ F w1.heap.size := fun hx => by have := H.out.lt _ hx; have := FA.out.size; omega
  have HBF := hid hBF
  have hR1 := heap_lt T1.out
  clear hW d0 d1 d2 d3 c0 c1 c2 c3 c4 b0 b1 b2 b3 b4 z0 z1 z2 z3 z4 hBF
  have X4 := hid (cell4 (w := W.drew) X1.out)
  go_region_held3 (fun w' => w'.cell? ⟨w1.heap.size, 0, none⟩ = some (.int .i64 x.s) ∧ w'.cell? ⟨w1.heap.size, 1, none⟩ = some (.int .i64 x.g) ∧ w'.cell? ⟨w1.heap.size, 2, none⟩ = some (.int .i64 x.c) ∧ w'.cell? ⟨w1.heap.size, 3, none⟩ = some (.int .i64 x.v))
    (first | (with_reducible exact X4.out) | (with_reducible exact hk2.out) | (with_reducible exact hk3.out) | exact hk4.out)
    (first
      | (go_at_call 55; refine (wake_ok C2.out x 0 true 0 hn hfit).mono ?_; rintro e w2 ⟨rfl, hl2, hf2⟩; simp only [Wk.val]; have hk2 := hid (c4fr (by assumption) hf2 HBF.out); have hk3 := hid (c4fr hk2.out (Fr.refl (S := E0) |>.alloc (.cells #[.int .i64 x.s, .int .i64 x.g, .int .i64 x.c, .int .i64 0, .bool true, .int .i64 0] 39)) (fun x => x)); have hk4 := hid (c4fr hk3.out (set5_fr (S := fun q => q = w.heap.size + 1) (B := w.heap.size + 1) rfl (.bool false) (.int .i64 x.v) (.bool true) (.int .i64 0) (.slice (some ⟨w2.heap.size, 0, none⟩) 1 1)) (fun h => by omega)); unfold set5 at hk4; have L2 := hid hl2; have F2 := hid hf2; have T2 := hid ((Fr.refl (S := E0) |>.alloc (.cells #[.int .i64 x.s, .int .i64 x.g, .int .i64 x.c, .int .i64 0, .bool true, .int .i64 0] 39)).heapAt (hf2.heapAt (w := W.drew) TB.out (fun hx => by have := H.out.lt _ hx; omega)) (fun x => x)); clear hl2 hf2; obtain ⟨⟨b0, b1, b2, b3, b4⟩, z0, z1, z2, z3, z4⟩ := blk5 T2.out))
  have hR2 := hid (rowNew w2 w (Nat.le_trans FA.out.size (Nat.le_trans FB.out.size F2.out.size)) [⟨x.s, x.g, x.c, 0, true, 0⟩] (show 1 ≤ maxLen by decide) _ rfl)
  have FC := hid (FA.out.e0 (S := F) |>.trans (FB.out.e0 |>.trans (Fr.refl.drew |>.trans F2.out)))
  have HNE : Hid (¬ w2.heap.size = w.heap.size + 1) := fun e => by have h1 := hR1; have h2 : w1.heap.size ≤ W.heap.size := FB.out.size; have h3 : W.heap.size ≤ w2.heap.size := F2.out.size; omega
  go_wp2_with fail
  have T5 := hid (set5_heap (w := (w2.alloc (.cells #[.int .i64 x.s, .int .i64 x.g, .int .i64 x.c, .int .i64 0, .bool true, .int .i64 0] 39))) T2.out (.bool false) (.int .i64 x.v) (.bool true) (.int .i64 0) (.slice (some ⟨w2.heap.size, 0, none⟩) 1 1))
  have S5 := hid (set5_fr (S := fun k => k = w.heap.size + 1) (w := (w2.alloc (.cells #[.int .i64 x.s, .int .i64 x.g, .int .i64 x.c, .int .i64 0, .bool true, .int .i64 0] 39))) (B := w.heap.size + 1) rfl (.bool false) (.int .i64 x.v) (.bool true) (.int .i64 0) (.slice (some ⟨w2.heap.size, 0, none⟩) 1 1))
  exact fin24 (m := { value := x.v, ok := true, woken := [⟨x.s, x.g, x.c, 0, true, 0⟩] }) rfl rfl rfl T5.out ⟨_, rfl, (hR2.out.fr S5.out (fun q hq e => HNE.out (by simp [Value.ownBlock] at hq; omega))), ((L2.out.fr (Fr.refl.alloc _) (fun _ _ x => x)).fr S5.out (fun q hq e => by have := H.out.lt q hq; omega)).step (fun q hq => .inl hq) ((FC.out.trans (Fr.refl.alloc _)).trans' S5.out (fun i hi => .inr (by omega)))⟩
set_option maxHeartbeats 4000000 in
theorem recv_queues {w : World} {F : Nat → Prop} {g : Nat} {v0 : Value} {ms : List CM} (h : Chs w F g v0 ms) (gs gg : Int) (hn : ms.length ≤ 1024) (hfit : ∀ m ∈ ms, m.ch.Fit) (hw : waitsL gs gg (chs ms) = false) {k : Nat} {m : CM} (hk : ms[k]? = some m) (hv : m.ch.vals = []) (hs : m.ch.snd = []) (hcl : m.ch.cl = false) (hroom : (m.ch.rcv.length + 1) * 32 ≤ 140737488355328) :
    Calls Try.prog 24 #[.pointer (some ⟨g, 0, none⟩), .int .i64 ((k : Int) + 1), .agg #[.int .i64 gs, .int .i64 gg]] w (MvPost F g w ((chs ms).set k { m.ch with rcv := m.ch.rcv ++ [⟨gs, gg, 0, 0⟩] }) { waits := true } 0) := by
  have H := hid h
  have hm := h.made
  have hgl := h.lt g h.mine
  have HW := hid hw
  clear h hw
  go_enter Try.func24, Try.ntmps24
  go_wp2_with (go_at_call 53; refine (is_made (g := g) (by rw [World.cell?_alloc_past _ _ _ (by simp; omega), World.cell?_alloc_past _ _ _ hgl]; exact hm)).mono ?_; rintro e w1 ⟨rfl, rfl⟩)
  generalize hW : ((w.alloc (Obj.cells #[Value.int IntKind.i64 gs, Value.int IntKind.i64 gg] 37)).alloc _) = W
  have hA := hid (show Fr E0 w W by rw [← hW]; exact (Fr.refl.alloc _).alloc _)
  have hT := hid (show W.heap[w.heap.size + 1]? = some (.cells #[Value.bool false, Value.int IntKind.i64 0, Value.bool false, Value.int IntKind.i64 0, Value.slice none 0 0] 32 (0, 0)) by rw [← hW]; exact heap_alloc2_new w _ _)
  have hG := hid (show W.heap[w.heap.size]? = some (.cells #[Value.int IntKind.i64 gs, Value.int IntKind.i64 gg] 37 (0, 0)) by rw [← hW]; exact heap_alloc2_old w _ _)
  clear hW hm
  obtain ⟨L, cp, hv, hFL, _⟩ := H.out.at hk
  subst hv
  have hrd := (atW H.out hA.out).rdAt
  refine (waits_ok hrd gs gg).mono ?_
  rintro e w1 ⟨rfl, hf1⟩
  rw [HW.out]
  have F1 := hid hf1
  have FA := hid (hA.out.trans hf1)
  have T1 := hid (hf1.heapAt hT.out (fun x => x))
  have G1 := hid (hf1.heapAt hG.out (fun x => x))
  obtain ⟨⟨b0, b1, b2, b3, b4⟩, z0, z1, z2, z3, z4⟩ := blk5 T1.out
  have RD := hid (hrd.fr hf1)
  clear hf1 hrd
  have C1 := hid (atW H.out FA.out)
  obtain ⟨_, _, e0, _, c0, c1, c2, c3, c4, hfz⟩ := C1.out.at hk
  cases e0
  have HFZ := hid hfz
  have hlk := lt_of_get hk
  have HK := hid hk
  have O1 := hid (C1.out.own.each m (List.mem_of_getElem? hk))
  clear hk hfz
  obtain ⟨A1, n1', e1, _, hm1, _⟩ := O1.out.vals.read (by decide) (ints_len _)
  obtain ⟨A2, n2', e2, _, hm2, _⟩ := O1.out.snd.read (by decide) (wts_len _)
  obtain ⟨A3, n3', e3, _, hm3, _⟩ := O1.out.rcv.read (by decide) (wts_len _)
  rw [hv] at e1
  rw [e1] at c1
  rw [hs] at e2
  rw [e2] at c2
  rw [hcl] at c4
  rw [e3] at c3
  have E3 := hid e3
  clear e1 e2 e3 hcl hs hv
  obtain ⟨i0, hi0, hz0, hz1, hz2⟩ := info_parts info114
  have hf1 := HFZ.out (k * 5 + 3)
  obtain ⟨y0, y1, _, _⟩ := cell2 G1.out
  have CA := hid (C1.out.fr (Fr.refl (S := E0) |>.alloc (.cells #[.int .i64 gs, .int .i64 gg, .int .i64 0, .int .i64 0] 114)) (fun _ _ x => x))
  have OA := hid (CA.out.own.each m (List.mem_of_getElem? HK.out))
  have hown0 := hid (show World.ownsRow (w1.alloc (.cells #[.int .i64 gs, .int .i64 gg, .int .i64 0, .int .i64 0] 114)) 0 114 4 (.slice A3 m.ch.rcv.length n3') m.ch.rcv.length (wts m.ch.rcv) by rw [← E3.out]; exact OA.out.rcv.own (by decide) (wts_len _))
  have hnL : (Value.slice A3 m.ch.rcv.length n3').ownBlock ≠ some L := fun hx => C1.out.own.row.ne_type O1.out.rcv (by decide) rfl (by rw [E3.out]; exact hx)
  have hnR : (Value.slice A3 m.ch.rcv.length n3').ownBlock ≠ some (w.heap.size + 1) := fun hx => by have := H.out.lt _ (O1.out.rcv.2 _ (by rw [E3.out]; exact hx)); omega
  have hLl : L < w1.heap.size := C1.out.lt L hFL
  have hRl := heap_lt T1.out
  have hLw : L < w.heap.size := H.out.lt L hFL
  have hLR : ¬ L = w.heap.size + 1 := by omega
  have hLR' : ¬ w.heap.size + 1 = L := by omega
  have TA := hid ((Fr.refl (S := E0) |>.alloc (.cells #[.int .i64 gs, .int .i64 gg, .int .i64 0, .int .i64 0] 114)).heapAt T1.out (fun x => x))
  clear b0 b1 b2 b3 b4 z0 z1 z2 z3 z4
  go_wp2_with (first
    | (go_at_call 54; refine (at_in RD.out k hlk).mono ?_; rintro e w2 ⟨rfl, rfl⟩; simp only [tup2, Nat.zero_add]))
  go_region_law (refine step_append_lies _ (by rfl) (.tmp 117) (.tmp 120) 65 (by rfl) 0 114 i0 (.agg #[.int .i64 0, .int .i64 0, .int .i64 0, .int .i64 0]) 4 32 Try.underlying65 hi0 hz0 hz1 hz2 rfl (by decide) (.slice A3 m.ch.rcv.length n3') m.ch.rcv.length (wts m.ch.rcv) (by rfl) hown0.out ⟨w1.heap.size, 0, none⟩ 1 1 [.int .i64 gs, .int .i64 gg, .int .i64 0, .int .i64 0] (by rfl) (by rfl) (news1 _ _) (by simp [Value.oneCell']) (by decide) (by unfold maxLen; omega) (by omega) (Nat.zero_le _) (w1.heap.size + 1) (by simp) ?_; intro gb cap w3 hown3 hgrow3 hat3 hlt3; have x1 : w3.cell? ⟨L, k * 5 + 3, none⟩ = some (.slice A3 m.ch.rcv.length n3') := hgrow3.cell (cellA hLl c3) (fun e => hnL e.symm); have x2 : w3.frozen? ⟨L, k * 5 + 3, none⟩ = false := (by rw [hgrow3.frozen_far _ (Nat.lt_of_lt_of_le hLl (by simp)) (fun e => hnL e.symm)]; exact frozenA hLl hf1); have FG := hid (Fr.refl.grown (S := fun q => (Value.slice A3 m.ch.rcv.length n3').ownBlock = some q) hgrow3 (fun q hq => .inl hq)); have T3 := hid (FG.out.heapAt TA.out hnR); have HN := hid (And.intro hown3 (And.intro hgrow3 (And.intro hat3 hlt3))); clear hown3 hgrow3 hat3 hlt3; obtain ⟨⟨b0, b1, b2, b3, b4⟩, z0, z1, z2, z3, z4⟩ := blk5 T3.out)
  all_goals
    go_wp2_with fail
    have T4 := hid ((heap_setCell_other w3 ⟨L, k * 5 + 3, none⟩ (w.heap.size + 1) (.slice (some ⟨gb, 0, none⟩) (m.ch.rcv.length + 1) cap) hLR').trans T3.out)
    have ST := hid (appendR (m := m) (l' := m.ch.rcv ++ [⟨gs, gg, 0, 0⟩]) CA.out HK.out hFL (by rw [wts_app]; exact HN.out.1) (by rw [E3.out]; exact undrew HN.out.2.1) (by rw [E3.out]; simpa using HN.out.2.2.1) HN.out.2.2.2)
    have T5 := hid (set5_heap (w := w3.setCell ⟨L, k * 5 + 3, none⟩ (.slice (some ⟨gb, 0, none⟩) (m.ch.rcv.length + 1) cap)) T4.out (.bool true) (.int .i64 0) (.bool false) (.int .i64 0) (.slice none 0 0))
    have S5 := hid (set5_fr (S := fun k => k = w.heap.size + 1) (w := w3.setCell ⟨L, k * 5 + 3, none⟩ (.slice (some ⟨gb, 0, none⟩) (m.ch.rcv.length + 1) cap)) (B := w.heap.size + 1) rfl (.bool true) (.int .i64 0) (.bool false) (.int .i64 0) (.slice none 0 0))
    exact fin24 (m := { waits := true }) rfl rfl rfl T5.out ⟨_, rfl, RowF.nil, ST.out.then (FA.out.trans (Fr.refl.alloc _)) H.out.lt S5.out (fun q hq => by subst hq; exact ⟨Nat.le_succ _, by simp; omega⟩)⟩
set_option maxHeartbeats 4000000 in
theorem recv_value {w : World} {F : Nat → Prop} {g : Nat} {v0 : Value} {ms : List CM} (h : Chs w F g v0 ms) (gs gg : Int) (hn : ms.length ≤ 1024) (hfit : ∀ m ∈ ms, m.ch.Fit) (hw : waitsL gs gg (chs ms) = false) {k : Nat} {m : CM} (hk : ms[k]? = some m) {v : Int} {vs : List Int} (hv : m.ch.vals = v :: vs) (hs : m.ch.snd = []) :
    Calls Try.prog 24 #[.pointer (some ⟨g, 0, none⟩), .int .i64 ((k : Int) + 1), .agg #[.int .i64 gs, .int .i64 gg]] w (MvPost F g w ((chs ms).set k { m.ch with vals := vs }) { value := v, ok := true } 0) := by
  have H := hid h
  have hm := h.made
  have hgl := h.lt g h.mine
  have HW := hid hw
  clear h hw
  go_enter Try.func24, Try.ntmps24
  go_wp2_with (go_at_call 53; refine (is_made (g := g) (by rw [World.cell?_alloc_past _ _ _ (by simp; omega), World.cell?_alloc_past _ _ _ hgl]; exact hm)).mono ?_; rintro e w1 ⟨rfl, rfl⟩)
  generalize hW : ((w.alloc (Obj.cells #[Value.int IntKind.i64 gs, Value.int IntKind.i64 gg] 37)).alloc _) = W
  have hA := hid (show Fr E0 w W by rw [← hW]; exact (Fr.refl.alloc _).alloc _)
  have hT := hid (show W.heap[w.heap.size + 1]? = some (.cells #[Value.bool false, Value.int IntKind.i64 0, Value.bool false, Value.int IntKind.i64 0, Value.slice none 0 0] 32 (0, 0)) by rw [← hW]; exact heap_alloc2_new w _ _)
  have hG := hid (show W.heap[w.heap.size]? = some (.cells #[Value.int IntKind.i64 gs, Value.int IntKind.i64 gg] 37 (0, 0)) by rw [← hW]; exact heap_alloc2_old w _ _)
  clear hW hm
  obtain ⟨L, cp, hv, hFL, _⟩ := H.out.at hk
  subst hv
  have hrd := (atW H.out hA.out).rdAt
  refine (waits_ok hrd gs gg).mono ?_
  rintro e w1 ⟨rfl, hf1⟩
  rw [HW.out]
  have F1 := hid hf1
  have FA := hid (hA.out.trans hf1)
  have T1 := hid (hf1.heapAt hT.out (fun x => x))
  have G1 := hid (hf1.heapAt hG.out (fun x => x))
  obtain ⟨⟨b0, b1, b2, b3, b4⟩, z0, z1, z2, z3, z4⟩ := blk5 T1.out
  have RD := hid (hrd.fr hf1)
  clear hf1 hrd
  have C1 := hid (atW H.out FA.out)
  obtain ⟨_, _, e0, _, c0, c1, c2, c3, c4, hfz⟩ := C1.out.at hk
  cases e0
  have HFZ := hid hfz
  have hlk := lt_of_get hk
  have HK := hid hk
  have O1 := hid (C1.out.own.each m (List.mem_of_getElem? hk))
  clear hk hfz
  rcases O1.out.vals.form (by decide) (ints_len _) with ⟨_, h0, _⟩ | ⟨b1', p1, hv1, hFb, _, hn1, hm1, hr1, _⟩
  · rw [hv] at h0; simp at h0
  have hlv : m.ch.vals.length = vs.length + 1 := by rw [hv]; rfl
  rw [hlv] at hv1 hn1
  rw [hv1] at c1
  have d0 : w1.cell? ⟨b1', 0, none⟩ = some (.int .i64 v) := hr1 0 _ (by rw [hv]; rfl)
  have E1 := hid hv1
  have HVV := hid hv
  obtain ⟨A2, n2', e2, _, hm2, _⟩ := O1.out.snd.read (by decide) (wts_len _)
  rw [e2] at c2
  have E2 := hid e2
  have hm1' : p1 ≤ 2 ^ 63 - 1 := hm1
  have hm2' : m.ch.snd.length ≤ 2 ^ 63 - 1 := by rcases O1.out.snd.form (by decide) (wts_len _) with ⟨_, h0, _⟩ | ⟨_, _, _, _, _, h1, h2, _⟩; (omega); (exact Nat.le_trans h1 h2)
  have hLl : L < w1.heap.size := C1.out.lt L hFL
  clear hr1 hv hv1 e2 hm1 hm2
  go_wp2_with (first
    | (go_at_call 54; refine (at_in RD.out k hlk).mono ?_; rintro e w2 ⟨rfl, rfl⟩; simp only [tup2, Nat.zero_add]))
  generalize hW : w1.alloc (Obj.cells #[Value.bool false, Value.int IntKind.i64 v, Value.bool true, Value.int IntKind.i64 0, Value.slice none 0 0] 32) = W
  have FB := hid (show Fr E0 w1 W by rw [← hW]; exact Fr.refl.alloc _)
  have M1 := hid (show W.heap[w1.heap.size]? = some (.cells #[Value.bool false, Value.int IntKind.i64 v, Value.bool true, Value.int IntKind.i64 0, Value.slice none 0 0] 32 (0, 0)) by rw [← hW]; exact heap_alloc_new w1 _)
  have C2 := hid (C1.out.fr FB.out (fun _ _ x => x))
  have TB := hid (FB.out.heapAt T1.out (fun x => x))
  have hBF : ¬ F w1.heap.size := fun hx => by have := H.out.lt _ hx; have := FA.out.size; omega
  have hRF : ¬ F (w.heap.size + 1) := fun hx => by have := H.out.lt _ hx; omega
  have HBF := hid hBF
  have HRF := hid hRF
  have hR1 := heap_lt T1.out
  have O2 := hid (C2.out.own.each m (List.mem_of_getElem? HK.out))
  have RV := hid (show RowF W F 2 1 (.slice (some ⟨b1', 0, none⟩) (vs.length + 1) p1) (ints (v :: vs)) by rw [← E1.out, ← HVV.out]; exact O2.out.vals)
  have hbL : ¬ b1' = L := fun e => C2.out.own.row.ne_type RV.out (by decide) (g := L) rfl (by rw [← e]; rfl)
  have hbL' : ¬ L = b1' := fun e => hbL e.symm
  clear hW d0 c0 c1 c2 c3 c4 b0 b1 b2 b3 b4 z0 z1 z2 z3 z4 hBF hRF
  obtain ⟨_, _, e0, _, c0, c1, c2, c3, c4, hfz⟩ := C2.out.at HK.out
  cases e0
  rw [E1.out] at c1
  rw [E2.out] at c2
  refine (delete01 b1' p1 (vs.length + 1) v vs W F rfl RV.out).mono ?_
  rintro e w2 ⟨rfl, hr2, hf2⟩
  have x1 : w2.cell? ⟨L, k * 5 + 1, none⟩ = some (.slice (some ⟨b1', 0, none⟩) (vs.length + 1) p1) := hf2.cell c1 hbL'
  have x2 : w2.cell? ⟨L, k * 5 + 2, none⟩ = some (.slice A2 m.ch.snd.length n2') := hf2.cell c2 hbL'
  have x3 : w2.frozen? ⟨L, k * 5 + 1, none⟩ = false := (C2.out.own.row.fr hf2 (fun q hq hq' => by simp [Value.ownBlock] at hq; omega)).free rfl _
  have C3 := hid (C2.out.putV HK.out (w1 := w2) (F' := F) (l' := vs) (v' := .slice (some ⟨b1', 0, none⟩) vs.length p1) (hf2.mono (fun q hq => by rw [E1.out, hq]; rfl)) (fun q hq => hq) (fun q hq => Nat.lt_of_lt_of_le (C2.out.lt q hq) hf2.size) hr2 (fun q hq => .inl (by rw [E1.out]; exact hq)))
  have F3 := hid ((hf2.mono (T := F) (fun q hq => by rw [hq]; exact hFb)).setCell (p := ⟨L, k * 5 + 1, none⟩) (.slice (some ⟨b1', 0, none⟩) vs.length p1) (.inl hFL))
  have M3 := hid (F3.out.heapAt M1.out HBF.out)
  have T3 := hid (F3.out.heapAt TB.out HRF.out)
  clear hr2 hf2 c0 c1 c2 c3 c4 hfz
  rw [hs] at x2
  clear hs
  obtain ⟨⟨i0, i1, i2, i3, i4⟩, _⟩ := blk5 M3.out
  obtain ⟨⟨b0, b1, b2, b3, b4⟩, z0, z1, z2, z3, z4⟩ := blk5 T3.out
  go_wp2_with fail
  have T5 := hid (set5_heap (w := (w2.setCell ⟨L, k * 5 + 1, none⟩ (.slice (some ⟨b1', 0, none⟩) vs.length p1))) T3.out (.bool false) (.int .i64 v) (.bool true) (.int .i64 0) (.slice none 0 0))
  have S5 := hid (set5_fr (S := fun k => k = w.heap.size + 1) (w := (w2.setCell ⟨L, k * 5 + 1, none⟩ (.slice (some ⟨b1', 0, none⟩) vs.length p1))) (B := w.heap.size + 1) rfl (.bool false) (.int .i64 v) (.bool true) (.int .i64 0) (.slice none 0 0))
  exact fin24 (m := { value := v, ok := true }) rfl rfl rfl T5.out ⟨_, rfl, RowF.nil, ((show IsCh _ F g ((chs ms).set k { m.ch with vals := vs }) from ⟨_, _, C3.out, chs_set⟩).fr S5.out (fun q hq e => HRF.out (e ▸ hq))).step (fun q hq => .inl hq) ((FA.out.e0.trans (FB.out.e0.trans F3.out)).trans' S5.out (fun i hi => .inr (by omega)))⟩
set_option maxHeartbeats 4000000 in
theorem recv_value_wakes {w : World} {F : Nat → Prop} {g : Nat} {v0 : Value} {ms : List CM} (h : Chs w F g v0 ms) (gs gg : Int) (hn : ms.length ≤ 1024) (hfit : ∀ m ∈ ms, m.ch.Fit) (hw : waitsL gs gg (chs ms) = false) {k : Nat} {m : CM} (hk : ms[k]? = some m) {v : Int} {vs : List Int} (hv : m.ch.vals = v :: vs) {x : Wt} {r : List Wt} (hs : m.ch.snd = x :: r) (hcv : vs.length ≤ 1024) :
    Calls Try.prog 24 #[.pointer (some ⟨g, 0, none⟩), .int .i64 ((k : Int) + 1), .agg #[.int .i64 gs, .int .i64 gg]] w (MvPost F g w (leaveL x.s x.g ((chs ms).set k { m.ch with vals := vs ++ [x.v] })) { value := v, ok := true, woken := [⟨x.s, x.g, x.c, 0, true, 0⟩] } 0) := by
  have H := hid h
  have hm := h.made
  have hgl := h.lt g h.mine
  have HW := hid hw
  clear h hw
  go_enter Try.func24, Try.ntmps24
  go_wp2_with (go_at_call 53; refine (is_made (g := g) (by rw [World.cell?_alloc_past _ _ _ (by simp; omega), World.cell?_alloc_past _ _ _ hgl]; exact hm)).mono ?_; rintro e w1 ⟨rfl, rfl⟩)
  generalize hW : ((w.alloc (Obj.cells #[Value.int IntKind.i64 gs, Value.int IntKind.i64 gg] 37)).alloc _) = W
  have hA := hid (show Fr E0 w W by rw [← hW]; exact (Fr.refl.alloc _).alloc _)
  have hT := hid (show W.heap[w.heap.size + 1]? = some (.cells #[Value.bool false, Value.int IntKind.i64 0, Value.bool false, Value.int IntKind.i64 0, Value.slice none 0 0] 32 (0, 0)) by rw [← hW]; exact heap_alloc2_new w _ _)
  have hG := hid (show W.heap[w.heap.size]? = some (.cells #[Value.int IntKind.i64 gs, Value.int IntKind.i64 gg] 37 (0, 0)) by rw [← hW]; exact heap_alloc2_old w _ _)
  clear hW hm
  obtain ⟨L, cp, hv, hFL, _⟩ := H.out.at hk
  subst hv
  have hrd := (atW H.out hA.out).rdAt
  refine (waits_ok hrd gs gg).mono ?_
  rintro e w1 ⟨rfl, hf1⟩
  rw [HW.out]
  have F1 := hid hf1
  have FA := hid (hA.out.trans hf1)
  have T1 := hid (hf1.heapAt hT.out (fun x => x))
  have G1 := hid (hf1.heapAt hG.out (fun x => x))
  obtain ⟨⟨b0, b1, b2, b3, b4⟩, z0, z1, z2, z3, z4⟩ := blk5 T1.out
  have RD := hid (hrd.fr hf1)
  clear hf1 hrd
  have C1 := hid (atW H.out FA.out)
  obtain ⟨_, _, e0, _, c0, c1, c2, c3, c4, hfz⟩ := C1.out.at hk
  cases e0
  have HFZ := hid hfz
  have hlk := lt_of_get hk
  have HK := hid hk
  have O1 := hid (C1.out.own.each m (List.mem_of_getElem? hk))
  clear hk hfz
  rcases O1.out.vals.form (by decide) (ints_len _) with ⟨_, h0, _⟩ | ⟨b1', p1, hv1, hFb, _, hn1, hm1, hr1, _⟩
  · rw [hv] at h0; simp at h0
  have hlv : m.ch.vals.length = vs.length + 1 := by rw [hv]; rfl
  rw [hlv] at hv1 hn1
  rw [hv1] at c1
  have d0 : w1.cell? ⟨b1', 0, none⟩ = some (.int .i64 v) := hr1 0 _ (by rw [hv]; rfl)
  have E1 := hid hv1
  have HVV := hid hv
  obtain ⟨A2, n2', e2, _, hm2, _⟩ := O1.out.snd.read (by decide) (wts_len _)
  rw [e2] at c2
  have E2 := hid e2
  have hm1' : p1 ≤ 2 ^ 63 - 1 := hm1
  have hm2' : m.ch.snd.length ≤ 2 ^ 63 - 1 := by rcases O1.out.snd.form (by decide) (wts_len _) with ⟨_, h0, _⟩ | ⟨_, _, _, _, _, h1, h2, _⟩; (omega); (exact Nat.le_trans h1 h2)
  have hLl : L < w1.heap.size := C1.out.lt L hFL
  clear hr1 hv hv1 e2 hm1 hm2
  go_wp2_with (first
    | (go_at_call 54; refine (at_in RD.out k hlk).mono ?_; rintro e w2 ⟨rfl, rfl⟩; simp only [tup2, Nat.zero_add]))
  generalize hW : w1.alloc (Obj.cells #[Value.bool false, Value.int IntKind.i64 v, Value.bool true, Value.int IntKind.i64 0, Value.slice none 0 0] 32) = W
  have FB := hid (show Fr E0 w1 W by rw [← hW]; exact Fr.refl.alloc _)
  have M1 := hid (show W.heap[w1.heap.size]? = some (.cells #[Value.bool false, Value.int IntKind.i64 v, Value.bool true, Value.int IntKind.i64 0, Value.slice none 0 0] 32 (0, 0)) by rw [← hW]; exact heap_alloc_new w1 _)
  have C2 := hid (C1.out.fr FB.out (fun _ _ x => x))
  have TB := hid (FB.out.heapAt T1.out (fun x => x))
  have hBF : ¬ F w1.heap.size := fun hx => by have := H.out.lt _ hx; have := FA.out.size; omega
  have hRF : ¬ F (w.heap.size + 1) := fun hx => by have := H.out.lt _ hx; omega
  have HBF := hid hBF
  have HRF := hid hRF
  have hR1 := heap_lt T1.out
  have O2 := hid (C2.out.own.each m (List.mem_of_getElem? HK.out))
  have RV := hid (show RowF W F 2 1 (.slice (some ⟨b1', 0, none⟩) (vs.length + 1) p1) (ints (v :: vs)) by rw [← E1.out, ← HVV.out]; exact O2.out.vals)
  have hbL : ¬ b1' = L := fun e => C2.out.own.row.ne_type RV.out (by decide) (g := L) rfl (by rw [← e]; rfl)
  have hbL' : ¬ L = b1' := fun e => hbL e.symm
  clear hW d0 c0 c1 c2 c3 c4 b0 b1 b2 b3 b4 z0 z1 z2 z3 z4 hBF hRF
  obtain ⟨_, _, e0, _, c0, c1, c2, c3, c4, hfz⟩ := C2.out.at HK.out
  cases e0
  rw [E1.out] at c1
  rw [E2.out] at c2
  refine (delete01 b1' p1 (vs.length + 1) v vs W F rfl RV.out).mono ?_
  rintro e w2 ⟨rfl, hr2, hf2⟩
  have x1 : w2.cell? ⟨L, k * 5 + 1, none⟩ = some (.slice (some ⟨b1', 0, none⟩) (vs.length + 1) p1) := hf2.cell c1 hbL'
  have x2 : w2.cell? ⟨L, k * 5 + 2, none⟩ = some (.slice A2 m.ch.snd.length n2') := hf2.cell c2 hbL'
  have x3 : w2.frozen? ⟨L, k * 5 + 1, none⟩ = false := (C2.out.own.row.fr hf2 (fun q hq hq' => by simp [Value.ownBlock] at hq; omega)).free rfl _
  have C3 := hid (C2.out.putV HK.out (w1 := w2) (F' := F) (l' := vs) (v' := .slice (some ⟨b1', 0, none⟩) vs.length p1) (hf2.mono (fun q hq => by rw [E1.out, hq]; rfl)) (fun q hq => hq) (fun q hq => Nat.lt_of_lt_of_le (C2.out.lt q hq) hf2.size) hr2 (fun q hq => .inl (by rw [E1.out]; exact hq)))
  have F3 := hid ((hf2.mono (T := F) (fun q hq => by rw [hq]; exact hFb)).setCell (p := ⟨L, k * 5 + 1, none⟩) (.slice (some ⟨b1', 0, none⟩) vs.length p1) (.inl hFL))
  have M3 := hid (F3.out.heapAt M1.out HBF.out)
  have T3 := hid (F3.out.heapAt TB.out HRF.out)
  clear hr2 hf2 c0 c1 c2 c3 c4 hfz
  have hx : m.ch.snd[0]? = some x := by rw [hs]; rfl
  have HK3 := hid (List.getElem?_set_self (lt_of_get HK.out) (l := ms) (a := m.setV (.slice (some ⟨b1', 0, none⟩) vs.length p1) vs))
  have O3 := hid (C3.out.own.each _ (List.mem_of_getElem? HK3.out))
  rcases O3.out.snd.form (by decide) (wts_len _) with ⟨_, h0, _⟩ | ⟨b3', p3, hv3, _, hb3l, hn3, _, hr3, _⟩
  · change m.ch.snd.length = 0 at h0; rw [hs] at h0; simp at h0
  obtain ⟨d0, d1, d2, d3⟩ := hr3.wt hx
  simp only [Nat.zero_add, Nat.zero_mul] at d0 d1 d2 d3
  have hl3 : m.ch.snd.length = r.length + 1 := by rw [hs]; rfl
  have e3 : (Value.slice A2 m.ch.snd.length n2') = .slice (some ⟨b3', 0, none⟩) (r.length + 1) p3 := by rw [← E2.out, ← hl3]; exact hv3
  change m.ch.snd.length ≤ p3 at hn3
  rw [hl3] at hn3
  rw [e3] at x2
  clear hr3 hx hv3 hl3 e3 hs
  go_wp2_with fail
  generalize hW4 : (w2.setCell ⟨L, k * 5 + 1, none⟩ (.slice (some ⟨b1', 0, none⟩) vs.length p1)).alloc (Obj.cells #[Value.int IntKind.i64 x.s, Value.int IntKind.i64 x.g, Value.int IntKind.i64 x.c, Value.int IntKind.i64 x.v] 114) = W4
  have FD := hid (show Fr E0 (w2.setCell ⟨L, k * 5 + 1, none⟩ (.slice (some ⟨b1', 0, none⟩) vs.length p1)) W4 by rw [← hW4]; exact Fr.refl.alloc _)
  have X4 := hid (show W4.heap[w2.heap.size]? = some (.cells #[.int .i64 x.s, .int .i64 x.g, .int .i64 x.c, .int .i64 x.v] 114 (0, 0)) by rw [← hW4]; have := heap_alloc_new (w2.setCell ⟨L, k * 5 + 1, none⟩ (.slice (some ⟨b1', 0, none⟩) vs.length p1)) (Obj.cells #[Value.int IntKind.i64 x.s, Value.int IntKind.i64 x.g, Value.int IntKind.i64 x.c, Value.int IntKind.i64 x.v] 114); simpa using this)
  have C4 := hid (C3.out.fr FD.out (fun _ _ x => x))
  have M4 := hid (FD.out.heapAt M3.out (fun x => x))
  have T4 := hid (FD.out.heapAt T3.out (fun x => x))
  have hw2 : W.heap.size ≤ w2.heap.size := by have := F3.out.size; simpa using this
  have hww : w.heap.size ≤ w2.heap.size := Nat.le_trans FA.out.size (Nat.le_trans FB.out.size hw2)
  have hXF : Hid (¬ F w2.heap.size) := fun hx => by have := H.out.lt _ hx; omega
  clear hW4 x1 x2 x3 d0 d1 d2 d3
  obtain ⟨L', cp', e0, _, c0, c1, c2, c3, c4, hfz⟩ := C4.out.at HK3.out
  have ea : L = L' := by injection e0 with ea; injection ea with ea; injection ea with ea
  subst ea
  clear e0
  change W4.cell? ⟨L, k * 5 + 1, none⟩ = some (.slice (some ⟨b1', 0, none⟩) vs.length p1) at c1
  obtain ⟨y0, y1, y2, y3⟩ := cell4 X4.out
  have hfz1 := hfz (k * 5 + 1)
  obtain ⟨j0, hi0, hz0, hz1, hz2⟩ := info_parts info2'
  have CA := hid (C4.out.fr (Fr.refl (S := E0) |>.alloc (.cells #[.int .i64 x.v] 2)) (fun _ _ x => x))
  have OA := hid (CA.out.own.each _ (List.mem_of_getElem? HK3.out))
  have hown0 := hid (show World.ownsRow (W4.alloc (.cells #[.int .i64 x.v] 2)) 0 2 1 (.slice (some ⟨b1', 0, none⟩) vs.length p1) vs.length (ints vs) from OA.out.vals.own (by decide) (ints_len _))
  have hnL : (Value.slice (some ⟨b1', 0, none⟩) vs.length p1).ownBlock ≠ some L := fun hx => hbL (by simpa [Value.ownBlock] using hx)
  have hL4 : L < W4.heap.size := C4.out.lt L hFL
  have hcv' : vs.length ≤ 2 ^ 63 - 1 := by omega
  clear c0 c2 c3 c4 hfz
  go_region_law (refine step_append_lies _ (by rfl) (.tmp 74) (.tmp 77) 22 (by rfl) 0 2 j0 (.int .i64 0) 1 8 Try.underlying22 hi0 hz0 hz1 hz2 rfl (by decide) (.slice (some ⟨b1', 0, none⟩) vs.length p1) vs.length (ints vs) (by rfl) hown0.out ⟨W4.heap.size, 0, none⟩ 1 1 [.int .i64 x.v] (by rfl) (by rfl) (news1 _ _) (by simp [Value.oneCell']) (by decide) (by unfold maxLen; omega) (by omega) (Nat.zero_le _) (W4.heap.size + 1) (by simp) ?_; intro gb cap w5 hown3 hgrow3 hat3 hlt3; have x1 : w5.cell? ⟨L, k * 5 + 1, none⟩ = some (.slice (some ⟨b1', 0, none⟩) vs.length p1) := hgrow3.cell (cellA hL4 c1) (fun e => hnL e.symm); have x2 : w5.frozen? ⟨L, k * 5 + 1, none⟩ = false := (by rw [hgrow3.frozen_far _ (Nat.lt_of_lt_of_le hL4 (by simp)) (fun e => hnL e.symm)]; exact frozenA hL4 hfz1); have HN := hid (And.intro hown3 (And.intro hgrow3 (And.intro hat3 hlt3))); clear hown3 hgrow3 hat3 hlt3)
  all_goals
    have ST := hid (appendV (m := m.setV (.slice (some ⟨b1', 0, none⟩) vs.length p1) vs) (l' := vs ++ [x.v]) CA.out HK3.out hFL (by rw [ints_app]; exact HN.out.1) (undrew HN.out.2.1) (by rcases HN.out.2.2.1 with h | h; (exact .inl h); (exact .inr (by simp; exact h))) HN.out.2.2.2)
    have hl2 : Hid ((chs (ms.set k (m.setV (.slice (some ⟨b1', 0, none⟩) vs.length p1) vs))).set k { (m.setV (.slice (some ⟨b1', 0, none⟩) vs.length p1) vs).ch with vals := vs ++ [x.v] } = (chs ms).set k { m.ch with vals := vs ++ [x.v] }) := by show _ = _; rw [chs_set, List.set_set]; rfl
    obtain ⟨F', IC, hF', FF⟩ := ST.out
    rw [hl2.out] at IC
    have HIC := hid IC
    have HF' := hid hF'
    have HFF := hid FF
    clear IC hF' FF
    have M6 := hid (HFF.out.heapAt (w := W4.alloc (.cells #[.int .i64 x.v] 2)) ((Fr.refl (S := E0) |>.alloc (.cells #[.int .i64 x.v] 2)).heapAt M4.out (fun x => x)) HBF.out)
    have T6 := hid (HFF.out.heapAt (w := W4.alloc (.cells #[.int .i64 x.v] 2)) ((Fr.refl (S := E0) |>.alloc (.cells #[.int .i64 x.v] 2)).heapAt T4.out (fun x => x)) HRF.out)
    have X6 := hid (HFF.out.heapAt (w := W4.alloc (.cells #[.int .i64 x.v] 2)) ((Fr.refl (S := E0) |>.alloc (.cells #[.int .i64 x.v] 2)).heapAt X4.out (fun x => x)) hXF.out)
    clear x1 x2 c1 y0 y1 y2 y3 hfz1
    generalize hW6 : w5.setCell ⟨L, k * 5 + 1, none⟩ (.slice (some ⟨gb, 0, none⟩) (vs.length + 1) cap) = W6 at *
    clear hW6
    obtain ⟨y0, y1, y2, y3⟩ := cell4 X6.out
    have hmm4 := heap_lt M4.out
    have hrr4 := heap_lt T4.out
    have hMF' : Hid (¬ F' w1.heap.size) := fun hx => by rcases HF'.out _ hx with h1 | h1; (exact HBF.out h1); (simp at h1; omega)
    have hRF' : Hid (¬ F' (w.heap.size + 1)) := fun hx => by rcases HF'.out _ hx with h1 | h1; (exact HRF.out h1); (simp at h1; omega)
    have hlen : ((chs ms).set k { m.ch with vals := vs ++ [x.v] }).length ≤ 1024 := by rw [List.length_set, chs_len]; exact hn
    have hfit2 : ∀ c ∈ (chs ms).set k { m.ch with vals := vs ++ [x.v] }, c.Fit := by
      intro c hc
      rcases List.mem_or_eq_of_mem_set hc with hc | rfl
      · obtain ⟨q, hq, rfl⟩ := List.mem_map.1 hc; exact hfit q hq
      · obtain ⟨_, f2, f3⟩ := hfit m (List.mem_of_getElem? HK.out)
        exact ⟨by simp; omega, f2, f3⟩
    clear hmm4 hrr4
    go_wp2_with (go_at_call 55; refine (wake_is HIC.out x 0 true 0 hlen hfit2).mono ?_; rintro e w7 ⟨rfl, hl7, hf7⟩; simp only [Wk.val]; have L7 := hid hl7; have F7 := hid hf7; have A7 := hid ((Fr.refl (S := E0) (w := w7)).alloc (.cells #[.int .i64 x.s, .int .i64 x.g, .int .i64 x.c, .int .i64 0, .bool true, .int .i64 0] 39)); have M7 := hid (A7.out.heapAt (hf7.heapAt M6.out hMF'.out) (fun x => x)); have T7 := hid (A7.out.heapAt (hf7.heapAt T6.out hRF'.out) (fun x => x)); clear hl7 hf7; obtain ⟨⟨b0, b1, b2, b3, b4⟩, z0, z1, z2, z3, z4⟩ := blk5 T7.out; obtain ⟨⟨p0, p1', p2, p3', p4⟩, _, _, _, _, q4⟩ := blk5 M7.out; have hMR : ¬ w1.heap.size = w.heap.size + 1 := (by omega); have hMR' : ¬ w.heap.size + 1 = w1.heap.size := (by omega))
    have T8 := hid ((heap_setCell_other (w7.alloc (.cells #[.int .i64 x.s, .int .i64 x.g, .int .i64 x.c, .int .i64 0, .bool true, .int .i64 0] 39)) ⟨w1.heap.size, 4, none⟩ (w.heap.size + 1) (.slice (some ⟨w7.heap.size, 0, none⟩) 1 1) hMR').trans T7.out)
    have F8 := hid ((Fr.refl (S := fun q => q = w1.heap.size) (w := w7.alloc (.cells #[.int .i64 x.s, .int .i64 x.g, .int .i64 x.c, .int .i64 0, .bool true, .int .i64 0] 39))).setCell (p := ⟨w1.heap.size, 4, none⟩) (.slice (some ⟨w7.heap.size, 0, none⟩) 1 1) (.inl rfl))
    have L8 := hid ((L7.out.fr A7.out (fun _ _ x => x)).fr F8.out (fun q hq e => hMF'.out (e ▸ hq)))
    have hw4 : w.heap.size ≤ W4.heap.size := by have := FD.out.size; simp at this; omega
    have FY := hid (((FA.out.e0 (S := F)).trans (FB.out.e0.trans (F3.out.trans (FD.out.e0.trans ((Fr.refl.alloc _).trans HFF.out))))).trans' F7.out (fun q hq => by rcases HF'.out q hq with h | h; (exact .inl h); (exact .inr (by simp at h; omega))))
    have FZ := hid ((FY.out.trans A7.out.e0).trans' F8.out (fun q hq => .inr (by have := FA.out.size; omega)))
    have hR2 := hid (rowNew w7 w FY.out.size [⟨x.s, x.g, x.c, 0, true, 0⟩] (show 1 ≤ maxLen by decide) _ rfl)
    have hs7 : Hid (W4.heap.size ≤ w7.heap.size) := by have h1 := HFF.out.size; have h2 := F7.out.size; simp at h1; show _ ≤ _; omega
    have hm4 := heap_lt M4.out
    have hr4 := heap_lt T4.out
    have HR3 := hid ((hR2.out.fr F8.out (fun q hq e => by have := hs7.out; simp [Value.ownBlock] at hq; omega)))
    have T5 := hid (set5_heap (w := ((w7.alloc (.cells #[.int .i64 x.s, .int .i64 x.g, .int .i64 x.c, .int .i64 0, .bool true, .int .i64 0] 39)).setCell ⟨w1.heap.size, 4, none⟩ (.slice (some ⟨w7.heap.size, 0, none⟩) 1 1))) T8.out (.bool false) (.int .i64 v) (.bool true) (.int .i64 0) (.slice (some ⟨w7.heap.size, 0, none⟩) 1 1))
    have S5 := hid (set5_fr (S := fun k => k = w.heap.size + 1) (w := ((w7.alloc (.cells #[.int .i64 x.s, .int .i64 x.g, .int .i64 x.c, .int .i64 0, .bool true, .int .i64 0] 39)).setCell ⟨w1.heap.size, 4, none⟩ (.slice (some ⟨w7.heap.size, 0, none⟩) 1 1))) (B := w.heap.size + 1) rfl (.bool false) (.int .i64 v) (.bool true) (.int .i64 0) (.slice (some ⟨w7.heap.size, 0, none⟩) 1 1))
    exact fin24 (m := { value := v, ok := true, woken := [⟨x.s, x.g, x.c, 0, true, 0⟩] }) rfl rfl rfl T5.out ⟨_, rfl, (HR3.out.fr S5.out (fun q hq e => by have := hs7.out; simp [Value.ownBlock] at hq; omega)), (L8.out.fr S5.out (fun q hq e => hRF'.out (e ▸ hq))).step (fun q hq => by rcases HF'.out q hq with h | h; (exact .inl h); (exact .inr (by simp at h; omega))) (FZ.out.trans' S5.out (fun i hi => .inr (by omega)))⟩
end Go.Proofs.Yteffmnohgnmanaa
