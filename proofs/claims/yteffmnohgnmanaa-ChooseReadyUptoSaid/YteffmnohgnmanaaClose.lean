/- (*Chans).Close. -/
import Derived.Test.YteffmnohgnmanaaSend
import Derived.Deep.RegionLaw
import Derived.BigRegion
namespace Go.Proofs.Yteffmnohgnmanaa
open Go.RowKit
set_option linter.unusedVariables false
attribute [local go_sem ↓] Go.wp_at_zero Go.wp_at_succ
theorem wakeR_nil {l : List Ch} {k : Nat} {c : Ch} (acc : List Wk) (h : l[k]? = some c) (hr : c.rcv = []) : wakeR l k acc = (l, acc) := by
  rw [wakeR]; split
  · rfl
  · rename_i c' h'; rw [h] at h'; cases h'; split
    · rfl
    · rename_i h2; rw [hr] at h2; cases h2
theorem wakeR_cons {l : List Ch} {k : Nat} {c : Ch} {x : Wt} {r : List Wt} (acc : List Wk) (h : l[k]? = some c) (hr : c.rcv = x :: r) : wakeR l k acc = wakeR (leaveL x.s x.g l) k (acc ++ [⟨x.s, x.g, x.c, 0, false, 0⟩]) := by
  rw [wakeR]; split
  · rename_i h'; rw [h] at h'; cases h'
  · rename_i c' h'; rw [h] at h'; cases h'; split
    · rename_i h2; rw [hr] at h2; cases h2
    · rename_i y s h2; rw [hr] at h2; cases h2; rfl
theorem wakeS_nil {l : List Ch} {k : Nat} {c : Ch} (acc : List Wk) (h : l[k]? = some c) (hr : c.snd = []) : wakeS l k acc = (l, acc) := by
  rw [wakeS]; split
  · rfl
  · rename_i c' h'; rw [h] at h'; cases h'; split
    · rfl
    · rename_i h2; rw [hr] at h2; cases h2
theorem wakeS_cons {l : List Ch} {k : Nat} {c : Ch} {x : Wt} {r : List Wt} (acc : List Wk) (h : l[k]? = some c) (hr : c.snd = x :: r) : wakeS l k acc = wakeS (leaveL x.s x.g l) k (acc ++ [⟨x.s, x.g, x.c, 0, false, 6⟩]) := by
  rw [wakeS]; split
  · rename_i h'; rw [h] at h'; cases h'
  · rename_i c' h'; rw [h] at h'; cases h'; split
    · rename_i h2; rw [hr] at h2; cases h2
    · rename_i y s h2; rw [hr] at h2; cases h2; rfl
theorem fit_leave {gs gg : Int} {c : Ch} (h : c.Fit) : (leaveCh gs gg c).Fit := by
  obtain ⟨h1, h2, h3⟩ := h
  have a := wout_le gs gg c.snd
  have b := wout_le gs gg c.rcv
  refine ⟨h1, ?_, ?_⟩ <;> simp only [leaveCh] <;> omega
theorem fits_leave {gs gg : Int} {l : List Ch} (h : ∀ c ∈ l, c.Fit) : ∀ c ∈ leaveL gs gg l, c.Fit := by
  intro c hc
  obtain ⟨q, hq, rfl⟩ := List.mem_map.1 hc
  exact fit_leave (h q hq)
/-- What holds at the head of each of Close's rounds. -/
structure CloseRel (W0 wr : World) (F : Nat → Prop) (g : Nat) (v0 : Value) (k M R n0 : Nat) (l : List Ch) (acc : List Wk) (wv : Value) (c : Ch) : Prop where
  ch : IsChV wr F g v0 l
  len : l.length ≤ 1024
  fit : ∀ c ∈ l, c.Fit
  at' : l[k]? = some c
  room : acc.length + c.rcv.length + c.snd.length ≤ n0
  cell : wr.heap[M]? = some (.cells #[.bool false, .int .i64 0, .bool false, .int .i64 0, wv] 32 (0, 0))
  res : wr.heap[R]? = some (.cells #[.bool false, .int .i64 0, .bool false, .int .i64 0, .slice none 0 0] 32 (0, 0))
  row : RowF wr (New W0) 39 6 wv (wks acc)
  fr : Fr (fun q => F q ∨ q = M) W0 wr
theorem info39 : (Try.prog.info? 39).map (fun i => (i.zero, i.size, i.bytes)) = some (some (.agg #[.int .i64 0, .int .i64 0, .int .i64 0, .int .i64 0, .bool false, .int .i64 0]), 6, 48) := by kernel_rfl
def MvPost1 (F : Nat → Prop) (g : Nat) (w : World) (l' : List Ch) (m : Mv) (e : Ending) (w' : World) : Prop := ∃ wv, e = .returned (m.val wv) ∧ (∃ G : Nat → Prop, RowF w' G 39 6 wv (wks m.woken)) ∧ Step F g w l' w'
theorem fin30 {a : Act} {W : World} {R : Nat} {Q : Ending → World → Prop} {m : Mv} {wv : Value} (hd : a.defers = []) (h8 : a.tmps.getD 4 undef = .pointer (some ⟨R, 0, none⟩))
    (hR : W.heap[R]? = some (.cells #[.bool m.waits, .int .i64 m.value, .bool m.ok, .int .i64 m.trap, wv] 32 (0, 0))) (hQ : Q (.returned (m.val wv)) W) : bodyPost Try.prog Try.f30 Q .ret a W := by
  obtain ⟨⟨k0, k1, k2, k3, k4⟩, _⟩ := blk5 hR
  have h8' : a.tmps[4]?.getD undef = .pointer (some ⟨R, 0, none⟩) := by simpa using h8
  exact bodyPost_ret (v := m.val wv) (by simp [results, Try.results30, go_sem, h8', k0, k1, k2, k3, k4, Mv.val]) hd hQ
set_option maxHeartbeats 2000000 in
theorem close_out {w : World} {F : Nat → Prop} {g : Nat} {v0 : Value} {ms : List CM} (h : Chs w F g v0 ms) (ch : Int) (hch : ch < 0 ∨ (ms.length : Int) < ch) :
    Calls Try.prog 30 #[.pointer (some ⟨g, 0, none⟩), .int .i64 ch] w (MvPost1 F g w (chs ms) { trap := 4 }) := by
  have H := hid h
  have HC := hid hch
  clear h hch
  go_enter Try.func30, Try.ntmps30
  go_wp2_with fail
  generalize hW : (w.alloc (Obj.cells _ 32)) = W
  have FA := hid (show Fr E0 w W by rw [← hW]; exact Fr.refl.alloc _)
  have T1 := hid (show W.heap[w.heap.size]? = some (.cells #[Value.bool false, Value.int IntKind.i64 0, Value.bool false, Value.int IntKind.i64 0, Value.slice none 0 0] 32 (0, 0)) by rw [← hW]; exact heap_alloc_new w _)
  clear hW
  obtain ⟨A, cp, hv, hrd⟩ := (atW H.out FA.out).rd
  have RD := hid hrd
  clear hrd
  obtain ⟨⟨b0, b1, b2, b3, b4⟩, z0, z1, z2, z3, z4⟩ := blk5 T1.out
  refine (at_out RD.out ch HC.out).mono ?_
  rintro e w2 ⟨rfl, rfl⟩
  simp only [tup2]
  go_wp2_with fail
  have T5 := hid (set5_heap (w := W) T1.out (.bool false) (.int .i64 0) (.bool false) (.int .i64 4) (.slice none 0 0))
  have S5 := hid (set5_fr (S := fun k => k = w.heap.size) (w := W) (B := w.heap.size) rfl (.bool false) (.int .i64 0) (.bool false) (.int .i64 4) (.slice none 0 0))
  exact fin30 (m := { trap := 4 }) rfl rfl T5.out ⟨_, rfl, ⟨F, RowF.nil⟩, step_same H.out (Nat.le_refl _) FA.out S5.out⟩
set_option maxHeartbeats 2000000 in
theorem close_nil {w : World} {F : Nat → Prop} {g : Nat} {v0 : Value} {ms : List CM} (h : Chs w F g v0 ms) :
    Calls Try.prog 30 #[.pointer (some ⟨g, 0, none⟩), .int .i64 0] w (MvPost1 F g w (chs ms) { trap := 8 }) := by
  have H := hid h
  clear h
  go_enter Try.func30, Try.ntmps30
  go_wp2_with fail
  generalize hW : (w.alloc (Obj.cells _ 32)) = W
  have FA := hid (show Fr E0 w W by rw [← hW]; exact Fr.refl.alloc _)
  have T1 := hid (show W.heap[w.heap.size]? = some (.cells #[Value.bool false, Value.int IntKind.i64 0, Value.bool false, Value.int IntKind.i64 0, Value.slice none 0 0] 32 (0, 0)) by rw [← hW]; exact heap_alloc_new w _)
  clear hW
  obtain ⟨A, cp, hv, hrd⟩ := (atW H.out FA.out).rd
  have RD := hid hrd
  clear hrd
  obtain ⟨⟨b0, b1, b2, b3, b4⟩, z0, z1, z2, z3, z4⟩ := blk5 T1.out
  refine (at_zero RD.out).mono ?_
  rintro e w2 ⟨rfl, rfl⟩
  simp only [tup2]
  go_wp2_with fail
  have T5 := hid (set5_heap (w := W) T1.out (.bool false) (.int .i64 0) (.bool false) (.int .i64 8) (.slice none 0 0))
  have S5 := hid (set5_fr (S := fun k => k = w.heap.size) (w := W) (B := w.heap.size) rfl (.bool false) (.int .i64 0) (.bool false) (.int .i64 8) (.slice none 0 0))
  exact fin30 (m := { trap := 8 }) rfl rfl T5.out ⟨_, rfl, ⟨F, RowF.nil⟩, step_same H.out (Nat.le_refl _) FA.out S5.out⟩
set_option maxHeartbeats 2000000 in
theorem close_closed {w : World} {F : Nat → Prop} {g k : Nat} {v0 : Value} {ms : List CM} {m : CM} (h : Chs w F g v0 ms) (hk : ms[k]? = some m) (hcl : m.ch.cl = true) :
    Calls Try.prog 30 #[.pointer (some ⟨g, 0, none⟩), .int .i64 ((k : Int) + 1)] w (MvPost1 F g w (chs ms) { trap := 7 }) := by
  have H := hid h
  clear h
  go_enter Try.func30, Try.ntmps30
  go_wp2_with fail
  generalize hW : (w.alloc (Obj.cells _ 32)) = W
  have FA := hid (show Fr E0 w W by rw [← hW]; exact Fr.refl.alloc _)
  have T1 := hid (show W.heap[w.heap.size]? = some (.cells #[Value.bool false, Value.int IntKind.i64 0, Value.bool false, Value.int IntKind.i64 0, Value.slice none 0 0] 32 (0, 0)) by rw [← hW]; exact heap_alloc_new w _)
  clear hW
  obtain ⟨L, cp, hv, hFL, _⟩ := H.out.at hk
  subst hv
  have C1 := hid (atW H.out FA.out)
  have RD := hid C1.out.rdAt
  obtain ⟨_, _, e0, _, c0, c1, c2, c3, c4, hfz⟩ := C1.out.at hk
  cases e0
  rw [hcl] at c4
  have hlk := lt_of_get hk
  clear hk hfz hcl
  obtain ⟨⟨b0, b1, b2, b3, b4⟩, z0, z1, z2, z3, z4⟩ := blk5 T1.out
  refine (at_in RD.out k hlk).mono ?_
  rintro e w2 ⟨rfl, rfl⟩
  simp only [tup2, Nat.zero_add]
  go_wp2_with fail
  have T5 := hid (set5_heap (w := W) T1.out (.bool false) (.int .i64 0) (.bool false) (.int .i64 7) (.slice none 0 0))
  have S5 := hid (set5_fr (S := fun k => k = w.heap.size) (w := W) (B := w.heap.size) rfl (.bool false) (.int .i64 0) (.bool false) (.int .i64 7) (.slice none 0 0))
  exact fin30 (m := { trap := 7 }) rfl rfl T5.out ⟨_, rfl, ⟨F, RowF.nil⟩, step_same H.out (Nat.le_refl _) FA.out S5.out⟩
end Go.Proofs.Yteffmnohgnmanaa
