/- (*Chans).wake. -/
import Derived.Test.YteffmnohgnmanaaLeave
namespace Go.Proofs.Yteffmnohgnmanaa
open Go.RowKit
/-- One that waits no more. -/
structure Wk where
  s : Int
  g : Int
  c : Int
  v : Int
  ok : Bool
  trap : Int
  deriving DecidableEq
def Wk.val (x : Wk) : Value := .agg #[.int .i64 x.s, .int .i64 x.g, .int .i64 x.c, .int .i64 x.v, .bool x.ok, .int .i64 x.trap]
def Wk.cells (x : Wk) : List Value := [.int .i64 x.s, .int .i64 x.g, .int .i64 x.c, .int .i64 x.v, .bool x.ok, .int .i64 x.trap]
theorem cells6 {w : World} {B : Nat} {x0 x1 x2 x3 x4 x5 : Value} {t : TypeId} (h : w.heap[B]? = some (.cells #[x0, x1, x2, x3, x4, x5] t (0, 0))) (a b c d e f : Value) :
    ((((((w.setCell ⟨B, 0, none⟩ a).setCell ⟨B, 1, none⟩ b).setCell ⟨B, 2, none⟩ c).setCell ⟨B, 3, none⟩ d).setCell ⟨B, 4, none⟩ e).setCell ⟨B, 5, none⟩ f).heap[B]? = some (.cells #[a, b, c, d, e, f] t (0, 0)) := by
  have h1 := heap_setCell_same w B 0 _ t a h
  have h2 := heap_setCell_same _ B 1 _ t b h1
  have h3 := heap_setCell_same _ B 2 _ t c h2
  have h4 := heap_setCell_same _ B 3 _ t d h3
  have h5 := heap_setCell_same _ B 4 _ t e h4
  exact heap_setCell_same _ B 5 _ t f h5
/-- Six cells of a block are written that is none of S. -/
theorem Fr.set6 {S : Nat → Prop} {w w' : World} {B : Nat} (h : Fr S w w') (hB : S B ∨ w.heap.size ≤ B) (a b c d e f : Value) :
    Fr S w ((((((w'.setCell ⟨B, 0, none⟩ a).setCell ⟨B, 1, none⟩ b).setCell ⟨B, 2, none⟩ c).setCell ⟨B, 3, none⟩ d).setCell ⟨B, 4, none⟩ e).setCell ⟨B, 5, none⟩ f) :=
  (((((h.setCell (p := ⟨B, 0, none⟩) a hB).setCell (p := ⟨B, 1, none⟩) b hB).setCell (p := ⟨B, 2, none⟩) c hB).setCell (p := ⟨B, 3, none⟩) d hB).setCell (p := ⟨B, 4, none⟩) e hB).setCell (p := ⟨B, 5, none⟩) f hB
def WakePost (F : Nat → Prop) (g : Nat) (l : List Ch) (x : Wt) (v : Int) (ok : Bool) (trap : Int) (w : World) (e : Ending) (w' : World) : Prop :=
  e = .returned (Wk.val ⟨x.s, x.g, x.c, v, ok, trap⟩) ∧ IsCh w' F g (leaveL x.s x.g l) ∧ Fr F w w'
def WakePostV (F : Nat → Prop) (g : Nat) (v0 : Value) (l : List Ch) (x : Wt) (v : Int) (ok : Bool) (trap : Int) (w : World) (e : Ending) (w' : World) : Prop :=
  e = .returned (Wk.val ⟨x.s, x.g, x.c, v, ok, trap⟩) ∧ IsChV w' F g v0 (leaveL x.s x.g l) ∧ Fr F w w'
theorem Chs.isCh {w : World} {F : Nat → Prop} {g : Nat} {v : Value} {ms : List CM} (h : Chs w F g v ms) : IsCh w F g (chs ms) := ⟨v, ms, h, rfl⟩
theorem IsCh.fr {w w' : World} {F S : Nat → Prop} {g : Nat} {l : List Ch} (h : IsCh w F g l) (hf : Fr S w w') (hs : ∀ k, F k → ¬ S k) : IsCh w' F g l := by
  obtain ⟨v, ms, h1, h2⟩ := h
  exact ⟨v, ms, h1.fr hf hs, h2⟩
theorem IsCh.lt {w : World} {F : Nat → Prop} {g : Nat} {l : List Ch} (h : IsCh w F g l) : ∀ k, F k → k < w.heap.size := by
  obtain ⟨v, ms, h1, _⟩ := h; exact h1.lt
set_option maxHeartbeats 1000000 in
theorem wake_okV {w : World} {F : Nat → Prop} {g : Nat} {v0 : Value} {ms : List CM} (h : Chs w F g v0 ms) (x : Wt) (v : Int) (ok : Bool) (trap : Int) (hn : ms.length ≤ 1024) (hfit : ∀ m ∈ ms, m.ch.Fit) :
    Calls Try.prog 55 #[.pointer (some ⟨g, 0, none⟩), x.val, .int .i64 v, .bool ok, .int .i64 trap] w (WakePostV F g v0 (chs ms) x v ok trap w) := by
  obtain ⟨s, gn, c, xv⟩ := x
  have H := hid h
  have hlt := hid h.lt
  clear h
  simp only [Wt.val]
  go_enter Try.func55, Try.ntmps55
  go_wp2_with fail
  generalize hW : ((w.alloc (Obj.cells #[Value.int IntKind.i64 s, Value.int IntKind.i64 gn, Value.int IntKind.i64 c, Value.int IntKind.i64 xv] 114)).alloc _) = W
  have hA := hid (show Fr E0 w W by rw [← hW]; exact (Fr.refl.alloc _).alloc _)
  have hB := hid (show W.heap[w.heap.size]? = some (.cells #[Value.int IntKind.i64 s, Value.int IntKind.i64 gn, Value.int IntKind.i64 c, Value.int IntKind.i64 xv] 114 (0, 0)) by rw [← hW]; exact heap_alloc2_old w _ _)
  have hT := hid (show W.heap[w.heap.size + 1]? = some (.cells #[Value.int IntKind.i64 0, Value.int IntKind.i64 0, Value.int IntKind.i64 0, Value.int IntKind.i64 0, Value.bool false, Value.int IntKind.i64 0] 39 (0, 0)) by rw [← hW]; exact heap_alloc2_new w _ _)
  clear hW
  refine (leave_okV (H.out.fr hA.out (fun _ _ x => x)) s gn hn hfit).mono ?_
  rintro e w1 ⟨rfl, hl1, hf1⟩
  have hB1 := hid (hf1.heapAt hB.out (fun hx => Nat.lt_irrefl _ (hlt.out _ hx)))
  have hT1 := hid (hf1.heapAt hT.out (fun hx => by have := hlt.out _ hx; omega))
  have b0 : w1.cell? ⟨w.heap.size, 0, none⟩ = some (.int .i64 s) := cell_of_row w1 _ 0 _ _ _ hB1.out
  have b1 : w1.cell? ⟨w.heap.size, 1, none⟩ = some (.int .i64 gn) := cell_of_row w1 _ 1 _ _ _ hB1.out
  have b2 : w1.cell? ⟨w.heap.size, 2, none⟩ = some (.int .i64 c) := cell_of_row w1 _ 2 _ _ _ hB1.out
  have q0 : w1.cell? ⟨w.heap.size + 1, 0, none⟩ = some (.int .i64 0) := cell_of_row w1 _ 0 _ _ _ hT1.out
  have q1 : w1.cell? ⟨w.heap.size + 1, 1, none⟩ = some (.int .i64 0) := cell_of_row w1 _ 1 _ _ _ hT1.out
  have q2 : w1.cell? ⟨w.heap.size + 1, 2, none⟩ = some (.int .i64 0) := cell_of_row w1 _ 2 _ _ _ hT1.out
  have q3 : w1.cell? ⟨w.heap.size + 1, 3, none⟩ = some (.int .i64 0) := cell_of_row w1 _ 3 _ _ _ hT1.out
  have q4 : w1.cell? ⟨w.heap.size + 1, 4, none⟩ = some (.bool false) := cell_of_row w1 _ 4 _ _ _ hT1.out
  have q5 : w1.cell? ⟨w.heap.size + 1, 5, none⟩ = some (.int .i64 0) := cell_of_row w1 _ 5 _ _ _ hT1.out
  have z0 : w1.frozen? ⟨w.heap.size + 1, 0, none⟩ = false := frozen_of_row w1 _ 0 _ _ hT1.out
  have z1 : w1.frozen? ⟨w.heap.size + 1, 1, none⟩ = false := frozen_of_row w1 _ 1 _ _ hT1.out
  have z2 : w1.frozen? ⟨w.heap.size + 1, 2, none⟩ = false := frozen_of_row w1 _ 2 _ _ hT1.out
  have z3 : w1.frozen? ⟨w.heap.size + 1, 3, none⟩ = false := frozen_of_row w1 _ 3 _ _ hT1.out
  have z4 : w1.frozen? ⟨w.heap.size + 1, 4, none⟩ = false := frozen_of_row w1 _ 4 _ _ hT1.out
  have z5 : w1.frozen? ⟨w.heap.size + 1, 5, none⟩ = false := frozen_of_row w1 _ 5 _ _ hT1.out
  have HL := hid hl1
  have HF := hid (hA.out.e0.trans hf1)
  clear hl1 hf1
  go_wp2_with fail
  have TB := hid (cells6 hT1.out (.int .i64 s) (.int .i64 gn) (.int .i64 c) (.int .i64 v) (.bool ok) (.int .i64 trap))
  have FF := hid ((Fr.refl (S := fun k => k = w.heap.size + 1) (w := w1)).set6 (B := w.heap.size + 1) (.inl rfl) (.int .i64 s) (.int .i64 gn) (.int .i64 c) (.int .i64 v) (.bool ok) (.int .i64 trap))
  have LL := hid (HL.out.fr FF.out (fun k hk e => by have := hlt.out _ hk; omega))
  have F2 := hid (HF.out.trans' FF.out (fun i hi => .inr (by omega)))
  clear q0 q1 q2 q3 q4 q5 z0 z1 z2 z3 z4 z5
  generalize (((((World.setCell w1 _ _).setCell _ _).setCell _ _).setCell _ _).setCell _ _).setCell _ _ = W5 at *
  have k0 : W5.cell? ⟨w.heap.size + 1, 0, none⟩ = some (.int .i64 s) := cell_of_row W5 _ 0 _ _ _ TB.out
  have k1 : W5.cell? ⟨w.heap.size + 1, 1, none⟩ = some (.int .i64 gn) := cell_of_row W5 _ 1 _ _ _ TB.out
  have k2 : W5.cell? ⟨w.heap.size + 1, 2, none⟩ = some (.int .i64 c) := cell_of_row W5 _ 2 _ _ _ TB.out
  have k3 : W5.cell? ⟨w.heap.size + 1, 3, none⟩ = some (.int .i64 v) := cell_of_row W5 _ 3 _ _ _ TB.out
  have k4 : W5.cell? ⟨w.heap.size + 1, 4, none⟩ = some (.bool ok) := cell_of_row W5 _ 4 _ _ _ TB.out
  have k5 : W5.cell? ⟨w.heap.size + 1, 5, none⟩ = some (.int .i64 trap) := cell_of_row W5 _ 5 _ _ _ TB.out
  exact bodyPost_ret (v := .agg #[.int .i64 s, .int .i64 gn, .int .i64 c, .int .i64 v, .bool ok, .int .i64 trap]) (by simp [results, Try.results55, go_sem, k0, k1, k2, k3, k4, k5]) rfl ⟨rfl, LL.out, F2.out⟩
theorem wake_ok {w : World} {F : Nat → Prop} {g : Nat} {v0 : Value} {ms : List CM} (h : Chs w F g v0 ms) (x : Wt) (v : Int) (ok : Bool) (trap : Int) (hn : ms.length ≤ 1024) (hfit : ∀ m ∈ ms, m.ch.Fit) :
    Calls Try.prog 55 #[.pointer (some ⟨g, 0, none⟩), x.val, .int .i64 v, .bool ok, .int .i64 trap] w (WakePost F g (chs ms) x v ok trap w) :=
  (wake_okV h x v ok trap hn hfit).mono fun _ _ ⟨h1, h2, h3⟩ => ⟨h1, h2.is, h3⟩
end Go.Proofs.Yteffmnohgnmanaa
