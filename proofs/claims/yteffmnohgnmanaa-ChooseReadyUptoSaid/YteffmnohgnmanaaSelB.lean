/- A select's answer: a block of seven cells. -/
import Derived.Test.YteffmnohgnmanaaSend
namespace Go.Proofs.Yteffmnohgnmanaa
open Go.RowKit
theorem blk7 {w : World} {B : Nat} {x0 x1 x2 x3 x4 x5 x6 : Value} {t : TypeId} (h : w.heap[B]? = some (.cells #[x0, x1, x2, x3, x4, x5, x6] t (0, 0))) :
    (w.cell? ⟨B, 0, none⟩ = some x0 ∧ w.cell? ⟨B, 1, none⟩ = some x1 ∧ w.cell? ⟨B, 2, none⟩ = some x2 ∧ w.cell? ⟨B, 3, none⟩ = some x3 ∧ w.cell? ⟨B, 4, none⟩ = some x4 ∧ w.cell? ⟨B, 5, none⟩ = some x5 ∧ w.cell? ⟨B, 6, none⟩ = some x6) ∧ (w.frozen? ⟨B, 0, none⟩ = false ∧ w.frozen? ⟨B, 1, none⟩ = false ∧ w.frozen? ⟨B, 2, none⟩ = false ∧ w.frozen? ⟨B, 3, none⟩ = false ∧ w.frozen? ⟨B, 4, none⟩ = false ∧ w.frozen? ⟨B, 5, none⟩ = false ∧ w.frozen? ⟨B, 6, none⟩ = false) :=
  ⟨⟨cell_of_row w _ 0 _ _ _ h, cell_of_row w _ 1 _ _ _ h, cell_of_row w _ 2 _ _ _ h, cell_of_row w _ 3 _ _ _ h, cell_of_row w _ 4 _ _ _ h, cell_of_row w _ 5 _ _ _ h, cell_of_row w _ 6 _ _ _ h⟩, ⟨frozen_of_row w _ 0 _ _ h, frozen_of_row w _ 1 _ _ h, frozen_of_row w _ 2 _ _ h, frozen_of_row w _ 3 _ _ h, frozen_of_row w _ 4 _ _ h, frozen_of_row w _ 5 _ _ h, frozen_of_row w _ 6 _ _ h⟩⟩
def set7 (w : World) (B : Nat) (y0 y1 y2 y3 y4 y5 y6 : Value) : World := (((((((w).setCell ⟨B, 0, none⟩ y0).setCell ⟨B, 1, none⟩ y1).setCell ⟨B, 2, none⟩ y2).setCell ⟨B, 3, none⟩ y3).setCell ⟨B, 4, none⟩ y4).setCell ⟨B, 5, none⟩ y5).setCell ⟨B, 6, none⟩ y6
theorem set7_heap {w : World} {B : Nat} {x0 x1 x2 x3 x4 x5 x6 : Value} {t : TypeId} (h : w.heap[B]? = some (.cells #[x0, x1, x2, x3, x4, x5, x6] t (0, 0))) (y0 y1 y2 y3 y4 y5 y6 : Value) : (set7 w B y0 y1 y2 y3 y4 y5 y6).heap[B]? = some (.cells #[y0, y1, y2, y3, y4, y5, y6] t (0, 0)) := by
  unfold set7
  have h0 : (World.setCell w ⟨B, 0, none⟩ y0).heap[B]? = some (.cells #[y0, x1, x2, x3, x4, x5, x6] t (0, 0)) := heap_setCell_same _ B 0 _ t y0 h
  have h1 : (World.setCell (World.setCell w ⟨B, 0, none⟩ y0) ⟨B, 1, none⟩ y1).heap[B]? = some (.cells #[y0, y1, x2, x3, x4, x5, x6] t (0, 0)) := heap_setCell_same _ B 1 _ t y1 h0
  have h2 : (World.setCell (World.setCell (World.setCell w ⟨B, 0, none⟩ y0) ⟨B, 1, none⟩ y1) ⟨B, 2, none⟩ y2).heap[B]? = some (.cells #[y0, y1, y2, x3, x4, x5, x6] t (0, 0)) := heap_setCell_same _ B 2 _ t y2 h1
  have h3 : (World.setCell (World.setCell (World.setCell (World.setCell w ⟨B, 0, none⟩ y0) ⟨B, 1, none⟩ y1) ⟨B, 2, none⟩ y2) ⟨B, 3, none⟩ y3).heap[B]? = some (.cells #[y0, y1, y2, y3, x4, x5, x6] t (0, 0)) := heap_setCell_same _ B 3 _ t y3 h2
  have h4 : (World.setCell (World.setCell (World.setCell (World.setCell (World.setCell w ⟨B, 0, none⟩ y0) ⟨B, 1, none⟩ y1) ⟨B, 2, none⟩ y2) ⟨B, 3, none⟩ y3) ⟨B, 4, none⟩ y4).heap[B]? = some (.cells #[y0, y1, y2, y3, y4, x5, x6] t (0, 0)) := heap_setCell_same _ B 4 _ t y4 h3
  have h5 : (World.setCell (World.setCell (World.setCell (World.setCell (World.setCell (World.setCell w ⟨B, 0, none⟩ y0) ⟨B, 1, none⟩ y1) ⟨B, 2, none⟩ y2) ⟨B, 3, none⟩ y3) ⟨B, 4, none⟩ y4) ⟨B, 5, none⟩ y5).heap[B]? = some (.cells #[y0, y1, y2, y3, y4, y5, x6] t (0, 0)) := heap_setCell_same _ B 5 _ t y5 h4
  have h6 : (World.setCell (World.setCell (World.setCell (World.setCell (World.setCell (World.setCell (World.setCell w ⟨B, 0, none⟩ y0) ⟨B, 1, none⟩ y1) ⟨B, 2, none⟩ y2) ⟨B, 3, none⟩ y3) ⟨B, 4, none⟩ y4) ⟨B, 5, none⟩ y5) ⟨B, 6, none⟩ y6).heap[B]? = some (.cells #[y0, y1, y2, y3, y4, y5, y6] t (0, 0)) := heap_setCell_same _ B 6 _ t y6 h5
  exact h6
theorem set7_fr {S : Nat → Prop} {w : World} {B : Nat} (hB : S B) (y0 y1 y2 y3 y4 y5 y6 : Value) : Fr S w (set7 w B y0 y1 y2 y3 y4 y5 y6) :=
  (((((((Fr.refl).setCell (p := ⟨B, 0, none⟩) y0 (.inl hB)).setCell (p := ⟨B, 1, none⟩) y1 (.inl hB)).setCell (p := ⟨B, 2, none⟩) y2 (.inl hB)).setCell (p := ⟨B, 3, none⟩) y3 (.inl hB)).setCell (p := ⟨B, 4, none⟩) y4 (.inl hB)).setCell (p := ⟨B, 5, none⟩) y5 (.inl hB)).setCell (p := ⟨B, 6, none⟩) y6 (.inl hB)
/-- What a select did. -/
structure Cho where
  case : Int
  dft : Bool
  m : Mv
  deriving DecidableEq
def Cho.val (c : Cho) (wv : Value) : Value := .agg #[.int .i64 c.case, .bool c.dft, .bool c.m.waits, .int .i64 c.m.value, .bool c.m.ok, .int .i64 c.m.trap, wv]
theorem fin26 {a : Act} {W : World} {R : Nat} {Q : Ending → World → Prop} {c : Cho} {wv : Value} {err : Int} (hd : a.defers = []) (h8 : a.tmps.getD 10 undef = .pointer (some ⟨R, 0, none⟩)) (h9 : a.tmps.getD 11 undef = .int .i64 err)
    (hR : W.heap[R]? = some (.cells #[.int .i64 c.case, .bool c.dft, .bool c.m.waits, .int .i64 c.m.value, .bool c.m.ok, .int .i64 c.m.trap, wv] 47 (0, 0))) (hQ : Q (.returned (tup2 (c.val wv) (.int .i64 err))) W) : bodyPost Try.prog Try.f26 Q .ret a W := by
  obtain ⟨⟨k0, k1, k2, k3, k4, k5, k6⟩, _⟩ := blk7 hR
  have h8' : a.tmps[10]?.getD undef = .pointer (some ⟨R, 0, none⟩) := by simpa using h8
  have h9' : a.tmps[11]?.getD undef = .int .i64 err := by simpa using h9
  exact bodyPost_ret (v := tup2 (c.val wv) (.int .i64 err)) (by simp [results, Try.results26, go_sem, h8', h9', k0, k1, k2, k3, k4, k5, k6, tup2, Cho.val]) hd hQ
end Go.Proofs.Yteffmnohgnmanaa
