/- What the calls on channels come to, as plain data. -/
import Derived.Test.YteffmnohgnmanaaWake
namespace Go.Proofs.Yteffmnohgnmanaa
set_option linter.unusedVariables false
open Go.RowKit
/-- What a call did. -/
structure Mv where
  waits : Bool := false
  value : Int := 0
  ok : Bool := false
  trap : Int := 0
  woken : List Wk := []
  deriving DecidableEq
def wks (l : List Wk) : List Value := l.flatMap Wk.cells
theorem wks_len (l : List Wk) : (wks l).length = l.length * 6 := flat_len (f := Wk.cells) (sz := 6) (fun _ => rfl) l
def Mv.val (m : Mv) (wv : Value) : Value := .agg #[.bool m.waits, .int .i64 m.value, .bool m.ok, .int .i64 m.trap, wv]
/-- Channel k (from 0 on) turned. -/
def setK (l : List Ch) (ch : Int) (c : Ch) : List Ch := l.set (ch - 1).toNat c
def sendL (l : List Ch) (ch gs gg v : Int) : List Ch × Mv × Int :=
  if waitsL gs gg l then (l, {}, 111) else if trapC l ch ≠ 0 then (l, { trap := trapC l ch }, 0) else
  match getC l ch with
  | none => (l, { waits := true }, 0)
  | some c =>
    if c.cl then (l, { trap := 6 }, 0) else
    match c.rcv with
    | x :: _ => (leaveL x.s x.g l, { ok := true, woken := [⟨x.s, x.g, x.c, v, true, 0⟩] }, 0)
    | [] => if (c.vals.length : Int) < c.cap then (setK l ch { c with vals := c.vals ++ [v] }, { ok := true }, 0) else (setK l ch { c with snd := c.snd ++ [⟨gs, gg, 0, v⟩] }, { waits := true }, 0)
def recvL (l : List Ch) (ch gs gg : Int) : List Ch × Mv × Int :=
  if waitsL gs gg l then (l, {}, 111) else if trapC l ch ≠ 0 then (l, { trap := trapC l ch }, 0) else
  match getC l ch with
  | none => (l, { waits := true }, 0)
  | some c =>
    match c.vals with
    | v :: vs =>
      match c.snd with
      | [] => (setK l ch { c with vals := vs }, { value := v, ok := true }, 0)
      | x :: _ => (leaveL x.s x.g (setK l ch { c with vals := vs ++ [x.v] }), { value := v, ok := true, woken := [⟨x.s, x.g, x.c, 0, true, 0⟩] }, 0)
    | [] =>
      match c.snd with
      | x :: _ => (leaveL x.s x.g l, { value := x.v, ok := true, woken := [⟨x.s, x.g, x.c, 0, true, 0⟩] }, 0)
      | [] => if c.cl then (l, {}, 0) else (setK l ch { c with rcv := c.rcv ++ [⟨gs, gg, 0, 0⟩] }, { waits := true }, 0)
def waitL (l : List Ch) (ch : Int) (x : Wt) (send : Bool) : List Ch × Int :=
  match getC l ch with
  | none => (l, trapC l ch)
  | some c => if send then (setK l ch { c with snd := c.snd ++ [x] }, 0) else (setK l ch { c with rcv := c.rcv ++ [{ x with v := 0 }] }, 0)
theorem isG_self (x : Wt) : isG x.s x.g x = true := by simp [isG]
theorem wout_lt {x : Wt} {l : List Wt} : (wout x.s x.g (x :: l)).length < (x :: l).length := by
  have h : wout x.s x.g (x :: l) = wout x.s x.g l := by simp [wout, isG_self]
  rw [h]; have := wout_le x.s x.g l; simp; omega
theorem leaveL_get {gs gg : Int} {l : List Ch} {k : Nat} : (leaveL gs gg l)[k]? = (l[k]?).map (leaveCh gs gg) := by simp [leaveL]
/-- The others that wait at channel k are woken one by one. -/
def wakeR (l : List Ch) (k : Nat) (acc : List Wk) : List Ch × List Wk :=
  match h : l[k]? with
  | none => (l, acc)
  | some c =>
    match hc : c.rcv with
    | [] => (l, acc)
    | x :: r => wakeR (leaveL x.s x.g l) k (acc ++ [⟨x.s, x.g, x.c, 0, false, 0⟩])
termination_by match l[k]? with | some c => c.rcv.length | none => 0
decreasing_by
  rw [leaveL_get, h]
  simp only [Option.map_some, leaveCh, hc]
  exact wout_lt
def wakeS (l : List Ch) (k : Nat) (acc : List Wk) : List Ch × List Wk :=
  match h : l[k]? with
  | none => (l, acc)
  | some c =>
    match hc : c.snd with
    | [] => (l, acc)
    | x :: r => wakeS (leaveL x.s x.g l) k (acc ++ [⟨x.s, x.g, x.c, 0, false, 6⟩])
termination_by match l[k]? with | some c => c.snd.length | none => 0
decreasing_by
  rw [leaveL_get, h]
  simp only [Option.map_some, leaveCh, hc]
  exact wout_lt
def closeL (l : List Ch) (ch : Int) : List Ch × Mv :=
  if trapC l ch ≠ 0 then (l, { trap := trapC l ch }) else
  match getC l ch with
  | none => (l, { trap := 8 })
  | some c =>
    if c.cl then (l, { trap := 7 }) else
    let a := wakeR (setK l ch { c with cl := true }) (ch - 1).toNat []
    let b := wakeS a.1 (ch - 1).toNat a.2
    (b.1, { woken := b.2 })

/-! ### a block of five cells -/
theorem blk5 {w : World} {B : Nat} {x0 x1 x2 x3 x4 : Value} {t : TypeId} (h : w.heap[B]? = some (.cells #[x0, x1, x2, x3, x4] t (0, 0))) :
    (w.cell? ⟨B, 0, none⟩ = some x0 ∧ w.cell? ⟨B, 1, none⟩ = some x1 ∧ w.cell? ⟨B, 2, none⟩ = some x2 ∧ w.cell? ⟨B, 3, none⟩ = some x3 ∧ w.cell? ⟨B, 4, none⟩ = some x4) ∧
    (w.frozen? ⟨B, 0, none⟩ = false ∧ w.frozen? ⟨B, 1, none⟩ = false ∧ w.frozen? ⟨B, 2, none⟩ = false ∧ w.frozen? ⟨B, 3, none⟩ = false ∧ w.frozen? ⟨B, 4, none⟩ = false) :=
  ⟨⟨cell_of_row w _ 0 _ _ _ h, cell_of_row w _ 1 _ _ _ h, cell_of_row w _ 2 _ _ _ h, cell_of_row w _ 3 _ _ _ h, cell_of_row w _ 4 _ _ _ h⟩,
   ⟨frozen_of_row w _ 0 _ _ h, frozen_of_row w _ 1 _ _ h, frozen_of_row w _ 2 _ _ h, frozen_of_row w _ 3 _ _ h, frozen_of_row w _ 4 _ _ h⟩⟩
/-- Five cells of a block are written. -/
def set5 (w : World) (B : Nat) (a b c d e : Value) : World := ((((w.setCell ⟨B, 0, none⟩ a).setCell ⟨B, 1, none⟩ b).setCell ⟨B, 2, none⟩ c).setCell ⟨B, 3, none⟩ d).setCell ⟨B, 4, none⟩ e
theorem set5_heap {w : World} {B : Nat} {x0 x1 x2 x3 x4 : Value} {t : TypeId} (h : w.heap[B]? = some (.cells #[x0, x1, x2, x3, x4] t (0, 0))) (a b c d e : Value) : (set5 w B a b c d e).heap[B]? = some (.cells #[a, b, c, d, e] t (0, 0)) := cells5 h a b c d e
theorem set5_fr {S : Nat → Prop} {w : World} {B : Nat} (hB : S B) (a b c d e : Value) : Fr S w (set5 w B a b c d e) :=
  ((((Fr.refl.setCell (p := ⟨B, 0, none⟩) a (.inl hB)).setCell (p := ⟨B, 1, none⟩) b (.inl hB)).setCell (p := ⟨B, 2, none⟩) c (.inl hB)).setCell (p := ⟨B, 3, none⟩) d (.inl hB)).setCell (p := ⟨B, 4, none⟩) e (.inl hB)
/-- A call's end that tells what it did, with an error's number; the channels are l' now. -/
def MvPost (F : Nat → Prop) (g : Nat) (w : World) (l' : List Ch) (m : Mv) (err : Int) (e : Ending) (w' : World) : Prop :=
  ∃ wv, e = .returned (tup2 (m.val wv) (.int .i64 err)) ∧ RowF w' (New w) 39 6 wv (wks m.woken) ∧ Step F g w l' w'
theorem IsCh.step {w w' : World} {F F' : Nat → Prop} {g : Nat} {l : List Ch} (h : IsCh w' F' g l) (hs : ∀ k, F' k → F k ∨ w.heap.size ≤ k) (hf : Fr F w w') : Step F g w l w' := ⟨F', h, hs, hf⟩
end Go.Proofs.Yteffmnohgnmanaa
