/- Words and contracts of calls that the law needs (DoL): merged by wip/gen/zmerge.py. No condition but those that each theorem names. -/
import Derived.Test.YtocepiogpeafoaaGreatDoorH29
import Derived.Test.YtocepiogpeafoaaGreatDoorH30
import Derived.Test.YtocepiogpeafoaaGreatDoorH32
set_option linter.unusedVariables false
/- Laws for the walk of Domain.Do: an operation that alone may come up; stores in the midst of a block; where the program's words lie. -/
namespace Go.Proofs.YtocepiogpeafoaaGreatDoor
open Go.RowKit
section
variable {P : Program} {md : Region.Mode} {ops : Array Oper} {Q : Exit → Act → World → Prop} {S : World → Prop}
/-- the one operation that may come up only reads -/
theorem wpAnyH_one {fuel : Nat} {listed : Array Bool} {a : Act} {w : World} (i : Nat) {o : Oper} (dst : Option Tmp) (v : Value) (hi : ops[i]? = some o) (hg : o.guard = none) (hdst : o.dst = dst) (hr : Region.ready md ops listed = [i]) (hS : S w)
    (hrun : (execOp a.eval o).run P w = .ok (.value v) w) (h : S w → wpAnyH P md ops Q S fuel (listed.setIfInBounds i true) (a.put dst v) w) : wpAnyH P md ops Q S (fuel + 1) listed a w := by
  subst hdst
  refine wpAnyH_ready hr (by simp) (AllReadyH.cons hi (fun K hK => ?_) AllReadyH.nil)
  rw [if_pos (by simp [Region.wanted, hg])]
  unfold Oper.wp
  rw [hrun, Oper.upon_value]
  exact hK.out _ _ hS h
/-- the one operation that may come up stores in the midst of a block -/
theorem wpAnyH_mid {fuel : Nat} {listed : Array Bool} {a : Act} {w : World} (i : Nat) {o : Oper} (hi : ops[i]? = some o) (hg : o.guard = none) (hr : Region.ready md ops listed = [i]) (ty : TypeId) (x y : Operand) (ho : o.op = .store ty x y) (hdst : o.dst = none)
    (b off : Nat) (cells : Array Value) (hx : a.eval x = .pointer (some ⟨b, off, none⟩)) (hy : a.eval y = .agg cells) (ht : w.there b off cells.size) (hinf : (P.info? ty).map (·.size) = some cells.size)
    (h1 : cells.all (·.oneCell') = true) (hS : S (w.setCells b off cells.toList)) (h : S (w.setCells b off cells.toList) → wpAnyH P md ops Q S fuel (listed.setIfInBounds i true) (a.put none undef) (w.setCells b off cells.toList)) :
    wpAnyH P md ops Q S (fuel + 1) listed a w := by
  refine wpAnyH_ready hr (by simp) (AllReadyH.cons hi (fun K hK => ?_) AllReadyH.nil)
  rw [if_pos (by simp [Region.wanted, hg])]
  exact wp_store_mid ty x y ho b off cells hx hy ht hinf h1 (by rw [hdst]; exact hK.out _ _ hS h)
/-- the one operation that may come up is a call -/
theorem wpAnyH_call {fuel : Nat} {listed : Array Bool} {a : Act} {w : World} (i : Nat) {o : Oper} (dst : Option Tmp) (v : Value) (hi : ops[i]? = some o) (hg : o.guard = none) (hdst : o.dst = dst) (hr : Region.ready md ops listed = [i]) (f : FuncId) (args : Array Value)
    (hrun : (execOp a.eval o).run P w = .ok (.enter f args) w) {R : World → Prop} (hc : Calls P f args w (fun e w' => e = .returned v ∧ R w')) (hS : ∀ w', R w' → S w') (h : ∀ w', R w' → wpAnyH P md ops Q S fuel (listed.setIfInBounds i true) (a.put dst v) w') : wpAnyH P md ops Q S (fuel + 1) listed a w := by
  subst hdst
  refine wpAnyH_ready hr (by simp) (AllReadyH.cons hi (fun K hK => ?_) AllReadyH.nil)
  rw [if_pos (by simp [Region.wanted, hg])]
  unfold Oper.wp
  rw [hrun]
  refine Calls.mono hc ?_
  rintro e w' ⟨rfl, hR⟩
  exact hK.out _ _ (hS w' hR) (fun _ => h w' hR)
end
/-- cells that are turned one behind the other -/
def putL (cur : Array Value) (o : Nat) : List Value → Array Value
  | [] => cur
  | v :: r => putL (cur.setIfInBounds o v) (o + 1) r
theorem heap_setCells_at {b : Nat} {t : TypeId} : ∀ (vs : List Value) (o : Nat) (w : World) (cur : Array Value), w.heap[b]? = some (.cells cur t (0, 0)) → (w.setCells b o vs).heap[b]? = some (.cells (putL cur o vs) t (0, 0))
  | [], o, w, cur, h => h
  | v :: r, o, w, cur, h => heap_setCells_at r (o + 1) _ _ (heap_setCell_same _ _ o _ _ v h)
theorem there_row {w : World} {b : Nat} {cur : Array Value} {t : TypeId} (h : w.heap[b]? = some (.cells cur t (0, 0))) (o n : Nat) (hn : o + n ≤ cur.size) : w.there b o n := fun j hj =>
  ⟨by rw [cell_of_row w b (o + j) _ _ _ h, Array.getElem?_eq_getElem (by omega)]; rfl, frozen_of_row w b (o + j) _ _ h⟩
/-- the one goroutine: its state, its word, its register 1 -/
def gorR (s pc r : Int) : Array Value := #[.int .i64 0, .int .i64 1, .int .i64 s, .int .i64 pc, .int .i64 0, .int .i64 r, .int .i64 0, .int .i64 0, .int .i64 0, .int .i64 0, .int .i64 0, .int .i64 0, .int .i64 0, .int .i64 0, .int .i64 0, .int .i64 0, .int .i64 0, .int .i64 0, .int .i64 0, .int .i64 0, .slice none 0 0, .int .i64 0, .int .i64 0, .int .i64 0, .int .i64 0, .int .i64 0]
def ctxC (pc r : Int) : Array Value := #[.int .i64 pc, .int .i64 0, .int .i64 r, .int .i64 0, .int .i64 0, .int .i64 0, .int .i64 0, .int .i64 0, .int .i64 0, .int .i64 0, .int .i64 0, .int .i64 0, .int .i64 0, .int .i64 0, .int .i64 0, .int .i64 0, .int .i64 0, .slice none 0 0]
theorem gor_ctx (s pc r : Int) (j : Nat) (hj : j < 18) : (gorR s pc r)[3 + j]? = (ctxC pc r)[j]? := by
  have h : (gorR s pc r).toList = [.int .i64 0, .int .i64 1, .int .i64 s] ++ ((ctxC pc r).toList ++ [.int .i64 0, .int .i64 0, .int .i64 0, .int .i64 0, .int .i64 0]) := rfl
  rw [← Array.getElem?_toList, h, List.getElem?_append_right (by simp), List.getElem?_append_left (by simpa [ctxC] using hj)]
  simp
theorem gor_range {w : World} {x : Nat} {s pc r : Int} (h : w.heap[x]? = some (.cells (gorR s pc r) 110 (0, 0))) : w.rangeAt x 3 (ctxC pc r).toList := fun j v hv => by
  have hj : j < 18 := by have := lt_of_get hv; simpa [ctxC] using this
  rw [cell_of_row w x (3 + j) _ _ _ h, gor_ctx s pc r j hj]
  simpa using hv
theorem gor_put (s pc r pc' r' : Int) : putL (gorR s pc r) 3 (ctxC pc' r').toList = gorR s pc' r' := by
  simp [putL, gorR, ctxC]
theorem gor_one (s pc r : Int) : (gorR s pc r).all (·.oneCell') = true := by kernel_rfl
theorem ctx_one (pc r : Int) : (ctxC pc r).all (·.oneCell') = true := by kernel_rfl
/-- where the program's words lie -/
theorem Dom.words {D : Blk} {k : Int} {b : Bool} {t : Int} {xr : Array Value} {w : World} (h : Dom D (slP k) b t xr w) : ∃ c cp, D.vc = .slice (some ⟨c, 0, none⟩) 3 cp ∧ w.cell? ⟨c, 0, none⟩ = some (.int .u32 (34603008 + k)) ∧ w.cell? ⟨c, 1, none⟩ = some (.int .u32 454033408) := by
  obtain ⟨F, hr⟩ := h.code
  rcases hr.form (n := 3) (by decide) (by simp [codeC, slP]) with ⟨_, h0, _⟩ | ⟨c, cp, h1, _, _, _, _, h2, _⟩
  · exact absurd h0 (by decide)
  · exact ⟨c, cp, h1, by have := h2 0 _ rfl; simpa using this, by have := h2 1 _ rfl; simpa using this⟩
theorem Dom.vfs {D : Blk} {k : Int} {b : Bool} {t : Int} {xr : Array Value} {w : World} (h : Dom D (slP k) b t xr w) : ∃ A n c, D.vf = .slice A n c := by
  obtain ⟨F, hr⟩ := h.funcs
  exact hr.shape
theorem Dom.step {D : Blk} {p : Prg} {b : Bool} {t : Int} {xr xr' : Array Value} {w w' : World} (h : Dom D p b t xr w) (hf : Fr (fun k => k = D.x) w w') (ho : w'.heap[D.x]? = some (.cells xr' 110 (0, 0))) : Dom D p b t xr' w' := by
  obtain ⟨o1, o2, o3, ⟨F1, o4⟩, ⟨F2, o5⟩, o6⟩ := h
  exact ⟨hf.heapAt o1 (Ne.symm (cells_ne o3 o1 (by decide))), hf.heapAt o2 (map_ne o2 o3), ho, ⟨F1, o4.fr hf (o4.ne_block o3 (fun cs hc => by injection hc with _ h _; exact absurd h (by decide)))⟩, ⟨F2, o5.fr hf (o5.ne_block o3 (fun cs hc => by injection hc with _ h _; exact absurd h (by decide)))⟩, o6⟩
theorem Dom.many {D : Blk} {p : Prg} {b : Bool} {t : Int} {xr xr' : Array Value} {w w' : World} {S : Nat → Prop} (h : Dom D p b t xr w) (hf : Fr S w w') (hS : ∀ k, S k → ∃ ob, w.heap[k]? = some ob ∧ (∀ cs, ob ≠ .cells cs 37 (0, 0)) ∧ (∀ cs, ob ≠ .cells cs 39 (0, 0)) ∧ k ≠ D.g ∧ k ≠ D.m)
    (ho : w'.heap[D.x]? = some (.cells xr' 110 (0, 0))) : Dom D p b t xr' w' := by
  obtain ⟨o1, o2, o3, ⟨F1, o4⟩, ⟨F2, o5⟩, o6⟩ := h
  refine ⟨hf.heapAt o1 (fun s => ?_), hf.heapAt o2 (fun s => ?_), ho, ⟨F1, o4.fr hf (fun g hg s => ?_)⟩, ⟨F2, o5.fr hf (fun g hg s => ?_)⟩, o6⟩
  · obtain ⟨_, _, _, _, n, _⟩ := hS _ s; exact n rfl
  · obtain ⟨_, _, _, _, _, n⟩ := hS _ s; exact n rfl
  · obtain ⟨ob, hb, n, _⟩ := hS _ s; exact o4.ne_block hb n g hg rfl
  · obtain ⟨ob, hb, _, n, _⟩ := hS _ s; exact o5.ne_block hb n g hg rfl
theorem cells_no {cs : Array Value} {t u : TypeId} (h : t ≠ u) : ∀ cs', Obj.cells cs t (0, 0) ≠ .cells cs' u (0, 0) := fun cs' e => by injection e with _ e _; exact h e
theorem map_no {es : Array MapEntry} {c : Nat} {u : TypeId} : ∀ cs', Obj.map es c ≠ .cells cs' u (0, 0) := fun cs' e => by cases e
theorem TimOne.blk {l : Int} {g h m a b c B : Nat} {when : Int} {w w' : World} {cs : Array Value} {u : TypeId} (t : TimOne l g h m a b c when w) (hf : Fr (fun k => k = B) w w') (hb : w.heap[B]? = some (.cells cs u (0, 0)))
    (h1 : 215 ≠ u) (h2 : 378 ≠ u) (h3 : 374 ≠ u) : TimOne l g h m a b c when w' := by
  obtain ⟨x, cp, r, hh⟩ := t.heap
  exact ⟨hf.heapAt t.obj (cells_ne t.obj hb h1), ⟨x, cp, r, hf.heapAt hh.obj (cells_ne hh.obj hb h2), hf.heapAt hh.row (cells_ne hh.row hb h3), hf.heapAt hh.map (map_ne hh.map hb)⟩, hf.heapAt t.ids (map_ne t.ids hb), hf.heapAt t.own (map_ne t.own hb), hf.heapAt t.gs (map_ne t.gs hb)⟩
theorem TimNev.blk {g h m B : Nat} {w w' : World} {cs : Array Value} {u : TypeId} (t : TimNev g h m w) (hf : Fr (fun k => k = B) w w') (hb : w.heap[B]? = some (.cells cs u (0, 0)))
    (h1 : 215 ≠ u) (h2 : 378 ≠ u) : TimNev g h m w' := by
  obtain ⟨rw, q1, q2, q3⟩ := t.obj
  exact ⟨⟨rw, hf.heapAt q1 (cells_ne q1 hb h1), q2, q3⟩, hf.heapAt t.heap.1 (cells_ne t.heap.1 hb h2), hf.heapAt t.heap.2 (map_ne t.heap.2 hb)⟩
theorem TimNew.nm {g h m a b c k : Nat} {w : World} {v : Value} (t : TimNew g h m a b c w) {x : Value} {cl : Nat} (hm : w.heap[k]? = some (.map #[⟨x, v, 0⟩] cl)) : m ≠ k ∧ a ≠ k ∧ b ≠ k ∧ c ≠ k := by
  have kn : ∀ {j : Nat}, w.heap[j]? = some (.map #[] 0) → j ≠ k := by
    intro j hj e
    subst e
    rw [hj] at hm
    injection hm with hm
    injection hm with hm _
    exact absurd (congrArg Array.size hm) (by simp)
  exact ⟨kn t.heap.2, kn t.ids, kn t.own, kn t.gs⟩
end Go.Proofs.YtocepiogpeafoaaGreatDoor
