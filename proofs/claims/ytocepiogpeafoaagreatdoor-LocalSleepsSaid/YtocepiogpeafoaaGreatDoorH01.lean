/- Words and contracts of calls that the law needs (Mem): merged by wip/gen/zmerge.py. No condition but those that each theorem names. -/
import Derived.WalkKit
import Derived.Deep.AppendLies
import Derived.Deep.QuietTactic
import Derived.BigQuiet
import Derived.Deep.RegionHeld3
import Derived.IntWalk
import Derived.Laws.Rows
import Derived.Laws.ResultCell
import Derived.Laws.EntriesVeiled
set_option linter.unusedVariables false
/- Words on memory: what a call may have changed (Fr), cells that lie one behind the other (RdL), rows that a state owns (RowF). No program is named here. -/
namespace Go.Proofs.YtocepiogpeafoaaGreatDoor
open Go.RowKit

/-- 'w' turned into 'w'': new blocks, and of the old ones only those in S may have changed. -/
structure Fr (S : Nat → Prop) (w w' : World) : Prop where
  os : w'.os = w.os
  tape : w'.tape = w.tape
  output : w'.output = w.output
  size : w.heap.size ≤ w'.heap.size
  block : ∀ k, k < w.heap.size → ¬ S k → w'.heap[k]? = w.heap[k]?

theorem hid {p : Prop} (h : p) : Hid p := h
def E0 : Nat → Prop := fun _ => False
/-- A call's end: the value, and what may have changed. -/
def Ret (v : Value) (S : Nat → Prop) (w : World) (e : Ending) (w' : World) : Prop := e = .returned v ∧ Fr S w w'

namespace Fr
variable {S T : Nat → Prop} {w w' w'' : World}
theorem refl : Fr S w w := ⟨rfl, rfl, rfl, Nat.le_refl _, fun _ _ _ => rfl⟩
theorem trans (h : Fr S w w') (k : Fr S w' w'') : Fr S w w'' :=
  ⟨k.os.trans h.os, k.tape.trans h.tape, k.output.trans h.output, Nat.le_trans h.size k.size,
    fun i hi hs => (k.block i (Nat.lt_of_lt_of_le hi h.size) hs).trans (h.block i hi hs)⟩
theorem mono (h : Fr S w w') (hs : ∀ i, S i → T i) : Fr T w w' := ⟨h.os, h.tape, h.output, h.size, fun i hi hn => h.block i hi (fun x => hn (hs i x))⟩
/-- what is written besides may be new -/
theorem trans' (h : Fr S w w') (k : Fr T w' w'') (ht : ∀ i, T i → S i ∨ w.heap.size ≤ i) : Fr S w w'' :=
  ⟨k.os.trans h.os, k.tape.trans h.tape, k.output.trans h.output, Nat.le_trans h.size k.size,
    fun i hi hs => (k.block i (Nat.lt_of_lt_of_le hi h.size) (fun x => (ht i x).elim hs (fun y => absurd hi (by omega)))).trans (h.block i hi hs)⟩
theorem e0 (h : Fr E0 w w') : Fr S w w' := h.mono (fun _ x => x.elim)
theorem drew (h : Fr S w w') : Fr S w w'.drew := ⟨h.os, h.tape, h.output, h.size, h.block⟩
theorem drewN (h : Fr S w w') (n : Nat) : Fr S w (w'.drewN n) := ⟨h.os, h.tape, h.output, h.size, h.block⟩
theorem alloc (h : Fr S w w') (o : Obj) : Fr S w (w'.alloc o) :=
  ⟨h.os, h.tape, h.output, by have := h.size; simp; omega, fun i hi hs => (Below.heap_alloc w' o i (Nat.lt_of_lt_of_le hi h.size)).trans (h.block i hi hs)⟩
theorem setCell (h : Fr S w w') {p : Addr} (u : Value) (hp : S p.block ∨ w.heap.size ≤ p.block) : Fr S w (w'.setCell p u) :=
  ⟨h.os, h.tape, h.output, by have := h.size; simpa using this, fun i hi hs => by
    rw [heap_setCell_other _ _ _ _ (fun e => by subst e; exact hp.elim hs (fun y => by omega))]; exact h.block i hi hs⟩
theorem grown (h : Fr S w w') {row : Option Nat} (hg : w'.grownBy w'' row) (hr : ∀ k, row = some k → S k ∨ w.heap.size ≤ k) : Fr S w w'' :=
  ⟨hg.os.trans h.os, hg.tape.trans h.tape, hg.output.trans h.output, Nat.le_trans h.size hg.size, fun i hi hs =>
    (hg.block i (Nat.lt_of_lt_of_le hi h.size) (fun e => (hr i e.symm).elim hs (fun y => by omega))).trans (h.block i hi hs)⟩
theorem cell (h : Fr S w w') {b o : Nat} {v : Value} (hc : w.cell? ⟨b, o, none⟩ = some v) (hs : ¬ S b) : w'.cell? ⟨b, o, none⟩ = some v :=
  (World.cell?_of_block (a := ⟨b, o, none⟩) (h.block b (World.block_lt_of_cell? w _ hc) hs)).trans hc
theorem heapAt (h : Fr S w w') {b : Nat} {o : Obj} (hc : w.heap[b]? = some o) (hs : ¬ S b) : w'.heap[b]? = some o := by
  have hlt : b < w.heap.size := by
    rcases Nat.lt_or_ge b w.heap.size with h | h
    · exact h
    · rw [Array.getElem?_eq_none h] at hc; cases hc
  exact (h.block b hlt hs).trans hc
theorem below (h : Fr E0 w w') : Below w.heap.size w w' := ⟨h.os, h.tape, h.output, h.size, fun i hi => h.block i hi (fun x => x)⟩
theorem of_below (h : Below w.heap.size w w') : Fr S w w' := ⟨h.os, h.tape, h.output, h.size, fun i hi _ => h.block i hi⟩
end Fr

/-! ### cells one behind the other -/
/-- The cells xs lie at ⟨b, o⟩, one behind the other. -/
def RdL (w : World) (b o : Nat) (xs : List Value) : Prop := ∀ j u, xs[j]? = some u → w.cell? ⟨b, o + j, none⟩ = some u
theorem RdL.fr {w w' : World} {b o : Nat} {xs : List Value} {S : Nat → Prop} (h : RdL w b o xs) (hf : Fr S w w') (hs : ¬ S b) : RdL w' b o xs := fun j u hu => hf.cell (h j u hu) hs
/-- The cells xs lie at A: of no cell nothing is asked. -/
def RdA (w : World) (A : Option Addr) (xs : List Value) : Prop := xs = [] ∨ ∃ b o, A = some ⟨b, o, none⟩ ∧ RdL w b o xs
/-- A property of memory that hangs on the blocks of G alone. -/
def Foot (P : World → Prop) (G : Nat → Prop) (w : World) : Prop := ∀ w' : World, (∀ k, G k → k < w.heap.size → w'.heap[k]? = w.heap[k]?) → P w'
theorem Foot.here {P : World → Prop} {G : Nat → Prop} {w : World} (h : Foot P G w) : P w := h w (fun _ _ _ => rfl)
theorem Foot.fr {P : World → Prop} {G S : Nat → Prop} {w w' : World} (h : Foot P G w) (hf : Fr S w w') (hs : ∀ k, G k → S k → False) : Foot P G w' :=
  fun w2 h2 => h w2 (fun k hk hlt => (h2 k hk (Nat.lt_of_lt_of_le hlt hf.size)).trans (hf.block k hlt (fun x => hs k hk x)))
theorem Foot.mono {P : World → Prop} {G G' : Nat → Prop} {w : World} (h : Foot P G w) (hg : ∀ k, G k → G' k) : Foot P G' w := fun w2 h2 => h w2 (fun k hk => h2 k (hg k hk))

theorem flat_len {α : Type} {f : α → List Value} {sz : Nat} (hf : ∀ x, (f x).length = sz) (l : List α) : (l.flatMap f).length = l.length * sz := by
  induction l with
  | nil => simp
  | cons x l ih => rw [List.flatMap_cons, List.length_append, hf, ih, List.length_cons, Nat.add_mul]; omega
theorem flat_get {α : Type} {f : α → List Value} {sz : Nat} (hf : ∀ x, (f x).length = sz) : ∀ (l : List α) (i k : Nat) (x : α), l[i]? = some x → k < sz → (l.flatMap f)[i * sz + k]? = (f x)[k]?
  | [], i, k, x, h, _ => by simp at h
  | y :: l, 0, k, x, h, hk => by
    simp at h; subst h
    rw [List.flatMap_cons, Nat.zero_mul, Nat.zero_add, List.getElem?_append_left (by rw [hf]; exact hk)]
  | y :: l, i + 1, k, x, h, hk => by
    rw [List.flatMap_cons, List.getElem?_append_right (by rw [hf, Nat.add_mul]; omega), hf]
    have e : (i + 1) * sz + k - sz = i * sz + k := by rw [Nat.add_mul]; omega
    rw [e]; exact flat_get hf l i k x (by simpa using h) hk
theorem flat_set {α : Type} {f : α → List Value} {sz : Nat} (hf : ∀ x, (f x).length = sz) : ∀ (l : List α) (i k : Nat) (x y : α) (u : Value), l[i]? = some x → k < sz → f y = (f x).set k u → (l.flatMap f).set (i * sz + k) u = (l.set i y).flatMap f
  | [], i, k, x, y, u, h, _, _ => by simp at h
  | z :: l, 0, k, x, y, u, h, hk, hy => by
    simp at h; subst h
    rw [List.flatMap_cons, Nat.zero_mul, Nat.zero_add, List.set_append_left _ _ (by rw [hf]; exact hk), List.set_cons_zero, List.flatMap_cons, hy]
  | z :: l, i + 1, k, x, y, u, h, hk, hy => by
    rw [List.flatMap_cons, List.set_append_right _ _ (by rw [hf, Nat.add_mul]; omega), hf, List.set_cons_succ, List.flatMap_cons]
    have e : (i + 1) * sz + k - sz = i * sz + k := by rw [Nat.add_mul]; omega
    rw [e, flat_set hf l i k x y u (by simpa using h) hk hy]
theorem lt_of_get {α : Type} {l : List α} {i : Nat} {x : α} (h : l[i]? = some x) : i < l.length := by
  rcases Nat.lt_or_ge i l.length with h' | h'
  · exact h'
  · rw [List.getElem?_eq_none h'] at h; cases h

/-! ### rows that are owned -/
/-- The slice v owns a row of the cells xs (type e, sz cells an element), in a block of F. -/
def RowF (w : World) (F : Nat → Prop) (e sz : Nat) (v : Value) (xs : List Value) : Prop := (∃ n, w.ownsRow 0 e sz v n xs) ∧ ∀ g, v.ownBlock = some g → F g
namespace RowF
variable {w w' : World} {F S : Nat → Prop} {e sz : Nat} {v : Value} {xs : List Value}
theorem nil : RowF w F e sz (.slice none 0 0) [] := ⟨⟨0, World.ownsRow_nil _ _ _ _⟩, fun g h => by simp [Value.ownBlock] at h⟩
theorem mono {F' : Nat → Prop} (h : RowF w F e sz v xs) (hf : ∀ g, F g → F' g) : RowF w F' e sz v xs := ⟨h.1, fun g hg => hf g (h.2 g hg)⟩
theorem lt (h : RowF w F e sz v xs) {g : Nat} (hg : v.ownBlock = some g) : g < w.heap.size := by
  obtain ⟨⟨n, h1⟩, _⟩ := h; exact (h1.lt g hg).2
theorem own {n : Nat} (hsz : 0 < sz) (h : RowF w F e sz v xs) (hn : xs.length = n * sz) : w.ownsRow 0 e sz v n xs := by
  obtain ⟨⟨m, h1⟩, _⟩ := h
  have : m = n := Nat.eq_of_mul_eq_mul_right hsz (h1.1.symm.trans hn)
  exact this ▸ h1
theorem shape (h : RowF w F e sz v xs) : ∃ A n c, v = .slice A n c := by
  obtain ⟨⟨n, h1⟩, _⟩ := h
  rcases h1.2 with ⟨rfl, _⟩ | ⟨g, c, cur, rfl, _⟩
  · exact ⟨_, _, _, rfl⟩
  · exact ⟨_, _, _, rfl⟩
/-- what it looks like -/
theorem form {n : Nat} (hsz : 0 < sz) (h : RowF w F e sz v xs) (hn : xs.length = n * sz) :
    (v = .slice none 0 0 ∧ n = 0 ∧ xs = []) ∨ ∃ g c, v = .slice (some ⟨g, 0, none⟩) n c ∧ F g ∧ g < w.heap.size ∧ n ≤ c ∧ c ≤ maxLen ∧ RdL w g 0 xs ∧ (∀ j, w.frozen? ⟨g, j, none⟩ = false) := by
  have ho := h.own hsz hn
  have h1 := ho
  rcases h1.2 with ⟨rfl, rfl⟩ | ⟨g, c, cur, rfl, _, hg, hnc, hcm, hcs, ht⟩
  · left; exact ⟨rfl, rfl, List.eq_nil_of_length_eq_zero (by simpa using hn)⟩
  · right
    have hcells := ho.cells (g := g) rfl
    refine ⟨g, c, rfl, h.2 g rfl, h.lt rfl, hnc, hcm, ?_, fun j => ho.frozenAt j⟩
    intro j u hu
    have := hcells j u hu
    have hadd : (⟨g, 0, none⟩ : Addr).add j = ⟨g, 0 + j, none⟩ := by unfold Addr.add; split <;> simp_all
    rwa [hadd] at this
/-- as a slice that is read -/
theorem read {n : Nat} (hsz : 0 < sz) (h : RowF w F e sz v xs) (hn : xs.length = n * sz) : ∃ A c, v = .slice A n c ∧ n ≤ c ∧ c ≤ maxLen ∧ RdA w A xs := by
  rcases h.form hsz hn with ⟨rfl, rfl, rfl⟩ | ⟨g, c, rfl, _, _, hnc, hcm, hr, _⟩
  · exact ⟨none, 0, rfl, Nat.le_refl _, Nat.zero_le _, .inl rfl⟩
  · exact ⟨_, c, rfl, hnc, hcm, .inr ⟨g, 0, rfl, hr⟩⟩
theorem heap (h : RowF w F e sz v xs) {g : Nat} (hg : v.ownBlock = some g) : ∃ cur, w.heap[g]? = some (.cells cur e (0, 0)) := by
  obtain ⟨⟨n, h1⟩, _⟩ := h
  rcases h1.2 with ⟨rfl, _⟩ | ⟨g', c, cur, rfl, _, hh, _⟩
  · simp [Value.ownBlock] at hg
  · simp [Value.ownBlock] at hg; subst hg; exact ⟨cur, hh⟩
/-- whose own block is as it was -/
theorem same (h : RowF w F e sz v xs) (hb : ∀ g, v.ownBlock = some g → w'.heap[g]? = w.heap[g]?) : RowF w' F e sz v xs := by
  refine ⟨?_, h.2⟩
  obtain ⟨⟨n, h1⟩, _⟩ := h
  refine ⟨n, h1.1, ?_⟩
  rcases h1.2 with ⟨rfl, h0⟩ | ⟨g, c, cur, rfl, b, hh, r⟩
  · exact .inl ⟨rfl, h0⟩
  · exact .inr ⟨g, c, cur, rfl, b, (hb g rfl).trans hh, r⟩
theorem fr (h : RowF w F e sz v xs) (hf : Fr S w w') (hs : ∀ g, v.ownBlock = some g → ¬ S g) : RowF w' F e sz v xs :=
  h.same (fun g hg => hf.block g (h.lt hg) (hs g hg))
/-- rows of different element types lie in different blocks -/
theorem ne_type {F' : Nat → Prop} {e' sz' : Nat} {v' : Value} {xs' : List Value} (h : RowF w F e sz v xs) (h' : RowF w F' e' sz' v' xs') (he : e ≠ e') {g : Nat} (hg : v.ownBlock = some g) : v'.ownBlock ≠ some g := by
  intro hg'
  obtain ⟨c1, h1⟩ := h.heap hg
  obtain ⟨c2, h2⟩ := h'.heap hg'
  rw [h1] at h2; injection h2 with h2; injection h2 with _ h2 _; exact he h2
theorem stored {g n c j : Nat} {u : Value} (h : RowF w F e sz (.slice (some ⟨g, 0, none⟩) n c) xs) (hj : j < xs.length) : RowF (w.setCell ⟨g, j, none⟩ u) F e sz (.slice (some ⟨g, 0, none⟩) n c) (xs.set j u) := by
  refine ⟨?_, h.2⟩
  obtain ⟨⟨m, h1⟩, _⟩ := h
  refine ⟨m, by simpa using h1.1, ?_⟩
  rcases h1.2 with ⟨hv, _⟩ | ⟨g', c', cur, hv, b, hh, hnc, hcm, hcs, ht⟩
  · cases hv
  · injection hv with e1 e2 e3
    injection e1 with e1; injection e1 with e1; subst e1 e2 e3
    refine .inr ⟨g, c, cur.setIfInBounds j u, rfl, b, heap_setCell_same _ _ _ _ _ _ hh, hnc, hcm, by simpa using hcs, ?_⟩
    have hjn : j < n * sz := by rw [← h1.1]; exact hj
    rw [Array.toList_setIfInBounds, List.take_set, ht]
end RowF

theorem heap_lt {w : World} {b : Nat} {o : Obj} (h : w.heap[b]? = some o) : b < w.heap.size := by
  rcases Nat.lt_or_ge b w.heap.size with h' | h'
  · exact h'
  · rw [Array.getElem?_eq_none h'] at h; cases h

theorem Fr.setCells {S : Nat → Prop} {w w' : World} (h : Fr S w w') {b : Nat} (hb : S b ∨ w.heap.size ≤ b) : ∀ (vs : List Value) (o : Nat), Fr S w (w'.setCells b o vs) := by
  intro vs
  induction vs generalizing w' with
  | nil => intro o; exact h
  | cons v r ih => intro o; exact ih (h.setCell (p := ⟨b, o, none⟩) v hb) (o + 1)
theorem heap_setCells (b : Nat) (t : TypeId) : ∀ (vs : List Value) (o : Nat) (w : World) (cur : Array Value), w.heap[b]? = some (.cells cur t (0, 0)) →
    ∃ cur', (w.setCells b o vs).heap[b]? = some (.cells cur' t (0, 0)) ∧ cur'.size = cur.size ∧ cur'.toList.take o = cur.toList.take o
  | [], o, w, cur, h => ⟨cur, h, rfl, rfl⟩
  | v :: r, o, w, cur, h => by
    obtain ⟨cur', h1, h2, h3⟩ := heap_setCells b t r (o + 1) (w.setCell ⟨b, o, none⟩ v) (cur.setIfInBounds o v) (heap_setCell_same _ _ _ _ _ _ h)
    refine ⟨cur', h1, by rw [h2]; simp, ?_⟩
    have := congrArg (List.take o) h3
    rw [List.take_take, List.take_take, Nat.min_eq_left (by omega)] at this
    rw [this, Array.toList_setIfInBounds, List.take_set_of_le (Nat.le_refl _)]
/-- The row cut behind i elements, what lies behind them turned. -/
theorem RowF.cut {w : World} {F : Nat → Prop} {e sz g n c i : Nat} {xs : List Value} (h : RowF w F e sz (.slice (some ⟨g, 0, none⟩) n c) xs) (hi : i ≤ n) (zs : List Value) :
    RowF (w.setCells g (i * sz) zs) F e sz (.slice (some ⟨g, 0, none⟩) i c) (xs.take (i * sz)) := by
  refine ⟨?_, fun k hk => h.2 k hk⟩
  obtain ⟨⟨m, h1⟩, _⟩ := h
  rcases h1.2 with ⟨hv, _⟩ | ⟨g', c', cur, hv, b, hh, hnc, hcm, hcs, ht⟩
  · cases hv
  · injection hv with e1 e2 e3
    injection e1 with e1; injection e1 with e1; subst e1 e2 e3
    obtain ⟨cur', k1, k2, k3⟩ := heap_setCells g e zs (i * sz) w cur hh
    have hle : i * sz ≤ n * sz := Nat.mul_le_mul_right _ hi
    refine ⟨i, by rw [List.length_take, h1.1]; omega, .inr ⟨g, c, cur', rfl, b, k1, by omega, hcm, by omega, ?_⟩⟩
    rw [k3, ← ht, List.take_take, Nat.min_eq_left hle]
theorem RowF.isCell {w : World} {F : Nat → Prop} {e sz g n c : Nat} {xs : List Value} (h : RowF w F e sz (.slice (some ⟨g, 0, none⟩) n c) xs) {j : Nat} (hj : j < xs.length) : (w.cell? ⟨g, j, none⟩).isSome = true := by
  obtain ⟨⟨m, h1⟩, _⟩ := h
  have hcells := h1.cells (g := g) rfl j xs[j] (List.getElem?_eq_getElem hj)
  have hadd : (⟨g, 0, none⟩ : Addr).add j = ⟨g, j, none⟩ := by unfold Addr.add; split <;> simp_all
  rw [hadd] at hcells; rw [hcells]; rfl
theorem RowF.free {w : World} {F : Nat → Prop} {e sz : Nat} {v : Value} {xs : List Value} (h : RowF w F e sz v xs) {g : Nat} (hg : v.ownBlock = some g) (j : Nat) : w.frozen? ⟨g, j, none⟩ = false := by
  obtain ⟨cur, hc⟩ := h.heap hg
  exact frozen_of_row w g j cur e hc
/-- clear(s[i:]) of an owned row. -/
theorem run_clear_row {P : Program} {w : World} {F : Nat → Prop} {t e sz g n c i : Nat} {xs : List Value} {z : Value} (hu : P.underlying t = some (.slice e)) (hv : ∀ w, (zeroValue e).run P w = .ok z w)
    (hzs : z.cells.size = sz) (hz1 : ∀ u ∈ z.cells.toList, u.oneCell' = true) (hsz : 0 < sz) (h : RowF w F e sz (.slice (some ⟨g, 0, none⟩) n c) xs) (hxs : xs.length = n * sz) (hin : i < n) (ty : TypeId) (c' : Nat) :
    ∃ zs, (Builtin.clear_ #[t] ty #[.slice (some ⟨g, i * sz, none⟩) (n - i) c']).run P w = .ok (.tuple #[]) (w.setCells g (i * sz) zs) := by
  have hlen : ((Builtin.zeroCells z.cells (n - i)).toList).length = (n - i) * sz := by simp [Builtin.zeroCells, hzs]
  have hone : ∀ u ∈ (Builtin.zeroCells z.cells (n - i)).toList, u.oneCell' = true := by
    intro u hu
    simp only [Builtin.zeroCells, Array.toList_map, Array.toList_range, List.mem_map, List.mem_range] at hu
    obtain ⟨j, _, rfl⟩ := hu
    have hlt : j % z.cells.size < z.cells.size := Nat.mod_lt _ (by omega)
    rw [getElem!_pos z.cells _ hlt]
    exact hz1 _ (by simp)
  have hle : i * sz + (n - i) * sz = n * sz := by rw [← Nat.add_mul]; congr 1; omega
  refine ⟨(Builtin.zeroCells z.cells (n - i)).toList, ?_⟩
  have hst := run_storeCells_cells (P := P) g (i * sz) (Builtin.zeroCells z.cells (n - i)).toList 0 w (fun j hj => by rw [Nat.add_zero]; exact h.isCell (by rw [hlen] at hj; omega)) (fun j hj => h.free rfl _) hone
  obtain ⟨m, hm⟩ : ∃ m, n - i = m + 1 := ⟨n - i - 1, by omega⟩
  simp only [Nat.add_zero] at hst
  rw [hm] at hst ⊢
  simp [Builtin.clear_, run_underlying hu, hv, hst]
theorem cells_of_cell {w : World} {b o : Nat} {u : Value} (h : w.cell? ⟨b, o, none⟩ = some u) : ∃ cs t fr, w.heap[b]? = some (.cells cs t fr) ∧ cs[o]? = some u := by
  unfold World.cell? at h
  split at h
  · rename_i c t fr hb; exact ⟨c, t, fr, hb, by simpa using h⟩
  · cases h
theorem heap_setCell_any {w : World} {b o : Nat} {cs : Array Value} {t : TypeId} {fr : Nat × Nat} {v : Value} (h : w.heap[b]? = some (.cells cs t fr)) : (w.setCell ⟨b, o, none⟩ v).heap[b]? = some (.cells (cs.setIfInBounds o v) t fr) := by
  simp [World.setCell, Array.getElem?_modify, h]
theorem setCell_at {w : World} {b o : Nat} {u v : Value} (h : w.cell? ⟨b, o, none⟩ = some u) : (w.setCell ⟨b, o, none⟩ v).cell? ⟨b, o, none⟩ = some v := by
  obtain ⟨cs, t, fr, h1, h2⟩ := cells_of_cell h
  rw [cell_of_row _ _ _ _ _ _ (heap_setCell_any h1)]
  have : o < cs.size := by
    rcases Nat.lt_or_ge o cs.size with hh | hh
    · exact hh
    · rw [Array.getElem?_eq_none hh] at h2; cases h2
  simp [this]
theorem setCell_off {w : World} {b o o' : Nat} {u v : Value} (hne : o ≠ o') (h : w.cell? ⟨b, o', none⟩ = some u) : (w.setCell ⟨b, o, none⟩ v).cell? ⟨b, o', none⟩ = some u := by
  obtain ⟨cs, t, fr, h1, h2⟩ := cells_of_cell h
  rw [cell_of_row _ _ _ _ _ _ (heap_setCell_any h1), Array.getElem?_setIfInBounds_ne hne, h2]
theorem setCell_blk {w : World} {b b' o o' : Nat} {u v : Value} (hne : b' ≠ b) (h : w.cell? ⟨b', o', none⟩ = some u) : (w.setCell ⟨b, o, none⟩ v).cell? ⟨b', o', none⟩ = some u :=
  (World.cell?_of_block (w := w) (a := ⟨b', o', none⟩) (heap_setCell_other _ _ _ _ hne)).trans h
/-! ### waiters and numbers -/
/-- A waiter. -/
structure Wt where
  s : Int
  g : Int
  c : Int
  v : Int
  deriving DecidableEq
def Wt.cells (x : Wt) : List Value := [.int .i64 x.s, .int .i64 x.g, .int .i64 x.c, .int .i64 x.v]
def Wt.val (x : Wt) : Value := .agg #[.int .i64 x.s, .int .i64 x.g, .int .i64 x.c, .int .i64 x.v]
def wts (l : List Wt) : List Value := l.flatMap Wt.cells
def ints (l : List Int) : List Value := l.map (Value.int .i64)
theorem wts_len (l : List Wt) : (wts l).length = l.length * 4 := flat_len (f := Wt.cells) (sz := 4) (fun _ => rfl) l
theorem ints_len (l : List Int) : (ints l).length = l.length * 1 := by simp [ints]
theorem wts_get (l : List Wt) (i : Nat) (x : Wt) (h : l[i]? = some x) : (wts l)[i * 4 + 0]? = some (.int .i64 x.s) ∧ (wts l)[i * 4 + 1]? = some (.int .i64 x.g) ∧ (wts l)[i * 4 + 2]? = some (.int .i64 x.c) ∧ (wts l)[i * 4 + 3]? = some (.int .i64 x.v) := by
  refine ⟨?_, ?_, ?_, ?_⟩ <;> (unfold wts; rw [flat_get (sz := 4) (fun x => rfl) l i _ x h (by omega)]; rfl)
theorem RdL.wt {w : World} {b o k : Nat} {l : List Wt} {x : Wt} (h : RdL w b o (wts l)) (hx : l[k]? = some x) :
    w.cell? ⟨b, o + k * 4, none⟩ = some (.int .i64 x.s) ∧ w.cell? ⟨b, o + k * 4 + 1, none⟩ = some (.int .i64 x.g) ∧ w.cell? ⟨b, o + k * 4 + 2, none⟩ = some (.int .i64 x.c) ∧ w.cell? ⟨b, o + k * 4 + 3, none⟩ = some (.int .i64 x.v) := by
  obtain ⟨e0, e1, e2, e3⟩ := wts_get l k x hx
  exact ⟨h _ _ e0, h _ _ e1, h _ _ e2, h _ _ e3⟩
theorem RdA.at {w : World} {A : Option Addr} {xs : List Value} (h : RdA w A xs) (hn : xs ≠ []) : ∃ b o, A = some ⟨b, o, none⟩ ∧ RdL w b o xs := by
  rcases h with h | h
  · exact absurd h hn
  · exact h
theorem RdA.wtAt {w : World} {A : Option Addr} {l : List Wt} {k : Nat} {x : Wt} (h : RdA w A (wts l)) (hx : l[k]? = some x) : ∃ b o, A = some ⟨b, o, none⟩ ∧ RdL w b o (wts l) := by
  refine h.at ?_
  intro e
  have h1 := wts_len l; rw [e] at h1
  have := lt_of_get hx; simp at h1; omega
theorem RdA.fr {w w' : World} {A : Option Addr} {xs : List Value} (h : RdA w A xs) (hf : Fr E0 w w') : RdA w' A xs := by
  rcases h with h | ⟨b, o, e, h⟩
  · exact .inl h
  · exact .inr ⟨b, o, e, h.fr hf (fun x => x)⟩

/-! ### the first that a predicate takes -/
theorem miss_succ {α : Type} {l : List α} {p : α → Bool} {k : Nat} {x : α} (hx : l[k]? = some x) (hp : p x = false) (h : ∀ j, j < k → ∀ x, l[j]? = some x → p x = false) :
    ∀ j, j < k + 1 → ∀ x, l[j]? = some x → p x = false := by
  intro j hj y hy
  by_cases e : j = k
  · subst e; rw [hx] at hy; cases hy; exact hp
  · exact h j (by omega) y hy
theorem findIdx_hit {α : Type} {l : List α} {p : α → Bool} {k : Nat} {x : α} (hx : l[k]? = some x) (hp : p x = true) (h : ∀ j, j < k → ∀ x, l[j]? = some x → p x = false) : l.findIdx? p = some k := by
  rw [List.findIdx?_eq_some_iff_getElem]
  have hk : k < l.length := lt_of_get hx
  refine ⟨hk, ?_, ?_⟩
  · rw [List.getElem?_eq_getElem hk] at hx; cases hx; exact hp
  · intro j hj
    have := h j hj l[j] (List.getElem?_eq_getElem (by omega))
    simp [this]
theorem findIdx_miss {α : Type} {l : List α} {p : α → Bool} {k : Nat} (hk : l.length ≤ k) (h : ∀ j, j < k → ∀ x, l[j]? = some x → p x = false) : l.findIdx? p = none := by
  rw [List.findIdx?_eq_none_iff]
  intro x hx
  obtain ⟨j, hj, rfl⟩ := List.mem_iff_getElem.1 hx
  have := h j (by omega) l[j] (List.getElem?_eq_getElem hj)
  simp [this]
/-- The place of the first that a predicate takes, as Go tells it. -/
def idxv {α : Type} (p : α → Bool) (l : List α) : Int := match l.findIdx? p with | some i => (i : Int) | none => -1
theorem idxv_hit {α : Type} {l : List α} {p : α → Bool} {k : Nat} {x : α} (hx : l[k]? = some x) (hp : p x = true) (h : ∀ j, j < k → ∀ x, l[j]? = some x → p x = false) : idxv p l = k := by
  unfold idxv; rw [findIdx_hit hx hp h]
theorem idxv_miss {α : Type} {l : List α} {p : α → Bool} {k : Nat} (hk : l.length ≤ k) (h : ∀ j, j < k → ∀ x, l[j]? = some x → p x = false) : idxv p l = -1 := by
  unfold idxv; rw [findIdx_miss hk h]
theorem idxv_any {α : Type} (p : α → Bool) (l : List α) : decide (0 ≤ idxv p l) = l.any p := by
  unfold idxv
  rcases h : l.findIdx? p with _ | i
  · rw [List.findIdx?_eq_none_iff] at h
    have : l.any p = false := by rw [List.any_eq_false]; intro x hx; simp [h x hx]
    rw [this]; simp
  · rw [List.findIdx?_eq_some_iff_getElem] at h
    obtain ⟨hi, hp, _⟩ := h
    have : l.any p = true := by rw [List.any_eq_true]; exact ⟨l[i], List.getElem_mem _, hp⟩
    rw [this]; simp
/-- after a call that leaves all that was there: old cells read as before -/
theorem fcell {W w1 : World} (h : Fr E0 W w1) : (∀ b o, b < W.heap.size → w1.cell? ⟨b, o, none⟩ = W.cell? ⟨b, o, none⟩) ∧ (∀ b o, b < W.heap.size → w1.frozen? ⟨b, o, none⟩ = W.frozen? ⟨b, o, none⟩) ∧ W.heap.size ≤ w1.heap.size :=
  ⟨fun b o hb => World.cell?_of_block (a := ⟨b, o, none⟩) (h.block b hb (fun x => x)), fun b o hb => World.frozen?_of_block (h.block b hb (fun x => x)), h.size⟩
/-- results: a struct in a cell, and a slot -/
theorem res_row2 {P : Program} {fn : Func} {p u : Tmp} {ty : TypeId} (h : fn.results = #[.cell p ty, .tmp u]) (tmps : Array Value) (w : World) (g : Nat) (t : TypeId) (cs : Array Value) (fr : Nat × Nat) (d : TypeDesc)
    (hp : tmps.getD p undef = .pointer (some ⟨g, 0, none⟩)) (hg : w.heap[g]? = some (.cells cs t fr)) (hu : P.underlying ty = some d) (hd : (match d with | .struct _ | .array _ _ => true | _ => false) = true) (hi : (P.info? ty).map (·.size) = some cs.size)
    {v : Value} (hv : tmps.getD u undef = v) : (results fn tmps).run P w = .ok (.tuple #[.agg cs, v]) w := by
  rw [results_cell_tmp h, hp, ← hv]
  have ha : (asAddr (.pointer (some ⟨g, 0, none⟩))).run P w = .ok ⟨g, 0, none⟩ w := by simp [asAddr]
  rw [ha, Result.andThen_ok, run_loadVar_row w g t ty cs fr d hg hu hd hi, Result.andThen_ok]
theorem heap_set5 {w : World} {g : Nat} {t : TypeId} {c0 c1 c2 c3 c4 : Value} (h : w.heap[g]? = some (.cells #[c0, c1, c2, c3, c4] t (0, 0))) (v0 v1 v2 v3 v4 : Value) :
    (((((w.setCell ⟨g, 0, none⟩ v0).setCell ⟨g, 1, none⟩ v1).setCell ⟨g, 2, none⟩ v2).setCell ⟨g, 3, none⟩ v3).setCell ⟨g, 4, none⟩ v4).heap[g]? = some (.cells #[v0, v1, v2, v3, v4] t (0, 0)) :=
  heap_setCell_same _ _ _ _ _ _ (heap_setCell_same _ _ _ _ _ _ (heap_setCell_same _ _ _ _ _ _ (heap_setCell_same _ _ _ _ _ _ (heap_setCell_same _ _ _ _ _ _ h))))
theorem Fr.setNew {S : Nat → Prop} {w w' : World} (h : Fr S w w') {b o : Nat} (u : Value) (hb : w.heap.size ≤ b) : Fr S w (w'.setCell ⟨b, o, none⟩ u) := h.setCell u (.inr hb)
end Go.Proofs.YtocepiogpeafoaaGreatDoor
