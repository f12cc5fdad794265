/- Mem, Chs, Row, Args, Opens, Clone, Own, Find, Waits, Reads, State, Goes, Obj, Put, DelF, Leave, Wake, Spec, App: merged by wip/gen/merge.py for the claim of ChannelPlays. -/
import Derived.WalkKit
import Derived.Deep.AppendLies
import Derived.Deep.QuietTactic
import Derived.BigQuiet
import Derived.Deep.RegionHeld3
import Derived.IntWalk
import Derived.Laws.EntriesVeiled
import Derived.Test.YteffmnohgnmanaaRows
import Derived.ProofKit
import Derived.OpenShut
import Derived.JoinedCond
import Derived.Deep.Slices
import Derived.Deep.Grids
import Derived.ChangeSlices
import Derived.Test.YteffmnohgnmanaaProg
import Derived.WalkSpells
import Derived.Maps.AppendAt
import Derived.Deep.DrawnRows
/- Words on memory: what a call may have changed (Fr), cells that lie one behind the other (RdL), rows that a state owns (RowF). No program is named here. -/
namespace Go.Proofs.Yteffmnohgnmanaa
open Go.RowKit

/-- 'w' turned into 'w'': new blocks, and of the old ones only those in S may have changed. -/
structure Fr (S : Nat → Prop) (w w' : World) : Prop where
  os : w'.os = w.os
  tape : w'.tape = w.tape
  output : w'.output = w.output
  size : w.heap.size ≤ w'.heap.size
  block : ∀ k, k < w.heap.size → ¬ S k → w'.heap[k]? = w.heap[k]?

theorem hid {p : Prop} (h : p) : Hid p := h
def E0 : Nat → Prop := fun _ => False
/-- A call's end: the value, and what may have changed. -/
def Ret (v : Value) (S : Nat → Prop) (w : World) (e : Ending) (w' : World) : Prop := e = .returned v ∧ Fr S w w'

namespace Fr
variable {S T : Nat → Prop} {w w' w'' : World}
theorem refl : Fr S w w := ⟨rfl, rfl, rfl, Nat.le_refl _, fun _ _ _ => rfl⟩
theorem trans (h : Fr S w w') (k : Fr S w' w'') : Fr S w w'' :=
  ⟨k.os.trans h.os, k.tape.trans h.tape, k.output.trans h.output, Nat.le_trans h.size k.size,
    fun i hi hs => (k.block i (Nat.lt_of_lt_of_le hi h.size) hs).trans (h.block i hi hs)⟩
theorem mono (h : Fr S w w') (hs : ∀ i, S i → T i) : Fr T w w' := ⟨h.os, h.tape, h.output, h.size, fun i hi hn => h.block i hi (fun x => hn (hs i x))⟩
/-- what is written besides may be new -/
theorem trans' (h : Fr S w w') (k : Fr T w' w'') (ht : ∀ i, T i → S i ∨ w.heap.size ≤ i) : Fr S w w'' :=
  ⟨k.os.trans h.os, k.tape.trans h.tape, k.output.trans h.output, Nat.le_trans h.size k.size,
    fun i hi hs => (k.block i (Nat.lt_of_lt_of_le hi h.size) (fun x => (ht i x).elim hs (fun y => absurd hi (by omega)))).trans (h.block i hi hs)⟩
theorem e0 (h : Fr E0 w w') : Fr S w w' := h.mono (fun _ x => x.elim)
theorem drew (h : Fr S w w') : Fr S w w'.drew := ⟨h.os, h.tape, h.output, h.size, h.block⟩
theorem drewN (h : Fr S w w') (n : Nat) : Fr S w (w'.drewN n) := ⟨h.os, h.tape, h.output, h.size, h.block⟩
theorem alloc (h : Fr S w w') (o : Obj) : Fr S w (w'.alloc o) :=
  ⟨h.os, h.tape, h.output, by have := h.size; simp; omega, fun i hi hs => (Below.heap_alloc w' o i (Nat.lt_of_lt_of_le hi h.size)).trans (h.block i hi hs)⟩
theorem setCell (h : Fr S w w') {p : Addr} (u : Value) (hp : S p.block ∨ w.heap.size ≤ p.block) : Fr S w (w'.setCell p u) :=
  ⟨h.os, h.tape, h.output, by have := h.size; simpa using this, fun i hi hs => by
    rw [heap_setCell_other _ _ _ _ (fun e => by subst e; exact hp.elim hs (fun y => by omega))]; exact h.block i hi hs⟩
theorem grown (h : Fr S w w') {row : Option Nat} (hg : w'.grownBy w'' row) (hr : ∀ k, row = some k → S k ∨ w.heap.size ≤ k) : Fr S w w'' :=
  ⟨hg.os.trans h.os, hg.tape.trans h.tape, hg.output.trans h.output, Nat.le_trans h.size hg.size, fun i hi hs =>
    (hg.block i (Nat.lt_of_lt_of_le hi h.size) (fun e => (hr i e.symm).elim hs (fun y => by omega))).trans (h.block i hi hs)⟩
theorem cell (h : Fr S w w') {b o : Nat} {v : Value} (hc : w.cell? ⟨b, o, none⟩ = some v) (hs : ¬ S b) : w'.cell? ⟨b, o, none⟩ = some v :=
  (World.cell?_of_block (a := ⟨b, o, none⟩) (h.block b (World.block_lt_of_cell? w _ hc) hs)).trans hc
theorem heapAt (h : Fr S w w') {b : Nat} {o : Obj} (hc : w.heap[b]? = some o) (hs : ¬ S b) : w'.heap[b]? = some o := by
  have hlt : b < w.heap.size := by
    rcases Nat.lt_or_ge b w.heap.size with h | h
    · exact h
    · rw [Array.getElem?_eq_none h] at hc; cases hc
  exact (h.block b hlt hs).trans hc
theorem below (h : Fr E0 w w') : Below w.heap.size w w' := ⟨h.os, h.tape, h.output, h.size, fun i hi => h.block i hi (fun x => x)⟩
theorem of_below (h : Below w.heap.size w w') : Fr S w w' := ⟨h.os, h.tape, h.output, h.size, fun i hi _ => h.block i hi⟩
end Fr

/-! ### cells one behind the other -/
/-- The cells xs lie at ⟨b, o⟩, one behind the other. -/
def RdL (w : World) (b o : Nat) (xs : List Value) : Prop := ∀ j u, xs[j]? = some u → w.cell? ⟨b, o + j, none⟩ = some u
theorem RdL.fr {w w' : World} {b o : Nat} {xs : List Value} {S : Nat → Prop} (h : RdL w b o xs) (hf : Fr S w w') (hs : ¬ S b) : RdL w' b o xs := fun j u hu => hf.cell (h j u hu) hs
/-- The cells xs lie at A: of no cell nothing is asked. -/
def RdA (w : World) (A : Option Addr) (xs : List Value) : Prop := xs = [] ∨ ∃ b o, A = some ⟨b, o, none⟩ ∧ RdL w b o xs
/-- A property of memory that hangs on the blocks of G alone. -/
def Foot (P : World → Prop) (G : Nat → Prop) (w : World) : Prop := ∀ w' : World, (∀ k, G k → k < w.heap.size → w'.heap[k]? = w.heap[k]?) → P w'
theorem Foot.here {P : World → Prop} {G : Nat → Prop} {w : World} (h : Foot P G w) : P w := h w (fun _ _ _ => rfl)
theorem Foot.fr {P : World → Prop} {G S : Nat → Prop} {w w' : World} (h : Foot P G w) (hf : Fr S w w') (hs : ∀ k, G k → S k → False) : Foot P G w' :=
  fun w2 h2 => h w2 (fun k hk hlt => (h2 k hk (Nat.lt_of_lt_of_le hlt hf.size)).trans (hf.block k hlt (fun x => hs k hk x)))
theorem Foot.mono {P : World → Prop} {G G' : Nat → Prop} {w : World} (h : Foot P G w) (hg : ∀ k, G k → G' k) : Foot P G' w := fun w2 h2 => h w2 (fun k hk => h2 k (hg k hk))

theorem flat_len {α : Type} {f : α → List Value} {sz : Nat} (hf : ∀ x, (f x).length = sz) (l : List α) : (l.flatMap f).length = l.length * sz := by
  induction l with
  | nil => simp
  | cons x l ih => rw [List.flatMap_cons, List.length_append, hf, ih, List.length_cons, Nat.add_mul]; omega
theorem flat_get {α : Type} {f : α → List Value} {sz : Nat} (hf : ∀ x, (f x).length = sz) : ∀ (l : List α) (i k : Nat) (x : α), l[i]? = some x → k < sz → (l.flatMap f)[i * sz + k]? = (f x)[k]?
  | [], i, k, x, h, _ => by simp at h
  | y :: l, 0, k, x, h, hk => by
    simp at h; subst h
    rw [List.flatMap_cons, Nat.zero_mul, Nat.zero_add, List.getElem?_append_left (by rw [hf]; exact hk)]
  | y :: l, i + 1, k, x, h, hk => by
    rw [List.flatMap_cons, List.getElem?_append_right (by rw [hf, Nat.add_mul]; omega), hf]
    have e : (i + 1) * sz + k - sz = i * sz + k := by rw [Nat.add_mul]; omega
    rw [e]; exact flat_get hf l i k x (by simpa using h) hk
theorem flat_set {α : Type} {f : α → List Value} {sz : Nat} (hf : ∀ x, (f x).length = sz) : ∀ (l : List α) (i k : Nat) (x y : α) (u : Value), l[i]? = some x → k < sz → f y = (f x).set k u → (l.flatMap f).set (i * sz + k) u = (l.set i y).flatMap f
  | [], i, k, x, y, u, h, _, _ => by simp at h
  | z :: l, 0, k, x, y, u, h, hk, hy => by
    simp at h; subst h
    rw [List.flatMap_cons, Nat.zero_mul, Nat.zero_add, List.set_append_left _ _ (by rw [hf]; exact hk), List.set_cons_zero, List.flatMap_cons, hy]
  | z :: l, i + 1, k, x, y, u, h, hk, hy => by
    rw [List.flatMap_cons, List.set_append_right _ _ (by rw [hf, Nat.add_mul]; omega), hf, List.set_cons_succ, List.flatMap_cons]
    have e : (i + 1) * sz + k - sz = i * sz + k := by rw [Nat.add_mul]; omega
    rw [e, flat_set hf l i k x y u (by simpa using h) hk hy]
theorem lt_of_get {α : Type} {l : List α} {i : Nat} {x : α} (h : l[i]? = some x) : i < l.length := by
  rcases Nat.lt_or_ge i l.length with h' | h'
  · exact h'
  · rw [List.getElem?_eq_none h'] at h; cases h

/-! ### rows that are owned -/
/-- The slice v owns a row of the cells xs (type e, sz cells an element), in a block of F. -/
def RowF (w : World) (F : Nat → Prop) (e sz : Nat) (v : Value) (xs : List Value) : Prop := (∃ n, w.ownsRow 0 e sz v n xs) ∧ ∀ g, v.ownBlock = some g → F g
namespace RowF
variable {w w' : World} {F S : Nat → Prop} {e sz : Nat} {v : Value} {xs : List Value}
theorem nil : RowF w F e sz (.slice none 0 0) [] := ⟨⟨0, World.ownsRow_nil _ _ _ _⟩, fun g h => by simp [Value.ownBlock] at h⟩
theorem mono {F' : Nat → Prop} (h : RowF w F e sz v xs) (hf : ∀ g, F g → F' g) : RowF w F' e sz v xs := ⟨h.1, fun g hg => hf g (h.2 g hg)⟩
theorem lt (h : RowF w F e sz v xs) {g : Nat} (hg : v.ownBlock = some g) : g < w.heap.size := by
  obtain ⟨⟨n, h1⟩, _⟩ := h; exact (h1.lt g hg).2
theorem own {n : Nat} (hsz : 0 < sz) (h : RowF w F e sz v xs) (hn : xs.length = n * sz) : w.ownsRow 0 e sz v n xs := by
  obtain ⟨⟨m, h1⟩, _⟩ := h
  have : m = n := Nat.eq_of_mul_eq_mul_right hsz (h1.1.symm.trans hn)
  exact this ▸ h1
theorem shape (h : RowF w F e sz v xs) : ∃ A n c, v = .slice A n c := by
  obtain ⟨⟨n, h1⟩, _⟩ := h
  rcases h1.2 with ⟨rfl, _⟩ | ⟨g, c, cur, rfl, _⟩
  · exact ⟨_, _, _, rfl⟩
  · exact ⟨_, _, _, rfl⟩
/-- what it looks like -/
theorem form {n : Nat} (hsz : 0 < sz) (h : RowF w F e sz v xs) (hn : xs.length = n * sz) :
    (v = .slice none 0 0 ∧ n = 0 ∧ xs = []) ∨ ∃ g c, v = .slice (some ⟨g, 0, none⟩) n c ∧ F g ∧ g < w.heap.size ∧ n ≤ c ∧ c ≤ maxLen ∧ RdL w g 0 xs ∧ (∀ j, w.frozen? ⟨g, j, none⟩ = false) := by
  have ho := h.own hsz hn
  have h1 := ho
  rcases h1.2 with ⟨rfl, rfl⟩ | ⟨g, c, cur, rfl, _, hg, hnc, hcm, hcs, ht⟩
  · left; exact ⟨rfl, rfl, List.eq_nil_of_length_eq_zero (by simpa using hn)⟩
  · right
    have hcells := ho.cells (g := g) rfl
    refine ⟨g, c, rfl, h.2 g rfl, h.lt rfl, hnc, hcm, ?_, fun j => ho.frozenAt j⟩
    intro j u hu
    have := hcells j u hu
    have hadd : (⟨g, 0, none⟩ : Addr).add j = ⟨g, 0 + j, none⟩ := by unfold Addr.add; split <;> simp_all
    rwa [hadd] at this
/-- as a slice that is read -/
theorem read {n : Nat} (hsz : 0 < sz) (h : RowF w F e sz v xs) (hn : xs.length = n * sz) : ∃ A c, v = .slice A n c ∧ n ≤ c ∧ c ≤ maxLen ∧ RdA w A xs := by
  rcases h.form hsz hn with ⟨rfl, rfl, rfl⟩ | ⟨g, c, rfl, _, _, hnc, hcm, hr, _⟩
  · exact ⟨none, 0, rfl, Nat.le_refl _, Nat.zero_le _, .inl rfl⟩
  · exact ⟨_, c, rfl, hnc, hcm, .inr ⟨g, 0, rfl, hr⟩⟩
theorem heap (h : RowF w F e sz v xs) {g : Nat} (hg : v.ownBlock = some g) : ∃ cur, w.heap[g]? = some (.cells cur e (0, 0)) := by
  obtain ⟨⟨n, h1⟩, _⟩ := h
  rcases h1.2 with ⟨rfl, _⟩ | ⟨g', c, cur, rfl, _, hh, _⟩
  · simp [Value.ownBlock] at hg
  · simp [Value.ownBlock] at hg; subst hg; exact ⟨cur, hh⟩
/-- whose own block is as it was -/
theorem same (h : RowF w F e sz v xs) (hb : ∀ g, v.ownBlock = some g → w'.heap[g]? = w.heap[g]?) : RowF w' F e sz v xs := by
  refine ⟨?_, h.2⟩
  obtain ⟨⟨n, h1⟩, _⟩ := h
  refine ⟨n, h1.1, ?_⟩
  rcases h1.2 with ⟨rfl, h0⟩ | ⟨g, c, cur, rfl, b, hh, r⟩
  · exact .inl ⟨rfl, h0⟩
  · exact .inr ⟨g, c, cur, rfl, b, (hb g rfl).trans hh, r⟩
theorem fr (h : RowF w F e sz v xs) (hf : Fr S w w') (hs : ∀ g, v.ownBlock = some g → ¬ S g) : RowF w' F e sz v xs :=
  h.same (fun g hg => hf.block g (h.lt hg) (hs g hg))
/-- rows of different element types lie in different blocks -/
theorem ne_type {F' : Nat → Prop} {e' sz' : Nat} {v' : Value} {xs' : List Value} (h : RowF w F e sz v xs) (h' : RowF w F' e' sz' v' xs') (he : e ≠ e') {g : Nat} (hg : v.ownBlock = some g) : v'.ownBlock ≠ some g := by
  intro hg'
  obtain ⟨c1, h1⟩ := h.heap hg
  obtain ⟨c2, h2⟩ := h'.heap hg'
  rw [h1] at h2; injection h2 with h2; injection h2 with _ h2 _; exact he h2
theorem stored {g n c j : Nat} {u : Value} (h : RowF w F e sz (.slice (some ⟨g, 0, none⟩) n c) xs) (hj : j < xs.length) : RowF (w.setCell ⟨g, j, none⟩ u) F e sz (.slice (some ⟨g, 0, none⟩) n c) (xs.set j u) := by
  refine ⟨?_, h.2⟩
  obtain ⟨⟨m, h1⟩, _⟩ := h
  refine ⟨m, by simpa using h1.1, ?_⟩
  rcases h1.2 with ⟨hv, _⟩ | ⟨g', c', cur, hv, b, hh, hnc, hcm, hcs, ht⟩
  · cases hv
  · injection hv with e1 e2 e3
    injection e1 with e1; injection e1 with e1; subst e1 e2 e3
    refine .inr ⟨g, c, cur.setIfInBounds j u, rfl, b, heap_setCell_same _ _ _ _ _ _ hh, hnc, hcm, by simpa using hcs, ?_⟩
    have hjn : j < n * sz := by rw [← h1.1]; exact hj
    rw [Array.toList_setIfInBounds, List.take_set, ht]
end RowF

theorem heap_lt {w : World} {b : Nat} {o : Obj} (h : w.heap[b]? = some o) : b < w.heap.size := by
  rcases Nat.lt_or_ge b w.heap.size with h' | h'
  · exact h'
  · rw [Array.getElem?_eq_none h'] at h; cases h

theorem Fr.setCells {S : Nat → Prop} {w w' : World} (h : Fr S w w') {b : Nat} (hb : S b ∨ w.heap.size ≤ b) : ∀ (vs : List Value) (o : Nat), Fr S w (w'.setCells b o vs) := by
  intro vs
  induction vs generalizing w' with
  | nil => intro o; exact h
  | cons v r ih => intro o; exact ih (h.setCell (p := ⟨b, o, none⟩) v hb) (o + 1)
theorem heap_setCells (b : Nat) (t : TypeId) : ∀ (vs : List Value) (o : Nat) (w : World) (cur : Array Value), w.heap[b]? = some (.cells cur t (0, 0)) →
    ∃ cur', (w.setCells b o vs).heap[b]? = some (.cells cur' t (0, 0)) ∧ cur'.size = cur.size ∧ cur'.toList.take o = cur.toList.take o
  | [], o, w, cur, h => ⟨cur, h, rfl, rfl⟩
  | v :: r, o, w, cur, h => by
    obtain ⟨cur', h1, h2, h3⟩ := heap_setCells b t r (o + 1) (w.setCell ⟨b, o, none⟩ v) (cur.setIfInBounds o v) (heap_setCell_same _ _ _ _ _ _ h)
    refine ⟨cur', h1, by rw [h2]; simp, ?_⟩
    have := congrArg (List.take o) h3
    rw [List.take_take, List.take_take, Nat.min_eq_left (by omega)] at this
    rw [this, Array.toList_setIfInBounds, List.take_set_of_le (Nat.le_refl _)]
/-- The row cut behind i elements, what lies behind them turned. -/
theorem RowF.cut {w : World} {F : Nat → Prop} {e sz g n c i : Nat} {xs : List Value} (h : RowF w F e sz (.slice (some ⟨g, 0, none⟩) n c) xs) (hi : i ≤ n) (zs : List Value) :
    RowF (w.setCells g (i * sz) zs) F e sz (.slice (some ⟨g, 0, none⟩) i c) (xs.take (i * sz)) := by
  refine ⟨?_, fun k hk => h.2 k hk⟩
  obtain ⟨⟨m, h1⟩, _⟩ := h
  rcases h1.2 with ⟨hv, _⟩ | ⟨g', c', cur, hv, b, hh, hnc, hcm, hcs, ht⟩
  · cases hv
  · injection hv with e1 e2 e3
    injection e1 with e1; injection e1 with e1; subst e1 e2 e3
    obtain ⟨cur', k1, k2, k3⟩ := heap_setCells g e zs (i * sz) w cur hh
    have hle : i * sz ≤ n * sz := Nat.mul_le_mul_right _ hi
    refine ⟨i, by rw [List.length_take, h1.1]; omega, .inr ⟨g, c, cur', rfl, b, k1, by omega, hcm, by omega, ?_⟩⟩
    rw [k3, ← ht, List.take_take, Nat.min_eq_left hle]
theorem RowF.isCell {w : World} {F : Nat → Prop} {e sz g n c : Nat} {xs : List Value} (h : RowF w F e sz (.slice (some ⟨g, 0, none⟩) n c) xs) {j : Nat} (hj : j < xs.length) : (w.cell? ⟨g, j, none⟩).isSome = true := by
  obtain ⟨⟨m, h1⟩, _⟩ := h
  have hcells := h1.cells (g := g) rfl j xs[j] (List.getElem?_eq_getElem hj)
  have hadd : (⟨g, 0, none⟩ : Addr).add j = ⟨g, j, none⟩ := by unfold Addr.add; split <;> simp_all
  rw [hadd] at hcells; rw [hcells]; rfl
theorem RowF.free {w : World} {F : Nat → Prop} {e sz : Nat} {v : Value} {xs : List Value} (h : RowF w F e sz v xs) {g : Nat} (hg : v.ownBlock = some g) (j : Nat) : w.frozen? ⟨g, j, none⟩ = false := by
  obtain ⟨cur, hc⟩ := h.heap hg
  exact frozen_of_row w g j cur e hc
/-- clear(s[i:]) of an owned row. -/
theorem run_clear_row {P : Program} {w : World} {F : Nat → Prop} {t e sz g n c i : Nat} {xs : List Value} {z : Value} (hu : P.underlying t = some (.slice e)) (hv : ∀ w, (zeroValue e).run P w = .ok z w)
    (hzs : z.cells.size = sz) (hz1 : ∀ u ∈ z.cells.toList, u.oneCell' = true) (hsz : 0 < sz) (h : RowF w F e sz (.slice (some ⟨g, 0, none⟩) n c) xs) (hxs : xs.length = n * sz) (hin : i < n) (ty : TypeId) (c' : Nat) :
    ∃ zs, (Builtin.clear_ #[t] ty #[.slice (some ⟨g, i * sz, none⟩) (n - i) c']).run P w = .ok (.tuple #[]) (w.setCells g (i * sz) zs) := by
  have hlen : ((Builtin.zeroCells z.cells (n - i)).toList).length = (n - i) * sz := by simp [Builtin.zeroCells, hzs]
  have hone : ∀ u ∈ (Builtin.zeroCells z.cells (n - i)).toList, u.oneCell' = true := by
    intro u hu
    simp only [Builtin.zeroCells, Array.toList_map, Array.toList_range, List.mem_map, List.mem_range] at hu
    obtain ⟨j, _, rfl⟩ := hu
    have hlt : j % z.cells.size < z.cells.size := Nat.mod_lt _ (by omega)
    rw [getElem!_pos z.cells _ hlt]
    exact hz1 _ (by simp)
  have hle : i * sz + (n - i) * sz = n * sz := by rw [← Nat.add_mul]; congr 1; omega
  refine ⟨(Builtin.zeroCells z.cells (n - i)).toList, ?_⟩
  have hst := run_storeCells_cells (P := P) g (i * sz) (Builtin.zeroCells z.cells (n - i)).toList 0 w (fun j hj => by rw [Nat.add_zero]; exact h.isCell (by rw [hlen] at hj; omega)) (fun j hj => h.free rfl _) hone
  obtain ⟨m, hm⟩ : ∃ m, n - i = m + 1 := ⟨n - i - 1, by omega⟩
  simp only [Nat.add_zero] at hst
  rw [hm] at hst ⊢
  simp [Builtin.clear_, run_underlying hu, hv, hst]
theorem cells_of_cell {w : World} {b o : Nat} {u : Value} (h : w.cell? ⟨b, o, none⟩ = some u) : ∃ cs t fr, w.heap[b]? = some (.cells cs t fr) ∧ cs[o]? = some u := by
  unfold World.cell? at h
  split at h
  · rename_i c t fr hb; exact ⟨c, t, fr, hb, by simpa using h⟩
  · cases h
theorem heap_setCell_any {w : World} {b o : Nat} {cs : Array Value} {t : TypeId} {fr : Nat × Nat} {v : Value} (h : w.heap[b]? = some (.cells cs t fr)) : (w.setCell ⟨b, o, none⟩ v).heap[b]? = some (.cells (cs.setIfInBounds o v) t fr) := by
  simp [World.setCell, Array.getElem?_modify, h]
theorem setCell_at {w : World} {b o : Nat} {u v : Value} (h : w.cell? ⟨b, o, none⟩ = some u) : (w.setCell ⟨b, o, none⟩ v).cell? ⟨b, o, none⟩ = some v := by
  obtain ⟨cs, t, fr, h1, h2⟩ := cells_of_cell h
  rw [cell_of_row _ _ _ _ _ _ (heap_setCell_any h1)]
  have : o < cs.size := by
    rcases Nat.lt_or_ge o cs.size with hh | hh
    · exact hh
    · rw [Array.getElem?_eq_none hh] at h2; cases h2
  simp [this]
theorem setCell_off {w : World} {b o o' : Nat} {u v : Value} (hne : o ≠ o') (h : w.cell? ⟨b, o', none⟩ = some u) : (w.setCell ⟨b, o, none⟩ v).cell? ⟨b, o', none⟩ = some u := by
  obtain ⟨cs, t, fr, h1, h2⟩ := cells_of_cell h
  rw [cell_of_row _ _ _ _ _ _ (heap_setCell_any h1), Array.getElem?_setIfInBounds_ne hne, h2]
theorem setCell_blk {w : World} {b b' o o' : Nat} {u v : Value} (hne : b' ≠ b) (h : w.cell? ⟨b', o', none⟩ = some u) : (w.setCell ⟨b, o, none⟩ v).cell? ⟨b', o', none⟩ = some u :=
  (World.cell?_of_block (w := w) (a := ⟨b', o', none⟩) (heap_setCell_other _ _ _ _ hne)).trans h
/-! ### waiters and numbers -/
/-- A waiter. -/
structure Wt where
  s : Int
  g : Int
  c : Int
  v : Int
  deriving DecidableEq
def Wt.cells (x : Wt) : List Value := [.int .i64 x.s, .int .i64 x.g, .int .i64 x.c, .int .i64 x.v]
def Wt.val (x : Wt) : Value := .agg #[.int .i64 x.s, .int .i64 x.g, .int .i64 x.c, .int .i64 x.v]
def wts (l : List Wt) : List Value := l.flatMap Wt.cells
def ints (l : List Int) : List Value := l.map (Value.int .i64)
theorem wts_len (l : List Wt) : (wts l).length = l.length * 4 := flat_len (f := Wt.cells) (sz := 4) (fun _ => rfl) l
theorem ints_len (l : List Int) : (ints l).length = l.length * 1 := by simp [ints]
theorem wts_get (l : List Wt) (i : Nat) (x : Wt) (h : l[i]? = some x) : (wts l)[i * 4 + 0]? = some (.int .i64 x.s) ∧ (wts l)[i * 4 + 1]? = some (.int .i64 x.g) ∧ (wts l)[i * 4 + 2]? = some (.int .i64 x.c) ∧ (wts l)[i * 4 + 3]? = some (.int .i64 x.v) := by
  refine ⟨?_, ?_, ?_, ?_⟩ <;> (unfold wts; rw [flat_get (sz := 4) (fun x => rfl) l i _ x h (by omega)]; rfl)
theorem RdL.wt {w : World} {b o k : Nat} {l : List Wt} {x : Wt} (h : RdL w b o (wts l)) (hx : l[k]? = some x) :
    w.cell? ⟨b, o + k * 4, none⟩ = some (.int .i64 x.s) ∧ w.cell? ⟨b, o + k * 4 + 1, none⟩ = some (.int .i64 x.g) ∧ w.cell? ⟨b, o + k * 4 + 2, none⟩ = some (.int .i64 x.c) ∧ w.cell? ⟨b, o + k * 4 + 3, none⟩ = some (.int .i64 x.v) := by
  obtain ⟨e0, e1, e2, e3⟩ := wts_get l k x hx
  exact ⟨h _ _ e0, h _ _ e1, h _ _ e2, h _ _ e3⟩
theorem RdA.at {w : World} {A : Option Addr} {xs : List Value} (h : RdA w A xs) (hn : xs ≠ []) : ∃ b o, A = some ⟨b, o, none⟩ ∧ RdL w b o xs := by
  rcases h with h | h
  · exact absurd h hn
  · exact h
theorem RdA.wtAt {w : World} {A : Option Addr} {l : List Wt} {k : Nat} {x : Wt} (h : RdA w A (wts l)) (hx : l[k]? = some x) : ∃ b o, A = some ⟨b, o, none⟩ ∧ RdL w b o (wts l) := by
  refine h.at ?_
  intro e
  have h1 := wts_len l; rw [e] at h1
  have := lt_of_get hx; simp at h1; omega
theorem RdA.fr {w w' : World} {A : Option Addr} {xs : List Value} (h : RdA w A xs) (hf : Fr E0 w w') : RdA w' A xs := by
  rcases h with h | ⟨b, o, e, h⟩
  · exact .inl h
  · exact .inr ⟨b, o, e, h.fr hf (fun x => x)⟩

/-! ### the first that a predicate takes -/
theorem miss_succ {α : Type} {l : List α} {p : α → Bool} {k : Nat} {x : α} (hx : l[k]? = some x) (hp : p x = false) (h : ∀ j, j < k → ∀ x, l[j]? = some x → p x = false) :
    ∀ j, j < k + 1 → ∀ x, l[j]? = some x → p x = false := by
  intro j hj y hy
  by_cases e : j = k
  · subst e; rw [hx] at hy; cases hy; exact hp
  · exact h j (by omega) y hy
theorem findIdx_hit {α : Type} {l : List α} {p : α → Bool} {k : Nat} {x : α} (hx : l[k]? = some x) (hp : p x = true) (h : ∀ j, j < k → ∀ x, l[j]? = some x → p x = false) : l.findIdx? p = some k := by
  rw [List.findIdx?_eq_some_iff_getElem]
  have hk : k < l.length := lt_of_get hx
  refine ⟨hk, ?_, ?_⟩
  · rw [List.getElem?_eq_getElem hk] at hx; cases hx; exact hp
  · intro j hj
    have := h j hj l[j] (List.getElem?_eq_getElem (by omega))
    simp [this]
theorem findIdx_miss {α : Type} {l : List α} {p : α → Bool} {k : Nat} (hk : l.length ≤ k) (h : ∀ j, j < k → ∀ x, l[j]? = some x → p x = false) : l.findIdx? p = none := by
  rw [List.findIdx?_eq_none_iff]
  intro x hx
  obtain ⟨j, hj, rfl⟩ := List.mem_iff_getElem.1 hx
  have := h j (by omega) l[j] (List.getElem?_eq_getElem hj)
  simp [this]
/-- The place of the first that a predicate takes, as Go tells it. -/
def idxv {α : Type} (p : α → Bool) (l : List α) : Int := match l.findIdx? p with | some i => (i : Int) | none => -1
theorem idxv_hit {α : Type} {l : List α} {p : α → Bool} {k : Nat} {x : α} (hx : l[k]? = some x) (hp : p x = true) (h : ∀ j, j < k → ∀ x, l[j]? = some x → p x = false) : idxv p l = k := by
  unfold idxv; rw [findIdx_hit hx hp h]
theorem idxv_miss {α : Type} {l : List α} {p : α → Bool} {k : Nat} (hk : l.length ≤ k) (h : ∀ j, j < k → ∀ x, l[j]? = some x → p x = false) : idxv p l = -1 := by
  unfold idxv; rw [findIdx_miss hk h]
theorem idxv_any {α : Type} (p : α → Bool) (l : List α) : decide (0 ≤ idxv p l) = l.any p := by
  unfold idxv
  rcases h : l.findIdx? p with _ | i
  · rw [List.findIdx?_eq_none_iff] at h
    have : l.any p = false := by rw [List.any_eq_false]; intro x hx; simp [h x hx]
    rw [this]; simp
  · rw [List.findIdx?_eq_some_iff_getElem] at h
    obtain ⟨hi, hp, _⟩ := h
    have : l.any p = true := by rw [List.any_eq_true]; exact ⟨l[i], List.getElem_mem _, hp⟩
    rw [this]; simp
end Go.Proofs.Yteffmnohgnmanaa
/- A domain's channels in memory: what is read of them (RdCs), what a state owns (OwnCs), the object (Chs); and what a store into one of them leaves. -/
namespace Go.Proofs.Yteffmnohgnmanaa
open Go.RowKit
/-- A channel. -/
structure Ch where
  cap : Int
  vals : List Int
  snd : List Wt
  rcv : List Wt
  cl : Bool
  deriving DecidableEq
/-- A channel, and the values that its slices have in memory. -/
structure CM where
  ch : Ch
  vv : Value
  sv : Value
  rv : Value
def CM.cells (m : CM) : List Value := [.int .i64 m.ch.cap, m.vv, m.sv, m.rv, .bool m.ch.cl]
def CM.val (m : CM) : Value := .agg #[.int .i64 m.ch.cap, m.vv, m.sv, m.rv, .bool m.ch.cl]
theorem cms_len (l : List CM) : (l.flatMap CM.cells).length = l.length * 5 := flat_len (f := CM.cells) (sz := 5) (fun _ => rfl) l
/-- A slice that is read. -/
def RdV (w : World) (v : Value) (sz : Nat) (xs : List Value) : Prop := ∃ A n c, v = .slice A n c ∧ xs.length = n * sz ∧ n ≤ c ∧ c ≤ maxLen ∧ RdA w A xs
theorem RdV.fr {w w' : World} {v : Value} {sz : Nat} {xs : List Value} (h : RdV w v sz xs) (hf : Fr E0 w w') : RdV w' v sz xs := by
  obtain ⟨A, n, c, h1, h2, h3, h4, h5⟩ := h
  exact ⟨A, n, c, h1, h2, h3, h4, h5.fr hf⟩
structure CM.Rd (w : World) (m : CM) : Prop where
  vals : RdV w m.vv 1 (ints m.ch.vals)
  snd : RdV w m.sv 4 (wts m.ch.snd)
  rcv : RdV w m.rv 4 (wts m.ch.rcv)
theorem CM.Rd.fr {w w' : World} {m : CM} (h : m.Rd w) (hf : Fr E0 w w') : m.Rd w' := ⟨h.vals.fr hf, h.snd.fr hf, h.rcv.fr hf⟩
/-- Channels that are read. -/
structure RdCs (w : World) (v : Value) (ms : List CM) : Prop where
  row : RdV w v 5 (ms.flatMap CM.cells)
  each : ∀ m ∈ ms, m.Rd w
theorem RdCs.fr {w w' : World} {v : Value} {ms : List CM} (h : RdCs w v ms) (hf : Fr E0 w w') : RdCs w' v ms := ⟨h.row.fr hf, fun m hm => (h.each m hm).fr hf⟩
theorem RdL.cm {w : World} {b o k : Nat} {l : List CM} {m : CM} (h : RdL w b o (l.flatMap CM.cells)) (hx : l[k]? = some m) :
    w.cell? ⟨b, o + k * 5, none⟩ = some (.int .i64 m.ch.cap) ∧ w.cell? ⟨b, o + k * 5 + 1, none⟩ = some m.vv ∧ w.cell? ⟨b, o + k * 5 + 2, none⟩ = some m.sv ∧ w.cell? ⟨b, o + k * 5 + 3, none⟩ = some m.rv ∧
      w.cell? ⟨b, o + k * 5 + 4, none⟩ = some (.bool m.ch.cl) := by
  have g := fun j (hj : j < 5) => flat_get (f := CM.cells) (sz := 5) (fun _ => rfl) l k j m hx hj
  exact ⟨h _ _ (g 0 (by omega)), h _ _ (g 1 (by omega)), h _ _ (g 2 (by omega)), h _ _ (g 3 (by omega)), h _ _ (g 4 (by omega))⟩
theorem RdA.cmAt {w : World} {A : Option Addr} {l : List CM} {k : Nat} {m : CM} (h : RdA w A (l.flatMap CM.cells)) (hx : l[k]? = some m) : ∃ b o, A = some ⟨b, o, none⟩ ∧ RdL w b o (l.flatMap CM.cells) := by
  refine h.at ?_
  intro e
  have h1 := cms_len l; rw [e] at h1
  have := lt_of_get hx; simp at h1; omega
def chs (ms : List CM) : List Ch := ms.map CM.ch

theorem chs_get {ms : List CM} {k : Nat} {m : CM} (h : ms[k]? = some m) : (chs ms)[k]? = some m.ch := by unfold chs; rw [List.getElem?_map, h]; rfl
theorem chs_len (ms : List CM) : (chs ms).length = ms.length := by simp [chs]
/-! ### what is owned -/
def CM.blocks (m : CM) : List Nat := m.vv.ownBlock.toList ++ (m.sv.ownBlock.toList ++ m.rv.ownBlock.toList)
structure CM.Own (w : World) (F : Nat → Prop) (m : CM) : Prop where
  vals : RowF w F 2 1 m.vv (ints m.ch.vals)
  snd : RowF w F 114 4 m.sv (wts m.ch.snd)
  rcv : RowF w F 114 4 m.rv (wts m.ch.rcv)
namespace CM.Own
variable {w w' : World} {F F' S : Nat → Prop} {m : CM}
theorem mem (h : m.Own w F) {g : Nat} (hg : g ∈ m.blocks) : F g ∧ g < w.heap.size ∧ ∃ cur e, w.heap[g]? = some (.cells cur e (0, 0)) ∧ e ≠ 67 := by
  simp only [CM.blocks, List.mem_append, Option.mem_toList] at hg
  rcases hg with hg | hg | hg
  · obtain ⟨cur, hc⟩ := h.vals.heap hg; exact ⟨h.vals.2 g hg, h.vals.lt hg, cur, 2, hc, by decide⟩
  · obtain ⟨cur, hc⟩ := h.snd.heap hg; exact ⟨h.snd.2 g hg, h.snd.lt hg, cur, 114, hc, by decide⟩
  · obtain ⟨cur, hc⟩ := h.rcv.heap hg; exact ⟨h.rcv.2 g hg, h.rcv.lt hg, cur, 114, hc, by decide⟩
theorem same (h : m.Own w F) (hb : ∀ g, g ∈ m.blocks → w'.heap[g]? = w.heap[g]?) : m.Own w' F :=
  ⟨h.vals.same (fun g hg => hb g (by simp [CM.blocks, hg])), h.snd.same (fun g hg => hb g (by simp [CM.blocks, hg])), h.rcv.same (fun g hg => hb g (by simp [CM.blocks, hg]))⟩
theorem mono (h : m.Own w F) (hf : ∀ g, F g → F' g) : m.Own w F' := ⟨h.vals.mono hf, h.snd.mono hf, h.rcv.mono hf⟩
theorem fr (h : m.Own w F) (hf : Fr S w w') (hs : ∀ g, g ∈ m.blocks → ¬ S g) : m.Own w' F := h.same (fun g hg => hf.block g (h.mem hg).2.1 (hs g hg))
theorem rdv {e sz n : Nat} {v : Value} {xs : List Value} (hsz : 0 < sz) (h : RowF w F e sz v xs) (hn : xs.length = n * sz) : RdV w v sz xs := by
  obtain ⟨A, c, h1, h2, h3, h4⟩ := h.read hsz hn
  exact ⟨A, n, c, h1, hn, h2, h3, h4⟩
theorem rd (h : m.Own w F) : m.Rd w := ⟨rdv (by decide) h.vals (ints_len _), rdv (by decide) h.snd (wts_len _), rdv (by decide) h.rcv (wts_len _)⟩
end CM.Own

/-- Channels that are owned: the row, and what each leads to; no two rows share a block. -/
structure OwnCs (w : World) (F : Nat → Prop) (v : Value) (ms : List CM) : Prop where
  row : RowF w F 67 5 v (ms.flatMap CM.cells)
  each : ∀ m ∈ ms, m.Own w F
  apart : (ms.flatMap CM.blocks).Nodup
namespace OwnCs
variable {w w' w1 : World} {F F' S : Nat → Prop} {v : Value} {ms : List CM}
theorem nil : OwnCs w F (.slice none 0 0) [] := ⟨RowF.nil, fun m hm => by simp at hm, by simp⟩
theorem mono (h : OwnCs w F v ms) (hf : ∀ g, F g → F' g) : OwnCs w F' v ms := ⟨h.row.mono hf, fun m hm => (h.each m hm).mono hf, h.apart⟩
theorem fr (h : OwnCs w F v ms) (hf : Fr S w w') (hs : ∀ g, F g → ¬ S g) : OwnCs w' F v ms :=
  ⟨h.row.fr hf (fun g hg => hs g (h.row.2 g hg)), fun m hm => (h.each m hm).fr hf (fun g hg => hs g ((h.each m hm).mem hg).1), h.apart⟩
theorem rd (h : OwnCs w F v ms) : RdCs w v ms := ⟨CM.Own.rdv (by decide) h.row (cms_len ms), fun m hm => (h.each m hm).rd⟩
/-- read, wherever nothing of F is written -/
theorem foot (h : OwnCs w F v ms) : Foot (fun w => RdCs w v ms) F w := fun _ hw => OwnCs.rd (F := F) ⟨
  h.row.same (fun g hg => hw g (h.row.2 g hg) (h.row.lt hg)),
  fun m hm => (h.each m hm).same (fun g hg => hw g ((h.each m hm).mem hg).1 ((h.each m hm).mem hg).2.1), h.apart⟩
theorem apart_mem {α : Type} {f : α → List Nat} : ∀ {l : List α} {i j : Nat} {x y : α} {g : Nat}, (l.flatMap f).Nodup → l[i]? = some x → l[j]? = some y → i ≠ j → g ∈ f x → g ∉ f y := by
  intro l
  induction l with
  | nil => intro i j x y g _ h; simp at h
  | cons z l ih =>
    intro i j x y g hn hx hy hij hg hg'
    rw [List.flatMap_cons, List.nodup_append] at hn
    obtain ⟨_, hn2, hn3⟩ := hn
    cases i with
    | zero =>
      cases j with
      | zero => exact hij rfl
      | succ j =>
        simp at hx hy; subst hx
        exact hn3 g hg g (List.mem_flatMap.2 ⟨y, List.mem_of_getElem? hy, hg'⟩) rfl
    | succ i =>
      cases j with
      | zero =>
        simp at hx hy; subst hy
        exact hn3 g hg' g (List.mem_flatMap.2 ⟨x, List.mem_of_getElem? hx, hg⟩) rfl
      | succ j => simp at hx hy; exact ih hn2 hx hy (by omega) hg hg'
theorem apart_set {α : Type} {f : α → List Nat} : ∀ {l : List α} {i : Nat} {x y : α}, (l.flatMap f).Nodup → l[i]? = some x → (f y).Nodup → (∀ g ∈ f y, g ∉ f x → ∀ z ∈ l, g ∉ f z) → ((l.set i y).flatMap f).Nodup := by
  intro l
  induction l with
  | nil => intro i x y _ h; simp at h
  | cons z l ih =>
    intro i x y hn hx hy hg
    rw [List.flatMap_cons, List.nodup_append] at hn
    obtain ⟨hn1, hn2, hn3⟩ := hn
    cases i with
    | zero =>
      simp at hx; subst hx
      rw [List.set_cons_zero, List.flatMap_cons, List.nodup_append]
      refine ⟨hy, hn2, ?_⟩
      intro a ha b hb e
      subst e
      by_cases hax : a ∈ f z
      · exact hn3 a hax a hb rfl
      · obtain ⟨q, hq, hq'⟩ := List.mem_flatMap.1 hb
        exact hg a ha hax q (by simp [hq]) hq'
    | succ i =>
      simp at hx
      rw [List.set_cons_succ, List.flatMap_cons, List.nodup_append]
      refine ⟨hn1, ih hn2 hx hy (fun g h1 h2 q hq => hg g h1 h2 q (by simp [hq])), ?_⟩
      intro a ha b hb e
      subst e
      obtain ⟨q, hq, hq'⟩ := List.mem_flatMap.1 hb
      rcases List.mem_or_eq_of_mem_set hq with hq | hq
      · exact hn3 a ha a (List.mem_flatMap.2 ⟨q, hq, hq'⟩) rfl
      · subst hq
        by_cases hax : a ∈ f x
        · exact hn3 a ha a (List.mem_flatMap.2 ⟨x, List.mem_of_getElem? hx, hax⟩) rfl
        · exact hg a hq' hax z (by simp) ha
/-- One cell of channel i is stored, behind work on that channel's own rows. -/
theorem put {i j L n c : Nat} {m m' : CM} {u : Value} (h : OwnCs w F (.slice (some ⟨L, 0, none⟩) n c) ms) (hi : ms[i]? = some m) (hj : j < 5) (hcell : m'.cells = m.cells.set j u)
    (hfr : Fr S w w1) (hS : ∀ k, S k → k ∈ m.blocks ∨ w.heap.size ≤ k) (hF : ∀ k, F k → F' k) (hown : m'.Own w1 F') (hbl : ∀ k ∈ m'.blocks, k ∈ m.blocks ∨ w.heap.size ≤ k) (hnd : m'.blocks.Nodup) :
    OwnCs (w1.setCell ⟨L, i * 5 + j, none⟩ u) F' (.slice (some ⟨L, 0, none⟩) n c) (ms.set i m') := by
  have hLlt : L < w.heap.size := h.row.lt rfl
  obtain ⟨curL, hL⟩ := h.row.heap (g := L) rfl
  have hLS : ¬ S L := by
    intro hs
    rcases hS L hs with hs | hs
    · obtain ⟨_, _, cur, e, he, hne⟩ := (h.each m (List.mem_of_getElem? hi)).mem hs
      rw [hL] at he; injection he with he; injection he with _ he _; exact hne he.symm
    · omega
  have hnotL : ∀ q : CM, ∀ W, q.Own W F' → W.heap[L]? = some (.cells curL 67 (0, 0)) → L ∉ q.blocks := by
    intro q W ho hW hmem
    obtain ⟨_, _, cur, e, he, hne⟩ := ho.mem hmem
    rw [hW] at he; injection he with he; injection he with _ he _; exact hne he.symm
  have hL1 := hfr.heapAt hL hLS
  have hset : ∀ g, g ≠ L → (w1.setCell ⟨L, i * 5 + j, none⟩ u).heap[g]? = w1.heap[g]? := fun g hg => heap_setCell_other _ _ _ _ hg
  refine ⟨?_, ?_, ?_⟩
  · have hrow1 : RowF w1 F' 67 5 (.slice (some ⟨L, 0, none⟩) n c) (ms.flatMap CM.cells) := (h.row.fr hfr (fun g hg => by simp [Value.ownBlock] at hg; subst hg; exact hLS)).mono hF
    have := hrow1.stored (j := i * 5 + j) (u := u) (by have h1 := cms_len ms; have h2 := lt_of_get hi; rw [h1]; omega)
    rw [flat_set (f := CM.cells) (sz := 5) (fun _ => rfl) ms i j m m' u hi hj hcell] at this
    exact this
  · intro q hq
    rcases List.mem_or_eq_of_mem_set hq with hq1 | rfl
    · obtain ⟨iq, hiq⟩ := List.getElem?_of_mem hq
      by_cases e : iq = i
      · subst e
        rw [List.getElem?_set_self (lt_of_get hi)] at hiq
        cases hiq
        exact hown.same (fun g hg => hset g (fun e => hnotL m' w1 hown hL1 (e ▸ hg)))
      · rw [List.getElem?_set_ne (fun x => e x.symm)] at hiq
        have hq0 := (h.each q hq1)
        have hq1' : q.Own w1 F' := (hq0.fr hfr (fun g hg hs => by
          rcases hS g hs with hs | hs
          · exact apart_mem h.apart hi hiq (fun x => e x.symm) hs hg
          · exact absurd (hq0.mem hg).2.1 (by omega))).mono hF
        exact hq1'.same (fun g hg => hset g (fun e => hnotL q w1 hq1' hL1 (e ▸ hg)))
    · exact hown.same (fun g hg => hset g (fun e => hnotL q w1 hown hL1 (e ▸ hg)))
  · refine apart_set h.apart hi hnd (fun g hg hgm z hz hgz => ?_)
    rcases hbl g hg with h1 | h1
    · exact hgm h1
    · exact absurd ((h.each z hz).mem hgz).2.1 (by omega)
end OwnCs
end Go.Proofs.Yteffmnohgnmanaa
/- What every law's row wants: the argument's memory is as it was, so it reads as it did. -/
namespace Go.Proofs.Yteffmnohgnmanaa
open Go.ChangeShapes Go.WideShapes Go.ChangeAt Go.RowKit
theorem laid_ok : laidOutB Try.prog = true := by kernel_rfl
section
variable {H : Type} {enc : TypeId × Value → H} {W W' : World}
theorem stays {sp : Nat → Bool} (hb : Below W.heap.size W W') : ∀ {ts : List TypeId} {vs : List Value} {ds : List (DataW H)} {ps : List MemPlace}, DataW.TrodAll enc Try.prog W 0 (fun _ => true) true ts vs ds ps →
    (∀ t ∈ ts, Try.prog.readableRec t = true ∧ t < Try.prog.types.size) → (∀ x ∈ ps, x.block < W.heap.size ∧ sp x.block = true) → DataW.TrodAll enc Try.prog W' 0 sp true ts vs ds ps
  | [], _, _, _, h, _, _ => by
    obtain ⟨rfl, rfl, rfl⟩ := trodAll_nil h
    rfl
  | t :: ts, _, _, _, h, hr, hp => by
    obtain ⟨v, vs1, d, ds1, a, b, rfl, rfl, rfl, h1, h2⟩ := trodAll_cons h
    refine ⟨a, b, ?_, stays hb h2 (fun t ht => hr t (List.mem_cons_of_mem _ ht)) (fun x hx => hp x (List.mem_append_right _ hx)), rfl⟩
    have ht := hr t (List.mem_cons_self ..)
    exact WideElems.Trod_stays laid_ok ht.1 ht.2 h1 (fun x hx => hb.same (hp x (List.mem_append_left _ hx)).1) (fun x hx => (hp x (List.mem_append_left _ hx)).2)
set_option maxRecDepth 100000 in
theorem post_law {f : Func} {s : ChangeSpec} {args : Array Value} {ds gs : List (DataW H)} {before : List MemPlace} (hW : DataW.Whole enc Try.prog f.params.toList s.vars false W args.toList ds gs before) (hv : s.vars = [])
    (hr : (s.fn H (ds ++ gs)).results = [.lit (.bool true)]) (ha : (s.fn H (ds ++ gs)).args = ds) (hvv : (s.fn H (ds ++ gs)).vars = []) (hres : f.resultTypes = #[4])
    (hread : ∀ t ∈ f.params.toList, Try.prog.readableRec t = true ∧ t < Try.prog.types.size) (hf : Fr E0 W W') : s.post enc Try.prog f false true false false W args (.bool true) W' := by
  have hW' := hW
  obtain ⟨p, q, hA, hV, hb, hfz, hnd⟩ := hW
  rw [hv] at hV
  obtain ⟨rfl, rfl⟩ := trodVars_none hV
  rw [List.append_nil] at hb
  subst hb
  have hold : ∀ x ∈ before, x.block < W.heap.size := fun x hx => by simpa using hW'.lt x hx
  have hargs : ∀ sp : Nat → Bool, (∀ x ∈ before, sp x.block = true) → DataW.TrodAll enc Try.prog W' 0 sp true f.params.toList args.toList (s.fn H (ds ++ [])).args before := fun sp hsp => by
    rw [ha]; exact stays hf.below hA hread (fun x hx => ⟨hold x hx, hsp x hx⟩)
  have hvars : ∀ sp : Nat → Bool, DataW.TrodVars enc Try.prog W' sp s.vars (s.fn H (ds ++ [])).vars [] := fun sp => by rw [hv, hvv]; rfl
  have hres' : ∀ (b : Nat) (sp : Nat → Bool) (hd : Bool), DataW.TrodAll enc Try.prog W' b sp hd f.resultTypes.toList ((Value.bool true).resultList f.resultTypes.size) (s.fn H (ds ++ [])).results [] := fun b sp hd => by
    rw [hr, hres]; exact trodAll_mk1 (shut_bool Try.underlying4 _)
  refine ⟨ds, [], before, [], before, [], hW', hres' _ _ _, hargs _ (fun x hx => by simpa using hold x hx), hvars _, hf.below.frame _, fun _ => ?_⟩
  refine ⟨ok_one hres rfl (okWide_bool_mk Try.underlying4 _), _, _, ([] ++ before) ++ [], ⟨[] ++ before, [], trodAll_append (hargs _ (fun _ _ => rfl)) (hres' _ _ _), hvars _, rfl, ?_, ?_⟩, ?_⟩
  · intro b off hx
    have hx' : MemPlace.cell b off ∈ before := by simpa using hx
    rw [World.frozen?_of_block (w := W) (hf.block b (hold _ hx') (fun x => x))]
    exact hfz b off (by simpa using hx')
  · intro hx; cases hx
  · intro x hx _
    simpa using hx
end
end Go.Proofs.Yteffmnohgnmanaa
/- Arguments as plain data: rows of numbers and of bools; how many, by the bound. -/
namespace Go.Proofs.Yteffmnohgnmanaa
open Go.ChangeShapes Go.WideShapes Go.ChangeAt Go.RowKit
def bools (l : List Bool) : List Value := l.map .bool
theorem rdA_of {w : World} {a : Addr} {xs : List Value} (h : ∀ i u, xs[i]? = some u → w.cell? (a.add i) = some u) : RdA w (some a) xs := by
  cases xs with
  | nil => exact .inl rfl
  | cons x r =>
    obtain ⟨b, o, spot⟩ := a
    have h0 := h 0 x rfl
    have hs : spot = none := by simpa [Addr.add] using World.cell?_spot h0
    subst hs
    exact .inr ⟨b, o, rfl, fun j u hu => by rw [← Addr.add_lit]; exact h j u hu⟩
theorem bulk_one {H : Type} (d : DataW H) : 1 ≤ Rows.uptoBulk d := by
  cases d with
  | lit l => cases l <;> simp [Rows.uptoBulk]
  | nil => simp [Rows.uptoBulk]
  | ptr d => simp [Rows.uptoBulk]
  | slice elems spare => simp [Rows.uptoBulk]
  | agg parts => simp [Rows.uptoBulk]
  | iface t d => simp [Rows.uptoBulk]
  | map entries => simp [Rows.uptoBulk]
  | held h => simp [Rows.uptoBulk]
theorem bulk_len {H : Type} (l : List (DataW H)) : l.length ≤ Rows.uptoBulkAll l := by
  induction l with
  | nil => simp [Rows.uptoBulkAll]
  | cons x r ih => have := bulk_one x; simp only [Rows.uptoBulkAll, List.length_cons]; omega
theorem bulk_mem {H : Type} {d : DataW H} {l : List (DataW H)} (h : d ∈ l) : Rows.uptoBulk d ≤ Rows.uptoBulkAll l := by
  induction l with
  | nil => cases h
  | cons x r ih =>
    simp only [Rows.uptoBulkAll]
    rcases List.mem_cons.1 h with e | e
    · subst e; omega
    · have := ih e; omega
theorem bulk_slice {H : Type} (elems spare : List (DataW H)) : Rows.uptoBulkAll elems + 1 ≤ Rows.uptoBulk (.slice elems spare) := by
  simp only [Rows.uptoBulk]; omega
theorem small {H : Type} {l : List (DataW H)} (hk : Rows.uptoSmall H l = true) : Rows.uptoBulkAll l ≤ 1048576 := of_decide_eq_true hk
section
variable {H : Type} {enc : TypeId × Value → H} {W : World} {base : Nat} {v : Value} {d : DataW H} {p : List MemPlace} {r : Reach}
theorem cells2 : Try.prog.cellsOf 2 = 1 := by kernel_rfl
theorem cells4 : Try.prog.cellsOf 4 = 1 := by kernel_rfl
set_option maxRecDepth 100000 in
theorem open_intsV {t e : TypeId} {k : IntKind} (ht : Try.prog.underlying t = some (.slice e)) (he : Try.prog.underlying e = some (.int k)) (hc : Try.prog.cellsOf e = 1) (hv : Value.okWide Try.prog W r base t v) (h : DataW.Trod enc Try.prog W 0 (fun _ => true) true t v d p) :
    ∃ l : List Int, RdV W v 1 (l.map (Value.int k)) ∧ l.length ≤ Rows.uptoBulk d ∧ ∀ n ∈ l, (Lit.int k n).wf = true := by
  obtain ⟨a0, len0, cap0, rfl⟩ := okWide_slice ht hv
  obtain ⟨fuel, hf⟩ := h
  rcases open_ints ht he hc hf with ⟨hcs, hx⟩ | ⟨a, len, cap, zs, hcs, _, hl, hm, hz, hx, hcell, hwf⟩
  · simp only [Value.cells, List.cons.injEq, Value.slice.injEq] at hcs
    obtain ⟨⟨rfl, rfl, rfl⟩, _⟩ := hcs
    exact ⟨[], ⟨none, 0, 0, rfl, rfl, Nat.le_refl _, Nat.zero_le _, .inl rfl⟩, Nat.zero_le _, by simp⟩
  · simp only [Value.cells, List.cons.injEq, Value.slice.injEq] at hcs
    obtain ⟨⟨rfl, rfl, rfl⟩, _⟩ := hcs
    simp only [if_true] at hz
    have hlen : (zs.take len0).length = len0 := by simp; omega
    refine ⟨zs.take len0, ⟨_, _, _, rfl, by simp; omega, hl, hm, rdA_of (fun i u hu => ?_)⟩, ?_, fun n hn => hwf n (List.mem_of_mem_take hn)⟩
    · rw [List.getElem?_map] at hu
      obtain ⟨z, hz1, rfl⟩ := Option.map_eq_some_iff.1 hu
      have hi : i < len0 := by have := (List.getElem?_eq_some_iff.1 hz1).1; rwa [hlen] at this
      rw [List.getElem?_take_of_lt hi] at hz1
      have := hcell i (by omega)
      rw [this]; simp [List.getD, hz1]
    · injection hx with hx1 _
      subst hx1
      have h1 := bulk_slice (H := H) (lits k (zs.take len0)) (lits k (zs.drop len0))
      have h2 := bulk_len (H := H) (lits k (zs.take len0))
      have h3 : (lits (H := H) k (zs.take len0)).length = (zs.take len0).length := by simp [lits]
      omega
set_option maxRecDepth 100000 in
theorem open_boolsV {t e : TypeId} (ht : Try.prog.underlying t = some (.slice e)) (he : Try.prog.underlying e = some .bool) (hc : Try.prog.cellsOf e = 1) (hv : Value.okWide Try.prog W r base t v) (h : DataW.Trod enc Try.prog W 0 (fun _ => true) true t v d p) :
    ∃ l : List Bool, RdV W v 1 (bools l) ∧ l.length ≤ Rows.uptoBulk d := by
  obtain ⟨a0, len0, cap0, rfl⟩ := okWide_slice ht hv
  obtain ⟨fuel, hf⟩ := h
  rcases Go.Deep.open_slice1 ht hc hf with ⟨hcs, hx⟩ | ⟨a, len, cap, m, n, V, D, Pl, hcs, _, hl, hm, hmm, hx, hcell⟩
  · simp only [Value.cells, List.cons.injEq, Value.slice.injEq] at hcs
    obtain ⟨⟨rfl, rfl, rfl⟩, _⟩ := hcs
    exact ⟨[], ⟨none, 0, 0, rfl, rfl, Nat.le_refl _, Nat.zero_le _, .inl rfl⟩, Nat.zero_le _⟩
  · simp only [Value.cells, List.cons.injEq, Value.slice.injEq] at hcs
    obtain ⟨⟨rfl, rfl, rfl⟩, _⟩ := hcs
    simp only [if_true] at hmm
    subst hmm
    have hb : ∀ i, i < m → ∃ b, V i = .bool b := fun i hi => by
      obtain ⟨b, h1, _⟩ := DataW.trod_bool he (hcell i hi).2
      exact ⟨b, by simpa using h1⟩
    refine ⟨(List.range len0).map (fun i => match V i with | .bool b => b | _ => false), ⟨_, _, _, rfl, by simp [bools], hl, hm, rdA_of (fun i u hu => ?_)⟩, ?_⟩
    · simp only [bools, List.map_map] at hu
      rw [List.getElem?_map] at hu
      obtain ⟨j, hj, rfl⟩ := Option.map_eq_some_iff.1 hu
      have hi : i < len0 := by have := (List.getElem?_eq_some_iff.1 hj).1; simpa using this
      rw [List.getElem?_range hi] at hj
      cases hj
      rw [(hcell i (by omega)).1]
      obtain ⟨b, hb'⟩ := hb i (by omega)
      simp [hb']
    · injection hx with hx1 _
      subst hx1
      have h1 := bulk_slice (H := H) ((List.range len0).map D) ((List.range (m - len0)).map fun j => D (len0 + j))
      have h2 := bulk_len (H := H) ((List.range len0).map D)
      simp at h2 ⊢
      omega
end
end Go.Proofs.Yteffmnohgnmanaa
/- What an argument reads as, as plain data: numbers, bools, structs of them, rows of them. -/
namespace Go.Proofs.Yteffmnohgnmanaa
open Go.ChangeShapes Go.WideShapes Go.ChangeAt Go.RowKit
/-- Cells of type t are f a for some a that Q holds of; and a weighs no more than the datum. -/
def Opens (t : TypeId) {α : Type} (f : α → List Value) (Q : World → α → Prop) (wt : α → Nat) : Prop :=
  ∀ (H : Type) (enc : TypeId × Value → H) (W : World) (fuel : Nat) (cs : List Value) (x : DataW H × List MemPlace), DataW.trod enc Try.prog W 0 (fun _ => true) true fuel t cs = some x → ∃ a, cs = f a ∧ Q W a ∧ wt a ≤ Rows.uptoBulk x.1
def wfI (k : IntKind) : World → Int → Prop := fun _ n => (Lit.int k n).wf = true
theorem opens_int {t : TypeId} {k : IntKind} (ht : Try.prog.underlying t = some (.int k)) : Opens t (fun n : Int => [.int k n]) (wfI k) (fun _ => 1) := by
  intro H enc W fuel cs x h
  obtain ⟨n, h1, rfl, hw⟩ := DataW.trod_int ht h
  exact ⟨n, h1, hw, by simp [Rows.uptoBulk]⟩
theorem opens_bool {t : TypeId} (ht : Try.prog.underlying t = some .bool) : Opens t (fun b : Bool => [.bool b]) (fun _ _ => True) (fun _ => 1) := by
  intro H enc W fuel cs x h
  obtain ⟨b, h1, rfl⟩ := DataW.trod_bool ht h
  exact ⟨b, h1, trivial, by simp [Rows.uptoBulk]⟩
theorem Opens.map {t : TypeId} {α β : Type} {f : α → List Value} {Q : World → α → Prop} {wt : α → Nat} (h : Opens t f Q wt) {f' : β → List Value} {Q' : World → β → Prop} {wt' : β → Nat} (g : α → β) (hf : ∀ a, f a = f' (g a)) (hQ : ∀ W a, Q W a → Q' W (g a)) (hw : ∀ a, wt' (g a) ≤ wt a) : Opens t f' Q' wt' := by
  intro H enc W fuel cs x hx
  obtain ⟨a, h1, h2, h3⟩ := h H enc W fuel cs x hx
  exact ⟨g a, h1.trans (hf a), hQ W a h2, Nat.le_trans (hw a) h3⟩
/-! ### a struct's fields, one behind the other -/
def OpensF (total : Nat) (fs : List Field) (off : Nat) {α : Type} (f : α → List Value) (Q : World → α → Prop) (wt : α → Nat) : Prop :=
  ∀ (H : Type) (enc : TypeId × Value → H) (W : World) (n : Nat) (cs : List Value) (xs : List (DataW H × List MemPlace)), cs.length = total → xs.length = fs.length →
    (∀ (i : Nat) (fd : Field), fs[i]? = some fd → DataW.trod enc Try.prog W 0 (fun _ => true) true n fd.type ((cs.drop fd.offset).take (Try.prog.cellsOf fd.type)) = xs[i]?) →
    ∃ a, cs.drop off = f a ∧ Q W a ∧ wt a ≤ Rows.uptoBulkAll (xs.map (·.1))
theorem opensF_nil (total : Nat) : OpensF total [] total (fun _ : Unit => []) (fun _ _ => True) (fun _ => 0) := by
  intro H enc W n cs xs hc _ _
  exact ⟨(), by rw [← hc]; simp, trivial, Nat.zero_le _⟩
theorem OpensF.cons {total off sz : Nat} {fd : Field} {fs : List Field} {α β : Type} {f : α → List Value} {Q : World → α → Prop} {wt : α → Nat} {f' : β → List Value} {Q' : World → β → Prop} {wt' : β → Nat}
    (ho : fd.offset = off) (hs : Try.prog.cellsOf fd.type = sz) (h : Opens fd.type f Q wt) (hr : OpensF total fs (off + sz) f' Q' wt') :
    OpensF total (fd :: fs) off (fun ab : α × β => f ab.1 ++ f' ab.2) (fun W ab => Q W ab.1 ∧ Q' W ab.2) (fun ab => wt ab.1 + wt' ab.2) := by
  intro H enc W n cs xs hc hx hf
  cases xs with
  | nil => simp at hx
  | cons x xs =>
    have h0 := hf 0 fd rfl
    rw [ho, hs] at h0
    obtain ⟨a, ha, hq, hw⟩ := h H enc W n _ x h0
    obtain ⟨b, hb, hq', hw'⟩ := hr H enc W n cs xs hc (by simpa using hx) (fun i g hg => by have := hf (i + 1) g (by simpa using hg); simpa using this)
    refine ⟨(a, b), ?_, ⟨hq, hq'⟩, ?_⟩
    · show cs.drop off = f a ++ f' b
      rw [← ha, ← hb, ← List.drop_drop]
      exact (List.take_append_drop sz (cs.drop off)).symm
    · simp only [List.map_cons, Rows.uptoBulkAll]; omega
theorem opens_struct {t : TypeId} {fs : Array Field} {total : Nat} {α : Type} {f : α → List Value} {Q : World → α → Prop} {wt : α → Nat} (ht : Try.prog.underlying t = some (.struct fs)) (hc : Try.prog.cellsOf t = total) (h : OpensF total fs.toList 0 f Q wt) : Opens t f Q (fun a => wt a + 1) := by
  intro H enc W fuel cs x hx
  obtain ⟨xs, n, _, rfl, hl, hxl, hf⟩ := DataW.trod_struct ht hx
  obtain ⟨a, ha, hq, hw⟩ := h H enc W n cs xs (hl.trans hc) (by simpa using hxl) (fun i fd hi => hf i fd (by simpa using hi))
  exact ⟨a, by simpa using ha, hq, by simp only [Rows.uptoBulk]; omega⟩
/-- A row: the slice's value, and what lies there. -/
def RowQ {α : Type} (sz : Nat) (f : α → List Value) (Q : World → α → Prop) (W : World) (vl : Value × List α) : Prop := RdV W vl.1 sz (vl.2.flatMap f) ∧ ∀ a ∈ vl.2, Q W a
theorem opens_slice {t e : TypeId} {sz : Nat} {α : Type} {f : α → List Value} {Q : World → α → Prop} {wt : α → Nat} (ht : Try.prog.underlying t = some (.slice e)) (hc : Try.prog.cellsOf e = sz) (hpos : 0 < sz) (hf : ∀ a, (f a).length = sz) (h : Opens e f Q wt) :
    Opens t (fun vl : Value × List α => [vl.1]) (RowQ sz f Q) (fun vl => (vl.2.map wt).sum + 1) := by
  intro H enc W fuel cs x hx
  rcases Go.Deep.open_slice ht hx with ⟨rfl, rfl⟩ | ⟨a, len, cap, m, n, D, Pl, rfl, _, hl, hm, hmm, rfl, hcell⟩
  · exact ⟨(.slice none 0 0, []), rfl, ⟨⟨none, 0, 0, rfl, by simp, Nat.le_refl _, Nat.zero_le _, .inl rfl⟩, by simp⟩, by simp [Rows.uptoBulk]⟩
  · simp only [if_true] at hmm
    subst hmm
    rw [hc] at hcell
    have each : ∀ i, i < m → ∃ z : α, W.cells? 0 (a.add (i * sz)) sz = some (f z) ∧ Q W z ∧ wt z ≤ Rows.uptoBulk (D i) := fun i hi => by
      obtain ⟨cs', h1, h2⟩ := hcell i hi
      obtain ⟨z, rfl, hq, hw⟩ := h H enc W n cs' _ h2
      exact ⟨z, h1, hq, hw⟩
    have all : ∀ k, k ≤ len → ∃ l : List α, l.length = k ∧ (∀ i z, l[i]? = some z → W.cells? 0 (a.add (i * sz)) sz = some (f z)) ∧ (∀ z ∈ l, Q W z) ∧ (l.map wt).sum ≤ Rows.uptoBulkAll ((List.range k).map D) := by
      intro k
      induction k with
      | zero => intro _; exact ⟨[], rfl, by simp, by simp, by simp⟩
      | succ k ih =>
        intro hk
        obtain ⟨l, h1, h2, h3, h4⟩ := ih (by omega)
        obtain ⟨z, z1, z2, z3⟩ := each k (by omega)
        refine ⟨l ++ [z], by simp [h1], ?_, ?_, ?_⟩
        · intro i y hy
          rcases Nat.lt_or_ge i l.length with hi | hi
          · rw [List.getElem?_append_left hi] at hy; exact h2 i y hy
          · rw [List.getElem?_append_right hi] at hy
            have hi' : i - l.length = 0 := by
              rcases Nat.eq_zero_or_pos (i - l.length) with h | h
              · exact h
              · rw [List.getElem?_eq_none (by simp; omega)] at hy; cases hy
            rw [hi'] at hy
            simp at hy
            subst hy
            have : i = k := by omega
            subst this; exact z1
        · intro y hy
          rcases List.mem_append.1 hy with hy | hy
          · exact h3 y hy
          · simp at hy; subst hy; exact z2
        · have e : ∀ (u v : List (DataW H)), Rows.uptoBulkAll (u ++ v) = Rows.uptoBulkAll u + Rows.uptoBulkAll v := by
            intro u v
            induction u with
            | nil => simp [Rows.uptoBulkAll]
            | cons p q ihq => simp only [List.cons_append, Rows.uptoBulkAll, ihq]; omega
          rw [List.range_succ, List.map_append (f := D), e]
          simp [Rows.uptoBulkAll]
          omega
    obtain ⟨l, h1, h2, h3, h4⟩ := all len (Nat.le_refl _)
    refine ⟨(.slice (some a) len m, l), rfl, ⟨⟨_, _, _, rfl, ?_, hl, hm, rdA_of (fun j u hu => ?_)⟩, h3⟩, ?_⟩
    · show (l.flatMap f).length = len * sz
      rw [flat_len hf, h1]
    · show W.cell? (a.add j) = some u
      have hj : j < l.length * sz := by rw [← flat_len hf l]; exact (List.getElem?_eq_some_iff.1 hu).1
      have hq : j / sz < l.length := by rw [Nat.div_lt_iff_lt_mul hpos]; exact hj
      obtain ⟨z, hz⟩ : ∃ z, l[j / sz]? = some z := ⟨_, List.getElem?_eq_getElem hq⟩
      have hdm : j / sz * sz + j % sz = j := by rw [Nat.mul_comm]; exact Nat.div_add_mod j sz
      have hr := Nat.mod_lt j hpos
      have hu' : (f z)[j % sz]? = some u := by
        rw [← flat_get hf l (j / sz) (j % sz) z hz hr, hdm]; exact hu
      have hcz := (World.cells?_some (h2 _ _ hz)).2.2 (j % sz) hr
      rw [Addr.add_add, hdm, hu'] at hcz
      exact hcz
    · have := bulk_slice (H := H) ((List.range len).map D) ((List.range (m - len)).map fun j => D (len + j))
      show (l.map wt).sum + 1 ≤ Rows.uptoBulk (DataW.slice (List.map D (List.range len)) (List.map (fun j => D (len + j)) (List.range (m - len))))
      omega

theorem flatMap_one {α β : Type} (g : α → β) (l : List α) : l.flatMap (fun a => [g a]) = l.map g := by
  induction l with
  | nil => rfl
  | cons x r ih => simp [ih]
theorem sum_one {α : Type} (l : List α) : (l.map fun _ => 1).sum = l.length := by
  induction l with
  | nil => rfl
  | cons x r ih => simp [ih]; omega
/-! ### the types of these laws -/
theorem opens_3 : Opens 3 (fun n : Int => [.int .i64 n]) (wfI .i64) (fun _ => 1) := opens_int Try.underlying3
theorem opens_2 : Opens 2 (fun n : Int => [.int .i64 n]) (wfI .i64) (fun _ => 1) := opens_int Try.underlying2
theorem opens_4 : Opens 4 (fun b : Bool => [.bool b]) (fun _ _ => True) (fun _ => 1) := opens_bool Try.underlying4
theorem opens_75 : Opens 75 (fun n : Int => [.int .u64 n]) (wfI .u64) (fun _ => 1) := opens_int Try.underlying75
theorem cells3 : Try.prog.cellsOf 3 = 1 := by kernel_rfl
theorem cells37 : Try.prog.cellsOf 37 = 2 := by kernel_rfl
theorem cells78 : Try.prog.cellsOf 78 = 3 := by kernel_rfl
theorem cells75 : Try.prog.cellsOf 75 = 1 := by kernel_rfl
theorem cells42 : Try.prog.cellsOf 42 = 1 := by kernel_rfl
theorem cells43 : Try.prog.cellsOf 43 = 1 := by kernel_rfl
theorem cells45 : Try.prog.cellsOf 45 = 5 := by kernel_rfl
/-- A case of a select. -/
structure Pk where
  send : Bool
  ch : Int
  v : Int
  deriving DecidableEq
def Pk.cells (p : Pk) : List Value := [.bool p.send, .int .i64 p.ch, .int .i64 p.v]
def Pk.val (p : Pk) : Value := .agg #[.bool p.send, .int .i64 p.ch, .int .i64 p.v]
def Pk.wf (p : Pk) : Prop := (Lit.int .i64 p.ch).wf = true ∧ (Lit.int .i64 p.v).wf = true
def pks (l : List Pk) : List Value := l.flatMap Pk.cells
theorem opens_pk : Opens 78 Pk.cells (fun _ p => p.wf) (fun _ => 1) :=
  (opens_struct (total := 3) Try.underlying78 cells78 (.cons (sz := 1) rfl cells4 opens_4 (.cons (sz := 1) rfl cells2 opens_2 (.cons (sz := 1) rfl cells2 opens_2 (opensF_nil 3))))).map
    (fun a => ⟨a.1, a.2.1, a.2.2.1⟩) (fun _ => rfl) (fun _ _ h => ⟨h.2.1, h.2.2.1⟩) (fun _ => by simp)
theorem opens_gid : Opens 37 (fun g : Int × Int => [.int .i64 g.1, .int .i64 g.2]) (fun _ g => (Lit.int .i64 g.1).wf = true ∧ (Lit.int .i64 g.2).wf = true) (fun _ => 1) :=
  (opens_struct (total := 2) Try.underlying37 cells37 (.cons (sz := 1) rfl cells3 opens_3 (.cons (sz := 1) rfl cells3 opens_3 (opensF_nil 2)))).map
    (fun a => (a.1, a.2.1)) (fun _ => rfl) (fun _ _ h => ⟨h.1, h.2.1⟩) (fun _ => by simp)
/-- A select that is asked: who, of what; the two slices' values beside what lies there. -/
structure Ask where
  gs : Int
  gg : Int
  cv : Value
  cases : List Pk
  deflt : Bool
  dv : Value
  draws : List Int
def Ask.cells (x : Ask) : List Value := [.int .i64 x.gs, .int .i64 x.gg, x.cv, .bool x.deflt, x.dv]
structure Ask.Ok (W : World) (x : Ask) : Prop where
  g : (Lit.int .i64 x.gs).wf = true ∧ (Lit.int .i64 x.gg).wf = true
  c : RdV W x.cv 3 (pks x.cases)
  cw : ∀ p ∈ x.cases, p.wf
  d : RdV W x.dv 1 (x.draws.map (Value.int .u64))
  dw : ∀ n ∈ x.draws, (Lit.int .u64 n).wf = true
theorem opens_ask : Opens 45 Ask.cells Ask.Ok (fun x => x.cases.length + x.draws.length) :=
  (opens_struct (total := 5) Try.underlying45 cells45 (.cons (sz := 2) rfl cells37 opens_gid (.cons (sz := 1) rfl cells42 (opens_slice Try.underlying42 cells78 (by decide) (fun _ => rfl) opens_pk)
    (.cons (sz := 1) rfl cells4 opens_4 (.cons (sz := 1) rfl cells43 (opens_slice Try.underlying43 cells75 (by decide) (fun _ => rfl) opens_75) (opensF_nil 5)))))).map
    (fun a => ⟨a.1.1, a.1.2, a.2.1.1, a.2.1.2, a.2.2.1, a.2.2.2.1.1, a.2.2.2.1.2⟩) (fun _ => rfl)
    (fun W a h => ⟨h.1, h.2.1.1, h.2.1.2, by have := h.2.2.2.1.1; rw [flatMap_one] at this; exact this, h.2.2.2.1.2⟩) (fun a => by simp [sum_one]; omega)
end Go.Proofs.Yteffmnohgnmanaa
/- slices.Clone over int64s and over waiters. -/
namespace Go.Proofs.Yteffmnohgnmanaa
open Go.RowKit
/-- Blocks that are new since w. -/
def New (w : World) : Nat → Prop := fun k => w.heap.size ≤ k
theorem info2' : (Try.prog.info? 2).map (fun i => (i.zero, i.size, i.bytes)) = some (some (.int .i64 0), 1, 8) := by kernel_rfl
theorem info114 : (Try.prog.info? 114).map (fun i => (i.zero, i.size, i.bytes)) = some (some (.agg #[.int .i64 0, .int .i64 0, .int .i64 0, .int .i64 0]), 4, 32) := by kernel_rfl
theorem wts_oneCell (l : List Wt) : ∀ u ∈ wts l, u.oneCell' = true := by
  intro u hu
  obtain ⟨x, _, hx⟩ := List.mem_flatMap.1 hu
  simp only [Wt.cells, List.mem_cons, List.not_mem_nil, or_false] at hx
  rcases hx with rfl | rfl | rfl | rfl <;> rfl
/-- A call that makes a row. -/
def Made (e sz : Nat) (xs : List Value) (w : World) (en : Ending) (w' : World) : Prop := ∃ v, en = .returned v ∧ RowF w' (New w) e sz v xs ∧ Fr E0 w w'
theorem rowF_empty (w : World) (e : Nat) (sz : Nat) : RowF (w.alloc (.cells #[] e)) (New w) e sz (.slice (some ⟨w.heap.size, 0, none⟩) 0 0) [] :=
  ⟨⟨0, World.ownsRow_made w #[] 0 (Nat.zero_le _) (Nat.zero_le _) (by simp)⟩, fun g hg => by simp [Value.ownBlock] at hg; subst hg; exact Nat.le_refl _⟩
theorem RowF.appended {w w1 : World} {F : Nat → Prop} {e sz n : Nat} {v v' : Value} {xs : List Value} (hown : w1.ownsRow 0 e sz v' n xs) (hat : v'.ownBlock = v.ownBlock ∨ v'.ownBlock = some w.heap.size)
    (h1 : ∀ g, v.ownBlock = some g → F g) (h2 : F w.heap.size) : RowF w1 F e sz v' xs := by
  refine ⟨⟨n, hown⟩, fun g hg => ?_⟩
  rcases hat with h | h
  · exact h1 g (h ▸ hg)
  · rw [h] at hg; injection hg with hg; exact hg ▸ h2
set_option maxHeartbeats 400000 in
theorem cloneI (l : List Int) (v : Value) (w : World) (hv : RdV w v 1 (ints l)) (hsz : l.length * 8 ≤ 140737488355328) : Calls Try.prog 85 #[v] w (Made 2 1 (ints l) w) := by
  obtain ⟨A, n, c, rfl, hl, hnc, hcm, hr⟩ := hv
  have hl' : l.length = n := by rw [ints_len] at hl; omega
  obtain ⟨i0, hi0, hz0, hz1, hz2⟩ := info_parts info2'
  rcases A with _ | ad
  · have h0 : ints l = [] := by
      rcases hr with h | ⟨b, o, h, _⟩
      · exact h
      · cases h
    have HH := hid (show RowF w (New w) 2 1 (.slice none 0 0) (ints l) by rw [h0]; exact RowF.nil)
    clear hr hl hl' hi0 hz0 hz1 hz2 h0
    have hq := Lib.run_eql_slice_nil (P := Try.prog) w 22 2 none n c 0 0 Try.underlying22
    go_enter Try.func85, Try.ntmps85
    go_wp2
    go_ret
    exact ⟨_, rfl, HH.out, Fr.refl⟩
  · have hq := Lib.run_eql_slice_nil (P := Try.prog) w 22 2 (some ad) n c 0 0 Try.underlying22
    have hrow := rowF_empty w 2 1
    have hbl : New w w.heap.size := Nat.le_refl _
    by_cases hn : n = 0
    · subst hn
      have h0 : ints l = [] := List.eq_nil_of_length_eq_zero (by simpa using hl)
      rw [h0]
      have HH := hid hrow
      clear hr hl hl' hi0 hz0 hz1 hz2 h0 hrow
      go_enter Try.func85, Try.ntmps85
      go_wp2
      go_ret
      exact ⟨_, rfl, HH.out, Fr.refl.alloc _⟩
    · obtain ⟨b, o, he, hrd⟩ := hr.at (fun e => by rw [e] at hl; simp at hl; omega)
      cases he
      have hsrc : Hid (∀ j u, (ints l)[j]? = some u → (w.alloc (.cells #[] 2)).cell? ((⟨b, o, none⟩ : Addr).add j) = some u) := fun j u hu => by
        rw [Addr.add_lit]
        exact Fr.cell (Fr.refl (S := E0) |>.alloc (.cells #[] 2)) (hrd j u hu) (fun x => x)
      have h1 := hid (ints_oneCell .i64 l)
      have hL := hid hl
      have HH := hid hrow
      clear hr hl hrd hrow
      go_enter Try.func85, Try.ntmps85
      go_wp2_with (at_builtin; refine wpList_append_own_at _ rfl (.tmp 5) (.tmp 6) 22 rfl 0 2 i0 (.int .i64 0) 1 8 Try.underlying22 hi0 hz0 hz1 hz2 rfl (by decide) (.slice (some ⟨w.heap.size, 0, none⟩) 0 0) 0 [] rfl (HH.out.own (by decide) rfl) ⟨b, o, none⟩ n c (ints l) rfl hL.out hsrc.out h1.out (by unfold maxLen; omega) (by omega) (Nat.zero_le _) ?_; intro v' w1 hown hgrow hnil hat)
      have HR := hid (RowF.appended (F := New w) hown hat (fun g hg => by simp [Value.ownBlock] at hg; subst hg; exact Nat.le_refl _) (by simp [New]))
      have HF := hid ((Fr.refl (S := E0) |>.alloc (.cells #[] 2)).grown hgrow (fun k hk => by simp [Value.ownBlock] at hk; subst hk; exact .inr (Nat.le_refl _)))
      rw [List.nil_append] at HR
      clear hown hgrow hnil hat
      go_ret
      exact ⟨_, rfl, HR.out, HF.out⟩
set_option maxHeartbeats 400000 in
theorem cloneW (l : List Wt) (v : Value) (w : World) (hv : RdV w v 4 (wts l)) (hsz : l.length * 32 ≤ 140737488355328) : Calls Try.prog 86 #[v] w (Made 114 4 (wts l) w) := by
  obtain ⟨A, n, c, rfl, hl, hnc, hcm, hr⟩ := hv
  have hl' : l.length = n := by rw [wts_len] at hl; omega
  obtain ⟨i0, hi0, hz0, hz1, hz2⟩ := info_parts info114
  rcases A with _ | ad
  · have h0 : wts l = [] := by
      rcases hr with h | ⟨b, o, h, _⟩
      · exact h
      · cases h
    have HH := hid (show RowF w (New w) 114 4 (.slice none 0 0) (wts l) by rw [h0]; exact RowF.nil)
    clear hr hl hl' hi0 hz0 hz1 hz2 h0
    have hq := Lib.run_eql_slice_nil (P := Try.prog) w 65 114 none n c 0 0 Try.underlying65
    go_enter Try.func86, Try.ntmps86
    go_wp2
    go_ret
    exact ⟨_, rfl, HH.out, Fr.refl⟩
  · have hq := Lib.run_eql_slice_nil (P := Try.prog) w 65 114 (some ad) n c 0 0 Try.underlying65
    have hrow := rowF_empty w 114 4
    have hbl : New w w.heap.size := Nat.le_refl _
    by_cases hn : n = 0
    · subst hn
      have h0 : wts l = [] := List.eq_nil_of_length_eq_zero (by simpa using hl)
      rw [h0]
      have HH := hid hrow
      clear hr hl hl' hi0 hz0 hz1 hz2 h0 hrow
      go_enter Try.func86, Try.ntmps86
      go_wp2
      go_ret
      exact ⟨_, rfl, HH.out, Fr.refl.alloc _⟩
    · obtain ⟨b, o, he, hrd⟩ := hr.at (fun e => by rw [e] at hl; simp at hl; omega)
      cases he
      have hsrc : Hid (∀ j u, (wts l)[j]? = some u → (w.alloc (.cells #[] 114)).cell? ((⟨b, o, none⟩ : Addr).add j) = some u) := fun j u hu => by
        rw [Addr.add_lit]
        exact Fr.cell (Fr.refl (S := E0) |>.alloc (.cells #[] 114)) (hrd j u hu) (fun x => x)
      have h1 := hid (wts_oneCell l)
      have hL := hid hl
      have HH := hid hrow
      clear hr hl hrd hrow
      go_enter Try.func86, Try.ntmps86
      go_wp2_with (at_builtin; refine wpList_append_own_at _ rfl (.tmp 5) (.tmp 6) 65 rfl 0 114 i0 (.agg #[.int .i64 0, .int .i64 0, .int .i64 0, .int .i64 0]) 4 32 Try.underlying65 hi0 hz0 hz1 hz2 rfl (by decide) (.slice (some ⟨w.heap.size, 0, none⟩) 0 0) 0 [] rfl (HH.out.own (by decide) rfl) ⟨b, o, none⟩ n c (wts l) rfl hL.out hsrc.out h1.out (by unfold maxLen; omega) (by omega) (Nat.zero_le _) ?_; intro v' w1 hown hgrow hnil hat)
      have HR := hid (RowF.appended (F := New w) hown hat (fun g hg => by simp [Value.ownBlock] at hg; subst hg; exact Nat.le_refl _) (by simp [New]))
      have HF := hid ((Fr.refl (S := E0) |>.alloc (.cells #[] 114)).grown hgrow (fun k hk => by simp [Value.ownBlock] at hk; subst hk; exact .inr (Nat.le_refl _)))
      rw [List.nil_append] at HR
      clear hown hgrow hnil hat
      go_ret
      exact ⟨_, rfl, HR.out, HF.out⟩
end Go.Proofs.Yteffmnohgnmanaa
/- channel.own: a channel of its own. -/
namespace Go.Proofs.Yteffmnohgnmanaa
open Go.RowKit
attribute [local go_sem ↓] Go.wp_at_zero Go.wp_at_succ
def OwnPost (m : CM) (w : World) (e : Ending) (w' : World) : Prop := ∃ m' : CM, e = .returned m'.val ∧ m'.ch = m.ch ∧ m'.Own w' (New w) ∧ m'.blocks.Nodup ∧ Fr E0 w w'
/-- A channel's sizes are such that its lists can be made anew. -/
def Ch.Fit (c : Ch) : Prop := c.vals.length * 8 ≤ 140737488355328 ∧ c.snd.length * 32 ≤ 140737488355328 ∧ c.rcv.length * 32 ≤ 140737488355328
theorem keepO {w W w' : World} {B : Nat} {a b c d e : Value} (h : Fr E0 w W ∧ W.cell? ⟨B, 0, none⟩ = some a ∧ W.cell? ⟨B, 1, none⟩ = some b ∧ W.cell? ⟨B, 2, none⟩ = some c ∧ W.cell? ⟨B, 3, none⟩ = some d ∧ W.cell? ⟨B, 4, none⟩ = some e) (hf : Fr E0 W w') :
    Fr E0 w w' ∧ w'.cell? ⟨B, 0, none⟩ = some a ∧ w'.cell? ⟨B, 1, none⟩ = some b ∧ w'.cell? ⟨B, 2, none⟩ = some c ∧ w'.cell? ⟨B, 3, none⟩ = some d ∧ w'.cell? ⟨B, 4, none⟩ = some e :=
  ⟨h.1.trans hf, hf.cell h.2.1 (fun x => x), hf.cell h.2.2.1 (fun x => x), hf.cell h.2.2.2.1 (fun x => x), hf.cell h.2.2.2.2.1 (fun x => x), hf.cell h.2.2.2.2.2 (fun x => x)⟩
theorem keepS {w W : World} {a b c d e : Value} {T : Addr} {u : Value} (hT : T.block = w.heap.size + 1) (h : Fr E0 w W ∧ W.cell? ⟨w.heap.size, 0, none⟩ = some a ∧ W.cell? ⟨w.heap.size, 1, none⟩ = some b ∧ W.cell? ⟨w.heap.size, 2, none⟩ = some c ∧ W.cell? ⟨w.heap.size, 3, none⟩ = some d ∧ W.cell? ⟨w.heap.size, 4, none⟩ = some e) :
    Fr E0 w (W.setCell T u) ∧ (W.setCell T u).cell? ⟨w.heap.size, 0, none⟩ = some a ∧ (W.setCell T u).cell? ⟨w.heap.size, 1, none⟩ = some b ∧ (W.setCell T u).cell? ⟨w.heap.size, 2, none⟩ = some c ∧ (W.setCell T u).cell? ⟨w.heap.size, 3, none⟩ = some d ∧ (W.setCell T u).cell? ⟨w.heap.size, 4, none⟩ = some e := by
  have hx : ∀ j, (W.setCell T u).cell? ⟨w.heap.size, j, none⟩ = W.cell? ⟨w.heap.size, j, none⟩ := fun j => World.cell?_of_block (w := W) (heap_setCell_other _ _ _ _ (by rw [hT]; simp))
  exact ⟨h.1.setCell _ (.inr (by omega)), (hx 0).trans h.2.1, (hx 1).trans h.2.2.1, (hx 2).trans h.2.2.2.1, (hx 3).trans h.2.2.2.2.1, (hx 4).trans h.2.2.2.2.2⟩
theorem cells5 {w : World} {B : Nat} {x0 x1 x2 x3 x4 : Value} {t : TypeId} (h : w.heap[B]? = some (.cells #[x0, x1, x2, x3, x4] t (0, 0))) (a b c d e : Value) :
    (((((w.setCell ⟨B, 0, none⟩ a).setCell ⟨B, 1, none⟩ b).setCell ⟨B, 2, none⟩ c).setCell ⟨B, 3, none⟩ d).setCell ⟨B, 4, none⟩ e).heap[B]? = some (.cells #[a, b, c, d, e] t (0, 0)) := by
  have h1 := heap_setCell_same w B 0 _ t a h
  have h2 := heap_setCell_same _ B 1 _ t b h1
  have h3 := heap_setCell_same _ B 2 _ t c h2
  have h4 := heap_setCell_same _ B 3 _ t d h3
  exact heap_setCell_same _ B 4 _ t e h4
theorem far5 {w : World} {B k : Nat} (hk : k ≠ B) (a b c d e : Value) :
    (((((w.setCell ⟨B, 0, none⟩ a).setCell ⟨B, 1, none⟩ b).setCell ⟨B, 2, none⟩ c).setCell ⟨B, 3, none⟩ d).setCell ⟨B, 4, none⟩ e).heap[k]? = w.heap[k]? := by
  rw [heap_setCell_other _ _ _ _ hk, heap_setCell_other _ _ _ _ hk, heap_setCell_other _ _ _ _ hk, heap_setCell_other _ _ _ _ hk, heap_setCell_other _ _ _ _ hk]
/-- Three rows, made one behind the other, and a block that was there already written: a channel of its own. -/
theorem ownMade {w W w1 w2 w3 : World} {ch : Ch} {v1 v2 v3 : Value} (hW : w.heap.size + 2 ≤ W.heap.size) (r1 : RowF w1 (New W) 2 1 v1 (ints ch.vals)) (g2 : Fr E0 w1 w2) (r2 : RowF w2 (New w1) 114 4 v2 (wts ch.snd)) (g3 : Fr E0 w2 w3)
    (r3 : RowF w3 (New w2) 114 4 v3 (wts ch.rcv)) (g1 : W.heap.size ≤ w1.heap.size) (a b c d e : Value) :
    CM.Own (((((w3.setCell ⟨w.heap.size + 1, 0, none⟩ a).setCell ⟨w.heap.size + 1, 1, none⟩ b).setCell ⟨w.heap.size + 1, 2, none⟩ c).setCell ⟨w.heap.size + 1, 3, none⟩ d).setCell ⟨w.heap.size + 1, 4, none⟩ e) (New w) ⟨ch, v1, v2, v3⟩ ∧ (CM.blocks ⟨ch, v1, v2, v3⟩).Nodup := by
  have s1 := g2.size
  have s2 := g3.size
  have n1 : ∀ g, v1.ownBlock = some g → W.heap.size ≤ g ∧ g < w1.heap.size := fun g hg => ⟨r1.2 g hg, r1.lt hg⟩
  have n2 : ∀ g, v2.ownBlock = some g → w1.heap.size ≤ g ∧ g < w2.heap.size := fun g hg => ⟨r2.2 g hg, r2.lt hg⟩
  have n3 : ∀ g, v3.ownBlock = some g → w2.heap.size ≤ g ∧ g < w3.heap.size := fun g hg => ⟨r3.2 g hg, r3.lt hg⟩
  refine ⟨⟨?_, ?_, ?_⟩, ?_⟩
  · exact (((r1.fr g2 (fun _ _ x => x)).fr g3 (fun _ _ x => x)).same (fun g hg => far5 (by have := n1 g hg; omega) a b c d e)).mono (fun g hg => by unfold New at *; omega)
  · exact ((r2.fr g3 (fun _ _ x => x)).same (fun g hg => far5 (by have := n2 g hg; omega) a b c d e)).mono (fun g hg => by unfold New at *; omega)
  · exact (r3.same (fun g hg => far5 (by have := n3 g hg; omega) a b c d e)).mono (fun g hg => by unfold New at *; omega)
  · simp only [CM.blocks]
    cases h1 : v1.ownBlock <;> cases h2 : v2.ownBlock <;> cases h3 : v3.ownBlock <;> simp <;>
      (try have := n1 _ h1) <;> (try have := n2 _ h2) <;> (try have := n3 _ h3) <;> omega
set_option maxHeartbeats 1000000 in
theorem own_ok (m : CM) (w : World) (hm : m.Rd w) (hf : m.ch.Fit) : Calls Try.prog 69 #[m.val] w (OwnPost m w) := by
  obtain ⟨ch, vv, sv, rv⟩ := m
  have H1 := hid hm.vals
  have H2 := hid hm.snd
  have H3 := hid hm.rcv
  obtain ⟨hf1, hf2, hf3⟩ := hf
  simp only at *
  clear hm
  simp only [CM.val]
  go_enter Try.func69, Try.ntmps69
  go_wp2_with fail
  generalize hW : ((w.alloc (Obj.cells #[Value.int IntKind.i64 ch.cap, vv, sv, rv, Value.bool ch.cl] 67)).alloc _) = W
  have hA : Fr E0 w W := by rw [← hW]; exact (Fr.refl.alloc _).alloc _
  have c0 : W.cell? ⟨w.heap.size, 0, none⟩ = some (.int .i64 ch.cap) := by rw [← hW, World.cell?_alloc_past _ _ _ (by simp), World.cell?_alloc_at _ _ _ _ rfl]; rfl
  have c1 : W.cell? ⟨w.heap.size, 1, none⟩ = some vv := by rw [← hW, World.cell?_alloc_past _ _ _ (by simp), World.cell?_alloc_at _ _ _ _ rfl]; rfl
  have c2 : W.cell? ⟨w.heap.size, 2, none⟩ = some sv := by rw [← hW, World.cell?_alloc_past _ _ _ (by simp), World.cell?_alloc_at _ _ _ _ rfl]; rfl
  have c3 : W.cell? ⟨w.heap.size, 3, none⟩ = some rv := by rw [← hW, World.cell?_alloc_past _ _ _ (by simp), World.cell?_alloc_at _ _ _ _ rfl]; rfl
  have c4 : W.cell? ⟨w.heap.size, 4, none⟩ = some (.bool ch.cl) := by rw [← hW, World.cell?_alloc_past _ _ _ (by simp), World.cell?_alloc_at _ _ _ _ rfl]; rfl
  have hT : W.heap[w.heap.size + 1]? = some (.cells #[Value.int IntKind.i64 0, Value.slice none 0 0, Value.slice none 0 0, Value.slice none 0 0, Value.bool false] 67 (0, 0)) := by rw [← hW]; exact heap_alloc2_new w _ _
  have hws : w.heap.size + 2 = W.heap.size := by rw [← hW]; simp
  have HC := hid (And.intro (hA.drew) (And.intro c0 (And.intro c1 (And.intro c2 (And.intro c3 c4)))))
  have HT := hid hT
  clear hW c0 c1 c2 c3 c4 hT hA
  go_region_held3 (fun w' => Fr E0 w w' ∧ w'.cell? ⟨w.heap.size, 0, none⟩ = some (.int .i64 ch.cap) ∧ w'.cell? ⟨w.heap.size, 1, none⟩ = some vv ∧ w'.cell? ⟨w.heap.size, 2, none⟩ = some sv ∧ w'.cell? ⟨w.heap.size, 3, none⟩ = some rv ∧ w'.cell? ⟨w.heap.size, 4, none⟩ = some (.bool ch.cl))
    (first | exact keepS rfl (keepS rfl (keepS rfl (keepS rfl (keepS rfl hk3.out)))) | exact hk3.out | exact hk2.out | exact hk1.out | exact HC.out)
    (first
      | (go_at_call 85; refine (cloneI ch.vals vv _ (H1.out.fr (by exact (‹Fr E0 w _ ∧ _›).1)) hf1).mono ?_; rintro e w1 ⟨v1, rfl, hr1, hg1⟩; obtain ⟨A1, n1, c1, rfl⟩ := hr1.shape; have hk1 := hid (keepO (by assumption) hg1); have R1 := hid hr1; have G1 := hid hg1; clear hr1 hg1)
      | (go_at_call 86; (with_reducible refine (cloneW ch.snd sv _ (H2.out.fr (by exact (‹Fr E0 w _ ∧ _›).1)) hf2).mono ?_); rintro e w2 ⟨v2, rfl, hr2, hg2⟩; obtain ⟨A2, n2, c2, rfl⟩ := hr2.shape; have hk2 := hid (keepO (by assumption) hg2); have R2 := hid hr2; have G2 := hid hg2; clear hr2 hg2)
      | (go_at_call 86; (with_reducible refine (cloneW ch.rcv rv _ (H3.out.fr (by exact (‹Fr E0 w _ ∧ _›).1)) hf3).mono ?_); rintro e w3 ⟨v3, rfl, hr3, hg3⟩; obtain ⟨A3, n3, c3, rfl⟩ := hr3.shape; have hk3 := hid (keepO (by assumption) hg3);  have T1 := hid (G1.out.heapAt (w := W.drew) HT.out (fun x => x)); have T2 := hid (G2.out.heapAt T1.out (fun x => x)); have T3 := hid (hg3.heapAt T2.out (fun x => x)); have q0 : w3.cell? ⟨w.heap.size + 1, 0, none⟩ = some (.int .i64 0) := cell_of_row w3 _ 0 _ _ _ T3.out; have z0 : w3.frozen? ⟨w.heap.size + 1, 0, none⟩ = false := frozen_of_row w3 _ 0 _ _ T3.out; have q1 : w3.cell? ⟨w.heap.size + 1, 1, none⟩ = some (.slice none 0 0) := cell_of_row w3 _ 1 _ _ _ T3.out; have z1 : w3.frozen? ⟨w.heap.size + 1, 1, none⟩ = false := frozen_of_row w3 _ 1 _ _ T3.out; have q2 : w3.cell? ⟨w.heap.size + 1, 2, none⟩ = some (.slice none 0 0) := cell_of_row w3 _ 2 _ _ _ T3.out; have z2 : w3.frozen? ⟨w.heap.size + 1, 2, none⟩ = false := frozen_of_row w3 _ 2 _ _ T3.out; have q3 : w3.cell? ⟨w.heap.size + 1, 3, none⟩ = some (.slice none 0 0) := cell_of_row w3 _ 3 _ _ _ T3.out; have z3 : w3.frozen? ⟨w.heap.size + 1, 3, none⟩ = false := frozen_of_row w3 _ 3 _ _ T3.out; have q4 : w3.cell? ⟨w.heap.size + 1, 4, none⟩ = some (.bool false) := cell_of_row w3 _ 4 _ _ _ T3.out; have z4 : w3.frozen? ⟨w.heap.size + 1, 4, none⟩ = false := frozen_of_row w3 _ 4 _ _ T3.out; have R3 := hid hr3; have G3 := hid hg3; clear hr3 hg3))
  have TB := hid (cells5 T3.out (.int .i64 ch.cap) (.slice A1 n1 c1) (.slice A2 n2 c2) (.slice A3 n3 c3) (.bool ch.cl))
  have FF := hid (‹Fr E0 w _ ∧ _›).1
  have OW := hid (ownMade (w := w) (W := W.drew) (ch := ch) (by show w.heap.size + 2 ≤ W.heap.size; omega) R1.out G2.out R2.out G3.out R3.out G1.out.size (.int .i64 ch.cap) (.slice A1 n1 c1) (.slice A2 n2 c2) (.slice A3 n3 c3) (.bool ch.cl))
  clear ‹Fr E0 w _ ∧ _› q0 q1 q2 q3 q4 z0 z1 z2 z3 z4 HC HT hk1 hk2 hk3 T1 T2 T3 R1 R2 R3 G1 G2 G3
  generalize ((((World.setCell w3 _ _).setCell _ _).setCell _ _).setCell _ _).setCell _ _ = W5 at *
  have k0 : W5.cell? ⟨w.heap.size + 1, 0, none⟩ = some (.int .i64 ch.cap) := cell_of_row W5 _ 0 _ _ _ TB.out
  have k1 : W5.cell? ⟨w.heap.size + 1, 1, none⟩ = some (.slice A1 n1 c1) := cell_of_row W5 _ 1 _ _ _ TB.out
  have k2 : W5.cell? ⟨w.heap.size + 1, 2, none⟩ = some (.slice A2 n2 c2) := cell_of_row W5 _ 2 _ _ _ TB.out
  have k3 : W5.cell? ⟨w.heap.size + 1, 3, none⟩ = some (.slice A3 n3 c3) := cell_of_row W5 _ 3 _ _ _ TB.out
  have k4 : W5.cell? ⟨w.heap.size + 1, 4, none⟩ = some (.bool ch.cl) := cell_of_row W5 _ 4 _ _ _ TB.out
  go_wp2
  exact bodyPost_ret (v := .agg #[.int .i64 ch.cap, .slice A1 n1 c1, .slice A2 n2 c2, .slice A3 n3 c3, .bool ch.cl]) (by simp [results, Try.results69, go_sem, k0, k1, k2, k3, k4]) rfl ⟨⟨ch, _, _, _⟩, rfl, rfl, OW.out.1, OW.out.2, FF.out⟩
end Go.Proofs.Yteffmnohgnmanaa
/- slices.IndexFunc and slices.ContainsFunc over waiters, at whatever closure that answers by a predicate. -/
namespace Go.Proofs.Yteffmnohgnmanaa
open Go.RowKit
/-- A predicate on waiters at a closure; it stays one where blocks of S are written. -/
structure PredW (S : Nat → Prop) (K : Nat) (cap : Array Value) (p : Wt → Bool) (w : World) : Prop where
  enter : ∀ (args : Array Value) (w' : World), (callFunc K args).run Try.prog w' = .ok (.enter K args) w'
  call : ∀ (x : Wt) (w' : World), Fr S w w' → Calls Try.prog K (#[x.val] ++ cap) w' (Ret (.bool (p x)) E0 w')
theorem PredW.fr {S : Nat → Prop} {K : Nat} {cap : Array Value} {p : Wt → Bool} {w w' : World} (h : PredW S K cap p w) (hf : Fr S w w') : PredW S K cap p w' :=
  ⟨h.enter, fun x w2 h2 => h.call x w2 (hf.trans h2)⟩
theorem PredW.e0 {S : Nat → Prop} {K : Nat} {cap : Array Value} {p : Wt → Bool} {w : World} (h : PredW S K cap p w) : PredW E0 K cap p w :=
  ⟨h.enter, fun x w2 h2 => h.call x w2 h2.e0⟩
/-- The goroutine that a box at B names. -/
def BoxG (B : Nat) (gs gg : Int) (w : World) : Prop := w.cell? ⟨B, 0, none⟩ = some (.int .i64 gs) ∧ w.cell? ⟨B, 1, none⟩ = some (.int .i64 gg)
theorem BoxG.fr {B : Nat} {gs gg : Int} {w w' : World} {S : Nat → Prop} (h : BoxG B gs gg w) (hf : Fr S w w') (hs : ¬ S B) : BoxG B gs gg w' := ⟨hf.cell h.1 hs, hf.cell h.2 hs⟩
theorem BoxG.lt {B : Nat} {gs gg : Int} {w : World} (h : BoxG B gs gg w) : B < w.heap.size := World.block_lt_of_cell? w _ h.1
def isG (gs gg : Int) (x : Wt) : Bool := decide (x.s = gs ∧ x.g = gg)
theorem isG_t {gs gg s g c v : Int} (h1 : s = gs) (h2 : g = gg) : isG gs gg ⟨s, g, c, v⟩ = true := by simp [isG, h1, h2]
theorem isG_f1 {gs gg s g c v : Int} (h1 : ¬ s = gs) : isG gs gg ⟨s, g, c, v⟩ = false := by simp [isG, h1]
theorem isG_f2 {gs gg s g c v : Int} (h2 : ¬ g = gg) : isG gs gg ⟨s, g, c, v⟩ = false := by simp [isG, h2]

set_option maxHeartbeats 400000 in
theorem waits1 (B : Nat) (x : Wt) (gs gg : Int) (w : World) (hB : BoxG B gs gg w) :
    Calls Try.prog 70 (#[x.val] ++ #[.pointer (some ⟨B, 0, none⟩)]) w (Ret (.bool (isG gs gg x)) E0 w) := by
  obtain ⟨h0, h1⟩ := hB
  have hb := World.block_lt_of_cell? w _ h0
  obtain ⟨s, g, c, v⟩ := x
  simp only [Wt.val]
  go_enter Try.func70, Try.ntmps70
  go_wp2
  all_goals go_ret
  · exact ⟨by rw [isG_t rfl rfl]; rfl, Fr.refl.alloc _⟩
  · exact ⟨by rw [isG_f2 ‹_›]; rfl, Fr.refl.alloc _⟩
  · exact ⟨by rw [isG_f1 ‹_›]; rfl, Fr.refl.alloc _⟩
set_option maxHeartbeats 400000 in
theorem leave1 (B : Nat) (x : Wt) (gs gg : Int) (w : World) (hB : BoxG B gs gg w) :
    Calls Try.prog 83 (#[x.val] ++ #[.pointer (some ⟨B, 0, none⟩)]) w (Ret (.bool (isG gs gg x)) E0 w) := by
  obtain ⟨h0, h1⟩ := hB
  have hb := World.block_lt_of_cell? w _ h0
  obtain ⟨s, g, c, v⟩ := x
  simp only [Wt.val]
  go_enter Try.func83, Try.ntmps83
  go_wp2
  all_goals go_ret
  · exact ⟨by rw [isG_t rfl rfl]; rfl, Fr.refl.alloc _⟩
  · exact ⟨by rw [isG_f2 ‹_›]; rfl, Fr.refl.alloc _⟩
  · exact ⟨by rw [isG_f1 ‹_›]; rfl, Fr.refl.alloc _⟩
set_option maxHeartbeats 400000 in
theorem may2 (B : Nat) (x : Wt) (gs gg : Int) (w : World) (hB : BoxG B gs gg w) :
    Calls Try.prog 90 (#[x.val] ++ #[.pointer (some ⟨B, 0, none⟩)]) w (Ret (.bool (!isG gs gg x)) E0 w) := by
  obtain ⟨h0, h1⟩ := hB
  have hb := World.block_lt_of_cell? w _ h0
  obtain ⟨s, g, c, v⟩ := x
  simp only [Wt.val]
  go_enter Try.func90, Try.ntmps90
  go_wp2
  all_goals go_ret
  · exact ⟨by rw [isG_t rfl rfl]; rfl, Fr.refl.alloc _⟩
  · exact ⟨by rw [isG_f2 ‹_›]; rfl, Fr.refl.alloc _⟩
  · exact ⟨by rw [isG_f1 ‹_›]; rfl, Fr.refl.alloc _⟩
def hasV (x : Wt) : Bool := decide (x.v ≠ 0)
set_option maxHeartbeats 400000 in
theorem may1 (x : Wt) (w : World) : Calls Try.prog 89 (#[x.val] ++ #[]) w (Ret (.bool (hasV x)) E0 w) := by
  obtain ⟨s, g, c, v⟩ := x
  simp only [Wt.val]
  by_cases h : v = 0
  · subst h
    have e : hasV ⟨s, g, c, 0⟩ = false := by simp [hasV]
    rw [e]
    go_enter Try.func89, Try.ntmps89
    go_wp2
    go_ret
    exact ⟨rfl, Fr.refl.alloc _⟩
  · have e : hasV ⟨s, g, c, v⟩ = true := by simp [hasV, h]
    rw [e]
    have hv : (v != 0) = true := by simp [h]
    go_enter Try.func89, Try.ntmps89
    go_wp2
    go_ret
    exact ⟨rfl, Fr.refl.alloc _⟩

theorem enters (K : Nat) (h : ((Try.prog.funcs[K]?).map fun f => (f.name == "runtime.NumGoroutine", f.body.isNone)) = some (false, false)) (args : Array Value) (w : World) :
    (callFunc K args).run Try.prog w = .ok (.enter K args) w := by
  cases hf : Try.prog.funcs[K]? with
  | none => rw [hf] at h; simp at h
  | some f =>
    rw [hf] at h
    simp only [Option.map_some, Option.some.injEq, Prod.mk.injEq] at h
    have h1 : ¬ f.name = "runtime.NumGoroutine" := by simpa using h.1
    have h2 : ¬ f.body = none := fun e => by have := h.2; rw [e] at this; cases this
    simp [callFunc, Go.program, Sem.run, hf, bind, Sem.bind, pure, h1, h2]
theorem predWaits {B : Nat} {gs gg : Int} {w : World} {S : Nat → Prop} (hB : BoxG B gs gg w) (hs : ¬ S B) : PredW S 70 #[.pointer (some ⟨B, 0, none⟩)] (isG gs gg) w :=
  ⟨enters 70 (by kernel_rfl), fun x w' hf => waits1 B x gs gg w' (hB.fr hf hs)⟩
theorem predLeave {B : Nat} {gs gg : Int} {w : World} {S : Nat → Prop} (hB : BoxG B gs gg w) (hs : ¬ S B) : PredW S 83 #[.pointer (some ⟨B, 0, none⟩)] (isG gs gg) w :=
  ⟨enters 83 (by kernel_rfl), fun x w' hf => leave1 B x gs gg w' (hB.fr hf hs)⟩
theorem predOther {B : Nat} {gs gg : Int} {w : World} {S : Nat → Prop} (hB : BoxG B gs gg w) (hs : ¬ S B) : PredW S 90 #[.pointer (some ⟨B, 0, none⟩)] (fun x => !isG gs gg x) w :=
  ⟨enters 90 (by kernel_rfl), fun x w' hf => may2 B x gs gg w' (hB.fr hf hs)⟩
theorem predHasV {w : World} {S : Nat → Prop} : PredW S 89 #[] hasV w :=
  ⟨enters 89 (by kernel_rfl), fun x w' _ => may1 x w'⟩

set_option maxHeartbeats 400000 in
theorem indexW (A : Option Addr) (n c K : Nat) (cap : Array Value) (p : Wt → Bool) (l : List Wt) (w : World) (hl : l.length = n) (hn : n ≤ maxLen) (hp : PredW E0 K cap p w) (hc : RdA w A (wts l)) :
    Calls Try.prog 88 #[.slice A n c, .func (.func K) #[] cap] w (Ret (.int .i64 (idxv p l)) E0 w) := by
  unfold maxLen at hn
  have hK := hp.enter
  go_enter Try.func88, Try.ntmps88
  go_wp2
  go_loopw [8] (fun i wr => ∃ k : Nat, k ≤ n ∧ i = .int .i64 k ∧ Fr E0 w wr ∧ ∀ j, j < k → ∀ x, l[j]? = some x → p x = false) (fun i _ => n - (intOf i).toNat)
  case atStart => exact ⟨0, Nat.zero_le _, rfl, Fr.refl, fun j hj => absurd hj (by omega)⟩
  case round =>
    obtain ⟨k, hk, rfl, hf, hno⟩ := hrel
    have H := hid hno; clear hno
    by_cases hlt : k < n
    · obtain ⟨x, hx⟩ : ∃ x, l[k]? = some x := ⟨l[k], List.getElem?_eq_getElem (by omega)⟩
      obtain ⟨b, o, rfl, hr⟩ := hc.wtAt hx
      obtain ⟨g0, g1, g2, g3⟩ := (hr.fr hf (fun x => x)).wt hx
      clear hr hc
      go_wp2_with fail
      refine (hp.call x wr hf).mono ?_
      rintro e w1 ⟨rfl, hf1⟩
      have F1 := hid (hf.trans hf1)
      clear hf hf1
      cases hpx : p x with
      | true =>
        have HX := hid hpx; clear hpx
        go_wp2
        go_ret
        exact ⟨by rw [idxv_hit hx HX.out H.out]; rfl, F1.out⟩
      | false =>
        have HX := hid hpx; clear hpx
        go_wp2
        go_roundw
        case rel => exact ⟨k + 1, by omega, by go_num, F1.out, miss_succ hx HX.out H.out⟩
        case measure => simp [intOf]; omega
    · have F := hid hf
      go_wp2
      go_ret
      exact ⟨by rw [idxv_miss (by omega) H.out]; rfl, F.out⟩
set_option maxHeartbeats 400000 in
theorem containsW (A : Option Addr) (n c K : Nat) (cap : Array Value) (p : Wt → Bool) (l : List Wt) (w : World) (hl : l.length = n) (hn : n ≤ maxLen) (hp : PredW E0 K cap p w) (hc : RdA w A (wts l)) :
    Calls Try.prog 73 #[.slice A n c, .func (.func K) #[] cap] w (Ret (.bool (l.any p)) E0 w) := by
  have hi := idxv_any p l
  generalize l.any p = r at *
  go_enter Try.func73, Try.ntmps73
  go_wp2_with (go_at_call 88; refine (indexW A n c K cap p l w hl hn hp hc).mono ?_; rintro e w1 ⟨rfl, hf1⟩; have F1 := hid hf1; clear hf1)
  go_ret
  exact ⟨by rfl, F1.out⟩
end Go.Proofs.Yteffmnohgnmanaa
/- slices.IndexFunc and ContainsFunc over channels; (*Chans).Waits, is, at, Len, Cap, Goes: what only reads. -/
namespace Go.Proofs.Yteffmnohgnmanaa
open Go.RowKit
structure PredC (K : Nat) (cap : Array Value) (p : Ch → Bool) (w : World) : Prop where
  enter : ∀ (args : Array Value) (w' : World), (callFunc K args).run Try.prog w' = .ok (.enter K args) w'
  call : ∀ (x : CM) (w' : World), Fr E0 w w' → x.Rd w' → Calls Try.prog K (#[x.val] ++ cap) w' (Ret (.bool (p x.ch)) E0 w')
set_option maxHeartbeats 400000 in
theorem indexC (A : Option Addr) (n c K : Nat) (cap : Array Value) (p : Ch → Bool) (l : List CM) (w : World) (hl : l.length = n) (hn : n ≤ maxLen) (hp : PredC K cap p w) (hc : RdA w A (l.flatMap CM.cells)) (he : ∀ m ∈ l, m.Rd w) :
    Calls Try.prog 87 #[.slice A n c, .func (.func K) #[] cap] w (Ret (.int .i64 (idxv (fun m => p m.ch) l)) E0 w) := by
  unfold maxLen at hn
  have hK := hp.enter
  go_enter Try.func87, Try.ntmps87
  go_wp2
  go_loopw [8] (fun i wr => ∃ k : Nat, k ≤ n ∧ i = .int .i64 k ∧ Fr E0 w wr ∧ ∀ j, j < k → ∀ x : CM, l[j]? = some x → p x.ch = false) (fun i _ => n - (intOf i).toNat)
  case atStart => exact ⟨0, Nat.zero_le _, rfl, Fr.refl, fun j hj => absurd hj (by omega)⟩
  case round =>
    obtain ⟨k, hk, rfl, hf, hno⟩ := hrel
    have H := hid hno; clear hno
    by_cases hlt : k < n
    · obtain ⟨x, hx⟩ : ∃ x, l[k]? = some x := ⟨l[k], List.getElem?_eq_getElem (by omega)⟩
      obtain ⟨b, o, rfl, hr⟩ := hc.cmAt hx
      obtain ⟨g0, g1, g2, g3, g4⟩ := (hr.fr hf (fun x => x)).cm hx
      have HR := hid ((he x (List.mem_of_getElem? hx)).fr hf)
      clear hr hc he
      go_wp2_with fail
      refine (hp.call x wr hf HR.out).mono ?_
      rintro e w1 ⟨rfl, hf1⟩
      have F1 := hid (hf.trans hf1)
      clear hf hf1
      cases hpx : p x.ch with
      | true =>
        have HX := hid hpx; clear hpx
        go_wp2
        go_ret
        exact ⟨by rw [idxv_hit (p := fun m : CM => p m.ch) hx HX.out H.out]; rfl, F1.out⟩
      | false =>
        have HX := hid hpx; clear hpx
        go_wp2
        go_roundw
        case rel => exact ⟨k + 1, by omega, by go_num, F1.out, miss_succ (p := fun m : CM => p m.ch) hx HX.out H.out⟩
        case measure => simp [intOf]; omega
    · have F := hid hf
      go_wp2
      go_ret
      exact ⟨by rw [idxv_miss (by omega) H.out]; rfl, F.out⟩
set_option maxHeartbeats 400000 in
theorem containsC (A : Option Addr) (n c K : Nat) (cap : Array Value) (p : Ch → Bool) (l : List CM) (w : World) (hl : l.length = n) (hn : n ≤ maxLen) (hp : PredC K cap p w) (hc : RdA w A (l.flatMap CM.cells)) (he : ∀ m ∈ l, m.Rd w) :
    Calls Try.prog 71 #[.slice A n c, .func (.func K) #[] cap] w (Ret (.bool ((chs l).any p)) E0 w) := by
  have hi := idxv_any (fun m : CM => p m.ch) l
  have e : (chs l).any p = l.any (fun m => p m.ch) := by unfold chs; rw [List.any_map]; rfl
  rw [e]
  generalize l.any (fun m => p m.ch) = r at *
  clear e
  go_enter Try.func71, Try.ntmps71
  go_wp2_with (go_at_call 87; refine (indexC A n c K cap p l w hl hn hp hc he).mono ?_; rintro e w1 ⟨rfl, hf1⟩; have F1 := hid hf1; clear hf1)
  go_ret
  exact ⟨by rfl, F1.out⟩

def waitsCh (gs gg : Int) (c : Ch) : Bool := c.snd.any (isG gs gg) || c.rcv.any (isG gs gg)
set_option maxHeartbeats 400000 in
theorem waits2 (B D : Nat) (x : CM) (gs gg : Int) (w : World) (hB : BoxG B gs gg w) (hD : w.cell? ⟨D, 0, none⟩ = some (.func (.func 70) #[] #[.pointer (some ⟨B, 0, none⟩)])) (hx : x.Rd w) :
    Calls Try.prog 72 (#[x.val] ++ #[.pointer (some ⟨D, 0, none⟩)]) w (Ret (.bool (waitsCh gs gg x.ch)) E0 w) := by
  obtain ⟨ch, vv, sv, rv⟩ := x
  obtain ⟨h1, h2, h3⟩ := hx
  obtain ⟨A2, n2, c2, rfl, hl2, hc2, hm2, hr2⟩ := h2
  obtain ⟨A3, n3, c3, rfl, hl3, hc3, hm3, hr3⟩ := h3
  have hm2 := Nat.le_trans hc2 hm2
  have hm3 := Nat.le_trans hc3 hm3
  simp only at *
  have hl2' : ch.snd.length = n2 := by rw [wts_len] at hl2; omega
  have hl3' : ch.rcv.length = n3 := by rw [wts_len] at hl3; omega
  have hDl := World.block_lt_of_cell? w _ hD
  have hBl := hB.lt
  simp only [CM.val, waitsCh]
  have P0 := hid hB
  clear hB
  cases hs : ch.snd.any (isG gs gg) with
  | true =>
    have HS := hid hs; clear hs
    simp only [Bool.true_or]
    go_enter Try.func72, Try.ntmps72
    go_wp2_with fail
    rw [← HS.out]
    refine (containsW A2 n2 c2 70 _ (isG gs gg) ch.snd _ hl2' hm2 (predWaits ((P0.out).fr (S := E0) (Fr.refl.alloc _) (fun x => x)) (fun x => x)) (hr2.fr (Fr.refl.alloc _))).mono ?_
    rintro e w1 ⟨rfl, hf1⟩
    rw [HS.out]
    have F1 := hid ((Fr.refl.alloc _).trans hf1); clear hf1
    go_wp2
    go_ret
    exact ⟨by rfl, F1.out⟩
  | false =>
    have HS := hid hs; clear hs
    simp only [Bool.false_or]
    go_enter Try.func72, Try.ntmps72
    go_wp2_with fail
    refine (containsW A2 n2 c2 70 _ (isG gs gg) ch.snd _ hl2' hm2 (predWaits ((P0.out).fr (S := E0) (Fr.refl.alloc _) (fun x => x)) (fun x => x)) (hr2.fr (Fr.refl.alloc _))).mono ?_
    rintro e w1 ⟨rfl, hf1⟩
    rw [HS.out]
    have g1 : w1.cell? ⟨w.heap.size, 3, none⟩ = some (.slice A3 n3 c3) := hf1.cell (by rw [World.cell?_alloc_at _ _ _ _ rfl]; rfl) (fun x => x)
    have g2 : w1.cell? ⟨D, 0, none⟩ = some (.func (.func 70) #[] #[.pointer (some ⟨B, 0, none⟩)]) := hf1.cell (by rw [World.cell?_alloc_past _ _ _ hDl]; exact hD) (fun x => x)
    have F1 := hid ((Fr.refl.alloc _).trans hf1); clear hf1
    go_wp2_with fail
    refine (containsW A3 n3 c3 70 _ (isG gs gg) ch.rcv _ hl3' hm3 (predWaits ((P0.out).fr (S := E0) F1.out (fun x => x)) (fun x => x)) (hr3.fr F1.out)).mono ?_
    rintro e w2 ⟨rfl, hf2⟩
    have F2 := hid (F1.out.trans hf2); clear hf2
    go_wp2
    go_ret
    exact ⟨by rfl, F2.out⟩
end Go.Proofs.Yteffmnohgnmanaa
/- (*Chans).is, at, Waits, Len, Cap, Goes: what only reads. -/
namespace Go.Proofs.Yteffmnohgnmanaa
open Go.RowKit
/-- The channels at g, as they are read. -/
structure RdCh (w : World) (g : Nat) (A : Option Addr) (c : Nat) (ms : List CM) : Prop where
  made : w.cell? ⟨g, 0, none⟩ = some (.bool true)
  list : w.cell? ⟨g, 1, none⟩ = some (.slice A ms.length c)
  le : ms.length ≤ maxLen
  row : RdA w A (ms.flatMap CM.cells)
  each : ∀ m ∈ ms, m.Rd w
theorem RdCh.fr {w w' : World} {g : Nat} {A : Option Addr} {c : Nat} {ms : List CM} (h : RdCh w g A c ms) (hf : Fr E0 w w') : RdCh w' g A c ms :=
  ⟨hf.cell h.made (fun x => x), hf.cell h.list (fun x => x), h.le, h.row.fr hf, fun m hm => (h.each m hm).fr hf⟩

theorem is_none (w : World) : Calls Try.prog 53 #[.pointer none] w (Ret (.bool false) E0 w) := by
  go_enter Try.func53, Try.ntmps53
  go_wp2
  go_ret
  exact ⟨rfl, Fr.refl⟩
theorem is_made {w : World} {g : Nat} (h : w.cell? ⟨g, 0, none⟩ = some (.bool true)) : Calls Try.prog 53 #[.pointer (some ⟨g, 0, none⟩)] w fun e w' => e = .returned (.bool true) ∧ w = w' := by
  go_enter Try.func53, Try.ntmps53
  go_wp2
  go_ret
  exact ⟨rfl, rfl⟩
def tup2 (a b : Value) : Value := .tuple #[a, b]
set_option maxHeartbeats 400000 in
theorem at_none (ch : Int) (w : World) : Calls Try.prog 54 #[.pointer none, .int .i64 ch] w fun e w' => e = .returned (tup2 (.pointer none) (.int .i64 4)) ∧ w = w' := by
  go_enter Try.func54, Try.ntmps54
  go_wp2
  go_ret2
  exact ⟨rfl, rfl⟩
set_option maxHeartbeats 400000 in
theorem at_out {w : World} {g : Nat} {A : Option Addr} {c : Nat} {ms : List CM} (h : RdCh w g A c ms) (ch : Int) (hch : ch < 0 ∨ (ms.length : Int) < ch) :
    Calls Try.prog 54 #[.pointer (some ⟨g, 0, none⟩), .int .i64 ch] w fun e w' => e = .returned (tup2 (.pointer none) (.int .i64 4)) ∧ w = w' := by
  obtain ⟨h1, h2, h3, _, _⟩ := h
  unfold maxLen at h3
  rcases hch with hch | hch
  · go_enter Try.func54, Try.ntmps54
    go_wp2
    go_ret2
    exact ⟨rfl, rfl⟩
  · have h0 : ¬ ch < 0 := by omega
    go_enter Try.func54, Try.ntmps54
    go_wp2
    go_ret2
    exact ⟨rfl, rfl⟩
set_option maxHeartbeats 400000 in
theorem at_zero {w : World} {g : Nat} {A : Option Addr} {c : Nat} {ms : List CM} (h : RdCh w g A c ms) :
    Calls Try.prog 54 #[.pointer (some ⟨g, 0, none⟩), .int .i64 0] w fun e w' => e = .returned (tup2 (.pointer none) (.int .i64 0)) ∧ w = w' := by
  obtain ⟨h1, h2, h3, _, _⟩ := h
  unfold maxLen at h3
  go_enter Try.func54, Try.ntmps54
  go_wp2
  go_ret2
  exact ⟨rfl, rfl⟩
set_option maxHeartbeats 400000 in
theorem at_in {w : World} {g b o : Nat} {c : Nat} {ms : List CM} (h : RdCh w g (some ⟨b, o, none⟩) c ms) (k : Nat) (hk : k < ms.length) :
    Calls Try.prog 54 #[.pointer (some ⟨g, 0, none⟩), .int .i64 ((k : Int) + 1)] w fun e w' => e = .returned (tup2 (.pointer (some ⟨b, o + k * 5, none⟩)) (.int .i64 0)) ∧ w = w' := by
  obtain ⟨h1, h2, h3, _, _⟩ := h
  unfold maxLen at h3
  have h0 : ¬ (k : Int) + 1 < 0 := by omega
  have h4 : ¬ (ms.length : Int) < (k : Int) + 1 := by omega
  have h5 : ((k : Int) + 1 == 0) = false := by simp; omega
  go_enter Try.func54, Try.ntmps54
  go_wp2
  go_ret2
  exact ⟨rfl, rfl⟩
set_option maxHeartbeats 400000 in
theorem waits_none (gs gg : Int) (w : World) : Calls Try.prog 31 #[.pointer none, .agg #[.int .i64 gs, .int .i64 gg]] w (Ret (.bool false) E0 w) := by
  go_enter Try.func31, Try.ntmps31
  go_wp2
  go_ret
  exact ⟨rfl, Fr.refl.alloc _⟩
def waitsL (gs gg : Int) (l : List Ch) : Bool := l.any (waitsCh gs gg)
theorem predC {B D : Nat} {gs gg : Int} {w : World} (hB : BoxG B gs gg w) (hD : w.cell? ⟨D, 0, none⟩ = some (.func (.func 70) #[] #[.pointer (some ⟨B, 0, none⟩)])) : PredC 72 #[.pointer (some ⟨D, 0, none⟩)] (waitsCh gs gg) w :=
  ⟨enters 72 (by kernel_rfl), fun x w' hf hx => waits2 B D x gs gg w' (hB.fr hf (fun x => x)) (hf.cell hD (fun x => x)) hx⟩
set_option maxHeartbeats 400000 in
theorem waits_ok {w : World} {g : Nat} {A : Option Addr} {c : Nat} {ms : List CM} (h : RdCh w g A c ms) (gs gg : Int) :
    Calls Try.prog 31 #[.pointer (some ⟨g, 0, none⟩), .agg #[.int .i64 gs, .int .i64 gg]] w (Ret (.bool (waitsL gs gg (chs ms))) E0 w) := by
  have hh := hid h
  obtain ⟨h1, h2, h3, h4, h5⟩ := h
  have hg := World.block_lt_of_cell? w _ h1
  simp only at hg
  have hne : ¬ w.heap.size = g := by omega
  clear h4 h5
  go_enter Try.func31, Try.ntmps31
  go_wp2_with (go_at_call 53; go_in)
  have F0 : Fr E0 w ((w.alloc (.cells #[.int .i64 gs, .int .i64 gg] 37)).alloc (.cells #[.func (.func 70) #[] #[.pointer (some ⟨w.heap.size, 0, none⟩)]] 130)) := (Fr.refl.alloc _).alloc _
  have hB : BoxG w.heap.size gs gg ((w.alloc (.cells #[.int .i64 gs, .int .i64 gg] 37)).alloc (.cells #[.func (.func 70) #[] #[.pointer (some ⟨w.heap.size, 0, none⟩)]] 130)) :=
    ⟨by rw [World.cell?_alloc_past _ _ _ (by simp), World.cell?_alloc_at _ _ _ _ rfl]; rfl, by rw [World.cell?_alloc_past _ _ _ (by simp), World.cell?_alloc_at _ _ _ _ rfl]; rfl⟩
  have hD : ((w.alloc (.cells #[.int .i64 gs, .int .i64 gg] 37)).alloc (.cells #[.func (.func 70) #[] #[.pointer (some ⟨w.heap.size, 0, none⟩)]] 130)).cell? ⟨w.heap.size + 1, 0, none⟩ =
      some (.func (.func 70) #[] #[.pointer (some ⟨w.heap.size, 0, none⟩)]) := by rw [World.cell?_alloc_at _ _ _ _ (by simp)]; rfl
  refine (containsC A ms.length c 72 _ (waitsCh gs gg) ms _ rfl h3 (predC hB hD) (hh.out.row.fr F0) (fun m hm => (hh.out.each m hm).fr F0)).mono ?_
  rintro e w1 ⟨rfl, hf1⟩
  have F1 := hid (F0.trans hf1)
  clear hf1 F0 hB hD
  go_wp2
  go_ret
  exact ⟨rfl, F1.out⟩
end Go.Proofs.Yteffmnohgnmanaa
/- One channel more behind a list of channels; (*Chans).State. -/
namespace Go.Proofs.Yteffmnohgnmanaa
open Go.RowKit
theorem info67 : (Try.prog.info? 67).map (fun i => (i.zero, i.size, i.bytes)) = some (some (.agg #[.int .i64 0, .slice none 0 0, .slice none 0 0, .slice none 0 0, .bool false]), 5, 88) := by kernel_rfl
theorem OwnCs.push {w w1 : World} {F : Nat → Prop} {v v' : Value} {n : Nat} {ms : List CM} {m : CM} (h : OwnCs w F v ms) (hm : m.Own w F) (hnd : m.blocks.Nodup) (hdis : ∀ g ∈ m.blocks, ∀ q ∈ ms, g ∉ q.blocks)
    (hrow : w1.ownsRow 0 67 5 v' n (ms.flatMap CM.cells ++ m.cells)) (hg : w.grownBy w1 v.ownBlock) (hat : v'.ownBlock = v.ownBlock ∨ v'.ownBlock = some w.heap.size) (hF : F w.heap.size) : OwnCs w1 F v' (ms ++ [m]) := by
  have hsame : ∀ q : CM, q.Own w F → ∀ g ∈ q.blocks, w1.heap[g]? = w.heap[g]? := by
    intro q hq g hgq
    obtain ⟨_, hlt, cur, e, he, hne⟩ := hq.mem hgq
    refine hg.block g hlt (fun hx => ?_)
    obtain ⟨c2, h2⟩ := h.row.heap hx.symm
    rw [he] at h2; injection h2 with h2; injection h2 with _ h2 _; exact hne h2
  refine ⟨?_, ?_, ?_⟩
  · have := RowF.appended (F := F) hrow hat h.row.2 hF
    rw [List.flatMap_append]; simpa using this
  · intro q hq
    rcases List.mem_append.1 hq with hq | hq
    · exact (h.each q hq).same (hsame q (h.each q hq))
    · simp at hq; subst hq; exact hm.same (hsame q hm)
  · rw [List.flatMap_append, List.nodup_append]
    refine ⟨h.apart, by simpa using hnd, ?_⟩
    intro a ha b hb e
    subst e
    obtain ⟨q, hq, hq'⟩ := List.mem_flatMap.1 ha
    simp at hb
    exact hdis a hb q hq hq'
theorem cm_oneCell {w : World} {F : Nat → Prop} {m : CM} (h : m.Own w F) : ∀ u ∈ m.cells, u.oneCell' = true := by
  intro u hu
  obtain ⟨A1, n1, c1, e1⟩ := h.vals.shape
  obtain ⟨A2, n2, c2, e2⟩ := h.snd.shape
  obtain ⟨A3, n3, c3, e3⟩ := h.rcv.shape
  simp only [CM.cells, List.mem_cons, List.not_mem_nil, or_false] at hu
  rcases hu with rfl | rfl | rfl | rfl | rfl
  · rfl
  · rw [e1]; rfl
  · rw [e2]; rfl
  · rw [e3]; rfl
  · rfl
/-- A call that makes channels anew. -/
def MadeCs (l : List Ch) (w : World) (en : Ending) (w' : World) : Prop := ∃ v ms, en = .returned v ∧ chs ms = l ∧ OwnCs w' (New w) v ms ∧ Fr E0 w w'
theorem chs_push (ms : List CM) (m : CM) : chs (ms ++ [m]) = chs ms ++ [m.ch] := by simp [chs]
theorem state_none (w : World) : Calls Try.prog 29 #[.pointer none] w (MadeCs [] w) := by
  go_enter Try.func29, Try.ntmps29
  go_wp2
  go_ret
  exact ⟨_, [], rfl, rfl, OwnCs.nil, Fr.refl⟩
theorem RowF.val {w : World} {F : Nat → Prop} {e sz : Nat} {v : Value} {xs : List Value} (h : RowF w F e sz v xs) : v.oneCell' = true := by
  obtain ⟨A, n, c, rfl⟩ := h.shape; rfl
set_option maxHeartbeats 1000000 in
theorem state_ok {w : World} {g : Nat} {A : Option Addr} {c : Nat} {ms : List CM} (h : RdCh w g A c ms) (hfit : ∀ m ∈ ms, m.ch.Fit) (hn : ms.length ≤ 1024) :
    Calls Try.prog 29 #[.pointer (some ⟨g, 0, none⟩)] w (MadeCs (chs ms) w) := by
  have hh := hid h
  obtain ⟨h1, h2, h3, _, _⟩ := h
  obtain ⟨i0, hi0, hz0, hz1, hz2⟩ := info_parts info67
  have hg := World.block_lt_of_cell? w _ h1
  go_enter Try.func29, Try.ntmps29
  go_wp2_with (go_at_call 53; go_in)
  go_loopw [3, 14] (fun v i wr => ∃ (k : Nat) (ms' : List CM), i = .int .i64 k ∧ k ≤ ms.length ∧ OwnCs wr (New w) v ms' ∧ chs ms' = (chs ms).take k ∧ Fr E0 w wr) (fun _ i _ => ms.length - (intOf i).toNat)
  case atStart => exact ⟨0, [], rfl, Nat.zero_le _, OwnCs.nil, rfl, Fr.refl⟩
  case round =>
    obtain ⟨k, ms', rfl, hk, hown, htk, hfr⟩ := hrel
    have HO := hid hown
    have HT := hid htk
    have HF := hid hfr
    clear hown htk hfr
    by_cases hlt : k < ms.length
    · obtain ⟨m, hm⟩ : ∃ m, ms[k]? = some m := ⟨ms[k], List.getElem?_eq_getElem hlt⟩
      obtain ⟨b, o, rfl, hr⟩ := hh.out.row.cmAt hm
      obtain ⟨g0, g1, g2, g3, g4⟩ := (hr.fr HF.out (fun x => x)).cm hm
      have HM := hid hm
      have HMR := hid ((hh.out.each m (List.mem_of_getElem? hm)).fr HF.out)
      have hmf := hfit m (List.mem_of_getElem? hm)
      have hml : ms'.length = k := by have := congrArg List.length HT.out; rw [chs_len, List.length_take, chs_len] at this; omega
      obtain ⟨A1, n1, c1, e1, _⟩ := HMR.out.vals
      obtain ⟨A2, n2, c2, e2, _⟩ := HMR.out.snd
      obtain ⟨A3, n3, c3, e3, _⟩ := HMR.out.rcv
      obtain ⟨ch, vv, sv, rv⟩ := m
      simp only at e1 e2 e3
      subst e1 e2 e3
      simp only at g0 g1 g2 g3 g4
      clear hr hm
      go_wp2_with fail
      refine (own_ok _ _ (HMR.out.fr (Fr.refl.alloc _)) hmf).mono ?_
      rintro e w1 ⟨⟨ch', v1, v2, v3⟩, rfl, hch, hown1, hnd1, hf1⟩
      simp only at hch
      have hch := hch.symm
      subst hch
      obtain ⟨B1, p1, q1, e1⟩ := hown1.vals.shape
      obtain ⟨B2, p2, q2, e2⟩ := hown1.snd.shape
      obtain ⟨B3, p3, q3, e3⟩ := hown1.rcv.shape
      simp only at e1 e2 e3
      subst e1 e2 e3
      have hsz : w.heap.size ≤ wr.heap.size := HF.out.size
      have FB := hid ((Fr.refl (S := E0) (w := wr)).alloc (.cells #[.int .i64 ch.cap, .slice A1 n1 c1, .slice A2 n2 c2, .slice A3 n3 c3, .bool ch.cl] 67))
      have FC := hid (FB.out.trans hf1)
      have O1 := hid (HO.out.fr FC.out (fun _ _ x => x))
      have M1 := hid (hown1.mono (F' := New w) (fun q hq => by unfold New at *; simp at hq; omega))
      have hdis : Hid (∀ q ∈ (CM.mk ch (.slice B1 p1 q1) (.slice B2 p2 q2) (.slice B3 p3 q3)).blocks, ∀ z ∈ ms', q ∉ z.blocks) := fun q hq z hz hqz => by
        have x1 := (hown1.mem hq).1
        have x2 := ((HO.out.each z hz).mem hqz).2.1
        unfold New at x1; simp at x1; omega
      have FD := hid ((Fr.refl (S := E0) (w := w1)).alloc (.cells #[.int .i64 ch.cap, .slice B1 p1 q1, .slice B2 p2 q2, .slice B3 p3 q3, .bool ch.cl] 67))
      have O2 := hid (O1.out.fr FD.out (fun _ _ x => x))
      have M2 := hid (M1.out.fr FD.out (fun _ _ x => x))
      have hone := hid (cm_oneCell M1.out)
      have hND := hid hnd1
      have hs1 : w.heap.size ≤ w1.heap.size := Nat.le_trans hsz FC.out.size
      clear hown1 hf1 g0 g1 g2 g3 g4 hnd1
      simp only [CM.val]
      go_wp2_with (at_builtin; (refine wpList_append_own_at _ rfl (.tmp 18) (.tmp 21) 52 rfl 0 67 i0 (.agg #[.int .i64 0, .slice none 0 0, .slice none 0 0, .slice none 0 0, .bool false]) 5 88 Try.underlying52 hi0 hz0 hz1 hz2 rfl (by decide) u3 ms'.length (ms'.flatMap CM.cells) rfl (O2.out.row.own (by decide) (cms_len ms')) ⟨w1.heap.size, 0, none⟩ 1 1 [.int .i64 ch.cap, .slice B1 p1 q1, .slice B2 p2 q2, .slice B3 p3 q3, .bool ch.cl] rfl rfl (World.news_of_block (heap_alloc_new w1 _)) hone.out (by unfold maxLen; omega) (by omega) (Nat.zero_le _) ?_); intro v' w2 hown2 hgrow2 hnil2 hat2)
      have O3 := hid (O2.out.push M2.out hND.out hdis.out hown2 hgrow2 hat2 (by unfold New; simp; omega))
      have F3 := hid ((HF.out.trans (FC.out.trans FD.out)).grown hgrow2 (fun q hq => .inr (O2.out.row.2 q hq)))
      clear hown2 hgrow2 hnil2 hat2
      go_wp2
      go_roundw
      case rel => exact ⟨k + 1, _, by simp, by omega, O3.out, by rw [chs_push, HT.out, List.take_add_one, chs_get HM.out]; rfl, F3.out⟩
      case measure => simp [intOf]; omega
    · obtain rfl : k = ms.length := by omega
      clear hlt hk hfit
      go_wp2_with fail
      go_ret
      exact ⟨_, _, rfl, by rw [HT.out, ← chs_len, List.take_length], HO.out, HF.out⟩
end Go.Proofs.Yteffmnohgnmanaa
/- (*Chans).Len, Cap, Goes. -/
namespace Go.Proofs.Yteffmnohgnmanaa
open Go.RowKit
/-- The channel of a handle. -/
def getC (l : List Ch) (ch : Int) : Option Ch := if 1 ≤ ch then l[(ch - 1).toNat]? else none
/-- Why a handle is none; nil is no trap here. -/
def trapC (l : List Ch) (ch : Int) : Int := if ch = 0 then 0 else match getC l ch with | some _ => 0 | none => 4
theorem getC_in {l : List Ch} {k : Nat} {c : Ch} (h : l[k]? = some c) : getC l ((k : Int) + 1) = some c := by
  unfold getC; rw [if_pos (by omega)]; have e : ((k : Int) + 1 - 1).toNat = k := by omega
  rw [e, h]
theorem trapC_in {l : List Ch} {k : Nat} {c : Ch} (h : l[k]? = some c) : trapC l ((k : Int) + 1) = 0 := by
  unfold trapC; rw [getC_in h]; simp
theorem getC_out {l : List Ch} {ch : Int} (h : ch < 0 ∨ (l.length : Int) < ch) : getC l ch = none := by
  unfold getC
  rcases h with h | h
  · rw [if_neg (by omega)]
  · split
    · exact List.getElem?_eq_none (by omega)
    · rfl
theorem trapC_out {l : List Ch} {ch : Int} (h : ch < 0 ∨ (l.length : Int) < ch) : trapC l ch = 4 := by
  unfold trapC; rw [getC_out h, if_neg (by omega)]
theorem getC_zero {l : List Ch} : getC l 0 = none := rfl
theorem trapC_zero {l : List Ch} : trapC l 0 = 0 := rfl
/-- A handle is out, nil, or a channel's. -/
theorem handle (ms : List CM) (ch : Int) : (ch < 0 ∨ (ms.length : Int) < ch) ∨ ch = 0 ∨ ∃ (k : Nat) (m : CM), ch = (k : Int) + 1 ∧ ms[k]? = some m := by
  by_cases h1 : ch < 0 ∨ (ms.length : Int) < ch
  · exact .inl h1
  · by_cases h2 : ch = 0
    · exact .inr (.inl h2)
    · exact .inr (.inr ⟨(ch - 1).toNat, ms[(ch - 1).toNat]'(by omega), by omega, List.getElem?_eq_getElem (by omega)⟩)
def lenL (l : List Ch) (ch : Int) : Int := match getC l ch with | some c => c.vals.length | none => 0
def capL (l : List Ch) (ch : Int) : Int := match getC l ch with | some c => c.cap | none => 0
def goesC (c : Ch) (send : Bool) : Bool := if c.cl then true else if send then decide (0 < c.rcv.length) || decide ((c.vals.length : Int) < c.cap) else decide (0 < c.vals.length) || decide (0 < c.snd.length)
def goesL (l : List Ch) (ch : Int) (send : Bool) : Bool := match getC l ch with | some c => goesC c send | none => false

set_option maxHeartbeats 400000 in
theorem len_ok {w : World} {g : Nat} {A : Option Addr} {c : Nat} {ms : List CM} (h : RdCh w g A c ms) (ch : Int) :
    Calls Try.prog 25 #[.pointer (some ⟨g, 0, none⟩), .int .i64 ch] w fun e w' => e = .returned (tup2 (.int .i64 (lenL (chs ms) ch)) (.int .i64 (trapC (chs ms) ch))) ∧ w = w' := by
  rcases handle ms ch with hc | rfl | ⟨k, m, rfl, hk⟩
  · have e1 : lenL (chs ms) ch = 0 := by unfold lenL; rw [getC_out (by rw [chs_len]; exact hc)]
    have e2 : trapC (chs ms) ch = 4 := trapC_out (by rw [chs_len]; exact hc)
    rw [e1, e2]; clear e1 e2
    go_enter Try.func25, Try.ntmps25
    go_wp2_with (go_at_call 54; refine (at_out h ch hc).mono ?_; rintro e w1 ⟨rfl, rfl⟩; simp only [tup2])
    go_ret2
    exact ⟨rfl, rfl⟩
  · rw [show lenL (chs ms) 0 = 0 from rfl, show trapC (chs ms) 0 = 0 from rfl]
    go_enter Try.func25, Try.ntmps25
    go_wp2_with (go_at_call 54; refine (at_zero h).mono ?_; rintro e w1 ⟨rfl, rfl⟩; simp only [tup2])
    go_ret2
    exact ⟨rfl, rfl⟩
  · have e1 : lenL (chs ms) ((k : Int) + 1) = m.ch.vals.length := by unfold lenL; rw [getC_in (chs_get hk)]
    rw [e1, trapC_in (chs_get hk)]; clear e1
    obtain ⟨b, o, rfl, hr⟩ := h.row.cmAt hk
    obtain ⟨g0, g1, g2, g3, g4⟩ := hr.cm hk
    have hlt := lt_of_get hk
    have hm := h.each m (List.mem_of_getElem? hk)
    obtain ⟨⟨ccap, vals, snd, rcv, cl⟩, vv, sv, rv⟩ := m
    obtain ⟨A1, n1, c1, rfl, hl1, hc1, hm1, hr1⟩ := hm.vals
    simp only at *
    have hl1' : vals.length = n1 := by rw [ints_len] at hl1; omega
    rw [hl1']
    have hn1 : n1 ≤ 2 ^ 63 - 1 := Nat.le_trans hc1 hm1
    clear hm hl1 hl1' hr1 hr
    go_enter Try.func25, Try.ntmps25
    go_wp2_with (go_at_call 54; refine (at_in h k hlt).mono ?_; rintro e w1 ⟨rfl, rfl⟩; simp only [tup2])
    go_ret2
    exact ⟨rfl, rfl⟩
set_option maxHeartbeats 400000 in
theorem cap_ok {w : World} {g : Nat} {A : Option Addr} {c : Nat} {ms : List CM} (h : RdCh w g A c ms) (ch : Int) (hb : ∀ m ∈ ms, 0 ≤ m.ch.cap ∧ m.ch.cap ≤ 1024) :
    Calls Try.prog 68 #[.pointer (some ⟨g, 0, none⟩), .int .i64 ch] w fun e w' => e = .returned (tup2 (.int .i64 (capL (chs ms) ch)) (.int .i64 (trapC (chs ms) ch))) ∧ w = w' := by
  rcases handle ms ch with hc | rfl | ⟨k, m, rfl, hk⟩
  · have e1 : capL (chs ms) ch = 0 := by unfold capL; rw [getC_out (by rw [chs_len]; exact hc)]
    have e2 : trapC (chs ms) ch = 4 := trapC_out (by rw [chs_len]; exact hc)
    rw [e1, e2]; clear e1 e2
    go_enter Try.func68, Try.ntmps68
    go_wp2_with (go_at_call 54; refine (at_out h ch hc).mono ?_; rintro e w1 ⟨rfl, rfl⟩; simp only [tup2])
    go_ret2
    exact ⟨rfl, rfl⟩
  · rw [show capL (chs ms) 0 = 0 from rfl, show trapC (chs ms) 0 = 0 from rfl]
    go_enter Try.func68, Try.ntmps68
    go_wp2_with (go_at_call 54; refine (at_zero h).mono ?_; rintro e w1 ⟨rfl, rfl⟩; simp only [tup2])
    go_ret2
    exact ⟨rfl, rfl⟩
  · have e1 : capL (chs ms) ((k : Int) + 1) = m.ch.cap := by unfold capL; rw [getC_in (chs_get hk)]
    rw [e1, trapC_in (chs_get hk)]; clear e1
    obtain ⟨b, o, rfl, hr⟩ := h.row.cmAt hk
    obtain ⟨g0, g1, g2, g3, g4⟩ := hr.cm hk
    have hlt := lt_of_get hk
    obtain ⟨hb1, hb2⟩ := hb m (List.mem_of_getElem? hk)
    clear hr
    go_enter Try.func68, Try.ntmps68
    go_wp2_with (go_at_call 54; refine (at_in h k hlt).mono ?_; rintro e w1 ⟨rfl, rfl⟩; simp only [tup2])
    go_ret2
    exact ⟨rfl, rfl⟩
theorem goes_none (ch : Int) (send : Bool) (w : World) : Calls Try.prog 46 #[.pointer none, .int .i64 ch, .bool send] w fun e w' => e = .returned (tup2 (.bool false) (.int .i64 4)) ∧ w = w' := by
  go_enter Try.func46, Try.ntmps46
  go_wp2_with (go_at_call 54; refine (at_none ch w).mono ?_; rintro e w1 ⟨rfl, rfl⟩; simp only [tup2])
  go_ret2
  exact ⟨rfl, rfl⟩
set_option maxHeartbeats 400000 in
theorem goes_ok {w : World} {g : Nat} {A : Option Addr} {c : Nat} {ms : List CM} (h : RdCh w g A c ms) (ch : Int) (send : Bool) :
    Calls Try.prog 46 #[.pointer (some ⟨g, 0, none⟩), .int .i64 ch, .bool send] w (Ret (tup2 (.bool (goesL (chs ms) ch send)) (.int .i64 (trapC (chs ms) ch))) E0 w) := by
  rcases handle ms ch with hc | rfl | ⟨k, m, rfl, hk⟩
  · have e1 : goesL (chs ms) ch send = false := by unfold goesL; rw [getC_out (by rw [chs_len]; exact hc)]
    have e2 : trapC (chs ms) ch = 4 := trapC_out (by rw [chs_len]; exact hc)
    rw [e1, e2]; clear e1 e2
    go_enter Try.func46, Try.ntmps46
    go_wp2_with (go_at_call 54; refine (at_out h ch hc).mono ?_; rintro e w1 ⟨rfl, rfl⟩; simp only [tup2])
    go_ret2
    exact ⟨rfl, Fr.refl⟩
  · rw [show goesL (chs ms) 0 send = false from rfl, show trapC (chs ms) 0 = 0 from rfl]
    go_enter Try.func46, Try.ntmps46
    go_wp2_with (go_at_call 54; refine (at_zero h).mono ?_; rintro e w1 ⟨rfl, rfl⟩; simp only [tup2])
    go_ret2
    exact ⟨rfl, Fr.refl⟩
  · have e1 : goesL (chs ms) ((k : Int) + 1) send = goesC m.ch send := by unfold goesL; rw [getC_in (chs_get hk)]
    rw [e1, trapC_in (chs_get hk)]; clear e1
    obtain ⟨b, o, rfl, hr⟩ := h.row.cmAt hk
    obtain ⟨g0, g1, g2, g3, g4⟩ := hr.cm hk
    have hlt := lt_of_get hk
    have hm := h.each m (List.mem_of_getElem? hk)
    obtain ⟨⟨ccap, vals, snd, rcv, cl⟩, vv, sv, rv⟩ := m
    obtain ⟨A1, n1, c1, rfl, hl1, hc1, hm1, hr1⟩ := hm.vals
    obtain ⟨A2, n2, c2, rfl, hl2, hc2, hm2, hr2⟩ := hm.snd
    obtain ⟨A3, n3, c3, rfl, hl3, hc3, hm3, hr3⟩ := hm.rcv
    simp only at *
    have hl1' : vals.length = n1 := by rw [ints_len] at hl1; omega
    have hl2' : snd.length = n2 := by rw [wts_len] at hl2; omega
    have hl3' : rcv.length = n3 := by rw [wts_len] at hl3; omega
    have hn1 : n1 ≤ 2 ^ 63 - 1 := Nat.le_trans hc1 hm1
    have hn2 : n2 ≤ 2 ^ 63 - 1 := Nat.le_trans hc2 hm2
    have hn3 : n3 ≤ 2 ^ 63 - 1 := Nat.le_trans hc3 hm3
    clear hm hl1 hr1 hl2 hr2 hl3 hr3 hr
    simp only [goesC, hl1', hl2', hl3']
    clear hl1' hl2' hl3'
    cases cl with
    | true =>
      simp only [if_true]
      go_enter Try.func46, Try.ntmps46
      go_wp2_with (go_at_call 54; refine (at_in h k hlt).mono ?_; rintro e w1 ⟨rfl, rfl⟩; simp only [tup2])
      go_ret2
      exact ⟨rfl, Fr.refl⟩
    | false =>
      simp only [Bool.false_eq_true, if_false]
      cases send with
      | true =>
        simp only [if_true]
        by_cases h3 : 0 < n3
        · have h3' : (0 : Int) < (n3 : Int) := by omega
          rw [decide_eq_true h3, Bool.true_or]
          go_enter Try.func46, Try.ntmps46
          go_wp2_with (go_at_call 54; refine (at_in h k hlt).mono ?_; rintro e w1 ⟨rfl, rfl⟩; simp only [tup2])
          go_quiet (fail)
          go_wp2
          go_ret2
          exact ⟨rfl, Fr.refl.drewN _⟩
        · have h3' : decide ((0 : Int) < (n3 : Int)) = false := by simp; omega
          rw [decide_eq_false h3, Bool.false_or]
          go_enter Try.func46, Try.ntmps46
          go_wp2_with (go_at_call 54; refine (at_in h k hlt).mono ?_; rintro e w1 ⟨rfl, rfl⟩; simp only [tup2])
          go_quiet (fail)
          go_wp2
          go_ret2
          exact ⟨rfl, Fr.refl.drewN _⟩
      | false =>
        simp only [Bool.false_eq_true, if_false]
        by_cases h1 : 0 < n1
        · have h1' : (0 : Int) < (n1 : Int) := by omega
          rw [decide_eq_true h1, Bool.true_or]
          go_enter Try.func46, Try.ntmps46
          go_wp2_with (go_at_call 54; refine (at_in h k hlt).mono ?_; rintro e w1 ⟨rfl, rfl⟩; simp only [tup2])
          go_ret2
          exact ⟨rfl, Fr.refl⟩
        · have h1' : ¬ (0 : Int) < (n1 : Int) := by omega
          rw [decide_eq_false h1, Bool.false_or]
          go_enter Try.func46, Try.ntmps46
          go_wp2_with (go_at_call 54; refine (at_in h k hlt).mono ?_; rintro e w1 ⟨rfl, rfl⟩; simp only [tup2])
          go_ret2
          exact ⟨by simp [tup2], Fr.refl⟩
end Go.Proofs.Yteffmnohgnmanaa
/- The object: what (*Chans) keeps; New, Make. -/
namespace Go.Proofs.Yteffmnohgnmanaa
open Go.RowKit
structure Chs (w : World) (F : Nat → Prop) (g : Nat) (v : Value) (ms : List CM) : Prop where
  obj : w.heap[g]? = some (.cells #[.bool true, v] 108 (0, 0))
  mine : F g
  lt : ∀ k, F k → k < w.heap.size
  own : OwnCs w F v ms
/-- The channels l, kept at g, in blocks of F. -/
def IsCh (w : World) (F : Nat → Prop) (g : Nat) (l : List Ch) : Prop := ∃ v ms, Chs w F g v ms ∧ chs ms = l
/-- A call that turns the channels at g into l': blocks of F and new ones. -/
def Step (F : Nat → Prop) (g : Nat) (w : World) (l' : List Ch) (w' : World) : Prop := ∃ F' : Nat → Prop, IsCh w' F' g l' ∧ (∀ k, F' k → F k ∨ w.heap.size ≤ k) ∧ Fr F w w'
namespace Chs
variable {w w' : World} {F S : Nat → Prop} {g : Nat} {v : Value} {ms : List CM}
theorem fr (h : Chs w F g v ms) (hf : Fr S w w') (hs : ∀ k, F k → ¬ S k) : Chs w' F g v ms :=
  ⟨hf.heapAt h.obj (hs g h.mine), h.mine, fun k hk => Nat.lt_of_lt_of_le (h.lt k hk) hf.size, h.own.fr hf hs⟩
theorem made (h : Chs w F g v ms) : w.cell? ⟨g, 0, none⟩ = some (.bool true) := cell_of_row w g 0 _ _ _ h.obj
theorem list (h : Chs w F g v ms) : w.cell? ⟨g, 1, none⟩ = some v := cell_of_row w g 1 _ _ _ h.obj
theorem free (h : Chs w F g v ms) (j : Nat) : w.frozen? ⟨g, j, none⟩ = false := frozen_of_row w g j _ _ h.obj
theorem rd (h : Chs w F g v ms) : ∃ A c, v = .slice A ms.length c ∧ RdCh w g A c ms := by
  obtain ⟨A, c, hv, h3, h4, h5⟩ := h.own.row.read (by decide) (cms_len ms)
  exact ⟨A, c, hv, h.made, hv ▸ h.list, Nat.le_trans h3 h4, h5, fun m hm => (h.own.each m hm).rd⟩
end Chs
theorem OwnCs.setOther {w : World} {F : Nat → Prop} {v u : Value} {ms : List CM} {g j : Nat} {cur : Array Value} {fr : Nat × Nat} (h : OwnCs w F v ms) (ho : w.heap[g]? = some (.cells cur 108 fr)) : OwnCs (w.setCell ⟨g, j, none⟩ u) F v ms := by
  have hs : ∀ k, k ≠ g → (w.setCell ⟨g, j, none⟩ u).heap[k]? = w.heap[k]? := fun k hk => heap_setCell_other _ _ _ _ hk
  refine ⟨h.row.same (fun k hk => hs k ?_), fun m hm => (h.each m hm).same (fun k hk => hs k ?_), h.apart⟩
  · rintro rfl
    obtain ⟨c, hc⟩ := h.row.heap hk
    rw [ho] at hc; injection hc with hc; injection hc with _ hc _; exact absurd hc (by decide)
  · rintro rfl
    have hm' := h.each m hm
    simp only [CM.blocks, List.mem_append, Option.mem_toList] at hk
    rcases hk with hk | hk | hk
    · obtain ⟨c, hc⟩ := hm'.vals.heap hk
      rw [ho] at hc; injection hc with hc; injection hc with _ hc _; exact absurd hc (by decide)
    · obtain ⟨c, hc⟩ := hm'.snd.heap hk
      rw [ho] at hc; injection hc with hc; injection hc with _ hc _; exact absurd hc (by decide)
    · obtain ⟨c, hc⟩ := hm'.rcv.heap hk
      rw [ho] at hc; injection hc with hc; injection hc with _ hc _; exact absurd hc (by decide)
theorem OwnCs.restrict {w : World} {F : Nat → Prop} {v : Value} {ms : List CM} (h : OwnCs w F v ms) : OwnCs w (fun k => F k ∧ k < w.heap.size) v ms :=
  ⟨⟨h.row.1, fun k hk => ⟨h.row.2 k hk, h.row.lt hk⟩⟩, fun m hm => ⟨⟨(h.each m hm).vals.1, fun k hk => ⟨(h.each m hm).vals.2 k hk, (h.each m hm).vals.lt hk⟩⟩, ⟨(h.each m hm).snd.1, fun k hk => ⟨(h.each m hm).snd.2 k hk, (h.each m hm).snd.lt hk⟩⟩, ⟨(h.each m hm).rcv.1, fun k hk => ⟨(h.each m hm).rcv.2 k hk, (h.each m hm).rcv.lt hk⟩⟩⟩, h.apart⟩
def NewPost (w : World) (e : Ending) (w' : World) : Prop := ∃ g, e = .returned (.pointer (some ⟨g, 0, none⟩)) ∧ IsCh w' (fun k => w.heap.size ≤ k ∧ k < w'.heap.size) g [] ∧ Fr E0 w w'
theorem new_ok (w : World) : Calls Try.prog 20 #[] w (NewPost w) := by
  have H : NewPost w (.returned (.pointer (some ⟨w.heap.size, 0, none⟩))) (w.alloc (.cells #[.bool true, .slice none 0 0] 108)) :=
    ⟨w.heap.size, rfl, ⟨.slice none 0 0, [], ⟨heap_alloc_new w _, ⟨Nat.le_refl _, by simp⟩, fun k hk => hk.2, OwnCs.nil⟩, rfl⟩, Fr.refl.alloc _⟩
  have HH := hid H
  clear H
  go_enter Try.func20, Try.ntmps20
  go_wp2
  go_ret
  exact HH.out
/-- Make, as plain data. -/
def makeNo (l : List Ch) (c : Int) : Bool := decide (c < 0) || (decide (1024 < c) || decide (1024 ≤ l.length))
def newCh (c : Int) : Ch := ⟨c, [], [], [], false⟩
theorem make_none (c : Int) (w : World) : Calls Try.prog 22 #[.pointer none, .int .i64 c] w fun e w' => e = .returned (tup2 (.int .i64 0) (.int .i64 4)) ∧ w = w' := by
  go_enter Try.func22, Try.ntmps22
  go_wp2
  go_ret2
  exact ⟨rfl, rfl⟩
def MakePost (F : Nat → Prop) (g : Nat) (l : List Ch) (c : Int) (w : World) (e : Ending) (w' : World) : Prop := e = .returned (tup2 (.int .i64 (l.length + 1)) (.int .i64 0)) ∧ Step F g w (l ++ [newCh c]) w'
theorem hatOf {v : Value} {g n c H H' : Nat} (h : v.ownBlock = some g ∨ g = H) (e : H = H') : (Value.slice (some ⟨g, 0, none⟩) n c).ownBlock = v.ownBlock ∨ (Value.slice (some ⟨g, 0, none⟩) n c).ownBlock = some H' := by
  rcases h with h | h
  · exact .inl h.symm
  · subst h e; exact .inr rfl
theorem pushNew {w w1 : World} {F : Nat → Prop} {g n : Nat} {v v' : Value} {ms : List CM} {c : Int} (h : Chs w F g v ms) (o : Obj) (hrow : w1.ownsRow 0 67 5 v' n (ms.flatMap CM.cells ++ [.int .i64 c, .slice none 0 0, .slice none 0 0, .slice none 0 0, .bool false]))
    (hg : (w.alloc o).grownBy w1 v.ownBlock) (hat : v'.ownBlock = v.ownBlock ∨ v'.ownBlock = some (w.alloc o).heap.size) : Step F g w (chs ms ++ [newCh c]) (w1.setCell ⟨g, 1, none⟩ v') := by
  have h0 := h.fr (Fr.refl (S := E0) |>.alloc o) (fun _ _ x => x)
  have hgl : g < w.heap.size := h.lt g h.mine
  have hng : v.ownBlock ≠ some g := by
    intro hx
    obtain ⟨cur, hc⟩ := h.own.row.heap hx
    rw [h.obj] at hc; injection hc with hc; injection hc with _ hc _; exact absurd hc (by decide)
  have hobj1 : w1.heap[g]? = some (.cells #[.bool true, v] 108 (0, 0)) := by
    rw [hg.block g (by simp; omega) (fun hx => hng hx.symm)]; exact h0.obj
  have hown : OwnCs w1 (fun k => F k ∨ w.heap.size ≤ k) v' (ms ++ [⟨newCh c, .slice none 0 0, .slice none 0 0, .slice none 0 0⟩]) :=
    (h0.own.mono (F' := fun k => F k ∨ w.heap.size ≤ k) (fun k hk => .inl hk)).push ⟨RowF.nil, RowF.nil, RowF.nil⟩ (by simp [CM.blocks, Value.ownBlock]) (fun k hk => by simp [CM.blocks, Value.ownBlock] at hk) hrow hg hat (.inr (by simp))
  have hgs := hg.size
  simp at hgs
  refine ⟨fun k => (F k ∨ w.heap.size ≤ k) ∧ k < w1.heap.size, ⟨v', _, ⟨?_, ⟨.inl h.mine, by omega⟩, fun k hk => by simpa using hk.2, hown.restrict.setOther hobj1⟩, by rw [chs_push]⟩, fun k hk => hk.1, ?_⟩
  · exact heap_setCell_same w1 g 1 _ _ v' hobj1
  · exact (((Fr.refl (S := F) (w := w)).alloc o).grown hg (fun k hk => .inl (h.own.row.2 k hk))).setCell (p := ⟨g, 1, none⟩) v' (.inl h.mine)
set_option maxHeartbeats 1000000 in
theorem make_no {w : World} {F : Nat → Prop} {g : Nat} {v : Value} {ms : List CM} (h : Chs w F g v ms) (c : Int) (hn : ms.length ≤ 1024) (hno : makeNo (chs ms) c = true) :
    Calls Try.prog 22 #[.pointer (some ⟨g, 0, none⟩), .int .i64 c] w fun e w' => e = .returned (tup2 (.int .i64 0) (.int .i64 5)) ∧ w = w' := by
  obtain ⟨A, cp, hv, hrd⟩ := h.rd
  have hm := h.made
  have hl := h.list
  rw [hv] at hl
  by_cases h1 : c < 0
  · clear hrd hno h
    go_enter Try.func22, Try.ntmps22
    go_wp2
    go_ret2
    exact ⟨rfl, rfl⟩
  by_cases h2 : 1024 < c
  · clear hrd hno h
    go_enter Try.func22, Try.ntmps22
    go_wp2
    go_ret2
    exact ⟨rfl, rfl⟩
  have h3 : ms.length = 1024 := by simp [makeNo, h1, h2, chs_len] at hno; omega
  rw [h3] at hl
  clear hrd hno h
  go_enter Try.func22, Try.ntmps22
  go_wp2
  go_ret2
  exact ⟨rfl, rfl⟩
set_option maxHeartbeats 1000000 in
theorem make_ok {w : World} {F : Nat → Prop} {g : Nat} {v : Value} {ms : List CM} (h : Chs w F g v ms) (c : Int) (hn : ms.length ≤ 1024) (hno : makeNo (chs ms) c = false) :
    Calls Try.prog 22 #[.pointer (some ⟨g, 0, none⟩), .int .i64 c] w (MakePost F g (chs ms) c w) := by
  obtain ⟨A, cp, hv, hrd⟩ := h.rd
  have hm := h.made
  have hl := h.list
  rw [hv] at hl
  have h1 : ¬ c < 0 := fun x => by simp [makeNo, x] at hno
  have h2 : ¬ 1024 < c := fun x => by simp [makeNo, x] at hno
  have h3 : ¬ ms.length = 1024 := fun x => by simp [makeNo, x, chs_len] at hno
  clear hno
  obtain ⟨i0, hi0, hz0, hz1, hz2⟩ := info_parts info67
  have h4 : ¬ ((ms.length : Int) == 1024) = true := by simp; omega
  have h4' : ((ms.length : Int) == 1024) = false := by simp; omega
  have hf := h.free 1
  have H := hid h
  have h0 := hid (h.own.fr (Fr.refl (S := E0) |>.alloc (.cells #[.int .i64 c, .slice none 0 0, .slice none 0 0, .slice none 0 0, .bool false] 67)) (fun _ _ x => x))
  have hgl : g < w.heap.size := h.lt g h.mine
  have hng : (Value.slice A ms.length cp).ownBlock ≠ some g := by
    intro hx
    obtain ⟨cur, hc⟩ := h.own.row.heap (hv ▸ hx)
    rw [h.obj] at hc; injection hc with hc; injection hc with _ hc _; exact absurd hc (by decide)
  subst hv
  clear h hrd h4
  go_enter Try.func22, Try.ntmps22
  go_wp2_with (first
    | (go_at_call 53; go_in)
    | (at_builtin; (refine wpList_append_lies _ rfl (.tmp 29) (.tmp 32) 52 rfl 0 67 i0 (.agg #[.int .i64 0, .slice none 0 0, .slice none 0 0, .slice none 0 0, .bool false]) 5 88 Try.underlying52 hi0 hz0 hz1 hz2 rfl (by decide) (.slice A ms.length cp) ms.length (ms.flatMap CM.cells) rfl (h0.out.row.own (by decide) (cms_len ms)) ⟨w.heap.size, 0, none⟩ 1 1 [.int .i64 c, .slice none 0 0, .slice none 0 0, .slice none 0 0, .bool false] rfl rfl (World.news_of_block (heap_alloc_new w _)) (by simp [Value.oneCell']) (by decide) (by unfold maxLen; omega) (by omega) (Nat.zero_le _) (w.heap.size + 1) (by simp) ?_); intro gg cap w2 hown2 hgrow2 hat2 hlt2; have x1 : w2.cell? ⟨g, 1, none⟩ = some (.slice A ms.length cp) := hgrow2.cell (by rw [World.cell?_alloc_past _ _ _ hgl]; exact hl) (fun e => hng e.symm); have x2 : w2.frozen? ⟨g, 1, none⟩ = false := (by rw [hgrow2.frozen_far _ (Nat.lt_of_lt_of_le hgl (by simp)) (fun e => hng e.symm), World.frozen?_alloc_past _ _ _ hgl]; exact hf); have HS := hid (pushNew H.out _ hown2 hgrow2 (hatOf hat2 (by simp))); clear hown2 hgrow2 hat2))
  go_ret2
  exact ⟨by rw [chs_len]; rfl, HS.out⟩
end Go.Proofs.Yteffmnohgnmanaa
/- One of a channel's rows is another one now: what that leaves of the channels. -/
namespace Go.Proofs.Yteffmnohgnmanaa
open Go.RowKit
theorem nodup_of_flat {α : Type} {f : α → List Nat} {l : List α} {x : α} (h : (l.flatMap f).Nodup) (hx : x ∈ l) : (f x).Nodup := by
  induction l with
  | nil => simp at hx
  | cons y l ih =>
    rw [List.flatMap_cons, List.nodup_append] at h
    rcases List.mem_cons.1 hx with rfl | hx
    · exact h.1
    · exact ih h.2.1 hx
theorem Chs.put {w w1 : World} {F F' S : Nat → Prop} {i j L n c g : Nat} {ms : List CM} {m m' : CM} {u : Value} (h : Chs w F g (.slice (some ⟨L, 0, none⟩) n c) ms) (hi : ms[i]? = some m) (hj : j < 5) (hcell : m'.cells = m.cells.set j u)
    (hfr : Fr S w w1) (hS : ∀ k, S k → k ∈ m.blocks ∨ w.heap.size ≤ k) (hF : ∀ k, F k → F' k) (hF' : ∀ k, F' k → k < w1.heap.size) (hown : m'.Own w1 F') (hbl : ∀ k ∈ m'.blocks, k ∈ m.blocks ∨ w.heap.size ≤ k) (hnd : m'.blocks.Nodup) :
    Chs (w1.setCell ⟨L, i * 5 + j, none⟩ u) F' g (.slice (some ⟨L, 0, none⟩) n c) (ms.set i m') := by
  have hgl := heap_lt h.obj
  have hgS : ¬ S g := by
    intro hs
    rcases hS g hs with hs | hs
    · have hm := h.own.each m (List.mem_of_getElem? hi)
      simp only [CM.blocks, List.mem_append, Option.mem_toList] at hs
      have ho := h.obj
      rcases hs with hk | hk | hk
      · obtain ⟨c, hc⟩ := hm.vals.heap hk
        rw [ho] at hc; injection hc with hc; injection hc with _ hc _; exact absurd hc (by decide)
      · obtain ⟨c, hc⟩ := hm.snd.heap hk
        rw [ho] at hc; injection hc with hc; injection hc with _ hc _; exact absurd hc (by decide)
      · obtain ⟨c, hc⟩ := hm.rcv.heap hk
        rw [ho] at hc; injection hc with hc; injection hc with _ hc _; exact absurd hc (by decide)
    · omega
  have hgL : g ≠ L := by
    rintro rfl
    obtain ⟨cur, hc⟩ := h.own.row.heap (g := g) rfl
    rw [h.obj] at hc; injection hc with hc; injection hc with _ hc _; exact absurd hc (by decide)
  refine ⟨?_, hF g h.mine, fun k hk => by simpa using hF' k hk, h.own.put hi hj hcell hfr hS hF hown hbl hnd⟩
  rw [heap_setCell_other _ _ _ _ hgL]
  exact hfr.heapAt h.obj hgS
def CM.setV (m : CM) (v : Value) (l : List Int) : CM := ⟨{ m.ch with vals := l }, v, m.sv, m.rv⟩
def CM.setS (m : CM) (v : Value) (l : List Wt) : CM := ⟨{ m.ch with snd := l }, m.vv, v, m.rv⟩
def CM.setR (m : CM) (v : Value) (l : List Wt) : CM := ⟨{ m.ch with rcv := l }, m.vv, m.sv, v⟩
/-- The new row lies where the old one lay, or in new memory. -/
def Lies (w : World) (v v' : Value) : Prop := ∀ k, v'.ownBlock = some k → v.ownBlock = some k ∨ w.heap.size ≤ k
section
variable {w w1 : World} {F F' S : Nat → Prop} {i L n c g : Nat} {ms : List CM} {m : CM} {v' : Value}
theorem nodup3 {a b c : Option Nat} (hab : ∀ k, a = some k → b ≠ some k) (hac : ∀ k, a = some k → c ≠ some k) (hbc : ∀ k, b = some k → c ≠ some k) : (a.toList ++ (b.toList ++ c.toList)).Nodup := by
  cases a <;> cases b <;> cases c <;> simp_all <;> omega
theorem blocks_apart (hnd : m.blocks.Nodup) : (∀ k, m.vv.ownBlock = some k → m.sv.ownBlock ≠ some k ∧ m.rv.ownBlock ≠ some k) ∧ (∀ k, m.sv.ownBlock = some k → m.rv.ownBlock ≠ some k) := by
  simp only [CM.blocks] at hnd
  cases h1 : m.vv.ownBlock <;> cases h2 : m.sv.ownBlock <;> cases h3 : m.rv.ownBlock <;> simp_all <;> omega
theorem Chs.putS {l' : List Wt} (h : Chs w F g (.slice (some ⟨L, 0, none⟩) n c) ms) (hi : ms[i]? = some m) (hfr : Fr (fun k => m.sv.ownBlock = some k) w w1) (hF : ∀ k, F k → F' k) (hF' : ∀ k, F' k → k < w1.heap.size)
    (hrow : RowF w1 F' 114 4 v' (wts l')) (hl : Lies w m.sv v') : Chs (w1.setCell ⟨L, i * 5 + 2, none⟩ v') F' g (.slice (some ⟨L, 0, none⟩) n c) (ms.set i (m.setS v' l')) := by
  have hm := h.own.each m (List.mem_of_getElem? hi)
  have hnd := nodup_of_flat h.own.apart (List.mem_of_getElem? hi)
  obtain ⟨a1, a2⟩ := blocks_apart hnd
  have x1 : ∀ k, m.vv.ownBlock = some k → k < w.heap.size := fun k hk => hm.vals.lt hk
  have x3 : ∀ k, m.rv.ownBlock = some k → k < w.heap.size := fun k hk => hm.rcv.lt hk
  refine h.put hi (by omega) rfl hfr (fun k hk => .inl (by simp [CM.blocks, hk])) hF hF' ⟨?_, hrow, ?_⟩ ?_ ?_
  · exact (hm.vals.fr hfr (fun k hk => (a1 k hk).1)).mono hF
  · exact (hm.rcv.fr hfr (fun k hk hk' => a2 k hk' hk)).mono hF
  · intro k hk
    simp only [CM.blocks, CM.setS, List.mem_append, Option.mem_toList] at hk ⊢
    rcases hk with hk | hk | hk
    · exact .inl (.inl hk)
    · rcases hl k hk with h1 | h1
      · exact .inl (.inr (.inl h1))
      · exact .inr h1
    · exact .inl (.inr (.inr hk))
  · refine nodup3 (fun k hk hk' => ?_) (fun k hk hk' => (a1 k hk).2 hk') (fun k hk hk' => ?_)
    · rcases hl k hk' with h1 | h1
      · exact (a1 k hk).1 h1
      · have := x1 k hk; omega
    · rcases hl k hk with h1 | h1
      · exact a2 k h1 hk'
      · have := x3 k hk'; omega
theorem Chs.putR {l' : List Wt} (h : Chs w F g (.slice (some ⟨L, 0, none⟩) n c) ms) (hi : ms[i]? = some m) (hfr : Fr (fun k => m.rv.ownBlock = some k) w w1) (hF : ∀ k, F k → F' k) (hF' : ∀ k, F' k → k < w1.heap.size)
    (hrow : RowF w1 F' 114 4 v' (wts l')) (hl : Lies w m.rv v') : Chs (w1.setCell ⟨L, i * 5 + 3, none⟩ v') F' g (.slice (some ⟨L, 0, none⟩) n c) (ms.set i (m.setR v' l')) := by
  have hm := h.own.each m (List.mem_of_getElem? hi)
  have hnd := nodup_of_flat h.own.apart (List.mem_of_getElem? hi)
  obtain ⟨a1, a2⟩ := blocks_apart hnd
  have x1 : ∀ k, m.vv.ownBlock = some k → k < w.heap.size := fun k hk => hm.vals.lt hk
  have x2 : ∀ k, m.sv.ownBlock = some k → k < w.heap.size := fun k hk => hm.snd.lt hk
  refine h.put hi (by omega) rfl hfr (fun k hk => .inl (by simp [CM.blocks, hk])) hF hF' ⟨?_, ?_, hrow⟩ ?_ ?_
  · exact (hm.vals.fr hfr (fun k hk => (a1 k hk).2)).mono hF
  · exact (hm.snd.fr hfr (fun k hk hk' => a2 k hk hk')).mono hF
  · intro k hk
    simp only [CM.blocks, CM.setR, List.mem_append, Option.mem_toList] at hk ⊢
    rcases hk with hk | hk | hk
    · exact .inl (.inl hk)
    · exact .inl (.inr (.inl hk))
    · rcases hl k hk with h1 | h1
      · exact .inl (.inr (.inr h1))
      · exact .inr h1
  · refine nodup3 (fun k hk hk' => (a1 k hk).1 hk') (fun k hk hk' => ?_) (fun k hk hk' => ?_)
    · rcases hl k hk' with h1 | h1
      · exact (a1 k hk).2 h1
      · have := x1 k hk; omega
    · rcases hl k hk' with h1 | h1
      · exact a2 k hk h1
      · have := x2 k hk; omega
theorem Chs.putV {l' : List Int} (h : Chs w F g (.slice (some ⟨L, 0, none⟩) n c) ms) (hi : ms[i]? = some m) (hfr : Fr (fun k => m.vv.ownBlock = some k) w w1) (hF : ∀ k, F k → F' k) (hF' : ∀ k, F' k → k < w1.heap.size)
    (hrow : RowF w1 F' 2 1 v' (ints l')) (hl : Lies w m.vv v') : Chs (w1.setCell ⟨L, i * 5 + 1, none⟩ v') F' g (.slice (some ⟨L, 0, none⟩) n c) (ms.set i (m.setV v' l')) := by
  have hm := h.own.each m (List.mem_of_getElem? hi)
  have hnd := nodup_of_flat h.own.apart (List.mem_of_getElem? hi)
  obtain ⟨a1, a2⟩ := blocks_apart hnd
  have x3 : ∀ k, m.rv.ownBlock = some k → k < w.heap.size := fun k hk => hm.rcv.lt hk
  have x2 : ∀ k, m.sv.ownBlock = some k → k < w.heap.size := fun k hk => hm.snd.lt hk
  refine h.put hi (by omega) rfl hfr (fun k hk => .inl (by simp [CM.blocks, hk])) hF hF' ⟨hrow, ?_, ?_⟩ ?_ ?_
  · exact (hm.snd.fr hfr (fun k hk hk' => (a1 k hk').1 hk)).mono hF
  · exact (hm.rcv.fr hfr (fun k hk hk' => (a1 k hk').2 hk)).mono hF
  · intro k hk
    simp only [CM.blocks, CM.setV, List.mem_append, Option.mem_toList] at hk ⊢
    rcases hk with hk | hk | hk
    · rcases hl k hk with h1 | h1
      · exact .inl (.inl h1)
      · exact .inr h1
    · exact .inl (.inr (.inl hk))
    · exact .inl (.inr (.inr hk))
  · refine nodup3 (fun k hk hk' => ?_) (fun k hk hk' => ?_) (fun k hk hk' => a2 k hk hk')
    · rcases hl k hk with h1 | h1
      · exact (a1 k h1).1 hk'
      · have := x2 k hk'; omega
    · rcases hl k hk with h1 | h1
      · exact (a1 k h1).2 hk'
      · have := x3 k hk'; omega
/-- The channel is closed. -/
def CM.setC (m : CM) : CM := ⟨{ m.ch with cl := true }, m.vv, m.sv, m.rv⟩
theorem Chs.putC (h : Chs w F g (.slice (some ⟨L, 0, none⟩) n c) ms) (hi : ms[i]? = some m) : Chs (w.setCell ⟨L, i * 5 + 4, none⟩ (.bool true)) F g (.slice (some ⟨L, 0, none⟩) n c) (ms.set i m.setC) := by
  have hm := h.own.each m (List.mem_of_getElem? hi)
  exact h.put (S := E0) hi (by omega) rfl Fr.refl (fun k hk => hk.elim) (fun k hk => hk) h.lt ⟨hm.vals, hm.snd, hm.rcv⟩ (fun k hk => .inl hk) (by have := nodup_of_flat (f := CM.blocks) h.own.apart (List.mem_of_getElem? hi); exact this)
end
end Go.Proofs.Yteffmnohgnmanaa
/- slices.DeleteFunc over waiters, on a row that is owned. -/
namespace Go.Proofs.Yteffmnohgnmanaa
open Go.RowKit
theorem idxv_cases {α : Type} (p : α → Bool) (l : List α) : (idxv p l = -1 ∧ ∀ x ∈ l, p x = false) ∨ ∃ (k : Nat) (x : α), idxv p l = k ∧ l[k]? = some x ∧ p x = true ∧ (∀ y ∈ l.take k, p y = false) := by
  unfold idxv
  rcases h : l.findIdx? p with _ | i
  · left; rw [List.findIdx?_eq_none_iff] at h; exact ⟨rfl, h⟩
  · right
    rw [List.findIdx?_eq_some_iff_getElem] at h
    obtain ⟨hi, hp, hno⟩ := h
    refine ⟨i, l[i], rfl, List.getElem?_eq_getElem hi, hp, ?_⟩
    intro y hy
    obtain ⟨j, hj, rfl⟩ := List.mem_iff_getElem.1 hy
    rw [List.getElem_take]
    have := hno j (by simp at hj; omega)
    simpa using this
/-- What DeleteFunc leaves. -/
def DelPost (v : Value) (l : List Wt) (p : Wt → Bool) (w : World) (F : Nat → Prop) (e : Ending) (w' : World) : Prop :=
  ∃ v', e = .returned v' ∧ RowF w' F 114 4 v' (wts (l.filter fun x => !p x)) ∧ Fr (fun k => v.ownBlock = some k) w w' ∧ v'.ownBlock = v.ownBlock
theorem filter_all {l : List Wt} {p : Wt → Bool} (h : ∀ x ∈ l, p x = false) : (l.filter fun x => !p x) = l := by
  rw [List.filter_eq_self]; intro x hx; simp [h x hx]
/-- The round's relation: what stands ahead is kept, what stands behind is not yet looked at. -/
structure DelRel (l q : List Wt) (p : Wt → Bool) (i j : Nat) : Prop where
  len : q.length = l.length
  kept : q.take i = (l.take j).filter fun x => !p x
  rest : q.drop j = l.drop j
theorem DelRel.at {l q : List Wt} {p : Wt → Bool} {i j : Nat} (h : DelRel l q p i j) {x : Wt} (hx : q[j]? = some x) : l[j]? = some x := by
  have := congrArg (fun t => t[0]?) h.rest
  simp only [List.getElem?_drop, Nat.add_zero] at this
  rw [← this]; exact hx
theorem DelRel.drop1 {l q : List Wt} {p : Wt → Bool} {i j : Nat} (h : DelRel l q p i j) {x : Wt} (hx : q[j]? = some x) (hp : p x = true) : DelRel l q p i (j + 1) := by
  have hl := h.at hx
  refine ⟨h.len, ?_, ?_⟩
  · rw [h.kept, List.take_add_one, hl]; simp [List.filter_append, hp]
  · have := congrArg (List.drop 1) h.rest; simpa [List.drop_drop] using this
theorem DelRel.keep1 {l q : List Wt} {p : Wt → Bool} {i j : Nat} (h : DelRel l q p i j) (hij : i < j) {x : Wt} (hx : q[j]? = some x) (hp : p x = false) : DelRel l (q.set i x) p (i + 1) (j + 1) := by
  have hl := h.at hx
  have hj := lt_of_get hx
  refine ⟨by rw [List.length_set]; exact h.len, ?_, ?_⟩
  · have e : (q.set i x).take (i + 1) = q.take i ++ [x] := by
      rw [List.take_add_one, List.getElem?_set_self (by omega), List.take_set_of_le (Nat.le_refl _)]; rfl
    rw [e, h.kept, List.take_add_one, hl]; simp [List.filter_append, hp]
  · rw [List.drop_set_of_lt (by omega)]
    have := congrArg (List.drop 1) h.rest; simpa [List.drop_drop] using this
theorem DelRel.start {l : List Wt} {p : Wt → Bool} {k : Nat} {x : Wt} (hx : l[k]? = some x) (hp : p x = true) (hno : ∀ y ∈ l.take k, p y = false) : DelRel l l p k (k + 1) := by
  refine ⟨rfl, ?_, rfl⟩
  rw [List.take_add_one, hx, List.filter_append, filter_all hno]; simp [hp]
/-- Four cells of an owned row of waiters are stored. -/
theorem RowF.put4 {w : World} {F : Nat → Prop} {g n c i : Nat} {q : List Wt} {x : Wt} (h : RowF w F 114 4 (.slice (some ⟨g, 0, none⟩) n c) (wts q)) (hi : i < q.length) :
    RowF ((((w.setCell ⟨g, i * 4, none⟩ (.int .i64 x.s)).setCell ⟨g, i * 4 + 1, none⟩ (.int .i64 x.g)).setCell ⟨g, i * 4 + 2, none⟩ (.int .i64 x.c)).setCell ⟨g, i * 4 + 3, none⟩ (.int .i64 x.v)) F 114 4 (.slice (some ⟨g, 0, none⟩) n c) (wts (q.set i x)) := by
  have hq := List.getElem?_eq_getElem hi
  generalize q[i] = y at hq
  have hl : ∀ m : List Wt, (wts m).length = m.length * 4 := wts_len
  have s1 := h.stored (j := i * 4 + 0) (u := .int .i64 x.s) (by rw [hl]; omega)
  have f1 := flat_set (f := Wt.cells) (sz := 4) (fun _ => rfl) q i 0 y ⟨x.s, y.g, y.c, y.v⟩ (.int .i64 x.s) hq (by omega) rfl
  change (wts q).set _ _ = wts _ at f1
  rw [f1] at s1
  have s2 := s1.stored (j := i * 4 + 1) (u := .int .i64 x.g) (by rw [hl, List.length_set]; omega)
  have f2 := flat_set (f := Wt.cells) (sz := 4) (fun _ => rfl) (q.set i ⟨x.s, y.g, y.c, y.v⟩) i 1 _ ⟨x.s, x.g, y.c, y.v⟩ (.int .i64 x.g) (List.getElem?_set_self (by omega)) (by omega) rfl
  change (wts _).set _ _ = wts _ at f2
  rw [f2] at s2
  have s3 := s2.stored (j := i * 4 + 2) (u := .int .i64 x.c) (by rw [hl]; simp; omega)
  have f3 := flat_set (f := Wt.cells) (sz := 4) (fun _ => rfl) ((q.set i ⟨x.s, y.g, y.c, y.v⟩).set i ⟨x.s, x.g, y.c, y.v⟩) i 2 _ ⟨x.s, x.g, x.c, y.v⟩ (.int .i64 x.c) (List.getElem?_set_self (by simp; omega)) (by omega) rfl
  change (wts _).set _ _ = wts _ at f3
  rw [f3] at s3
  have s4 := s3.stored (j := i * 4 + 3) (u := .int .i64 x.v) (by rw [hl]; simp; omega)
  have f4 := flat_set (f := Wt.cells) (sz := 4) (fun _ => rfl) (((q.set i ⟨x.s, y.g, y.c, y.v⟩).set i ⟨x.s, x.g, y.c, y.v⟩).set i ⟨x.s, x.g, x.c, y.v⟩) i 3 _ x (.int .i64 x.v) (List.getElem?_set_self (by simp; omega)) (by omega) (by cases x; rfl)
  change (wts _).set _ _ = wts _ at f4
  rw [f4] at s4
  simpa only [List.set_set, Nat.add_zero] using s4

theorem flat_take4 : ∀ (q : List Wt) (i : Nat), wts (q.take i) = (wts q).take (i * 4)
  | [], i => by simp [wts]
  | x :: q, 0 => by simp [wts]
  | x :: q, i + 1 => by
    have ih := flat_take4 q i
    simp only [wts] at ih
    simp only [wts, List.take_succ_cons, List.flatMap_cons]
    rw [ih, show (i + 1) * 4 = i * 4 + 4 from by omega]
    simp [Wt.cells]
theorem zero114 (w : World) : (zeroValue 114).run Try.prog w = .ok (.agg #[.int .i64 0, .int .i64 0, .int .i64 0, .int .i64 0]) w := by kernel_rfl
set_option maxHeartbeats 800000 in
theorem deleteFuncW (v : Value) (l : List Wt) (K : Nat) (cap : Array Value) (p : Wt → Bool) (w : World) (F : Nat → Prop) (hrow : RowF w F 114 4 v (wts l)) (hp : PredW (fun k => v.ownBlock = some k) K cap p w) :
    Calls Try.prog 84 #[v, .func (.func K) #[] cap] w (DelPost v l p w F) := by
  have hK := hp.enter
  rcases idxv_cases p l with ⟨hi, hall⟩ | ⟨k, x0, hi, hx0, hpx0, hno⟩
  · obtain ⟨A, c, rfl, hnc, hcm, hr⟩ := hrow.read (by decide) (wts_len l)
    have HI := hid hi; clear hi
    have HR := hid hrow; clear hrow
    go_enter Try.func84, Try.ntmps84
    go_wp2_with fail
    refine (indexW A l.length c K cap p l w rfl (Nat.le_trans hnc hcm) hp.e0 hr).mono ?_
    rintro e w1 ⟨rfl, hf1⟩
    rw [HI.out]
    have F1 := hid hf1; clear hf1
    go_wp2
    go_ret
    exact ⟨_, rfl, by rw [filter_all hall]; exact HR.out.fr F1.out (fun _ _ x => x), F1.out.e0, rfl⟩
  · have hk := lt_of_get hx0
    rcases hrow.form (by decide) (wts_len l) with ⟨_, h0, _⟩ | ⟨g, c, rfl, hFg, hg, hnc, hcm, hr, hfz⟩
    · omega
    have hn : l.length ≤ 2 ^ 63 - 1 := Nat.le_trans hnc hcm
    have HR := hid hrow
    have HI := hid hi; clear hi
    have HD := hid (DelRel.start hx0 hpx0 hno)
    clear hx0 hpx0 hno
    have hra : RdA w (some ⟨g, 0, none⟩) (wts l) := .inr ⟨g, 0, rfl, hr⟩
    clear hr
    have hfz0 := hid hfz; clear hfz
    go_enter Try.func84, Try.ntmps84
    go_wp2_with fail
    refine (indexW _ l.length c K cap p l w rfl (Nat.le_trans hnc hcm) hp.e0 hra).mono ?_
    rintro e w1 ⟨rfl, hf1⟩
    rw [HI.out]
    have F1 := hid (hf1.e0 (S := fun k => (Value.slice (some ⟨g, 0, none⟩) l.length c).ownBlock = some k))
    have R1 := hid (HR.out.fr hf1 (fun _ _ x => x))
    clear hf1 hra hrow
    have hb1 : ((k : Int) == -1) = false := by simp
    go_wp2_with fail
    go_loopw [5, 6] (fun ti tj wr => ∃ (i j : Nat) (q : List Wt), ti = .int .i64 i ∧ tj = .int .i64 j ∧ i < j ∧ j ≤ l.length ∧ DelRel l q p i j ∧ RowF wr F 114 4 (.slice (some ⟨g, 0, none⟩) l.length c) (wts q) ∧ Fr (fun k => (Value.slice (some ⟨g, 0, none⟩) l.length c).ownBlock = some k) w wr) (fun _ j _ => l.length - (intOf j).toNat)
    case atStart => exact ⟨k, k + 1, l, rfl, congrArg (Value.int .i64) (Int.natCast_succ k).symm, Nat.lt_succ_self k, hk, HD.out, R1.out, F1.out⟩
    case round =>
      obtain ⟨i, j, q, rfl, rfl, hij, hjl, hrel, hrow, hfr⟩ := hrel
      have R := hid hrow
      have D := hid hrel
      have FW := hid hfr
      have hql := hrel.len
      by_cases hlt : j < l.length
      · obtain ⟨x, hx⟩ : ∃ x, q[j]? = some x := ⟨q[j]'(by omega), List.getElem?_eq_getElem (by omega)⟩
        rcases hrow.form (by decide) (wts_len q) with ⟨hh, _⟩ | ⟨g', c', hv, _, hgr, _, _, hr, hfz⟩
        · cases hh
        injection hv with e1 e2 e3
        injection e1 with e1; injection e1 with e1; subst e1 e3
        obtain ⟨g0, g1, g2, g3⟩ := hr.wt hx
        simp only [Nat.zero_add] at g0 g1 g2 g3
        have hHX := hid hx
        clear hr hrow hrel hfr hx e2
        have hQ := hid hql; clear hql
        have hgw : g < wr.heap.size := hgr
        obtain ⟨y, hy⟩ : ∃ y, q[i]? = some y := ⟨q[i]'(by have := lt_of_get hHX.out; omega), List.getElem?_eq_getElem (by have := lt_of_get hHX.out; omega)⟩
        have hHY := hid hy; clear hy
        go_wp2_with fail
        refine (hp.call x _ (FW.out.alloc _)).mono ?_
        rintro e w2 ⟨rfl, hf2⟩
        have FA := hid (FW.out.trans ((Fr.refl.alloc (.cells #[.int .i64 x.s, .int .i64 x.g, .int .i64 x.c, .int .i64 x.v] 114)).trans hf2.e0))
        have RA := hid ((R.out.fr (Fr.refl (S := E0) |>.alloc (.cells #[.int .i64 x.s, .int .i64 x.g, .int .i64 x.c, .int .i64 x.v] 114)) (fun _ _ x => x)).fr hf2 (fun _ _ x => x))
        have k0 : w2.cell? ⟨wr.heap.size, 0, none⟩ = some (.int .i64 x.s) := hf2.cell (by rw [World.cell?_alloc_at _ _ _ _ rfl]; rfl) (fun x => x)
        have k1 : w2.cell? ⟨wr.heap.size, 1, none⟩ = some (.int .i64 x.g) := hf2.cell (by rw [World.cell?_alloc_at _ _ _ _ rfl]; rfl) (fun x => x)
        have k2 : w2.cell? ⟨wr.heap.size, 2, none⟩ = some (.int .i64 x.c) := hf2.cell (by rw [World.cell?_alloc_at _ _ _ _ rfl]; rfl) (fun x => x)
        have k3 : w2.cell? ⟨wr.heap.size, 3, none⟩ = some (.int .i64 x.v) := hf2.cell (by rw [World.cell?_alloc_at _ _ _ _ rfl]; rfl) (fun x => x)
        clear hf2 g0 g1 g2 g3
        cases hpx : p x with
        | true =>
          have HX := hid hpx; clear hpx
          go_wp2
          go_roundw
          case rel => exact ⟨i, j + 1, q, rfl, by go_num, by omega, by omega, D.out.drop1 hHX.out HX.out, RA.out, FA.out⟩
          case measure => simp [intOf]; omega
        | false =>
          have HX := hid hpx; clear hpx
          rcases RA.out.form (by decide) (wts_len q) with ⟨hh, _⟩ | ⟨g', c', hv, _, hg2, _, _, hr, hfz⟩
          · cases hh
          injection hv with e1 e2 e3
          injection e1 with e1; injection e1 with e1; subst e1 e3
          clear e2
          obtain ⟨y0, y1, y2, y3⟩ := hr.wt hHY.out
          simp only [Nat.zero_add] at y0 y1 y2 y3
          have RK := hid (RA.out.put4 (x := x) (lt_of_get hHY.out))
          have DK := hid (D.out.keep1 hij hHX.out HX.out)
          have FK := hid ((((FA.out.setCell (p := ⟨g, i * 4, none⟩) (.int .i64 x.s) (.inl rfl)).setCell (p := ⟨g, i * 4 + 1, none⟩) (.int .i64 x.g) (.inl rfl)).setCell (p := ⟨g, i * 4 + 2, none⟩) (.int .i64 x.c) (.inl rfl)).setCell (p := ⟨g, i * 4 + 3, none⟩) (.int .i64 x.v) (.inl rfl))
          have z0 := hfz (i * 4)
          have z1 := hfz (i * 4 + 1)
          have z2 := hfz (i * 4 + 2)
          have z3 := hfz (i * 4 + 3)
          clear hr hfz
          go_wp2
          go_roundw
          case rel => exact ⟨i + 1, j + 1, q.set i x, by simp, by simp, by omega, by omega, DK.out, RK.out, FK.out⟩
          case measure => simp [intOf]; omega
      · have hjl' : j = l.length := by omega
        have hil : i < l.length := by omega
        obtain ⟨zs, hcl⟩ := run_clear_row (P := Try.prog) (t := 65) (sz := 4) (z := .agg #[.int .i64 0, .int .i64 0, .int .i64 0, .int .i64 0]) Try.underlying65 zero114 rfl (by decide) (by decide) hrow (by rw [wts_len, hql]) hil 0 (c - i)
        have HZ := hid (hrow.cut (i := i) (by omega) zs)
        have HJ := hid hjl'
        have HZ' := HZ.out
        clear hjl' hrow hrel hfr
        have hQ := hid hql; clear hql
        go_wp2_with fail
        go_ret
        exact ⟨_, rfl, by rw [← flat_take4, D.out.kept, HJ.out, List.take_length] at HZ'; exact HZ', FW.out.setCells (.inl rfl) _ _, rfl⟩
end Go.Proofs.Yteffmnohgnmanaa
/- (*Chans).Leave: who leaves waits nowhere more. -/
namespace Go.Proofs.Yteffmnohgnmanaa
open Go.RowKit
def wout (gs gg : Int) (l : List Wt) : List Wt := l.filter fun x => !isG gs gg x
def leaveCh (gs gg : Int) (c : Ch) : Ch := { c with snd := wout gs gg c.snd, rcv := wout gs gg c.rcv }
def leaveL (gs gg : Int) (l : List Ch) : List Ch := l.map (leaveCh gs gg)
def nOut (gs gg : Int) (c : Ch) : Nat := (c.snd.length + c.rcv.length) - ((wout gs gg c.snd).length + (wout gs gg c.rcv).length)
def nOutL (gs gg : Int) (l : List Ch) : Nat := (l.map (nOut gs gg)).sum
theorem wout_le (gs gg : Int) (l : List Wt) : (wout gs gg l).length ≤ l.length := List.length_filter_le _ _
theorem leave_none (gs gg : Int) (w : World) : Calls Try.prog 64 #[.pointer none, .agg #[.int .i64 gs, .int .i64 gg]] w (Ret (.int .i64 0) E0 w) := by
  go_enter Try.func64, Try.ntmps64
  go_wp2
  go_ret
  exact ⟨rfl, Fr.refl.alloc _⟩
/-- The first k have been left. -/
def leftTo (gs gg : Int) (l : List Ch) (k : Nat) : List Ch := leaveL gs gg (l.take k) ++ l.drop k
theorem leftTo_get {gs gg : Int} {l : List Ch} {k : Nat} {c : Ch} (h : l[k]? = some c) : (leftTo gs gg l k)[k]? = some c := by
  have hk := lt_of_get h
  have e : (leaveL gs gg (l.take k)).length = k := by simp [leaveL]; omega
  unfold leftTo
  rw [List.getElem?_append_right (by omega), e, Nat.sub_self, List.getElem?_drop, Nat.add_zero, h]
theorem leftTo_set {gs gg : Int} {l : List Ch} {k : Nat} {c : Ch} (h : l[k]? = some c) : (leftTo gs gg l k).set k (leaveCh gs gg c) = leftTo gs gg l (k + 1) := by
  have hk := lt_of_get h
  have e : (leaveL gs gg (l.take k)).length = k := by simp [leaveL]; omega
  unfold leftTo
  rw [List.set_append_right _ _ (by omega), e, Nat.sub_self, List.take_add_one, h]
  have hd : l.drop k = c :: l.drop (k + 1) := by
    rw [List.drop_eq_getElem_cons hk]
    rw [List.getElem?_eq_getElem hk] at h; cases h; rfl
  rw [hd, List.set_cons_zero]
  simp [leaveL]
theorem nOutL_succ {gs gg : Int} {l : List Ch} {k : Nat} {c : Ch} (h : l[k]? = some c) : nOutL gs gg (l.take (k + 1)) = nOutL gs gg (l.take k) + nOut gs gg c := by
  rw [List.take_add_one, h]; simp [nOutL]
theorem nOutL_le {gs gg : Int} {l : List Ch} (B : Nat) (h : ∀ c ∈ l, nOut gs gg c ≤ B) (k : Nat) : nOutL gs gg (l.take k) ≤ k * B := by
  induction k with
  | zero => simp [nOutL]
  | succ k ih =>
    cases hk : l[k]? with
    | none =>
      have e : l.take (k + 1) = l.take k := by rw [List.take_add_one, hk]; simp
      rw [e, Nat.add_mul]; omega
    | some c =>
      have := h c (List.mem_of_getElem? hk)
      rw [nOutL_succ hk, Nat.add_mul]; omega
theorem nOut_fit {gs gg : Int} {c : Ch} (hc : c.Fit) : nOut gs gg c ≤ 8796093022208 := by
  obtain ⟨h1, h2, h3⟩ := hc
  unfold nOut; omega
theorem nOutL_fit {gs gg : Int} {l : List Ch} (h : ∀ c ∈ l, c.Fit) {k : Nat} (hk : k ≤ 1024) : nOutL gs gg (l.take k) ≤ 9007199254740992 := by
  have := nOutL_le (gs := gs) (gg := gg) 8796093022208 (fun c hc => nOut_fit (h c hc)) k
  omega
/-- The channels l, kept at g by the slice v. -/
def IsChV (w : World) (F : Nat → Prop) (g : Nat) (v : Value) (l : List Ch) : Prop := ∃ ms, Chs w F g v ms ∧ chs ms = l
theorem IsChV.is {w : World} {F : Nat → Prop} {g : Nat} {v : Value} {l : List Ch} (h : IsChV w F g v l) : IsCh w F g l := by
  obtain ⟨ms, h1, h2⟩ := h; exact ⟨v, ms, h1, h2⟩
theorem IsChV.fr {w w' : World} {F S : Nat → Prop} {g : Nat} {v : Value} {l : List Ch} (h : IsChV w F g v l) (hf : Fr S w w') (hs : ∀ k, F k → ¬ S k) : IsChV w' F g v l := by
  obtain ⟨ms, h1, h2⟩ := h; exact ⟨ms, h1.fr hf hs, h2⟩
def LeavePostV (F : Nat → Prop) (g : Nat) (v : Value) (l : List Ch) (gs gg : Int) (w : World) (e : Ending) (w' : World) : Prop := e = .returned (.int .i64 (nOutL gs gg l)) ∧ IsChV w' F g v (leaveL gs gg l) ∧ Fr F w w'
def LeavePost (F : Nat → Prop) (g : Nat) (l : List Ch) (gs gg : Int) (w : World) (e : Ending) (w' : World) : Prop := e = .returned (.int .i64 (nOutL gs gg l)) ∧ IsCh w' F g (leaveL gs gg l) ∧ Fr F w w'
set_option maxHeartbeats 4000000 in
theorem leave_okV {w : World} {F : Nat → Prop} {g : Nat} {v : Value} {ms : List CM} (h : Chs w F g v ms) (gs gg : Int) (hn : ms.length ≤ 1024) (hfit : ∀ m ∈ ms, m.ch.Fit) :
    Calls Try.prog 64 #[.pointer (some ⟨g, 0, none⟩), .agg #[.int .i64 gs, .int .i64 gg]] w (LeavePostV F g v (chs ms) gs gg w) := by
  have hm := h.made
  have hl := h.list
  obtain ⟨A, cp, hv, hrd⟩ := h.rd
  subst hv
  have H := hid h
  have hgl : g < w.heap.size := h.lt g h.mine
  have hfit' : ∀ c ∈ chs ms, c.Fit := by
    intro c hc
    obtain ⟨m, hm, rfl⟩ := List.mem_map.1 hc
    exact hfit m hm
  have HFit := hid hfit'
  clear hrd h hfit'
  go_enter Try.func64, Try.ntmps64
  go_wp2_with (go_at_call 53; refine (is_made (g := g) (by rw [World.cell?_alloc_past _ _ _ hgl]; exact hm)).mono ?_; rintro e w1 ⟨rfl, rfl⟩)
  go_loopw [5, 18] (fun tn i wr => ∃ (k : Nat) (ms' : List CM), i = .int .i64 k ∧ k ≤ ms.length ∧ tn = .int .i64 (nOutL gs gg ((chs ms).take k)) ∧ chs ms' = leftTo gs gg (chs ms) k ∧ Chs wr F g (.slice A ms.length cp) ms' ∧ BoxG w.heap.size gs gg wr ∧ Fr F w wr) (fun _ i _ => ms.length - (intOf i).toNat)
  case atStart => exact ⟨0, ms, rfl, Nat.zero_le _, rfl, rfl, H.out.fr (Fr.refl (S := E0) |>.alloc _) (fun _ _ x => x), ⟨by rw [World.cell?_alloc_at _ _ _ _ rfl]; rfl, by rw [World.cell?_alloc_at _ _ _ _ rfl]; rfl⟩, Fr.refl.alloc _⟩
  case round =>
    obtain ⟨k, ms', rfl, hk, rfl, hms, hch, hbox, hfr⟩ := hrel
    have HM := hid hms
    have HC := hid hch
    have HB := hid hbox
    have HF := hid hfr
    clear hms hch hbox hfr
    by_cases hlt : k < ms.length
    · have hlen : ms'.length = ms.length := by have := congrArg List.length HM.out; rw [chs_len] at this; simp [leftTo, leaveL, chs_len] at this; omega
      obtain ⟨m, hmk⟩ : ∃ m, ms'[k]? = some m := ⟨ms'[k]'(by omega), List.getElem?_eq_getElem (by omega)⟩
      obtain ⟨c, hck⟩ : ∃ c, (chs ms)[k]? = some c := ⟨(chs ms)[k]'(by rw [chs_len]; omega), List.getElem?_eq_getElem (by rw [chs_len]; omega)⟩
      have hmc : m.ch = c := by
        have h1 := chs_get hmk
        rw [HM.out, leftTo_get hck] at h1
        exact (Option.some.inj h1).symm
      subst hmc
      have HCK := hid hck
      have hcf := HFit.out _ (List.mem_of_getElem? hck)
      have HCF := hid hcf
      obtain ⟨hf1, hf2, hf3⟩ := hcf
      obtain ⟨N, hN⟩ : ∃ N, N = nOutL gs gg ((chs ms).take k) := ⟨_, rfl⟩
      have hNb : N ≤ 9007199254740992 := by rw [hN]; exact nOutL_fit HFit.out (by omega)
      rw [← hN]
      have HN := hid hN
      clear hN hck
      have hrow := HC.out.own.row
      rcases hrow.form (by decide) (by rw [cms_len, hlen]) with ⟨hA, h0, _⟩ | ⟨L, cp', hA, hFL, hLlt, _, _, hr, hfz⟩
      · omega
      injection hA with e1 e2 e3
      subst e1 e3
      clear e2
      obtain ⟨g0, g1, g2, g3, g4⟩ := hr.cm hmk
      simp only [Nat.zero_add] at g0 g1 g2 g3 g4
      have hmd := HC.out.made
      have hli := HC.out.list
      have HO := hid (HC.out.own.each m (List.mem_of_getElem? hmk))
      have HK := hid hmk
      obtain ⟨A2, c2, es, _, hm2, _⟩ := HO.out.snd.read (by decide) (wts_len _)
      obtain ⟨A3, c3, er, _, hm3, _⟩ := HO.out.rcv.read (by decide) (wts_len _)
      rw [es] at g2
      rw [er] at g3
      have ES := hid es
      have ER := hid er
      clear es er hr hmk hrow g0 g1 g4 hm2 hm3 hlen
      go_wp2_with fail
      go_quiet (fail)
      have FW := hid ((Fr.refl (S := E0) (w := wr)).drewN nq)
      generalize wr.drewN nq = W1 at FW ⊢
      have C1 := hid (HC.out.fr FW.out (fun _ _ x => x))
      have B1 := hid (HB.out.fr FW.out (fun x => x))
      have F1 := hid (HF.out.trans FW.out.e0)
      have j2 : W1.cell? ⟨L, k * 5 + 2, none⟩ = some (.slice A2 m.ch.snd.length c2) := FW.out.cell g2 (fun x => x)
      have j3 : W1.cell? ⟨L, k * 5 + 3, none⟩ = some (.slice A3 m.ch.rcv.length c3) := FW.out.cell g3 (fun x => x)
      have jm : W1.cell? ⟨g, 0, none⟩ = some (.bool true) := FW.out.cell hmd (fun x => x)
      have jl : W1.cell? ⟨g, 1, none⟩ = some (.slice (some ⟨L, 0, none⟩) ms.length cp) := FW.out.cell hli (fun x => x)
      have O1 := hid (C1.out.own.each m (List.mem_of_getElem? HK.out))
      clear g2 g3 hmd hli hm hl
      have R2 := hid (show RowF W1 F 114 4 (.slice A2 m.ch.snd.length c2) (wts m.ch.snd) by rw [← ES.out]; exact O1.out.snd)
      have hlt0 : ∀ q, F q → q < w.heap.size := H.out.lt
      have HL0 := hid hlt0; clear hlt0
      have hLn : (Value.slice A2 m.ch.snd.length c2).ownBlock ≠ some L := fun hx => C1.out.own.row.ne_type R2.out (by decide) rfl hx
      have hgn : (Value.slice A2 m.ch.snd.length c2).ownBlock ≠ some g := fun hx => by
        obtain ⟨cur, hc⟩ := R2.out.heap hx
        rw [C1.out.obj] at hc; injection hc with hc; injection hc with _ hc _; exact absurd hc (by decide)
      go_wp2_with fail
      refine (deleteFuncW _ m.ch.snd 83 _ (isG gs gg) W1 F R2.out (predLeave B1.out (fun hx => Nat.lt_irrefl _ (HL0.out _ (R2.out.2 _ hx))))).mono ?_
      rintro e w2 ⟨v2, rfl, hr2, hf2, hb2⟩
      change RowF w2 F 114 4 v2 (wts (wout gs gg m.ch.snd)) at hr2
      obtain ⟨A4, c4, e4, _, hm4, _⟩ := hr2.read (by decide) (wts_len _)
      subst e4
      have k2 : w2.cell? ⟨L, k * 5 + 2, none⟩ = some (.slice A2 m.ch.snd.length c2) := hf2.cell j2 hLn
      have k3 : w2.cell? ⟨L, k * 5 + 3, none⟩ = some (.slice A3 m.ch.rcv.length c3) := hf2.cell j3 hLn
      have km : w2.cell? ⟨g, 0, none⟩ = some (.bool true) := hf2.cell jm hgn
      have kl : w2.cell? ⟨g, 1, none⟩ = some (.slice (some ⟨L, 0, none⟩) ms.length cp) := hf2.cell jl hgn
      have kf2 : w2.frozen? ⟨L, k * 5 + 2, none⟩ = false := (C1.out.own.row.fr hf2 (fun q hq hq' => hLn (by simp [Value.ownBlock] at hq; rw [hq]; exact hq'))).free rfl _
      have hf2' : Fr (fun q => m.sv.ownBlock = some q) W1 w2 := by rw [ES.out]; exact hf2
      have C2 := hid (C1.out.putS HK.out hf2' (fun q hq => hq) (fun q hq => Nat.lt_of_lt_of_le (C1.out.lt q hq) hf2.size) hr2 (fun q hq => .inl (by rw [ES.out, ← hb2]; exact hq)))
      have F2 := hid ((hf2.mono (T := F) (fun q hq => R2.out.2 q hq)).setCell (p := ⟨L, k * 5 + 2, none⟩) (.slice A4 (wout gs gg m.ch.snd).length c4) (.inl hFL))
      have B2 := hid (B1.out.fr F2.out (fun hx => Nat.lt_irrefl _ (HL0.out _ hx)))
      have O2 := hid (C2.out.own.each _ (List.mem_of_getElem? (List.getElem?_set_self (lt_of_get HK.out))))
      have R3 := hid (show RowF (w2.setCell ⟨L, k * 5 + 2, none⟩ (.slice A4 (wout gs gg m.ch.snd).length c4)) F 114 4 (.slice A3 m.ch.rcv.length c3) (wts m.ch.rcv) by rw [← ER.out]; exact O2.out.rcv)
      have hLn3 : (Value.slice A3 m.ch.rcv.length c3).ownBlock ≠ some L := fun hx => C2.out.own.row.ne_type R3.out (by decide) rfl hx
      have hgn3 : (Value.slice A3 m.ch.rcv.length c3).ownBlock ≠ some g := fun hx => by
        obtain ⟨cur, hc⟩ := R3.out.heap hx
        rw [C2.out.obj] at hc; injection hc with hc; injection hc with _ hc _; exact absurd hc (by decide)
      clear j2 j3 jm jl hr2 hf2 hb2 hf2' hm4
      go_wp2_with fail
      refine (deleteFuncW _ m.ch.rcv 83 _ (isG gs gg) _ F R3.out (predLeave B2.out (fun hx => Nat.lt_irrefl _ (HL0.out _ (R3.out.2 _ hx))))).mono ?_
      rintro e w4 ⟨v4, rfl, hr4, hf4, hb4⟩
      change RowF w4 F 114 4 v4 (wts (wout gs gg m.ch.rcv)) at hr4
      obtain ⟨A5, c5, e5, _, hm5, _⟩ := hr4.read (by decide) (wts_len _)
      subst e5
      have q2 : w4.cell? ⟨L, k * 5 + 2, none⟩ = some (.slice A4 (wout gs gg m.ch.snd).length c4) := hf4.cell (setCell_at k2) hLn3
      have q3 : w4.cell? ⟨L, k * 5 + 3, none⟩ = some (.slice A3 m.ch.rcv.length c3) := hf4.cell (setCell_off (by omega) k3) hLn3
      have qf3 : w4.frozen? ⟨L, k * 5 + 3, none⟩ = false := (C2.out.own.row.fr hf4 (fun q hq hq' => hLn3 (by simp [Value.ownBlock] at hq; rw [hq]; exact hq'))).free rfl _
      have hf4' : Fr (fun q => (m.setS (.slice A4 (wout gs gg m.ch.snd).length c4) (wout gs gg m.ch.snd)).rv.ownBlock = some q) (w2.setCell ⟨L, k * 5 + 2, none⟩ (.slice A4 (wout gs gg m.ch.snd).length c4)) w4 := by show Fr (fun q => m.rv.ownBlock = some q) (w2.setCell ⟨L, k * 5 + 2, none⟩ (.slice A4 (wout gs gg m.ch.snd).length c4)) w4; rw [ER.out]; exact hf4
      have C4 := hid (C2.out.putR (List.getElem?_set_self (lt_of_get HK.out)) hf4' (fun q hq => hq) (fun q hq => Nat.lt_of_lt_of_le (C2.out.lt q hq) hf4.size) hr4 (fun q hq => .inl (by show m.rv.ownBlock = some q; rw [ER.out, ← hb4]; exact hq)))
      have F4 := hid ((hf4.mono (T := F) (fun q hq => R3.out.2 q hq)).setCell (p := ⟨L, k * 5 + 3, none⟩) (.slice A5 (wout gs gg m.ch.rcv).length c5) (.inl hFL))
      have B4 := hid (B2.out.fr F4.out (fun hx => Nat.lt_irrefl _ (HL0.out _ hx)))
      have FE := hid (F1.out.trans (F2.out.trans F4.out))
      have hle2 := wout_le gs gg m.ch.snd
      have hle3 := wout_le gs gg m.ch.rcv
      clear k2 k3 km kl kf2 hr4 hf4 hb4 hf4' hm5 hLn hLn3 hgn hgn3
      have hsum : Hid ((N : Int) + ((m.ch.snd.length : Int) + (m.ch.rcv.length : Int)) - (((wout gs gg m.ch.snd).length : Int) + ((wout gs gg m.ch.rcv).length : Int)) = (nOutL gs gg ((chs ms).take (k + 1)) : Nat)) := by
        show _ = _
        rw [nOutL_succ HCK.out, ← HN.out]; unfold nOut; omega
      have hms : Hid (chs ((ms'.set k (m.setS (.slice A4 (wout gs gg m.ch.snd).length c4) (wout gs gg m.ch.snd))).set k ((m.setS (.slice A4 (wout gs gg m.ch.snd).length c4) (wout gs gg m.ch.snd)).setR (.slice A5 (wout gs gg m.ch.rcv).length c5) (wout gs gg m.ch.rcv))) = leftTo gs gg (chs ms) (k + 1)) := by
        show _ = _
        rw [← leftTo_set HCK.out, ← HM.out, List.set_set]; unfold chs; rw [List.map_set]; rfl
      go_wp2_with fail
      go_quiet (fail)
      have FQ := hid ((Fr.refl (S := E0) (w := w4.setCell ⟨L, k * 5 + 3, none⟩ (.slice A5 (wout gs gg m.ch.rcv).length c5))).drewN nq)
      have C5 := hid (C4.out.fr FQ.out (fun _ _ x => x))
      have B5 := hid (B4.out.fr FQ.out (fun x => x))
      have F5 := hid (FE.out.trans FQ.out.e0)
      generalize (w4.setCell ⟨L, k * 5 + 3, none⟩ (.slice A5 (wout gs gg m.ch.rcv).length c5)).drewN nq = W6 at *
      go_wp2_with fail
      go_roundw
      case rel => exact ⟨k + 1, _, by simp, by omega, by rw [hsum.out], hms.out, C5.out, B5.out, F5.out⟩
      case measure => simp [intOf]; omega
    · obtain rfl : k = ms.length := by omega
      have e1 : (chs ms).take ms.length = chs ms := by rw [← chs_len, List.take_length]
      have e2 : leftTo gs gg (chs ms) ms.length = leaveL gs gg (chs ms) := by unfold leftTo; rw [e1, ← chs_len, List.drop_length, List.append_nil]
      rw [e2] at HM
      have E1 := hid e1
      clear hlt hk e1 e2 hm hl
      go_wp2_with fail
      go_ret
      exact ⟨by rw [E1.out]; rfl, ⟨_, HC.out, HM.out⟩, HF.out⟩
theorem leave_ok {w : World} {F : Nat → Prop} {g : Nat} {v : Value} {ms : List CM} (h : Chs w F g v ms) (gs gg : Int) (hn : ms.length ≤ 1024) (hfit : ∀ m ∈ ms, m.ch.Fit) :
    Calls Try.prog 64 #[.pointer (some ⟨g, 0, none⟩), .agg #[.int .i64 gs, .int .i64 gg]] w (LeavePost F g (chs ms) gs gg w) :=
  (leave_okV h gs gg hn hfit).mono fun _ _ ⟨h1, h2, h3⟩ => ⟨h1, h2.is, h3⟩
end Go.Proofs.Yteffmnohgnmanaa
/- (*Chans).wake. -/
namespace Go.Proofs.Yteffmnohgnmanaa
open Go.RowKit
/-- One that waits no more. -/
structure Wk where
  s : Int
  g : Int
  c : Int
  v : Int
  ok : Bool
  trap : Int
  deriving DecidableEq
def Wk.val (x : Wk) : Value := .agg #[.int .i64 x.s, .int .i64 x.g, .int .i64 x.c, .int .i64 x.v, .bool x.ok, .int .i64 x.trap]
def Wk.cells (x : Wk) : List Value := [.int .i64 x.s, .int .i64 x.g, .int .i64 x.c, .int .i64 x.v, .bool x.ok, .int .i64 x.trap]
theorem cells6 {w : World} {B : Nat} {x0 x1 x2 x3 x4 x5 : Value} {t : TypeId} (h : w.heap[B]? = some (.cells #[x0, x1, x2, x3, x4, x5] t (0, 0))) (a b c d e f : Value) :
    ((((((w.setCell ⟨B, 0, none⟩ a).setCell ⟨B, 1, none⟩ b).setCell ⟨B, 2, none⟩ c).setCell ⟨B, 3, none⟩ d).setCell ⟨B, 4, none⟩ e).setCell ⟨B, 5, none⟩ f).heap[B]? = some (.cells #[a, b, c, d, e, f] t (0, 0)) := by
  have h1 := heap_setCell_same w B 0 _ t a h
  have h2 := heap_setCell_same _ B 1 _ t b h1
  have h3 := heap_setCell_same _ B 2 _ t c h2
  have h4 := heap_setCell_same _ B 3 _ t d h3
  have h5 := heap_setCell_same _ B 4 _ t e h4
  exact heap_setCell_same _ B 5 _ t f h5
/-- Six cells of a block are written that is none of S. -/
theorem Fr.set6 {S : Nat → Prop} {w w' : World} {B : Nat} (h : Fr S w w') (hB : S B ∨ w.heap.size ≤ B) (a b c d e f : Value) :
    Fr S w ((((((w'.setCell ⟨B, 0, none⟩ a).setCell ⟨B, 1, none⟩ b).setCell ⟨B, 2, none⟩ c).setCell ⟨B, 3, none⟩ d).setCell ⟨B, 4, none⟩ e).setCell ⟨B, 5, none⟩ f) :=
  (((((h.setCell (p := ⟨B, 0, none⟩) a hB).setCell (p := ⟨B, 1, none⟩) b hB).setCell (p := ⟨B, 2, none⟩) c hB).setCell (p := ⟨B, 3, none⟩) d hB).setCell (p := ⟨B, 4, none⟩) e hB).setCell (p := ⟨B, 5, none⟩) f hB
def WakePost (F : Nat → Prop) (g : Nat) (l : List Ch) (x : Wt) (v : Int) (ok : Bool) (trap : Int) (w : World) (e : Ending) (w' : World) : Prop :=
  e = .returned (Wk.val ⟨x.s, x.g, x.c, v, ok, trap⟩) ∧ IsCh w' F g (leaveL x.s x.g l) ∧ Fr F w w'
def WakePostV (F : Nat → Prop) (g : Nat) (v0 : Value) (l : List Ch) (x : Wt) (v : Int) (ok : Bool) (trap : Int) (w : World) (e : Ending) (w' : World) : Prop :=
  e = .returned (Wk.val ⟨x.s, x.g, x.c, v, ok, trap⟩) ∧ IsChV w' F g v0 (leaveL x.s x.g l) ∧ Fr F w w'
theorem Chs.isCh {w : World} {F : Nat → Prop} {g : Nat} {v : Value} {ms : List CM} (h : Chs w F g v ms) : IsCh w F g (chs ms) := ⟨v, ms, h, rfl⟩
theorem IsCh.fr {w w' : World} {F S : Nat → Prop} {g : Nat} {l : List Ch} (h : IsCh w F g l) (hf : Fr S w w') (hs : ∀ k, F k → ¬ S k) : IsCh w' F g l := by
  obtain ⟨v, ms, h1, h2⟩ := h
  exact ⟨v, ms, h1.fr hf hs, h2⟩
theorem IsCh.lt {w : World} {F : Nat → Prop} {g : Nat} {l : List Ch} (h : IsCh w F g l) : ∀ k, F k → k < w.heap.size := by
  obtain ⟨v, ms, h1, _⟩ := h; exact h1.lt
set_option maxHeartbeats 1000000 in
theorem wake_okV {w : World} {F : Nat → Prop} {g : Nat} {v0 : Value} {ms : List CM} (h : Chs w F g v0 ms) (x : Wt) (v : Int) (ok : Bool) (trap : Int) (hn : ms.length ≤ 1024) (hfit : ∀ m ∈ ms, m.ch.Fit) :
    Calls Try.prog 55 #[.pointer (some ⟨g, 0, none⟩), x.val, .int .i64 v, .bool ok, .int .i64 trap] w (WakePostV F g v0 (chs ms) x v ok trap w) := by
  obtain ⟨s, gn, c, xv⟩ := x
  have H := hid h
  have hlt := hid h.lt
  clear h
  simp only [Wt.val]
  go_enter Try.func55, Try.ntmps55
  go_wp2_with fail
  generalize hW : ((w.alloc (Obj.cells #[Value.int IntKind.i64 s, Value.int IntKind.i64 gn, Value.int IntKind.i64 c, Value.int IntKind.i64 xv] 114)).alloc _) = W
  have hA := hid (show Fr E0 w W by rw [← hW]; exact (Fr.refl.alloc _).alloc _)
  have hB := hid (show W.heap[w.heap.size]? = some (.cells #[Value.int IntKind.i64 s, Value.int IntKind.i64 gn, Value.int IntKind.i64 c, Value.int IntKind.i64 xv] 114 (0, 0)) by rw [← hW]; exact heap_alloc2_old w _ _)
  have hT := hid (show W.heap[w.heap.size + 1]? = some (.cells #[Value.int IntKind.i64 0, Value.int IntKind.i64 0, Value.int IntKind.i64 0, Value.int IntKind.i64 0, Value.bool false, Value.int IntKind.i64 0] 39 (0, 0)) by rw [← hW]; exact heap_alloc2_new w _ _)
  clear hW
  refine (leave_okV (H.out.fr hA.out (fun _ _ x => x)) s gn hn hfit).mono ?_
  rintro e w1 ⟨rfl, hl1, hf1⟩
  have hB1 := hid (hf1.heapAt hB.out (fun hx => Nat.lt_irrefl _ (hlt.out _ hx)))
  have hT1 := hid (hf1.heapAt hT.out (fun hx => by have := hlt.out _ hx; omega))
  have b0 : w1.cell? ⟨w.heap.size, 0, none⟩ = some (.int .i64 s) := cell_of_row w1 _ 0 _ _ _ hB1.out
  have b1 : w1.cell? ⟨w.heap.size, 1, none⟩ = some (.int .i64 gn) := cell_of_row w1 _ 1 _ _ _ hB1.out
  have b2 : w1.cell? ⟨w.heap.size, 2, none⟩ = some (.int .i64 c) := cell_of_row w1 _ 2 _ _ _ hB1.out
  have q0 : w1.cell? ⟨w.heap.size + 1, 0, none⟩ = some (.int .i64 0) := cell_of_row w1 _ 0 _ _ _ hT1.out
  have q1 : w1.cell? ⟨w.heap.size + 1, 1, none⟩ = some (.int .i64 0) := cell_of_row w1 _ 1 _ _ _ hT1.out
  have q2 : w1.cell? ⟨w.heap.size + 1, 2, none⟩ = some (.int .i64 0) := cell_of_row w1 _ 2 _ _ _ hT1.out
  have q3 : w1.cell? ⟨w.heap.size + 1, 3, none⟩ = some (.int .i64 0) := cell_of_row w1 _ 3 _ _ _ hT1.out
  have q4 : w1.cell? ⟨w.heap.size + 1, 4, none⟩ = some (.bool false) := cell_of_row w1 _ 4 _ _ _ hT1.out
  have q5 : w1.cell? ⟨w.heap.size + 1, 5, none⟩ = some (.int .i64 0) := cell_of_row w1 _ 5 _ _ _ hT1.out
  have z0 : w1.frozen? ⟨w.heap.size + 1, 0, none⟩ = false := frozen_of_row w1 _ 0 _ _ hT1.out
  have z1 : w1.frozen? ⟨w.heap.size + 1, 1, none⟩ = false := frozen_of_row w1 _ 1 _ _ hT1.out
  have z2 : w1.frozen? ⟨w.heap.size + 1, 2, none⟩ = false := frozen_of_row w1 _ 2 _ _ hT1.out
  have z3 : w1.frozen? ⟨w.heap.size + 1, 3, none⟩ = false := frozen_of_row w1 _ 3 _ _ hT1.out
  have z4 : w1.frozen? ⟨w.heap.size + 1, 4, none⟩ = false := frozen_of_row w1 _ 4 _ _ hT1.out
  have z5 : w1.frozen? ⟨w.heap.size + 1, 5, none⟩ = false := frozen_of_row w1 _ 5 _ _ hT1.out
  have HL := hid hl1
  have HF := hid (hA.out.e0.trans hf1)
  clear hl1 hf1
  go_wp2_with fail
  have TB := hid (cells6 hT1.out (.int .i64 s) (.int .i64 gn) (.int .i64 c) (.int .i64 v) (.bool ok) (.int .i64 trap))
  have FF := hid ((Fr.refl (S := fun k => k = w.heap.size + 1) (w := w1)).set6 (B := w.heap.size + 1) (.inl rfl) (.int .i64 s) (.int .i64 gn) (.int .i64 c) (.int .i64 v) (.bool ok) (.int .i64 trap))
  have LL := hid (HL.out.fr FF.out (fun k hk e => by have := hlt.out _ hk; omega))
  have F2 := hid (HF.out.trans' FF.out (fun i hi => .inr (by omega)))
  clear q0 q1 q2 q3 q4 q5 z0 z1 z2 z3 z4 z5
  generalize (((((World.setCell w1 _ _).setCell _ _).setCell _ _).setCell _ _).setCell _ _).setCell _ _ = W5 at *
  have k0 : W5.cell? ⟨w.heap.size + 1, 0, none⟩ = some (.int .i64 s) := cell_of_row W5 _ 0 _ _ _ TB.out
  have k1 : W5.cell? ⟨w.heap.size + 1, 1, none⟩ = some (.int .i64 gn) := cell_of_row W5 _ 1 _ _ _ TB.out
  have k2 : W5.cell? ⟨w.heap.size + 1, 2, none⟩ = some (.int .i64 c) := cell_of_row W5 _ 2 _ _ _ TB.out
  have k3 : W5.cell? ⟨w.heap.size + 1, 3, none⟩ = some (.int .i64 v) := cell_of_row W5 _ 3 _ _ _ TB.out
  have k4 : W5.cell? ⟨w.heap.size + 1, 4, none⟩ = some (.bool ok) := cell_of_row W5 _ 4 _ _ _ TB.out
  have k5 : W5.cell? ⟨w.heap.size + 1, 5, none⟩ = some (.int .i64 trap) := cell_of_row W5 _ 5 _ _ _ TB.out
  exact bodyPost_ret (v := .agg #[.int .i64 s, .int .i64 gn, .int .i64 c, .int .i64 v, .bool ok, .int .i64 trap]) (by simp [results, Try.results55, go_sem, k0, k1, k2, k3, k4, k5]) rfl ⟨rfl, LL.out, F2.out⟩
theorem wake_ok {w : World} {F : Nat → Prop} {g : Nat} {v0 : Value} {ms : List CM} (h : Chs w F g v0 ms) (x : Wt) (v : Int) (ok : Bool) (trap : Int) (hn : ms.length ≤ 1024) (hfit : ∀ m ∈ ms, m.ch.Fit) :
    Calls Try.prog 55 #[.pointer (some ⟨g, 0, none⟩), x.val, .int .i64 v, .bool ok, .int .i64 trap] w (WakePost F g (chs ms) x v ok trap w) :=
  (wake_okV h x v ok trap hn hfit).mono fun _ _ ⟨h1, h2, h3⟩ => ⟨h1, h2.is, h3⟩
end Go.Proofs.Yteffmnohgnmanaa
/- What the calls on channels come to, as plain data. -/
namespace Go.Proofs.Yteffmnohgnmanaa
set_option linter.unusedVariables false
open Go.RowKit
/-- What a call did. -/
structure Mv where
  waits : Bool := false
  value : Int := 0
  ok : Bool := false
  trap : Int := 0
  woken : List Wk := []
  deriving DecidableEq
def wks (l : List Wk) : List Value := l.flatMap Wk.cells
theorem wks_len (l : List Wk) : (wks l).length = l.length * 6 := flat_len (f := Wk.cells) (sz := 6) (fun _ => rfl) l
def Mv.val (m : Mv) (wv : Value) : Value := .agg #[.bool m.waits, .int .i64 m.value, .bool m.ok, .int .i64 m.trap, wv]
/-- Channel k (from 0 on) turned. -/
def setK (l : List Ch) (ch : Int) (c : Ch) : List Ch := l.set (ch - 1).toNat c
def sendL (l : List Ch) (ch gs gg v : Int) : List Ch × Mv × Int :=
  if waitsL gs gg l then (l, {}, 111) else if trapC l ch ≠ 0 then (l, { trap := trapC l ch }, 0) else
  match getC l ch with
  | none => (l, { waits := true }, 0)
  | some c =>
    if c.cl then (l, { trap := 6 }, 0) else
    match c.rcv with
    | x :: _ => (leaveL x.s x.g l, { ok := true, woken := [⟨x.s, x.g, x.c, v, true, 0⟩] }, 0)
    | [] => if (c.vals.length : Int) < c.cap then (setK l ch { c with vals := c.vals ++ [v] }, { ok := true }, 0) else (setK l ch { c with snd := c.snd ++ [⟨gs, gg, 0, v⟩] }, { waits := true }, 0)
def recvL (l : List Ch) (ch gs gg : Int) : List Ch × Mv × Int :=
  if waitsL gs gg l then (l, {}, 111) else if trapC l ch ≠ 0 then (l, { trap := trapC l ch }, 0) else
  match getC l ch with
  | none => (l, { waits := true }, 0)
  | some c =>
    match c.vals with
    | v :: vs =>
      match c.snd with
      | [] => (setK l ch { c with vals := vs }, { value := v, ok := true }, 0)
      | x :: _ => (leaveL x.s x.g (setK l ch { c with vals := vs ++ [x.v] }), { value := v, ok := true, woken := [⟨x.s, x.g, x.c, 0, true, 0⟩] }, 0)
    | [] =>
      match c.snd with
      | x :: _ => (leaveL x.s x.g l, { value := x.v, ok := true, woken := [⟨x.s, x.g, x.c, 0, true, 0⟩] }, 0)
      | [] => if c.cl then (l, {}, 0) else (setK l ch { c with rcv := c.rcv ++ [⟨gs, gg, 0, 0⟩] }, { waits := true }, 0)
def waitL (l : List Ch) (ch : Int) (x : Wt) (send : Bool) : List Ch × Int :=
  match getC l ch with
  | none => (l, trapC l ch)
  | some c => if send then (setK l ch { c with snd := c.snd ++ [x] }, 0) else (setK l ch { c with rcv := c.rcv ++ [{ x with v := 0 }] }, 0)
theorem isG_self (x : Wt) : isG x.s x.g x = true := by simp [isG]
theorem wout_lt {x : Wt} {l : List Wt} : (wout x.s x.g (x :: l)).length < (x :: l).length := by
  have h : wout x.s x.g (x :: l) = wout x.s x.g l := by simp [wout, isG_self]
  rw [h]; have := wout_le x.s x.g l; simp; omega
theorem leaveL_get {gs gg : Int} {l : List Ch} {k : Nat} : (leaveL gs gg l)[k]? = (l[k]?).map (leaveCh gs gg) := by simp [leaveL]
/-- The others that wait at channel k are woken one by one. -/
def wakeR (l : List Ch) (k : Nat) (acc : List Wk) : List Ch × List Wk :=
  match h : l[k]? with
  | none => (l, acc)
  | some c =>
    match hc : c.rcv with
    | [] => (l, acc)
    | x :: r => wakeR (leaveL x.s x.g l) k (acc ++ [⟨x.s, x.g, x.c, 0, false, 0⟩])
termination_by match l[k]? with | some c => c.rcv.length | none => 0
decreasing_by
  rw [leaveL_get, h]
  simp only [Option.map_some, leaveCh, hc]
  exact wout_lt
def wakeS (l : List Ch) (k : Nat) (acc : List Wk) : List Ch × List Wk :=
  match h : l[k]? with
  | none => (l, acc)
  | some c =>
    match hc : c.snd with
    | [] => (l, acc)
    | x :: r => wakeS (leaveL x.s x.g l) k (acc ++ [⟨x.s, x.g, x.c, 0, false, 6⟩])
termination_by match l[k]? with | some c => c.snd.length | none => 0
decreasing_by
  rw [leaveL_get, h]
  simp only [Option.map_some, leaveCh, hc]
  exact wout_lt
def closeL (l : List Ch) (ch : Int) : List Ch × Mv :=
  if trapC l ch ≠ 0 then (l, { trap := trapC l ch }) else
  match getC l ch with
  | none => (l, { trap := 8 })
  | some c =>
    if c.cl then (l, { trap := 7 }) else
    let a := wakeR (setK l ch { c with cl := true }) (ch - 1).toNat []
    let b := wakeS a.1 (ch - 1).toNat a.2
    (b.1, { woken := b.2 })

/-! ### a block of five cells -/
theorem blk5 {w : World} {B : Nat} {x0 x1 x2 x3 x4 : Value} {t : TypeId} (h : w.heap[B]? = some (.cells #[x0, x1, x2, x3, x4] t (0, 0))) :
    (w.cell? ⟨B, 0, none⟩ = some x0 ∧ w.cell? ⟨B, 1, none⟩ = some x1 ∧ w.cell? ⟨B, 2, none⟩ = some x2 ∧ w.cell? ⟨B, 3, none⟩ = some x3 ∧ w.cell? ⟨B, 4, none⟩ = some x4) ∧
    (w.frozen? ⟨B, 0, none⟩ = false ∧ w.frozen? ⟨B, 1, none⟩ = false ∧ w.frozen? ⟨B, 2, none⟩ = false ∧ w.frozen? ⟨B, 3, none⟩ = false ∧ w.frozen? ⟨B, 4, none⟩ = false) :=
  ⟨⟨cell_of_row w _ 0 _ _ _ h, cell_of_row w _ 1 _ _ _ h, cell_of_row w _ 2 _ _ _ h, cell_of_row w _ 3 _ _ _ h, cell_of_row w _ 4 _ _ _ h⟩,
   ⟨frozen_of_row w _ 0 _ _ h, frozen_of_row w _ 1 _ _ h, frozen_of_row w _ 2 _ _ h, frozen_of_row w _ 3 _ _ h, frozen_of_row w _ 4 _ _ h⟩⟩
/-- Five cells of a block are written. -/
def set5 (w : World) (B : Nat) (a b c d e : Value) : World := ((((w.setCell ⟨B, 0, none⟩ a).setCell ⟨B, 1, none⟩ b).setCell ⟨B, 2, none⟩ c).setCell ⟨B, 3, none⟩ d).setCell ⟨B, 4, none⟩ e
theorem set5_heap {w : World} {B : Nat} {x0 x1 x2 x3 x4 : Value} {t : TypeId} (h : w.heap[B]? = some (.cells #[x0, x1, x2, x3, x4] t (0, 0))) (a b c d e : Value) : (set5 w B a b c d e).heap[B]? = some (.cells #[a, b, c, d, e] t (0, 0)) := cells5 h a b c d e
theorem set5_fr {S : Nat → Prop} {w : World} {B : Nat} (hB : S B) (a b c d e : Value) : Fr S w (set5 w B a b c d e) :=
  ((((Fr.refl.setCell (p := ⟨B, 0, none⟩) a (.inl hB)).setCell (p := ⟨B, 1, none⟩) b (.inl hB)).setCell (p := ⟨B, 2, none⟩) c (.inl hB)).setCell (p := ⟨B, 3, none⟩) d (.inl hB)).setCell (p := ⟨B, 4, none⟩) e (.inl hB)
/-- A call's end that tells what it did, with an error's number; the channels are l' now. -/
def MvPost (F : Nat → Prop) (g : Nat) (w : World) (l' : List Ch) (m : Mv) (err : Int) (e : Ending) (w' : World) : Prop :=
  ∃ wv, e = .returned (tup2 (m.val wv) (.int .i64 err)) ∧ RowF w' (New w) 39 6 wv (wks m.woken) ∧ Step F g w l' w'
theorem IsCh.step {w w' : World} {F F' : Nat → Prop} {g : Nat} {l : List Ch} (h : IsCh w' F' g l) (hs : ∀ k, F' k → F k ∨ w.heap.size ≤ k) (hf : Fr F w w') : Step F g w l w' := ⟨F', h, hs, hf⟩
end Go.Proofs.Yteffmnohgnmanaa
/- One more in one of a channel's rows. -/
namespace Go.Proofs.Yteffmnohgnmanaa
open Go.RowKit
/-- The channels at g are l' now, in blocks of F and new ones; what else may have changed lies in F. -/
def Step2 (F : Nat → Prop) (g : Nat) (w : World) (l' : List Ch) (w' : World) : Prop := ∃ F' : Nat → Prop, IsCh w' F' g l' ∧ (∀ q, F' q → F q ∨ w.heap.size ≤ q) ∧ Fr F w w'
section
variable {w w2 : World} {F : Nat → Prop} {k L n c g gg nn cap : Nat} {ms : List CM} {m : CM}
theorem chs_set {ms : List CM} {k : Nat} {x : CM} : chs (ms.set k x) = (chs ms).set k x.ch := by unfold chs; rw [List.map_set]
theorem gg_row {v : Value} {e sz : Nat} {xs ys : List Value} (hrow : RowF w F e sz v ys) (hown : w2.ownsRow 0 e sz (.slice (some ⟨gg, 0, none⟩) nn cap) nn xs) (hat : v.ownBlock = some gg ∨ gg = w.heap.size) :
    RowF w2 (fun q => F q ∨ q = gg) e sz (.slice (some ⟨gg, 0, none⟩) nn cap) xs ∧ Lies w v (.slice (some ⟨gg, 0, none⟩) nn cap) ∧ (F gg ∨ w.heap.size ≤ gg) := by
  refine ⟨⟨⟨nn, hown⟩, fun q hq => by simp [Value.ownBlock] at hq; exact .inr hq.symm⟩, fun q hq => ?_, ?_⟩
  · simp [Value.ownBlock] at hq; subst hq
    rcases hat with h | h
    · exact .inl h
    · exact .inr (by omega)
  · rcases hat with h | h
    · exact .inl (hrow.2 gg h)
    · exact .inr (by omega)
theorem appendV {l' : List Int} (h : Chs w F g (.slice (some ⟨L, 0, none⟩) n c) ms) (hk : ms[k]? = some m) (hL : F L) (hown : w2.ownsRow 0 2 1 (.slice (some ⟨gg, 0, none⟩) nn cap) nn (ints l')) (hgrow : w.grownBy w2 m.vv.ownBlock)
    (hat : m.vv.ownBlock = some gg ∨ gg = w.heap.size) (hlt : gg < w2.heap.size) : Step2 F g w ((chs ms).set k { m.ch with vals := l' }) (w2.setCell ⟨L, k * 5 + 1, none⟩ (.slice (some ⟨gg, 0, none⟩) nn cap)) := by
  have hm := h.own.each m (List.mem_of_getElem? hk)
  obtain ⟨r1, r2, r3⟩ := gg_row hm.vals hown hat
  have hfr : Fr (fun q => m.vv.ownBlock = some q) w w2 := Fr.refl.grown hgrow (fun q hq => .inl hq)
  refine ⟨_, ⟨_, _, h.putV hk hfr (fun q hq => .inl hq) ?_ r1 r2, chs_set⟩, ?_, ?_⟩
  · rintro q (hq | rfl)
    · exact Nat.lt_of_lt_of_le (h.lt q hq) hgrow.size
    · exact hlt
  · rintro q (hq | rfl)
    · exact .inl hq
    · exact r3
  · exact (hfr.mono (fun q hq => hm.vals.2 q hq)).setCell (p := ⟨L, k * 5 + 1, none⟩) _ (.inl hL)
theorem appendS {l' : List Wt} (h : Chs w F g (.slice (some ⟨L, 0, none⟩) n c) ms) (hk : ms[k]? = some m) (hL : F L) (hown : w2.ownsRow 0 114 4 (.slice (some ⟨gg, 0, none⟩) nn cap) nn (wts l')) (hgrow : w.grownBy w2 m.sv.ownBlock)
    (hat : m.sv.ownBlock = some gg ∨ gg = w.heap.size) (hlt : gg < w2.heap.size) : Step2 F g w ((chs ms).set k { m.ch with snd := l' }) (w2.setCell ⟨L, k * 5 + 2, none⟩ (.slice (some ⟨gg, 0, none⟩) nn cap)) := by
  have hm := h.own.each m (List.mem_of_getElem? hk)
  obtain ⟨r1, r2, r3⟩ := gg_row hm.snd hown hat
  have hfr : Fr (fun q => m.sv.ownBlock = some q) w w2 := Fr.refl.grown hgrow (fun q hq => .inl hq)
  refine ⟨_, ⟨_, _, h.putS hk hfr (fun q hq => .inl hq) ?_ r1 r2, chs_set⟩, ?_, ?_⟩
  · rintro q (hq | rfl)
    · exact Nat.lt_of_lt_of_le (h.lt q hq) hgrow.size
    · exact hlt
  · rintro q (hq | rfl)
    · exact .inl hq
    · exact r3
  · exact (hfr.mono (fun q hq => hm.snd.2 q hq)).setCell (p := ⟨L, k * 5 + 2, none⟩) _ (.inl hL)
theorem appendR {l' : List Wt} (h : Chs w F g (.slice (some ⟨L, 0, none⟩) n c) ms) (hk : ms[k]? = some m) (hL : F L) (hown : w2.ownsRow 0 114 4 (.slice (some ⟨gg, 0, none⟩) nn cap) nn (wts l')) (hgrow : w.grownBy w2 m.rv.ownBlock)
    (hat : m.rv.ownBlock = some gg ∨ gg = w.heap.size) (hlt : gg < w2.heap.size) : Step2 F g w ((chs ms).set k { m.ch with rcv := l' }) (w2.setCell ⟨L, k * 5 + 3, none⟩ (.slice (some ⟨gg, 0, none⟩) nn cap)) := by
  have hm := h.own.each m (List.mem_of_getElem? hk)
  obtain ⟨r1, r2, r3⟩ := gg_row hm.rcv hown hat
  have hfr : Fr (fun q => m.rv.ownBlock = some q) w w2 := Fr.refl.grown hgrow (fun q hq => .inl hq)
  refine ⟨_, ⟨_, _, h.putR hk hfr (fun q hq => .inl hq) ?_ r1 r2, chs_set⟩, ?_, ?_⟩
  · rintro q (hq | rfl)
    · exact Nat.lt_of_lt_of_le (h.lt q hq) hgrow.size
    · exact hlt
  · rintro q (hq | rfl)
    · exact .inl hq
    · exact r3
  · exact (hfr.mono (fun q hq => hm.rcv.2 q hq)).setCell (p := ⟨L, k * 5 + 3, none⟩) _ (.inl hL)
end
/-- A step behind which a block of the call's own is written. -/
theorem Step2.then {w W w2 w3 : World} {F S : Nat → Prop} {g : Nat} {l : List Ch} (h : Step2 F g W l w2) (h1 : Fr E0 w W) (hF : ∀ q, F q → q < w.heap.size) (h3 : Fr S w2 w3) (hS : ∀ q, S q → w.heap.size ≤ q ∧ q < W.heap.size) : Step F g w l w3 := by
  obtain ⟨F', i1, i2, i3⟩ := h
  refine ⟨F', i1.fr h3 (fun q hq hs => ?_), fun q hq => ?_, ((h1.e0 (S := F)).trans i3).trans' h3 (fun q hq => .inr (hS q hq).1)⟩
  · have := hS q hs
    rcases i2 q hq with hq | hq
    · have := hF q hq; omega
    · omega
  · have := h1.size
    rcases i2 q hq with hq | hq
    · exact .inl hq
    · exact .inr (by omega)
theorem news1 {w : World} (o : Array Value) (e : TypeId) : ∀ j u, o.toList[j]? = some u → (w.alloc (.cells o e)).cell? ((⟨w.heap.size, 0, none⟩ : Addr).add j) = some u := World.news_of_block (heap_alloc_new w _)
end Go.Proofs.Yteffmnohgnmanaa
