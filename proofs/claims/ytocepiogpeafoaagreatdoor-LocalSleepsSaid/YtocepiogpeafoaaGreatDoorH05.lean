/- Words and contracts of calls that the law needs (Maps2, Tab, TabOk): merged by wip/gen/zmerge.py. No condition but those that each theorem names. -/
import Derived.Laws.Tables
import Derived.Test.YtocepiogpeafoaaGreatDoorProg
import Derived.Laws.Rows
import Derived.Test.YtocepiogpeafoaaGreatDoorH02
import Derived.Test.YtocepiogpeafoaaGreatDoorH04
set_option linter.unusedVariables false
/- Maps that are written, looked up and emptied: what the builtins do. -/
namespace Go.Proofs.YtocepiogpeafoaaGreatDoor
open Go.RowKit
/-- the world with a block turned -/
def setMap (w : World) (r : Nat) (o : Obj) : World := { w with heap := w.heap.setIfInBounds r o }
@[simp] theorem setMap_size (w : World) (r : Nat) (o : Obj) : (setMap w r o).heap.size = w.heap.size := by simp [setMap]
theorem setMap_at {w : World} {r : Nat} {o o' : Obj} (h : w.heap[r]? = some o') : (setMap w r o).heap[r]? = some o := by
  have := heap_lt h
  simp [setMap, this]
theorem setMap_other {w : World} {r k : Nat} {o : Obj} (h : k ≠ r) : (setMap w r o).heap[k]? = w.heap[k]? := by
  simp [setMap, Ne.symm h]
theorem setMap_cell {w : World} {r b j : Nat} {o : Obj} (h : b ≠ r) : (setMap w r o).cell? ⟨b, j, none⟩ = w.cell? ⟨b, j, none⟩ := World.cell?_of_block (setMap_other h)
theorem setMap_frozen {w : World} {r b j : Nat} {o : Obj} (h : b ≠ r) : (setMap w r o).frozen? ⟨b, j, none⟩ = w.frozen? ⟨b, j, none⟩ := World.frozen?_of_block (setMap_other h)
theorem Fr.setMap {S : Nat → Prop} {w w' : World} (h : Fr S w w') {r : Nat} (o : Obj) (hp : S r ∨ w.heap.size ≤ r) : Fr S w (setMap w' r o) :=
  ⟨h.os, h.tape, h.output, by have := h.size; simpa using this, fun i hi hs => by
    rw [setMap_other (fun e => by subst e; exact hp.elim hs (fun y => by omega))]; exact h.block i hi hs⟩
/-- int keys, none of which is x -/
def noKey (x : Int) : List MapEntry → Bool
  | [] => true
  | e :: es => (match e.key with | .int .i64 k => x != k | _ => false) && noKey x es
theorem findNow_no {x : Int} {es : List MapEntry} (h : noKey x es = true) : ∀ i, Instr.findNow (.int .i64) (.int .i64 x) es i = some none := by
  induction es with
  | nil => intro i; rfl
  | cons e es ih =>
    intro i
    simp only [noKey, Bool.and_eq_true] at h
    obtain ⟨h1, h2⟩ := h
    obtain ⟨k, v, b⟩ := e
    simp only at h1
    split at h1
    · rename_i k' 
      have : (x == k') = false := by simpa using h1
      simp [Instr.findNow, Instr.sameNow, this, ih h2]
    · simp at h1
theorem run_update_new {P : Program} {w : World} {t k e r c : Nat} {x : Int} {v : Value} {es : Array MapEntry} (hu : P.underlying t = some (.map k e)) (hk : P.underlying k = some (.int .i64)) (hb : w.heap[r]? = some (.map es c)) (hn : noKey x es.toList = true) :
    (Instr.mapUpdate t (.map (some r)) (.int .i64 x) v).run P w = .ok () (setMap w r (.map (es.push ⟨.int .i64 x, v, c⟩) (c + 1))) := by
  have hc := checkKey_int (P := P) (w := w) (k := k) (b := false) (n := 9999) (x := x) hk
  have hg := run_getObj_map (P := P) w r _ _ hb
  have hf : (Instr.findKey k (.int .i64 x) es.toList).run P w = .ok none w := by simp [Instr.findKey, run_underlying hk, findNow_no hn]
  unfold Instr.mapUpdate
  have hs := Go.MapKept.run_setObj_map (P := P) (.map (es.push ⟨.int .i64 x, v, c⟩) (c + 1)) hb
  simp [run_underlying hu, Sem.run_bind, hg, hc, hf, hs]
  rfl
theorem run_lookup_hit {P : Program} {w : World} {t k e r c i : Nat} {x : Int} {v : Value} {es : Array MapEntry} {b : Bool} (hu : P.underlying t = some (.map k e)) (hk : P.underlying k = some (.int .i64)) (hb : w.heap[r]? = some (.map es c))
    (hh : Instr.findNow (.int .i64) (.int .i64 x) es.toList 0 = some (some (i, v))) :
    (Instr.lookup t (.map (some r)) (.int .i64 x) b).run P w = .ok (if b then .tuple #[v, .bool true] else v) w := by
  have hc := checkKey_int (P := P) (w := w) (k := k) (b := es.isEmpty) (n := 9999) (x := x) hk
  have hg := run_getObj_map (P := P) w r _ _ hb
  have hf : (Instr.findKey k (.int .i64 x) es.toList).run P w = .ok (some (i, v)) w := by simp [Instr.findKey, run_underlying hk, hh]
  unfold Instr.lookup
  cases b <;> simp [run_underlying hu, Sem.run_bind, hg, hc, hf]
theorem run_delete_one {P : Program} {w : World} {t k e r c b0 ty : Nat} {x : Int} {v : Value} (hu : P.underlying t = some (.map k e)) (hk : P.underlying k = some (.int .i64)) (hb : w.heap[r]? = some (.map #[⟨.int .i64 x, v, b0⟩] c)) :
    (Builtin.delete_ #[t, k] ty #[.map (some r), .int .i64 x]).run P w = .ok (.tuple #[]) (setMap w r (.map #[] c)) := by
  have hc := checkKey_int (P := P) (w := w) (k := k) (b := false) (n := 9999) (x := x) hk
  have hg := run_getObj_map (P := P) w r _ _ hb
  have hf := findKey_one (P := P) (w := w) (b0 := b0) (x := x) (v := v) hk
  have hs := Go.MapKept.run_setObj_map (P := P) (.map #[] c) hb
  unfold Builtin.delete_
  simp [run_underlying hu, Sem.run_bind, hg, hc, hf, hs, Array.eraseIdxIfInBounds]
  rfl
theorem setRow_setMap {w : World} {g : Nat} {old cs : Array Value} {t : TypeId} {fr : Nat × Nat} (h : w.heap[g]? = some (.cells old t fr)) : w.setRow g cs = setMap w g (.cells cs t fr) := by
  unfold World.setRow setMap
  congr 1
  apply Array.ext_getElem?
  intro k
  rw [Array.getElem?_modify, Array.getElem?_setIfInBounds]
  by_cases hk : g = k
  · subst hk
    rw [if_pos rfl, if_pos rfl, h, if_pos (heap_lt h)]; rfl
  · rw [if_neg hk, if_neg hk]
/-- a block of the type t holds n cells -/
def FitsN (t : TypeId) (n : Nat) (u : World) (T : Nat) : Prop := ∃ old, u.heap[T]? = some (.cells old t (0, 0)) ∧ old.size = n
theorem fitsN_new (t : TypeId) (z : Array Value) (n : Nat) (hz : z.size = n) (u : World) (T : Nat) (h : T = u.heap.size) : FitsN t n (u.alloc (.cells z t)) T := ⟨z, by subst h; exact heap_alloc_new u _, hz⟩
theorem fitsN_old {t : TypeId} {n : Nat} {u : World} {T : Nat} (X : Obj) (h : FitsN t n u T) : FitsN t n (u.alloc X) T := by
  obtain ⟨old, h1, h2⟩ := h
  exact ⟨old, (heap_alloc_old _ _ (heap_lt h1)).trans h1, h2⟩
theorem fitsN_drew {t : TypeId} {n : Nat} {u : World} {T : Nat} (h : FitsN t n u T) : FitsN t n u.drew T := h
theorem fitsN_drewN {t : TypeId} {n : Nat} {u : World} {T : Nat} (k : Nat) (h : FitsN t n u T) : FitsN t n (u.drewN k) T := h
theorem setMap_fits {t : TypeId} {n : Nat} {u : World} {T : Nat} (o : Obj) (h : FitsN t n u T) : (setMap u T o).heap[T]? = some o := by
  obtain ⟨old, h1, _⟩ := h
  exact setMap_at h1
/-- a struct's cells are stored into a block of its type, all at once -/
theorem run_store_fits {P : Program} {t : TypeId} {n : Nat} {u : World} {T : Nat} {cs : Array Value} (h : FitsN t n u T) (hn : cs.size = n) (h1 : ∀ v ∈ cs.toList, v.oneCell' = true) :
    (storeCells ⟨T, 0, none⟩ cs.toList).run P u = .ok () (setMap u T (.cells cs t (0, 0))) := by
  obtain ⟨old, h2, h3⟩ := h
  have := run_storeCells_from (P := P) T t cs.toList 0 old u h2 (by simp; omega) h1
  rw [this, setRow_setMap h2]
  simp
/-- a struct that is built, its cells under a name -/
theorem wpList_build_eq {P : Program} {ops : Array Oper} {rest : List Oper} {o : Oper} {a : Act} {w : World} {Q : Exit → Act → World → Prop} (hg : o.guard = none) (t : TypeId) (parts : Array (Nat × Operand)) (ho : o.op = .build t parts) (cells : Array Value)
    (hb : P.built t (parts.map fun (i, x) => (i, a.eval x)).toList = some cells)
    (h : wpList P ops Q rest (a.put o.dst (.agg cells)) w) : wpList P ops Q (o :: rest) a w :=
  wpList_build hg t parts ho (by rw [hb]; rfl) (by rw [hb]; exact h)
end Go.Proofs.YtocepiogpeafoaaGreatDoor
/- word.table, find, register. Printed by wip/gen/zword.py. -/
namespace Go.Proofs.YtocepiogpeafoaaGreatDoor
open Go.RowKit
/-- A row of the table. -/
structure Rw where
  name : ByteArray
  shape : Int
  cost : Int
  reads : ByteArray
  writes : ByteArray
def Rw.cells (r : Rw) : List Value := [.string r.name, .int .i64 r.shape, .int .i64 r.cost, .string r.reads, .string r.writes]
def Rw.val (r : Rw) : Value := .agg #[.string r.name, .int .i64 r.shape, .int .i64 r.cost, .string r.reads, .string r.writes]
def rowsL : List Rw := [⟨⟨#[110, 111, 112]⟩, 0, 1, ⟨#[]⟩, ⟨#[]⟩⟩, ⟨⟨#[115, 101, 116]⟩, 6, 1, ⟨#[]⟩, ⟨#[97]⟩⟩, ⟨⟨#[104, 105, 103, 104]⟩, 5, 1, ⟨#[97]⟩, ⟨#[97]⟩⟩, ⟨⟨#[109, 111, 118, 101]⟩, 2, 1, ⟨#[98]⟩, ⟨#[97]⟩⟩, ⟨⟨#[97, 100, 100]⟩, 3, 1, ⟨#[98, 99]⟩, ⟨#[97]⟩⟩, ⟨⟨#[115, 117, 98]⟩, 3, 1, ⟨#[98, 99]⟩, ⟨#[97]⟩⟩, ⟨⟨#[109, 117, 108]⟩, 3, 3, ⟨#[98, 99]⟩, ⟨#[97]⟩⟩, ⟨⟨#[100, 105, 118]⟩, 3, 8, ⟨#[98, 99]⟩, ⟨#[97]⟩⟩, ⟨⟨#[114, 101, 109]⟩, 3, 8, ⟨#[98, 99]⟩, ⟨#[97]⟩⟩, ⟨⟨#[97, 110, 100]⟩, 3, 1, ⟨#[98, 99]⟩, ⟨#[97]⟩⟩, ⟨⟨#[111, 114]⟩, 3, 1, ⟨#[98, 99]⟩, ⟨#[97]⟩⟩, ⟨⟨#[120, 111, 114]⟩, 3, 1, ⟨#[98, 99]⟩, ⟨#[97]⟩⟩, ⟨⟨#[115, 104, 108]⟩, 3, 1, ⟨#[98, 99]⟩, ⟨#[97]⟩⟩, ⟨⟨#[115, 104, 114]⟩, 3, 1, ⟨#[98, 99]⟩, ⟨#[97]⟩⟩, ⟨⟨#[108, 101, 115, 115]⟩, 3, 1, ⟨#[98, 99]⟩, ⟨#[97]⟩⟩, ⟨⟨#[101, 113, 117, 97, 108]⟩, 3, 1, ⟨#[98, 99]⟩, ⟨#[97]⟩⟩, ⟨⟨#[106, 117, 109, 112]⟩, 4, 1, ⟨#[]⟩, ⟨#[]⟩⟩, ⟨⟨#[122, 101, 114, 111]⟩, 5, 1, ⟨#[97]⟩, ⟨#[]⟩⟩, ⟨⟨#[115, 111, 109, 101]⟩, 5, 1, ⟨#[97]⟩, ⟨#[]⟩⟩, ⟨⟨#[99, 97, 108, 108]⟩, 4, 2, ⟨#[]⟩, ⟨#[]⟩⟩, ⟨⟨#[114, 101, 116]⟩, 0, 2, ⟨#[]⟩, ⟨#[]⟩⟩, ⟨⟨#[115, 112, 97, 119, 110]⟩, 5, 4, ⟨#[97, 108, 108]⟩, ⟨#[97]⟩⟩, ⟨⟨#[121, 105, 101, 108, 100]⟩, 0, 1, ⟨#[]⟩, ⟨#[]⟩⟩, ⟨⟨#[101, 120, 105, 116]⟩, 0, 1, ⟨#[]⟩, ⟨#[]⟩⟩, ⟨⟨#[115, 101, 108, 102]⟩, 1, 1, ⟨#[]⟩, ⟨#[97]⟩⟩, ⟨⟨#[110, 111, 119]⟩, 1, 1, ⟨#[]⟩, ⟨#[97]⟩⟩, ⟨⟨#[115, 108, 101, 101, 112]⟩, 1, 1, ⟨#[97]⟩, ⟨#[]⟩⟩, ⟨⟨#[109, 97, 107, 101]⟩, 2, 4, ⟨#[98]⟩, ⟨#[97]⟩⟩, ⟨⟨#[115, 101, 110, 100]⟩, 2, 2, ⟨#[97, 98]⟩, ⟨#[]⟩⟩, ⟨⟨#[114, 101, 99, 118]⟩, 3, 2, ⟨#[99]⟩, ⟨#[97, 98]⟩⟩, ⟨⟨#[99, 108, 111, 115, 101]⟩, 1, 2, ⟨#[97]⟩, ⟨#[]⟩⟩, ⟨⟨#[108, 101, 110]⟩, 2, 1, ⟨#[98]⟩, ⟨#[97]⟩⟩, ⟨⟨#[99, 97, 112]⟩, 2, 1, ⟨#[98]⟩, ⟨#[97]⟩⟩, ⟨⟨#[115, 101, 108, 101, 99, 116]⟩, 5, 4, ⟨#[97, 108, 108]⟩, ⟨#[97, 108, 108]⟩⟩, ⟨⟨#[108, 111, 99, 107]⟩, 1, 2, ⟨#[97]⟩, ⟨#[]⟩⟩, ⟨⟨#[117, 110, 108, 111, 99, 107]⟩, 1, 2, ⟨#[97]⟩, ⟨#[]⟩⟩, ⟨⟨#[114, 108, 111, 99, 107]⟩, 1, 2, ⟨#[97]⟩, ⟨#[]⟩⟩, ⟨⟨#[114, 117, 110, 108, 111, 99, 107]⟩, 1, 2, ⟨#[97]⟩, ⟨#[]⟩⟩, ⟨⟨#[119, 97, 100, 100]⟩, 2, 2, ⟨#[97, 98]⟩, ⟨#[]⟩⟩, ⟨⟨#[119, 100, 111, 110, 101]⟩, 1, 2, ⟨#[97]⟩, ⟨#[]⟩⟩, ⟨⟨#[119, 119, 97, 105, 116]⟩, 1, 2, ⟨#[97]⟩, ⟨#[]⟩⟩, ⟨⟨#[99, 119, 97, 105, 116]⟩, 2, 3, ⟨#[97, 98]⟩, ⟨#[]⟩⟩, ⟨⟨#[115, 105, 103, 110, 97, 108]⟩, 1, 2, ⟨#[97]⟩, ⟨#[]⟩⟩, ⟨⟨#[98, 114, 111, 97, 100, 99, 97, 115, 116]⟩, 1, 3, ⟨#[97]⟩, ⟨#[]⟩⟩, ⟨⟨#[97, 99, 113, 117, 105, 114, 101]⟩, 1, 2, ⟨#[97]⟩, ⟨#[]⟩⟩, ⟨⟨#[114, 101, 108, 101, 97, 115, 101]⟩, 1, 2, ⟨#[97]⟩, ⟨#[]⟩⟩, ⟨⟨#[108, 111, 97, 100]⟩, 2, 2, ⟨#[98]⟩, ⟨#[97]⟩⟩, ⟨⟨#[115, 116, 111, 114, 101]⟩, 2, 2, ⟨#[97, 98]⟩, ⟨#[]⟩⟩, ⟨⟨#[115, 119, 97, 112]⟩, 3, 3, ⟨#[97, 98, 99]⟩, ⟨#[97]⟩⟩, ⟨⟨#[102, 101, 116, 99, 104]⟩, 3, 3, ⟨#[98, 99]⟩, ⟨#[97]⟩⟩, ⟨⟨#[105, 110, 112, 117, 116]⟩, 2, 2, ⟨#[]⟩, ⟨#[97, 98]⟩⟩, ⟨⟨#[111, 117, 116, 112, 117, 116]⟩, 1, 2, ⟨#[97]⟩, ⟨#[]⟩⟩, ⟨⟨#[112, 117, 116]⟩, 3, 2, ⟨#[97, 98]⟩, ⟨#[99]⟩⟩, ⟨⟨#[103, 101, 116]⟩, 3, 2, ⟨#[99]⟩, ⟨#[97, 98]⟩⟩, ⟨⟨#[97, 102, 116, 101, 114]⟩, 3, 3, ⟨#[98, 99]⟩, ⟨#[97]⟩⟩, ⟨⟨#[101, 118, 101, 114, 121]⟩, 3, 3, ⟨#[98, 99]⟩, ⟨#[97]⟩⟩, ⟨⟨#[115, 116, 111, 112]⟩, 2, 2, ⟨#[98]⟩, ⟨#[97]⟩⟩, ⟨⟨#[116, 114, 97, 112]⟩, 4, 1, ⟨#[]⟩, ⟨#[]⟩⟩]
theorem rowsL_shapes : rowsL.map (·.shape) = shapes := rfl
def tab : Array Value := (rowsL.flatMap Rw.cells).toArray
def tabRow (op : Int) : Rw := rowsL.getD (op - 1).toNat ⟨⟨#[]⟩, 0, 0, ⟨#[]⟩, ⟨#[]⟩⟩
theorem tabRow_shape (op : Int) : (tabRow op).shape = shp op := by
  unfold tabRow shp
  rw [← rowsL_shapes, List.getD_eq_getElem?_getD, List.getD_eq_getElem?_getD, List.getElem?_map]
  cases rowsL[(op - 1).toNat]? <;> rfl
theorem flat_cut {α : Type} {f : α → List Value} {sz : Nat} (hf : ∀ x, (f x).length = sz) : ∀ (l : List α) (k : Nat) (x : α), l[k]? = some x → ((l.flatMap f).drop (k * sz)).take sz = f x
  | [], k, x, h => by simp at h
  | y :: l, 0, x, h => by
    simp at h; subst h
    rw [List.flatMap_cons, Nat.zero_mul, List.drop_zero, List.take_append_of_le_length (by rw [hf]; omega), List.take_of_length_le (by rw [hf]; omega)]
  | y :: l, k + 1, x, h => by
    rw [List.flatMap_cons, List.drop_append, List.drop_of_length_le (by rw [hf, Nat.add_mul]; omega), hf, show (k + 1) * sz - sz = k * sz by rw [Nat.add_mul]; omega, List.nil_append]
    exact flat_cut hf l k x (by simpa using h)
theorem tab_cut (op : Int) (h1 : 1 ≤ op) (h2 : op ≤ 58) : tab.extract ((op.toNat - 1) * 5) ((op.toNat - 1) * 5 + 5) = #[.string (tabRow op).name, .int .i64 (tabRow op).shape, .int .i64 (tabRow op).cost, .string (tabRow op).reads, .string (tabRow op).writes] := by
  have hk : rowsL[op.toNat - 1]? = some (tabRow op) := by
    have hl : op.toNat - 1 < rowsL.length := by show _ < 58; omega
    unfold tabRow
    rw [List.getD_eq_getElem?_getD, show (op - 1).toNat = op.toNat - 1 by omega, List.getElem?_eq_getElem hl]; rfl
  apply Array.toList_inj.1
  rw [Array.toList_extract]
  unfold tab
  rw [List.extract_eq_take_drop, show (op.toNat - 1) * 5 + 5 - (op.toNat - 1) * 5 = 5 by omega]
  exact flat_cut (sz := 5) (fun _ => rfl) rowsL _ _ hk
theorem register_in (n : Int) (w : World) (h0 : 0 ≤ n) (h1 : n < 16) : Calls Tryz.prog 250 #[.int .i64 n] w (Ret (.bool true) E0 w) := by
  go_enter Tryz.func250, Tryz.ntmps250
  go_wp2
  go_ret
  exact ⟨rfl, Fr.refl⟩
end Go.Proofs.YtocepiogpeafoaaGreatDoor
/- word.table: the walk (some minutes). Printed by wip/gen/zword.py. -/
namespace Go.Proofs.YtocepiogpeafoaaGreatDoor
open Go.RowKit
theorem Fr.setRow {S : Nat → Prop} {w w' : World} (h : Fr S w w') {g : Nat} (cs : Array Value) (hp : S g ∨ w.heap.size ≤ g) : Fr S w (w'.setRow g cs) :=
  ⟨h.os, h.tape, h.output, by have := h.size; simpa using this, fun i hi hs => by
    rw [setRow_other _ _ _ _ (fun e => by subst e; exact hp.elim hs (fun y => by omega))]; exact h.block i hi hs⟩
theorem wp_build' {P : Program} {o : Oper} {a : Act} {w : World} {K : Act → World → Prop} {Q : Exit → Act → World → Prop} (t : TypeId) (parts : Array (Nat × Operand)) (ho : o.op = .build t parts) (cells : Array Value)
    (hf : P.built t (parts.map fun (i, x) => (i, a.eval x)).toList = some cells) (h : K (a.put o.dst (.agg cells)) w) : o.wp P a w K Q :=
  wp_build t parts ho (by rw [hf]; rfl) (by rw [hf]; exact h)
set_option maxRecDepth 100000 in
set_option maxHeartbeats 40000000 in
theorem table_ok (w : World) : Calls Tryz.prog 249 #[] w (Ret (.agg tab) E0 w) := by
  go_enter Tryz.func249, Tryz.ntmps249
  go_wp2
  refine wp_build' 439 _ rfl tab (by kernel_rfl) ?_
  rename_i hK
  refine hK _ _ ?_
  refine wpList_store_row ?hg 439 (.tmp 0) (.tmp 59) ?ho w.heap.size tab ?hx ?hy 439 Tryz.zeroCells439 ?hh ?hi ?hold ?h1 ?_
  case hg => rfl
  case ho => rfl
  case hx => rfl
  case hy => rfl
  case hh => exact heap_alloc_new w _
  case hi => kernel_rfl
  case hold => kernel_rfl
  case h1 => kernel_rfl
  go_wp2
  exact bodyPost_ret (v := .agg tab) (results_cell_row rfl _ _ w.heap.size 439 tab (0, 0) _ rfl (setRow_heap _ _ _ _ _ _ (heap_alloc_new w _)) Tryz.underlying439 rfl (by kernel_rfl)) rfl ⟨rfl, ((Fr.refl.alloc _).setRow _ (.inr (Nat.le_refl _)))⟩
end Go.Proofs.YtocepiogpeafoaaGreatDoor
