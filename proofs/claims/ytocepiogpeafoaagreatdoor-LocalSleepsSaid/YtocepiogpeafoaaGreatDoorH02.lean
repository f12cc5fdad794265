/- Words and contracts of calls that the law needs (Mem2, AppAny, WordP, Makes2): merged by wip/gen/zmerge.py. No condition but those that each theorem names. -/
import Derived.WalkSpells
import Derived.Maps.AppendAt
import Derived.OwnWalk
import Derived.Test.YtocepiogpeafoaaGreatDoorProg
import Derived.Laws.MakeOwn
import Derived.ProofKit
import Derived.Carry
import Derived.Test.YtocepiogpeafoaaGreatDoorH01
set_option linter.unusedVariables false
/- More words on memory: a call's world under a name of its own. -/
namespace Go.Proofs.YtocepiogpeafoaaGreatDoor
open Go.RowKit
/-- of a call's world only what Q tells is kept -/
theorem calls_gen {P : Program} {f : FuncId} {args : Array Value} {w : World} {R : Ending → World → Prop} (Q : World → Prop) (hq : Q w) (h : ∀ W, Q W → Calls P f args W R) : Calls P f args w R := h w hq
end Go.Proofs.YtocepiogpeafoaaGreatDoor
/- append of a slice that is read, nil or empty or not, to a row that is owned. -/
namespace Go.Proofs.YtocepiogpeafoaaGreatDoor
open Go.RowKit
set_option linter.unusedVariables false
/-- Blocks that are new since w. -/
def New (w : World) : Nat → Prop := fun k => w.heap.size ≤ k
/-- A call that makes a row. -/
def Made (e sz : Nat) (xs : List Value) (w : World) (en : Ending) (w' : World) : Prop := ∃ v, en = .returned v ∧ RowF w' (New w) e sz v xs ∧ Fr E0 w w'
theorem rowF_empty (w : World) (e : Nat) (sz : Nat) : RowF (w.alloc (.cells #[] e)) (New w) e sz (.slice (some ⟨w.heap.size, 0, none⟩) 0 0) [] :=
  ⟨⟨0, World.ownsRow_made w #[] 0 (Nat.zero_le _) (Nat.zero_le _) (by simp)⟩, fun g hg => by simp [Value.ownBlock] at hg; subst hg; exact Nat.le_refl _⟩
theorem RowF.appended {w w1 : World} {F : Nat → Prop} {e sz n : Nat} {v v' : Value} {xs : List Value} (hown : w1.ownsRow 0 e sz v' n xs) (hat : v'.ownBlock = v.ownBlock ∨ v'.ownBlock = some w.heap.size)
    (h1 : ∀ g, v.ownBlock = some g → F g) (h2 : F w.heap.size) : RowF w1 F e sz v' xs := by
  refine ⟨⟨n, hown⟩, fun g hg => ?_⟩
  rcases hat with h | h
  · exact h1 g (h ▸ hg)
  · rw [h] at hg; injection hg with hg; exact hg ▸ h2
theorem run_app_nil {P : Program} (w : World) (t ty e : TypeId) (i : TypeInfo) (size : Nat) (ht : P.underlying t = some (.slice e)) (hi : P.info? e = some i) {v : Value} {n : Nat} {xs : List Value} (hown : w.ownsRow 0 e size v n xs) (c : Nat) :
    (Builtin.append_ #[t, t] ty #[v, .slice none 0 c]).run P w = .ok v w := by
  rcases hown.2 with ⟨rfl, rfl⟩ | ⟨g, cap, cur, rfl, _, _, hnc, _⟩
  · simp [Builtin.append_, run_underlying ht, sizeOf, typeInfo, hi, Builtin.lenOf, Builtin.firstCells]
  · simp [Builtin.append_, run_underlying ht, sizeOf, typeInfo, hi, Builtin.lenOf, Builtin.firstCells, hnc, storeCells]
theorem run_app {P : Program} (w : World) (t ty e : TypeId) (i : TypeInfo) (z : Value) (size bytes : Nat) (ht : P.underlying t = some (.slice e)) (hi : P.info? e = some i) (hz : i.zero = some z)
    (hsize : i.size = size) (hby : i.bytes = bytes) (hzs : z.cells.size = size) (hsz : 0 < size) {v : Value} {n : Nat} {xs : List Value} (hown : w.ownsRow 0 e size v n xs)
    {A : Option Addr} {m c : Nat} {news : List Value} (hl : news.length = m * size) (hr : RdA w A news) (h1 : ∀ u ∈ news, u.oneCell' = true) (h63 : n + m ≤ maxLen) (hbytes : (n + m) * bytes ≤ 140737488355328) :
    ∃ v' w', (Builtin.append_ #[t, t] ty #[v, .slice A m c]).run P w = .ok v' w' ∧ w'.ownsRow 0 e size v' (n + m) (xs ++ news) ∧ w.grownBy w' v.ownBlock ∧ (v'.ownBlock = v.ownBlock ∨ v'.ownBlock = some w.heap.size) := by
  rcases A with _ | ad
  · have hn : news = [] := by
      rcases hr with h | ⟨b, o, h, _⟩
      · exact h
      · cases h
    subst hn
    have hm : m = 0 := by
      rcases Nat.eq_zero_or_pos m with h | h
      · exact h
      · have : 0 < m * size := Nat.mul_pos h hsz
        simp at hl; omega
    subst hm
    exact ⟨v, w, run_app_nil w t ty e i size ht hi hown c, by simpa using hown, World.grownBy.refl w _, .inl rfl⟩
  · have hcells : ∀ j u, news[j]? = some u → w.cell? (ad.add j) = some u := by
      intro j u hu
      rcases hr with h | ⟨b, o, h, hr⟩
      · subst h; simp at hu
      · cases h; rw [Addr.add_lit]; exact hr j u hu
    obtain ⟨v', w', hrun, h2, h3, _, h5⟩ := run_append_own_at (P := P) w 0 t ty e i z size bytes ht hi hz hsize hby hzs hsz v n xs hown ad m c news hl hcells h1 h63 hbytes (Nat.zero_le _)
    exact ⟨v', w', hrun, h2, h3, h5⟩
theorem wp_app {P : Program} {w : World} {o : Oper} {a : Act} {K : Act → World → Prop} {Q : Exit → Act → World → Prop} (s x : Operand) (t : TypeId) (ho : o.op = .call { callee := .builtin .append, args := #[s, x], argTypes := #[t, t] })
    (e : TypeId) (i : TypeInfo) (z : Value) (size bytes : Nat) (ht : P.underlying t = some (.slice e)) (hi : P.info? e = some i) (hz : i.zero = some z) (hsize : i.size = size) (hby : i.bytes = bytes) (hzs : z.cells.size = size) (hsz : 0 < size)
    (v : Value) (n : Nat) (xs : List Value) (hs : a.eval s = v) (hown : w.ownsRow 0 e size v n xs) (A : Option Addr) (m c : Nat) (news : List Value) (hx : a.eval x = .slice A m c) (hl : news.length = m * size) (hr : RdA w A news)
    (h1 : ∀ u ∈ news, u.oneCell' = true) (h63 : n + m ≤ maxLen) (hbytes : (n + m) * bytes ≤ 140737488355328)
    (h : ∀ v' w', w'.ownsRow 0 e size v' (n + m) (xs ++ news) → w.grownBy w' v.ownBlock → (v'.ownBlock = v.ownBlock ∨ v'.ownBlock = some w.heap.size) → K (a.put o.dst v') w') : o.wp P a w K Q := by
  obtain ⟨v', w', hrun, h2, h3, h4⟩ := run_app (P := P) w t o.type e i z size bytes ht hi hz hsize hby hzs hsz hown (A := A) (m := m) (c := c) hl hr h1 h63 hbytes
  unfold Oper.wp execOp
  simp only [ho, resolve, invoke, builtin, Sem.run_bind, Sem.run_pure, Result.andThen_ok, List.map_toArray, List.map_cons, List.map_nil, hs, hx, hrun]
  exact h v' w' h2 h3 h4
/-- a slice that is read is copied: append to nil. -/
theorem wpList_copy {P : Program} {w : World} {ops : Array Oper} {rest : List Oper} {o : Oper} {a : Act} {Q : Exit → Act → World → Prop} (hgd : o.guard = none) (s x : Operand) (t : TypeId) (ho : o.op = .call { callee := .builtin .append, args := #[s, x], argTypes := #[t, t] })
    (e : TypeId) (i : TypeInfo) (z : Value) (size bytes : Nat) (ht : P.underlying t = some (.slice e)) (hi : P.info? e = some i) (hz : i.zero = some z) (hsize : i.size = size) (hby : i.bytes = bytes) (hzs : z.cells.size = size) (hsz : 0 < size)
    (hs : a.eval s = .slice none 0 0) (A : Option Addr) (m c : Nat) (news : List Value) (hx : a.eval x = .slice A m c) (hl : news.length = m * size) (hr : RdA w A news)
    (h1 : ∀ u ∈ news, u.oneCell' = true) (h63 : m ≤ maxLen) (hbytes : m * bytes ≤ 140737488355328)
    (h : ∀ A' c' w', RowF w' (New w) e size (.slice A' m c') news → Fr E0 w w' → wpList P ops Q rest (a.put o.dst (.slice A' m c')) w') : wpList P ops Q (o :: rest) a w :=
  wpList_plain hgd fun _ hK => wp_app s x t ho e i z size bytes ht hi hz hsize hby hzs hsz (.slice none 0 0) 0 [] hs (World.ownsRow_nil _ _ _ _) A m c news hx hl hr h1 (by omega) (by rw [Nat.zero_add]; exact hbytes) fun v' w' h2 h3 h4 => by
    have hf : Fr E0 w w' := Fr.refl.grown h3 (fun q hq => by simp [Value.ownBlock] at hq)
    have hrow : RowF w' (New w) e size v' news := ⟨⟨0 + m, by simpa using h2⟩, fun q hq => by
      rcases h4 with h4 | h4
      · rw [h4] at hq; simp [Value.ownBlock] at hq
      · rw [h4] at hq; cases hq; exact Nat.le_refl _⟩
    obtain ⟨A', c', rfl, _⟩ := hrow.read hsz hl
    exact hK _ _ (h A' c' w' hrow hf)
end Go.Proofs.YtocepiogpeafoaaGreatDoor
/- Plain: what a word of code means, as both sides tell it. Printed by wip/gen/zword.py. -/
namespace Go.Proofs.YtocepiogpeafoaaGreatDoor
/-- An instruction. -/
structure Ins where
  op : Int
  a : Int
  b : Int
  c : Int
  imm : Int
  deriving DecidableEq
def Ins.cells (i : Ins) : List Value := [.int .i64 i.op, .int .i64 i.a, .int .i64 i.b, .int .i64 i.c, .int .i64 i.imm]
def Ins.val (i : Ins) : Value := .agg #[.int .i64 i.op, .int .i64 i.a, .int .i64 i.b, .int .i64 i.c, .int .i64 i.imm]
def tup2 (a b : Value) : Value := .tuple #[a, b]
def insZ : Ins := ⟨0, 0, 0, 0, 0⟩
def shapes : List Int := [0, 6, 5, 2, 3, 3, 3, 3, 3, 3, 3, 3, 3, 3, 3, 3, 4, 5, 5, 4, 0, 5, 0, 0, 1, 1, 1, 2, 2, 3, 1, 2, 2, 5, 1, 1, 1, 1, 2, 1, 1, 2, 1, 1, 1, 1, 2, 2, 3, 3, 2, 1, 3, 3, 3, 3, 2, 4]
def costs : List Int := [1, 1, 1, 1, 1, 1, 3, 8, 8, 1, 1, 1, 1, 1, 1, 1, 1, 1, 1, 2, 2, 4, 1, 1, 1, 1, 1, 4, 2, 2, 2, 1, 1, 4, 2, 2, 2, 2, 2, 2, 2, 3, 2, 3, 2, 2, 2, 2, 3, 3, 2, 2, 2, 2, 3, 3, 2, 1]
def shp (op : Int) : Int := shapes.getD (op - 1).toNat 0
/-- The fields of a word, by a shape. -/
def decI (w s : Int) : Ins := ⟨w / 16777216, w / 1048576 % 16, w / 65536 % 16, if s = 3 then w % 16 else 0,
  if s = 6 then (if w % 65536 < 32768 then w % 65536 else w % 65536 - 65536) else if s = 3 then w % 65536 / 16 * 16 else w % 65536⟩
/-- Are they such as the shape lets? -/
def fitsI (i : Ins) (s : Int) : Bool :=
  if s = 0 then decide (i.a = 0) && decide (i.b = 0) && decide (i.c = 0) && decide (i.imm = 0)
  else if s = 1 then decide (i.b = 0) && decide (i.c = 0) && decide (i.imm = 0)
  else if s = 2 then decide (i.c = 0) && decide (i.imm = 0)
  else if s = 3 then decide (i.imm = 0)
  else if s = 4 then decide (i.a = 0) && decide (i.b = 0) && decide (i.c = 0)
  else decide (i.b = 0) && decide (i.c = 0)
/-- What a word means: the instruction, and the error. -/
def decR (w : Int) : Ins × Int :=
  if w / 16777216 ≤ 0 ∨ 59 ≤ w / 16777216 then (insZ, 60)
  else if fitsI (decI w (shp (w / 16777216))) (shp (w / 16777216)) then (decI w (shp (w / 16777216)), 0) else (insZ, 61)
theorem shp_range (op : Int) : 0 ≤ shp op ∧ shp op ≤ 6 := by
  have h : ∀ x ∈ shapes, 0 ≤ x ∧ x ≤ 6 := by decide
  unfold shp
  rw [List.getD_eq_getElem?_getD]
  rcases hx : shapes[(op - 1).toNat]? with _ | x
  · simp
  · exact h x (List.mem_of_getElem? hx)
end Go.Proofs.YtocepiogpeafoaaGreatDoor
/- heap.New, timer.New, cells.New, slab.New: the walks. -/
namespace Go.Proofs.YtocepiogpeafoaaGreatDoor
open Go.RowKit
set_option linter.unusedVariables false
/-- an empty heap: its block g, its map of places m -/
def HeapNew (g m : Nat) (w : World) : Prop := w.heap[g]? = some (.cells #[.slice none 0 0, .map (some m), .int .i64 0] 378 (0, 0)) ∧ w.heap[m]? = some (.map #[] 0)
def HeapPost (w : World) (e : Ending) (w' : World) : Prop := ∃ g m, e = .returned (.pointer (some ⟨g, 0, none⟩)) ∧ HeapNew g m w' ∧ w.heap.size ≤ g ∧ w.heap.size ≤ m ∧ Fr E0 w w'
theorem heapNew_ok (w : World) : Calls Tryz.prog 145 #[] w (HeapPost w) := by
  have H := hid (show HeapPost w (.returned (.pointer (some ⟨w.heap.size + 1, 0, none⟩))) ((w.alloc (.map #[] 0)).alloc (.cells #[.slice none 0 0, .map (some w.heap.size), .int .i64 0] 378)) from
    ⟨_, w.heap.size, rfl, ⟨heap_alloc2_new w _ _, heap_alloc2_old w _ _⟩, by omega, Nat.le_refl _, (Fr.refl.alloc _).alloc _⟩)
  have hmm := @run_makeMap Tryz.prog
  go_enter Tryz.func145, Tryz.ntmps145
  go_wp2
  go_ret
  exact H.out
/-- timers, none of which runs -/
structure TimNew (g h m a b c : Nat) (w : World) : Prop where
  obj : w.heap[g]? = some (.cells #[.bool true, .int .i64 0, .pointer (some ⟨h, 0, none⟩), .slice none 0 0, .map (some a), .map (some b), .map (some c)] 215 (0, 0))
  heap : HeapNew h m w
  ids : w.heap[a]? = some (.map #[] 0)
  own : w.heap[b]? = some (.map #[] 0)
  gs : w.heap[c]? = some (.map #[] 0)
  ne : g ≠ h ∧ m ≠ a ∧ m ≠ b ∧ m ≠ c ∧ a ≠ b ∧ a ≠ c ∧ b ≠ c
def TimPost (w : World) (e : Ending) (w' : World) : Prop := ∃ g h m a b c, e = .returned (.pointer (some ⟨g, 0, none⟩)) ∧ TimNew g h m a b c w' ∧ (w.heap.size ≤ g ∧ w.heap.size ≤ h ∧ w.heap.size ≤ m ∧ w.heap.size ≤ a ∧ w.heap.size ≤ b ∧ w.heap.size ≤ c) ∧ Fr E0 w w'
set_option maxHeartbeats 1000000 in
theorem timerNew_ok (w : World) : Calls Tryz.prog 51 #[] w (TimPost w) := by
  have hmm := @run_makeMap Tryz.prog
  go_enter Tryz.func51, Tryz.ntmps51
  go_wp2_with fail
  refine (heapNew_ok _).mono ?_
  rintro e w1 ⟨h, m, rfl, ⟨hh, hm⟩, hh0, hm0, hf⟩
  have H := hid hh
  have M := hid hm
  have F := hid hf
  have hl := heap_lt hh
  have hml := heap_lt hm
  clear hh hm hf
  have Z := hid (show TimPost w (.returned (.pointer (some ⟨w1.heap.size + 3, 0, none⟩))) ((((w1.alloc (.map #[] 0)).alloc (.map #[] 0)).alloc (.map #[] 0)).alloc (.cells #[.bool true, .int .i64 0, .pointer (some ⟨h, 0, none⟩), .slice none 0 0, .map (some w1.heap.size), .map (some (w1.heap.size + 1)), .map (some (w1.heap.size + 2))] 215)) from by
    have f4 := ((((Fr.refl (S := E0) (w := w1)).alloc (.map #[] 0)).alloc (.map #[] 0)).alloc (.map #[] 0)).alloc (.cells #[.bool true, .int .i64 0, .pointer (some ⟨h, 0, none⟩), .slice none 0 0, .map (some w1.heap.size), .map (some (w1.heap.size + 1)), .map (some (w1.heap.size + 2))] 215)
    have hsz := F.out.size
    refine ⟨_, h, m, w1.heap.size, w1.heap.size + 1, w1.heap.size + 2, rfl, ⟨?_, ⟨f4.heapAt H.out (fun x => x), f4.heapAt M.out (fun x => x)⟩, ?_, ?_, ?_, by omega⟩, by omega, F.out.trans f4⟩
    · have := heap_alloc_new (((w1.alloc (.map #[] 0)).alloc (.map #[] 0)).alloc (.map #[] 0)) (.cells #[.bool true, .int .i64 0, .pointer (some ⟨h, 0, none⟩), .slice none 0 0, .map (some w1.heap.size), .map (some (w1.heap.size + 1)), .map (some (w1.heap.size + 2))] 215)
      simpa using this
    · exact (heap_alloc_old _ _ (by simp; omega)).trans ((heap_alloc_old _ _ (by simp; omega)).trans ((heap_alloc_old _ _ (by simp)).trans (heap_alloc_new w1 _)))
    · refine (heap_alloc_old _ _ (by simp)).trans ((heap_alloc_old _ _ (by simp)).trans ?_)
      exact heap_alloc2_new w1 _ _
    · refine (heap_alloc_old _ _ (by simp)).trans ?_
      have := heap_alloc_new ((w1.alloc (.map #[] 0)).alloc (.map #[] 0)) (.map #[] 0)
      simpa using this)
  go_wp2
  go_ret
  exact Z.out
theorem infoI64 : (Tryz.prog.info? 2).map (fun i => (i.zero, i.size, i.bytes)) = some (some (.int .i64 0), 1, 8) := by kernel_rfl
theorem infoLI : (Tryz.prog.info? 42).map (fun i => (i.zero, i.size, i.bytes)) = some (some (.slice none 0 0), 1, 24) := by kernel_rfl
theorem cellsNew_no (n : Int) (w : World) (h : n < 0 ∨ 256 < n) : Calls Tryz.prog 43 #[.int .i64 n] w fun e w' => e = .returned (tup2 (.pointer none) (.int .i64 1)) ∧ w = w' := by
  rcases h with h | h
  · go_enter Tryz.func43, Tryz.ntmps43
    go_wp2
    go_ret2
    exact ⟨rfl, rfl⟩
  · have h0 : ¬ n < 0 := by omega
    go_enter Tryz.func43, Tryz.ntmps43
    go_wp2
    go_ret2
    exact ⟨rfl, rfl⟩
/-- n cells, all 0 -/
def CellsNew (n g a : Nat) (w : World) : Prop := w.heap[g]? = some (.cells #[.bool true, .slice (some ⟨a, 0, none⟩) n n] 288 (0, 0)) ∧ w.heap[a]? = some (.cells (madeCells #[.int .i64 0] n) 2 (0, 0))
def CellsPost (n : Nat) (w : World) (e : Ending) (w' : World) : Prop := ∃ g a, e = .returned (tup2 (.pointer (some ⟨g, 0, none⟩)) (.int .i64 0)) ∧ CellsNew n g a w' ∧ w.heap.size ≤ g ∧ w.heap.size ≤ a ∧ Fr E0 w w'
theorem cellsNew_ok (n : Nat) (w : World) (h : n ≤ 256) : Calls Tryz.prog 43 #[.int .i64 (n : Int)] w (CellsPost n w) := by
  obtain ⟨i0, hi0, hz0, hz1, hz2⟩ := info_parts infoI64
  have hm0 : ∀ u : World, (Instr.makeSlice 33 (.int .i64 (n : Int)) (.int .i64 (n : Int))).run Tryz.prog u = .ok (.slice (some ⟨u.heap.size, 0, none⟩) n n) (u.alloc (.cells (madeCells #[.int .i64 0] n) 2)) := fun u => by
    have h := run_make (P := Tryz.prog) u 33 2 i0 (.int .i64 0) Tryz.underlying33 hi0 hz0 .i64 .i64 (n : Int) (n : Int) (by omega) (Int.le_refl _) (by rw [hz2]; omega) (by omega)
    simpa [hz1, Value.cells] using h
  clear hi0 hz0 hz1 hz2
  have Z := hid (show CellsPost n w (.returned (tup2 (.pointer (some ⟨w.heap.size + 1, 0, none⟩)) (.int .i64 0))) ((w.alloc (.cells (madeCells #[.int .i64 0] n) 2)).alloc (.cells #[.bool true, .slice (some ⟨w.heap.size, 0, none⟩) n n] 288)) from
    ⟨_, w.heap.size, rfl, ⟨heap_alloc2_new w _ _, heap_alloc2_old w _ _⟩, by omega, Nat.le_refl _, (Fr.refl.alloc _).alloc _⟩)
  have h1 : ¬ (256 : Int) < (n : Int) := by omega
  have h2 : ¬ (n : Int) < 0 := by omega
  go_enter Tryz.func43, Tryz.ntmps43
  go_wp2
  go_ret2
  exact Z.out
/-- a slab without slots -/
def SlabNew (gs : Int) (p g a : Nat) (w : World) : Prop := w.heap[g]? = some (.cells #[.int .i64 gs, .slice none 0 0, .slice none 0 0, .slice (some ⟨a, 0, none⟩) p p, .slice none 0 0] 248 (0, 0)) ∧ w.heap[a]? = some (.cells (madeCells #[.slice none 0 0] p) 42 (0, 0))
def SlabPost (gs : Int) (p : Nat) (w : World) (e : Ending) (w' : World) : Prop := ∃ g a, e = .returned (tup2 (.pointer (some ⟨g, 0, none⟩)) (.int .i64 0)) ∧ SlabNew gs p g a w' ∧ w.heap.size ≤ g ∧ w.heap.size ≤ a ∧ g ≠ a ∧ Fr E0 w w'
theorem slabNew_ok (gs : Int) (p : Nat) (w : World) (h0 : 1 ≤ gs) (h1 : gs ≤ 4096) (hp0 : 1 ≤ p) (hp1 : p ≤ 64) : Calls Tryz.prog 44 #[.int .i64 gs, .int .i64 (p : Int)] w (SlabPost gs p w) := by
  obtain ⟨i0, hi0, hz0, hz1, hz2⟩ := info_parts infoLI
  have hm0 : ∀ u : World, (Instr.makeSlice 44 (.int .i64 (p : Int)) (.int .i64 (p : Int))).run Tryz.prog u = .ok (.slice (some ⟨u.heap.size, 0, none⟩) p p) (u.alloc (.cells (madeCells #[.slice none 0 0] p) 42)) := fun u => by
    have h := run_make (P := Tryz.prog) u 44 42 i0 (.slice none 0 0) Tryz.underlying44 hi0 hz0 .i64 .i64 (p : Int) (p : Int) (by omega) (Int.le_refl _) (by rw [hz2]; omega) (by omega)
    simpa [hz1, Value.cells] using h
  clear hi0 hz0 hz1 hz2
  have Z := hid (show SlabPost gs p w (.returned (tup2 (.pointer (some ⟨w.heap.size + 1, 0, none⟩)) (.int .i64 0))) ((w.alloc (.cells (madeCells #[.slice none 0 0] p) 42)).alloc (.cells #[.int .i64 gs, .slice none 0 0, .slice none 0 0, .slice (some ⟨w.heap.size, 0, none⟩) p p, .slice none 0 0] 248)) from
    ⟨_, w.heap.size, rfl, ⟨heap_alloc2_new w _ _, heap_alloc2_old w _ _⟩, by omega, Nat.le_refl _, by omega, (Fr.refl.alloc _).alloc _⟩)
  have a1 : ¬ gs < 1 := by omega
  have a2 : ¬ 4096 < gs := by omega
  have a3 : ¬ (p : Int) < 1 := by omega
  have a4 : ¬ (64 : Int) < (p : Int) := by omega
  go_enter Tryz.func44, Tryz.ntmps44
  go_wp2
  go_ret2
  exact Z.out
end Go.Proofs.YtocepiogpeafoaaGreatDoor
