/- Words and contracts of calls that the law needs (Prg, Begin, Maps): merged by wip/gen/zmerge.py. No condition but those that each theorem names. -/
import Derived.Test.YtocepiogpeafoaaGreatDoorProg
import Derived.ProofKit
import Derived.StillTailTactics
import Derived.WalkKit
import Derived.MapKept
import Derived.Test.YtocepiogpeafoaaGreatDoorH02
set_option linter.unusedVariables false
/- Programs as data, and how one lies in memory. -/
namespace Go.Proofs.YtocepiogpeafoaaGreatDoor
open Go.RowKit
/-- A function. -/
structure Fn where
  b : Int
  e : Int
def Fn.cells (f : Fn) : List Value := [.int .i64 f.b, .int .i64 f.e]
def Fn.val (f : Fn) : Value := .agg #[.int .i64 f.b, .int .i64 f.e]
/-- A case. -/
structure Cs where
  send : Bool
  ch : Int
  v : Int
  ok : Int
def Cs.cells (c : Cs) : List Value := [.bool c.send, .int .i64 c.ch, .int .i64 c.v, .int .i64 c.ok]
def Cs.val (c : Cs) : Value := .agg #[.bool c.send, .int .i64 c.ch, .int .i64 c.v, .int .i64 c.ok]
/-- A table of cases. -/
structure Tb where
  cases : List Cs
  dflt : Bool
/-- A program. -/
structure Prg where
  code : List Int
  funcs : List Fn
  tables : List Tb
def i64 (n : Int) : Prop := -9223372036854775808 ≤ n ∧ n ≤ 9223372036854775807
structure Prg.Wf (p : Prg) : Prop where
  code : ∀ c ∈ p.code, 0 ≤ c ∧ c < 4294967296
  funcs : ∀ f ∈ p.funcs, i64 f.b ∧ i64 f.e
  cases : ∀ t ∈ p.tables, ∀ c ∈ t.cases, i64 c.ch ∧ i64 c.v ∧ i64 c.ok
/-- A slice that is read: its cells are xs, sz an element. -/
def Rd (w : World) (v : Value) (sz : Nat) (xs : List Value) : Prop := ∃ A n c, v = .slice A n c ∧ n ≤ c ∧ c ≤ maxLen ∧ xs.length = n * sz ∧ RdA w A xs
theorem Rd.fr {w w' : World} {v : Value} {sz : Nat} {xs : List Value} (h : Rd w v sz xs) (hf : Fr E0 w w') : Rd w' v sz xs := by
  obtain ⟨A, n, c, e, h1, h2, h3, h4⟩ := h
  exact ⟨A, n, c, e, h1, h2, h3, h4.fr hf⟩
theorem Rd.nil (w : World) (sz : Nat) : Rd w (.slice none 0 0) sz [] := ⟨none, 0, 0, rfl, Nat.le_refl _, Nat.zero_le _, by simp, .inl rfl⟩
theorem Rd.len {w : World} {v : Value} {sz n : Nat} {xs : List Value} (hsz : 0 < sz) (h : Rd w v sz xs) (hn : xs.length = n * sz) : ∃ A c, v = .slice A n c ∧ n ≤ c ∧ c ≤ maxLen ∧ RdA w A xs := by
  obtain ⟨A, m, c, e, h1, h2, h3, h4⟩ := h
  have : m = n := Nat.eq_of_mul_eq_mul_right hsz (h3.symm.trans hn)
  subst this
  exact ⟨A, c, e, h1, h2, h4⟩
theorem Rd.ofRow {w : World} {F : Nat → Prop} {e sz n : Nat} {v : Value} {xs : List Value} (hsz : 0 < sz) (h : RowF w F e sz v xs) (hn : xs.length = n * sz) : Rd w v sz xs := by
  obtain ⟨A, c, hv, h1, h2, h3⟩ := h.read hsz hn
  exact ⟨A, n, c, hv, h1, h2, hn, h3⟩
def codeC (l : List Int) : List Value := l.map (Value.int .u32)
def fnC (l : List Fn) : List Value := l.flatMap Fn.cells
def csC (l : List Cs) : List Value := l.flatMap Cs.cells
def tbC (ts : List (Tb × Value)) : List Value := ts.flatMap fun x => [x.2, .bool x.1.dflt]
theorem codeC_len (l : List Int) : (codeC l).length = l.length * 1 := by simp [codeC]
theorem fnC_len (l : List Fn) : (fnC l).length = l.length * 2 := flat_len (f := Fn.cells) (sz := 2) (fun _ => rfl) l
theorem csC_len (l : List Cs) : (csC l).length = l.length * 4 := flat_len (f := Cs.cells) (sz := 4) (fun _ => rfl) l
theorem tbC_len (l : List (Tb × Value)) : (tbC l).length = l.length * 2 := flat_len (f := fun x : Tb × Value => [x.2, .bool x.1.dflt]) (sz := 2) (fun _ => rfl) l
theorem RdL.fn {w : World} {b o k : Nat} {l : List Fn} {x : Fn} (h : RdL w b o (fnC l)) (hx : l[k]? = some x) :
    w.cell? ⟨b, o + k * 2, none⟩ = some (.int .i64 x.b) ∧ w.cell? ⟨b, o + k * 2 + 1, none⟩ = some (.int .i64 x.e) := by
  have e0 : (fnC l)[k * 2 + 0]? = some (.int .i64 x.b) := by unfold fnC; rw [flat_get (sz := 2) (fun x => rfl) l k 0 x hx (by omega)]; rfl
  have e1 : (fnC l)[k * 2 + 1]? = some (.int .i64 x.e) := by unfold fnC; rw [flat_get (sz := 2) (fun x => rfl) l k 1 x hx (by omega)]; rfl
  exact ⟨h _ _ e0, h _ _ e1⟩
theorem RdL.cs {w : World} {b o k : Nat} {l : List Cs} {x : Cs} (h : RdL w b o (csC l)) (hx : l[k]? = some x) :
    w.cell? ⟨b, o + k * 4, none⟩ = some (.bool x.send) ∧ w.cell? ⟨b, o + k * 4 + 1, none⟩ = some (.int .i64 x.ch) ∧ w.cell? ⟨b, o + k * 4 + 2, none⟩ = some (.int .i64 x.v) ∧ w.cell? ⟨b, o + k * 4 + 3, none⟩ = some (.int .i64 x.ok) := by
  have e0 : (csC l)[k * 4 + 0]? = some (.bool x.send) := by unfold csC; rw [flat_get (sz := 4) (fun x => rfl) l k 0 x hx (by omega)]; rfl
  have e1 : (csC l)[k * 4 + 1]? = some (.int .i64 x.ch) := by unfold csC; rw [flat_get (sz := 4) (fun x => rfl) l k 1 x hx (by omega)]; rfl
  have e2 : (csC l)[k * 4 + 2]? = some (.int .i64 x.v) := by unfold csC; rw [flat_get (sz := 4) (fun x => rfl) l k 2 x hx (by omega)]; rfl
  have e3 : (csC l)[k * 4 + 3]? = some (.int .i64 x.ok) := by unfold csC; rw [flat_get (sz := 4) (fun x => rfl) l k 3 x hx (by omega)]; rfl
  exact ⟨h _ _ e0, h _ _ e1, h _ _ e2, h _ _ e3⟩
theorem RdL.tb {w : World} {b o k : Nat} {l : List (Tb × Value)} {x : Tb × Value} (h : RdL w b o (tbC l)) (hx : l[k]? = some x) :
    w.cell? ⟨b, o + k * 2, none⟩ = some x.2 ∧ w.cell? ⟨b, o + k * 2 + 1, none⟩ = some (.bool x.1.dflt) := by
  have e0 : (tbC l)[k * 2 + 0]? = some x.2 := by unfold tbC; rw [flat_get (f := fun x : Tb × Value => [x.2, .bool x.1.dflt]) (sz := 2) (fun x => rfl) l k 0 x hx (by omega)]; rfl
  have e1 : (tbC l)[k * 2 + 1]? = some (.bool x.1.dflt) := by unfold tbC; rw [flat_get (f := fun x : Tb × Value => [x.2, .bool x.1.dflt]) (sz := 2) (fun x => rfl) l k 1 x hx (by omega)]; rfl
  exact ⟨h _ _ e0, h _ _ e1⟩
theorem RdL.word {w : World} {b o k : Nat} {l : List Int} {x : Int} (h : RdL w b o (codeC l)) (hx : l[k]? = some x) : w.cell? ⟨b, o + k, none⟩ = some (.int .u32 x) :=
  h k _ (by simp [codeC, hx])
/-- A program that is read, its tables' cases where ts tells. -/
structure RdP (w : World) (vc vf vt : Value) (p : Prg) (ts : List (Tb × Value)) : Prop where
  code : Rd w vc 1 (codeC p.code)
  funcs : Rd w vf 2 (fnC p.funcs)
  tabs : Rd w vt 2 (tbC ts)
  each : ∀ x ∈ ts, Rd w x.2 4 (csC x.1.cases)
  are : ts.map (·.1) = p.tables
theorem RdP.fr {w w' : World} {vc vf vt : Value} {p : Prg} {ts : List (Tb × Value)} (h : RdP w vc vf vt p ts) (hf : Fr E0 w w') : RdP w' vc vf vt p ts :=
  ⟨h.code.fr hf, h.funcs.fr hf, h.tabs.fr hf, fun x hx => (h.each x hx).fr hf, h.are⟩
/-- No function can be, or parts of the code are in none: the number of the first that may not be, and whether none. -/
def jumpsL (op : Int) : Bool := decide (op = 17) || decide (op = 18) || decide (op = 19)
def endsL (op : Int) : Bool := decide (op = 17) || decide (op = 21) || decide (op = 24) || decide (op = 58)
def wrongL (nf nt : Int) (at_ : Int) (f : Fn) (w : Int) : Int :=
  if (decR w).2 ≠ 0 then 80
  else if jumpsL (decR w).1.op && (decide ((decR w).1.imm < f.b) || decide (f.e ≤ (decR w).1.imm)) then 82
  else if (decide ((decR w).1.op = 20) || decide ((decR w).1.op = 22)) && decide (nf ≤ (decR w).1.imm) then 81
  else if decide ((decR w).1.op = 34) && decide (nt ≤ (decR w).1.imm) then 83
  else if decide (at_ = f.e - 1) && !endsL (decR w).1.op then 84
  else 0
end Go.Proofs.YtocepiogpeafoaaGreatDoor
/- step.Begin, rotaref09.Begin: the walks. -/
namespace Go.Proofs.YtocepiogpeafoaaGreatDoor
open Go.RowKit
set_option linter.unusedVariables false
theorem heap_alloc3_new (w : World) (A B C : Obj) : (((w.alloc A).alloc B).alloc C).heap[w.heap.size + 1 + 1]? = some C := by
  have h := heap_alloc_new ((w.alloc A).alloc B) C
  simpa using h
/-- sixteen registers, all 0 -/
def regs0 : Array Value := #[.int .i64 0, .int .i64 0, .int .i64 0, .int .i64 0, .int .i64 0, .int .i64 0, .int .i64 0, .int .i64 0, .int .i64 0, .int .i64 0, .int .i64 0, .int .i64 0, .int .i64 0, .int .i64 0, .int .i64 0, .int .i64 0]
/-- a goroutine's own, at a word, all registers 0, no calls -/
def ctx0 (pc : Int) : Value := .agg #[.int .i64 pc, .int .i64 0, .int .i64 0, .int .i64 0, .int .i64 0, .int .i64 0, .int .i64 0, .int .i64 0, .int .i64 0, .int .i64 0, .int .i64 0, .int .i64 0, .int .i64 0, .int .i64 0, .int .i64 0, .int .i64 0, .int .i64 0, .slice none 0 0]
/-- a call's end: the value, and a world with three new blocks -/
def NewW3 (v : Value) (w : World) (e : Ending) (w' : World) : Prop := e = .returned v ∧ ∃ X Y Z n, w' = (((w.alloc X).alloc Y).alloc Z).drewN n
theorem NewW3.ret {v : Value} {w : World} {e : Ending} {w' : World} (h : NewW3 v w e w') : Ret v E0 w e w' := by
  obtain ⟨rfl, X, Y, Z, n, rfl⟩ := h
  exact ⟨rfl, (((Fr.refl.alloc _).alloc _).alloc _).drewN _⟩
set_option maxRecDepth 20000 in
set_option maxHeartbeats 4000000 in
theorem begin_w {w : World} {vc vf vt : Value} {p : Prg} {ts : List (Tb × Value)} (h : RdP w vc vf vt p ts) {f : Fn} (hf : p.funcs[0]? = some f) :
    Calls Tryz.prog 146 #[.agg #[vc, vf, vt], .int .i64 0, .agg regs0] w (NewW3 (tup2 (ctx0 f.b) (.int .i64 0)) w) := by
  have hl := lt_of_get hf
  obtain ⟨fA, fc, rfl, hf1, hf2, hf3⟩ := h.funcs.len (by decide) (fnC_len _)
  obtain ⟨b, o, rfl, hr⟩ := hf3.at (by intro e; have := fnC_len p.funcs; rw [e] at this; simp at this; omega)
  obtain ⟨c0, c1⟩ := hr.fn hf
  simp only [Nat.zero_mul, Nat.add_zero] at c0
  have hb := World.block_lt_of_cell? w _ c0
  generalize p.funcs.length = nf at *
  clear h hf3 hr hf c1
  unfold regs0
  go_enter Tryz.func146, Tryz.ntmps146
  go_wp2
  have FW := hid (show Fr E0 w (((w.alloc (Obj.cells #[vc, .slice (some ⟨b, o, none⟩) nf fc, vt] 29)).alloc (Obj.cells regs0 104)).alloc (Obj.cells #[.int .i64 0, .int .i64 0, .int .i64 0, .int .i64 0, .int .i64 0, .int .i64 0, .int .i64 0, .int .i64 0, .int .i64 0, .int .i64 0, .int .i64 0, .int .i64 0, .int .i64 0, .int .i64 0, .int .i64 0, .int .i64 0, .int .i64 0, .slice none 0 0] 106)) from ((Fr.refl.alloc _).alloc _).alloc _)
  have c0' := FW.out.cell c0 (fun x => x)
  unfold regs0 at c0'
  go_region
  all_goals
    go_wp2
    exact bodyPost_ret (v := tup2 (ctx0 f.b) (.int .i64 0)) (res_row2 rfl _ _ (w.heap.size + 1 + 1) 106 _ (0, 0) _ rfl (by exact heap_alloc3_new w _ _ _) Tryz.underlying106 rfl (by kernel_rfl) rfl) rfl (by first | exact ⟨rfl, _, _, _, 1, rfl⟩ | exact ⟨rfl, _, _, _, 2, rfl⟩ | exact ⟨rfl, _, _, _, 0, rfl⟩ | exact ⟨rfl, _, _, _, 3, rfl⟩)
theorem begin_ok {w : World} {vc vf vt : Value} {p : Prg} {ts : List (Tb × Value)} (h : RdP w vc vf vt p ts) {f : Fn} (hf : p.funcs[0]? = some f) :
    Calls Tryz.prog 146 #[.agg #[vc, vf, vt], .int .i64 0, .agg regs0] w (Ret (tup2 (ctx0 f.b) (.int .i64 0)) E0 w) :=
  (begin_w h hf).mono (fun _ _ h => h.ret)
end Go.Proofs.YtocepiogpeafoaaGreatDoor
/- Maps of one entry, or of none: what a look-up and a store do. -/
namespace Go.Proofs.YtocepiogpeafoaaGreatDoor
open Go.RowKit
theorem checkKey_int {P : Program} {w : World} {k : Nat} {b : Bool} {n : Nat} {x : Int} (hk : P.underlying k = some (.int .i64)) : (Instr.checkKey b (n + 1) k (.int .i64 x)).run P w = .ok () w := by
  simp [Instr.checkKey, run_underlying hk]
theorem findKey_one {P : Program} {w : World} {k b0 : Nat} {x : Int} {v : Value} (hk : P.underlying k = some (.int .i64)) : (Instr.findKey k (.int .i64 x) [⟨.int .i64 x, v, b0⟩]).run P w = .ok (some (0, v)) w := by
  simp [Instr.findKey, run_underlying hk, Instr.findNow, Instr.sameNow]
theorem findKey_none {P : Program} {w : World} {k : Nat} {x : Int} (hk : P.underlying k = some (.int .i64)) : (Instr.findKey k (.int .i64 x) []).run P w = .ok none w := by
  simp [Instr.findKey, run_underlying hk, Instr.findNow]
theorem run_lookup_one {P : Program} {w : World} {t k e r c b0 : Nat} {x : Int} {v : Value} (hu : P.underlying t = some (.map k e)) (hk : P.underlying k = some (.int .i64)) (hb : w.heap[r]? = some (.map #[⟨.int .i64 x, v, b0⟩] c)) :
    (Instr.lookup t (.map (some r)) (.int .i64 x) true).run P w = .ok (.tuple #[v, .bool true]) w := by
  have hc := checkKey_int (P := P) (w := w) (k := k) (b := false) (n := 9999) (x := x) hk
  have hg := run_getObj_map (P := P) w r _ _ hb
  have hf := findKey_one (P := P) (w := w) (b0 := b0) (x := x) (v := v) hk
  unfold Instr.lookup
  simp [run_underlying hu, Sem.run_bind, hg, hc, hf]
theorem run_update_none {P : Program} {w : World} {t k e r c : Nat} {x : Int} {v : Value} (hu : P.underlying t = some (.map k e)) (hk : P.underlying k = some (.int .i64)) (hb : w.heap[r]? = some (.map #[] c)) :
    (Instr.mapUpdate t (.map (some r)) (.int .i64 x) v).run P w = .ok () { w with heap := w.heap.setIfInBounds r (.map #[⟨.int .i64 x, v, c⟩] (c + 1)) } := by
  have hc := checkKey_int (P := P) (w := w) (k := k) (b := false) (n := 9999) (x := x) hk
  have hg := run_getObj_map (P := P) w r _ _ hb
  have hf := findKey_none (P := P) (w := w) (x := x) hk
  unfold Instr.mapUpdate
  have hs := Go.MapKept.run_setObj_map (P := P) (.map #[⟨.int .i64 x, v, c⟩] (c + 1)) hb
  simp [run_underlying hu, Sem.run_bind, hg, hc, hf, hs]
end Go.Proofs.YtocepiogpeafoaaGreatDoor
