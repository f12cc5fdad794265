/- Words and contracts of calls that the law needs (Hand2, Hand3, SlP, Instr): merged by wip/gen/zmerge.py. No condition but those that each theorem names. -/
import Derived.StillTailTactics
import Derived.Deep.MidRow
import Derived.Deep.RegionHeld3
import Derived.Test.YtocepiogpeafoaaGreatDoorH11
import Derived.Test.YtocepiogpeafoaaGreatDoorH14
import Derived.Test.YtocepiogpeafoaaGreatDoorH26
set_option linter.unusedVariables false
/- More laws for great structs: in a region whose reads draw their order, and whose stores come last in one order. -/
namespace Go.Proofs.YtocepiogpeafoaaGreatDoor
open Go.RowKit
theorem wpStill_readTo {P : Program} {ops : Array Oper} {w : World} {Q : Act → Prop} {a : Act} {o : Oper} {rest : List Oper} (hg : o.guard = none) (dst : Option Tmp) (hdst : o.dst = dst) (v : Value) (hrun : (execOp a.eval o).run P w = .ok (.value v) w)
    (h : wpStill P ops w Q rest (a.put dst v)) : wpStill P ops w Q (o :: rest) a := by
  subst hdst
  unfold wpStill
  rw [if_pos (by simp [Region.wanted, hg])]
  unfold Oper.still
  rw [hrun, Oper.stillUpon_value]
  exact h
theorem run_load_row {P : Program} {w : World} {a : Act} {o : Oper} (ty : TypeId) (x : Operand) (ho : o.op = .load ty x)
    (g : Nat) (hx : a.eval x = .pointer (some ⟨g, 0, none⟩)) (t : TypeId) (cs : Array Value) (fr : Nat × Nat) (d : TypeDesc) (hg : w.heap[g]? = some (.cells cs t fr))
    (hu : P.underlying ty = some d) (hd : (match d with | .struct _ | .array _ _ => true | _ => false) = true) (hi : (P.info? ty).map (·.size) = some cs.size) : (execOp a.eval o).run P w = .ok (.value (.agg cs)) w := by
  unfold execOp
  simp only [ho, hx, Instr.loadAt, Instr.sureAddr, Sem.run_bind, Sem.run_pure, Result.andThen_ok, run_loadVar_row w g t ty cs fr d hg hu hd hi]
theorem wpStill_load_row {P : Program} {ops : Array Oper} {w : World} {Q : Act → Prop} {a : Act} {o : Oper} {rest : List Oper} (hgd : o.guard = none) (ty : TypeId) (x : Operand) (ho : o.op = .load ty x)
    (g : Nat) (hx : a.eval x = .pointer (some ⟨g, 0, none⟩)) (t : TypeId) (cs : Array Value) (fr : Nat × Nat) (d : TypeDesc) (hg : w.heap[g]? = some (.cells cs t fr))
    (hu : P.underlying ty = some d) (hd : (match d with | .struct _ | .array _ _ => true | _ => false) = true) (hi : (P.info? ty).map (·.size) = some cs.size)
    (h : wpStill P ops w Q rest (a.put o.dst (.agg cs))) : wpStill P ops w Q (o :: rest) a :=
  wpStill_readTo hgd _ rfl _ (run_load_row ty x ho g hx t cs fr d hg hu hd hi) h
theorem run_load_cell {P : Program} {w : World} {a : Act} {o : Oper} (ty : TypeId) (x : Operand) (ho : o.op = .load ty x) (b j : Nat) (hx : a.eval x = .pointer (some ⟨b, j, none⟩)) (v : Value) (hc : w.cell? ⟨b, j, none⟩ = some v)
    (hs : (isAgg ty).run P w = .ok false w) : (execOp a.eval o).run P w = .ok (.value v) w := by
  unfold execOp
  simp [ho, hx, Instr.loadAt, Instr.sureAddr, loadVar, hs, hc]
theorem wpStill_load_cell {P : Program} {ops : Array Oper} {w : World} {Q : Act → Prop} {a : Act} {o : Oper} {rest : List Oper} (hgd : o.guard = none) (ty : TypeId) (x : Operand) (ho : o.op = .load ty x) (b j : Nat) (hx : a.eval x = .pointer (some ⟨b, j, none⟩)) (v : Value) (hc : w.cell? ⟨b, j, none⟩ = some v)
    (hs : (isAgg ty).run P w = .ok false w) (h : wpStill P ops w Q rest (a.put o.dst v)) : wpStill P ops w Q (o :: rest) a :=
  wpStill_readTo hgd _ rfl _ (run_load_cell ty x ho b j hx v hc hs) h
theorem wpStill_build_eq {P : Program} {ops : Array Oper} {w : World} {Q : Act → Prop} {a : Act} {o : Oper} {rest : List Oper} (hgd : o.guard = none) (t : TypeId) (parts : Array (Nat × Operand)) (ho : o.op = .build t parts) (cells : Array Value)
    (hb : P.built t (parts.map fun (i, x) => (i, a.eval x)).toList = some cells) (h : wpStill P ops w Q rest (a.put o.dst (.agg cells))) : wpStill P ops w Q (o :: rest) a := by
  refine wpStill_readTo hgd _ rfl (.agg cells) ?_ h
  unfold execOp
  simp only [ho, Sem.run_bind, run_build w t _ cells hb, Result.andThen_ok]
  rfl
end Go.Proofs.YtocepiogpeafoaaGreatDoor
/- More laws for great structs: a region that draws its order, operation by operation. -/
namespace Go.Proofs.YtocepiogpeafoaaGreatDoor
open Go.RowKit
section
variable {P : Program} {md : Region.Mode} {ops : Array Oper} {Q : Exit → Act → World → Prop} {S : World → Prop}
/-- an operation that only reads is taken first -/
theorem wpAnyH_rd {fuel : Nat} {listed : Array Bool} {a : Act} {w : World} (i : Nat) {o : Oper} (dst : Option Tmp) (v : Value) (hi : ops[i]? = some o) (hg : o.guard = none) (hdst : o.dst = dst) (hs : Region.noSelect ops = true) (hf : Region.free md ops listed i = true) (hr : (Region.ready md ops listed).contains i = true)
    (hQ : ∀ c a' w, Q (.panic c) (Act.put a' dst v) w → Q (.panic c) a' w) (hS : S w) (hrun : ∀ w, S w → (execOp a.eval o).run P w = .ok (.value v) w)
    (h : S w → wpAnyH P md ops Q S fuel (listed.setIfInBounds i true) (a.put dst v) w) : wpAnyH P md ops Q S (fuel + 1) listed a w := by
  subst hdst
  exact wpAnyH_take hi hs hf hr hQ (.inl ⟨by simp [Region.wanted, hg], hrun⟩) hS (h hS)
/-- a struct's cells are stored; nothing else may come up -/
theorem wpAnyH_store_fits {fuel : Nat} {listed : Array Bool} {a : Act} {w : World} (i : Nat) {o : Oper} (hi : ops[i]? = some o) (hg : o.guard = none) (hr : Region.ready md ops listed = [i]) (ty : TypeId) (x y : Operand) (ho : o.op = .store ty x y)
    (g : Nat) (cells : Array Value) (hx : a.eval x = .pointer (some ⟨g, 0, none⟩)) (hy : a.eval y = .agg cells) (n : Nat) (hf : FitsN ty n w g) (hn : cells.size = n) (hinf : (P.info? ty).map (·.size) = some n)
    (h1 : cells.all (·.oneCell') = true) (hS : S (setMap w g (.cells cells ty (0, 0)))) (h : S (setMap w g (.cells cells ty (0, 0))) → wpAnyH P md ops Q S fuel (listed.setIfInBounds i true) (a.put o.dst undef) (setMap w g (.cells cells ty (0, 0)))) :
    wpAnyH P md ops Q S (fuel + 1) listed a w := by
  refine wpAnyH_ready hr (by simp) (AllReadyH.cons hi (fun K hK => ?_) AllReadyH.nil)
  rw [if_pos (by simp [Region.wanted, hg])]
  obtain ⟨old, h2, h3⟩ := hf
  refine wp_store_row ty x y ho g cells hx hy ty old h2 (by rw [hn]; exact hinf) (by omega) h1 ?_
  rw [setRow_setMap h2]
  exact hK.out _ _ hS h
end
theorem run_build_eq {P : Program} {w : World} {a : Act} {o : Oper} (t : TypeId) (parts : Array (Nat × Operand)) (ho : o.op = .build t parts) (cells : Array Value)
    (hb : P.built t (parts.map fun (i, x) => (i, a.eval x)).toList = some cells) : (execOp a.eval o).run P w = .ok (.value (.agg cells)) w := by
  unfold execOp
  simp only [ho, Sem.run_bind, run_build w t _ cells hb, Result.andThen_ok]
  rfl
theorem fitsN_other {t : TypeId} {n : Nat} {u : World} {T r : Nat} (o : Obj) (h : T ≠ r) (hf : FitsN t n u T) : FitsN t n (setMap u r o) T := by
  obtain ⟨old, h1, h2⟩ := hf
  exact ⟨old, (setMap_other h).trans h1, h2⟩
theorem fitsN_set {t : TypeId} {n : Nat} {u : World} {T r : Nat} {cs : Array Value} (h : FitsN t n u T) (hcs : cs.size = n) : FitsN t n (setMap u r (.cells cs t (0, 0))) T := by
  obtain ⟨old, h1, h2⟩ := h
  by_cases e : T = r
  · subst e; exact ⟨cs, setMap_at h1, hcs⟩
  · exact ⟨old, (setMap_other e).trans h1, h2⟩
end Go.Proofs.YtocepiogpeafoaaGreatDoor
/- Plain: the sleeper's program may be, and what its words mean. -/
namespace Go.Proofs.YtocepiogpeafoaaGreatDoor
theorem dec_set (k : Int) (h1 : 1 ≤ k) (h2 : k ≤ 32767) : decR (34603008 + k) = (⟨2, 1, 0, 0, k⟩, 0) := by
  have e1 : (34603008 + k) / 16777216 = 2 := by omega
  have e2 : (34603008 + k) / 1048576 % 16 = 1 := by omega
  have e3 : (34603008 + k) / 65536 % 16 = 0 := by omega
  have e4 : (34603008 + k) % 65536 = k := by omega
  have e5 : shp 2 = 6 := by decide
  unfold decR
  rw [e1, e5, if_neg (by decide)]
  have hd : decI (34603008 + k) 6 = ⟨2, 1, 0, 0, k⟩ := by
    unfold decI
    rw [e1, e2, e3, e4, if_neg (by decide), if_pos rfl, if_pos (by omega)]
  rw [hd, if_pos (by simp [fitsI])]
theorem dec_sleep : decR 454033408 = (⟨27, 1, 0, 0, 0⟩, 0) := by decide
theorem dec_exit : decR 402653184 = (⟨24, 0, 0, 0, 0⟩, 0) := by decide
/-- the sleeper's program -/
def slP (k : Int) : Prg := ⟨[34603008 + k, 454033408, 402653184], [⟨0, 3⟩], []⟩
theorem slP_ok (k : Int) (h1 : 1 ≤ k) (h2 : k ≤ 32767) : okP (slP k) := by
  refine ⟨⟨by simp [slP], by simp [slP], by simp [slP]⟩, ⟨by simp [slP], by simp [slP, partsGo]⟩, rfl, ?_⟩
  intro f hf x c h3 h4 h5
  have hf' : f = ⟨0, 3⟩ := by simpa [slP] using hf
  subst hf'
  simp only at h3 h4
  match x, h5 with
  | 0, h5 =>
    have : c = 34603008 + k := by simpa [slP] using h5.symm
    subst this
    unfold wrongL
    rw [dec_set k h1 h2]
    simp [jumpsL, endsL, slP]
  | 1, h5 =>
    have : c = 454033408 := by simpa [slP] using h5.symm
    subst this
    unfold wrongL
    rw [dec_sleep]
    simp [jumpsL, endsL, slP]
  | 2, h5 =>
    have : c = 402653184 := by simpa [slP] using h5.symm
    subst this
    unfold wrongL
    rw [dec_exit]
    simp [jumpsL, endsL, slP]
  | x + 3, h5 => omega
theorem slP_wf (k : Int) (h1 : 1 ≤ k) (h2 : k ≤ 32767) : (slP k).Wf := by
  refine ⟨?_, ?_, ?_⟩
  · intro c hc
    simp only [slP, List.mem_cons, List.not_mem_nil, or_false] at hc
    rcases hc with rfl | rfl | rfl <;> omega
  · intro f hf
    have hf' : f = ⟨0, 3⟩ := by simpa [slP] using hf
    subst hf'
    unfold i64; simp
  · intro t ht; simp [slP] at ht
end Go.Proofs.YtocepiogpeafoaaGreatDoor
/- (*local.Domain).instr of a word that may be: the walk. -/
namespace Go.Proofs.YtocepiogpeafoaaGreatDoor
open Go.RowKit
set_option linter.unusedVariables false
/-- a goroutine's own: the word, register 1, no calls -/
def ctxV (pc r : Int) : Value := .agg #[.int .i64 pc, .int .i64 0, .int .i64 r, .int .i64 0, .int .i64 0, .int .i64 0, .int .i64 0, .int .i64 0, .int .i64 0, .int .i64 0, .int .i64 0, .int .i64 0, .int .i64 0, .int .i64 0, .int .i64 0, .int .i64 0, .int .i64 0, .slice none 0 0]
/-- the code's word at pc, as the domain keeps it -/
structure WordAt (w : World) (g : Nat) (pc : Nat) (c : Int) (i : Ins) : Prop where
  cell : ∃ b o n cp, w.cell? ⟨g, 0, none⟩ = some (.slice (some ⟨b, o, none⟩) n cp) ∧ w.cell? ⟨b, o + pc, none⟩ = some (.int .u32 c) ∧ pc < n ∧ n ≤ 4096
  lo : 0 ≤ c
  hi : c < 4294967296
  dec : decR c = (i, 0)
theorem WordAt.fr {w w' : World} {g pc : Nat} {c : Int} {i : Ins} (h : WordAt w g pc c i) (hf : Fr E0 w w') : WordAt w' g pc c i := by
  obtain ⟨⟨b, o, n, cp, h1, h2, h3, h4⟩, h5, h6, h7⟩ := h
  exact ⟨⟨b, o, n, cp, hf.cell h1 (ne0 _), hf.cell h2 (ne0 _), h3, h4⟩, h5, h6, h7⟩
theorem kp7 {V w1 w2 : World} {A B C : Addr} {a b c : Value} (h : Fr E0 V w1 ∧ w1.cell? A = some a ∧ w1.cell? B = some b ∧ w1.cell? C = some c) (ha : A.spot = none ∧ B.spot = none ∧ C.spot = none) (hf : Fr E0 w1 w2) :
    Fr E0 V w2 ∧ w2.cell? A = some a ∧ w2.cell? B = some b ∧ w2.cell? C = some c := by
  obtain ⟨h0, h1, h2, h3⟩ := h
  obtain ⟨A1, A2, A3⟩ := A; obtain ⟨B1, B2, B3⟩ := B; obtain ⟨C1, C2, C3⟩ := C
  simp only at ha
  obtain ⟨rfl, rfl, rfl⟩ := ha
  exact ⟨h0.trans hf, hf.cell h1 (ne0 _), hf.cell h2 (ne0 _), hf.cell h3 (ne0 _)⟩
set_option maxRecDepth 20000 in
set_option maxHeartbeats 40000000 in
theorem instr_ok {w : World} {g pc : Nat} {r c : Int} {i : Ins} (h : WordAt w g pc c i) : Calls Tryz.prog 19 #[.pointer (some ⟨g, 0, none⟩), ctxV pc r] w (Ret (tup2 i.val (.bool true)) E0 w) := by
  obtain ⟨⟨b, o, n, cp, g0, c0, hpn, hn⟩, hlo, hhi, hdec⟩ := h
  have DC : Hid (∀ u, Calls Tryz.prog 60 #[.int .u32 c] u (Ret (.tuple #[.agg #[.int .i64 i.op, .int .i64 i.a, .int .i64 i.b, .int .i64 i.c, .int .i64 i.imm], .int .i64 0]) E0 u)) := hid (fun u => by
    have := decode_ok c u hlo hhi
    rw [hdec] at this; exact this)
  have G0 := hid g0
  have C0 := hid c0
  have hg := World.block_lt_of_cell? w _ g0
  have hb := World.block_lt_of_cell? w _ c0
  have p1 : ¬ (pc : Int) < 0 := by omega
  have p2 : ¬ (n : Int) ≤ (pc : Int) := by omega
  clear hlo hhi hdec
  unfold ctxV
  go_enter Tryz.func19, Tryz.ntmps19
  go_upto_region 1 with fail
  generalize hW : World.alloc _ _ = W
  have F0 := hid (show Fr E0 w W from by rw [← hW]; exact (Fr.refl.alloc _).alloc _)
  have T3 := hid (show W.heap[w.heap.size]? = some (.cells #[.int .i64 pc, .int .i64 0, .int .i64 r, .int .i64 0, .int .i64 0, .int .i64 0, .int .i64 0, .int .i64 0, .int .i64 0, .int .i64 0, .int .i64 0, .int .i64 0, .int .i64 0, .int .i64 0, .int .i64 0, .int .i64 0, .int .i64 0, .slice none 0 0] 106 (0, 0)) from by rw [← hW]; exact heap_alloc2_old w _ _)
  have T4 := hid (show W.heap[w.heap.size + 1]? = some (.cells #[.int .i64 0, .int .i64 0, .int .i64 0, .int .i64 0, .int .i64 0] 108 (0, 0)) from by rw [← hW]; exact heap_alloc2_new w _ _)
  clear hW g0 c0
  have g0 := F0.out.cell G0.out (ne0 _)
  have c0 := F0.out.cell C0.out (ne0 _)
  have t3 : W.cell? ⟨w.heap.size, 0, none⟩ = some (.int .i64 pc) := cell_of_row W _ 0 _ _ _ T3.out
  go_region
  generalize hV : World.drew W = V
  have FV := hid (show Fr E0 w V from by rw [← hV]; exact F0.out.drew)
  have T4V := hid (show V.heap[w.heap.size + 1]? = some (.cells #[.int .i64 0, .int .i64 0, .int .i64 0, .int .i64 0, .int .i64 0] 108 (0, 0)) from by rw [← hV]; exact T4.out)
  have K0 := hid (show Fr E0 V V ∧ V.cell? ⟨g, 0, none⟩ = some (.slice (some ⟨b, o, none⟩) n cp) ∧ V.cell? ⟨w.heap.size, 0, none⟩ = some (.int .i64 pc) ∧ V.cell? ⟨b, o + pc, none⟩ = some (.int .u32 c) from by rw [← hV]; exact ⟨Fr.refl, g0, t3, c0⟩)
  have p3 : (pc : Int) < n := by omega
  have tl := heap_lt T4V.out
  clear hV g0 c0 t3 F0 T3 T4
  go_upto_region 3 with fail
  go_region_held3 (fun w' => Fr E0 V w' ∧ w'.cell? ⟨g, 0, none⟩ = some (.slice (some ⟨b, o, none⟩) n cp) ∧ w'.cell? ⟨w.heap.size, 0, none⟩ = some (.int .i64 pc) ∧ w'.cell? ⟨b, o + pc, none⟩ = some (.int .u32 c))
    (exact kp7 K0.out ⟨rfl, rfl, rfl⟩ (by repeat (with_reducible first | exact hk1.out.1 | exact Fr.refl | refine Fr.alloc ?_ _ | refine Fr.drew ?_ | refine Fr.setNew ?_ _ (Nat.le_refl _))))
    (first | (go_at_call 60; refine (DC.out _).mono ?_; rintro e w1 ⟨rfl, hf1⟩; have hk1 := hid (kp7 (by assumption) ⟨rfl, rfl, rfl⟩ hf1); have G1 := hid hf1; (first | ((with_reducible have T1 := hid (hf1.heapAt (heap_alloc_drew _ _) (ne0 _))); (have tc := fun j => cell_of_row w1 _ j _ _ _ T1.out; have tf := fun j => frozen_of_row w1 _ j _ _ T1.out; have tlx := heap_lt T1.out; clear hf1)) | clear hf1)))
  all_goals
    first
      | (have IY := hid (heap_set5 T1.out (.int .i64 i.op) (.int .i64 i.a) (.int .i64 i.b) (.int .i64 i.c) (.int .i64 i.imm))
         have FY := hid (show Fr E0 V (((((w1.setCell ⟨V.heap.size, 0, none⟩ (.int .i64 i.op)).setCell ⟨V.heap.size, 1, none⟩ (.int .i64 i.a)).setCell ⟨V.heap.size, 2, none⟩ (.int .i64 i.b)).setCell ⟨V.heap.size, 3, none⟩ (.int .i64 i.c)).setCell ⟨V.heap.size, 4, none⟩ (.int .i64 i.imm)) from (((((hk1.out.1.setNew _ (Nat.le_refl _)).setNew _ (Nat.le_refl _)).setNew _ (Nat.le_refl _)).setNew _ (Nat.le_refl _)).setNew _ (Nat.le_refl _)))
         generalize (((((w1.setCell ⟨V.heap.size, 0, none⟩ (.int .i64 i.op)).setCell ⟨V.heap.size, 1, none⟩ (.int .i64 i.a)).setCell ⟨V.heap.size, 2, none⟩ (.int .i64 i.b)).setCell ⟨V.heap.size, 3, none⟩ (.int .i64 i.c)).setCell ⟨V.heap.size, 4, none⟩ (.int .i64 i.imm)) = Y at IY FY ⊢)
      | (have IY := hid (heap_alloc_new w1 (.cells #[.int .i64 i.op, .int .i64 i.a, .int .i64 i.b, .int .i64 i.c, .int .i64 i.imm] 108))
         have FY := hid (hk1.out.1.alloc (.cells #[.int .i64 i.op, .int .i64 i.a, .int .i64 i.b, .int .i64 i.c, .int .i64 i.imm] 108))
         generalize World.alloc w1 _ = Y at IY FY ⊢)
    have T4Y := hid (FY.out.heapAt T4V.out (ne0 _))
    have FW := hid (FV.out.trans FY.out)
    clear hk1 G1 K0
    clear ‹Fr E0 V _ ∧ _›
    have ic := fun j => cell_of_row Y _ j _ _ _ IY.out
    have il := heap_lt IY.out
    have dc := fun j => cell_of_row Y _ j _ _ _ T4Y.out
    have df := fun j => frozen_of_row Y _ j _ _ T4Y.out
    go_wp2
    exact bodyPost_ret (v := tup2 i.val (.bool true)) (res_row2 rfl _ _ (w.heap.size + 1) 108 _ (0, 0) _ (by kernel_rfl) (heap_set5 T4Y.out (.int .i64 i.op) (.int .i64 i.a) (.int .i64 i.b) (.int .i64 i.c) (.int .i64 i.imm)) Tryz.underlying108 rfl (by kernel_rfl) (by kernel_rfl)) rfl
      ⟨rfl, ((((FW.out.setNew _ (by omega)).setNew _ (by omega)).setNew _ (by omega)).setNew _ (by omega)).setNew _ (by omega)⟩
end Go.Proofs.YtocepiogpeafoaaGreatDoor
