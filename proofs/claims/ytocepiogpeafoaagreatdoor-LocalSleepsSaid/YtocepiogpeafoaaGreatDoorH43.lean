/- Words and contracts of calls that the law needs (Law): merged by wip/gen/zmerge.py. No condition but those that each theorem names. -/
import Derived.LoopN
import Derived.Test.YtocepiogpeafoaaGreatDoorH41
import Derived.Test.YtocepiogpeafoaaGreatDoorH42
set_option linter.unusedVariables false
/- rotalaw20.LocalSleeps: the walk. -/
namespace Go.Proofs.YtocepiogpeafoaaGreatDoor
open Go.RowKit
set_option linter.unusedVariables false
theorem dispatch_row {w : World} {g m x : Nat} {xr : Array Value} (h : OneG g m x w) (hx : w.heap[x]? = some (.cells xr 110 (0, 0))) (h2 : xr[2]? = some (.int .i64 1)) : Calls Tryz.prog 8 #[.pointer (some ⟨g, 0, none⟩), .agg #[.int .i64 0, .int .i64 1]] w fun e w' => e = .returned (.int .i64 0) ∧ Fr (fun k => k = x) w w' ∧ w'.heap[x]? = some (.cells (xr.setIfInBounds 2 (.int .i64 2)) 110 (0, 0)) := by
  have HX := hid hx
  have H2 := hid h2
  clear hx h2
  go_enter Tryz.func8, Tryz.ntmps8
  go_wp2_with fail
  refine (find_ok' (h.fr (Fr.refl.alloc _))).mono ?_
  rintro e w1 ⟨rfl, hf⟩
  have F := hid (((Fr.refl (S := E0) (w := w)).alloc _).trans hf)
  have X1 := hid (F.out.heapAt HX.out (fun x => x))
  have c2 : w1.cell? ⟨x, 2, none⟩ = some (.int .i64 1) := by rw [cell_of_row w1 x 2 _ _ _ X1.out]; exact H2.out
  have f2 : w1.frozen? ⟨x, 2, none⟩ = false := frozen_of_row w1 x 2 _ _ X1.out
  clear hf
  simp only [tup2]
  go_wp2
  go_ret
  exact ⟨rfl, (F.out.e0).setCell _ (.inl rfl), heap_setCell_same _ _ 2 _ _ _ X1.out⟩
/-- what the second Do leaves -/
def SleptPost (D : Blk) (c k : Int) (w : World) (e : Ending) (w' : World) : Prop := ∃ A ca, e = .returned (tup2 (.agg #[.bool false, .slice none 0 0, .slice (some ⟨A, 0, none⟩) 1 ca]) (.int .i64 0)) ∧ Dom D (slP k) true 1 (gorR 4 2 k) w' ∧ ((c + k < two64 ∧ TimOne 1 D.ti D.h D.pm D.ids D.own D.gsm (c + k) w') ∨ (two64 ≤ c + k ∧ TimNev D.ti D.h D.pm w')) ∧ Fr D.all w w'
theorem do_slept {w : World} {D : Blk} {k c : Int} (hk1 : 1 ≤ k) (hk2 : k ≤ 32767) (hc : 0 ≤ c ∧ c < two64) (h : Dom D (slP k) true 1 (gorR 2 1 k) w) (ht : TimNew D.ti D.h D.pm D.ids D.own D.gsm w) :
    Calls Tryz.prog 9 #[.pointer (some ⟨D.g, 0, none⟩), .agg #[.int .i64 0, .int .i64 1], .agg #[.int .u64 0, .int .i64 0, .int .u64 c], .slice none 0 0] w (SleptPost D c k w) := by
  rcases Int.lt_or_le (c + k) two64 with hlt | hle
  · exact (do_sleep hk1 hk2 h ht ⟨hc.1, hlt⟩).mono (fun e w' ⟨A, ca, h1, h2, h3, h4⟩ => ⟨A, ca, h1, h2, .inl ⟨hlt, h3⟩, h4⟩)
  · exact (do_sleepN hk1 hk2 h ht ⟨hc, hle⟩).mono (fun e w' ⟨A, ca, h1, h2, h3, h4⟩ => ⟨A, ca, h1, h2, .inr ⟨hle, h3⟩, h4⟩)
theorem rd_get (r : Array Value) (j : Nat) (hj : j < 4) : ((#[.int .i64 0, .int .i64 1, .int .u64 1, .bool false] : Array Value) ++ r)[j]? = (#[.int .i64 0, .int .i64 1, .int .u64 1, .bool false] : Array Value)[j]? := Array.getElem?_append_left (by simpa using hj)
theorem keep6 {U w3 : World} {d a g x : Nat} {v1 v2 v3 v4 v5 v6 : Value} (h : U.cell? ⟨d, 1, none⟩ = some v1 ∧ U.cell? ⟨a, 0, none⟩ = some v2 ∧ U.cell? ⟨a, 1, none⟩ = some v3 ∧ U.cell? ⟨a, 3, none⟩ = some v4 ∧ U.cell? ⟨g, 0, none⟩ = some v5 ∧ U.cell? ⟨g, 1, none⟩ = some v6) (hf : Fr (fun k => k = x) U.drew w3) (h1 : x ≠ d) (h2 : x ≠ a) (h3 : x ≠ g) :
    w3.cell? ⟨d, 1, none⟩ = some v1 ∧ w3.cell? ⟨a, 0, none⟩ = some v2 ∧ w3.cell? ⟨a, 1, none⟩ = some v3 ∧ w3.cell? ⟨a, 3, none⟩ = some v4 ∧ w3.cell? ⟨g, 0, none⟩ = some v5 ∧ w3.cell? ⟨g, 1, none⟩ = some v6 := by
  obtain ⟨q1, q2, q3, q4, q5, q6⟩ := h
  exact ⟨hf.cell (w := U.drew) q1 (Ne.symm h1), hf.cell (w := U.drew) q2 (Ne.symm h2), hf.cell (w := U.drew) q3 (Ne.symm h2), hf.cell (w := U.drew) q4 (Ne.symm h2), hf.cell (w := U.drew) q5 (Ne.symm h3), hf.cell (w := U.drew) q6 (Ne.symm h3)⟩
/-- what the loop over the clocks keeps -/
structure LInv (D : Blk) (c k : Int) (db gb : Nat) (w wr : World) : Prop where
  dom : Dom D (slP k) true 1 (gorR 4 2 k) wr
  tim : (c + k < two64 ∧ TimOne 1 D.ti D.h D.pm D.ids D.own D.gsm (c + k) wr) ∨ (two64 ≤ c + k ∧ TimNev D.ti D.h D.pm wr)
  did : FitsN 69 3 wr db
  gid : wr.heap[gb]? = some (.cells #[.int .i64 0, .int .i64 1] 72 (0, 0))
  fr : Fr E0 w wr
theorem FitsN.cells3 {t : TypeId} {w : World} {b : Nat} (h : FitsN t 3 w b) : ∃ v0 v1 v2, w.heap[b]? = some (.cells #[v0, v1, v2] t (0, 0)) := by
  obtain ⟨old, h1, h2⟩ := h
  obtain ⟨l⟩ := old
  match l, h2 with
  | [a, b', c'], _ => exact ⟨a, b', c', h1⟩
theorem LInv.fr0 {D : Blk} {c k : Int} {db gb : Nat} {w wr w' : World} (h : LInv D c k db gb w wr) (hf : Fr E0 wr w') : LInv D c k db gb w w' := by
  refine ⟨h.dom.fr hf, ?_, ?_, hf.heapAt h.gid (ne0 _), h.fr.trans hf⟩
  · rcases h.tim with ⟨h1, h2⟩ | ⟨h1, h2⟩
    · exact .inl ⟨h1, h2.fr hf⟩
    · obtain ⟨rw, q1, q2, q3⟩ := h2.obj
      exact .inr ⟨h1, ⟨rw, hf.heapAt q1 (ne0 _), q2, q3⟩, hf.heapAt h2.heap.1 (ne0 _), hf.heapAt h2.heap.2 (ne0 _)⟩
  · obtain ⟨old, h1, h2⟩ := h.did
    exact ⟨old, hf.heapAt h1 (ne0 _), h2⟩
theorem LInv.put {D : Blk} {c k : Int} {db gb : Nat} {w wr w' : World} {cs : Array Value} (h : LInv D c k db gb w wr) (hf : Fr (fun i => i = db) wr w') (hb : w'.heap[db]? = some (.cells cs 69 (0, 0))) (hcs : cs.size = 3) (hn : gb ≠ db) (hw : w.heap.size ≤ db) : LInv D c k db gb w w' := by
  obtain ⟨old, h1, h2⟩ := h.did
  refine ⟨h.dom.blk hf h1 (by decide) (by decide) (by decide) (by decide), ?_, ⟨cs, hb, hcs⟩, hf.heapAt h.gid hn, h.fr.trans' hf (fun i hi => .inr (by omega))⟩
  rcases h.tim with ⟨h3, h4⟩ | ⟨h3, h4⟩
  · exact .inl ⟨h3, h4.blk hf h1 (by decide) (by decide) (by decide)⟩
  · exact .inr ⟨h3, h4.blk hf h1 (by decide) (by decide)⟩
/-- the clock at which the sleeper is due, as the law reckons it -/
theorem due_eq {c q k : Int} (hc : 0 ≤ c ∧ c < two64) (hq : q + 1 = k) (h0 : 0 ≤ q) (h1 : q < 32767) : (c + k < two64 → IntKind.u64.wrap (IntKind.u64.wrap (c + IntKind.u64.wrap q) + 1) = c + k) ∧ (two64 ≤ c + k → IntKind.u64.wrap (IntKind.u64.wrap (c + IntKind.u64.wrap q) + 1) < c) := by
  unfold IntKind.wrap two64 at *
  simp [IntKind.bits, IntKind.signed]
  omega
theorem Dom.one {D : Blk} {p : Prg} {b : Bool} {t s pc r : Int} {w : World} (h : Dom D p b t (gorR s pc r) w) : OneG D.g D.m D.x w := ⟨cell_of_row w D.g 10 _ _ _ h.obj, h.map, cell_of_row w D.x 0 _ _ _ h.gor, cell_of_row w D.x 1 _ _ _ h.gor⟩
theorem code3 {w : World} {b cp : Nat} {k : Int} {r : Array Value} (h : w.heap[b]? = some (.cells (#[.int .u32 (34603008 + k)] ++ (#[.int .u32 454033408, .int .u32 402653184] ++ r)) 37 (0, 0))) (h1 : 3 ≤ cp) (h2 : cp ≤ maxLen) : Rd w (.slice (some ⟨b, 0, none⟩) 3 cp) 1 (codeC (slP k).code) := by
  refine ⟨_, 3, cp, rfl, h1, h2, rfl, .inr ⟨b, 0, rfl, fun j v hv => ?_⟩⟩
  rw [Nat.zero_add, cell_of_row w b j _ _ _ h]
  have hj : j < 3 := by have := lt_of_get hv; simpa [codeC, slP] using this
  have e : (#[.int .u32 (34603008 + k)] ++ (#[.int .u32 454033408, .int .u32 402653184] ++ r) : Array Value).toList = [.int .u32 (34603008 + k), .int .u32 454033408, .int .u32 402653184] ++ r.toList := by simp
  rw [← Array.getElem?_toList, e, List.getElem?_append_left (by simpa using hj)]
  exact hv
theorem cut3 (t : Nat) (e : TypeId) : 3 ≤ (Question.appendCap 3 1 e).cut t ∧ (Question.appendCap 3 1 e).cut t ≤ maxLen := by
  have := Nat.mod_lt t (show 0 < 2 ^ 63 - 3 from by decide)
  show 3 ≤ 3 + t % (2 ^ 63 - 3) ∧ 3 + t % (2 ^ 63 - 3) ≤ 2 ^ 63 - 1
  omega
theorem fn1 {w : World} {b : Nat} (h : w.heap[b]? = some (.cells #[.int .i64 0, .int .i64 3] 39 (0, 0))) : Rd w (.slice (some ⟨b, 0, none⟩) 1 1) 2 (fnC [⟨0, 3⟩]) := by
  refine ⟨_, 1, 1, rfl, Nat.le_refl _, by unfold maxLen; omega, rfl, .inr ⟨b, 0, rfl, fun j v hv => ?_⟩⟩
  rw [Nat.zero_add, cell_of_row w b j _ _ _ h]
  have hj : j < 2 := by have := lt_of_get hv; simpa [fnC, Fn.cells] using this
  match j, hj with
  | 0, _ => simpa [fnC, Fn.cells] using hv
  | 1, _ => simpa [fnC, Fn.cells] using hv
def u64s (l : List Int) : List Value := l.map (Value.int .u64)
set_option maxRecDepth 100000 in
set_option maxHeartbeats 40000000 in
theorem law_walk {w : World} {c tk : Int} {vcl : Value} {cls : List Int} (hc : 0 ≤ c ∧ c < two64) (ht : 0 ≤ tk ∧ tk < 65536) (hl : Rd w vcl 1 (u64s cls)) (hcl : ∀ n ∈ cls, 0 ≤ n ∧ n < two64) :
    Calls Tryz.prog 3 #[.int .u64 c, .int .u16 tk, vcl] w (Ret (.bool true) E0 w) := by
  obtain ⟨cA, cn, cc, rfl, hcl0, hcl1, hcl2, hcl3⟩ := hl
  have CL := hid (And.intro hcl0 (And.intro hcl1 (And.intro hcl2 hcl3)))
  have CB := hid hcl
  have HC := hid hc
  have HT := hid ht
  clear hcl0 hcl1 hcl2 hcl3 hcl hc ht
  go_enter Tryz.func3, Tryz.ntmps3
  go_wp2_with fail
  refine (small_ok _).mono ?_
  rintro e w1 ⟨sa, sb, rfl, ha, hb, hsa, hsb, hf1⟩
  have F1 := hid hf1
  have SB1 := hid hb
  have SZ := hid (And.intro hsa hsb)
  clear hf1 ha hb hsa hsb
  unfold given
  go_upto_region 2 with fail
  generalize hW : World.alloc _ _ = W
  have FW := hid (show Fr E0 w W from by rw [← hW]; exact F1.out.alloc _)
  have T7 := hid (show W.heap[w1.heap.size]? = some (.cells #[.string ⟨#[]⟩, .slice (some ⟨sa, 0, none⟩) 1 1, .slice (some ⟨sb, 0, none⟩) 1 1, .slice none 0 0, .int .i64 2, .int .i64 0, .int .i64 0, .int .i64 1, .slice none 0 0, .slice none 0 0] 35 (0, 0)) from by rw [← hW]; exact heap_alloc_new w1 _)
  have SB := hid (show W.heap[sb]? = some (.cells #[.int .i64 0, .int .i64 1] 39 (0, 0)) from by rw [← hW]; exact (alloc_keepT w1 _ (heap_lt SB1.out)).trans SB1.out)
  have hsb : sb < w1.heap.size := heap_lt SB1.out
  have hw1 : w1.heap.size < W.heap.size := heap_lt T7.out
  clear hW SB1
  have tf := fun j => frozen_of_row W w1.heap.size j _ _ T7.out
  have t1 : W.cell? ⟨w1.heap.size, 1, none⟩ = some (.slice (some ⟨sa, 0, none⟩) 1 1) := cell_of_row W _ 1 _ _ _ T7.out
  go_upto_region 3 with fail
  clear tf t1
  have xs : (W.setCell ⟨w1.heap.size, 1, none⟩ (.slice (some ⟨W.heap.size, 0, none⟩) 2 2)).heap.size = W.heap.size := by simp
  have F2 := hid (show Fr (fun k => k = w1.heap.size) W (W.setCell ⟨w1.heap.size, 1, none⟩ (.slice (some ⟨W.heap.size, 0, none⟩) 2 2)) from Fr.setCell (p := ⟨w1.heap.size, 1, none⟩) Fr.refl _ (.inl rfl))
  have T7b := hid (heap_setCell_same W w1.heap.size 1 _ _ (.slice (some ⟨W.heap.size, 0, none⟩) 2 2) T7.out)
  generalize W.setCell ⟨w1.heap.size, 1, none⟩ (.slice (some ⟨W.heap.size, 0, none⟩) 2 2) = W2 at *
  generalize hV : World.alloc _ _ = V
  have GV := hid (show Fr E0 W2 V from by rw [← hV]; exact Fr.refl.alloc _)
  have CV := hid (show V.heap[W.heap.size]? = some (.cells #[.int .u32 454033408, .int .u32 402653184] 37 (0, 0)) from by rw [← hV, ← xs]; exact heap_alloc_new W2 _)
  clear hV
  have TV := hid (GV.out.heapAt T7b.out (ne0 _))
  have SV := hid (GV.out.heapAt (F2.out.heapAt SB.out (by omega)) (ne0 _))
  have FV := hid (show Fr E0 w V from (FW.out.trans' F2.out (fun k hk => .inr (by have := F1.out.size; omega))).trans GV.out)
  have hwv : W.heap.size < V.heap.size := heap_lt CV.out
  clear F2 T7b GV FW T7 SB xs
  have t2 : V.cell? ⟨w1.heap.size, 2, none⟩ = some (.slice (some ⟨sb, 0, none⟩) 1 1) := cell_of_row V _ 2 _ _ _ TV.out
  have s1 : V.cell? ⟨sb, 1, none⟩ = some (.int .i64 1) := cell_of_row V sb 1 _ _ _ SV.out
  have sf := fun j => frozen_of_row V sb j _ _ SV.out
  go_upto_region 4 with fail
  clear t2 s1 sf
  have F3 := hid (show Fr (fun k => k = sb) V (V.setCell ⟨sb, 1, none⟩ (.int .i64 2)) from Fr.setCell (p := ⟨sb, 1, none⟩) Fr.refl _ (.inl rfl))
  have SX := hid (heap_setCell_same V sb 1 _ _ (.int .i64 2) SV.out)
  generalize V.setCell ⟨sb, 1, none⟩ (.int .i64 2) = X at *
  have TX := hid (F3.out.heapAt TV.out (by omega))
  have CX := hid (F3.out.heapAt CV.out (by omega))
  have FX := hid (show Fr E0 w X from FV.out.trans' F3.out (fun k hk => .inr (by have := SZ.out.2; omega)))
  have hvx : V.heap.size ≤ X.heap.size := F3.out.size
  clear F3 TV CV SV FV
  have t1 : X.cell? ⟨w1.heap.size, 1, none⟩ = some (.slice (some ⟨W.heap.size, 0, none⟩) 2 2) := cell_of_row X _ 1 _ _ _ TX.out
  have tf := fun j => frozen_of_row X w1.heap.size j _ _ TX.out
  have q0 : X.cell? ⟨W.heap.size, 0, none⟩ = some (.int .u32 454033408) := cell_of_row X _ 0 _ _ _ CX.out
  have q1 : X.cell? ⟨W.heap.size, 1, none⟩ = some (.int .u32 402653184) := cell_of_row X _ 1 _ _ _ CX.out
  have l1 : w1.heap.size < X.heap.size := by omega
  have l2 : w1.heap.size < X.heap.size + 1 := by omega
  have l3 : w1.heap.size < X.heap.size + 1 + 1 := by omega
  have l4 : W.heap.size < X.heap.size := by omega
  have l5 : W.heap.size < X.heap.size + 1 := by omega
  have apE : ¬ (281474976710656 < Builtin.nextslicecap 3 1 * Tryz.t37.bytes) := by decide
  go_upto_region 5 with fail
  clear t1 tf q0 q1 l1 l2 l3 l4 l5 apE
  have hT := HT.out
  have htm : 0 ≤ tk.tmod 32767 ∧ tk.tmod 32767 < 32767 := ⟨Int.tmod_nonneg _ hT.1, Int.tmod_lt_of_pos _ (by decide)⟩
  obtain ⟨k, hk⟩ : ∃ k, tk.tmod 32767 + 1 = k := ⟨_, rfl⟩
  have e1 : (34603008 + tk.tmod 32767 + 1) % 4294967296 = 34603008 + k := by omega
  have HK := hid (show 1 ≤ k ∧ k ≤ 32767 from by omega)
  have HQ := hid (And.intro hk htm)
  rw [e1]
  clear hT htm hk e1
  obtain ⟨cp, hcp⟩ : ∃ cp, (Question.appendCap 3 1 37).cut (X.tape X.drawn (Question.appendCap 3 1 37)) = cp := ⟨_, rfl⟩
  have CP := hid (show 3 ≤ cp ∧ cp ≤ maxLen from by
    rw [← hcp]
    exact cut3 _ _)
  rw [hcp]
  clear hcp
  obtain ⟨r, hr⟩ : ∃ r, Builtin.zeroCells #[.int .u32 0] (cp - 3) = r := ⟨_, rfl⟩
  rw [hr]
  clear hr
  have TY0 := hid (heap_setCell_same X w1.heap.size 1 _ _ (.slice (some ⟨X.heap.size + 1, 0, none⟩) 3 cp) TX.out)
  have GY0 := hid (show Fr (fun k => k = w1.heap.size) X (X.setCell ⟨w1.heap.size, 1, none⟩ (.slice (some ⟨X.heap.size + 1, 0, none⟩) 3 cp)) from Fr.setCell (p := ⟨w1.heap.size, 1, none⟩) Fr.refl _ (.inl rfl))
  have xs : (X.setCell ⟨w1.heap.size, 1, none⟩ (.slice (some ⟨X.heap.size + 1, 0, none⟩) 3 cp)).heap.size = X.heap.size := by simp
  generalize X.setCell ⟨w1.heap.size, 1, none⟩ (.slice (some ⟨X.heap.size + 1, 0, none⟩) 3 cp) = X2 at *
  generalize hY : World.drew _ = Y
  have GY := hid (show Fr E0 X2 Y from by
    rw [← hY]
    repeat (with_reducible first | exact Fr.refl | refine Fr.alloc ?_ _ | refine Fr.drew ?_))
  have RY := hid (show Y.heap[X.heap.size + 1]? = some (.cells (#[.int .u32 (34603008 + k)] ++ (#[.int .u32 454033408, .int .u32 402653184] ++ r)) 37 (0, 0)) from by rw [← hY, ← xs]; exact heap_alloc2_new X2 _ _)
  clear hY
  have TY := hid (GY.out.heapAt TY0.out (ne0 _))
  have SY := hid (GY.out.heapAt (GY0.out.heapAt SX.out (by omega)) (ne0 _))
  have FY := hid (show Fr E0 w Y from (FX.out.trans' GY0.out (fun k hk => .inr (by have := F1.out.size; omega))).trans GY.out)
  have hxy : X.heap.size + 1 < Y.heap.size := heap_lt RY.out
  clear TY0 GY0 GY xs FX TX SX CX
  have t2 : Y.cell? ⟨w1.heap.size, 2, none⟩ = some (.slice (some ⟨sb, 0, none⟩) 1 1) := cell_of_row Y _ 2 _ _ _ TY.out
  have s1 : Y.cell? ⟨sb, 1, none⟩ = some (.int .i64 2) := cell_of_row Y sb 1 _ _ _ SY.out
  have sf := fun j => frozen_of_row Y sb j _ _ SY.out
  go_upto_region 6 with fail
  clear t2 s1 sf
  have F3 := hid (show Fr (fun k => k = sb) Y (Y.setCell ⟨sb, 1, none⟩ (.int .i64 3)) from Fr.setCell (p := ⟨sb, 1, none⟩) Fr.refl _ (.inl rfl))
  have SZ2 := hid (heap_setCell_same Y sb 1 _ _ (.int .i64 3) SY.out)
  generalize Y.setCell ⟨sb, 1, none⟩ (.int .i64 3) = Z at *
  have TZ := hid (F3.out.heapAt TY.out (by omega))
  have RZ := hid (F3.out.heapAt RY.out (by omega))
  have FZ := hid (show Fr E0 w Z from FY.out.trans' F3.out (fun k hk => .inr (by have := SZ.out.2; omega)))
  have hyz : Y.heap.size ≤ Z.heap.size := F3.out.size
  clear F3 TY SY RY FY
  apply wp_region_lit
  refine wpList_load_row rfl 35 _ rfl w1.heap.size (by kernel_rfl) 35 _ (0, 0) _ TZ.out Tryz.underlying35 rfl (by kernel_rfl) ?_
  simp only [Act.put, List.setIfInBounds_toArray, List.set_cons_zero, List.set_cons_succ]
  go_wp2_with fail
  refine (made_ok (nm := ⟨#[]⟩) (gs := 2) (n := 0) (p := slP k) (f := ⟨0, 3⟩) (code3 RZ.out CP.out.1 CP.out.2) (fn1 SZ2.out) rfl (slP_wf k HK.out.1 HK.out.2) (slP_ok k HK.out.1 HK.out.2) rfl (by decide) (by decide) (by decide)).mono ?_
  rintro e w5 ⟨D, cs, rfl, hc1, hc2, hc3, hD, hTm, hall, hf5⟩
  have F5 := hid (FZ.out.trans hf5)
  have DW := hid hD
  have TW := hid hTm
  have AL := hid (show ∀ k, D.all k → Z.heap.size ≤ k from hall)
  have AL2 := hid (show ∀ k, D.all k → k < w5.heap.size from by
    intro k hk
    rcases hk with rfl | rfl | rfl | rfl | rfl | rfl | rfl | rfl
    · exact heap_lt hD.obj
    · exact heap_lt hD.gor
    · exact heap_lt hTm.obj
    · exact heap_lt hTm.heap.1
    · exact heap_lt hTm.heap.2
    · exact heap_lt hTm.ids
    · exact heap_lt hTm.own
    · exact heap_lt hTm.gs)
  have C1 := hid hc1
  have C2 := hid hc2
  have C3 := hid hc3
  have CI := hid (show (Tryz.prog.info? 61).map (·.size) = some cs.size from by rw [hc1]; kernel_rfl)
  clear hf5 hD hTm hall hc1 hc2 hc3
  obtain ⟨cl, hcl⟩ : ∃ cl, cs.toList = cl := ⟨_, rfl⟩
  have hst : ∀ (u : World) (T : Nat), FitsN 61 30 u T → (storeCells ⟨T, 0, none⟩ cl).run Tryz.prog u = .ok () (setMap u T (.cells cs 61 (0, 0))) := fun u T h => by
    rw [← hcl]; exact run_store_fits h C1.out C3.out
  have hf0 : ∀ (u : World) (T : Nat), T = u.heap.size → FitsN 61 30 (u.alloc (.cells #[.pointer none, .string ⟨#[]⟩, .slice none 0 0, .slice none 0 0, .slice none 0 0, .int .i64 0, .int .i64 0, .int .i64 0, .int .i64 0, .slice none 0 0, .slice none 0 0, .bool false, .slice none 0 0, .int .i64 0, .slice none 0 0, .slice none 0 0, .slice none 0 0, .slice none 0 0, .slice none 0 0, .slice none 0 0, .slice none 0 0, .slice none 0 0, .slice none 0 0, .slice none 0 0, .slice none 0 0, .int .i64 0, .slice none 0 0, .slice none 0 0, .int .u64 0, .int .i64 0] 61)) T := fun u T h => fitsN_new _ _ _ rfl u T h
  simp only [tup3]
  go_upto_region 9 with fail
  clear hf0 hst hcl
  generalize hS : setMap _ _ (Obj.cells cs 61 (0, 0)) = S
  have GS := hid (show Fr E0 w5 S from by rw [← hS]; exact (Fr.refl.alloc _).setMap _ (.inr (Nat.le_refl _)))
  have BS := hid (show S.heap[w5.heap.size]? = some (.cells cs 61 (0, 0)) from by rw [← hS]; exact setMap_at (heap_alloc_new w5 _))
  clear hS
  have b0 : S.cell? ⟨w5.heap.size, 0, none⟩ = some (.pointer (some ⟨D.g, 0, none⟩)) := by rw [cell_of_row S _ 0 _ _ _ BS.out]; exact C2.out
  go_upto_region 11 with fail
  clear b0
  generalize hV7 : World.alloc _ _ = V7
  have GV7 := hid (show Fr E0 w5 V7 from by rw [← hV7]; exact GS.out.alloc _)
  have T12 := hid (show V7.heap[S.heap.size]? = some (.cells #[.int .u64 0, .int .i64 0, .int .u64 c] 65 (0, 0)) from by rw [← hV7]; exact heap_alloc_new S _)
  clear hV7
  have hs5 : w5.heap.size < S.heap.size := heap_lt BS.out
  have al2 := hid (show D.g < w5.heap.size ∧ D.x < w5.heap.size from ⟨AL2.out _ (.inl rfl), AL2.out _ (.inr (.inl rfl))⟩)
  have DV7 := hid (DW.out.fr GV7.out)
  have h0 : V7.cell? ⟨S.heap.size, 0, none⟩ = some (.int .u64 0) := cell_of_row V7 _ 0 _ _ _ T12.out
  have h1 : V7.cell? ⟨S.heap.size, 1, none⟩ = some (.int .i64 0) := cell_of_row V7 _ 1 _ _ _ T12.out
  have h2 : V7.cell? ⟨S.heap.size, 2, none⟩ = some (.int .u64 c) := cell_of_row V7 _ 2 _ _ _ T12.out
  clear BS GS
  go_wp2_with fail
  refine (start_ok DV7.out).mono ?_
  rintro e w8 ⟨v1, v2, rfl, hd8, hf8⟩
  have D8 := hid hd8
  have F8 := hid (GV7.out.e0.trans hf8)
  have W8 := hid (hf8.heapAt T12.out (by have := al2.out; omega))
  clear hd8 hf8 h0 h1 h2 T12 GV7 DV7
  go_upto_region 13 with fail
  generalize hV9 : World.alloc _ _ = V9
  have GV9 := hid (show Fr E0 w8 V9 from by rw [← hV9]; exact Fr.refl.alloc _)
  have T13 := hid (show V9.heap[w8.heap.size]? = some (.cells #[.int .i64 0, .int .i64 1] 72 (0, 0)) from by rw [← hV9]; exact heap_alloc_new w8 _)
  clear hV9
  have D9 := hid (show Dom D (slP k) true 1 (gorR 1 0 0) V9 from D8.out.fr GV9.out)
  have W9 := hid (GV9.out.heapAt W8.out (ne0 _))
  have F9 := hid (F8.out.trans GV9.out.e0)
  have hs8 : S.heap.size < w8.heap.size := heap_lt W8.out
  have g0 : V9.cell? ⟨w8.heap.size, 0, none⟩ = some (.int .i64 0) := cell_of_row V9 _ 0 _ _ _ T13.out
  have g1 : V9.cell? ⟨w8.heap.size, 1, none⟩ = some (.int .i64 1) := cell_of_row V9 _ 1 _ _ _ T13.out
  clear D8 W8 F8 GV9
  go_wp2_with fail
  refine (dispatch_row D9.out.one D9.out.gor rfl).mono ?_
  rintro e w10 ⟨rfl, hf10, hx10⟩
  have D10 := hid (show Dom D (slP k) true 1 (gorR 2 0 0) w10 from D9.out.step hf10 hx10)
  have W10 := hid (hf10.heapAt W9.out (by have := al2.out; omega))
  have T10 := hid (hf10.heapAt T13.out (by have := al2.out; omega))
  have F10 := hid (show Fr (fun k => k = D.g ∨ k = D.x) w5 w10 from (F9.out.mono (fun k hk => .inl hk)).trans (hf10.mono (fun k hk => .inr hk)))
  clear hf10 hx10 g0 g1 D9 W9 T13 F9
  have g0 : w10.cell? ⟨w8.heap.size, 0, none⟩ = some (.int .i64 0) := cell_of_row w10 _ 0 _ _ _ T10.out
  have g1 : w10.cell? ⟨w8.heap.size, 1, none⟩ = some (.int .i64 1) := cell_of_row w10 _ 1 _ _ _ T10.out
  have h0 : w10.cell? ⟨S.heap.size, 0, none⟩ = some (.int .u64 0) := cell_of_row w10 _ 0 _ _ _ W10.out
  have h1 : w10.cell? ⟨S.heap.size, 1, none⟩ = some (.int .i64 0) := cell_of_row w10 _ 1 _ _ _ W10.out
  have h2 : w10.cell? ⟨S.heap.size, 2, none⟩ = some (.int .u64 c) := cell_of_row w10 _ 2 _ _ _ W10.out
  go_wp2_with fail
  refine (do_set HK.out.1 HK.out.2 D10.out).mono ?_
  rintro e w11 ⟨rfl, hd11, hf11⟩
  have D11 := hid hd11
  have W11 := hid (hf11.heapAt W10.out (by have := al2.out; omega))
  have T11 := hid (hf11.heapAt T10.out (by have := al2.out; omega))
  have F11 := hid (show Fr (fun k => k = D.g ∨ k = D.x) w5 w11 from F10.out.trans (hf11.mono (fun k hk => .inr hk)))
  clear hd11 hf11 g0 g1 h0 h1 h2 D10 W10 T10 F10
  simp only [tup2]
  go_upto_region 15 with fail
  generalize hV12 : World.alloc _ _ = V12
  have GV12 := hid (show Fr E0 w11 V12 from by rw [← hV12]; exact Fr.refl.alloc _)
  clear hV12
  have D12 := hid (D11.out.fr GV12.out)
  have W12 := hid (GV12.out.heapAt W11.out (ne0 _))
  have T12 := hid (GV12.out.heapAt T11.out (ne0 _))
  have F12 := hid (F11.out.trans GV12.out.e0)
  have TM := hid (show TimNew D.ti D.h D.pm D.ids D.own D.gsm V12 from TW.out.fr F12.out (by
    have tw := TW.out
    have dw := DW.out
    have n1 := cells_ne tw.obj dw.obj (by decide)
    have n2 := cells_ne tw.obj dw.gor (by decide)
    have n3 := cells_ne tw.heap.1 dw.obj (by decide)
    have n4 := cells_ne tw.heap.1 dw.gor (by decide)
    have n5 := map_ne tw.heap.2 dw.obj
    have n6 := map_ne tw.heap.2 dw.gor
    have n7 := map_ne tw.ids dw.obj
    have n8 := map_ne tw.ids dw.gor
    have n9 := map_ne tw.own dw.obj
    have n10 := map_ne tw.own dw.gor
    have n11 := map_ne tw.gs dw.obj
    have n12 := map_ne tw.gs dw.gor
    clear tw dw
    omega))
  clear D11 W11 T11 F11 GV12
  have g0 : V12.cell? ⟨w8.heap.size, 0, none⟩ = some (.int .i64 0) := cell_of_row V12 _ 0 _ _ _ T12.out
  have g1 : V12.cell? ⟨w8.heap.size, 1, none⟩ = some (.int .i64 1) := cell_of_row V12 _ 1 _ _ _ T12.out
  have h0 : V12.cell? ⟨S.heap.size, 0, none⟩ = some (.int .u64 0) := cell_of_row V12 _ 0 _ _ _ W12.out
  have h1 : V12.cell? ⟨S.heap.size, 1, none⟩ = some (.int .i64 0) := cell_of_row V12 _ 1 _ _ _ W12.out
  have h2 : V12.cell? ⟨S.heap.size, 2, none⟩ = some (.int .u64 c) := cell_of_row V12 _ 2 _ _ _ W12.out
  go_wp2_with fail
  refine (do_slept HK.out.1 HK.out.2 HC.out D12.out TM.out).mono ?_
  rintro e w13 ⟨A, ca, rfl, hd13, htim, hf13⟩
  have D13 := hid hd13
  have TIM := hid htim
  have T13 := hid (hf13.heapAt T12.out (by intro hk; have := AL2.out _ hk; omega))
  have F13 := hid (show Fr D.all w5 w13 from (F12.out.mono (fun k hk => by rcases hk with rfl | rfl; exact .inl rfl; exact .inr (.inl rfl))).trans hf13)
  clear hd13 htim hf13 g0 g1 h0 h1 h2 D12 W12 T12 F12 TM
  simp only [tup2]
  go_upto_region 16 with fail
  generalize hV14 : World.alloc _ _ = V
  have GV := hid (show Fr E0 w13 V from by rw [← hV14]; exact Fr.refl.alloc _)
  have DR := hid (show V.heap[w13.heap.size]? = some (.cells #[.bool false, .slice none 0 0, .slice (some ⟨A, 0, none⟩) 1 ca] 69 (0, 0)) from by rw [← hV14]; exact heap_alloc_new w13 _)
  clear hV14
  have DV := hid (D13.out.fr GV.out)
  have TV := hid (GV.out.heapAt T13.out (ne0 _))
  have FV := hid (F13.out.trans GV.out.e0)
  have hs13 : w8.heap.size < w13.heap.size := heap_lt T13.out
  have TI := hid (show (c + k < two64 ∧ TimOne 1 D.ti D.h D.pm D.ids D.own D.gsm (c + k) V) ∨ (two64 ≤ c + k ∧ TimNev D.ti D.h D.pm V) from by
    rcases TIM.out with ⟨h1, h2⟩ | ⟨h1, h2⟩
    · exact .inl ⟨h1, h2.fr GV.out⟩
    · obtain ⟨rw, q1, q2, q3⟩ := h2.obj
      exact .inr ⟨h1, ⟨rw, GV.out.heapAt q1 (ne0 _), q2, q3⟩, GV.out.heapAt h2.heap.1 (ne0 _), GV.out.heapAt h2.heap.2 (ne0 _)⟩)
  clear D13 T13 F13 GV TIM
  have d0 : V.cell? ⟨w13.heap.size, 0, none⟩ = some (.bool false) := cell_of_row V _ 0 _ _ _ DR.out
  go_wp2_with fail
  obtain ⟨due, hdue⟩ : ∃ due, IntKind.u64.wrap (IntKind.u64.wrap (c + IntKind.u64.wrap (tk.tmod 32767)) + 1) = due := ⟨_, rfl⟩
  rw [hdue]
  have DU := hid (show (c + k < two64 → due = c + k) ∧ (two64 ≤ c + k → due < c) from by rw [← hdue]; exact due_eq HC.out HQ.out.1 HQ.out.2.1 HQ.out.2.2)
  clear hdue d0
  have hwz : w.heap.size ≤ Z.heap.size := FZ.out.size
  have hz5 : Z.heap.size ≤ w5.heap.size := by have := AL.out _ (.inl rfl); have := al2.out; omega
  have FE := hid (show Fr E0 w V from F5.out.trans' FV.out (fun k hk => .inr (by have := AL.out k hk; omega)))
  have L0 := hid (show LInv D c k w13.heap.size w8.heap.size w V from ⟨DV.out, TI.out, ⟨_, DR.out, rfl⟩, TV.out, FE.out⟩)
  have AW := hid (show ∀ k, D.all k → w.heap.size ≤ k from fun k hk => Nat.le_trans hwz (AL.out k hk))
  clear FE FV TV TI DV DR F5 FZ DW TW AL AL2 C1 C2 C3 CI F1
  go_loopw [20] (fun i wr => ∃ j : Nat, i = .int .i64 j ∧ j ≤ cn ∧ LInv D c k w13.heap.size w8.heap.size w wr) (fun i _ => cn - (intOf i).toNat)
  case atStart => exact ⟨0, rfl, Nat.zero_le _, L0.out⟩
  case round =>
    obtain ⟨j, rfl, hjn, hI⟩ := hrel
    have I := hid hI
    clear hI
    by_cases hlt : j < cn
    · have CLo := CL.out
      have hcn : cls.length = cn := by have := CLo.2.2.1; simp [u64s] at this; omega
      obtain ⟨x, hx⟩ : ∃ x, cls[j]? = some x := ⟨cls[j]'(by omega), List.getElem?_eq_getElem _⟩
      have hu : (u64s cls)[j]? = some (.int .u64 x) := by simp [u64s, hx]
      obtain ⟨b, o, rfl, rd⟩ := CLo.2.2.2.at (by intro e; rw [e] at hu; simp at hu)
      have WJ := hid (show wrap64 ((j : Int) + 1) = (j : Int) + 1 from by
        have h1 := CLo.1
        have h2 := CLo.2.1
        unfold maxLen at h2
        unfold wrap64; omega)
      have p1 : (j : Int) < cn := by omega
      have p2 : ¬ (cn : Int) ≤ (j : Int) := by omega
      have p3 : ¬ (j : Int) < 0 := by omega
      have rdj := rd j _ hu
      have cx : wr.cell? ⟨b, o + j, none⟩ = some (.int .u64 x) := I.out.fr.cell rdj (ne0 _)
      have CX := hid cx
      have BL := hid (show b < w.heap.size from World.block_lt_of_cell? w _ rdj)
      clear hu hx rd rdj CLo hcn
      rcases I.out.tim with ⟨h1, h2⟩ | ⟨h1, h2⟩
      · have hd : due = c + k := DU.out.1 h1
        have nd : ¬ due < c := by have := HK.out; omega
        by_cases hxc : x < c + k
        · have TD := hid (fun u (hu : Fr E0 wr u) => show Calls _ _ _ _ _ from by
            obtain ⟨a', c', r', hh⟩ := (h2.fr hu).heap
            exact tdue_early (now := x) (cell_of_row u D.ti 0 _ _ _ (h2.fr hu).obj) (cell_of_row u D.ti 2 _ _ _ (h2.fr hu).obj) hh hxc)
          have nx : x < due := by omega
          clear h1 h2 hd hxc
          go_wp2_with fail
          refine (due_nobody (cell_of_row wr D.g 15 _ _ _ I.out.dom.obj) TD.out).mono ?_
          rintro e w' ⟨rfl, hf⟩
          have I2 := hid (I.out.fr0 hf)
          have cx2 : w'.cell? ⟨b, o + j, none⟩ = some (.int .u64 x) := hf.cell CX.out (ne0 _)
          have CX2 := hid cx2
          obtain ⟨v0, v1, v2, hdb⟩ := I2.out.did.cells3
          have HDB := hid hdb
          have d0 : w'.cell? ⟨w13.heap.size, 0, none⟩ = some v0 := cell_of_row w' _ 0 _ _ _ hdb
          have d1 : w'.cell? ⟨w13.heap.size, 1, none⟩ = some v1 := cell_of_row w' _ 1 _ _ _ hdb
          have d2 : w'.cell? ⟨w13.heap.size, 2, none⟩ = some v2 := cell_of_row w' _ 2 _ _ _ hdb
          have df := fun j => frozen_of_row w' w13.heap.size j _ _ hdb
          have nb : b ≠ w13.heap.size := by have := BL.out; omega
          clear hf hdb cx2 cx
          unfold didZ
          go_upto_region 23 with fail
          have I3 := hid (I2.out.put (w' := ((w'.setCell ⟨w13.heap.size, 0, none⟩ (.bool false)).setCell ⟨w13.heap.size, 1, none⟩ (.slice none 0 0)).setCell ⟨w13.heap.size, 2, none⟩ (.slice none 0 0)) (by
            repeat (with_reducible first | exact Fr.refl | refine Fr.setCell ?_ _ (.inl rfl))) (heap_set3 HDB.out (.bool false) (.slice none 0 0) (.slice none 0 0)) rfl (by omega) (by omega))
          have DD := hid (heap_set3 HDB.out (.bool false) (.slice none 0 0) (.slice none 0 0))
          have cx3 := (show Fr (fun i => i = w13.heap.size) w' (((w'.setCell ⟨w13.heap.size, 0, none⟩ (.bool false)).setCell ⟨w13.heap.size, 1, none⟩ (.slice none 0 0)).setCell ⟨w13.heap.size, 2, none⟩ (.slice none 0 0)) from by
            repeat (with_reducible first | exact Fr.refl | refine Fr.setCell ?_ _ (.inl rfl))).cell CX2.out nb
          clear d0 d1 d2 df
          generalize ((w'.setCell ⟨w13.heap.size, 0, none⟩ (.bool false)).setCell ⟨w13.heap.size, 1, none⟩ (.slice none 0 0)).setCell ⟨w13.heap.size, 2, none⟩ (.slice none 0 0) = U at *
          have d1 : U.cell? ⟨w13.heap.size, 1, none⟩ = some (.slice none 0 0) := cell_of_row U _ 1 _ _ _ DD.out
          go_wp2
          go_roundw
          case rel => exact ⟨j + 1, by rw [WJ.out]; simp, by omega, I3.out⟩
          case measure =>
            rw [WJ.out]
            simp only [intOf]
            omega
        · have hle : c + k ≤ x := by omega
          have nx : ¬ x < due := by omega
          have DH := hid (due_hit (c := x) I.out.dom.obj rfl rfl rfl I.out.dom.gor rfl rfl rfl I.out.dom.map h2 hle)
          have NB := hid (show ∀ y ct u, wr.heap[y]? = some (.cells ct u (0, 0)) → u ≠ 98 → u ≠ 110 → u ≠ 378 → ¬ (y = D.g ∨ y = D.x ∨ y = D.h ∨ y = D.pm ∨ y = D.ids ∨ y = D.own ∨ y = D.gsm) from by
            intro y ct u hy n1 n2 n3 hk
            obtain ⟨a', c', r', hh⟩ := h2.heap
            rcases hk with rfl | rfl | rfl | rfl | rfl | rfl | rfl
            · exact cells_ne hy I.out.dom.obj n1 rfl
            · exact cells_ne hy I.out.dom.gor n2 rfl
            · exact cells_ne hy hh.obj n3 rfl
            · exact map_ne hh.map hy rfl
            · exact map_ne h2.ids hy rfl
            · exact map_ne h2.own hy rfl
            · exact map_ne h2.gs hy rfl)
          clear h1 h2 hd hxc hle
          go_wp2_with fail
          refine DH.out.mono ?_
          rintro e w' ⟨a, ca2, b2, cb2, r2, rfl, hA, hal, hOG, hSt, hF⟩
          have A2 := hid hA
          have OG2 := hid hOG
          have ST2 := hid hSt
          have F2 := hid hF
          have hAL := hid (show wr.heap.size ≤ a from hal)
          have wsz := I.out.fr.size
          have dbl : w13.heap.size < wr.heap.size := by obtain ⟨old, h1, _⟩ := I.out.did; exact heap_lt h1
          have gbl := heap_lt I.out.gid
          have gbn : w8.heap.size ≠ w13.heap.size := by omega
          have F3 := hid (show Fr E0 w w' from I.out.fr.trans' hF (fun k hk => .inr (AW.out k (by unfold Blk.all; omega))))
          have cx2 : w'.cell? ⟨b, o + j, none⟩ = some (.int .u64 x) := hF.cell CX.out (fun e => by have := AW.out b (by unfold Blk.all; omega); have := BL.out; omega)
          have CX2 := hid cx2
          have GB2 := hid (hF.heapAt I.out.gid (NB.out _ _ _ I.out.gid (by decide) (by decide) (by decide)))
          obtain ⟨v0, v1, v2, hdb0⟩ := I.out.did.cells3
          have hdb := hF.heapAt hdb0 (NB.out _ _ _ hdb0 (by decide) (by decide) (by decide))
          have HDB := hid hdb
          have nx3 := hid (And.intro (show D.x ≠ w13.heap.size from cells_ne I.out.dom.gor hdb0 (by decide)) (And.intro (show D.x ≠ w8.heap.size from cells_ne I.out.dom.gor I.out.gid (by decide)) (And.intro (show D.g ≠ w13.heap.size from cells_ne I.out.dom.obj hdb0 (by decide)) (And.intro (show D.m ≠ w13.heap.size from map_ne I.out.dom.map hdb0) (heap_lt I.out.dom.gor)))))
          have d0 : w'.cell? ⟨w13.heap.size, 0, none⟩ = some v0 := cell_of_row w' _ 0 _ _ _ hdb
          have d1 : w'.cell? ⟨w13.heap.size, 1, none⟩ = some v1 := cell_of_row w' _ 1 _ _ _ hdb
          have d2 : w'.cell? ⟨w13.heap.size, 2, none⟩ = some v2 := cell_of_row w' _ 2 _ _ _ hdb
          have df := fun j => frozen_of_row w' w13.heap.size j _ _ hdb
          clear hA hal hOG hSt hF hdb hdb0 cx cx2
          go_upto_region 23 with fail
          have FU := hid (show Fr (fun i => i = w13.heap.size) w' (((w'.setCell ⟨w13.heap.size, 0, none⟩ (.bool false)).setCell ⟨w13.heap.size, 1, none⟩ (.slice (some ⟨a, 0, none⟩) 1 ca2)).setCell ⟨w13.heap.size, 2, none⟩ (.slice (some ⟨b2, 0, none⟩) 1 cb2)) from by
            repeat (with_reducible first | exact Fr.refl | refine Fr.setCell ?_ _ (.inl rfl)))
          have DD := hid (heap_set3 HDB.out (.bool false) (.slice (some ⟨a, 0, none⟩) 1 ca2) (.slice (some ⟨b2, 0, none⟩) 1 cb2))
          clear d0 d1 d2 df
          generalize ((w'.setCell ⟨w13.heap.size, 0, none⟩ (.bool false)).setCell ⟨w13.heap.size, 1, none⟩ (.slice (some ⟨a, 0, none⟩) 1 ca2)).setCell ⟨w13.heap.size, 2, none⟩ (.slice (some ⟨b2, 0, none⟩) 1 cb2) = U at *
          have cx3 : U.cell? ⟨b, o + j, none⟩ = some (.int .u64 x) := FU.out.cell CX2.out (by have := BL.out; omega)
          have n3 := nx3.out
          have al := hAL.out
          have OGU := hid (show OneG D.g D.m D.x U from ⟨FU.out.cell OG2.out.gs (by omega), FU.out.heapAt OG2.out.map (by omega), FU.out.cell OG2.out.slot (by omega), FU.out.cell OG2.out.gen (by omega)⟩)
          have STU := hid (show StG D.x 1 U from ⟨FU.out.cell ST2.out.1 (by omega), (World.frozen?_of_block (FU.out.block D.x (World.block_lt_of_cell? w' _ ST2.out.1) (by omega))).trans ST2.out.2⟩)
          have AU := hid (FU.out.heapAt A2.out (by omega))
          have GU := hid (FU.out.heapAt GB2.out (by omega))
          have F4 := hid (F3.out.trans' FU.out (fun k hk => .inr (by omega)))
          have KU := hid (show U.cell? ⟨w13.heap.size, 1, none⟩ = some (.slice (some ⟨a, 0, none⟩) 1 ca2) ∧ U.cell? ⟨a, 0, none⟩ = some (.int .i64 0) ∧ U.cell? ⟨a, 1, none⟩ = some (.int .i64 1) ∧ U.cell? ⟨a, 3, none⟩ = some (.bool false) ∧ U.cell? ⟨w8.heap.size, 0, none⟩ = some (.int .i64 0) ∧ U.cell? ⟨w8.heap.size, 1, none⟩ = some (.int .i64 1) from
            ⟨cell_of_row U _ 1 _ _ _ DD.out, (cell_of_row U a 0 _ _ _ AU.out).trans (rd_get r2 0 (by decide)), (cell_of_row U a 1 _ _ _ AU.out).trans (rd_get r2 1 (by decide)), (cell_of_row U a 3 _ _ _ AU.out).trans (rd_get r2 3 (by decide)), cell_of_row U _ 0 _ _ _ GU.out, cell_of_row U _ 1 _ _ _ GU.out⟩)
          have nxa := hid (show D.x ≠ a from by omega)
          clear n3 al
          have d1 : U.cell? ⟨w13.heap.size, 1, none⟩ = some (.slice (some ⟨a, 0, none⟩) 1 ca2) := KU.out.1
          go_upto_region 26 with fail
          clear cx3 d1
          go_region_held3 (fun u => u.cell? ⟨w13.heap.size, 1, none⟩ = some (.slice (some ⟨a, 0, none⟩) 1 ca2) ∧ u.cell? ⟨a, 0, none⟩ = some (.int .i64 0) ∧ u.cell? ⟨a, 1, none⟩ = some (.int .i64 1) ∧ u.cell? ⟨a, 3, none⟩ = some (.bool false) ∧ u.cell? ⟨w8.heap.size, 0, none⟩ = some (.int .i64 0) ∧ u.cell? ⟨w8.heap.size, 1, none⟩ = some (.int .i64 1))
            (first | exact KU.out | exact K1.out)
            (first | (go_at_call 8; refine (dispatch_yes (w := U.drew) (OGU.out.fr Fr.refl.drew) STU.out).mono ?_; rintro e w3 ⟨rfl, hF, hS⟩; have FD := hid hF; have K1 := hid (keep6 KU.out hF (by exact nx3.out.1) (by exact nxa.out) (by exact nx3.out.2.1)); clear hF hS))
          all_goals
            go_wp2
            go_ret
            exact ⟨rfl, F4.out.drew.trans' FD.out (fun k hk => by rcases hk with rfl; exact .inr (AW.out _ (.inr (.inl rfl))))⟩
      · have nd : due < c := DU.out.2 h1
        have TD := hid (fun u (hu : Fr E0 wr u) => show Calls _ _ _ _ _ from by
          obtain ⟨rw, q1, q2, q3⟩ := h2.obj
          exact tdue_none (now := x) (by rw [cell_of_row u D.ti 0 _ _ _ (hu.heapAt q1 (ne0 _))]; exact q2) (by rw [cell_of_row u D.ti 2 _ _ _ (hu.heapAt q1 (ne0 _))]; exact q3) (cell_of_row u D.h 0 _ _ _ (hu.heapAt h2.heap.1 (ne0 _))))
        clear h1 h2
        go_wp2_with fail
        refine (due_nobody (cell_of_row wr D.g 15 _ _ _ I.out.dom.obj) TD.out).mono ?_
        rintro e w' ⟨rfl, hf⟩
        have I2 := hid (I.out.fr0 hf)
        have cx2 : w'.cell? ⟨b, o + j, none⟩ = some (.int .u64 x) := hf.cell CX.out (ne0 _)
        have CX2 := hid cx2
        obtain ⟨v0, v1, v2, hdb⟩ := I2.out.did.cells3
        have HDB := hid hdb
        have d0 : w'.cell? ⟨w13.heap.size, 0, none⟩ = some v0 := cell_of_row w' _ 0 _ _ _ hdb
        have d1 : w'.cell? ⟨w13.heap.size, 1, none⟩ = some v1 := cell_of_row w' _ 1 _ _ _ hdb
        have d2 : w'.cell? ⟨w13.heap.size, 2, none⟩ = some v2 := cell_of_row w' _ 2 _ _ _ hdb
        have df := fun j => frozen_of_row w' w13.heap.size j _ _ hdb
        have nb : b ≠ w13.heap.size := by have := BL.out; omega
        clear hf hdb cx2 cx
        unfold didZ
        go_upto_region 23 with fail
        have I3 := hid (I2.out.put (w' := ((w'.setCell ⟨w13.heap.size, 0, none⟩ (.bool false)).setCell ⟨w13.heap.size, 1, none⟩ (.slice none 0 0)).setCell ⟨w13.heap.size, 2, none⟩ (.slice none 0 0)) (by
          repeat (with_reducible first | exact Fr.refl | refine Fr.setCell ?_ _ (.inl rfl))) (heap_set3 HDB.out (.bool false) (.slice none 0 0) (.slice none 0 0)) rfl (by omega) (by omega))
        have DD := hid (heap_set3 HDB.out (.bool false) (.slice none 0 0) (.slice none 0 0))
        have cx3 := (show Fr (fun i => i = w13.heap.size) w' (((w'.setCell ⟨w13.heap.size, 0, none⟩ (.bool false)).setCell ⟨w13.heap.size, 1, none⟩ (.slice none 0 0)).setCell ⟨w13.heap.size, 2, none⟩ (.slice none 0 0)) from by
          repeat (with_reducible first | exact Fr.refl | refine Fr.setCell ?_ _ (.inl rfl))).cell CX2.out nb
        clear d0 d1 d2 df
        generalize ((w'.setCell ⟨w13.heap.size, 0, none⟩ (.bool false)).setCell ⟨w13.heap.size, 1, none⟩ (.slice none 0 0)).setCell ⟨w13.heap.size, 2, none⟩ (.slice none 0 0) = U at *
        have d1 : U.cell? ⟨w13.heap.size, 1, none⟩ = some (.slice none 0 0) := cell_of_row U _ 1 _ _ _ DD.out
        go_wp2
        go_roundw
        case rel => exact ⟨j + 1, by rw [WJ.out]; simp, by omega, I3.out⟩
        case measure =>
          rw [WJ.out]
          simp only [intOf]
          omega
    · have hje : j = cn := by omega
      have p2 : (cn : Int) ≤ (j : Int) := by omega
      have p1 : ¬ (j : Int) < (cn : Int) := by omega
      have OG := hid I.out.dom.one
      have ST := hid (show StG D.x 4 wr from ⟨cell_of_row wr D.x 2 _ _ _ I.out.dom.gor, frozen_of_row wr D.x 2 _ _ I.out.dom.gor⟩)
      have g0 : wr.cell? ⟨w8.heap.size, 0, none⟩ = some (.int .i64 0) := cell_of_row wr _ 0 _ _ _ I.out.gid
      have g1 : wr.cell? ⟨w8.heap.size, 1, none⟩ = some (.int .i64 1) := cell_of_row wr _ 1 _ _ _ I.out.gid
      go_wp2_with fail
      refine (dispatch_no OG.out ST.out (by decide)).mono ?_
      rintro e w2 ⟨rfl, hf⟩
      have I2 := hid (I.out.fr0 hf)
      clear hf g0 g1 OG ST
      rcases I2.out.tim with ⟨h1, h2⟩ | ⟨h1, h2⟩
      · have hd : due = c + k := DU.out.1 h1
        have nd : ¬ due < c := by have := HK.out; omega
        have NX := hid (fun u (hu : Fr E0 w2 u) => show Calls Tryz.prog 30 #[.pointer (some ⟨D.ti, 0, none⟩)] u (Ret (tup2 (.int .u64 (c + k)) (.bool true)) E0 u) from by
          obtain ⟨a', c', r', hh⟩ := (h2.fr hu).heap
          exact tnext_one (cell_of_row u D.ti 0 _ _ _ (h2.fr hu).obj) (cell_of_row u D.ti 2 _ _ _ (h2.fr hu).obj) hh)
        clear h1 h2 hd
        go_wp2_with fail
        refine (dead_ok (cell_of_row w2 D.g 10 _ _ _ I2.out.dom.obj) I2.out.dom.map (cell_of_row w2 D.x 2 _ _ _ I2.out.dom.gor) (cell_of_row w2 D.g 15 _ _ _ I2.out.dom.obj) NX.out).mono ?_
        rintro e w3 ⟨rfl, hf⟩
        have I3 := hid (I2.out.fr0 hf)
        clear hf
        go_wp2
        go_ret
        refine ⟨?_, I3.out.fr⟩
        first | rfl | simp [nd] | (simp; omega)
      · have nd : due < c := DU.out.2 h1
        have NX := hid (fun u (hu : Fr E0 w2 u) => show Calls Tryz.prog 30 #[.pointer (some ⟨D.ti, 0, none⟩)] u (Ret (tup2 (.int .u64 0) (.bool false)) E0 u) from by
          obtain ⟨rw, q1, q2, q3⟩ := h2.obj
          exact tnext_none (by rw [cell_of_row u D.ti 0 _ _ _ (hu.heapAt q1 (ne0 _))]; exact q2) (by rw [cell_of_row u D.ti 2 _ _ _ (hu.heapAt q1 (ne0 _))]; exact q3) (cell_of_row u D.h 0 _ _ _ (hu.heapAt h2.heap.1 (ne0 _))))
        clear h1 h2
        go_wp2_with fail
        refine (dead_ok (cell_of_row w2 D.g 10 _ _ _ I2.out.dom.obj) I2.out.dom.map (cell_of_row w2 D.x 2 _ _ _ I2.out.dom.gor) (cell_of_row w2 D.g 15 _ _ _ I2.out.dom.obj) NX.out).mono ?_
        rintro e w3 ⟨rfl, hf⟩
        have I3 := hid (I2.out.fr0 hf)
        clear hf
        go_wp2
        go_ret
        exact ⟨rfl, I3.out.fr⟩
end Go.Proofs.YtocepiogpeafoaaGreatDoor
