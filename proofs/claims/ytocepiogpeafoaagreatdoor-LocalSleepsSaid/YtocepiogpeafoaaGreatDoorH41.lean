/- Words and contracts of calls that the law needs (Do): merged by wip/gen/zmerge.py. No condition but those that each theorem names. -/
import Derived.Test.YtocepiogpeafoaaGreatDoorH33
import Derived.Test.YtocepiogpeafoaaGreatDoorH34
import Derived.Test.YtocepiogpeafoaaGreatDoorH35
import Derived.Test.YtocepiogpeafoaaGreatDoorH37
import Derived.Test.YtocepiogpeafoaaGreatDoorH40
set_option linter.unusedVariables false
/- (*local.Domain).Do of 'set r1' and of 'sleep r1': the walks. Printed by wip/gen/zdo.py. -/
namespace Go.Proofs.YtocepiogpeafoaaGreatDoor
open Go.RowKit
set_option linter.unusedVariables false
/-- the transition of one that runs -/
def doRow (x : Nat) (c : Int) : Array Value := #[.pointer (some ⟨x, 0, none⟩), .int .i64 0, .int .i64 0, .int .i64 0, .int .i64 0, .int .i64 0, .int .i64 0, .int .i64 0, .int .i64 0, .int .i64 0, .int .i64 0, .int .i64 0, .int .u64 0, .int .i64 0, .int .u64 c, .slice none 0 0, .bool true, .slice none 0 0, .slice none 0 0]
/-- what stands in it behind 'sleep r1' -/
def doRowS (x : Nat) (c k : Int) : Array Value := #[.pointer (some ⟨x, 0, none⟩), .int .i64 27, .int .i64 27, .int .i64 1, .int .i64 0, .int .i64 0, .int .i64 0, .int .i64 k, .int .i64 0, .int .i64 0, .int .i64 0, .int .i64 0, .int .u64 0, .int .i64 0, .int .u64 c, .slice none 0 0, .bool true, .slice none 0 0, .slice none 0 0]
theorem do_put (x : Nat) (c : Int) : putL (doRow x c) 1 [.int .i64 0, .int .i64 0, .int .i64 0, .int .i64 0, .int .i64 0, .int .i64 0, .int .i64 0, .int .i64 0, .int .i64 0, .int .i64 0, .int .i64 0] = doRow x c := by simp [putL, doRow]
theorem do_putS (x : Nat) (c k : Int) : putL (doRow x c) 1 [.int .i64 27, .int .i64 27, .int .i64 1, .int .i64 0, .int .i64 0, .int .i64 0, .int .i64 k, .int .i64 0, .int .i64 0, .int .i64 0, .int .i64 0] = doRowS x c k := by simp [putL, doRow, doRowS]
/-- what the step's region leaves as it is -/
structure St13 (g wb gb : Nat) (dr wr : Array Value) (w : World) : Prop where
  g : w.heap[g]? = some (.cells dr 98 (0, 0))
  wh : w.heap[wb]? = some (.cells wr 65 (0, 0))
  i : w.heap[gb]? = some (.cells #[.int .i64 0, .int .i64 1] 72 (0, 0))
theorem St13.fr {g wb gb : Nat} {dr wr : Array Value} {w w' : World} {S : Nat → Prop} (h : St13 g wb gb dr wr w) (hf : Fr S w w') (h1 : ¬ S g) (h2 : ¬ S wb) (h3 : ¬ S gb) : St13 g wb gb dr wr w' := ⟨hf.heapAt h.g h1, hf.heapAt h.wh h2, hf.heapAt h.i h3⟩
theorem dom_prog {w : World} {D : Blk} {b : Bool} {t : Int} (h : w.heap[D.g]? = some (.cells (domRow D b t) 98 (0, 0))) : w.rangeAt D.g 0 [D.vc, D.vf, .slice none 0 0] := fun j v hv => by
  have hj : j < 3 := by have := lt_of_get hv; simpa using this
  rw [cell_of_row w D.g (0 + j) _ _ _ h, Nat.zero_add]
  match j, hj with
  | 0, _ => simpa [domRow] using hv
  | 1, _ => simpa [domRow] using hv
  | 2, _ => simpa [domRow] using hv
theorem run_op_lookup {P : Program} {w : World} {a : Act} {o : Oper} (ty : TypeId) (m k : Operand) (b : Bool) (ho : o.op = .lookup ty m k b) {M Kv v : Value} (hm : a.eval m = M) (hk : a.eval k = Kv) (h : (Instr.lookup ty M Kv b).run P w = .ok v w) : (execOp a.eval o).run P w = .ok (.value v) w := by
  unfold execOp
  simp only [ho, hm, hk, Sem.run_bind, h, Result.andThen_ok]
  rfl
set_option maxRecDepth 100000 in
set_option maxHeartbeats 40000000 in
theorem do_set {w : World} {D : Blk} {k c : Int} (hk1 : 1 ≤ k) (hk2 : k ≤ 32767) (h : Dom D (slP k) true 1 (gorR 2 0 0) w) :
    Calls Tryz.prog 9 #[.pointer (some ⟨D.g, 0, none⟩), .agg #[.int .i64 0, .int .i64 1], .agg #[.int .u64 0, .int .i64 0, .int .u64 c], .slice none 0 0] w (fun e w' => e = .returned (tup2 (.agg #[.bool true, .slice none 0 0, .slice none 0 0]) (.int .i64 0)) ∧ Dom D (slP k) true 1 (gorR 2 1 k) w' ∧ Fr (fun k => k = D.x) w w') := by
  have H := hid h
  obtain ⟨cb, ccp, hvc, hc0, hc1⟩ := h.words
  have VF := hid h.vfs
  have W0 := hid (show WordAt w D.g 0 (34603008 + k) ⟨2, 1, 0, 0, k⟩ from ⟨⟨cb, 0, 3, ccp, by rw [cell_of_row w D.g 0 _ _ _ h.obj, ← hvc]; rfl, hc0, by omega, by omega⟩, by omega, by omega, dec_set k hk1 hk2⟩)
  have HC := hid hc0
  have OG := hid (show OneG D.g D.m D.x w from ⟨cell_of_row w D.g 10 _ _ _ h.obj, h.map, cell_of_row w D.x 0 _ _ _ h.gor, cell_of_row w D.x 1 _ _ _ h.gor⟩)
  have PR := hid (dom_prog h.obj)
  have XR := hid (gor_range h.gor)
  have HV := hid hvc
  have HK := hid (And.intro hk1 hk2)
  have NE := hid (And.intro (show D.x ≠ D.g from cells_ne h.gor h.obj (by decide)) (And.intro (show D.m ≠ D.g from map_ne h.map h.obj) (show D.m ≠ D.x from map_ne h.map h.gor)))
  have LT := hid (And.intro (heap_lt h.obj) (And.intro (heap_lt h.gor) (heap_lt h.map)))
  clear h hc0 hc1 hvc hk1 hk2
  go_enter Tryz.func9, Tryz.ntmps9
  go_upto_region 1 with fail
  generalize hW : World.alloc _ _ = W
  have F0 := hid (show Fr E0 w W from by rw [← hW]; exact ((Fr.refl.alloc _).alloc _).alloc _)
  have T5 := hid (show W.heap[w.heap.size]? = some (.cells #[.int .i64 0, .int .i64 1] 72 (0, 0)) from by rw [← hW]; exact (heap_alloc_old _ _ (by simp; omega)).trans (heap_alloc2_old w _ _))
  have T6 := hid (show W.heap[w.heap.size + 1]? = some (.cells #[.int .u64 0, .int .i64 0, .int .u64 c] 65 (0, 0)) from by rw [← hW]; exact alloc3_1 w _ _ _)
  have T8 := hid (show W.heap[w.heap.size + 1 + 1]? = some (.cells didZ 69 (0, 0)) from by rw [← hW]; exact alloc3_2 w _ _ _)
  have hws : w.heap.size + 1 + 1 + 1 = W.heap.size := by rw [← hW]; simp
  clear hW
  have w1c : W.cell? ⟨w.heap.size + 1, 1, none⟩ = some (.int .i64 0) := cell_of_row W _ 1 _ _ _ T6.out
  have g4c : W.cell? ⟨D.g, 4, none⟩ = some (.int .i64 1) := F0.out.cell (cell_of_row w D.g 4 _ _ _ H.out.obj) (ne0 _)
  go_region
  go_upto_region 3 with fail
  clear w1c g4c
  generalize hV : World.drew W = V
  have FV := hid (show Fr E0 w V from by rw [← hV]; exact F0.out.drew)
  have V5 := hid (show V.heap[w.heap.size]? = some (.cells #[.int .i64 0, .int .i64 1] 72 (0, 0)) from by rw [← hV]; exact T5.out)
  have V6 := hid (show V.heap[w.heap.size + 1]? = some (.cells #[.int .u64 0, .int .i64 0, .int .u64 c] 65 (0, 0)) from by rw [← hV]; exact T6.out)
  have V8 := hid (show V.heap[w.heap.size + 1 + 1]? = some (.cells didZ 69 (0, 0)) from by rw [← hV]; exact T8.out)
  have hvs : w.heap.size + 1 + 1 + 1 = V.heap.size := by rw [← hV]; exact hws
  clear hV F0 T5 T6 T8
  have i0 : V.cell? ⟨w.heap.size, 0, none⟩ = some (.int .i64 0) := cell_of_row V _ 0 _ _ _ V5.out
  have i1 : V.cell? ⟨w.heap.size, 1, none⟩ = some (.int .i64 1) := cell_of_row V _ 1 _ _ _ V5.out
  go_wp2_with fail
  refine (find_ok' (OG.out.fr FV.out)).mono ?_
  rintro e w1 ⟨rfl, hf1⟩
  have G1 := hid hf1
  have F1 := hid (FV.out.trans hf1)
  clear hf1 i0 i1
  simp only [tup2]
  have x2 : w1.cell? ⟨D.x, 2, none⟩ = some (.int .i64 2) := F1.out.cell (cell_of_row w D.x 2 _ _ _ H.out.gor) (ne0 _)
  have i0 : w1.cell? ⟨w.heap.size, 0, none⟩ = some (.int .i64 0) := cell_of_row w1 _ 0 _ _ _ (G1.out.heapAt V5.out (ne0 _))
  have i1 : w1.cell? ⟨w.heap.size, 1, none⟩ = some (.int .i64 1) := cell_of_row w1 _ 1 _ _ _ (G1.out.heapAt V5.out (ne0 _))
  go_wp2_with fail
  refine (asks_ok (w := w1) (r := 0) (OG.out.fr F1.out) (fun j v hv => F1.out.cell (XR.out j v hv) (ne0 _)) (W0.out.fr F1.out) (show (2 : Int) ≠ 34 from by decide)).mono ?_
  rintro e w2 ⟨rfl, hf2⟩
  have G2 := hid (G1.out.trans hf2)
  have F2 := hid (F1.out.trans hf2)
  clear hf2 i0 i1 x2
  simp only [tup2]
  go_upto_region 11 with fail
  apply wp_region_lit
  refine Great.wpList_readTo rfl _ rfl (.pointer (some ⟨D.g, 0, none⟩)) (by kernel_rfl) ?_
  refine Great.wpList_readTo rfl _ rfl (.pointer (some ⟨D.x, 0, none⟩)) (by kernel_rfl) ?_
  refine Great.wpList_readTo rfl _ rfl (.pointer (some ⟨D.x, 0, none⟩)) (by kernel_rfl) ?_
  refine Great.wpList_readTo rfl _ rfl (.pointer (some ⟨D.x, 3, none⟩)) (by kernel_rfl) ?_
  refine wpList_load_mid rfl 106 _ rfl D.x 3 (by kernel_rfl) _ _ (fun j v hv => F2.out.cell (XR.out j v hv) (ne0 _)) Tryz.underlying106 rfl (by kernel_rfl) ?_
  unfold ctxC
  simp only [Act.put, List.setIfInBounds_toArray, List.set_cons_zero, List.set_cons_succ]
  go_wp2_with fail
  refine (instr_ok (w := w2) (W0.out.fr F2.out)).mono ?_
  rintro e w3 ⟨rfl, hf3⟩
  have G3 := hid (G2.out.trans hf3)
  have F3 := hid (F2.out.trans hf3)
  clear hf3
  simp only [tup2, Ins.val]
  go_upto_region 12 with fail
  generalize hU : World.alloc _ _ = U
  have GU := hid (show Fr E0 V U from by rw [← hU]; exact G3.out.alloc _)
  have FU := hid (FV.out.trans GU.out)
  have IU := hid (show U.heap[w3.heap.size]? = some (.cells #[.int .i64 2, .int .i64 1, .int .i64 0, .int .i64 0, .int .i64 k] 108 (0, 0)) from by rw [← hU]; exact heap_alloc_new w3 _)
  clear hU
  have U5 := hid (GU.out.heapAt V5.out (ne0 _))
  have U6 := hid (GU.out.heapAt V6.out (ne0 _))
  have U8 := hid (GU.out.heapAt V8.out (ne0 _))
  have hvw : V.heap.size ≤ w3.heap.size := G3.out.size
  clear G1 F1 G2 F2 G3 F3 FV V5 V6 V8
  apply wp_region_lit
  refine Great.wpList_readTo rfl _ rfl (.pointer (some ⟨D.x, 0, none⟩)) (by kernel_rfl) ?_
  refine wpList_load_row rfl 65 _ rfl (w.heap.size + 1) (by kernel_rfl) 65 _ (0, 0) _ U6.out Tryz.underlying65 rfl (by kernel_rfl) ?_
  refine Great.wpList_readTo rfl _ rfl (.slice none 0 0) (by kernel_rfl) ?_
  refine wpList_build_eq rfl 69 _ rfl #[.bool true, .slice none 0 0, .slice none 0 0] (by kernel_rfl) ?_
  refine wpList_build_eq rfl 120 _ rfl (doRow D.x c) (by kernel_rfl) ?_
  refine Great.wpList_allocTo rfl _ rfl (.pointer (some ⟨U.heap.size, 0, none⟩)) (.cells (doRow D.x c) 120) (by kernel_rfl) ?_
  refine Great.wpList_readTo rfl _ rfl (.pointer (some ⟨U.heap.size, 0, none⟩)) (by kernel_rfl) ?_
  apply wpList_nil
  simp only [Act.put, List.setIfInBounds_toArray, List.set_cons_zero, List.set_cons_succ]
  go_upto_region 13 with fail
  generalize hX : World.alloc _ _ = X
  have GX := hid (show Fr E0 U X from by rw [← hX]; exact Fr.refl.alloc _)
  have FX := hid (FU.out.trans GX.out)
  have OX := hid (show X.heap[U.heap.size]? = some (.cells (doRow D.x c) 120 (0, 0)) from by rw [← hX]; exact heap_alloc_new U _)
  clear hX
  have X5 := hid (GX.out.heapAt U5.out (ne0 _))
  have X6 := hid (GX.out.heapAt U6.out (ne0 _))
  have X8 := hid (GX.out.heapAt U8.out (ne0 _))
  have IX := hid (GX.out.heapAt IU.out (ne0 _))
  have hwu : w3.heap.size < U.heap.size := heap_lt IU.out
  have hux : U.heap.size < X.heap.size := heap_lt OX.out
  have lt := LT.out
  clear GU FU IU U5 U6 U8 GX
  have hS0 : St13 D.g (w.heap.size + 1) w.heap.size (domRow D true 1) #[.int .u64 0, .int .i64 0, .int .u64 c] X.drew := ⟨FX.out.heapAt H.out.obj (ne0 _), X6.out, X5.out⟩
  refine wp_region_held_drew (S := St13 D.g (w.heap.size + 1) w.heap.size (domRow D true 1) #[.int .u64 0, .int .i64 0, .int .u64 c]) (by kernel_rfl) hS0 (fun hS => ?_)
  clear hS0
  show wpAnyH _ _ _ _ _ 24 _ _ _
  refine wpAnyH_rd 0 (some 74) (.pointer (some ⟨D.x, 0, none⟩)) rfl rfl rfl (by kernel_rfl) (by kernel_rfl) (by kernel_rfl) (fun _ _ _ h => h) hS (fun u hu => by kernel_rfl) (fun hS => ?_)
  refine wpAnyH_rd 1 (some 75) (.pointer (some ⟨U.heap.size, 0, none⟩)) rfl rfl rfl (by kernel_rfl) (by kernel_rfl) (by kernel_rfl) (fun _ _ _ h => h) hS (fun u hu => by kernel_rfl) (fun hS => ?_)
  refine wpAnyH_rd 2 (some 76) (.pointer (some ⟨D.g, 0, none⟩)) rfl rfl rfl (by kernel_rfl) (by kernel_rfl) (by kernel_rfl) (fun _ _ _ h => h) hS (fun u hu => by kernel_rfl) (fun hS => ?_)
  refine wpAnyH_rd 3 (some 77) (.pointer (some ⟨D.g, 0, none⟩)) rfl rfl rfl (by kernel_rfl) (by kernel_rfl) (by kernel_rfl) (fun _ _ _ h => h) hS (fun u hu => by kernel_rfl) (fun hS => ?_)
  refine wpAnyH_rd 4 (some 78) (.pointer (some ⟨D.g, 0, none⟩)) rfl rfl rfl (by kernel_rfl) (by kernel_rfl) (by kernel_rfl) (fun _ _ _ h => h) hS (fun u hu => by kernel_rfl) (fun hS => ?_)
  refine wpAnyH_rd 5 (some 79) (.agg #[D.vc, D.vf, .slice none 0 0]) rfl rfl rfl (by kernel_rfl) (by kernel_rfl) (by kernel_rfl) (fun _ _ _ h => h) hS (fun u hu => run_load_mid 29 _ rfl D.g 0 (by kernel_rfl) [D.vc, D.vf, .slice none 0 0] _ (dom_prog hu.g) Tryz.underlying29 rfl (by kernel_rfl)) (fun hS => ?_)
  refine wpAnyH_rd 6 (some 80) (.pointer (some ⟨D.x, 0, none⟩)) rfl rfl rfl (by kernel_rfl) (by kernel_rfl) (by kernel_rfl) (fun _ _ _ h => h) hS (fun u hu => by kernel_rfl) (fun hS => ?_)
  refine wpAnyH_rd 7 (some 81) (.pointer (some ⟨D.x, 0, none⟩)) rfl rfl rfl (by kernel_rfl) (by kernel_rfl) (by kernel_rfl) (fun _ _ _ h => h) hS (fun u hu => by kernel_rfl) (fun hS => ?_)
  refine wpAnyH_rd 8 (some 82) (.pointer (some ⟨D.x, 3, none⟩)) rfl rfl rfl (by kernel_rfl) (by kernel_rfl) (by kernel_rfl) (fun _ _ _ h => h) hS (fun u hu => by kernel_rfl) (fun hS => ?_)
  refine wpAnyH_rd 10 (some 84) (.pointer (some ⟨w.heap.size + 1, 2, none⟩)) rfl rfl rfl (by kernel_rfl) (by kernel_rfl) (by kernel_rfl) (fun _ _ _ h => h) hS (fun u hu => by kernel_rfl) (fun hS => ?_)
  refine wpAnyH_rd 11 (some 85) (.int .u64 c) rfl rfl rfl (by kernel_rfl) (by kernel_rfl) (by kernel_rfl) (fun _ _ _ h => h) hS (fun u hu => run_load_cell 22 _ rfl (w.heap.size + 1) 2 (by kernel_rfl) _ (cell_of_row u _ 2 _ _ _ hu.wh) (by kernel_rfl)) (fun hS => ?_)
  refine wpAnyH_rd 12 (some 86) (.agg #[.int .i64 0, .int .i64 1]) rfl rfl rfl (by kernel_rfl) (by kernel_rfl) (by kernel_rfl) (fun _ _ _ h => h) hS (fun u hu => run_load_row 72 _ rfl w.heap.size (by kernel_rfl) 72 _ (0, 0) _ hu.i Tryz.underlying72 rfl (by kernel_rfl)) (fun hS => ?_)
  refine wpAnyH_rd 13 (some 87) (.agg #[.int .u64 c, .int .i64 0, .int .i64 1]) rfl rfl rfl (by kernel_rfl) (by kernel_rfl) (by kernel_rfl) (fun _ _ _ h => h) hS (fun u hu => run_build_eq 124 _ rfl _ (by kernel_rfl)) (fun hS => ?_)
  refine wpAnyH_one 9 (some 83) (.agg (ctxC 0 0)) rfl rfl rfl (by kernel_rfl) hS (run_load_mid 106 _ rfl D.x 3 (by kernel_rfl) (ctxC 0 0).toList _ (gor_range (FX.out.heapAt H.out.gor (ne0 _))) Tryz.underlying106 rfl (by kernel_rfl)) (fun hS => ?_)
  refine wpAnyH_call 14 (some 88) (tup2 (.agg (ctxC (0 + 1) k)) (.agg #[.int .i64 0, .int .i64 0, .int .i64 0, .int .i64 0, .int .i64 0, .int .i64 0, .int .i64 0, .int .i64 0, .int .i64 0, .int .i64 0, .int .i64 0])) rfl rfl rfl (by kernel_rfl) 20 #[.agg #[D.vc, D.vf, .slice none 0 0], .agg (ctxC 0 0), .agg #[.int .u64 c, .int .i64 0, .int .i64 1]] (by kernel_rfl) (R := Fr E0 X.drew)
    (by rw [HV.out]; exact stepSet_ok (w := X.drew) (o := 0) (n := 3) (cp := ccp) (pc := 0) (FX.out.drew.cell HC.out (ne0 _)) (by decide) (by decide) (by have := HK.out; omega) (by have := HK.out; omega) (dec_set k HK.out.1 HK.out.2) VF.out ⟨_, _, _, rfl⟩) (fun u hu => hS.fr hu (ne0 _) (ne0 _) (ne0 _)) (fun u hu => ?_)
  have S1 := hS.fr hu (ne0 _) (ne0 _) (ne0 _)
  clear hS
  have FU := hid (FX.out.drew.trans hu)
  have OU := hid (hu.heapAt (w := X.drew) OX.out (ne0 _))
  have GU := hid (FU.out.heapAt H.out.gor (ne0 _))
  have U8 := hid (hu.heapAt (w := X.drew) X8.out (ne0 _))
  have IU := hid (hu.heapAt (w := X.drew) IX.out (ne0 _))
  have hxu : X.heap.size ≤ u.heap.size := hu.size
  clear hu FX OX X5 X6 X8 IX VF W0 HC PR XR
  refine wpAnyH_rd 15 (some 73) (tup2 (.agg (ctxC (0 + 1) k)) (.agg #[.int .i64 0, .int .i64 0, .int .i64 0, .int .i64 0, .int .i64 0, .int .i64 0, .int .i64 0, .int .i64 0, .int .i64 0, .int .i64 0, .int .i64 0])) rfl rfl rfl (by kernel_rfl) (by kernel_rfl) (by kernel_rfl) (fun _ _ _ h => h) S1 (fun u hu => by kernel_rfl) (fun S1 => ?_)
  refine wpAnyH_rd 16 (some 89) (.agg (ctxC (0 + 1) k)) rfl rfl rfl (by kernel_rfl) (by kernel_rfl) (by kernel_rfl) (fun _ _ _ h => h) S1 (fun u hu => by kernel_rfl) (fun S1 => ?_)
  refine wpAnyH_rd 17 (some 90) (.agg #[.int .i64 0, .int .i64 0, .int .i64 0, .int .i64 0, .int .i64 0, .int .i64 0, .int .i64 0, .int .i64 0, .int .i64 0, .int .i64 0, .int .i64 0]) rfl rfl rfl (by kernel_rfl) (by kernel_rfl) (by kernel_rfl) (fun _ _ _ h => h) S1 (fun u hu => by kernel_rfl) (fun S1 => ?_)
  refine wpAnyH_rd 18 (some 91) (.pointer (some ⟨D.x, 0, none⟩)) rfl rfl rfl (by kernel_rfl) (by kernel_rfl) (by kernel_rfl) (fun _ _ _ h => h) S1 (fun u hu => by kernel_rfl) (fun S1 => ?_)
  refine wpAnyH_rd 19 (some 92) (.pointer (some ⟨D.x, 3, none⟩)) rfl rfl rfl (by kernel_rfl) (by kernel_rfl) (by kernel_rfl) (fun _ _ _ h => h) S1 (fun u hu => by kernel_rfl) (fun S1 => ?_)
  have ne := NE.out
  have FM1 := hid (show Fr (fun k => k = D.x) u (u.setCells D.x 3 (ctxC (0 + 1) k).toList) from Fr.setCells (S := fun k => k = D.x) (b := D.x) Fr.refl (.inl rfl) _ _)
  refine wpAnyH_mid 20 rfl rfl (by kernel_rfl) 106 _ _ rfl rfl D.x 3 (ctxC (0 + 1) k) (by kernel_rfl) (by kernel_rfl) (there_row GU.out 3 18 (by simp [gorR])) (by kernel_rfl) (ctx_one _ _) (S1.fr FM1.out (by omega) (by omega) (by omega)) (fun S2 => ?_)
  have XM := hid ((heap_setCells_at (ctxC (0 + 1) k).toList 3 u _ GU.out).trans (by rw [gor_put]))
  generalize u.setCells D.x 3 (ctxC (0 + 1) k).toList = M at *
  have OM := hid (FM1.out.heapAt OU.out (by omega))
  have M8 := hid (FM1.out.heapAt U8.out (by omega))
  have IM := hid (FM1.out.heapAt IU.out (by omega))
  refine wpAnyH_rd 21 (some 93) (.pointer (some ⟨U.heap.size, 0, none⟩)) rfl rfl rfl (by kernel_rfl) (by kernel_rfl) (by kernel_rfl) (fun _ _ _ h => h) S2 (fun u hu => by kernel_rfl) (fun S2 => ?_)
  refine wpAnyH_rd 22 (some 94) (.pointer (some ⟨U.heap.size, 1, none⟩)) rfl rfl rfl (by kernel_rfl) (by kernel_rfl) (by kernel_rfl) (fun _ _ _ h => h) S2 (fun u hu => by kernel_rfl) (fun S2 => ?_)
  have FM2 := hid (show Fr (fun k => k = U.heap.size) M (M.setCells U.heap.size 1 [.int .i64 0, .int .i64 0, .int .i64 0, .int .i64 0, .int .i64 0, .int .i64 0, .int .i64 0, .int .i64 0, .int .i64 0, .int .i64 0, .int .i64 0]) from Fr.setCells (S := fun k => k = U.heap.size) (b := U.heap.size) Fr.refl (.inl rfl) _ _)
  refine wpAnyH_mid 23 rfl rfl (by kernel_rfl) 118 _ _ rfl rfl U.heap.size 1 #[.int .i64 0, .int .i64 0, .int .i64 0, .int .i64 0, .int .i64 0, .int .i64 0, .int .i64 0, .int .i64 0, .int .i64 0, .int .i64 0, .int .i64 0] (by kernel_rfl) (by kernel_rfl) (there_row OM.out 1 11 (by simp [doRow])) (by kernel_rfl) (by kernel_rfl) (S2.fr FM2.out (by omega) (by omega) (by omega)) (fun S3 => ?_)
  refine wpAnyH_done (by kernel_rfl) ?_ _
  simp only [Act.put, List.setIfInBounds_toArray, List.set_cons_zero, List.set_cons_succ]
  have ON := hid ((heap_setCells_at [.int .i64 0, .int .i64 0, .int .i64 0, .int .i64 0, .int .i64 0, .int .i64 0, .int .i64 0, .int .i64 0, .int .i64 0, .int .i64 0, .int .i64 0] 1 M _ OM.out).trans (by rw [do_put]))
  generalize M.setCells U.heap.size 1 [.int .i64 0, .int .i64 0, .int .i64 0, .int .i64 0, .int .i64 0, .int .i64 0, .int .i64 0, .int .i64 0, .int .i64 0, .int .i64 0, .int .i64 0] = N at *
  have FN := hid ((FU.out.e0 (S := fun k => k = D.x)).trans FM1.out |>.trans' FM2.out (fun k hk => .inr (by omega)))
  have XN := hid (FM2.out.heapAt XM.out (by omega))
  have N8 := hid (FM2.out.heapAt M8.out (by omega))
  have IN := hid (FM2.out.heapAt IM.out (by omega))
  have o1 : N.cell? ⟨U.heap.size, 1, none⟩ = some (.int .i64 0) := cell_of_row N _ 1 _ _ _ ON.out
  have o16 : N.cell? ⟨U.heap.size, 16, none⟩ = some (.bool true) := cell_of_row N _ 16 _ _ _ ON.out
  have o17 : N.cell? ⟨U.heap.size, 17, none⟩ = some (.slice none 0 0) := cell_of_row N _ 17 _ _ _ ON.out
  have o18 : N.cell? ⟨U.heap.size, 18, none⟩ = some (.slice none 0 0) := cell_of_row N _ 18 _ _ _ ON.out
  have i0 : N.cell? ⟨w3.heap.size, 0, none⟩ = some (.int .i64 2) := cell_of_row N _ 0 _ _ _ IN.out
  have d0 : N.cell? ⟨w.heap.size + 1 + 1, 0, none⟩ = some (.bool false) := cell_of_row N _ 0 _ _ _ N8.out
  have d1 : N.cell? ⟨w.heap.size + 1 + 1, 1, none⟩ = some (.slice none 0 0) := cell_of_row N _ 1 _ _ _ N8.out
  have d2 : N.cell? ⟨w.heap.size + 1 + 1, 2, none⟩ = some (.slice none 0 0) := cell_of_row N _ 2 _ _ _ N8.out
  have df := fun j => frozen_of_row N (w.heap.size + 1 + 1) j _ _ N8.out
  have no : U.heap.size ≠ w.heap.size + 1 + 1 := by omega
  clear S3 S2 S1 OM OU GU
  go_wp2
  have HZ := hid (heap_set3 N8.out (.bool true) (.slice none 0 0) (.slice none 0 0))
  have FZ := hid (show Fr (fun k => k = w.heap.size + 1 + 1) N (((N.setCell ⟨w.heap.size + 1 + 1, 0, none⟩ (.bool true)).setCell ⟨w.heap.size + 1 + 1, 1, none⟩ (.slice none 0 0)).setCell ⟨w.heap.size + 1 + 1, 2, none⟩ (.slice none 0 0)) from by
    repeat (with_reducible first | exact Fr.refl | refine Fr.setCell ?_ _ (.inl rfl)))
  have FT := hid (FN.out.trans' FZ.out (fun k hk => .inr (by omega)))
  exact bodyPost_ret (v := tup2 (.agg #[.bool true, .slice none 0 0, .slice none 0 0]) (.int .i64 0)) (res_row2 rfl _ _ (w.heap.size + 1 + 1) 69 _ (0, 0) _ (by kernel_rfl) HZ.out Tryz.underlying69 rfl (by kernel_rfl) (by kernel_rfl)) rfl
    ⟨rfl, H.out.step FT.out (FZ.out.heapAt XN.out (by omega)), FT.out⟩
set_option maxRecDepth 100000 in
set_option maxHeartbeats 40000000 in
theorem do_sleep {w : World} {D : Blk} {k c : Int} (hk1 : 1 ≤ k) (hk2 : k ≤ 32767) (h : Dom D (slP k) true 1 (gorR 2 1 k) w) (ht : TimNew D.ti D.h D.pm D.ids D.own D.gsm w) (hn : 0 ≤ c ∧ c + k < two64) :
    Calls Tryz.prog 9 #[.pointer (some ⟨D.g, 0, none⟩), .agg #[.int .i64 0, .int .i64 1], .agg #[.int .u64 0, .int .i64 0, .int .u64 c], .slice none 0 0] w (fun e w' => ∃ A ca, e = .returned (tup2 (.agg #[.bool false, .slice none 0 0, .slice (some ⟨A, 0, none⟩) 1 ca]) (.int .i64 0)) ∧ Dom D (slP k) true 1 (gorR 4 2 k) w' ∧ TimOne 1 D.ti D.h D.pm D.ids D.own D.gsm (c + k) w' ∧ Fr D.all w w') := by
  have H := hid h
  have HT := hid ht
  have HN := hid hn
  have NL := hid (And.intro (heap_lt ht.obj) (And.intro (heap_lt ht.heap.1) (And.intro (heap_lt ht.heap.2) (And.intro (heap_lt ht.ids) (And.intro (heap_lt ht.own) (heap_lt ht.gs))))))
  have NX := hid (And.intro (show D.ti ≠ D.x from cells_ne ht.obj h.gor (by decide)) (And.intro (show D.h ≠ D.x from cells_ne ht.heap.1 h.gor (by decide)) (And.intro (show D.pm ≠ D.x from map_ne ht.heap.2 h.gor) (And.intro (show D.ids ≠ D.x from map_ne ht.ids h.gor) (And.intro (show D.own ≠ D.x from map_ne ht.own h.gor) (show D.gsm ≠ D.x from map_ne ht.gs h.gor))))))
  clear ht hn
  obtain ⟨cb, ccp, hvc, hc0, hc1⟩ := h.words
  have VF := hid h.vfs
  have W0 := hid (show WordAt w D.g 1 (454033408) ⟨27, 1, 0, 0, 0⟩ from ⟨⟨cb, 0, 3, ccp, by rw [cell_of_row w D.g 0 _ _ _ h.obj, ← hvc]; rfl, hc1, by omega, by omega⟩, by omega, by omega, dec_sleep⟩)
  have HC := hid hc1
  have OG := hid (show OneG D.g D.m D.x w from ⟨cell_of_row w D.g 10 _ _ _ h.obj, h.map, cell_of_row w D.x 0 _ _ _ h.gor, cell_of_row w D.x 1 _ _ _ h.gor⟩)
  have PR := hid (dom_prog h.obj)
  have XR := hid (gor_range h.gor)
  have HV := hid hvc
  have HK := hid (And.intro hk1 hk2)
  have NE := hid (And.intro (show D.x ≠ D.g from cells_ne h.gor h.obj (by decide)) (And.intro (show D.m ≠ D.g from map_ne h.map h.obj) (show D.m ≠ D.x from map_ne h.map h.gor)))
  have LT := hid (And.intro (heap_lt h.obj) (And.intro (heap_lt h.gor) (heap_lt h.map)))
  clear h hc0 hc1 hvc hk1 hk2
  go_enter Tryz.func9, Tryz.ntmps9
  go_upto_region 1 with fail
  generalize hW : World.alloc _ _ = W
  have F0 := hid (show Fr E0 w W from by rw [← hW]; exact ((Fr.refl.alloc _).alloc _).alloc _)
  have T5 := hid (show W.heap[w.heap.size]? = some (.cells #[.int .i64 0, .int .i64 1] 72 (0, 0)) from by rw [← hW]; exact (heap_alloc_old _ _ (by simp; omega)).trans (heap_alloc2_old w _ _))
  have T6 := hid (show W.heap[w.heap.size + 1]? = some (.cells #[.int .u64 0, .int .i64 0, .int .u64 c] 65 (0, 0)) from by rw [← hW]; exact alloc3_1 w _ _ _)
  have T8 := hid (show W.heap[w.heap.size + 1 + 1]? = some (.cells didZ 69 (0, 0)) from by rw [← hW]; exact alloc3_2 w _ _ _)
  have hws : w.heap.size + 1 + 1 + 1 = W.heap.size := by rw [← hW]; simp
  clear hW
  have w1c : W.cell? ⟨w.heap.size + 1, 1, none⟩ = some (.int .i64 0) := cell_of_row W _ 1 _ _ _ T6.out
  have g4c : W.cell? ⟨D.g, 4, none⟩ = some (.int .i64 1) := F0.out.cell (cell_of_row w D.g 4 _ _ _ H.out.obj) (ne0 _)
  go_region
  go_upto_region 3 with fail
  clear w1c g4c
  generalize hV : World.drew W = V
  have FV := hid (show Fr E0 w V from by rw [← hV]; exact F0.out.drew)
  have V5 := hid (show V.heap[w.heap.size]? = some (.cells #[.int .i64 0, .int .i64 1] 72 (0, 0)) from by rw [← hV]; exact T5.out)
  have V6 := hid (show V.heap[w.heap.size + 1]? = some (.cells #[.int .u64 0, .int .i64 0, .int .u64 c] 65 (0, 0)) from by rw [← hV]; exact T6.out)
  have V8 := hid (show V.heap[w.heap.size + 1 + 1]? = some (.cells didZ 69 (0, 0)) from by rw [← hV]; exact T8.out)
  have hvs : w.heap.size + 1 + 1 + 1 = V.heap.size := by rw [← hV]; exact hws
  clear hV F0 T5 T6 T8
  have i0 : V.cell? ⟨w.heap.size, 0, none⟩ = some (.int .i64 0) := cell_of_row V _ 0 _ _ _ V5.out
  have i1 : V.cell? ⟨w.heap.size, 1, none⟩ = some (.int .i64 1) := cell_of_row V _ 1 _ _ _ V5.out
  go_wp2_with fail
  refine (find_ok' (OG.out.fr FV.out)).mono ?_
  rintro e w1 ⟨rfl, hf1⟩
  have G1 := hid hf1
  have F1 := hid (FV.out.trans hf1)
  clear hf1 i0 i1
  simp only [tup2]
  have x2 : w1.cell? ⟨D.x, 2, none⟩ = some (.int .i64 2) := F1.out.cell (cell_of_row w D.x 2 _ _ _ H.out.gor) (ne0 _)
  have i0 : w1.cell? ⟨w.heap.size, 0, none⟩ = some (.int .i64 0) := cell_of_row w1 _ 0 _ _ _ (G1.out.heapAt V5.out (ne0 _))
  have i1 : w1.cell? ⟨w.heap.size, 1, none⟩ = some (.int .i64 1) := cell_of_row w1 _ 1 _ _ _ (G1.out.heapAt V5.out (ne0 _))
  go_wp2_with fail
  refine (asks_ok (w := w1) (r := k) (OG.out.fr F1.out) (fun j v hv => F1.out.cell (XR.out j v hv) (ne0 _)) (W0.out.fr F1.out) (show (27 : Int) ≠ 34 from by decide)).mono ?_
  rintro e w2 ⟨rfl, hf2⟩
  have G2 := hid (G1.out.trans hf2)
  have F2 := hid (F1.out.trans hf2)
  clear hf2 i0 i1 x2
  simp only [tup2]
  go_upto_region 11 with fail
  apply wp_region_lit
  refine Great.wpList_readTo rfl _ rfl (.pointer (some ⟨D.g, 0, none⟩)) (by kernel_rfl) ?_
  refine Great.wpList_readTo rfl _ rfl (.pointer (some ⟨D.x, 0, none⟩)) (by kernel_rfl) ?_
  refine Great.wpList_readTo rfl _ rfl (.pointer (some ⟨D.x, 0, none⟩)) (by kernel_rfl) ?_
  refine Great.wpList_readTo rfl _ rfl (.pointer (some ⟨D.x, 3, none⟩)) (by kernel_rfl) ?_
  refine wpList_load_mid rfl 106 _ rfl D.x 3 (by kernel_rfl) _ _ (fun j v hv => F2.out.cell (XR.out j v hv) (ne0 _)) Tryz.underlying106 rfl (by kernel_rfl) ?_
  unfold ctxC
  simp only [Act.put, List.setIfInBounds_toArray, List.set_cons_zero, List.set_cons_succ]
  go_wp2_with fail
  refine (instr_ok (w := w2) (W0.out.fr F2.out)).mono ?_
  rintro e w3 ⟨rfl, hf3⟩
  have G3 := hid (G2.out.trans hf3)
  have F3 := hid (F2.out.trans hf3)
  clear hf3
  simp only [tup2, Ins.val]
  go_upto_region 12 with fail
  generalize hU : World.alloc _ _ = U
  have GU := hid (show Fr E0 V U from by rw [← hU]; exact G3.out.alloc _)
  have FU := hid (FV.out.trans GU.out)
  have IU := hid (show U.heap[w3.heap.size]? = some (.cells #[.int .i64 27, .int .i64 1, .int .i64 0, .int .i64 0, .int .i64 0] 108 (0, 0)) from by rw [← hU]; exact heap_alloc_new w3 _)
  clear hU
  have U5 := hid (GU.out.heapAt V5.out (ne0 _))
  have U6 := hid (GU.out.heapAt V6.out (ne0 _))
  have U8 := hid (GU.out.heapAt V8.out (ne0 _))
  have hvw : V.heap.size ≤ w3.heap.size := G3.out.size
  clear G1 F1 G2 F2 G3 F3 FV V5 V6 V8
  apply wp_region_lit
  refine Great.wpList_readTo rfl _ rfl (.pointer (some ⟨D.x, 0, none⟩)) (by kernel_rfl) ?_
  refine wpList_load_row rfl 65 _ rfl (w.heap.size + 1) (by kernel_rfl) 65 _ (0, 0) _ U6.out Tryz.underlying65 rfl (by kernel_rfl) ?_
  refine Great.wpList_readTo rfl _ rfl (.slice none 0 0) (by kernel_rfl) ?_
  refine wpList_build_eq rfl 69 _ rfl #[.bool true, .slice none 0 0, .slice none 0 0] (by kernel_rfl) ?_
  refine wpList_build_eq rfl 120 _ rfl (doRow D.x c) (by kernel_rfl) ?_
  refine Great.wpList_allocTo rfl _ rfl (.pointer (some ⟨U.heap.size, 0, none⟩)) (.cells (doRow D.x c) 120) (by kernel_rfl) ?_
  refine Great.wpList_readTo rfl _ rfl (.pointer (some ⟨U.heap.size, 0, none⟩)) (by kernel_rfl) ?_
  apply wpList_nil
  simp only [Act.put, List.setIfInBounds_toArray, List.set_cons_zero, List.set_cons_succ]
  go_upto_region 13 with fail
  generalize hX : World.alloc _ _ = X
  have GX := hid (show Fr E0 U X from by rw [← hX]; exact Fr.refl.alloc _)
  have FX := hid (FU.out.trans GX.out)
  have OX := hid (show X.heap[U.heap.size]? = some (.cells (doRow D.x c) 120 (0, 0)) from by rw [← hX]; exact heap_alloc_new U _)
  clear hX
  have X5 := hid (GX.out.heapAt U5.out (ne0 _))
  have X6 := hid (GX.out.heapAt U6.out (ne0 _))
  have X8 := hid (GX.out.heapAt U8.out (ne0 _))
  have IX := hid (GX.out.heapAt IU.out (ne0 _))
  have hwu : w3.heap.size < U.heap.size := heap_lt IU.out
  have hux : U.heap.size < X.heap.size := heap_lt OX.out
  have lt := LT.out
  clear GU FU IU U5 U6 U8 GX
  have hS0 : St13 D.g (w.heap.size + 1) w.heap.size (domRow D true 1) #[.int .u64 0, .int .i64 0, .int .u64 c] X.drew := ⟨FX.out.heapAt H.out.obj (ne0 _), X6.out, X5.out⟩
  refine wp_region_held_drew (S := St13 D.g (w.heap.size + 1) w.heap.size (domRow D true 1) #[.int .u64 0, .int .i64 0, .int .u64 c]) (by kernel_rfl) hS0 (fun hS => ?_)
  clear hS0
  show wpAnyH _ _ _ _ _ 24 _ _ _
  refine wpAnyH_rd 0 (some 74) (.pointer (some ⟨D.x, 0, none⟩)) rfl rfl rfl (by kernel_rfl) (by kernel_rfl) (by kernel_rfl) (fun _ _ _ h => h) hS (fun u hu => by kernel_rfl) (fun hS => ?_)
  refine wpAnyH_rd 1 (some 75) (.pointer (some ⟨U.heap.size, 0, none⟩)) rfl rfl rfl (by kernel_rfl) (by kernel_rfl) (by kernel_rfl) (fun _ _ _ h => h) hS (fun u hu => by kernel_rfl) (fun hS => ?_)
  refine wpAnyH_rd 2 (some 76) (.pointer (some ⟨D.g, 0, none⟩)) rfl rfl rfl (by kernel_rfl) (by kernel_rfl) (by kernel_rfl) (fun _ _ _ h => h) hS (fun u hu => by kernel_rfl) (fun hS => ?_)
  refine wpAnyH_rd 3 (some 77) (.pointer (some ⟨D.g, 0, none⟩)) rfl rfl rfl (by kernel_rfl) (by kernel_rfl) (by kernel_rfl) (fun _ _ _ h => h) hS (fun u hu => by kernel_rfl) (fun hS => ?_)
  refine wpAnyH_rd 4 (some 78) (.pointer (some ⟨D.g, 0, none⟩)) rfl rfl rfl (by kernel_rfl) (by kernel_rfl) (by kernel_rfl) (fun _ _ _ h => h) hS (fun u hu => by kernel_rfl) (fun hS => ?_)
  refine wpAnyH_rd 5 (some 79) (.agg #[D.vc, D.vf, .slice none 0 0]) rfl rfl rfl (by kernel_rfl) (by kernel_rfl) (by kernel_rfl) (fun _ _ _ h => h) hS (fun u hu => run_load_mid 29 _ rfl D.g 0 (by kernel_rfl) [D.vc, D.vf, .slice none 0 0] _ (dom_prog hu.g) Tryz.underlying29 rfl (by kernel_rfl)) (fun hS => ?_)
  refine wpAnyH_rd 6 (some 80) (.pointer (some ⟨D.x, 0, none⟩)) rfl rfl rfl (by kernel_rfl) (by kernel_rfl) (by kernel_rfl) (fun _ _ _ h => h) hS (fun u hu => by kernel_rfl) (fun hS => ?_)
  refine wpAnyH_rd 7 (some 81) (.pointer (some ⟨D.x, 0, none⟩)) rfl rfl rfl (by kernel_rfl) (by kernel_rfl) (by kernel_rfl) (fun _ _ _ h => h) hS (fun u hu => by kernel_rfl) (fun hS => ?_)
  refine wpAnyH_rd 8 (some 82) (.pointer (some ⟨D.x, 3, none⟩)) rfl rfl rfl (by kernel_rfl) (by kernel_rfl) (by kernel_rfl) (fun _ _ _ h => h) hS (fun u hu => by kernel_rfl) (fun hS => ?_)
  refine wpAnyH_rd 10 (some 84) (.pointer (some ⟨w.heap.size + 1, 2, none⟩)) rfl rfl rfl (by kernel_rfl) (by kernel_rfl) (by kernel_rfl) (fun _ _ _ h => h) hS (fun u hu => by kernel_rfl) (fun hS => ?_)
  refine wpAnyH_rd 11 (some 85) (.int .u64 c) rfl rfl rfl (by kernel_rfl) (by kernel_rfl) (by kernel_rfl) (fun _ _ _ h => h) hS (fun u hu => run_load_cell 22 _ rfl (w.heap.size + 1) 2 (by kernel_rfl) _ (cell_of_row u _ 2 _ _ _ hu.wh) (by kernel_rfl)) (fun hS => ?_)
  refine wpAnyH_rd 12 (some 86) (.agg #[.int .i64 0, .int .i64 1]) rfl rfl rfl (by kernel_rfl) (by kernel_rfl) (by kernel_rfl) (fun _ _ _ h => h) hS (fun u hu => run_load_row 72 _ rfl w.heap.size (by kernel_rfl) 72 _ (0, 0) _ hu.i Tryz.underlying72 rfl (by kernel_rfl)) (fun hS => ?_)
  refine wpAnyH_rd 13 (some 87) (.agg #[.int .u64 c, .int .i64 0, .int .i64 1]) rfl rfl rfl (by kernel_rfl) (by kernel_rfl) (by kernel_rfl) (fun _ _ _ h => h) hS (fun u hu => run_build_eq 124 _ rfl _ (by kernel_rfl)) (fun hS => ?_)
  refine wpAnyH_one 9 (some 83) (.agg (ctxC 1 k)) rfl rfl rfl (by kernel_rfl) hS (run_load_mid 106 _ rfl D.x 3 (by kernel_rfl) (ctxC 1 k).toList _ (gor_range (FX.out.heapAt H.out.gor (ne0 _))) Tryz.underlying106 rfl (by kernel_rfl)) (fun hS => ?_)
  refine wpAnyH_call 14 (some 88) (tup2 (.agg (ctxC (1 + 1) k)) (.agg #[.int .i64 27, .int .i64 27, .int .i64 1, .int .i64 0, .int .i64 0, .int .i64 0, .int .i64 k, .int .i64 0, .int .i64 0, .int .i64 0, .int .i64 0])) rfl rfl rfl (by kernel_rfl) 20 #[.agg #[D.vc, D.vf, .slice none 0 0], .agg (ctxC 1 k), .agg #[.int .u64 c, .int .i64 0, .int .i64 1]] (by kernel_rfl) (R := Fr E0 X.drew)
    (by rw [HV.out]; exact stepSleep_ok (w := X.drew) (o := 0) (n := 3) (cp := ccp) (pc := 1) (FX.out.drew.cell HC.out (ne0 _)) (by decide) (by decide) (by have := HK.out; omega) (by have := HK.out; omega) dec_sleep VF.out ⟨_, _, _, rfl⟩) (fun u hu => hS.fr hu (ne0 _) (ne0 _) (ne0 _)) (fun u hu => ?_)
  have S1 := hS.fr hu (ne0 _) (ne0 _) (ne0 _)
  clear hS
  have FU := hid (FX.out.drew.trans hu)
  have OU := hid (hu.heapAt (w := X.drew) OX.out (ne0 _))
  have GU := hid (FU.out.heapAt H.out.gor (ne0 _))
  have U8 := hid (hu.heapAt (w := X.drew) X8.out (ne0 _))
  have IU := hid (hu.heapAt (w := X.drew) IX.out (ne0 _))
  have hxu : X.heap.size ≤ u.heap.size := hu.size
  clear hu FX OX X5 X6 X8 IX VF W0 HC PR XR
  refine wpAnyH_rd 15 (some 73) (tup2 (.agg (ctxC (1 + 1) k)) (.agg #[.int .i64 27, .int .i64 27, .int .i64 1, .int .i64 0, .int .i64 0, .int .i64 0, .int .i64 k, .int .i64 0, .int .i64 0, .int .i64 0, .int .i64 0])) rfl rfl rfl (by kernel_rfl) (by kernel_rfl) (by kernel_rfl) (fun _ _ _ h => h) S1 (fun u hu => by kernel_rfl) (fun S1 => ?_)
  refine wpAnyH_rd 16 (some 89) (.agg (ctxC (1 + 1) k)) rfl rfl rfl (by kernel_rfl) (by kernel_rfl) (by kernel_rfl) (fun _ _ _ h => h) S1 (fun u hu => by kernel_rfl) (fun S1 => ?_)
  refine wpAnyH_rd 17 (some 90) (.agg #[.int .i64 27, .int .i64 27, .int .i64 1, .int .i64 0, .int .i64 0, .int .i64 0, .int .i64 k, .int .i64 0, .int .i64 0, .int .i64 0, .int .i64 0]) rfl rfl rfl (by kernel_rfl) (by kernel_rfl) (by kernel_rfl) (fun _ _ _ h => h) S1 (fun u hu => by kernel_rfl) (fun S1 => ?_)
  refine wpAnyH_rd 18 (some 91) (.pointer (some ⟨D.x, 0, none⟩)) rfl rfl rfl (by kernel_rfl) (by kernel_rfl) (by kernel_rfl) (fun _ _ _ h => h) S1 (fun u hu => by kernel_rfl) (fun S1 => ?_)
  refine wpAnyH_rd 19 (some 92) (.pointer (some ⟨D.x, 3, none⟩)) rfl rfl rfl (by kernel_rfl) (by kernel_rfl) (by kernel_rfl) (fun _ _ _ h => h) S1 (fun u hu => by kernel_rfl) (fun S1 => ?_)
  have ne := NE.out
  have FM1 := hid (show Fr (fun k => k = D.x) u (u.setCells D.x 3 (ctxC (1 + 1) k).toList) from Fr.setCells (S := fun k => k = D.x) (b := D.x) Fr.refl (.inl rfl) _ _)
  refine wpAnyH_mid 20 rfl rfl (by kernel_rfl) 106 _ _ rfl rfl D.x 3 (ctxC (1 + 1) k) (by kernel_rfl) (by kernel_rfl) (there_row GU.out 3 18 (by simp [gorR])) (by kernel_rfl) (ctx_one _ _) (S1.fr FM1.out (by omega) (by omega) (by omega)) (fun S2 => ?_)
  have XM := hid ((heap_setCells_at (ctxC (1 + 1) k).toList 3 u _ GU.out).trans (by rw [gor_put]))
  generalize u.setCells D.x 3 (ctxC (1 + 1) k).toList = M at *
  have OM := hid (FM1.out.heapAt OU.out (by omega))
  have M8 := hid (FM1.out.heapAt U8.out (by omega))
  have IM := hid (FM1.out.heapAt IU.out (by omega))
  refine wpAnyH_rd 21 (some 93) (.pointer (some ⟨U.heap.size, 0, none⟩)) rfl rfl rfl (by kernel_rfl) (by kernel_rfl) (by kernel_rfl) (fun _ _ _ h => h) S2 (fun u hu => by kernel_rfl) (fun S2 => ?_)
  refine wpAnyH_rd 22 (some 94) (.pointer (some ⟨U.heap.size, 1, none⟩)) rfl rfl rfl (by kernel_rfl) (by kernel_rfl) (by kernel_rfl) (fun _ _ _ h => h) S2 (fun u hu => by kernel_rfl) (fun S2 => ?_)
  have FM2 := hid (show Fr (fun k => k = U.heap.size) M (M.setCells U.heap.size 1 [.int .i64 27, .int .i64 27, .int .i64 1, .int .i64 0, .int .i64 0, .int .i64 0, .int .i64 k, .int .i64 0, .int .i64 0, .int .i64 0, .int .i64 0]) from Fr.setCells (S := fun k => k = U.heap.size) (b := U.heap.size) Fr.refl (.inl rfl) _ _)
  refine wpAnyH_mid 23 rfl rfl (by kernel_rfl) 118 _ _ rfl rfl U.heap.size 1 #[.int .i64 27, .int .i64 27, .int .i64 1, .int .i64 0, .int .i64 0, .int .i64 0, .int .i64 k, .int .i64 0, .int .i64 0, .int .i64 0, .int .i64 0] (by kernel_rfl) (by kernel_rfl) (there_row OM.out 1 11 (by simp [doRow])) (by kernel_rfl) (by kernel_rfl) (S2.fr FM2.out (by omega) (by omega) (by omega)) (fun S3 => ?_)
  refine wpAnyH_done (by kernel_rfl) ?_ _
  simp only [Act.put, List.setIfInBounds_toArray, List.set_cons_zero, List.set_cons_succ]
  have ON := hid ((heap_setCells_at [.int .i64 27, .int .i64 27, .int .i64 1, .int .i64 0, .int .i64 0, .int .i64 0, .int .i64 k, .int .i64 0, .int .i64 0, .int .i64 0, .int .i64 0] 1 M _ OM.out).trans (by rw [do_putS]))
  generalize M.setCells U.heap.size 1 [.int .i64 27, .int .i64 27, .int .i64 1, .int .i64 0, .int .i64 0, .int .i64 0, .int .i64 k, .int .i64 0, .int .i64 0, .int .i64 0, .int .i64 0] = N at *
  have FN := hid ((FU.out.e0 (S := fun k => k = D.x)).trans FM1.out |>.trans' FM2.out (fun k hk => .inr (by omega)))
  have XN := hid (FM2.out.heapAt XM.out (by omega))
  have N8 := hid (FM2.out.heapAt M8.out (by omega))
  have IN := hid (FM2.out.heapAt IM.out (by omega))
  have nx := NX.out
  have TN := hid (HT.out.fr FN.out ⟨nx.1, nx.2.1, nx.2.2.1, nx.2.2.2.1, nx.2.2.2.2.1, nx.2.2.2.2.2⟩)
  have GN := hid (FN.out.heapAt H.out.obj (by omega))
  have MN := hid (FN.out.heapAt H.out.map (by omega))
  have DN := hid (H.out.step FN.out XN.out)
  have o1 : N.cell? ⟨U.heap.size, 1, none⟩ = some (.int .i64 27) := cell_of_row N _ 1 _ _ _ ON.out
  have O1 := hid o1
  clear S3 S2 S1 OM OU GU
  go_upto_region 17 with fail
  have hS0 : N.drew.cell? ⟨U.heap.size, 1, none⟩ = some (.int .i64 27) := O1.out
  clear o1
  refine wp_region_held_drew (S := fun u => u.cell? ⟨U.heap.size, 1, none⟩ = some (.int .i64 27)) (by kernel_rfl) hS0 (fun hS => ?_)
  clear hS0
  show wpAnyH _ _ _ _ _ 10 _ _ _
  refine wpAnyH_rd 1 (some 123) (.pointer (some ⟨U.heap.size, 0, none⟩)) rfl rfl rfl (by kernel_rfl) (by kernel_rfl) (by kernel_rfl) (fun _ _ _ h => h) hS (fun u hu => by kernel_rfl) (fun hS => ?_)
  refine wpAnyH_rd 2 (some 124) (.pointer (some ⟨U.heap.size, 0, none⟩)) rfl rfl rfl (by kernel_rfl) (by kernel_rfl) (by kernel_rfl) (fun _ _ _ h => h) hS (fun u hu => by kernel_rfl) (fun hS => ?_)
  refine wpAnyH_rd 3 (some 125) (.pointer (some ⟨U.heap.size, 1, none⟩)) rfl rfl rfl (by kernel_rfl) (by kernel_rfl) (by kernel_rfl) (fun _ _ _ h => h) hS (fun u hu => by kernel_rfl) (fun hS => ?_)
  refine wpAnyH_rd 4 (some 126) (.pointer (some ⟨U.heap.size, 1, none⟩)) rfl rfl rfl (by kernel_rfl) (by kernel_rfl) (by kernel_rfl) (fun _ _ _ h => h) hS (fun u hu => by kernel_rfl) (fun hS => ?_)
  refine wpAnyH_rd 5 (some 127) (.int .i64 27) rfl rfl rfl (by kernel_rfl) (by kernel_rfl) (by kernel_rfl) (fun _ _ _ h => h) hS (fun u hu => run_load_cell 3 _ rfl U.heap.size 1 (by kernel_rfl) _ hu (by kernel_rfl)) (fun hS => ?_)
  refine wpAnyH_rd 7 (some 129) (.pointer (some ⟨D.g, 0, none⟩)) rfl rfl rfl (by kernel_rfl) (by kernel_rfl) (by kernel_rfl) (fun _ _ _ h => h) hS (fun u hu => by kernel_rfl) (fun hS => ?_)
  refine wpAnyH_rd 8 (some 130) (.pointer (some ⟨U.heap.size, 0, none⟩)) rfl rfl rfl (by kernel_rfl) (by kernel_rfl) (by kernel_rfl) (fun _ _ _ h => h) hS (fun u hu => by kernel_rfl) (fun hS => ?_)
  refine wpAnyH_call 0 (some 122) (.map (some N.heap.size)) rfl rfl rfl (by kernel_rfl) 22 #[] (by kernel_rfl) (R := fun u => ∃ es cl, u.heap[N.heap.size]? = some (.map es cl) ∧ Instr.findNow (.int .i64) (.int .i64 27) es.toList 0 = some (some (3, .func (.func 69) #[] #[])) ∧ Fr E0 N.drew u)
    ((operations_ok N.drew).mono (fun e w' ⟨es, cl, he, h1, h2, h3⟩ => ⟨he, es, cl, h1, h2, h3⟩)) (fun u ⟨_, _, _, _, hf⟩ => hf.cell hS (ne0 _)) (fun u hu => ?_)
  obtain ⟨es, cl, hm, hfd, hf⟩ := hu
  have hS2 := hf.cell hS (ne0 _)
  have FO := hid (show Fr E0 N u from Fr.refl.drew.trans hf)
  clear hf hS
  refine wpAnyH_one 6 (some 128) (.func (.func 69) #[] #[]) rfl rfl rfl (by kernel_rfl) hS2 (run_op_lookup _ _ _ _ rfl (by kernel_rfl) (by kernel_rfl) (run_lookup_hit (b := false) Tryz.underlying128 Tryz.underlying3 hm hfd)) (fun hS2 => ?_)
  have OO := hid (FO.out.heapAt ON.out (ne0 _))
  have hk := HK.out
  have hnw := HN.out
  have TO := hid (TN.out.fr FO.out ⟨ne0 _, ne0 _, ne0 _, ne0 _, ne0 _, ne0 _⟩)
  have DO := hid (DN.out.fr FO.out)
  refine wpAnyH_call 9 (some 131) (.tuple #[]) rfl rfl rfl (by kernel_rfl) 69 #[.pointer (some ⟨D.g, 0, none⟩), .pointer (some ⟨U.heap.size, 0, none⟩)] (by kernel_rfl) (R := fun v => ∃ A cp, v.heap[U.heap.size]? = some (.cells (((doRowS D.x c k).setIfInBounds 18 (.slice (some ⟨A, 0, none⟩) 1 cp)).setIfInBounds 16 (.bool false)) 120 (0, 0)) ∧ v.heap[D.x]? = some (.cells ((gorR 2 2 k).setIfInBounds 2 (.int .i64 4)) 110 (0, 0)) ∧ TimOne 1 D.ti D.h D.pm D.ids D.own D.gsm (c + k) v ∧ Fr (fun k => k = U.heap.size ∨ k = D.x ∨ k = D.ti ∨ k = D.h ∨ k = D.pm ∨ k = D.ids ∨ k = D.own ∨ k = D.gsm) u v)
    ((dsleep_ok (w := u) (tk := 0) (pr := 0) (r := k) (now := c) (FO.out.heapAt GN.out (ne0 _)) rfl OO.out rfl rfl rfl rfl rfl rfl rfl rfl DO.out.gor rfl rfl (by simp [gorR]) TO.out hk.1 hk.2 hnw.1 hnw.2).mono (fun e w' ⟨A, cp, he, h1, h2, h3, h4⟩ => ⟨he, A, cp, h1, h2, h3, h4⟩))
    (fun v ⟨A, cp, h1, _⟩ => by rw [cell_of_row v U.heap.size 1 _ _ _ h1, Array.getElem?_setIfInBounds_ne (by decide), Array.getElem?_setIfInBounds_ne (by decide)]; rfl) (fun v hv => ?_)
  obtain ⟨A, cp, hvo, hvx, hvt, hvf⟩ := hv
  have VO := hid hvo
  have VX := hid hvx
  have VT := hid hvt
  have VF2 := hid hvf
  clear hvo hvx hvt hvf hm hfd hS2
  refine wpAnyH_done (by kernel_rfl) ?_ _
  simp only [Act.put, List.setIfInBounds_toArray, List.set_cons_zero, List.set_cons_succ]
  have hnu : N.heap.size ≤ u.heap.size := FO.out.size
  have hun : U.heap.size < N.heap.size := heap_lt ON.out
  have V8 := hid (VF2.out.heapAt (FO.out.heapAt N8.out (ne0 _)) (by have := nx; have := NL.out; omega))
  have o16 : v.cell? ⟨U.heap.size, 16, none⟩ = some (.bool false) := by rw [cell_of_row v _ 16 _ _ _ VO.out]; simp [doRowS]
  have o17 : v.cell? ⟨U.heap.size, 17, none⟩ = some (.slice none 0 0) := by rw [cell_of_row v _ 17 _ _ _ VO.out]; simp [doRowS]
  have o18 : v.cell? ⟨U.heap.size, 18, none⟩ = some (.slice (some ⟨A, 0, none⟩) 1 cp) := by rw [cell_of_row v _ 18 _ _ _ VO.out]; simp [doRowS]
  have d0 : v.cell? ⟨w.heap.size + 1 + 1, 0, none⟩ = some (.bool false) := cell_of_row v _ 0 _ _ _ V8.out
  have d1 : v.cell? ⟨w.heap.size + 1 + 1, 1, none⟩ = some (.slice none 0 0) := cell_of_row v _ 1 _ _ _ V8.out
  have d2 : v.cell? ⟨w.heap.size + 1 + 1, 2, none⟩ = some (.slice none 0 0) := cell_of_row v _ 2 _ _ _ V8.out
  have df := fun j => frozen_of_row v (w.heap.size + 1 + 1) j _ _ V8.out
  have no : U.heap.size ≠ w.heap.size + 1 + 1 := by omega
  clear nx hk hnw
  go_wp2
  have HZ := hid (heap_set3 V8.out (.bool false) (.slice none 0 0) (.slice (some ⟨A, 0, none⟩) 1 cp))
  have FZ := hid (show Fr (fun k => k = w.heap.size + 1 + 1) v (((v.setCell ⟨w.heap.size + 1 + 1, 0, none⟩ (.bool false)).setCell ⟨w.heap.size + 1 + 1, 1, none⟩ (.slice none 0 0)).setCell ⟨w.heap.size + 1 + 1, 2, none⟩ (.slice (some ⟨A, 0, none⟩) 1 cp)) from by
    repeat (with_reducible first | exact Fr.refl | refine Fr.setCell ?_ _ (.inl rfl)))
  have nm := TO.out.nm DO.out.map
  have DV := hid (DO.out.many VF2.out (by
    intro k hk
    rcases hk with rfl | rfl | rfl | rfl | rfl | rfl | rfl | rfl
    · exact ⟨_, OO.out, cells_no (by decide), cells_no (by decide), cells_ne OO.out DO.out.obj (by decide), fun e => map_ne DO.out.map OO.out e.symm⟩
    · exact ⟨_, DO.out.gor, cells_no (by decide), cells_no (by decide), cells_ne DO.out.gor DO.out.obj (by decide), fun e => map_ne DO.out.map DO.out.gor e.symm⟩
    · exact ⟨_, TO.out.obj, cells_no (by decide), cells_no (by decide), cells_ne TO.out.obj DO.out.obj (by decide), fun e => map_ne DO.out.map TO.out.obj e.symm⟩
    · exact ⟨_, TO.out.heap.1, cells_no (by decide), cells_no (by decide), cells_ne TO.out.heap.1 DO.out.obj (by decide), fun e => map_ne DO.out.map TO.out.heap.1 e.symm⟩
    · exact ⟨_, TO.out.heap.2, map_no, map_no, map_ne TO.out.heap.2 DO.out.obj, nm.1⟩
    · exact ⟨_, TO.out.ids, map_no, map_no, map_ne TO.out.ids DO.out.obj, nm.2.1⟩
    · exact ⟨_, TO.out.own, map_no, map_no, map_ne TO.out.own DO.out.obj, nm.2.2.1⟩
    · exact ⟨_, TO.out.gs, map_no, map_no, map_ne TO.out.gs DO.out.obj, nm.2.2.2⟩) VX.out)
  exact bodyPost_ret (v := tup2 (.agg #[.bool false, .slice none 0 0, .slice (some ⟨A, 0, none⟩) 1 cp]) (.int .i64 0)) (res_row2 rfl _ _ (w.heap.size + 1 + 1) 69 _ (0, 0) _ (by kernel_rfl) HZ.out Tryz.underlying69 rfl (by kernel_rfl) (by kernel_rfl)) rfl
    ⟨A, cp, rfl, DV.out.blk FZ.out V8.out (by decide) (by decide) (by decide) (by decide), VT.out.blk FZ.out V8.out (by decide) (by decide) (by decide), (((FN.out.mono (T := D.all) (fun k hk => .inr (.inl hk))).trans FO.out.e0).trans' VF2.out (fun k hk => by unfold Blk.all; omega)).trans' FZ.out (fun k hk => .inr (by omega))⟩
set_option maxRecDepth 100000 in
set_option maxHeartbeats 40000000 in
theorem do_sleepN {w : World} {D : Blk} {k c : Int} (hk1 : 1 ≤ k) (hk2 : k ≤ 32767) (h : Dom D (slP k) true 1 (gorR 2 1 k) w) (ht : TimNew D.ti D.h D.pm D.ids D.own D.gsm w) (hn : (0 ≤ c ∧ c < two64) ∧ two64 ≤ c + k) :
    Calls Tryz.prog 9 #[.pointer (some ⟨D.g, 0, none⟩), .agg #[.int .i64 0, .int .i64 1], .agg #[.int .u64 0, .int .i64 0, .int .u64 c], .slice none 0 0] w (fun e w' => ∃ A ca, e = .returned (tup2 (.agg #[.bool false, .slice none 0 0, .slice (some ⟨A, 0, none⟩) 1 ca]) (.int .i64 0)) ∧ Dom D (slP k) true 1 (gorR 4 2 k) w' ∧ TimNev D.ti D.h D.pm w' ∧ Fr D.all w w') := by
  have H := hid h
  have HT := hid ht
  have HN := hid hn
  have NL := hid (And.intro (heap_lt ht.obj) (And.intro (heap_lt ht.heap.1) (And.intro (heap_lt ht.heap.2) (And.intro (heap_lt ht.ids) (And.intro (heap_lt ht.own) (heap_lt ht.gs))))))
  have NX := hid (And.intro (show D.ti ≠ D.x from cells_ne ht.obj h.gor (by decide)) (And.intro (show D.h ≠ D.x from cells_ne ht.heap.1 h.gor (by decide)) (And.intro (show D.pm ≠ D.x from map_ne ht.heap.2 h.gor) (And.intro (show D.ids ≠ D.x from map_ne ht.ids h.gor) (And.intro (show D.own ≠ D.x from map_ne ht.own h.gor) (show D.gsm ≠ D.x from map_ne ht.gs h.gor))))))
  clear ht hn
  obtain ⟨cb, ccp, hvc, hc0, hc1⟩ := h.words
  have VF := hid h.vfs
  have W0 := hid (show WordAt w D.g 1 (454033408) ⟨27, 1, 0, 0, 0⟩ from ⟨⟨cb, 0, 3, ccp, by rw [cell_of_row w D.g 0 _ _ _ h.obj, ← hvc]; rfl, hc1, by omega, by omega⟩, by omega, by omega, dec_sleep⟩)
  have HC := hid hc1
  have OG := hid (show OneG D.g D.m D.x w from ⟨cell_of_row w D.g 10 _ _ _ h.obj, h.map, cell_of_row w D.x 0 _ _ _ h.gor, cell_of_row w D.x 1 _ _ _ h.gor⟩)
  have PR := hid (dom_prog h.obj)
  have XR := hid (gor_range h.gor)
  have HV := hid hvc
  have HK := hid (And.intro hk1 hk2)
  have NE := hid (And.intro (show D.x ≠ D.g from cells_ne h.gor h.obj (by decide)) (And.intro (show D.m ≠ D.g from map_ne h.map h.obj) (show D.m ≠ D.x from map_ne h.map h.gor)))
  have LT := hid (And.intro (heap_lt h.obj) (And.intro (heap_lt h.gor) (heap_lt h.map)))
  clear h hc0 hc1 hvc hk1 hk2
  go_enter Tryz.func9, Tryz.ntmps9
  go_upto_region 1 with fail
  generalize hW : World.alloc _ _ = W
  have F0 := hid (show Fr E0 w W from by rw [← hW]; exact ((Fr.refl.alloc _).alloc _).alloc _)
  have T5 := hid (show W.heap[w.heap.size]? = some (.cells #[.int .i64 0, .int .i64 1] 72 (0, 0)) from by rw [← hW]; exact (heap_alloc_old _ _ (by simp; omega)).trans (heap_alloc2_old w _ _))
  have T6 := hid (show W.heap[w.heap.size + 1]? = some (.cells #[.int .u64 0, .int .i64 0, .int .u64 c] 65 (0, 0)) from by rw [← hW]; exact alloc3_1 w _ _ _)
  have T8 := hid (show W.heap[w.heap.size + 1 + 1]? = some (.cells didZ 69 (0, 0)) from by rw [← hW]; exact alloc3_2 w _ _ _)
  have hws : w.heap.size + 1 + 1 + 1 = W.heap.size := by rw [← hW]; simp
  clear hW
  have w1c : W.cell? ⟨w.heap.size + 1, 1, none⟩ = some (.int .i64 0) := cell_of_row W _ 1 _ _ _ T6.out
  have g4c : W.cell? ⟨D.g, 4, none⟩ = some (.int .i64 1) := F0.out.cell (cell_of_row w D.g 4 _ _ _ H.out.obj) (ne0 _)
  go_region
  go_upto_region 3 with fail
  clear w1c g4c
  generalize hV : World.drew W = V
  have FV := hid (show Fr E0 w V from by rw [← hV]; exact F0.out.drew)
  have V5 := hid (show V.heap[w.heap.size]? = some (.cells #[.int .i64 0, .int .i64 1] 72 (0, 0)) from by rw [← hV]; exact T5.out)
  have V6 := hid (show V.heap[w.heap.size + 1]? = some (.cells #[.int .u64 0, .int .i64 0, .int .u64 c] 65 (0, 0)) from by rw [← hV]; exact T6.out)
  have V8 := hid (show V.heap[w.heap.size + 1 + 1]? = some (.cells didZ 69 (0, 0)) from by rw [← hV]; exact T8.out)
  have hvs : w.heap.size + 1 + 1 + 1 = V.heap.size := by rw [← hV]; exact hws
  clear hV F0 T5 T6 T8
  have i0 : V.cell? ⟨w.heap.size, 0, none⟩ = some (.int .i64 0) := cell_of_row V _ 0 _ _ _ V5.out
  have i1 : V.cell? ⟨w.heap.size, 1, none⟩ = some (.int .i64 1) := cell_of_row V _ 1 _ _ _ V5.out
  go_wp2_with fail
  refine (find_ok' (OG.out.fr FV.out)).mono ?_
  rintro e w1 ⟨rfl, hf1⟩
  have G1 := hid hf1
  have F1 := hid (FV.out.trans hf1)
  clear hf1 i0 i1
  simp only [tup2]
  have x2 : w1.cell? ⟨D.x, 2, none⟩ = some (.int .i64 2) := F1.out.cell (cell_of_row w D.x 2 _ _ _ H.out.gor) (ne0 _)
  have i0 : w1.cell? ⟨w.heap.size, 0, none⟩ = some (.int .i64 0) := cell_of_row w1 _ 0 _ _ _ (G1.out.heapAt V5.out (ne0 _))
  have i1 : w1.cell? ⟨w.heap.size, 1, none⟩ = some (.int .i64 1) := cell_of_row w1 _ 1 _ _ _ (G1.out.heapAt V5.out (ne0 _))
  go_wp2_with fail
  refine (asks_ok (w := w1) (r := k) (OG.out.fr F1.out) (fun j v hv => F1.out.cell (XR.out j v hv) (ne0 _)) (W0.out.fr F1.out) (show (27 : Int) ≠ 34 from by decide)).mono ?_
  rintro e w2 ⟨rfl, hf2⟩
  have G2 := hid (G1.out.trans hf2)
  have F2 := hid (F1.out.trans hf2)
  clear hf2 i0 i1 x2
  simp only [tup2]
  go_upto_region 11 with fail
  apply wp_region_lit
  refine Great.wpList_readTo rfl _ rfl (.pointer (some ⟨D.g, 0, none⟩)) (by kernel_rfl) ?_
  refine Great.wpList_readTo rfl _ rfl (.pointer (some ⟨D.x, 0, none⟩)) (by kernel_rfl) ?_
  refine Great.wpList_readTo rfl _ rfl (.pointer (some ⟨D.x, 0, none⟩)) (by kernel_rfl) ?_
  refine Great.wpList_readTo rfl _ rfl (.pointer (some ⟨D.x, 3, none⟩)) (by kernel_rfl) ?_
  refine wpList_load_mid rfl 106 _ rfl D.x 3 (by kernel_rfl) _ _ (fun j v hv => F2.out.cell (XR.out j v hv) (ne0 _)) Tryz.underlying106 rfl (by kernel_rfl) ?_
  unfold ctxC
  simp only [Act.put, List.setIfInBounds_toArray, List.set_cons_zero, List.set_cons_succ]
  go_wp2_with fail
  refine (instr_ok (w := w2) (W0.out.fr F2.out)).mono ?_
  rintro e w3 ⟨rfl, hf3⟩
  have G3 := hid (G2.out.trans hf3)
  have F3 := hid (F2.out.trans hf3)
  clear hf3
  simp only [tup2, Ins.val]
  go_upto_region 12 with fail
  generalize hU : World.alloc _ _ = U
  have GU := hid (show Fr E0 V U from by rw [← hU]; exact G3.out.alloc _)
  have FU := hid (FV.out.trans GU.out)
  have IU := hid (show U.heap[w3.heap.size]? = some (.cells #[.int .i64 27, .int .i64 1, .int .i64 0, .int .i64 0, .int .i64 0] 108 (0, 0)) from by rw [← hU]; exact heap_alloc_new w3 _)
  clear hU
  have U5 := hid (GU.out.heapAt V5.out (ne0 _))
  have U6 := hid (GU.out.heapAt V6.out (ne0 _))
  have U8 := hid (GU.out.heapAt V8.out (ne0 _))
  have hvw : V.heap.size ≤ w3.heap.size := G3.out.size
  clear G1 F1 G2 F2 G3 F3 FV V5 V6 V8
  apply wp_region_lit
  refine Great.wpList_readTo rfl _ rfl (.pointer (some ⟨D.x, 0, none⟩)) (by kernel_rfl) ?_
  refine wpList_load_row rfl 65 _ rfl (w.heap.size + 1) (by kernel_rfl) 65 _ (0, 0) _ U6.out Tryz.underlying65 rfl (by kernel_rfl) ?_
  refine Great.wpList_readTo rfl _ rfl (.slice none 0 0) (by kernel_rfl) ?_
  refine wpList_build_eq rfl 69 _ rfl #[.bool true, .slice none 0 0, .slice none 0 0] (by kernel_rfl) ?_
  refine wpList_build_eq rfl 120 _ rfl (doRow D.x c) (by kernel_rfl) ?_
  refine Great.wpList_allocTo rfl _ rfl (.pointer (some ⟨U.heap.size, 0, none⟩)) (.cells (doRow D.x c) 120) (by kernel_rfl) ?_
  refine Great.wpList_readTo rfl _ rfl (.pointer (some ⟨U.heap.size, 0, none⟩)) (by kernel_rfl) ?_
  apply wpList_nil
  simp only [Act.put, List.setIfInBounds_toArray, List.set_cons_zero, List.set_cons_succ]
  go_upto_region 13 with fail
  generalize hX : World.alloc _ _ = X
  have GX := hid (show Fr E0 U X from by rw [← hX]; exact Fr.refl.alloc _)
  have FX := hid (FU.out.trans GX.out)
  have OX := hid (show X.heap[U.heap.size]? = some (.cells (doRow D.x c) 120 (0, 0)) from by rw [← hX]; exact heap_alloc_new U _)
  clear hX
  have X5 := hid (GX.out.heapAt U5.out (ne0 _))
  have X6 := hid (GX.out.heapAt U6.out (ne0 _))
  have X8 := hid (GX.out.heapAt U8.out (ne0 _))
  have IX := hid (GX.out.heapAt IU.out (ne0 _))
  have hwu : w3.heap.size < U.heap.size := heap_lt IU.out
  have hux : U.heap.size < X.heap.size := heap_lt OX.out
  have lt := LT.out
  clear GU FU IU U5 U6 U8 GX
  have hS0 : St13 D.g (w.heap.size + 1) w.heap.size (domRow D true 1) #[.int .u64 0, .int .i64 0, .int .u64 c] X.drew := ⟨FX.out.heapAt H.out.obj (ne0 _), X6.out, X5.out⟩
  refine wp_region_held_drew (S := St13 D.g (w.heap.size + 1) w.heap.size (domRow D true 1) #[.int .u64 0, .int .i64 0, .int .u64 c]) (by kernel_rfl) hS0 (fun hS => ?_)
  clear hS0
  show wpAnyH _ _ _ _ _ 24 _ _ _
  refine wpAnyH_rd 0 (some 74) (.pointer (some ⟨D.x, 0, none⟩)) rfl rfl rfl (by kernel_rfl) (by kernel_rfl) (by kernel_rfl) (fun _ _ _ h => h) hS (fun u hu => by kernel_rfl) (fun hS => ?_)
  refine wpAnyH_rd 1 (some 75) (.pointer (some ⟨U.heap.size, 0, none⟩)) rfl rfl rfl (by kernel_rfl) (by kernel_rfl) (by kernel_rfl) (fun _ _ _ h => h) hS (fun u hu => by kernel_rfl) (fun hS => ?_)
  refine wpAnyH_rd 2 (some 76) (.pointer (some ⟨D.g, 0, none⟩)) rfl rfl rfl (by kernel_rfl) (by kernel_rfl) (by kernel_rfl) (fun _ _ _ h => h) hS (fun u hu => by kernel_rfl) (fun hS => ?_)
  refine wpAnyH_rd 3 (some 77) (.pointer (some ⟨D.g, 0, none⟩)) rfl rfl rfl (by kernel_rfl) (by kernel_rfl) (by kernel_rfl) (fun _ _ _ h => h) hS (fun u hu => by kernel_rfl) (fun hS => ?_)
  refine wpAnyH_rd 4 (some 78) (.pointer (some ⟨D.g, 0, none⟩)) rfl rfl rfl (by kernel_rfl) (by kernel_rfl) (by kernel_rfl) (fun _ _ _ h => h) hS (fun u hu => by kernel_rfl) (fun hS => ?_)
  refine wpAnyH_rd 5 (some 79) (.agg #[D.vc, D.vf, .slice none 0 0]) rfl rfl rfl (by kernel_rfl) (by kernel_rfl) (by kernel_rfl) (fun _ _ _ h => h) hS (fun u hu => run_load_mid 29 _ rfl D.g 0 (by kernel_rfl) [D.vc, D.vf, .slice none 0 0] _ (dom_prog hu.g) Tryz.underlying29 rfl (by kernel_rfl)) (fun hS => ?_)
  refine wpAnyH_rd 6 (some 80) (.pointer (some ⟨D.x, 0, none⟩)) rfl rfl rfl (by kernel_rfl) (by kernel_rfl) (by kernel_rfl) (fun _ _ _ h => h) hS (fun u hu => by kernel_rfl) (fun hS => ?_)
  refine wpAnyH_rd 7 (some 81) (.pointer (some ⟨D.x, 0, none⟩)) rfl rfl rfl (by kernel_rfl) (by kernel_rfl) (by kernel_rfl) (fun _ _ _ h => h) hS (fun u hu => by kernel_rfl) (fun hS => ?_)
  refine wpAnyH_rd 8 (some 82) (.pointer (some ⟨D.x, 3, none⟩)) rfl rfl rfl (by kernel_rfl) (by kernel_rfl) (by kernel_rfl) (fun _ _ _ h => h) hS (fun u hu => by kernel_rfl) (fun hS => ?_)
  refine wpAnyH_rd 10 (some 84) (.pointer (some ⟨w.heap.size + 1, 2, none⟩)) rfl rfl rfl (by kernel_rfl) (by kernel_rfl) (by kernel_rfl) (fun _ _ _ h => h) hS (fun u hu => by kernel_rfl) (fun hS => ?_)
  refine wpAnyH_rd 11 (some 85) (.int .u64 c) rfl rfl rfl (by kernel_rfl) (by kernel_rfl) (by kernel_rfl) (fun _ _ _ h => h) hS (fun u hu => run_load_cell 22 _ rfl (w.heap.size + 1) 2 (by kernel_rfl) _ (cell_of_row u _ 2 _ _ _ hu.wh) (by kernel_rfl)) (fun hS => ?_)
  refine wpAnyH_rd 12 (some 86) (.agg #[.int .i64 0, .int .i64 1]) rfl rfl rfl (by kernel_rfl) (by kernel_rfl) (by kernel_rfl) (fun _ _ _ h => h) hS (fun u hu => run_load_row 72 _ rfl w.heap.size (by kernel_rfl) 72 _ (0, 0) _ hu.i Tryz.underlying72 rfl (by kernel_rfl)) (fun hS => ?_)
  refine wpAnyH_rd 13 (some 87) (.agg #[.int .u64 c, .int .i64 0, .int .i64 1]) rfl rfl rfl (by kernel_rfl) (by kernel_rfl) (by kernel_rfl) (fun _ _ _ h => h) hS (fun u hu => run_build_eq 124 _ rfl _ (by kernel_rfl)) (fun hS => ?_)
  refine wpAnyH_one 9 (some 83) (.agg (ctxC 1 k)) rfl rfl rfl (by kernel_rfl) hS (run_load_mid 106 _ rfl D.x 3 (by kernel_rfl) (ctxC 1 k).toList _ (gor_range (FX.out.heapAt H.out.gor (ne0 _))) Tryz.underlying106 rfl (by kernel_rfl)) (fun hS => ?_)
  refine wpAnyH_call 14 (some 88) (tup2 (.agg (ctxC (1 + 1) k)) (.agg #[.int .i64 27, .int .i64 27, .int .i64 1, .int .i64 0, .int .i64 0, .int .i64 0, .int .i64 k, .int .i64 0, .int .i64 0, .int .i64 0, .int .i64 0])) rfl rfl rfl (by kernel_rfl) 20 #[.agg #[D.vc, D.vf, .slice none 0 0], .agg (ctxC 1 k), .agg #[.int .u64 c, .int .i64 0, .int .i64 1]] (by kernel_rfl) (R := Fr E0 X.drew)
    (by rw [HV.out]; exact stepSleep_ok (w := X.drew) (o := 0) (n := 3) (cp := ccp) (pc := 1) (FX.out.drew.cell HC.out (ne0 _)) (by decide) (by decide) (by have := HK.out; omega) (by have := HK.out; omega) dec_sleep VF.out ⟨_, _, _, rfl⟩) (fun u hu => hS.fr hu (ne0 _) (ne0 _) (ne0 _)) (fun u hu => ?_)
  have S1 := hS.fr hu (ne0 _) (ne0 _) (ne0 _)
  clear hS
  have FU := hid (FX.out.drew.trans hu)
  have OU := hid (hu.heapAt (w := X.drew) OX.out (ne0 _))
  have GU := hid (FU.out.heapAt H.out.gor (ne0 _))
  have U8 := hid (hu.heapAt (w := X.drew) X8.out (ne0 _))
  have IU := hid (hu.heapAt (w := X.drew) IX.out (ne0 _))
  have hxu : X.heap.size ≤ u.heap.size := hu.size
  clear hu FX OX X5 X6 X8 IX VF W0 HC PR XR
  refine wpAnyH_rd 15 (some 73) (tup2 (.agg (ctxC (1 + 1) k)) (.agg #[.int .i64 27, .int .i64 27, .int .i64 1, .int .i64 0, .int .i64 0, .int .i64 0, .int .i64 k, .int .i64 0, .int .i64 0, .int .i64 0, .int .i64 0])) rfl rfl rfl (by kernel_rfl) (by kernel_rfl) (by kernel_rfl) (fun _ _ _ h => h) S1 (fun u hu => by kernel_rfl) (fun S1 => ?_)
  refine wpAnyH_rd 16 (some 89) (.agg (ctxC (1 + 1) k)) rfl rfl rfl (by kernel_rfl) (by kernel_rfl) (by kernel_rfl) (fun _ _ _ h => h) S1 (fun u hu => by kernel_rfl) (fun S1 => ?_)
  refine wpAnyH_rd 17 (some 90) (.agg #[.int .i64 27, .int .i64 27, .int .i64 1, .int .i64 0, .int .i64 0, .int .i64 0, .int .i64 k, .int .i64 0, .int .i64 0, .int .i64 0, .int .i64 0]) rfl rfl rfl (by kernel_rfl) (by kernel_rfl) (by kernel_rfl) (fun _ _ _ h => h) S1 (fun u hu => by kernel_rfl) (fun S1 => ?_)
  refine wpAnyH_rd 18 (some 91) (.pointer (some ⟨D.x, 0, none⟩)) rfl rfl rfl (by kernel_rfl) (by kernel_rfl) (by kernel_rfl) (fun _ _ _ h => h) S1 (fun u hu => by kernel_rfl) (fun S1 => ?_)
  refine wpAnyH_rd 19 (some 92) (.pointer (some ⟨D.x, 3, none⟩)) rfl rfl rfl (by kernel_rfl) (by kernel_rfl) (by kernel_rfl) (fun _ _ _ h => h) S1 (fun u hu => by kernel_rfl) (fun S1 => ?_)
  have ne := NE.out
  have FM1 := hid (show Fr (fun k => k = D.x) u (u.setCells D.x 3 (ctxC (1 + 1) k).toList) from Fr.setCells (S := fun k => k = D.x) (b := D.x) Fr.refl (.inl rfl) _ _)
  refine wpAnyH_mid 20 rfl rfl (by kernel_rfl) 106 _ _ rfl rfl D.x 3 (ctxC (1 + 1) k) (by kernel_rfl) (by kernel_rfl) (there_row GU.out 3 18 (by simp [gorR])) (by kernel_rfl) (ctx_one _ _) (S1.fr FM1.out (by omega) (by omega) (by omega)) (fun S2 => ?_)
  have XM := hid ((heap_setCells_at (ctxC (1 + 1) k).toList 3 u _ GU.out).trans (by rw [gor_put]))
  generalize u.setCells D.x 3 (ctxC (1 + 1) k).toList = M at *
  have OM := hid (FM1.out.heapAt OU.out (by omega))
  have M8 := hid (FM1.out.heapAt U8.out (by omega))
  have IM := hid (FM1.out.heapAt IU.out (by omega))
  refine wpAnyH_rd 21 (some 93) (.pointer (some ⟨U.heap.size, 0, none⟩)) rfl rfl rfl (by kernel_rfl) (by kernel_rfl) (by kernel_rfl) (fun _ _ _ h => h) S2 (fun u hu => by kernel_rfl) (fun S2 => ?_)
  refine wpAnyH_rd 22 (some 94) (.pointer (some ⟨U.heap.size, 1, none⟩)) rfl rfl rfl (by kernel_rfl) (by kernel_rfl) (by kernel_rfl) (fun _ _ _ h => h) S2 (fun u hu => by kernel_rfl) (fun S2 => ?_)
  have FM2 := hid (show Fr (fun k => k = U.heap.size) M (M.setCells U.heap.size 1 [.int .i64 27, .int .i64 27, .int .i64 1, .int .i64 0, .int .i64 0, .int .i64 0, .int .i64 k, .int .i64 0, .int .i64 0, .int .i64 0, .int .i64 0]) from Fr.setCells (S := fun k => k = U.heap.size) (b := U.heap.size) Fr.refl (.inl rfl) _ _)
  refine wpAnyH_mid 23 rfl rfl (by kernel_rfl) 118 _ _ rfl rfl U.heap.size 1 #[.int .i64 27, .int .i64 27, .int .i64 1, .int .i64 0, .int .i64 0, .int .i64 0, .int .i64 k, .int .i64 0, .int .i64 0, .int .i64 0, .int .i64 0] (by kernel_rfl) (by kernel_rfl) (there_row OM.out 1 11 (by simp [doRow])) (by kernel_rfl) (by kernel_rfl) (S2.fr FM2.out (by omega) (by omega) (by omega)) (fun S3 => ?_)
  refine wpAnyH_done (by kernel_rfl) ?_ _
  simp only [Act.put, List.setIfInBounds_toArray, List.set_cons_zero, List.set_cons_succ]
  have ON := hid ((heap_setCells_at [.int .i64 27, .int .i64 27, .int .i64 1, .int .i64 0, .int .i64 0, .int .i64 0, .int .i64 k, .int .i64 0, .int .i64 0, .int .i64 0, .int .i64 0] 1 M _ OM.out).trans (by rw [do_putS]))
  generalize M.setCells U.heap.size 1 [.int .i64 27, .int .i64 27, .int .i64 1, .int .i64 0, .int .i64 0, .int .i64 0, .int .i64 k, .int .i64 0, .int .i64 0, .int .i64 0, .int .i64 0] = N at *
  have FN := hid ((FU.out.e0 (S := fun k => k = D.x)).trans FM1.out |>.trans' FM2.out (fun k hk => .inr (by omega)))
  have XN := hid (FM2.out.heapAt XM.out (by omega))
  have N8 := hid (FM2.out.heapAt M8.out (by omega))
  have IN := hid (FM2.out.heapAt IM.out (by omega))
  have nx := NX.out
  have TN := hid (HT.out.fr FN.out ⟨nx.1, nx.2.1, nx.2.2.1, nx.2.2.2.1, nx.2.2.2.2.1, nx.2.2.2.2.2⟩)
  have GN := hid (FN.out.heapAt H.out.obj (by omega))
  have MN := hid (FN.out.heapAt H.out.map (by omega))
  have DN := hid (H.out.step FN.out XN.out)
  have o1 : N.cell? ⟨U.heap.size, 1, none⟩ = some (.int .i64 27) := cell_of_row N _ 1 _ _ _ ON.out
  have O1 := hid o1
  clear S3 S2 S1 OM OU GU
  go_upto_region 17 with fail
  have hS0 : N.drew.cell? ⟨U.heap.size, 1, none⟩ = some (.int .i64 27) := O1.out
  clear o1
  refine wp_region_held_drew (S := fun u => u.cell? ⟨U.heap.size, 1, none⟩ = some (.int .i64 27)) (by kernel_rfl) hS0 (fun hS => ?_)
  clear hS0
  show wpAnyH _ _ _ _ _ 10 _ _ _
  refine wpAnyH_rd 1 (some 123) (.pointer (some ⟨U.heap.size, 0, none⟩)) rfl rfl rfl (by kernel_rfl) (by kernel_rfl) (by kernel_rfl) (fun _ _ _ h => h) hS (fun u hu => by kernel_rfl) (fun hS => ?_)
  refine wpAnyH_rd 2 (some 124) (.pointer (some ⟨U.heap.size, 0, none⟩)) rfl rfl rfl (by kernel_rfl) (by kernel_rfl) (by kernel_rfl) (fun _ _ _ h => h) hS (fun u hu => by kernel_rfl) (fun hS => ?_)
  refine wpAnyH_rd 3 (some 125) (.pointer (some ⟨U.heap.size, 1, none⟩)) rfl rfl rfl (by kernel_rfl) (by kernel_rfl) (by kernel_rfl) (fun _ _ _ h => h) hS (fun u hu => by kernel_rfl) (fun hS => ?_)
  refine wpAnyH_rd 4 (some 126) (.pointer (some ⟨U.heap.size, 1, none⟩)) rfl rfl rfl (by kernel_rfl) (by kernel_rfl) (by kernel_rfl) (fun _ _ _ h => h) hS (fun u hu => by kernel_rfl) (fun hS => ?_)
  refine wpAnyH_rd 5 (some 127) (.int .i64 27) rfl rfl rfl (by kernel_rfl) (by kernel_rfl) (by kernel_rfl) (fun _ _ _ h => h) hS (fun u hu => run_load_cell 3 _ rfl U.heap.size 1 (by kernel_rfl) _ hu (by kernel_rfl)) (fun hS => ?_)
  refine wpAnyH_rd 7 (some 129) (.pointer (some ⟨D.g, 0, none⟩)) rfl rfl rfl (by kernel_rfl) (by kernel_rfl) (by kernel_rfl) (fun _ _ _ h => h) hS (fun u hu => by kernel_rfl) (fun hS => ?_)
  refine wpAnyH_rd 8 (some 130) (.pointer (some ⟨U.heap.size, 0, none⟩)) rfl rfl rfl (by kernel_rfl) (by kernel_rfl) (by kernel_rfl) (fun _ _ _ h => h) hS (fun u hu => by kernel_rfl) (fun hS => ?_)
  refine wpAnyH_call 0 (some 122) (.map (some N.heap.size)) rfl rfl rfl (by kernel_rfl) 22 #[] (by kernel_rfl) (R := fun u => ∃ es cl, u.heap[N.heap.size]? = some (.map es cl) ∧ Instr.findNow (.int .i64) (.int .i64 27) es.toList 0 = some (some (3, .func (.func 69) #[] #[])) ∧ Fr E0 N.drew u)
    ((operations_ok N.drew).mono (fun e w' ⟨es, cl, he, h1, h2, h3⟩ => ⟨he, es, cl, h1, h2, h3⟩)) (fun u ⟨_, _, _, _, hf⟩ => hf.cell hS (ne0 _)) (fun u hu => ?_)
  obtain ⟨es, cl, hm, hfd, hf⟩ := hu
  have hS2 := hf.cell hS (ne0 _)
  have FO := hid (show Fr E0 N u from Fr.refl.drew.trans hf)
  clear hf hS
  refine wpAnyH_one 6 (some 128) (.func (.func 69) #[] #[]) rfl rfl rfl (by kernel_rfl) hS2 (run_op_lookup _ _ _ _ rfl (by kernel_rfl) (by kernel_rfl) (run_lookup_hit (b := false) Tryz.underlying128 Tryz.underlying3 hm hfd)) (fun hS2 => ?_)
  have OO := hid (FO.out.heapAt ON.out (ne0 _))
  have hk := HK.out
  have hnw := HN.out
  have TO := hid (TN.out.fr FO.out ⟨ne0 _, ne0 _, ne0 _, ne0 _, ne0 _, ne0 _⟩)
  have DO := hid (DN.out.fr FO.out)
  refine wpAnyH_call 9 (some 131) (.tuple #[]) rfl rfl rfl (by kernel_rfl) 69 #[.pointer (some ⟨D.g, 0, none⟩), .pointer (some ⟨U.heap.size, 0, none⟩)] (by kernel_rfl) (R := fun v => ∃ A cp, v.heap[U.heap.size]? = some (.cells (((doRowS D.x c k).setIfInBounds 18 (.slice (some ⟨A, 0, none⟩) 1 cp)).setIfInBounds 16 (.bool false)) 120 (0, 0)) ∧ v.heap[D.x]? = some (.cells ((gorR 2 2 k).setIfInBounds 2 (.int .i64 4)) 110 (0, 0)) ∧ TimNev D.ti D.h D.pm v ∧ Fr (fun k => k = U.heap.size ∨ k = D.x ∨ k = D.ti ∨ k = D.ids ∨ k = D.own ∨ k = D.gsm) u v)
    ((dsleepN_ok (w := u) (tk := 0) (pr := 0) (r := k) (now := c) (FO.out.heapAt GN.out (ne0 _)) rfl OO.out rfl rfl rfl rfl rfl rfl rfl rfl DO.out.gor rfl rfl (by simp [gorR]) TO.out hk.1 hk.2 hnw.1 hnw.2).mono (fun e w' ⟨A, cp, he, h1, h2, h3, h4⟩ => ⟨he, A, cp, h1, h2, h3, h4⟩))
    (fun v ⟨A, cp, h1, _⟩ => by rw [cell_of_row v U.heap.size 1 _ _ _ h1, Array.getElem?_setIfInBounds_ne (by decide), Array.getElem?_setIfInBounds_ne (by decide)]; rfl) (fun v hv => ?_)
  obtain ⟨A, cp, hvo, hvx, hvt, hvf⟩ := hv
  have VO := hid hvo
  have VX := hid hvx
  have VT := hid hvt
  have VF2 := hid hvf
  clear hvo hvx hvt hvf hm hfd hS2
  refine wpAnyH_done (by kernel_rfl) ?_ _
  simp only [Act.put, List.setIfInBounds_toArray, List.set_cons_zero, List.set_cons_succ]
  have hnu : N.heap.size ≤ u.heap.size := FO.out.size
  have hun : U.heap.size < N.heap.size := heap_lt ON.out
  have V8 := hid (VF2.out.heapAt (FO.out.heapAt N8.out (ne0 _)) (by have := nx; have := NL.out; omega))
  have o16 : v.cell? ⟨U.heap.size, 16, none⟩ = some (.bool false) := by rw [cell_of_row v _ 16 _ _ _ VO.out]; simp [doRowS]
  have o17 : v.cell? ⟨U.heap.size, 17, none⟩ = some (.slice none 0 0) := by rw [cell_of_row v _ 17 _ _ _ VO.out]; simp [doRowS]
  have o18 : v.cell? ⟨U.heap.size, 18, none⟩ = some (.slice (some ⟨A, 0, none⟩) 1 cp) := by rw [cell_of_row v _ 18 _ _ _ VO.out]; simp [doRowS]
  have d0 : v.cell? ⟨w.heap.size + 1 + 1, 0, none⟩ = some (.bool false) := cell_of_row v _ 0 _ _ _ V8.out
  have d1 : v.cell? ⟨w.heap.size + 1 + 1, 1, none⟩ = some (.slice none 0 0) := cell_of_row v _ 1 _ _ _ V8.out
  have d2 : v.cell? ⟨w.heap.size + 1 + 1, 2, none⟩ = some (.slice none 0 0) := cell_of_row v _ 2 _ _ _ V8.out
  have df := fun j => frozen_of_row v (w.heap.size + 1 + 1) j _ _ V8.out
  have no : U.heap.size ≠ w.heap.size + 1 + 1 := by omega
  clear nx hk hnw
  go_wp2
  have HZ := hid (heap_set3 V8.out (.bool false) (.slice none 0 0) (.slice (some ⟨A, 0, none⟩) 1 cp))
  have FZ := hid (show Fr (fun k => k = w.heap.size + 1 + 1) v (((v.setCell ⟨w.heap.size + 1 + 1, 0, none⟩ (.bool false)).setCell ⟨w.heap.size + 1 + 1, 1, none⟩ (.slice none 0 0)).setCell ⟨w.heap.size + 1 + 1, 2, none⟩ (.slice (some ⟨A, 0, none⟩) 1 cp)) from by
    repeat (with_reducible first | exact Fr.refl | refine Fr.setCell ?_ _ (.inl rfl)))
  have nm := TO.out.nm DO.out.map
  have DV := hid (DO.out.many VF2.out (by
    intro k hk
    rcases hk with rfl | rfl | rfl | rfl | rfl | rfl
    · exact ⟨_, OO.out, cells_no (by decide), cells_no (by decide), cells_ne OO.out DO.out.obj (by decide), fun e => map_ne DO.out.map OO.out e.symm⟩
    · exact ⟨_, DO.out.gor, cells_no (by decide), cells_no (by decide), cells_ne DO.out.gor DO.out.obj (by decide), fun e => map_ne DO.out.map DO.out.gor e.symm⟩
    · exact ⟨_, TO.out.obj, cells_no (by decide), cells_no (by decide), cells_ne TO.out.obj DO.out.obj (by decide), fun e => map_ne DO.out.map TO.out.obj e.symm⟩
    · exact ⟨_, TO.out.ids, map_no, map_no, map_ne TO.out.ids DO.out.obj, nm.2.1⟩
    · exact ⟨_, TO.out.own, map_no, map_no, map_ne TO.out.own DO.out.obj, nm.2.2.1⟩
    · exact ⟨_, TO.out.gs, map_no, map_no, map_ne TO.out.gs DO.out.obj, nm.2.2.2⟩) VX.out)
  exact bodyPost_ret (v := tup2 (.agg #[.bool false, .slice none 0 0, .slice (some ⟨A, 0, none⟩) 1 cp]) (.int .i64 0)) (res_row2 rfl _ _ (w.heap.size + 1 + 1) 69 _ (0, 0) _ (by kernel_rfl) HZ.out Tryz.underlying69 rfl (by kernel_rfl) (by kernel_rfl)) rfl
    ⟨A, cp, rfl, DV.out.blk FZ.out V8.out (by decide) (by decide) (by decide) (by decide), VT.out.blk FZ.out V8.out (by decide) (by decide), (((FN.out.mono (T := D.all) (fun k hk => .inr (.inl hk))).trans FO.out.e0).trans' VF2.out (fun k hk => by unfold Blk.all; omega)).trans' FZ.out (fun k hk => .inr (by omega))⟩
end Go.Proofs.YtocepiogpeafoaaGreatDoor
