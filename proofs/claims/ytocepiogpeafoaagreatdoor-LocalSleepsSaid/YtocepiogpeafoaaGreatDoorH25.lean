/- Words and contracts of calls that the law needs (New20): merged by wip/gen/zmerge.py. No condition but those that each theorem names. -/
import Derived.Test.YtocepiogpeafoaaGreatDoorH14
import Derived.Test.YtocepiogpeafoaaGreatDoorH16
import Derived.Test.YtocepiogpeafoaaGreatDoorH24
set_option linter.unusedVariables false
/- rotaref20.New of a program without tables, no links, no inputs: the walk. -/
namespace Go.Proofs.YtocepiogpeafoaaGreatDoor
open Go.RowKit
set_option linter.unusedVariables false
def New20Post (w : World) (e : Ending) (w' : World) : Prop := ∃ ca : Array Value, e = .returned (tup2 (.agg ca) (.int .i64 0)) ∧ ca.size = 29 ∧ (∀ v ∈ ca.toList, v.oneCell' = true) ∧ Fr E0 w w'
set_option maxRecDepth 100000 in
set_option maxHeartbeats 40000000 in
theorem new20_ok {w : World} {vc vf : Value} {p : Prg} {nm : ByteArray} {gs : Int} {n : Nat} {f : Fn} (hc : Rd w vc 1 (codeC p.code)) (hf : Rd w vf 2 (fnC p.funcs)) (ht : p.tables = []) (hw : p.Wf) (hp : okP p) (hf0 : p.funcs[0]? = some f)
    (h1 : 1 ≤ gs) (h2 : gs ≤ 4096) (h3 : n ≤ 256) :
    Calls Tryz.prog 16 #[.agg #[.string nm, vc, vf, .slice none 0 0, .int .i64 gs, .int .i64 (n : Int)], .int .i64 0, .int .i64 1, .slice none 0 0, .slice none 0 0] w (New20Post w) := by
  have HC := hid hc
  have HF := hid hf
  have HT := hid ht
  have HW := hid hw
  have HO := hid hp
  have HF0 := hid hf0
  have HRP : ∀ u, Fr E0 w u → RdP u vc vf (.slice none 0 0) p [] := fun u hu => ⟨HC.out.fr hu, HF.out.fr hu, Rd.nil u 2, fun x hx => by simp at hx, by rw [HT.out]; rfl⟩
  have HRP' := hid HRP
  have H1 := hid h1
  have H2 := hid h2
  have H3 := hid h3
  have a1 : ¬ gs < 1 := by omega
  have a2 : ¬ 4096 < gs := by omega
  have a3 : ¬ (n : Int) < 0 := by omega
  have a4 : ¬ (256 : Int) < n := by omega
  obtain ⟨cA, cn, cc, rfl, _⟩ := hc
  obtain ⟨fA, fn, fc, rfl, _⟩ := hf
  clear ht hw hp hf0 HRP h1 h2 h3
  go_enter Tryz.func16, Tryz.ntmps16
  go_wp2_with fail
  generalize hW : ((w.alloc _).alloc _) = W
  have F0 := hid (show Fr E0 w W from by rw [← hW]; exact (Fr.refl.alloc _).alloc _)
  have T0 := hid (show W.heap[w.heap.size]? = some (.cells #[.string nm, .slice cA cn cc, .slice fA fn fc, .slice none 0 0, .int .i64 gs, .int .i64 (n : Int)] 31 (0, 0)) from by rw [← hW]; exact heap_alloc2_old w _ _)
  have RS := hid (show FitsN 59 29 W (w.heap.size + 1) from by rw [← hW]; exact fitsN_new _ _ _ rfl _ _ (by simp))
  clear hW
  refine (check8_ok (HRP'.out _ F0.out) HW.out).mono ?_
  rintro e w1 ⟨k, er, rfl, her, hf1⟩
  obtain rfl : er = 0 := her.2 HO.out
  have F1 := hid (F0.out.trans hf1)
  have T1 := hid (hf1.heapAt T0.out (ne0 _))
  have tc1 := fun j => cell_of_row w1 _ j _ _ _ T1.out
  have hl1 := heap_lt T1.out
  have R1 := hid (show FitsN 59 29 w1 (w.heap.size + 1) from by obtain ⟨old, ho, hs⟩ := RS.out; exact ⟨old, hf1.heapAt ho (ne0 _), hs⟩)
  clear hf1 her F0 T0 RS
  simp only [tup2]
  go_upto_region 8 with fail
  apply wp_region_lit
  refine wpList_load_row rfl 31 _ rfl w.heap.size rfl 31 _ (0, 0) _ T1.out Tryz.underlying31 rfl (by kernel_rfl) ?_
  refine Great.wpList_readTo rfl _ rfl (.int .i64 0) (by kernel_rfl) ?_
  refine Great.wpList_readTo rfl _ rfl (.int .i64 1) (by kernel_rfl) ?_
  refine Great.wpList_readTo rfl _ rfl (.slice none 0 0) (by kernel_rfl) ?_
  refine Great.wpList_readTo rfl _ rfl (.slice none 0 0) (by kernel_rfl) ?_
  refine wpList_build_eq rfl 59 _ rfl #[.string nm, .slice cA cn cc, .slice fA fn fc, .slice none 0 0, .int .i64 gs, .int .i64 (n : Int), .int .i64 0, .int .i64 1, .slice none 0 0, .slice none 0 0, .bool false, .slice none 0 0, .int .i64 0, .slice none 0 0, .slice none 0 0, .slice none 0 0, .slice none 0 0, .slice none 0 0, .slice none 0 0, .slice none 0 0, .slice none 0 0, .slice none 0 0, .slice none 0 0, .slice none 0 0, .int .i64 0, .slice none 0 0, .slice none 0 0, .int .u64 0, .int .i64 0] (by kernel_rfl) ?_
  refine Great.wpList_allocTo rfl _ rfl (.pointer (some ⟨w1.heap.size, 0, none⟩)) (.cells #[.string ⟨#[]⟩, .slice none 0 0, .slice none 0 0, .slice none 0 0, .int .i64 0, .int .i64 0, .int .i64 0, .int .i64 0, .slice none 0 0, .slice none 0 0, .bool false, .slice none 0 0, .int .i64 0, .slice none 0 0, .slice none 0 0, .slice none 0 0, .slice none 0 0, .slice none 0 0, .slice none 0 0, .slice none 0 0, .slice none 0 0, .slice none 0 0, .slice none 0 0, .slice none 0 0, .int .i64 0, .slice none 0 0, .slice none 0 0, .int .u64 0, .int .i64 0] 59) (by kernel_rfl) ?_
  refine wpList_store_fits rfl 59 _ _ rfl w1.heap.size #[.string nm, .slice cA cn cc, .slice fA fn fc, .slice none 0 0, .int .i64 gs, .int .i64 (n : Int), .int .i64 0, .int .i64 1, .slice none 0 0, .slice none 0 0, .bool false, .slice none 0 0, .int .i64 0, .slice none 0 0, .slice none 0 0, .slice none 0 0, .slice none 0 0, .slice none 0 0, .slice none 0 0, .slice none 0 0, .slice none 0 0, .slice none 0 0, .slice none 0 0, .slice none 0 0, .int .i64 0, .slice none 0 0, .slice none 0 0, .int .u64 0, .int .i64 0] (by kernel_rfl) (by kernel_rfl) 29 (fitsN_new _ _ _ rfl _ _ rfl) rfl (by kernel_rfl) (by kernel_rfl) ?_
  apply wpList_nil
  simp only [Act.put, List.setIfInBounds_toArray, List.set_cons_zero, List.set_cons_succ]
  have hsz1 := F1.out.size
  have hR1 : w.heap.size + 1 < w1.heap.size := by obtain ⟨old, ho, _⟩ := R1.out; exact heap_lt ho
  generalize hV : setMap _ _ _ = V
  have FV := hid (show Fr E0 w V from by rw [← hV]; exact (F1.out.alloc _).setMap _ (.inr hsz1))
  have DV := hid (show DR w1.heap.size V from by rw [← hV]; exact DR.at (setMap_at (heap_alloc_new w1 _)) rfl (all_one (by kernel_rfl)))
  have TV := hid (show V.heap[w.heap.size]? = some (.cells #[.string nm, .slice cA cn cc, .slice fA fn fc, .slice none 0 0, .int .i64 gs, .int .i64 (n : Int)] 31 (0, 0)) from by rw [← hV]; exact (setMap_other (by omega)).trans ((heap_alloc_old _ _ hl1).trans T1.out))
  have RV := hid (show FitsN 59 29 V (w.heap.size + 1) from by
    obtain ⟨old, ho, hs⟩ := R1.out
    exact ⟨old, by rw [← hV]; exact (setMap_other (by omega)).trans ((heap_alloc_old _ _ hR1).trans ho), hs⟩)
  clear hV tc1 T1 R1 F1
  generalize w1.heap.size = T at *
  go_upto_region 10 with fail
  go_loopw [15] (fun i wr => i = .int .i64 0 ∧ wr = V) (fun _ _ => 0)
  case atStart => exact ⟨rfl, rfl⟩
  case round =>
    obtain ⟨rfl, rfl⟩ := hrel
    have tc := fun j => cell_of_row wr _ j _ _ _ TV.out
    go_wp2_with fail
    refine (new4_ok gs _ H1.out H2.out).mono ?_
    rintro e w2 ⟨C, cap, r, rfl, hC, hCl, hcap, hf2⟩
    have F2 := hid (FV.out.trans hf2)
    have D2 := hid (DV.out.fr hf2 (ne0 _))
    have R2 := hid (show FitsN 59 29 w2 (w.heap.size + 1) from by obtain ⟨old, ho, hs⟩ := RV.out; exact ⟨old, hf2.heapAt ho (ne0 _), hs⟩)
    have T2 := hid (hf2.heapAt TV.out (ne0 _))
    have C2 := hid hC
    clear hf2 FV DV RV TV tc hC
    simp only [tup2, st4]
    have hTq : T < w2.heap.size := D2.out.lt
    have hRq : w.heap.size + 1 < w2.heap.size := by obtain ⟨old, ho, _⟩ := R2.out; exact heap_lt ho
    go_wp2_with fail
    have hs2 := F2.out.size
    refine (take4_ok gs _ C cap r ((heap_alloc_old w2 _ (heap_lt C2.out)).trans C2.out) hcap H1.out).mono ?_
    rintro e w3 ⟨A, cA', B, cB', C3, cap3, rfl, hf3⟩
    have F3 := hid ((F2.out.alloc _).trans hf3)
    have G3 := hid (show Fr E0 w2 w3 from (Fr.refl.alloc _).trans hf3)
    have D3 := hid (D2.out.fr G3.out (ne0 _))
    have R3 := hid (show FitsN 59 29 w3 (w.heap.size + 1) from by obtain ⟨old, ho, hs⟩ := R2.out; exact ⟨old, G3.out.heapAt ho (ne0 _), hs⟩)
    have T3 := hid (G3.out.heapAt T2.out (ne0 _))
    have Q3 := hid (hf3.heapAt (heap_alloc_new w2 _) (ne0 _))
    have q3 := fun j => cell_of_row w3 _ j _ _ _ Q3.out
    have qf3 := fun j => frozen_of_row w3 _ j _ _ Q3.out
    have ql3 := heap_lt Q3.out
    have tc := fun j => cell_of_row w3 _ j _ _ _ T3.out
    have tl := heap_lt T3.out
    have tne : w.heap.size ≠ w2.heap.size := by omega
    clear hf3 D2 R2 T2 C2 F2 G3
    simp only [tup3, st4]
    go_wp2_with fail
    have Q5 := hid (heap_set5 Q3.out (.int .i64 gs) (.slice (some ⟨A, 0, none⟩) 1 cA') (.slice (some ⟨B, 0, none⟩) 1 cB') (.slice (some ⟨C3, 0, none⟩) 1 cap3) (.slice none 0 0))
    have hTn : T ≠ w2.heap.size := by have := D3.out.lt; have := hTq; omega
    generalize hX : World.alloc _ (Obj.cells #[.int .i64 0, .int .i64 1] 72 (0, 0)) = X
    have GX := hid (show Fr (fun k => k = w2.heap.size) w3 X from by
      rw [← hX]
      refine Fr.alloc ?_ _
      refine Fr.setCell (p := ⟨w2.heap.size, 4, none⟩) ?_ _ (.inl rfl)
      refine Fr.setCell (p := ⟨w2.heap.size, 3, none⟩) ?_ _ (.inl rfl)
      refine Fr.setCell (p := ⟨w2.heap.size, 2, none⟩) ?_ _ (.inl rfl)
      refine Fr.setCell (p := ⟨w2.heap.size, 1, none⟩) ?_ _ (.inl rfl)
      refine Fr.setCell (p := ⟨w2.heap.size, 0, none⟩) ?_ _ (.inl rfl)
      exact Fr.refl)
    have FX := hid (show Fr E0 w X from F3.out.trans' GX.out (fun k hk => .inr (by omega)))
    have DX := hid (D3.out.fr GX.out hTn)
    have RX := hid (show FitsN 59 29 X (w.heap.size + 1) from by obtain ⟨old, ho, hs⟩ := R3.out; exact ⟨old, GX.out.heapAt ho (by omega), hs⟩)
    have TX := hid (GX.out.heapAt T3.out tne)
    have QX := hid (show X.heap[w2.heap.size]? = some (.cells #[.int .i64 gs, .slice (some ⟨A, 0, none⟩) 1 cA', .slice (some ⟨B, 0, none⟩) 1 cB', .slice (some ⟨C3, 0, none⟩) 1 cap3, .slice none 0 0] 46 (0, 0)) from by rw [← hX]; exact (heap_alloc_old _ _ (by simpa using ql3)).trans Q5.out)
    have IX := hid (show X.heap[w3.heap.size]? = some (.cells #[.int .i64 0, .int .i64 1] 72 (0, 0)) from by
      rw [← hX]
      have h := heap_alloc_new (((((w3.setCell ⟨w2.heap.size, 0, none⟩ (.int .i64 gs)).setCell ⟨w2.heap.size, 1, none⟩ (.slice (some ⟨A, 0, none⟩) 1 cA')).setCell ⟨w2.heap.size, 2, none⟩ (.slice (some ⟨B, 0, none⟩) 1 cB')).setCell ⟨w2.heap.size, 3, none⟩ (.slice (some ⟨C3, 0, none⟩) 1 cap3)).setCell ⟨w2.heap.size, 4, none⟩ (.slice none 0 0)) (.cells #[.int .i64 0, .int .i64 1] 72 (0, 0))
      rw [show (((((w3.setCell ⟨w2.heap.size, 0, none⟩ (.int .i64 gs)).setCell ⟨w2.heap.size, 1, none⟩ (.slice (some ⟨A, 0, none⟩) 1 cA')).setCell ⟨w2.heap.size, 2, none⟩ (.slice (some ⟨B, 0, none⟩) 1 cB')).setCell ⟨w2.heap.size, 3, none⟩ (.slice (some ⟨C3, 0, none⟩) 1 cap3)).setCell ⟨w2.heap.size, 4, none⟩ (.slice none 0 0)).heap.size = w3.heap.size by simp] at h
      exact h)
    obtain ⟨ca, hca⟩ : ∃ ca : Array Value, #[.int .i64 f.b, .int .i64 0, .int .i64 0, .int .i64 0, .int .i64 0, .int .i64 0, .int .i64 0, .int .i64 0, .int .i64 0, .int .i64 0, .int .i64 0, .int .i64 0, .int .i64 0, .int .i64 0, .int .i64 0, .int .i64 0, .int .i64 0, .slice none 0 0] = ca := ⟨_, rfl⟩
    have hcv : ctx0 f.b = .agg ca := by rw [← hca]; rfl
    obtain ⟨cl, hcl⟩ : ∃ cl, ca.toList = cl := ⟨_, rfl⟩
    have hsz : ca.size = 18 := by rw [← hca]; rfl
    have BW : Hid (∀ u, RdP u (.slice cA cn cc) (.slice fA fn fc) (.slice none 0 0) p [] → Calls Tryz.prog 58 #[.agg #[.slice cA cn cc, .slice fA fn fc, .slice none 0 0], .int .i64 0, .agg regs0] u (Ret (.tuple #[.agg ca, .int .i64 0]) E0 u)) := hid (fun u hu => by
      have := begin9_ok hu HF0.out
      rw [hcv] at this; exact this)
    have hst : ∀ (u : World) (T : Nat), FitsN 106 18 u T → (storeCells ⟨T, 0, none⟩ cl).run Tryz.prog u = .ok () (setMap u T (.cells ca 106 (0, 0))) := fun u T h => by
      rw [← hcl]; exact run_store_fits h hsz (by rw [← hca]; exact all_one (by kernel_rfl))
    have hf1 : ∀ (u : World) (T : Nat), T = u.heap.size → FitsN 106 18 (u.alloc (.cells #[.int .i64 0, .int .i64 0, .int .i64 0, .int .i64 0, .int .i64 0, .int .i64 0, .int .i64 0, .int .i64 0, .int .i64 0, .int .i64 0, .int .i64 0, .int .i64 0, .int .i64 0, .int .i64 0, .int .i64 0, .int .i64 0, .int .i64 0, .slice none 0 0] 106)) T := fun u T h => fitsN_new _ _ _ rfl u T h
    have HCA := hid hca
    clear hcv hca hX Q5 q3 qf3 tc tl F3 D3 R3 T3 Q3 GX
    refine (BW.out _ (HRP'.out _ FX.out)).mono ?_
    rintro e w4 ⟨rfl, hf4⟩
    have F4 := hid (FX.out.trans hf4)
    have D4 := hid (DX.out.fr hf4 (ne0 _))
    have R4 := hid (show FitsN 59 29 w4 (w.heap.size + 1) from by obtain ⟨old, ho, hs⟩ := RX.out; exact ⟨old, hf4.heapAt ho (ne0 _), hs⟩)
    have T4 := hid (hf4.heapAt TX.out (ne0 _))
    have Q4 := hid (hf4.heapAt QX.out (ne0 _))
    have I4 := hid (hf4.heapAt IX.out (ne0 _))
    clear hf4 FX DX RX TX QX IX
    go_upto_region 22 with fail
    generalize hY : setMap _ _ (Obj.cells ca 106 (0, 0)) = Y
    have GY := hid (show Fr E0 w4 Y from by rw [← hY]; exact (Fr.refl.alloc _).setMap _ (.inr (Nat.le_refl _)))
    have FY := hid (F4.out.trans GY.out)
    have DY := hid (D4.out.fr GY.out (ne0 _))
    have RY := hid (show FitsN 59 29 Y (w.heap.size + 1) from by obtain ⟨old, ho, hs⟩ := R4.out; exact ⟨old, GY.out.heapAt ho (ne0 _), hs⟩)
    have TY := hid (GY.out.heapAt T4.out (ne0 _))
    have QY := hid (GY.out.heapAt Q4.out (ne0 _))
    have IY := hid (GY.out.heapAt I4.out (ne0 _))
    have CY := hid (show Y.heap[w4.heap.size]? = some (.cells ca 106 (0, 0)) from by rw [← hY]; exact setMap_at (heap_alloc_new w4 _))
    have hw34 := heap_lt I4.out
    have hw24 := heap_lt Q4.out
    clear hY hst hf1 BW hcl F4 D4 R4 T4 Q4 I4 GY
    have qy := fun j => cell_of_row Y _ j _ _ _ QY.out
    have ql := heap_lt QY.out
    obtain ⟨v12, c12⟩ := DY.out.cell 12 (by decide)
    obtain ⟨v13, c13⟩ := DY.out.cell 13 (by decide)
    obtain ⟨v14, c14⟩ := DY.out.cell 14 (by decide)
    obtain ⟨v15, c15⟩ := DY.out.cell 15 (by decide)
    obtain ⟨v16, c16⟩ := DY.out.cell 16 (by decide)
    have df := DY.out.frozen
    go_upto_region 23 with fail
    generalize hZ : World.setCell _ ⟨T, 16, none⟩ _ = Z
    have GZ := hid (show Fr (fun k => k = T) Y Z from by
      rw [← hZ]
      refine Fr.setCell (p := ⟨T, 16, none⟩) ?_ _ (.inl rfl)
      refine Fr.setCell (p := ⟨T, 15, none⟩) ?_ _ (.inl rfl)
      refine Fr.setCell (p := ⟨T, 14, none⟩) ?_ _ (.inl rfl)
      refine Fr.setCell (p := ⟨T, 13, none⟩) ?_ _ (.inl rfl)
      refine Fr.setCell (p := ⟨T, 12, none⟩) ?_ _ (.inl rfl)
      exact Fr.refl)
    have DZ := hid (show DR T Z from by rw [← hZ]; exact ((((DY.out.set 12 _ rfl).set 13 _ rfl).set 14 _ rfl).set 15 _ rfl).set 16 _ rfl)
    have FZ := hid (show Fr E0 w Z from FY.out.trans' GZ.out (fun k hk => .inr (by omega)))
    have RZ := hid (show FitsN 59 29 Z (w.heap.size + 1) from by obtain ⟨old, ho, hs⟩ := RY.out; exact ⟨old, GZ.out.heapAt ho (by omega), hs⟩)
    have TZ := hid (GZ.out.heapAt TY.out (by omega))
    have IZ := hid (GZ.out.heapAt IY.out (by omega))
    have CZ := GZ.out.heapAt CY.out (by omega)
    rw [← HCA.out] at CZ
    have CZ' := hid CZ
    clear hZ CZ qy ql c12 c13 c14 c15 c16 df FY DY RY TY QY IY CY GZ
    trace "V"
    apply wp_region_lit
    refine wpList_load_row rfl 72 _ rfl w3.heap.size (by kernel_rfl) 72 _ (0, 0) _ IZ.out Tryz.underlying72 rfl (by kernel_rfl) ?_
    refine wpList_load_row rfl 106 _ rfl w4.heap.size (by kernel_rfl) 106 _ (0, 0) _ CZ'.out Tryz.underlying106 rfl (by kernel_rfl) ?_
    refine wpList_build_eq rfl 158 _ rfl (gorRow f.b) (by kernel_rfl) ?_
    refine Great.wpList_buildSliceTo rfl 41 158 1 _ rfl Z.heap.size rfl _ rfl Tryz.underlying41 (gorRow f.b) (by kernel_rfl) ?_
    refine Great.wpList_readTo rfl _ rfl (.pointer (some ⟨T, 10, none⟩)) (by kernel_rfl) ?_
    refine Great.wpList_readTo rfl _ rfl (.pointer (some ⟨T, 11, none⟩)) (by kernel_rfl) ?_
    simp only [Act.put, List.setIfInBounds_toArray, List.set_cons_zero, List.set_cons_succ]
    obtain ⟨v11, c11⟩ := DZ.out.cell 11 (by decide)
    have df := DZ.out.frozen
    have dl := DZ.out.lt
    go_wp2_with fail
    generalize hU : World.alloc _ (Obj.cells (gorRow f.b) 158 (0, 0)) = U
    have GU := hid (show Fr (fun k => k = T) Z U from by
      rw [← hU]
      refine Fr.alloc ?_ _
      refine Fr.setCell (p := ⟨T, 11, none⟩) ?_ _ (.inl rfl)
      exact Fr.refl)
    have DU := hid (show DR T U from by rw [← hU]; exact (DZ.out.set 11 _ rfl).fr (Fr.refl.alloc _) (ne0 _))
    have FU := hid (show Fr E0 w U from FZ.out.trans' GU.out (fun k hk => .inr (by omega)))
    have RU := hid (show FitsN 59 29 U (w.heap.size + 1) from by obtain ⟨old, ho, hs⟩ := RZ.out; exact ⟨old, GU.out.heapAt ho (by omega), hs⟩)
    have TU := hid (GU.out.heapAt TZ.out (by omega))
    clear hU c11 df dl DZ FZ RZ TZ IZ CZ' HCA GU
    refine (syncNew_ok _).mono ?_
    rintro e w5 ⟨sa, sb, sc, sd, rfl, hf5⟩
    have F5 := hid (FU.out.trans hf5)
    have D5 := hid (DU.out.fr hf5 (ne0 _))
    have R5 := hid (show FitsN 59 29 w5 (w.heap.size + 1) from by obtain ⟨old, ho, hs⟩ := RU.out; exact ⟨old, hf5.heapAt ho (ne0 _), hs⟩)
    have T5 := hid (hf5.heapAt TU.out (ne0 _))
    clear hf5 FU DU RU TU
    obtain ⟨v19, c19⟩ := D5.out.cell 19 (by decide)
    obtain ⟨v20, c20⟩ := D5.out.cell 20 (by decide)
    obtain ⟨v21, c21⟩ := D5.out.cell 21 (by decide)
    obtain ⟨v22, c22⟩ := D5.out.cell 22 (by decide)
    obtain ⟨v23, c23⟩ := D5.out.cell 23 (by decide)
    obtain ⟨v27, c27⟩ := D5.out.cell 27 (by decide)
    have df := D5.out.frozen
    have dl := D5.out.lt
    have dl1 : T < w5.heap.size + 1 := by omega
    have tc := fun j => cell_of_row w5 _ j _ _ _ T5.out
    have tnT : w.heap.size ≠ T := by omega
    obtain ⟨i0, hi0, hz0, hz1, hz2⟩ := info_parts infoI64
    have hm0 : ∀ u : World, (Instr.makeSlice 33 (.int .i64 (n : Int)) (.int .i64 (n : Int))).run Tryz.prog u = .ok (.slice (some ⟨u.heap.size, 0, none⟩) n n) (u.alloc (.cells (madeCells #[.int .i64 0] n) 2)) := fun u => by
      have h := run_make (P := Tryz.prog) u 33 2 i0 (.int .i64 0) Tryz.underlying33 hi0 hz0 .i64 .i64 (n : Int) (n : Int) (by omega) (Int.le_refl _) (by rw [hz2]; omega) (by omega)
      simpa [hz1, Value.cells] using h
    clear hi0 hz0 hz1 hz2
    go_upto_region 27 with fail
    generalize hN : World.alloc _ (Obj.cells (madeCells #[.int .i64 0] n) 2 (0, 0)) = N
    have GN := hid (show Fr (fun k => k = T) w5 N from by
      rw [← hN]
      refine Fr.alloc ?_ _
      refine Fr.setCell (p := ⟨T, 27, none⟩) ?_ _ (.inl rfl)
      refine Fr.setCell (p := ⟨T, 23, none⟩) ?_ _ (.inl rfl)
      refine Fr.setCell (p := ⟨T, 22, none⟩) ?_ _ (.inl rfl)
      refine Fr.setCell (p := ⟨T, 21, none⟩) ?_ _ (.inl rfl)
      refine Fr.setCell (p := ⟨T, 20, none⟩) ?_ _ (.inl rfl)
      refine Fr.setCell (p := ⟨T, 19, none⟩) ?_ _ (.inl rfl)
      exact Fr.refl)
    have DN := hid (show DR T N from by rw [← hN]; exact ((((((D5.out.set 19 _ rfl).set 20 _ rfl).set 21 _ rfl).set 22 _ rfl).set 23 _ rfl).set 27 _ rfl).fr (Fr.refl.alloc _) (ne0 _))
    have FN := hid (show Fr E0 w N from F5.out.trans' GN.out (fun k hk => .inr (by omega)))
    have RN := hid (show FitsN 59 29 N (w.heap.size + 1) from by obtain ⟨old, ho, hs⟩ := R5.out; exact ⟨old, GN.out.heapAt ho (by omega), hs⟩)
    clear hN c19 c20 c21 c22 c23 c27 df dl dl1 tc tnT hm0 GN D5 F5 R5 T5
    obtain ⟨row, hr1, hr2, hr3⟩ := DN.out
    have HR1 := hid hr1
    have HR3 := hid hr3
    have hri : (Tryz.prog.info? 59).map (·.size) = some row.size := by rw [hr2]; kernel_rfl
    have HRI := hid hri
    clear hr1 hr3 hri
    apply wp_region_lit
    refine wpList_load_row rfl 59 _ rfl T (by kernel_rfl) 59 row (0, 0) _ HR1.out Tryz.underlying59 rfl HRI.out ?_
    refine wpList_store_fits rfl 59 _ _ rfl (w.heap.size + 1) row (by kernel_rfl) (by kernel_rfl) 29 RN.out hr2 (by kernel_rfl) (one_all HR3.out) ?_
    refine Great.wpList_readTo rfl _ rfl (.int .i64 0) (by kernel_rfl) ?_
    apply wpList_nil
    simp only [Act.put, List.setIfInBounds_toArray, List.set_cons_zero, List.set_cons_succ]
    go_wp2
    exact bodyPost_ret (v := tup2 (.agg row) (.int .i64 0)) (res_row2 rfl _ _ (w.heap.size + 1) 59 row (0, 0) _ (by kernel_rfl) (setMap_fits _ RN.out) Tryz.underlying59 rfl HRI.out (by kernel_rfl)) rfl ⟨row, rfl, hr2, HR3.out, FN.out.setMap _ (.inr (by omega))⟩
end Go.Proofs.YtocepiogpeafoaaGreatDoor
