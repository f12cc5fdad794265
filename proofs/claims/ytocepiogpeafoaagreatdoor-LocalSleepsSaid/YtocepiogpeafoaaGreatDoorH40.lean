/- Words and contracts of calls that the law needs (Due): merged by wip/gen/zmerge.py. No condition but those that each theorem names. -/
import Derived.Test.YtocepiogpeafoaaGreatDoorH38
import Derived.Test.YtocepiogpeafoaaGreatDoorH39
set_option linter.unusedVariables false
/- (*local.Domain).Due where nobody is due, and where the one sleeper is: the walks. -/
namespace Go.Proofs.YtocepiogpeafoaaGreatDoor
open Go.RowKit
set_option linter.unusedVariables false
/-- the transition of a Due: of no goroutine -/
def dueRow (c : Int) : Array Value := #[.pointer none, .int .i64 0, .int .i64 0, .int .i64 0, .int .i64 0, .int .i64 0, .int .i64 0, .int .i64 0, .int .i64 0, .int .i64 0, .int .i64 0, .int .i64 0, .int .u64 0, .int .i64 (-1), .int .u64 c, .slice none 0 0, .bool false, .slice none 0 0, .slice none 0 0]
def didZ : Array Value := #[.bool false, .slice none 0 0, .slice none 0 0]
theorem kpD {V w' : World} {g ti tb : Nat} {c : Int} (h1 : V.cell? ⟨g, 15, none⟩ = some (.pointer (some ⟨ti, 0, none⟩))) (h2 : V.cell? ⟨tb, 2, none⟩ = some (.int .u64 c)) {S : Nat → Prop} (hf : Fr S V w') (hg : ¬ S g) (ht : ¬ S tb) : w'.cell? ⟨g, 15, none⟩ = some (.pointer (some ⟨ti, 0, none⟩)) ∧ w'.cell? ⟨tb, 2, none⟩ = some (.int .u64 c) := ⟨hf.cell h1 hg, hf.cell h2 ht⟩
set_option maxRecDepth 20000 in
set_option maxHeartbeats 40000000 in
theorem due_nobody {w : World} {g ti : Nat} {c : Int} (g15 : w.cell? ⟨g, 15, none⟩ = some (.pointer (some ⟨ti, 0, none⟩)))
    (TD : ∀ u, Fr E0 w u → Calls Tryz.prog 24 #[.pointer (some ⟨ti, 0, none⟩), .int .u64 c] u (Ret (.slice none 0 0) E0 u)) :
    Calls Tryz.prog 10 #[.pointer (some ⟨g, 0, none⟩), .agg #[.int .u64 0, .int .i64 (-1), .int .u64 c]] w (Ret (.agg didZ) E0 w) := by
  have T := hid TD
  have G := hid g15
  clear TD g15
  go_enter Tryz.func10, Tryz.ntmps10
  go_upto_region 1 with fail
  generalize hW : World.alloc _ _ = W
  have F0 := hid (show Fr E0 w W from by rw [← hW]; exact (Fr.refl.alloc _).alloc _)
  have T3 := hid (show W.heap[w.heap.size]? = some (.cells #[.int .u64 0, .int .i64 (-1), .int .u64 c] 65 (0, 0)) from by rw [← hW]; exact heap_alloc2_old w _ _)
  have T4 := hid (show W.heap[w.heap.size + 1]? = some (.cells didZ 69 (0, 0)) from by rw [← hW]; exact heap_alloc2_new w _ _)
  have hws : w.heap.size + 1 + 1 = W.heap.size := by rw [← hW]; simp
  clear hW
  apply wp_region_lit
  refine wpList_load_row rfl 65 _ rfl w.heap.size (by kernel_rfl) 65 _ (0, 0) _ T3.out Tryz.underlying65 rfl (by kernel_rfl) ?_
  refine wpList_build_eq rfl 120 _ rfl (dueRow c) (by kernel_rfl) ?_
  refine Great.wpList_allocTo rfl _ rfl (.pointer (some ⟨W.heap.size, 0, none⟩)) (.cells (dueRow c) 120) (by kernel_rfl) ?_
  refine Great.wpList_readTo rfl _ rfl (.pointer (some ⟨W.heap.size, 0, none⟩)) (by kernel_rfl) ?_
  apply wpList_nil
  simp only [Act.put, List.setIfInBounds_toArray, List.set_cons_zero, List.set_cons_succ]
  go_upto_region 2 with fail
  generalize hV : World.alloc _ _ = V
  have FV := hid (show Fr E0 w V from by rw [← hV]; exact F0.out.alloc _)
  have OV := hid (show V.heap[W.heap.size]? = some (.cells (dueRow c) 120 (0, 0)) from by rw [← hV]; exact heap_alloc_new W _)
  have V3 := hid (show V.heap[w.heap.size]? = some (.cells #[.int .u64 0, .int .i64 (-1), .int .u64 c] 65 (0, 0)) from by rw [← hV]; exact (heap_alloc_old W _ (heap_lt T3.out)).trans T3.out)
  have V4 := hid (show V.heap[w.heap.size + 1]? = some (.cells didZ 69 (0, 0)) from by rw [← hV]; exact (heap_alloc_old W _ (heap_lt T4.out)).trans T4.out)
  clear hV T3 T4
  have GV := hid (FV.out.cell G.out (ne0 _))
  have C2 := hid (cell_of_row V w.heap.size 2 _ _ _ V3.out)
  have K0 := hid (show V.cell? ⟨g, 15, none⟩ = some (.pointer (some ⟨ti, 0, none⟩)) ∧ V.cell? ⟨w.heap.size, 2, none⟩ = some (.int .u64 c) from ⟨GV.out, C2.out⟩)
  go_region_held3 (fun w' => w'.cell? ⟨g, 15, none⟩ = some (.pointer (some ⟨ti, 0, none⟩)) ∧ w'.cell? ⟨w.heap.size, 2, none⟩ = some (.int .u64 c))
    (first | exact K0.out | exact K1.out)
    (first | (go_at_call 24; refine (T.out V.drew FV.out.drew).mono ?_; rintro e w1 ⟨rfl, hF⟩; have F1 := hid (show Fr E0 V w1 from Fr.refl.drew.trans hF); have K1 := hid (kpD GV.out C2.out F1.out (ne0 _) (ne0 _)); clear hF))
  all_goals
    clear ‹_ ∧ _›
    have O1 := hid (F1.out.heapAt OV.out (ne0 _))
    have D1 := hid (F1.out.heapAt V4.out (ne0 _))
    have o16 : w1.cell? ⟨W.heap.size, 16, none⟩ = some (.bool false) := cell_of_row w1 _ 16 _ _ _ O1.out
    have o17 : w1.cell? ⟨W.heap.size, 17, none⟩ = some (.slice none 0 0) := cell_of_row w1 _ 17 _ _ _ O1.out
    have o18 : w1.cell? ⟨W.heap.size, 18, none⟩ = some (.slice none 0 0) := cell_of_row w1 _ 18 _ _ _ O1.out
    have dc : ∀ j, w1.cell? ⟨w.heap.size + 1, j, none⟩ = didZ[j]? := fun j => cell_of_row w1 _ j _ _ _ D1.out
    have d0 : w1.cell? ⟨w.heap.size + 1, 0, none⟩ = some (.bool false) := dc 0
    have d1 : w1.cell? ⟨w.heap.size + 1, 1, none⟩ = some (.slice none 0 0) := dc 1
    have d2 : w1.cell? ⟨w.heap.size + 1, 2, none⟩ = some (.slice none 0 0) := dc 2
    have e0 := setCell_id d0
    have e1 := setCell_id d1
    have e2 := setCell_id d2
    have df := fun j => frozen_of_row w1 _ j _ _ D1.out
    clear dc
    go_wp2_with fail
    refine wp_loop_rounds 1 ?_
    rw [rounds_succ]
    go_wp2
    exact bodyPost_ret (v := .agg didZ) (results_cell_row rfl _ _ (w.heap.size + 1) 69 _ (0, 0) _ (by kernel_rfl) D1.out Tryz.underlying69 rfl (by kernel_rfl)) rfl
      ⟨rfl, FV.out.trans F1.out⟩
theorem TimOne.fr {l : Int} {g h m a b c : Nat} {when : Int} {w w' : World} (t : TimOne l g h m a b c when w) (hf : Fr E0 w w') : TimOne l g h m a b c when w' := by
  obtain ⟨x, cp, r, hh⟩ := t.heap
  exact ⟨hf.heapAt t.obj (ne0 _), ⟨x, cp, r, hf.heapAt hh.obj (ne0 _), hf.heapAt hh.row (ne0 _), hf.heapAt hh.map (ne0 _)⟩, hf.heapAt t.ids (ne0 _), hf.heapAt t.own (ne0 _), hf.heapAt t.gs (ne0 _)⟩
def DueHitPost (g m x h pm ids own gsm : Nat) (w : World) (e : Ending) (w' : World) : Prop := ∃ a ca b cb r, e = .returned (.agg #[.bool false, .slice (some ⟨a, 0, none⟩) 1 ca, .slice (some ⟨b, 0, none⟩) 1 cb]) ∧ w'.heap[a]? = some (.cells (#[.int .i64 0, .int .i64 1, .int .u64 1, .bool false] ++ r) 80 (0, 0)) ∧ w.heap.size ≤ a ∧
  OneG g m x w' ∧ StG x 1 w' ∧ Fr (fun k => k = g ∨ k = x ∨ k = h ∨ k = pm ∨ k = ids ∨ k = own ∨ k = gsm) w w'
set_option maxRecDepth 20000 in
set_option maxHeartbeats 40000000 in
theorem due_hit {w : World} {l : Int} {g m x ti h pm ids own gsm : Nat} {when c : Int} {dr xr : Array Value} (hg : w.heap[g]? = some (.cells dr 98 (0, 0))) (hd15 : dr[15]? = some (.pointer (some ⟨ti, 0, none⟩))) (hd17 : dr[17]? = some (.int .u64 1)) (hd10 : dr[10]? = some (.map (some m)))
    (hx : w.heap[x]? = some (.cells xr 110 (0, 0))) (hx0 : xr[0]? = some (.int .i64 0)) (hx1 : xr[1]? = some (.int .i64 1)) (hxs : xr.size = 26) (hm : w.heap[m]? = some (.map #[⟨.int .i64 0, .pointer (some ⟨x, 0, none⟩), 0⟩] 1)) (ht : TimOne l ti h pm ids own gsm when w) (hle : when ≤ c) :
    Calls Tryz.prog 10 #[.pointer (some ⟨g, 0, none⟩), .agg #[.int .u64 0, .int .i64 (-1), .int .u64 c]] w (DueHitPost g m x h pm ids own gsm w) := by
  have TD := hid (fun u (hu : Fr E0 w u) => tdue_hit (ht.fr hu) hle)
  have hg15 : w.cell? ⟨g, 15, none⟩ = some (.pointer (some ⟨ti, 0, none⟩)) := by rw [cell_of_row w g 15 _ _ _ hg]; exact hd15
  have G := hid hg15
  obtain ⟨ar, acp, rr, hho⟩ := ht.heap
  have keyne : ∀ {a b : Nat} {ea eb : Array MapEntry} {ca cb : Nat}, w.heap[a]? = some (.map ea ca) → w.heap[b]? = some (.map eb cb) → (ea.toList.map (·.val)) ≠ (eb.toList.map (·.val)) → a ≠ b := by
    intro a b ea eb ca cb h1 h2 h3 e
    subst e
    rw [h1] at h2
    injection h2 with h2
    injection h2 with h2 _
    exact h3 (by rw [h2])
  have NS : Hid (∀ k, (k = h ∨ k = pm ∨ k = ids ∨ k = own ∨ k = gsm) → k ≠ g ∧ k ≠ x ∧ k ≠ m ∧ k < w.heap.size) := hid (by
    intro k hk
    rcases hk with rfl | rfl | rfl | rfl | rfl
    · exact ⟨cells_ne hho.obj hg (by decide), cells_ne hho.obj hx (by decide), fun e => map_ne hm hho.obj e.symm, heap_lt hho.obj⟩
    · exact ⟨map_ne hho.map hg, map_ne hho.map hx, keyne hho.map hm (by simp), heap_lt hho.map⟩
    · exact ⟨map_ne ht.ids hg, map_ne ht.ids hx, keyne ht.ids hm (by simp), heap_lt ht.ids⟩
    · exact ⟨map_ne ht.own hg, map_ne ht.own hx, keyne ht.own hm (by simp), heap_lt ht.own⟩
    · exact ⟨map_ne ht.gs hg, map_ne ht.gs hx, keyne ht.gs hm (by simp), heap_lt ht.gs⟩)
  have HG := hid hg
  have HX := hid hx
  have HM := hid hm
  have D := hid (And.intro hd10 (And.intro hd17 (And.intro hx0 (And.intro hx1 (And.intro hxs (And.intro (map_ne hm hg) (And.intro (map_ne hm hx) (And.intro (cells_ne hx hg (by decide)) (And.intro (heap_lt hg) (And.intro (heap_lt hx) (heap_lt hm)))))))))))
  clear keyne hho ht hg15 hg hd15 hd17 hd10 hx hx0 hx1 hxs hm hle
  go_enter Tryz.func10, Tryz.ntmps10
  go_upto_region 1 with fail
  generalize hW : World.alloc _ _ = W
  have F0 := hid (show Fr E0 w W from by rw [← hW]; exact (Fr.refl.alloc _).alloc _)
  have T3 := hid (show W.heap[w.heap.size]? = some (.cells #[.int .u64 0, .int .i64 (-1), .int .u64 c] 65 (0, 0)) from by rw [← hW]; exact heap_alloc2_old w _ _)
  have T4 := hid (show W.heap[w.heap.size + 1]? = some (.cells didZ 69 (0, 0)) from by rw [← hW]; exact heap_alloc2_new w _ _)
  have hws : w.heap.size + 1 + 1 = W.heap.size := by rw [← hW]; simp
  clear hW
  apply wp_region_lit
  refine wpList_load_row rfl 65 _ rfl w.heap.size (by kernel_rfl) 65 _ (0, 0) _ T3.out Tryz.underlying65 rfl (by kernel_rfl) ?_
  refine wpList_build_eq rfl 120 _ rfl (dueRow c) (by kernel_rfl) ?_
  refine Great.wpList_allocTo rfl _ rfl (.pointer (some ⟨W.heap.size, 0, none⟩)) (.cells (dueRow c) 120) (by kernel_rfl) ?_
  refine Great.wpList_readTo rfl _ rfl (.pointer (some ⟨W.heap.size, 0, none⟩)) (by kernel_rfl) ?_
  apply wpList_nil
  simp only [Act.put, List.setIfInBounds_toArray, List.set_cons_zero, List.set_cons_succ]
  go_upto_region 2 with fail
  generalize hV : World.alloc _ _ = V
  have FV := hid (show Fr E0 w V from by rw [← hV]; exact F0.out.alloc _)
  have OV := hid (show V.heap[W.heap.size]? = some (.cells (dueRow c) 120 (0, 0)) from by rw [← hV]; exact heap_alloc_new W _)
  have V3 := hid (show V.heap[w.heap.size]? = some (.cells #[.int .u64 0, .int .i64 (-1), .int .u64 c] 65 (0, 0)) from by rw [← hV]; exact (heap_alloc_old W _ (heap_lt T3.out)).trans T3.out)
  have V4 := hid (show V.heap[w.heap.size + 1]? = some (.cells didZ 69 (0, 0)) from by rw [← hV]; exact (heap_alloc_old W _ (heap_lt T4.out)).trans T4.out)
  clear hV T3 T4
  have GV := hid (FV.out.cell G.out (ne0 _))
  have C2 := hid (cell_of_row V w.heap.size 2 _ _ _ V3.out)
  have K0 := hid (show V.cell? ⟨g, 15, none⟩ = some (.pointer (some ⟨ti, 0, none⟩)) ∧ V.cell? ⟨w.heap.size, 2, none⟩ = some (.int .u64 c) from ⟨GV.out, C2.out⟩)
  have hvl : w.heap.size < V.heap.size := heap_lt V3.out
  go_region_held3 (fun w' => w'.cell? ⟨g, 15, none⟩ = some (.pointer (some ⟨ti, 0, none⟩)) ∧ w'.cell? ⟨w.heap.size, 2, none⟩ = some (.int .u64 c))
    (first | exact K0.out | exact K1.out)
    (first | (go_at_call 24; refine (TD.out V.drew FV.out.drew).mono ?_; rintro e w1 ⟨tb, tcp, tr, rfl, hT, hTb, hF⟩; have F1 := hid (show Fr (fun k => k = h ∨ k = pm ∨ k = ids ∨ k = own ∨ k = gsm) V w1 from Fr.refl.drew.trans hF); have TR := hid hT; have TB := hid (show V.heap.size ≤ tb from hTb); have K1 := hid (kpD GV.out C2.out F1.out (by intro e; exact (NS.out _ e).1 rfl) (by intro e; have := (NS.out _ e).2.2.2; omega)); clear hF hT hTb))
  all_goals
    clear ‹_ ∧ _›
    have ns := NS.out
    have F2 := hid (show Fr (fun k => k = g ∨ k = x ∨ k = h ∨ k = pm ∨ k = ids ∨ k = own ∨ k = gsm) w w1 from FV.out.e0.trans (F1.out.mono (fun k hk => .inr (.inr hk))))
    have O1 := hid (F1.out.heapAt OV.out (by intro e; have := (ns _ e).2.2.2; have := hws; omega))
    have D1 := hid (F1.out.heapAt V4.out (by intro e; have := (ns _ e).2.2.2; omega))
    have G1 := hid (F1.out.heapAt (FV.out.heapAt HG.out (ne0 _)) (by intro e; exact (ns _ e).1 rfl))
    have X1 := hid (F1.out.heapAt (FV.out.heapAt HX.out (ne0 _)) (by intro e; exact (ns _ e).2.1 rfl))
    have M1 := hid (F1.out.heapAt (FV.out.heapAt HM.out (ne0 _)) (by intro e; exact (ns _ e).2.2.1 rfl))
    have hv1 : V.heap.size ≤ w1.heap.size := F1.out.size
    clear ns F1 FV GV C2 K0 K1
    have r0 : w1.cell? ⟨tb, 0, none⟩ = some (.int .i64 1) := (cell_of_row w1 tb 0 _ _ _ TR.out).trans (tm_get when tr 0 (by decide))
    have r1 : w1.cell? ⟨tb, 1, none⟩ = some (.int .i64 1) := (cell_of_row w1 tb 1 _ _ _ TR.out).trans (tm_get when tr 1 (by decide))
    have r2 : w1.cell? ⟨tb, 2, none⟩ = some (.int .i64 0) := (cell_of_row w1 tb 2 _ _ _ TR.out).trans (tm_get when tr 2 (by decide))
    have r3 : w1.cell? ⟨tb, 3, none⟩ = some (.int .i64 1) := (cell_of_row w1 tb 3 _ _ _ TR.out).trans (tm_get when tr 3 (by decide))
    have r4 : w1.cell? ⟨tb, 4, none⟩ = some (.int .i64 0) := (cell_of_row w1 tb 4 _ _ _ TR.out).trans (tm_get when tr 4 (by decide))
    have r5 : w1.cell? ⟨tb, 5, none⟩ = some (.int .u64 when) := (cell_of_row w1 tb 5 _ _ _ TR.out).trans (tm_get when tr 5 (by decide))
    have r6 : w1.cell? ⟨tb, 6, none⟩ = some (.bool false) := (cell_of_row w1 tb 6 _ _ _ TR.out).trans (tm_get when tr 6 (by decide))
    have r7 : w1.cell? ⟨tb, 7, none⟩ = some (.int .u64 0) := (cell_of_row w1 tb 7 _ _ _ TR.out).trans (tm_get when tr 7 (by decide))
    have rl : tb < w1.heap.size := heap_lt TR.out
    have rl1 : tb < w1.heap.size + 1 := by omega
    go_wp2_with fail
    refine wp_loop_rounds 2 ?_
    rw [rounds_succ]
    go_upto_region 5 with fail
    clear r0 r1 r2 r3 r4 r5 r6 r7 rl rl1
    generalize hU : World.alloc _ _ = U
    have FU := hid (show Fr E0 w1 U from by rw [← hU]; exact Fr.refl.alloc _)
    have BU := hid (show U.heap[w1.heap.size]? = some (.cells (tmC when) 133 (0, 0)) from by rw [← hU]; exact heap_alloc_new w1 _)
    clear hU
    have OU := hid (FU.out.heapAt O1.out (ne0 _))
    have DU := hid (FU.out.heapAt D1.out (ne0 _))
    have GU := hid (FU.out.heapAt G1.out (ne0 _))
    have XU := hid (FU.out.heapAt X1.out (ne0 _))
    have MU := hid (FU.out.heapAt M1.out (ne0 _))
    have b1 : U.cell? ⟨w1.heap.size, 1, none⟩ = some (.int .i64 1) := cell_of_row U _ 1 _ _ _ BU.out
    have b2 : U.cell? ⟨w1.heap.size, 2, none⟩ = some (.int .i64 0) := cell_of_row U _ 2 _ _ _ BU.out
    have b3 : U.cell? ⟨w1.heap.size, 3, none⟩ = some (.int .i64 1) := cell_of_row U _ 3 _ _ _ BU.out
    go_wp2_with fail
    refine (find_ok' (w := U) (g := g) (m := m) (x := x) ⟨by rw [cell_of_row U g 10 _ _ _ GU.out]; exact D.out.1, MU.out, by rw [cell_of_row U x 0 _ _ _ XU.out]; exact D.out.2.2.1, by rw [cell_of_row U x 1 _ _ _ XU.out]; exact D.out.2.2.2.1⟩).mono ?_
    rintro e w2 ⟨rfl, hf2⟩
    have Q2 := hid hf2
    clear hf2 b1 b2 b3
    simp only [tup2]
    go_wp2_with fail
    refine (ready_ok (w := w2) (tk := 0) (pr := -1) (Q2.out.heapAt GU.out (ne0 _)) D.out.2.1 (Q2.out.heapAt OU.out (ne0 _)) rfl rfl rfl rfl rfl rfl (Q2.out.heapAt XU.out (ne0 _)) D.out.2.2.1 D.out.2.2.2.1 D.out.2.2.2.2.1).mono ?_
    rintro e w3 ⟨a, ca, b, cb, rz, rfl, hO, hA, hal, hSt, hc0, hc1, hGr, hF⟩
    have O3 := hid hO
    have A3 := hid hA
    have P3 := hid (And.intro hal (And.intro hSt (And.intro hc0 (And.intro hc1 hGr))))
    have F3 := hid hF
    clear hO hA hal hSt hc0 hc1 hGr hF
    have d := D.out
    have D3 := hid (F3.out.heapAt (Q2.out.heapAt DU.out (ne0 _)) (by omega))
    have M3 := hid (F3.out.heapAt (Q2.out.heapAt MU.out (ne0 _)) (by omega))
    have fq := FU.out.size
    have fr := Q2.out.size
    have o16 : w3.cell? ⟨W.heap.size, 16, none⟩ = some (.bool false) := cell_of_row w3 _ 16 _ _ _ O3.out
    have o17 : w3.cell? ⟨W.heap.size, 17, none⟩ = some (.slice (some ⟨a, 0, none⟩) 1 ca) := cell_of_row w3 _ 17 _ _ _ O3.out
    have o18 : w3.cell? ⟨W.heap.size, 18, none⟩ = some (.slice (some ⟨b, 0, none⟩) 1 cb) := cell_of_row w3 _ 18 _ _ _ O3.out
    have dc := fun j => cell_of_row w3 _ j _ _ _ D3.out
    have d0 : w3.cell? ⟨w.heap.size + 1, 0, none⟩ = some (.bool false) := dc 0
    have d1 : w3.cell? ⟨w.heap.size + 1, 1, none⟩ = some (.slice none 0 0) := dc 1
    have d2 : w3.cell? ⟨w.heap.size + 1, 2, none⟩ = some (.slice none 0 0) := dc 2
    have df := fun j => frozen_of_row w3 _ j _ _ D3.out
    have no : W.heap.size ≠ w.heap.size + 1 := by omega
    clear dc
    go_wp2_with fail
    rw [rounds_succ]
    go_wp2
    have HZ := hid (heap_set3 D3.out (.bool false) (.slice (some ⟨a, 0, none⟩) 1 ca) (.slice (some ⟨b, 0, none⟩) 1 cb))
    have FZ := hid (show Fr (fun k => k = w.heap.size + 1) w3 (((w3.setCell ⟨w.heap.size + 1, 0, none⟩ (.bool false)).setCell ⟨w.heap.size + 1, 1, none⟩ (.slice (some ⟨a, 0, none⟩) 1 ca)).setCell ⟨w.heap.size + 1, 2, none⟩ (.slice (some ⟨b, 0, none⟩) 1 cb)) from by
      repeat (with_reducible first | exact Fr.refl | refine Fr.setCell ?_ _ (.inl rfl)))
    generalize ((w3.setCell ⟨w.heap.size + 1, 0, none⟩ (.bool false)).setCell ⟨w.heap.size + 1, 1, none⟩ (.slice (some ⟨a, 0, none⟩) 1 ca)).setCell ⟨w.heap.size + 1, 2, none⟩ (.slice (some ⟨b, 0, none⟩) 1 cb) = Z at *
    have p3 := P3.out
    have hal := p3.1
    have hdl : w.heap.size + 1 < w1.heap.size := heap_lt D1.out
    have hx3 : x < w3.heap.size := World.block_lt_of_cell? w3 _ p3.2.2.1
    have hwu := FU.out.size
    have hwq := Q2.out.size
    exact bodyPost_ret (v := .agg #[.bool false, .slice (some ⟨a, 0, none⟩) 1 ca, .slice (some ⟨b, 0, none⟩) 1 cb]) (results_cell_row rfl _ _ (w.heap.size + 1) 69 _ (0, 0) _ (by kernel_rfl) HZ.out Tryz.underlying69 rfl (by kernel_rfl)) rfl
      ⟨a, ca, b, cb, rz, rfl, FZ.out.heapAt A3.out (by omega), by omega,
        ⟨FZ.out.cell (by rw [cell_of_row w3 g 10 _ _ _ p3.2.2.2.2, Array.getElem?_setIfInBounds_ne (by decide)]; exact d.1) (by omega), FZ.out.heapAt M3.out (by omega), FZ.out.cell p3.2.2.1 (by omega), FZ.out.cell p3.2.2.2.1 (by omega)⟩,
        ⟨FZ.out.cell p3.2.1.1 (by omega), (World.frozen?_of_block (FZ.out.block x hx3 (by omega))).trans p3.2.1.2⟩,
        ((F2.out.trans (FU.out.trans Q2.out).e0).trans' F3.out (fun k hk => by rcases hk with rfl | rfl | rfl; exact .inr (by omega); exact .inl (.inr (.inl rfl)); exact .inl (.inl rfl))).trans' FZ.out (fun k hk => by rcases hk with rfl; exact .inr (by omega))⟩
end Go.Proofs.YtocepiogpeafoaaGreatDoor
