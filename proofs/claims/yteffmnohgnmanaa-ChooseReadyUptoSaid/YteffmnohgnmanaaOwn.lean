/- channel.own: a channel of its own. -/
import Derived.Test.YteffmnohgnmanaaClone
import Derived.Deep.DrawnRows
namespace Go.Proofs.Yteffmnohgnmanaa
open Go.RowKit
attribute [local go_sem ↓] Go.wp_at_zero Go.wp_at_succ
def OwnPost (m : CM) (w : World) (e : Ending) (w' : World) : Prop := ∃ m' : CM, e = .returned m'.val ∧ m'.ch = m.ch ∧ m'.Own w' (New w) ∧ m'.blocks.Nodup ∧ Fr E0 w w'
/-- A channel's sizes are such that its lists can be made anew. -/
def Ch.Fit (c : Ch) : Prop := c.vals.length * 8 ≤ 140737488355328 ∧ c.snd.length * 32 ≤ 140737488355328 ∧ c.rcv.length * 32 ≤ 140737488355328
theorem keepO {w W w' : World} {B : Nat} {a b c d e : Value} (h : Fr E0 w W ∧ W.cell? ⟨B, 0, none⟩ = some a ∧ W.cell? ⟨B, 1, none⟩ = some b ∧ W.cell? ⟨B, 2, none⟩ = some c ∧ W.cell? ⟨B, 3, none⟩ = some d ∧ W.cell? ⟨B, 4, none⟩ = some e) (hf : Fr E0 W w') :
    Fr E0 w w' ∧ w'.cell? ⟨B, 0, none⟩ = some a ∧ w'.cell? ⟨B, 1, none⟩ = some b ∧ w'.cell? ⟨B, 2, none⟩ = some c ∧ w'.cell? ⟨B, 3, none⟩ = some d ∧ w'.cell? ⟨B, 4, none⟩ = some e :=
  ⟨h.1.trans hf, hf.cell h.2.1 (fun x => x), hf.cell h.2.2.1 (fun x => x), hf.cell h.2.2.2.1 (fun x => x), hf.cell h.2.2.2.2.1 (fun x => x), hf.cell h.2.2.2.2.2 (fun x => x)⟩
theorem keepS {w W : World} {a b c d e : Value} {T : Addr} {u : Value} (hT : T.block = w.heap.size + 1) (h : Fr E0 w W ∧ W.cell? ⟨w.heap.size, 0, none⟩ = some a ∧ W.cell? ⟨w.heap.size, 1, none⟩ = some b ∧ W.cell? ⟨w.heap.size, 2, none⟩ = some c ∧ W.cell? ⟨w.heap.size, 3, none⟩ = some d ∧ W.cell? ⟨w.heap.size, 4, none⟩ = some e) :
    Fr E0 w (W.setCell T u) ∧ (W.setCell T u).cell? ⟨w.heap.size, 0, none⟩ = some a ∧ (W.setCell T u).cell? ⟨w.heap.size, 1, none⟩ = some b ∧ (W.setCell T u).cell? ⟨w.heap.size, 2, none⟩ = some c ∧ (W.setCell T u).cell? ⟨w.heap.size, 3, none⟩ = some d ∧ (W.setCell T u).cell? ⟨w.heap.size, 4, none⟩ = some e := by
  have hx : ∀ j, (W.setCell T u).cell? ⟨w.heap.size, j, none⟩ = W.cell? ⟨w.heap.size, j, none⟩ := fun j => World.cell?_of_block (w := W) (heap_setCell_other _ _ _ _ (by rw [hT]; simp))
  exact ⟨h.1.setCell _ (.inr (by omega)), (hx 0).trans h.2.1, (hx 1).trans h.2.2.1, (hx 2).trans h.2.2.2.1, (hx 3).trans h.2.2.2.2.1, (hx 4).trans h.2.2.2.2.2⟩
theorem cells5 {w : World} {B : Nat} {x0 x1 x2 x3 x4 : Value} {t : TypeId} (h : w.heap[B]? = some (.cells #[x0, x1, x2, x3, x4] t (0, 0))) (a b c d e : Value) :
    (((((w.setCell ⟨B, 0, none⟩ a).setCell ⟨B, 1, none⟩ b).setCell ⟨B, 2, none⟩ c).setCell ⟨B, 3, none⟩ d).setCell ⟨B, 4, none⟩ e).heap[B]? = some (.cells #[a, b, c, d, e] t (0, 0)) := by
  have h1 := heap_setCell_same w B 0 _ t a h
  have h2 := heap_setCell_same _ B 1 _ t b h1
  have h3 := heap_setCell_same _ B 2 _ t c h2
  have h4 := heap_setCell_same _ B 3 _ t d h3
  exact heap_setCell_same _ B 4 _ t e h4
theorem far5 {w : World} {B k : Nat} (hk : k ≠ B) (a b c d e : Value) :
    (((((w.setCell ⟨B, 0, none⟩ a).setCell ⟨B, 1, none⟩ b).setCell ⟨B, 2, none⟩ c).setCell ⟨B, 3, none⟩ d).setCell ⟨B, 4, none⟩ e).heap[k]? = w.heap[k]? := by
  rw [heap_setCell_other _ _ _ _ hk, heap_setCell_other _ _ _ _ hk, heap_setCell_other _ _ _ _ hk, heap_setCell_other _ _ _ _ hk, heap_setCell_other _ _ _ _ hk]
/-- Three rows, made one behind the other, and a block that was there already written: a channel of its own. -/
theorem ownMade {w W w1 w2 w3 : World} {ch : Ch} {v1 v2 v3 : Value} (hW : w.heap.size + 2 ≤ W.heap.size) (r1 : RowF w1 (New W) 2 1 v1 (ints ch.vals)) (g2 : Fr E0 w1 w2) (r2 : RowF w2 (New w1) 114 4 v2 (wts ch.snd)) (g3 : Fr E0 w2 w3)
    (r3 : RowF w3 (New w2) 114 4 v3 (wts ch.rcv)) (g1 : W.heap.size ≤ w1.heap.size) (a b c d e : Value) :
    CM.Own (((((w3.setCell ⟨w.heap.size + 1, 0, none⟩ a).setCell ⟨w.heap.size + 1, 1, none⟩ b).setCell ⟨w.heap.size + 1, 2, none⟩ c).setCell ⟨w.heap.size + 1, 3, none⟩ d).setCell ⟨w.heap.size + 1, 4, none⟩ e) (New w) ⟨ch, v1, v2, v3⟩ ∧ (CM.blocks ⟨ch, v1, v2, v3⟩).Nodup := by
  have s1 := g2.size
  have s2 := g3.size
  have n1 : ∀ g, v1.ownBlock = some g → W.heap.size ≤ g ∧ g < w1.heap.size := fun g hg => ⟨r1.2 g hg, r1.lt hg⟩
  have n2 : ∀ g, v2.ownBlock = some g → w1.heap.size ≤ g ∧ g < w2.heap.size := fun g hg => ⟨r2.2 g hg, r2.lt hg⟩
  have n3 : ∀ g, v3.ownBlock = some g → w2.heap.size ≤ g ∧ g < w3.heap.size := fun g hg => ⟨r3.2 g hg, r3.lt hg⟩
  refine ⟨⟨?_, ?_, ?_⟩, ?_⟩
  · exact (((r1.fr g2 (fun _ _ x => x)).fr g3 (fun _ _ x => x)).same (fun g hg => far5 (by have := n1 g hg; omega) a b c d e)).mono (fun g hg => by unfold New at *; omega)
  · exact ((r2.fr g3 (fun _ _ x => x)).same (fun g hg => far5 (by have := n2 g hg; omega) a b c d e)).mono (fun g hg => by unfold New at *; omega)
  · exact (r3.same (fun g hg => far5 (by have := n3 g hg; omega) a b c d e)).mono (fun g hg => by unfold New at *; omega)
  · simp only [CM.blocks]
    cases h1 : v1.ownBlock <;> cases h2 : v2.ownBlock <;> cases h3 : v3.ownBlock <;> simp <;>
      (try have := n1 _ h1) <;> (try have := n2 _ h2) <;> (try have := n3 _ h3) <;> omega
set_option maxHeartbeats 1000000 in
theorem own_ok (m : CM) (w : World) (hm : m.Rd w) (hf : m.ch.Fit) : Calls Try.prog 69 #[m.val] w (OwnPost m w) := by
  obtain ⟨ch, vv, sv, rv⟩ := m
  have H1 := hid hm.vals
  have H2 := hid hm.snd
  have H3 := hid hm.rcv
  obtain ⟨hf1, hf2, hf3⟩ := hf
  simp only at *
  clear hm
  simp only [CM.val]
  go_enter Try.func69, Try.ntmps69
  go_wp2_with fail
  generalize hW : ((w.alloc (Obj.cells #[Value.int IntKind.i64 ch.cap, vv, sv, rv, Value.bool ch.cl] 67)).alloc _) = W
  have hA : Fr E0 w W := by rw [← hW]; exact (Fr.refl.alloc _).alloc _
  have c0 : W.cell? ⟨w.heap.size, 0, none⟩ = some (.int .i64 ch.cap) := by rw [← hW, World.cell?_alloc_past _ _ _ (by simp), World.cell?_alloc_at _ _ _ _ rfl]; rfl
  have c1 : W.cell? ⟨w.heap.size, 1, none⟩ = some vv := by rw [← hW, World.cell?_alloc_past _ _ _ (by simp), World.cell?_alloc_at _ _ _ _ rfl]; rfl
  have c2 : W.cell? ⟨w.heap.size, 2, none⟩ = some sv := by rw [← hW, World.cell?_alloc_past _ _ _ (by simp), World.cell?_alloc_at _ _ _ _ rfl]; rfl
  have c3 : W.cell? ⟨w.heap.size, 3, none⟩ = some rv := by rw [← hW, World.cell?_alloc_past _ _ _ (by simp), World.cell?_alloc_at _ _ _ _ rfl]; rfl
  have c4 : W.cell? ⟨w.heap.size, 4, none⟩ = some (.bool ch.cl) := by rw [← hW, World.cell?_alloc_past _ _ _ (by simp), World.cell?_alloc_at _ _ _ _ rfl]; rfl
  have hT : W.heap[w.heap.size + 1]? = some (.cells #[Value.int IntKind.i64 0, Value.slice none 0 0, Value.slice none 0 0, Value.slice none 0 0, Value.bool false] 67 (0, 0)) := by rw [← hW]; exact heap_alloc2_new w _ _
  have hws : w.heap.size + 2 = W.heap.size := by rw [← hW]; simp
  have HC := hid (And.intro (hA.drew) (And.intro c0 (And.intro c1 (And.intro c2 (And.intro c3 c4)))))
  have HT := hid hT
  clear hW c0 c1 c2 c3 c4 hT hA
  go_region_held3 (fun w' => Fr E0 w w' ∧ w'.cell? ⟨w.heap.size, 0, none⟩ = some (.int .i64 ch.cap) ∧ w'.cell? ⟨w.heap.size, 1, none⟩ = some vv ∧ w'.cell? ⟨w.heap.size, 2, none⟩ = some sv ∧ w'.cell? ⟨w.heap.size, 3, none⟩ = some rv ∧ w'.cell? ⟨w.heap.size, 4, none⟩ = some (.bool ch.cl))
    (first | exact keepS rfl (keepS rfl (keepS rfl (keepS rfl (keepS rfl hk3.out)))) | exact hk3.out | exact hk2.out | exact hk1.out | exact HC.out)
    (first
      | (go_at_call 85; refine (cloneI ch.vals vv _ (H1.out.fr (by exact (‹Fr E0 w _ ∧ _›).1)) hf1).mono ?_; rintro e w1 ⟨v1, rfl, hr1, hg1⟩; obtain ⟨A1, n1, c1, rfl⟩ := hr1.shape; have hk1 := hid (keepO (by assumption) hg1); have R1 := hid hr1; have G1 := hid hg1; clear hr1 hg1)
      | (go_at_call 86; (with_reducible refine (cloneW ch.snd sv _ (H2.out.fr (by exact (‹Fr E0 w _ ∧ _›).1)) hf2).mono ?_); rintro e w2 ⟨v2, rfl, hr2, hg2⟩; obtain ⟨A2, n2, c2, rfl⟩ := hr2.shape; have hk2 := hid (keepO (by assumption) hg2); have R2 := hid hr2; have G2 := hid hg2; clear hr2 hg2)
      | (go_at_call 86; (with_reducible refine (cloneW ch.rcv rv _ (H3.out.fr (by exact (‹Fr E0 w _ ∧ _›).1)) hf3).mono ?_); rintro e w3 ⟨v3, rfl, hr3, hg3⟩; obtain ⟨A3, n3, c3, rfl⟩ := hr3.shape; have hk3 := hid (keepO (by assumption) hg3);  have T1 := hid (G1.out.heapAt (w := W.drew) HT.out (fun x => x)); have T2 := hid (G2.out.heapAt T1.out (fun x => x)); have T3 := hid (hg3.heapAt T2.out (fun x => x)); have q0 : w3.cell? ⟨w.heap.size + 1, 0, none⟩ = some (.int .i64 0) := cell_of_row w3 _ 0 _ _ _ T3.out; have z0 : w3.frozen? ⟨w.heap.size + 1, 0, none⟩ = false := frozen_of_row w3 _ 0 _ _ T3.out; have q1 : w3.cell? ⟨w.heap.size + 1, 1, none⟩ = some (.slice none 0 0) := cell_of_row w3 _ 1 _ _ _ T3.out; have z1 : w3.frozen? ⟨w.heap.size + 1, 1, none⟩ = false := frozen_of_row w3 _ 1 _ _ T3.out; have q2 : w3.cell? ⟨w.heap.size + 1, 2, none⟩ = some (.slice none 0 0) := cell_of_row w3 _ 2 _ _ _ T3.out; have z2 : w3.frozen? ⟨w.heap.size + 1, 2, none⟩ = false := frozen_of_row w3 _ 2 _ _ T3.out; have q3 : w3.cell? ⟨w.heap.size + 1, 3, none⟩ = some (.slice none 0 0) := cell_of_row w3 _ 3 _ _ _ T3.out; have z3 : w3.frozen? ⟨w.heap.size + 1, 3, none⟩ = false := frozen_of_row w3 _ 3 _ _ T3.out; have q4 : w3.cell? ⟨w.heap.size + 1, 4, none⟩ = some (.bool false) := cell_of_row w3 _ 4 _ _ _ T3.out; have z4 : w3.frozen? ⟨w.heap.size + 1, 4, none⟩ = false := frozen_of_row w3 _ 4 _ _ T3.out; have R3 := hid hr3; have G3 := hid hg3; clear hr3 hg3))
  have TB := hid (cells5 T3.out (.int .i64 ch.cap) (.slice A1 n1 c1) (.slice A2 n2 c2) (.slice A3 n3 c3) (.bool ch.cl))
  have FF := hid (‹Fr E0 w _ ∧ _›).1
  have OW := hid (ownMade (w := w) (W := W.drew) (ch := ch) (by show w.heap.size + 2 ≤ W.heap.size; omega) R1.out G2.out R2.out G3.out R3.out G1.out.size (.int .i64 ch.cap) (.slice A1 n1 c1) (.slice A2 n2 c2) (.slice A3 n3 c3) (.bool ch.cl))
  clear ‹Fr E0 w _ ∧ _› q0 q1 q2 q3 q4 z0 z1 z2 z3 z4 HC HT hk1 hk2 hk3 T1 T2 T3 R1 R2 R3 G1 G2 G3
  generalize ((((World.setCell w3 _ _).setCell _ _).setCell _ _).setCell _ _).setCell _ _ = W5 at *
  have k0 : W5.cell? ⟨w.heap.size + 1, 0, none⟩ = some (.int .i64 ch.cap) := cell_of_row W5 _ 0 _ _ _ TB.out
  have k1 : W5.cell? ⟨w.heap.size + 1, 1, none⟩ = some (.slice A1 n1 c1) := cell_of_row W5 _ 1 _ _ _ TB.out
  have k2 : W5.cell? ⟨w.heap.size + 1, 2, none⟩ = some (.slice A2 n2 c2) := cell_of_row W5 _ 2 _ _ _ TB.out
  have k3 : W5.cell? ⟨w.heap.size + 1, 3, none⟩ = some (.slice A3 n3 c3) := cell_of_row W5 _ 3 _ _ _ TB.out
  have k4 : W5.cell? ⟨w.heap.size + 1, 4, none⟩ = some (.bool ch.cl) := cell_of_row W5 _ 4 _ _ _ TB.out
  go_wp2
  exact bodyPost_ret (v := .agg #[.int .i64 ch.cap, .slice A1 n1 c1, .slice A2 n2 c2, .slice A3 n3 c3, .bool ch.cl]) (by simp [results, Try.results69, go_sem, k0, k1, k2, k3, k4]) rfl ⟨⟨ch, _, _, _⟩, rfl, rfl, OW.out.1, OW.out.2, FF.out⟩
end Go.Proofs.Yteffmnohgnmanaa
