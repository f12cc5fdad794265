/- rotalaw11.lives: the program's channel of one tells what it was sent. -/
import Derived.Test.YteffmnohgnmanaaOps
namespace Go.Proofs.Yteffmnohgnmanaa
open Go.RowKit
/-- The channels l at g, in blocks that are new since w0; nothing old has changed. -/
structure Mine (w0 w : World) (F : Nat → Prop) (g : Nat) (l : List Ch) : Prop where
  is : IsCh w F g l
  new : ∀ k, F k → w0.heap.size ≤ k
  fr : Fr E0 w0 w
theorem Mine.step {w0 w w' : World} {F : Nat → Prop} {g : Nat} {l l' : List Ch} (h : Mine w0 w F g l) (hs : Step F g w l' w') : ∃ F', Mine w0 w' F' g l' ∧ (∀ k, F' k → F k ∨ w.heap.size ≤ k) ∧ Fr F w w' := by
  obtain ⟨F', i1, i2, i3⟩ := hs
  refine ⟨F', ⟨i1, fun k hk => ?_, h.fr.trans' i3 (fun k hk => .inr (h.new k hk))⟩, i2, i3⟩
  rcases i2 k hk with h1 | h1
  · exact h.new k h1
  · exact Nat.le_trans h.fr.size h1
theorem Mine.e0 {w0 w w' : World} {F : Nat → Prop} {g : Nat} {l : List Ch} (h : Mine w0 w F g l) (hf : Fr E0 w w') : Mine w0 w' F g l := ⟨h.is.fr hf (fun _ _ x => x), h.new, h.fr.trans hf⟩
theorem Mine.lt {w0 w : World} {F : Nat → Prop} {g : Nat} {l : List Ch} (h : Mine w0 w F g l) : ∀ k, F k → k < w.heap.size := by
  obtain ⟨_, _, hc, _⟩ := h.is; exact hc.lt
theorem Mine.mine_new {w w' : World} {g : Nat} (h : IsCh w' (fun k => w.heap.size ≤ k ∧ k < w'.heap.size) g []) (hf : Fr E0 w w') : Mine w w' (fun k => w.heap.size ≤ k ∧ k < w'.heap.size) g [] := ⟨h, fun _ hk => hk.1, hf⟩
set_option maxHeartbeats 2000000 in
theorem lives_ok (w : World) : Calls Try.prog 21 #[] w (Ret (.bool true) E0 w) := by
  go_enter Try.func21, Try.ntmps21
  go_wp2_with fail
  refine (new_ok w).mono ?_
  rintro e w1 ⟨g, rfl, hi, hf⟩
  have M1 := hid (Mine.mine_new hi hf)
  clear hi hf
  go_wp2_with fail
  refine (make_all M1.out.is ok_nil 1 rfl).mono ?_
  rintro e w2 ⟨rfl, hs⟩
  obtain ⟨F2, m2, _, _⟩ := M1.out.step hs
  have M2 := hid m2
  have K2 := hid (ok_nil.make (c := 1) rfl)
  clear hs m2
  simp only [tup2]
  go_wp2_with fail
  refine (send_all M2.out.is K2.out (by omega) 1 1 0 8).mono ?_
  rintro e w3 ⟨wv, rfl, hr3, hs3⟩
  obtain ⟨F3, m3, _, _⟩ := M2.out.step hs3
  rw [show sendL ([] ++ [newCh 1]) 1 1 0 8 = ([{ newCh 1 with vals := [8] }], { ok := true }, 0) from by decide] at m3 hr3 ⊢
  obtain ⟨A3, n3, c3, rfl⟩ := hr3.shape
  have M3 := hid m3
  have K3 := hid (K2.out.send 1 1 0 8)
  rw [show sendL ([] ++ [newCh 1]) 1 1 0 8 = ([{ newCh 1 with vals := [8] }], { ok := true }, 0) from by decide] at K3
  clear hs3 m3 hr3
  simp only [tup2, Mv.val]
  go_wp2_with fail
  generalize hW3 : w3.alloc (.cells #[.bool false, .int .i64 0, .bool true, .int .i64 0, .slice A3 n3 c3] 32) = W3
  have M3' := hid (hW3 ▸ M3.out.e0 (Fr.refl.alloc _))
  have b3 : W3.heap[w3.heap.size]? = some (.cells #[.bool false, .int .i64 0, .bool true, .int .i64 0, .slice A3 n3 c3] 32 (0, 0)) := hW3 ▸ heap_alloc_new w3 _
  have l3 := M3.out.lt
  clear hW3 M3
  refine (recv_all M3'.out.is K3.out (by omega) 1 2 0).mono ?_
  rintro e w4 ⟨wv, rfl, hr4, hs4⟩
  obtain ⟨F4, m4, _, f4⟩ := M3'.out.step hs4
  have b4 := f4.heapAt b3 (fun x => absurd (l3 _ x) (by omega))
  rw [show recvL [{ newCh 1 with vals := [8] }] 1 2 0 = ([newCh 1], { value := 8, ok := true }, 0) from by decide] at m4 hr4 ⊢
  obtain ⟨A4, n4, c4, rfl⟩ := hr4.shape
  clear hr4 hs4
  simp only [tup2, Mv.val]
  have f5 := hid (m4.fr.alloc (.cells #[.bool false, .int .i64 8, .bool true, .int .i64 0, .slice A4 n4 c4] 32))
  obtain ⟨⟨_, _, x2, _, _⟩, _⟩ := blk5 (t := 32) (((Fr.refl (S := E0)).alloc (.cells #[.bool false, .int .i64 8, .bool true, .int .i64 0, .slice A4 n4 c4] 32)).heapAt b4 (fun x => x))
  obtain ⟨⟨_, y1, y2, _, _⟩, _⟩ := blk5 (t := 32) (heap_alloc_new w4 (.cells #[.bool false, .int .i64 8, .bool true, .int .i64 0, .slice A4 n4 c4] 32))
  clear b4
  go_wp2
  go_ret
  exact ⟨rfl, f5.out⟩
end Go.Proofs.Yteffmnohgnmanaa
