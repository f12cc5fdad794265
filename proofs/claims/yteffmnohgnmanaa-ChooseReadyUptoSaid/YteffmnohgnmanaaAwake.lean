/- rotalaw12.awake: a select of one send into an empty channel goes on. -/
import Derived.Test.YteffmnohgnmanaaSel
import Derived.Test.YteffmnohgnmanaaLives
namespace Go.Proofs.Yteffmnohgnmanaa
open Go.RowKit
theorem rdL_block {w : World} {b : Nat} {cs : List Value} {t : TypeId} {fr : Nat × Nat} (h : w.heap[b]? = some (.cells cs.toArray t fr)) : RdL w b 0 cs := by
  intro j u hu
  rw [Nat.zero_add]
  simp [World.cell?, h, hu]
set_option maxHeartbeats 2000000 in
theorem awake_ok (w : World) : Calls Try.prog 37 #[] w (Ret (.bool true) E0 w) := by
  go_enter Try.func37, Try.ntmps37
  go_wp2_with fail
  refine (new_ok w).mono ?_
  rintro e w1 ⟨g, rfl, hi, hf⟩
  have M1 := hid (Mine.mine_new hi hf)
  clear hi hf
  go_wp2_with fail
  refine (make_all M1.out.is ok_nil 1 rfl).mono ?_
  rintro e w2 ⟨rfl, hs⟩
  obtain ⟨F2, m2, _, _⟩ := M1.out.step hs
  have M2 := hid m2
  have K2 := hid (ok_nil.make (c := 1) rfl)
  clear hs m2
  simp only [tup2]
  go_wp2_with fail
  generalize hW : ((w2.alloc (.cells #[.bool true, .int .i64 1, .int .i64 4] 78)).alloc (.cells #[.int .u64 9] 75)) = W
  have FA := hid (show Fr E0 w2 W by rw [← hW]; exact (Fr.refl.alloc _).alloc _)
  have C1 := hid (show W.heap[w2.heap.size]? = some (.cells #[.bool true, .int .i64 1, .int .i64 4] 78 (0, 0)) by rw [← hW]; exact heap_alloc2_old w2 _ _)
  have D1 := hid (show W.heap[w2.heap.size + 1]? = some (.cells #[.int .u64 9] 75 (0, 0)) by rw [← hW]; exact heap_alloc2_new w2 _ _)
  clear hW
  have M3 := hid (M2.out.e0 FA.out)
  have HL := hid M2.out.lt
  have RC := hid (show RdOut F2 W (.slice (some ⟨w2.heap.size, 0, none⟩) 1 1) 3 (pks [⟨true, 1, 4⟩]) from
    RdV.out ⟨_, _, _, rfl, rfl, Nat.le_refl _, by unfold maxLen; omega, .inr ⟨_, _, rfl, rdL_block (cs := [.bool true, .int .i64 1, .int .i64 4]) C1.out⟩⟩ (fun b o sp hF hx => by
      obtain ⟨n, c, he⟩ := hx
      cases he
      have := HL.out _ hF; omega))
  have RD := hid (show RdV W (.slice (some ⟨w2.heap.size + 1, 0, none⟩) 1 1) 1 (us [9]) from
    ⟨_, _, _, rfl, rfl, Nat.le_refl _, by unfold maxLen; omega, .inr ⟨_, _, rfl, rdL_block (cs := [.int .u64 9]) D1.out⟩⟩)
  refine (sel_all M3.out.is K2.out (by omega) 1 1 [⟨true, 1, 4⟩] (.slice (some ⟨w2.heap.size, 0, none⟩) 1 1) false [9] (.slice (some ⟨w2.heap.size + 1, 0, none⟩) 1 1) RC.out (by decide) RD.out (by simp) [{ newCh 1 with vals := [4] }] ⟨0, false, { ok := true }⟩ 0 (by decide)).mono ?_
  rintro e w3 ⟨wv, rfl, hr, hs⟩
  obtain ⟨F3, m3, _, _⟩ := M3.out.step hs
  have M4 := hid m3
  obtain ⟨A4, n4, c4, rfl⟩ := hr.shape
  clear hr hs m3
  simp only [tup2, Cho.val]
  go_wp2_with fail
  have M5 := hid (M4.out.e0 (Fr.refl.alloc (.cells #[.int .i64 0, .bool false, .bool false, .int .i64 0, .bool true, .int .i64 0, .slice A4 n4 c4] 47)))
  obtain ⟨⟨y0, _, _, _, y4, _, _⟩, _⟩ := blk7 (heap_alloc_new w3 (.cells #[.int .i64 0, .bool false, .bool false, .int .i64 0, .bool true, .int .i64 0, .slice A4 n4 c4] 47))
  refine (len_all M5.out.is 1).mono ?_
  rintro e w4 ⟨rfl, rfl⟩
  rw [show lenL [{ newCh 1 with vals := [4] }] 1 = 1 from by decide, show trapC [{ newCh 1 with vals := [4] }] 1 = 0 from by decide]
  simp only [tup2]
  go_wp2
  go_ret
  exact ⟨rfl, M5.out.fr⟩
end Go.Proofs.Yteffmnohgnmanaa
