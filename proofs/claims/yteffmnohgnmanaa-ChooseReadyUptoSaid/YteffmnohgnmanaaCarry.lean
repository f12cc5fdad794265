/- choose.carry: a case of a select is carried out. -/
import Derived.Test.YteffmnohgnmanaaTrap
import Derived.Test.YteffmnohgnmanaaSelB
namespace Go.Proofs.Yteffmnohgnmanaa
open Go.RowKit
/-- A call inside: new blocks ahead of it, new blocks written behind it. -/
theorem Step.wrap {w W W1 W2 : World} {F S : Nat → Prop} {g : Nat} {l l' : List Ch} (h : IsCh w F g l) (h1 : Fr E0 w W) (hs : Step F g W l' W1) (h2 : Fr S W1 W2) (hB : ∀ B, S B → w.heap.size ≤ B ∧ B < W.heap.size) : Step F g w l' W2 := by
  obtain ⟨F', i1, i2, i3⟩ := hs
  have hlt := h.lt
  refine ⟨F', i1.fr h2 (fun k hk e => ?_), fun k hk => ?_, ((h1.e0 (S := F)).trans i3).trans' h2 (fun k hk => .inr (hB k hk).1)⟩
  · have := hB k e
    rcases i2 k hk with x | x
    · have := hlt k x; omega
    · omega
  · rcases i2 k hk with x | x
    · exact .inl x
    · exact .inr (Nat.le_trans h1.size x)
theorem Step.fr' {w w' : World} {F : Nat → Prop} {g : Nat} {l' : List Ch} (h : Step F g w l' w') : Fr F w w' := by
  obtain ⟨_, _, _, h3⟩ := h; exact h3
theorem fin58 {a : Act} {W : World} {R : Nat} {Q : Ending → World → Prop} {m : Mv} {wv : Value} {err : Int} (hd : a.defers = []) (h8 : a.tmps.getD 6 undef = .pointer (some ⟨R, 0, none⟩)) (h9 : a.tmps.getD 7 undef = .int .i64 err)
    (hR : W.heap[R]? = some (.cells #[.bool m.waits, .int .i64 m.value, .bool m.ok, .int .i64 m.trap, wv] 32 (0, 0))) (hQ : Q (.returned (tup2 (m.val wv) (.int .i64 err))) W) : bodyPost Try.prog Try.f58 Q .ret a W := by
  obtain ⟨⟨k0, k1, k2, k3, k4⟩, _⟩ := blk5 hR
  have h8' : a.tmps[6]?.getD undef = .pointer (some ⟨R, 0, none⟩) := by simpa using h8
  have h9' : a.tmps[7]?.getD undef = .int .i64 err := by simpa using h9
  exact bodyPost_ret (v := tup2 (m.val wv) (.int .i64 err)) (by simp [results, Try.results58, go_sem, h8', h9', k0, k1, k2, k3, k4, tup2, Mv.val]) hd hQ
theorem heap3 (w : World) (o1 o2 o3 : Obj) : ((((w.alloc o1).alloc o2).alloc o3).heap[w.heap.size]? = some o1) ∧ ((((w.alloc o1).alloc o2).alloc o3).heap[w.heap.size + 1]? = some o2) ∧ ((((w.alloc o1).alloc o2).alloc o3).heap[w.heap.size + 2]? = some o3) := by
  have h3 := heap_alloc_new ((w.alloc o1).alloc o2) o3
  have h2 := heap_alloc_new (w.alloc o1) o2
  have h1 := heap_alloc_new w o1
  have f3 := (Fr.refl (S := E0) (w := (w.alloc o1).alloc o2)).alloc o3
  have f2 := (Fr.refl (S := E0) (w := w.alloc o1)).alloc o2
  simp only [World.size_alloc] at h2 h3
  exact ⟨f3.heapAt (f2.heapAt h1 (fun x => x)) (fun x => x), f3.heapAt h2 (fun x => x), h3⟩
def carryL (l : List Ch) (p : Pk) (gs gg : Int) : List Ch × Mv × Int := if p.send then sendL l p.ch gs gg p.v else recvL l p.ch gs gg
theorem RowF.newer {w W w' : World} {e sz : Nat} {v : Value} {xs : List Value} (h : RowF w' (New W) e sz v xs) (hs : w.heap.size ≤ W.heap.size) : RowF w' (New w) e sz v xs := h.mono (fun _ hk => Nat.le_trans hs hk)
set_option maxHeartbeats 2000000 in
theorem carry_ok {w : World} {F : Nat → Prop} {g N : Nat} {l : List Ch} (h : IsCh w F g l) (hok : Ok N l) (hN : (N + 1) * 48 ≤ 140737488355328) (p : Pk) (gs gg : Int) :
    Calls Try.prog 58 #[.pointer (some ⟨g, 0, none⟩), .agg #[.int .i64 gs, .int .i64 gg], p.val] w (MvPost F g w (carryL l p gs gg).1 (carryL l p gs gg).2.1 (carryL l p gs gg).2.2) := by
  obtain ⟨snd, ch, v⟩ := p
  have H := hid h
  have HN := hid hN
  have HK := hid hok
  clear h hN hok
  simp only [Pk.val]
  cases snd with
  | true =>
    have e0 : carryL l ⟨true, ch, v⟩ gs gg = sendL l ch gs gg v := rfl
    rw [e0]
    clear e0
    go_enter Try.func58, Try.ntmps58
    go_wp2_with fail
    generalize hW : (((w.alloc (Obj.cells #[Value.int IntKind.i64 gs, Value.int IntKind.i64 gg] 37)).alloc (Obj.cells #[.bool true, .int .i64 ch, .int .i64 v] 78)).alloc (Obj.cells _ 32)) = W
    have FA := hid (show Fr E0 w W by rw [← hW]; exact ((Fr.refl.alloc _).alloc _).alloc _)
    have T1 := hid (show W.heap[w.heap.size + 2]? = some (.cells #[Value.bool false, Value.int IntKind.i64 0, Value.bool false, Value.int IntKind.i64 0, Value.slice none 0 0] 32 (0, 0)) by rw [← hW]; exact (heap3 w _ _ _).2.2)
    have hsz : W.heap.size = w.heap.size + 3 := by rw [← hW]; simp
    have HI := hid (H.out.fr FA.out (fun _ _ x => x))
    have HS := hid hsz
    clear hW hsz
    refine (send_all HI.out HK.out HN.out ch gs gg v).mono ?_
    rintro e w1 ⟨wv, rfl, hr, hs⟩
    have HL := hid H.out.lt
    have T2 := hid ((Step.fr' hs).heapAt T1.out (fun x => by have := HL.out _ x; omega))
    obtain ⟨⟨b0, b1, b2, b3, b4⟩, z0, z1, z2, z3, z4⟩ := blk5 T2.out
    generalize sendL l ch gs gg v = r at *
    obtain ⟨l', ⟨mw, mval, mok, mtrap, mwk⟩, er⟩ := r
    simp only at hr hs ⊢
    have T5 := hid (set5_heap (w := w1) T2.out (.bool mw) (.int .i64 mval) (.bool mok) (.int .i64 mtrap) wv)
    have S5 := hid (set5_fr (S := fun k => k = w.heap.size + 2) (w := w1) (B := w.heap.size + 2) rfl (.bool mw) (.int .i64 mval) (.bool mok) (.int .i64 mtrap) wv)
    obtain ⟨A4, n4, c4, rfl⟩ := hr.shape
    have HR := hid ((hr.newer FA.out.size).fr S5.out (fun q hq e => by have := hr.2 q hq; have := HS.out; unfold New at *; omega))
    have ST := hid (Step.wrap H.out FA.out hs S5.out (fun B e => by have := HS.out; omega))
    clear hr hs
    simp only [tup2, Mv.val]
    go_wp2_with fail
    exact fin58 (m := ⟨mw, mval, mok, mtrap, mwk⟩) rfl rfl rfl T5.out ⟨_, rfl, HR.out, ST.out⟩
  | false =>
    have e0 : carryL l ⟨false, ch, v⟩ gs gg = recvL l ch gs gg := rfl
    rw [e0]
    clear e0
    go_enter Try.func58, Try.ntmps58
    go_wp2_with fail
    generalize hW : (((w.alloc (Obj.cells #[Value.int IntKind.i64 gs, Value.int IntKind.i64 gg] 37)).alloc (Obj.cells #[.bool false, .int .i64 ch, .int .i64 v] 78)).alloc (Obj.cells _ 32)) = W
    have FA := hid (show Fr E0 w W by rw [← hW]; exact ((Fr.refl.alloc _).alloc _).alloc _)
    have T1 := hid (show W.heap[w.heap.size + 2]? = some (.cells #[Value.bool false, Value.int IntKind.i64 0, Value.bool false, Value.int IntKind.i64 0, Value.slice none 0 0] 32 (0, 0)) by rw [← hW]; exact (heap3 w _ _ _).2.2)
    have hsz : W.heap.size = w.heap.size + 3 := by rw [← hW]; simp
    have HI := hid (H.out.fr FA.out (fun _ _ x => x))
    have HS := hid hsz
    clear hW hsz
    refine (recv_all HI.out HK.out HN.out ch gs gg).mono ?_
    rintro e w1 ⟨wv, rfl, hr, hs⟩
    have HL := hid H.out.lt
    have T2 := hid ((Step.fr' hs).heapAt T1.out (fun x => by have := HL.out _ x; omega))
    obtain ⟨⟨b0, b1, b2, b3, b4⟩, z0, z1, z2, z3, z4⟩ := blk5 T2.out
    generalize recvL l ch gs gg = r at *
    obtain ⟨l', ⟨mw, mval, mok, mtrap, mwk⟩, er⟩ := r
    simp only at hr hs ⊢
    have T5 := hid (set5_heap (w := w1) T2.out (.bool mw) (.int .i64 mval) (.bool mok) (.int .i64 mtrap) wv)
    have S5 := hid (set5_fr (S := fun k => k = w.heap.size + 2) (w := w1) (B := w.heap.size + 2) rfl (.bool mw) (.int .i64 mval) (.bool mok) (.int .i64 mtrap) wv)
    obtain ⟨A4, n4, c4, rfl⟩ := hr.shape
    have HR := hid ((hr.newer FA.out.size).fr S5.out (fun q hq e => by have := hr.2 q hq; have := HS.out; unfold New at *; omega))
    have ST := hid (Step.wrap H.out FA.out hs S5.out (fun B e => by have := HS.out; omega))
    clear hr hs
    simp only [tup2, Mv.val]
    go_wp2_with fail
    exact fin58 (m := ⟨mw, mval, mok, mtrap, mwk⟩) rfl rfl rfl T5.out ⟨_, rfl, HR.out, ST.out⟩
end Go.Proofs.Yteffmnohgnmanaa
