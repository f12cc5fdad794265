/- Does1, Does2, Play, Loads, Awake, Selects, OpensC: merged by wip/gen/merge.py for the claim of ChooseSelects. -/
import Derived.Test.YteffmnohgnmanaaS4ChooseSelects
/- rotalaw11.does: one act on both, a theorem for each kind. Printed by wip/gen/does.py. -/
namespace Go.Proofs.Yteffmnohgnmanaa
open Go.RowKit
set_option linter.unusedVariables false
attribute [local go_sem ↓] Go.wp_at_zero Go.wp_at_succ
theorem fits_agg {w : World} {v : Value} {ms : List CM} (hv : RdCs w v ms) (hn : ms.length ≤ 1024) (hbig : ∀ c ∈ chs ms, BigC c) (ch s g c xv : Int) (send : Bool) :
    Calls Try.prog 62 #[v, .int .i64 ch, .agg #[.int .i64 s, .int .i64 g, .int .i64 c, .int .i64 xv], .bool send] w (Ret (.bool (fitsL (chs ms) ch ⟨s, g, c, xv⟩ send)) E0 w) := fits_ok hv hn hbig ch ⟨s, g, c, xv⟩ send
theorem rwait_any {w : World} {v : Value} {ms : List CM} (hv : RdCs w v ms) (hn : ms.length ≤ 1024) (hbig : ∀ c ∈ chs ms, BigC c) (ch s g c xv : Int) (send : Bool) :
    Calls Try.prog 63 #[v, .int .i64 ch, .agg #[.int .i64 s, .int .i64 g, .int .i64 c, .int .i64 xv], .bool send] w (RWaitPost w v (chs ms) (waitL (chs ms) ch ⟨s, g, c, xv⟩ send).1 (waitL (chs ms) ch ⟨s, g, c, xv⟩ send).2) := rwait_all hv hn hbig ch ⟨s, g, c, xv⟩ send
theorem wait_any {w : World} {F : Nat → Prop} {g N : Nat} {l : List Ch} (h : IsCh w F g l) (hok : Ok N l) (hN : (N + 1) * 48 ≤ 140737488355328) (ch s gn c xv : Int) (send : Bool) :
    Calls Try.prog 59 #[.pointer (some ⟨g, 0, none⟩), .int .i64 ch, .agg #[.int .i64 s, .int .i64 gn, .int .i64 c, .int .i64 xv], .bool send] w (WaitPost F g w (waitL l ch ⟨s, gn, c, xv⟩ send).1 (waitL l ch ⟨s, gn, c, xv⟩ send).2) := wait_all h hok hN ch ⟨s, gn, c, xv⟩ send
set_option maxRecDepth 8000 in
set_option maxHeartbeats 4000000 in
theorem does_make {w : World} {F G : Nat → Prop} {g N : Nat} {l : List Ch} {v : Value} (h : Both w F G g l v l) (hok : Ok N l) (hN : N + 1 ≤ 4194304) (ch s gn av c : Int) (send : Bool) :
    Calls Try.prog 27 #[.pointer (some ⟨g, 0, none⟩), v, (ActD.val ⟨0, ch, s, gn, av, c, send⟩)] w (DoesPost F G g (actL l ⟨0, ch, s, gn, av, c, send⟩) w) := by
  have HPO : actL l ⟨0, ch, s, gn, av, c, send⟩ = makeL l av := by simp [actL, makeL]
  rw [HPO]
  clear HPO
  obtain ⟨ms, hrd, hms⟩ := h.rd
  obtain ⟨A, vc, rfl, hmx, _, _⟩ := hrd.form
  have G1 := hid (heap_alloc_new w (.cells #[.int .i64 0, .int .i64 ch, .int .i64 s, .int .i64 gn, .int .i64 av, .int .i64 c, .bool send] 56))
  have FA := hid ((Fr.refl (S := E0) (w := w)).alloc (.cells #[.int .i64 0, .int .i64 ch, .int .i64 s, .int .i64 gn, .int .i64 av, .int .i64 c, .bool send] 56))
  have HWS := hid (show (w.alloc (.cells #[.int .i64 0, .int .i64 ch, .int .i64 s, .int .i64 gn, .int .i64 av, .int .i64 c, .bool send] 56)).heap.size = w.heap.size + 1 by simp)
  have T1 := hid (h.e0 FA.out)
  have HFw := hid h.is.lt
  have R1 := hid (hrd.fr FA.out)
  have HMS := hid hms
  have HOK := hid hok
  have hl := hok.len
  have hlm : ms.length = l.length := by rw [← hms, chs_len]
  have HLM := hid hlm
  have HBG := hid (show ∀ c ∈ chs ms, BigC c by rw [hms]; exact hok.big (by omega))
  have HL1 := hid (show ms.length ≤ 1024 by omega)
  rw [hlm] at hmx R1 T1 ⊢
  clear h hok hrd hms hlm
  simp only [ActD.val]
  go_enter Try.func27, Try.ntmps27
  go_wp2_with fail
  generalize w.alloc _ = W at *
  obtain ⟨⟨a0, a1, a2, a3, a4, a5, a6⟩, _⟩ := blk7 G1.out
  refine (rmake_all R1.out HL1.out HBG.out av).mono ?_
  rintro e w1 ⟨v1, rfl, ho1, hf1⟩
  rw [HMS.out] at ho1 ⊢
  obtain ⟨G', t2, hg2⟩ := T1.out.outR hf1 ho1
  have T2 := hid t2
  have HG2 := hid hg2
  have F1 := hid hf1
  clear a0 a1 a2 a3 a4 a5 a6 t2 hg2 hf1 ho1
  obtain ⟨⟨a0, a1, a2, a3, a4, a5, a6⟩, _⟩ := blk7 (F1.out.heapAt G1.out (fun x => x))
  simp only [tup3]
  go_wp2_with fail
  refine (make_any T2.out.is HOK.out av).mono ?_
  rintro e w2 ⟨rfl, hs2⟩
  obtain ⟨F', t3, hf3, hfr⟩ := T2.out.step hs2
  have HD := hid (does_end FA.out F1.out HG2.out hf3 hfr t3)
  clear hs2 t3 hf3 hfr a0 a1 a2 a3 a4 a5 a6
  simp only [tup2]
  generalize makeN l av = x1
  generalize makeT l av = x2
  have z1 : ((x1 == x1) : Bool) = true := by simp
  have z2 : ((x2 == x2) : Bool) = true := by simp
  go_wp2_with fail
  go_ret2
  exact HD.out
set_option maxRecDepth 8000 in
set_option maxHeartbeats 4000000 in
theorem does_leave {w : World} {F G : Nat → Prop} {g N : Nat} {l : List Ch} {v : Value} (h : Both w F G g l v l) (hok : Ok N l) (hN : N + 1 ≤ 4194304) (ch s gn av c : Int) (send : Bool) :
    Calls Try.prog 27 #[.pointer (some ⟨g, 0, none⟩), v, (ActD.val ⟨5, ch, s, gn, av, c, send⟩)] w (DoesPost F G g (actL l ⟨5, ch, s, gn, av, c, send⟩) w) := by
  have HPO : actL l ⟨5, ch, s, gn, av, c, send⟩ = leaveL s gn l := by simp [actL]
  rw [HPO]
  clear HPO
  obtain ⟨ms, hrd, hms⟩ := h.rd
  obtain ⟨A, vc, rfl, hmx, _, _⟩ := hrd.form
  have G1 := hid (heap_alloc_new w (.cells #[.int .i64 5, .int .i64 ch, .int .i64 s, .int .i64 gn, .int .i64 av, .int .i64 c, .bool send] 56))
  have FA := hid ((Fr.refl (S := E0) (w := w)).alloc (.cells #[.int .i64 5, .int .i64 ch, .int .i64 s, .int .i64 gn, .int .i64 av, .int .i64 c, .bool send] 56))
  have HWS := hid (show (w.alloc (.cells #[.int .i64 5, .int .i64 ch, .int .i64 s, .int .i64 gn, .int .i64 av, .int .i64 c, .bool send] 56)).heap.size = w.heap.size + 1 by simp)
  have T1 := hid (h.e0 FA.out)
  have HFw := hid h.is.lt
  have R1 := hid (hrd.fr FA.out)
  have HMS := hid hms
  have HOK := hid hok
  have hl := hok.len
  have hlm : ms.length = l.length := by rw [← hms, chs_len]
  have HLM := hid hlm
  have HBG := hid (show ∀ c ∈ chs ms, BigC c by rw [hms]; exact hok.big (by omega))
  have HL1 := hid (show ms.length ≤ 1024 by omega)
  rw [hlm] at hmx R1 T1 ⊢
  clear h hok hrd hms hlm
  simp only [ActD.val]
  go_enter Try.func27, Try.ntmps27
  go_wp2_with fail
  generalize w.alloc _ = W at *
  obtain ⟨⟨a0, a1, a2, a3, a4, a5, a6⟩, _⟩ := blk7 G1.out
  refine (leave2_ok ms _ s gn W R1.out (by have := HL1.out; omega) HBG.out).mono ?_
  rintro e w1 ⟨v1, ms1, rfl, hc1, ho1, hf1⟩
  rw [HMS.out] at hc1 ⊢
  obtain ⟨G', t2, hg2⟩ := T1.out.outR hf1 (.inr ⟨ms1, hc1, ho1⟩)
  have T2 := hid t2
  have HG2 := hid hg2
  have F1 := hid hf1
  clear a0 a1 a2 a3 a4 a5 a6 t2 hg2 hf1 ho1 hc1
  obtain ⟨⟨a0, a1, a2, a3, a4, a5, a6⟩, _⟩ := blk7 (F1.out.heapAt G1.out (fun x => x))
  simp only [tup2]
  go_wp2_with fail
  refine (leave_all T2.out.is HOK.out (by omega) s gn).mono ?_
  rintro e w2 ⟨rfl, his, hfr2⟩
  obtain ⟨F', t3, hf3, hfr⟩ := T2.out.step ⟨F, his, fun k hk => .inl hk, hfr2⟩
  have HD := hid (does_end FA.out F1.out HG2.out hf3 hfr t3)
  clear his hfr2 t3 hf3 hfr a0 a1 a2 a3 a4 a5 a6
  generalize ((nOutL s gn l : Nat) : Int) = x1
  have z1 : ((x1 == x1) : Bool) = true := by simp
  go_wp2_with fail
  go_ret2
  exact HD.out
set_option maxRecDepth 8000 in
set_option maxHeartbeats 4000000 in
theorem does_goes {w : World} {F G : Nat → Prop} {g N : Nat} {l : List Ch} {v : Value} (h : Both w F G g l v l) (hok : Ok N l) (hN : N + 1 ≤ 4194304) (ch s gn av c : Int) (send : Bool) :
    Calls Try.prog 27 #[.pointer (some ⟨g, 0, none⟩), v, (ActD.val ⟨6, ch, s, gn, av, c, send⟩)] w (DoesPost F G g (actL l ⟨6, ch, s, gn, av, c, send⟩) w) := by
  have HPO : actL l ⟨6, ch, s, gn, av, c, send⟩ = l := by simp [actL]
  rw [HPO]
  clear HPO
  obtain ⟨ms, hrd, hms⟩ := h.rd
  obtain ⟨A, vc, rfl, hmx, _, _⟩ := hrd.form
  have G1 := hid (heap_alloc_new w (.cells #[.int .i64 6, .int .i64 ch, .int .i64 s, .int .i64 gn, .int .i64 av, .int .i64 c, .bool send] 56))
  have FA := hid ((Fr.refl (S := E0) (w := w)).alloc (.cells #[.int .i64 6, .int .i64 ch, .int .i64 s, .int .i64 gn, .int .i64 av, .int .i64 c, .bool send] 56))
  have HWS := hid (show (w.alloc (.cells #[.int .i64 6, .int .i64 ch, .int .i64 s, .int .i64 gn, .int .i64 av, .int .i64 c, .bool send] 56)).heap.size = w.heap.size + 1 by simp)
  have T1 := hid (h.e0 FA.out)
  have HFw := hid h.is.lt
  have R1 := hid (hrd.fr FA.out)
  have HMS := hid hms
  have HOK := hid hok
  have hl := hok.len
  have hlm : ms.length = l.length := by rw [← hms, chs_len]
  have HLM := hid hlm
  have HBG := hid (show ∀ c ∈ chs ms, BigC c by rw [hms]; exact hok.big (by omega))
  have HL1 := hid (show ms.length ≤ 1024 by omega)
  rw [hlm] at hmx R1 T1 ⊢
  clear h hok hrd hms hlm
  simp only [ActD.val]
  go_enter Try.func27, Try.ntmps27
  go_wp2_with fail
  generalize w.alloc _ = W at *
  obtain ⟨⟨a0, a1, a2, a3, a4, a5, a6⟩, _⟩ := blk7 G1.out
  refine (goes2_ok R1.out ch send).mono ?_
  rintro e w1 ⟨rfl, hf1⟩
  rw [HMS.out]
  have T2 := hid (T1.out.e0 hf1)
  have F1 := hid hf1
  clear a0 a1 a2 a3 a4 a5 a6 hf1
  obtain ⟨⟨a0, a1, a2, a3, a4, a5, a6⟩, _⟩ := blk7 (F1.out.heapAt G1.out (fun x => x))
  simp only [tup2]
  go_wp2_with fail
  refine (goes_all T2.out.is ch send).mono ?_
  rintro e w2 ⟨rfl, hf2⟩
  have HD := hid (does_end0 (w := w) (G := G) ((FA.out.trans F1.out).trans hf2) (fun k hk => .inl hk) (T2.out.e0 hf2))
  clear hf2 a0 a1 a2 a3 a4 a5 a6
  simp only [tup2]
  generalize goesL l ch send = x1
  generalize trapC l ch = x2
  have z1 : ((x1 == x1) : Bool) = true := by simp
  have z2 : ((x2 == x2) : Bool) = true := by simp
  go_wp2_with fail
  go_ret2
  exact HD.out
set_option maxRecDepth 8000 in
set_option maxHeartbeats 4000000 in
theorem does_else {w : World} {F G : Nat → Prop} {g N : Nat} {l : List Ch} {v : Value} (h : Both w F G g l v l) (hok : Ok N l) (hN : N + 1 ≤ 4194304) (kind ch s gn av c : Int) (hk : kind < 0 ∨ 6 < kind) (send : Bool) :
    Calls Try.prog 27 #[.pointer (some ⟨g, 0, none⟩), v, (ActD.val ⟨kind, ch, s, gn, av, c, send⟩)] w (DoesPost F G g (actL l ⟨kind, ch, s, gn, av, c, send⟩) w) := by
  have hk0 : ¬ kind = 0 := by omega
  have hk1 : ¬ kind = 1 := by omega
  have hk2 : ¬ kind = 2 := by omega
  have hk3 : ¬ kind = 3 := by omega
  have hk4 : ¬ kind = 4 := by omega
  have hk5 : ¬ kind = 5 := by omega
  have hk6 : ¬ kind = 6 := by omega
  have HPO : actL l ⟨kind, ch, s, gn, av, c, send⟩ = l := by simp [actL, hk0, hk1, hk2, hk3, hk4, hk5]
  rw [HPO]
  clear HPO
  have z0 : ((kind == 0) : Bool) = false := by simpa using hk0
  have z1 : ((kind == 1) : Bool) = false := by simpa using hk1
  have z2 : ((kind == 2) : Bool) = false := by simpa using hk2
  have z3 : ((kind == 3) : Bool) = false := by simpa using hk3
  have z4 : ((kind == 4) : Bool) = false := by simpa using hk4
  have z5 : ((kind == 5) : Bool) = false := by simpa using hk5
  have z6 : ((kind == 6) : Bool) = false := by simpa using hk6
  clear hk hk0 hk1 hk2 hk3 hk4 hk5 hk6
  obtain ⟨ms, hrd, hms⟩ := h.rd
  obtain ⟨A, vc, rfl, hmx, _, _⟩ := hrd.form
  have G1 := hid (heap_alloc_new w (.cells #[.int .i64 kind, .int .i64 ch, .int .i64 s, .int .i64 gn, .int .i64 av, .int .i64 c, .bool send] 56))
  have FA := hid ((Fr.refl (S := E0) (w := w)).alloc (.cells #[.int .i64 kind, .int .i64 ch, .int .i64 s, .int .i64 gn, .int .i64 av, .int .i64 c, .bool send] 56))
  have HWS := hid (show (w.alloc (.cells #[.int .i64 kind, .int .i64 ch, .int .i64 s, .int .i64 gn, .int .i64 av, .int .i64 c, .bool send] 56)).heap.size = w.heap.size + 1 by simp)
  have T1 := hid (h.e0 FA.out)
  have HFw := hid h.is.lt
  have R1 := hid (hrd.fr FA.out)
  have HMS := hid hms
  have HOK := hid hok
  have hl := hok.len
  have hlm : ms.length = l.length := by rw [← hms, chs_len]
  have HLM := hid hlm
  have HBG := hid (show ∀ c ∈ chs ms, BigC c by rw [hms]; exact hok.big (by omega))
  have HL1 := hid (show ms.length ≤ 1024 by omega)
  rw [hlm] at hmx R1 T1 ⊢
  clear h hok hrd hms hlm
  simp only [ActD.val]
  go_enter Try.func27, Try.ntmps27
  go_wp2_with fail
  generalize w.alloc _ = W at *
  obtain ⟨⟨a0, a1, a2, a3, a4, a5, a6⟩, _⟩ := blk7 G1.out
  refine (told_ok T1.out HOK.out (by omega) ⟨kind, ch, s, gn, av, c, send⟩).mono ?_
  rintro e w2 ⟨rfl, hf2⟩
  have HD := hid (does_end0 (w := w) (G := G) (FA.out.trans hf2) (fun k hk => .inl hk) (T1.out.e0 hf2))
  clear hf2 a0 a1 a2 a3 a4 a5 a6
  go_wp2_with fail
  go_ret2
  exact HD.out
set_option maxRecDepth 8000 in
set_option maxHeartbeats 4000000 in
theorem does_waitno {w : World} {F G : Nat → Prop} {g N : Nat} {l : List Ch} {v : Value} (h : Both w F G g l v l) (hok : Ok N l) (hN : N + 1 ≤ 4194304) (ch s gn av c : Int) (send : Bool) (hft : fitsL l ch ⟨s, gn, c, av⟩ send = false) :
    Calls Try.prog 27 #[.pointer (some ⟨g, 0, none⟩), v, (ActD.val ⟨4, ch, s, gn, av, c, send⟩)] w (DoesPost F G g (actL l ⟨4, ch, s, gn, av, c, send⟩) w) := by
  have HPO : actL l ⟨4, ch, s, gn, av, c, send⟩ = l := by simp [actL, ActD.wt, hft]
  rw [HPO]
  clear HPO
  have HFT := hid hft
  clear hft
  obtain ⟨ms, hrd, hms⟩ := h.rd
  obtain ⟨A, vc, rfl, hmx, _, _⟩ := hrd.form
  have G1 := hid (heap_alloc_new w (.cells #[.int .i64 4, .int .i64 ch, .int .i64 s, .int .i64 gn, .int .i64 av, .int .i64 c, .bool send] 56))
  have FA := hid ((Fr.refl (S := E0) (w := w)).alloc (.cells #[.int .i64 4, .int .i64 ch, .int .i64 s, .int .i64 gn, .int .i64 av, .int .i64 c, .bool send] 56))
  have HWS := hid (show (w.alloc (.cells #[.int .i64 4, .int .i64 ch, .int .i64 s, .int .i64 gn, .int .i64 av, .int .i64 c, .bool send] 56)).heap.size = w.heap.size + 1 by simp)
  have T1 := hid (h.e0 FA.out)
  have HFw := hid h.is.lt
  have R1 := hid (hrd.fr FA.out)
  have HMS := hid hms
  have HOK := hid hok
  have hl := hok.len
  have hlm : ms.length = l.length := by rw [← hms, chs_len]
  have HLM := hid hlm
  have HBG := hid (show ∀ c ∈ chs ms, BigC c by rw [hms]; exact hok.big (by omega))
  have HL1 := hid (show ms.length ≤ 1024 by omega)
  rw [hlm] at hmx R1 T1 ⊢
  clear h hok hrd hms hlm
  simp only [ActD.val]
  go_enter Try.func27, Try.ntmps27
  go_wp2_with fail
  generalize w.alloc _ = W at *
  obtain ⟨⟨a0, a1, a2, a3, a4, a5, a6⟩, _⟩ := blk7 G1.out
  have FX := hid ((Fr.refl (S := E0) (w := W)).alloc (.cells #[.int .i64 s, .int .i64 gn, .int .i64 c, .int .i64 av] 114))
  have X1 := hid (heap_alloc_new W (.cells #[.int .i64 s, .int .i64 gn, .int .i64 c, .int .i64 av] 114))
  rw [HWS.out] at X1
  generalize W.alloc _ = W1 at *
  clear a0 a1 a2 a3 a4 a5 a6
  refine (fits_agg (R1.out.fr FX.out) HL1.out HBG.out ch s gn c av send).mono ?_
  rintro e w1 ⟨rfl, hf1⟩
  rw [HMS.out, HFT.out]
  have HD := hid (does_end0 (w := w) (G := G) (FA.out.trans (FX.out.trans hf1)) (fun k hk => .inl hk) (T1.out.e0 (FX.out.trans hf1)))
  clear hf1
  go_wp2_with fail
  go_ret2
  exact HD.out
set_option maxRecDepth 8000 in
set_option maxHeartbeats 4000000 in
theorem does_wait {w : World} {F G : Nat → Prop} {g N : Nat} {l : List Ch} {v : Value} (h : Both w F G g l v l) (hok : Ok N l) (hN : N + 1 ≤ 4194304) (ch s gn av c : Int) (send : Bool) (hft : fitsL l ch ⟨s, gn, c, av⟩ send = true) :
    Calls Try.prog 27 #[.pointer (some ⟨g, 0, none⟩), v, (ActD.val ⟨4, ch, s, gn, av, c, send⟩)] w (DoesPost F G g (actL l ⟨4, ch, s, gn, av, c, send⟩) w) := by
  have HPO : actL l ⟨4, ch, s, gn, av, c, send⟩ = (waitL l ch ⟨s, gn, c, av⟩ send).1 := by simp [actL, ActD.wt, hft]
  rw [HPO]
  clear HPO
  have HFT := hid hft
  clear hft
  obtain ⟨ms, hrd, hms⟩ := h.rd
  obtain ⟨A, vc, rfl, hmx, _, _⟩ := hrd.form
  have G1 := hid (heap_alloc_new w (.cells #[.int .i64 4, .int .i64 ch, .int .i64 s, .int .i64 gn, .int .i64 av, .int .i64 c, .bool send] 56))
  have FA := hid ((Fr.refl (S := E0) (w := w)).alloc (.cells #[.int .i64 4, .int .i64 ch, .int .i64 s, .int .i64 gn, .int .i64 av, .int .i64 c, .bool send] 56))
  have HWS := hid (show (w.alloc (.cells #[.int .i64 4, .int .i64 ch, .int .i64 s, .int .i64 gn, .int .i64 av, .int .i64 c, .bool send] 56)).heap.size = w.heap.size + 1 by simp)
  have T1 := hid (h.e0 FA.out)
  have HFw := hid h.is.lt
  have R1 := hid (hrd.fr FA.out)
  have HMS := hid hms
  have HOK := hid hok
  have hl := hok.len
  have hlm : ms.length = l.length := by rw [← hms, chs_len]
  have HLM := hid hlm
  have HBG := hid (show ∀ c ∈ chs ms, BigC c by rw [hms]; exact hok.big (by omega))
  have HL1 := hid (show ms.length ≤ 1024 by omega)
  rw [hlm] at hmx R1 T1 ⊢
  clear h hok hrd hms hlm
  simp only [ActD.val]
  go_enter Try.func27, Try.ntmps27
  go_wp2_with fail
  generalize w.alloc _ = W at *
  obtain ⟨⟨a0, a1, a2, a3, a4, a5, a6⟩, _⟩ := blk7 G1.out
  have FX := hid ((Fr.refl (S := E0) (w := W)).alloc (.cells #[.int .i64 s, .int .i64 gn, .int .i64 c, .int .i64 av] 114))
  have X1 := hid (heap_alloc_new W (.cells #[.int .i64 s, .int .i64 gn, .int .i64 c, .int .i64 av] 114))
  rw [HWS.out] at X1
  generalize W.alloc _ = W1 at *
  clear a0 a1 a2 a3 a4 a5 a6
  refine (fits_agg (R1.out.fr FX.out) HL1.out HBG.out ch s gn c av send).mono ?_
  rintro e w1 ⟨rfl, hf1⟩
  rw [HMS.out, HFT.out]
  have F1 := hid (FX.out.trans hf1)
  obtain ⟨⟨a0, a1, a2, a3, a4, a5, a6⟩, _⟩ := blk7 (F1.out.heapAt G1.out (fun x => x))
  obtain ⟨b0, b1, b2, b3⟩ := cell4 (hf1.heapAt X1.out (fun x => x))
  have X2 := hid (hf1.heapAt X1.out (fun x => x))
  have R2 := hid (R1.out.fr F1.out)
  have T2 := hid (T1.out.e0 F1.out)
  clear hf1
  go_wp2_with fail
  refine (rwait_any R2.out HL1.out HBG.out ch s gn c av send).mono ?_
  rintro e w2 ⟨v2, rfl, ho2, hf2⟩
  rw [HMS.out] at ho2 ⊢
  obtain ⟨G', t3, hg3⟩ := T2.out.outR hf2 ho2
  have T3 := hid t3
  have HG3 := hid hg3
  have F2 := hid hf2
  clear a0 a1 a2 a3 a4 a5 a6 b0 b1 b2 b3 t3 hg3 ho2 hf2
  obtain ⟨⟨a0, a1, a2, a3, a4, a5, a6⟩, _⟩ := blk7 ((F1.out.trans F2.out).heapAt G1.out (fun x => x))
  obtain ⟨b0, b1, b2, b3⟩ := cell4 (F2.out.heapAt X2.out (fun x => x))
  simp only [tup2]
  go_wp2_with fail
  refine (wait_any T3.out.is HOK.out (by omega) ch s gn c av send).mono ?_
  rintro e w3 ⟨rfl, hs3⟩
  obtain ⟨F', t4, hf4, hfr⟩ := T3.out.step hs3
  have HD := hid (does_end (FA.out.trans F1.out) F2.out HG3.out hf4 hfr t4)
  clear hs3 t4 hf4 hfr a0 a1 a2 a3 a4 a5 a6 b0 b1 b2 b3
  generalize (waitL l ch ⟨s, gn, c, av⟩ send).2 = x1
  have z1 : ((x1 == x1) : Bool) = true := by simp
  go_wp2_with fail
  go_ret2
  exact HD.out
end Go.Proofs.Yteffmnohgnmanaa
/- rotalaw11.does: one act on both, Send, Recv, Close. Printed by wip/gen/does.py. -/
namespace Go.Proofs.Yteffmnohgnmanaa
open Go.RowKit
set_option linter.unusedVariables false
attribute [local go_sem ↓] Go.wp_at_zero Go.wp_at_succ
set_option maxRecDepth 8000 in
set_option maxHeartbeats 4000000 in
theorem does_send {w : World} {F G : Nat → Prop} {g N : Nat} {l : List Ch} {v : Value} (h : Both w F G g l v l) (hok : Ok N l) (hN : N + 1 ≤ 4194304) (ch s gn av c : Int) (send : Bool) :
    Calls Try.prog 27 #[.pointer (some ⟨g, 0, none⟩), v, (ActD.val ⟨1, ch, s, gn, av, c, send⟩)] w (DoesPost F G g (actL l ⟨1, ch, s, gn, av, c, send⟩) w) := by
  have HPO : actL l ⟨1, ch, s, gn, av, c, send⟩ = (sendL l ch s gn av).1 := by simp [actL]
  rw [HPO]
  clear HPO
  obtain ⟨ms, hrd, hms⟩ := h.rd
  obtain ⟨A, vc, rfl, hmx, _, _⟩ := hrd.form
  have G1 := hid (heap_alloc_new w (.cells #[.int .i64 1, .int .i64 ch, .int .i64 s, .int .i64 gn, .int .i64 av, .int .i64 c, .bool send] 56))
  have FA := hid ((Fr.refl (S := E0) (w := w)).alloc (.cells #[.int .i64 1, .int .i64 ch, .int .i64 s, .int .i64 gn, .int .i64 av, .int .i64 c, .bool send] 56))
  have HWS := hid (show (w.alloc (.cells #[.int .i64 1, .int .i64 ch, .int .i64 s, .int .i64 gn, .int .i64 av, .int .i64 c, .bool send] 56)).heap.size = w.heap.size + 1 by simp)
  have T1 := hid (h.e0 FA.out)
  have HFw := hid h.is.lt
  have R1 := hid (hrd.fr FA.out)
  have HMS := hid hms
  have HOK := hid hok
  have hl := hok.len
  have hlm : ms.length = l.length := by rw [← hms, chs_len]
  have HLM := hid hlm
  have HBG := hid (show ∀ c ∈ chs ms, BigC c by rw [hms]; exact hok.big (by omega))
  have HL1 := hid (show ms.length ≤ 1024 by omega)
  rw [hlm] at hmx R1 T1 ⊢
  clear h hok hrd hms hlm
  simp only [ActD.val]
  go_enter Try.func27, Try.ntmps27
  go_wp2_with fail
  generalize w.alloc _ = W at *
  obtain ⟨⟨a0, a1, a2, a3, a4, a5, a6⟩, _⟩ := blk7 G1.out
  obtain ⟨l', ⟨mw, mv, mo, mt, mk⟩, err, hL⟩ : ∃ l' m err, sendL l ch s gn av = (l', m, err) := ⟨_, _, _, rfl⟩
  have HL := hid hL
  refine (rsend_all R1.out HL1.out HBG.out ch s gn av).mono ?_
  rw [HMS.out, HL.out]
  rintro e w1 ⟨v1, wv1, rfl, ho1, hr1, hf1⟩
  simp only at ho1 hr1
  obtain ⟨G', t2, hg2⟩ := T1.out.outR hf1 ho1
  have T2 := hid t2
  have HG2 := hid hg2
  have F1 := hid hf1
  obtain ⟨A1, n1, c1, rfl⟩ := hr1.shape
  have ROW1 := hid hr1
  have HWL := hid (Nat.lt_of_lt_of_le (heap_lt G1.out) hf1.size)
  have hFl := T1.out.is.lt
  have HFL := hid hFl
  clear a0 a1 a2 a3 a4 a5 a6 t2 hg2 hf1 ho1 hr1 hL hFl
  have hwl := HWL.out
  obtain ⟨⟨a0, a1, a2, a3, a4, a5, a6⟩, _⟩ := blk7 (F1.out.heapAt G1.out (fun x => x))
  simp only [tup3, Mv.val]
  go_wp2_with fail
  have FX := hid ((Fr.refl (S := E0) (w := w1)).alloc (.cells #[.bool mw, .int .i64 mv, .bool mo, .int .i64 mt, .slice A1 n1 c1] 32))
  have X1 := hid (heap_alloc_new w1 (.cells #[.bool mw, .int .i64 mv, .bool mo, .int .i64 mt, .slice A1 n1 c1] 32))
  clear a0 a1 a2 a3 a4 a5 a6
  generalize w1.alloc _ = W1 at *
  refine (send_all (T2.out.e0 FX.out).is HOK.out (by omega) ch s gn av).mono ?_
  rw [HL.out]
  rintro e w2 ⟨wv2, rfl, hr2, hs2⟩
  simp only at hr2 hs2
  obtain ⟨F', t3, hf3, hfr⟩ := (T2.out.e0 FX.out).step hs2
  obtain ⟨A2, n2, c2, rfl⟩ := hr2.shape
  have hWs := FX.out.size
  have hF1s := F1.out.size
  have X2 := hid (hfr.heapAt X1.out (fun hq => by have h1 := HFL.out _ hq; omega))
  have ROW2 := hid ((ROW1.out.fr FX.out (fun _ _ x => x)).fr hfr (fun q hq hF => by
    have h1 := HFL.out _ hF
    have h2 : W.heap.size ≤ q := ROW1.out.2 q hq
    omega))
  have T3 := hid t3
  have HF3 := hid hf3
  have HFR := hid hfr
  have ROWB := hid hr2
  have hMl := heap_lt X2.out
  clear hs2 t3 hf3 hfr hr2 hWs hF1s
  obtain ⟨⟨b0, b1, b2, b3, b4⟩, _⟩ := blk5 X2.out
  have z1 : ((err == err) : Bool) = true := by simp
  simp only [tup2, Mv.val]
  go_wp2_with fail
  have FY := hid ((Fr.refl (S := E0) (w := w2)).alloc (.cells #[.bool mw, .int .i64 mv, .bool mo, .int .i64 mt, .slice A2 n2 c2] 32))
  clear b0 b1 b2 b3 b4
  generalize w2.alloc _ = W2 at *
  refine (same_mv ⟨mw, mv, mo, mt, mk⟩ (.slice A1 n1 c1) (.slice A2 n2 c2) W2 ((ROW2.out.fr FY.out (fun _ _ x => x)).rd (by decide) (wks_len _)) ((ROWB.out.fr FY.out (fun _ _ x => x)).rd (by decide) (wks_len _))).mono ?_
  rintro e w3 ⟨rfl, hf3⟩
  have HD := hid (does_end FA.out (F1.out.trans FX.out) HG2.out HF3.out (HFR.out.trans (FY.out.trans hf3).e0) (T3.out.e0 (FY.out.trans hf3)))
  clear hf3
  go_wp2_with fail
  go_ret2
  rw [HL.out]
  exact HD.out
set_option maxRecDepth 8000 in
set_option maxHeartbeats 4000000 in
theorem does_recv {w : World} {F G : Nat → Prop} {g N : Nat} {l : List Ch} {v : Value} (h : Both w F G g l v l) (hok : Ok N l) (hN : N + 1 ≤ 4194304) (ch s gn av c : Int) (send : Bool) :
    Calls Try.prog 27 #[.pointer (some ⟨g, 0, none⟩), v, (ActD.val ⟨2, ch, s, gn, av, c, send⟩)] w (DoesPost F G g (actL l ⟨2, ch, s, gn, av, c, send⟩) w) := by
  have HPO : actL l ⟨2, ch, s, gn, av, c, send⟩ = (recvL l ch s gn).1 := by simp [actL]
  rw [HPO]
  clear HPO
  obtain ⟨ms, hrd, hms⟩ := h.rd
  obtain ⟨A, vc, rfl, hmx, _, _⟩ := hrd.form
  have G1 := hid (heap_alloc_new w (.cells #[.int .i64 2, .int .i64 ch, .int .i64 s, .int .i64 gn, .int .i64 av, .int .i64 c, .bool send] 56))
  have FA := hid ((Fr.refl (S := E0) (w := w)).alloc (.cells #[.int .i64 2, .int .i64 ch, .int .i64 s, .int .i64 gn, .int .i64 av, .int .i64 c, .bool send] 56))
  have HWS := hid (show (w.alloc (.cells #[.int .i64 2, .int .i64 ch, .int .i64 s, .int .i64 gn, .int .i64 av, .int .i64 c, .bool send] 56)).heap.size = w.heap.size + 1 by simp)
  have T1 := hid (h.e0 FA.out)
  have HFw := hid h.is.lt
  have R1 := hid (hrd.fr FA.out)
  have HMS := hid hms
  have HOK := hid hok
  have hl := hok.len
  have hlm : ms.length = l.length := by rw [← hms, chs_len]
  have HLM := hid hlm
  have HBG := hid (show ∀ c ∈ chs ms, BigC c by rw [hms]; exact hok.big (by omega))
  have HL1 := hid (show ms.length ≤ 1024 by omega)
  rw [hlm] at hmx R1 T1 ⊢
  clear h hok hrd hms hlm
  simp only [ActD.val]
  go_enter Try.func27, Try.ntmps27
  go_wp2_with fail
  generalize w.alloc _ = W at *
  obtain ⟨⟨a0, a1, a2, a3, a4, a5, a6⟩, _⟩ := blk7 G1.out
  obtain ⟨l', ⟨mw, mv, mo, mt, mk⟩, err, hL⟩ : ∃ l' m err, recvL l ch s gn = (l', m, err) := ⟨_, _, _, rfl⟩
  have HL := hid hL
  refine (rrecv_all R1.out HL1.out HBG.out ch s gn).mono ?_
  rw [HMS.out, HL.out]
  rintro e w1 ⟨v1, wv1, rfl, ho1, hr1, hf1⟩
  simp only at ho1 hr1
  obtain ⟨G', t2, hg2⟩ := T1.out.outR hf1 ho1
  have T2 := hid t2
  have HG2 := hid hg2
  have F1 := hid hf1
  obtain ⟨A1, n1, c1, rfl⟩ := hr1.shape
  have ROW1 := hid hr1
  have HWL := hid (Nat.lt_of_lt_of_le (heap_lt G1.out) hf1.size)
  have hFl := T1.out.is.lt
  have HFL := hid hFl
  clear a0 a1 a2 a3 a4 a5 a6 t2 hg2 hf1 ho1 hr1 hL hFl
  have hwl := HWL.out
  obtain ⟨⟨a0, a1, a2, a3, a4, a5, a6⟩, _⟩ := blk7 (F1.out.heapAt G1.out (fun x => x))
  simp only [tup3, Mv.val]
  go_wp2_with fail
  have FX := hid ((Fr.refl (S := E0) (w := w1)).alloc (.cells #[.bool mw, .int .i64 mv, .bool mo, .int .i64 mt, .slice A1 n1 c1] 32))
  have X1 := hid (heap_alloc_new w1 (.cells #[.bool mw, .int .i64 mv, .bool mo, .int .i64 mt, .slice A1 n1 c1] 32))
  clear a0 a1 a2 a3 a4 a5 a6
  generalize w1.alloc _ = W1 at *
  refine (recv_all (T2.out.e0 FX.out).is HOK.out (by omega) ch s gn).mono ?_
  rw [HL.out]
  rintro e w2 ⟨wv2, rfl, hr2, hs2⟩
  simp only at hr2 hs2
  obtain ⟨F', t3, hf3, hfr⟩ := (T2.out.e0 FX.out).step hs2
  obtain ⟨A2, n2, c2, rfl⟩ := hr2.shape
  have hWs := FX.out.size
  have hF1s := F1.out.size
  have X2 := hid (hfr.heapAt X1.out (fun hq => by have h1 := HFL.out _ hq; omega))
  have ROW2 := hid ((ROW1.out.fr FX.out (fun _ _ x => x)).fr hfr (fun q hq hF => by
    have h1 := HFL.out _ hF
    have h2 : W.heap.size ≤ q := ROW1.out.2 q hq
    omega))
  have T3 := hid t3
  have HF3 := hid hf3
  have HFR := hid hfr
  have ROWB := hid hr2
  have hMl := heap_lt X2.out
  clear hs2 t3 hf3 hfr hr2 hWs hF1s
  obtain ⟨⟨b0, b1, b2, b3, b4⟩, _⟩ := blk5 X2.out
  have z1 : ((err == err) : Bool) = true := by simp
  simp only [tup2, Mv.val]
  go_wp2_with fail
  have FY := hid ((Fr.refl (S := E0) (w := w2)).alloc (.cells #[.bool mw, .int .i64 mv, .bool mo, .int .i64 mt, .slice A2 n2 c2] 32))
  clear b0 b1 b2 b3 b4
  generalize w2.alloc _ = W2 at *
  refine (same_mv ⟨mw, mv, mo, mt, mk⟩ (.slice A1 n1 c1) (.slice A2 n2 c2) W2 ((ROW2.out.fr FY.out (fun _ _ x => x)).rd (by decide) (wks_len _)) ((ROWB.out.fr FY.out (fun _ _ x => x)).rd (by decide) (wks_len _))).mono ?_
  rintro e w3 ⟨rfl, hf3⟩
  have HD := hid (does_end FA.out (F1.out.trans FX.out) HG2.out HF3.out (HFR.out.trans (FY.out.trans hf3).e0) (T3.out.e0 (FY.out.trans hf3)))
  clear hf3
  go_wp2_with fail
  go_ret2
  rw [HL.out]
  exact HD.out
def ClosePost2 (F G : Nat → Prop) (g : Nat) (l' : List Ch) (v : Value) (l2 : List Ch) (m : Mv) (w : World) (e : Ending) (w' : World) : Prop :=
  ∃ wv, e = .returned (m.val wv) ∧ (∃ H : Nat → Prop, RowF w' H 39 6 wv (wks m.woken)) ∧ ∃ F', Both w' F' G g l' v l2 ∧ (∀ k, F' k → F k ∨ w.heap.size ≤ k) ∧ Fr F w w'
theorem close_at {w : World} {F G : Nat → Prop} {g N : Nat} {l l2 l' : List Ch} {v : Value} {m : Mv} (h : Both w F G g l v l2) (hok : Ok N l) (hN : (N + 1) * 48 ≤ 140737488355328) (ch : Int) (hL : closeL l ch = (l', m)) :
    Calls Try.prog 30 #[.pointer (some ⟨g, 0, none⟩), .int .i64 ch] w (ClosePost2 F G g l' v l2 m w) := by
  have h1 := close_all h.is hok hN ch
  rw [hL] at h1
  refine h1.mono ?_
  rintro e w' ⟨wv, he, hr, hs⟩
  exact ⟨wv, he, hr, h.step hs⟩
theorem keepBM {w : World} {B M : Nat} {k ch s g v c sd m0 m1 m2 m3 m4 : Value} (hB : w.heap[B]? = some (.cells #[k, ch, s, g, v, c, sd] 56 (0, 0))) (hM : w.heap[M]? = some (.cells #[m0, m1, m2, m3, m4] 32 (0, 0))) :
    w.cell? ⟨B, 1, none⟩ = some ch ∧ w.cell? ⟨M, 0, none⟩ = some m0 ∧ w.cell? ⟨M, 1, none⟩ = some m1 ∧ w.cell? ⟨M, 2, none⟩ = some m2 ∧ w.cell? ⟨M, 3, none⟩ = some m3 ∧ w.cell? ⟨M, 4, none⟩ = some m4 :=
  ⟨cell_of_row w _ 1 _ _ _ hB, cell_of_row w _ 0 _ _ _ hM, cell_of_row w _ 1 _ _ _ hM, cell_of_row w _ 2 _ _ _ hM, cell_of_row w _ 3 _ _ _ hM, cell_of_row w _ 4 _ _ _ hM⟩
theorem rowKeep {W w1 W1 w2 : World} {F : Nat → Prop} {e sz : Nat} {v : Value} {xs : List Value} (h : RowF w1 (New W) e sz v xs) (fx : Fr E0 w1 W1) (hfr : Fr F W1 w2) (hF : ∀ k, F k → k < W.heap.size) : RowF w2 (New W) e sz v xs :=
  (h.fr fx (fun _ _ x => x)).fr hfr (fun q hq hq' => by
    have h1 := hF _ hq'
    have h2 : W.heap.size ≤ q := h.2 q hq
    omega)
theorem same_agg (mw : Bool) (mv : Int) (mo : Bool) (mt : Int) (mk : List Wk) (A1 : Option Addr) (n1 c1 : Nat) (A2 : Option Addr) (n2 c2 : Nat) (w : World) {F1 F2 : Nat → Prop} (h1 : RowF w F1 39 6 (.slice A1 n1 c1) (wks mk)) (h2 : RowF w F2 39 6 (.slice A2 n2 c2) (wks mk)) :
    Calls Try.prog 51 #[.agg #[.bool mw, .int .i64 mv, .bool mo, .int .i64 mt, .slice A1 n1 c1], .agg #[.bool mw, .int .i64 mv, .bool mo, .int .i64 mt, .slice A2 n2 c2]] w (Ret (.bool true) E0 w) :=
  same_mv ⟨mw, mv, mo, mt, mk⟩ (.slice A1 n1 c1) (.slice A2 n2 c2) w (h1.rd (by decide) (wks_len _)) (h2.rd (by decide) (wks_len _))
set_option maxRecDepth 8000 in
set_option maxHeartbeats 4000000 in
theorem does_close {w : World} {F G : Nat → Prop} {g N : Nat} {l : List Ch} {v : Value} (h : Both w F G g l v l) (hok : Ok N l) (hN : N + 1 ≤ 4194304) (ch s gn av c : Int) (send : Bool) :
    Calls Try.prog 27 #[.pointer (some ⟨g, 0, none⟩), v, (ActD.val ⟨3, ch, s, gn, av, c, send⟩)] w (DoesPost F G g (actL l ⟨3, ch, s, gn, av, c, send⟩) w) := by
  have HPO : actL l ⟨3, ch, s, gn, av, c, send⟩ = (closeL l ch).1 := by simp [actL]
  rw [HPO]
  clear HPO
  obtain ⟨ms, hrd, hms⟩ := h.rd
  obtain ⟨A, vc, rfl, hmx, _, _⟩ := hrd.form
  have G1 := hid (heap_alloc_new w (.cells #[.int .i64 3, .int .i64 ch, .int .i64 s, .int .i64 gn, .int .i64 av, .int .i64 c, .bool send] 56))
  have FA := hid ((Fr.refl (S := E0) (w := w)).alloc (.cells #[.int .i64 3, .int .i64 ch, .int .i64 s, .int .i64 gn, .int .i64 av, .int .i64 c, .bool send] 56))
  have HWS := hid (show (w.alloc (.cells #[.int .i64 3, .int .i64 ch, .int .i64 s, .int .i64 gn, .int .i64 av, .int .i64 c, .bool send] 56)).heap.size = w.heap.size + 1 by simp)
  have T1 := hid (h.e0 FA.out)
  have HFw := hid h.is.lt
  have R1 := hid (hrd.fr FA.out)
  have HMS := hid hms
  have HOK := hid hok
  have hl := hok.len
  have hlm : ms.length = l.length := by rw [← hms, chs_len]
  have HLM := hid hlm
  have HBG := hid (show ∀ c ∈ chs ms, BigC c by rw [hms]; exact hok.big (by omega))
  have HL1 := hid (show ms.length ≤ 1024 by omega)
  rw [hlm] at hmx R1 T1 ⊢
  clear h hok hrd hms hlm
  simp only [ActD.val]
  go_enter Try.func27, Try.ntmps27
  go_wp2_with fail
  generalize w.alloc _ = W at *
  obtain ⟨⟨a0, a1, a2, a3, a4, a5, a6⟩, _⟩ := blk7 G1.out
  obtain ⟨l', ⟨mw, mv, mo, mt, mk⟩, hL⟩ : ∃ l' m, closeL l ch = (l', m) := ⟨_, _, rfl⟩
  have HL := hid hL
  refine (rclose_all R1.out HL1.out HBG.out ch).mono ?_
  rw [HMS.out, HL.out]
  rintro e w1 ⟨v1, wv1, rfl, ho1, hr1, hf1⟩
  simp only at ho1 hr1
  obtain ⟨G', t2, hg2⟩ := T1.out.outR hf1 ho1
  have T2 := hid t2
  have HG2 := hid hg2
  have F1 := hid hf1
  obtain ⟨A1, n1, c1, rfl⟩ := hr1.shape
  have ROW1 := hid hr1
  have HWL := hid (Nat.lt_of_lt_of_le (heap_lt G1.out) hf1.size)
  have HFL := hid T1.out.is.lt
  have hwl := HWL.out
  clear a0 a1 a2 a3 a4 a5 a6 t2 hg2 hf1 ho1 hr1 hL
  simp only [tup2, Mv.val]
  go_wp2_with fail
  have FX := hid ((Fr.refl (S := E0) (w := w1)).alloc (.cells #[.bool mw, .int .i64 mv, .bool mo, .int .i64 mt, .slice A1 n1 c1] 32))
  have X1 := hid (heap_alloc_new w1 (.cells #[.bool mw, .int .i64 mv, .bool mo, .int .i64 mt, .slice A1 n1 c1] 32))
  generalize w1.alloc _ = W1 at *
  have T2' := hid (T2.out.e0 (FX.out.drew))
  have S0 := hid (keepBM (w := W1.drew) (F1.out.trans FX.out |>.heapAt G1.out (fun x => x)) X1.out)
  go_region_held3 (fun w' => w'.cell? ⟨w.heap.size, 1, none⟩ = some (.int .i64 ch) ∧ w'.cell? ⟨w1.heap.size, 0, none⟩ = some (.bool mw) ∧ w'.cell? ⟨w1.heap.size, 1, none⟩ = some (.int .i64 mv) ∧ w'.cell? ⟨w1.heap.size, 2, none⟩ = some (.bool mo) ∧ w'.cell? ⟨w1.heap.size, 3, none⟩ = some (.int .i64 mt) ∧ w'.cell? ⟨w1.heap.size, 4, none⟩ = some (.slice A1 n1 c1))
    (with_reducible first | exact S0.out | exact k1.out | exact k2.out)
    (first
      | (go_at_call 30; ((with_reducible refine (close_at T2'.out HOK.out (by omega) ch HL.out).mono ?_); rintro e w2 ⟨wv2, rfl, ⟨H2, hr2⟩, F', t3, hf3, hfr⟩); obtain ⟨A2, n2, c2, rfl⟩ := hr2.shape; have T3 := hid t3; have HF3 := hid hf3; have HFR := hid hfr; have ROWB := hid hr2; have k1 := hid (keepBM (HFR.out.heapAt (w := W1.drew) ((F1.out.trans FX.out).heapAt G1.out (fun x => x)) (fun hq => Nat.lt_irrefl _ (HFw.out _ hq))) (HFR.out.heapAt (w := W1.drew) X1.out (fun hq => Nat.lt_irrefl _ (Nat.lt_of_lt_of_le (HFL.out _ hq) F1.out.size)))); simp only [Mv.val]; clear t3 hf3 hfr hr2)
      | (go_at_call 51; ((with_reducible refine (same_agg mw mv mo mt mk A1 n1 c1 A2 n2 c2 w2 (rowKeep ROW1.out (FX.out.drew) HFR.out HFL.out) ROWB.out).mono ?_); rintro e w3 ⟨rfl, hf4⟩); have k2 := hid (show _ ∧ _ ∧ _ ∧ _ ∧ _ ∧ _ from ⟨hf4.cell k1.out.1 (fun x => x), hf4.cell k1.out.2.1 (fun x => x), hf4.cell k1.out.2.2.1 (fun x => x), hf4.cell k1.out.2.2.2.1 (fun x => x), hf4.cell k1.out.2.2.2.2.1 (fun x => x), hf4.cell k1.out.2.2.2.2.2 (fun x => x)⟩); have F4 := hid hf4; clear hf4))
  all_goals
    have HD := hid (does_end FA.out (F1.out.trans FX.out.drew) HG2.out HF3.out (HFR.out.trans F4.out.e0) (T3.out.e0 F4.out))
    go_wp2_with fail
    go_ret2
    rw [HL.out]
    exact HD.out
end Go.Proofs.Yteffmnohgnmanaa
/- A script of acts on both: what is so behind each. -/
namespace Go.Proofs.Yteffmnohgnmanaa
open Go.RowKit
set_option linter.unusedVariables false
theorem does_all {w : World} {F G : Nat → Prop} {g N : Nat} {l : List Ch} {v : Value} (h : Both w F G g l v l) (hok : Ok N l) (hN : N + 1 ≤ 4194304) (a : ActD) :
    Calls Try.prog 27 #[.pointer (some ⟨g, 0, none⟩), v, a.val] w (DoesPost F G g (actL l a) w) := by
  obtain ⟨kind, ch, s, gn, av, c, send⟩ := a
  by_cases h0 : kind = 0
  · subst h0; exact does_make h hok hN ch s gn av c send
  by_cases h1 : kind = 1
  · subst h1; exact does_send h hok hN ch s gn av c send
  by_cases h2 : kind = 2
  · subst h2; exact does_recv h hok hN ch s gn av c send
  by_cases h3 : kind = 3
  · subst h3; exact does_close h hok hN ch s gn av c send
  by_cases h4 : kind = 4
  · subst h4
    cases hft : fitsL l ch ⟨s, gn, c, av⟩ send with
    | true => exact does_wait h hok hN ch s gn av c send hft
    | false => exact does_waitno h hok hN ch s gn av c send hft
  by_cases h5 : kind = 5
  · subst h5; exact does_leave h hok hN ch s gn av c send
  by_cases h6 : kind = 6
  · subst h6; exact does_goes h hok hN ch s gn av c send
  · exact does_else h hok hN kind ch s gn av c (by omega) send
structure Play (w0 w : World) (F G : Nat → Prop) (g : Nat) (v : Value) (l : List Ch) (N : Nat) : Prop where
  both : Both w F G g l v l
  newF : ∀ k, F k → w0.heap.size ≤ k
  newG : ∀ k, G k → w0.heap.size ≤ k
  fr : Fr E0 w0 w
  ok : Ok N l
theorem Play.e0 {w0 w w' : World} {F G : Nat → Prop} {g N : Nat} {v : Value} {l : List Ch} (h : Play w0 w F G g v l N) (hf : Fr E0 w w') : Play w0 w' F G g v l N := ⟨h.both.e0 hf, h.newF, h.newG, h.fr.trans hf, h.ok⟩
def PlayPost (w0 w : World) (F G : Nat → Prop) (g : Nat) (l' : List Ch) (N : Nat) (e : Ending) (w' : World) : Prop :=
  ∃ v' F' G', e = .returned (.tuple #[v', .bool true]) ∧ Play w0 w' F' G' g v' l' N ∧ (∀ k, F' k → F k ∨ w.heap.size ≤ k) ∧ (∀ k, G' k → G k ∨ w.heap.size ≤ k) ∧ Fr F w w'
theorem play_does {w0 w : World} {F G : Nat → Prop} {g N : Nat} {v : Value} {l : List Ch} (h : Play w0 w F G g v l N) (hN : N + 1 ≤ 4194304) (a : ActD) :
    Calls Try.prog 27 #[.pointer (some ⟨g, 0, none⟩), v, a.val] w (PlayPost w0 w F G g (actL l a) (N + 1)) := by
  refine (does_all h.both h.ok hN a).mono ?_
  rintro e w' ⟨v', F', G', he, hb, hF, hG, hf⟩
  have hs := h.fr.size
  refine ⟨v', F', G', he, ⟨hb, fun k hk => ?_, fun k hk => ?_, h.fr.trans' hf (fun k hk => .inr (h.newF k hk)), h.ok.act a⟩, hF, hG, hf⟩
  · rcases hF k hk with hx | hx
    · exact h.newF k hx
    · omega
  · rcases hG k hk with hx | hx
    · exact h.newG k hx
    · omega
/-- The beginning: no channels. -/
theorem Play.start {w0 w : World} {F : Nat → Prop} {g : Nat} (h : Mine w0 w F g []) : Play w0 (w.alloc (.cells #[] 67)) F (fun k => w.heap.size ≤ k ∧ k < (w.alloc (.cells #[] 67)).heap.size) g (.slice (some ⟨w.heap.size, 0, none⟩) 0 0) [] 0 := by
  have hf : Fr E0 w (w.alloc (.cells #[] 67)) := Fr.refl.alloc _
  have ho : OwnCs (w.alloc (.cells #[] 67)) (New w) (.slice (some ⟨w.heap.size, 0, none⟩) 0 0) [] := ⟨rowF_empty w 67 5, fun m hm => by simp at hm, by simp⟩
  refine ⟨⟨h.is.fr hf (fun _ _ x => x), ⟨[], ho.restrict.mono (fun k hk => ⟨hk.1, hk.2⟩), rfl⟩, fun k hk => hk.2, fun k hk hF => ?_⟩, h.new, fun k hk => ?_, h.fr.trans hf, ok_nil⟩
  · have := h.lt k hF; omega
  · have := h.fr.size; omega
/-! ### a list of acts that is read -/
def actsV (l : List ActD) : List Value := l.flatMap ActD.cells
theorem actsV_len (l : List ActD) : (actsV l).length = l.length * 7 := flat_len (f := ActD.cells) (sz := 7) (fun _ => rfl) l
theorem RdL.act {w : World} {b o k : Nat} {l : List ActD} {x : ActD} (h : RdL w b o (actsV l)) (hx : l[k]? = some x) :
    w.cell? ⟨b, o + k * 7, none⟩ = some (.int .i64 x.kind) ∧ w.cell? ⟨b, o + k * 7 + 1, none⟩ = some (.int .i64 x.ch) ∧ w.cell? ⟨b, o + k * 7 + 2, none⟩ = some (.int .i64 x.s) ∧ w.cell? ⟨b, o + k * 7 + 3, none⟩ = some (.int .i64 x.g) ∧ w.cell? ⟨b, o + k * 7 + 4, none⟩ = some (.int .i64 x.v) ∧ w.cell? ⟨b, o + k * 7 + 5, none⟩ = some (.int .i64 x.c) ∧ w.cell? ⟨b, o + k * 7 + 6, none⟩ = some (.bool x.send) := by
  have hg : ∀ j (u : Value), x.cells[j]? = some u → j < 7 → w.cell? ⟨b, o + (k * 7 + j), none⟩ = some u := fun j u hu hj => h _ _ ((flat_get (f := ActD.cells) (sz := 7) (fun _ => rfl) l k j x hx hj).trans hu)
  refine ⟨hg 0 _ rfl (by omega), ?_, ?_, ?_, ?_, ?_, ?_⟩ <;> rw [Nat.add_assoc]
  · exact hg 1 _ rfl (by omega)
  · exact hg 2 _ rfl (by omega)
  · exact hg 3 _ rfl (by omega)
  · exact hg 4 _ rfl (by omega)
  · exact hg 5 _ rfl (by omega)
  · exact hg 6 _ rfl (by omega)
theorem RdA.actAt {w : World} {A : Option Addr} {l : List ActD} {k : Nat} {x : ActD} (h : RdA w A (actsV l)) (hx : l[k]? = some x) : ∃ b o, A = some ⟨b, o, none⟩ ∧ RdL w b o (actsV l) := by
  rcases h with h | h
  · have h2 := congrArg List.length h
    have h3 := lt_of_get hx
    rw [actsV_len] at h2
    have h4 : l.length * 7 = 0 := h2
    omega
  · exact h
theorem play_does7 {w0 w : World} {F G : Nat → Prop} {g N : Nat} {v : Value} {l : List Ch} (h : Play w0 w F G g v l N) (hN : N + 1 ≤ 4194304) (x : ActD) :
    Calls Try.prog 27 #[.pointer (some ⟨g, 0, none⟩), v, .agg #[.int .i64 x.kind, .int .i64 x.ch, .int .i64 x.s, .int .i64 x.g, .int .i64 x.v, .int .i64 x.c, .bool x.send]] w (PlayPost w0 w F G g (actL l x) (N + 1)) := play_does h hN x
theorem told7 {w0 w : World} {F G : Nat → Prop} {g N : Nat} {v : Value} {l : List Ch} (h : Play w0 w F G g v l N) (hN : N ≤ 4194304) (kind ch s gn av c : Int) (send : Bool) :
    Calls Try.prog 28 #[.pointer (some ⟨g, 0, none⟩), v, .agg #[.int .i64 kind, .int .i64 ch, .int .i64 s, .int .i64 gn, .int .i64 av, .int .i64 c, .bool send]] w (Ret (.bool true) E0 w) := told_ok h.both h.ok hN ⟨kind, ch, s, gn, av, c, send⟩
set_option maxRecDepth 8000 in
set_option maxHeartbeats 4000000 in
theorem plays_walk (acts : List ActD) (sv : Value) (w : World) (hs : RdV w sv 7 (actsV acts)) (hsz : acts.length ≤ 1048576) : Calls Try.prog 5 #[sv] w (Ret (.bool true) E0 w) := by
  obtain ⟨A, n, c, rfl, hl, _, _, hr⟩ := hs
  obtain rfl : acts.length = n := by rw [actsV_len] at hl; omega
  have HR := hid hr
  clear hl hr
  go_enter Try.func5, Try.ntmps5
  go_wp2_with fail
  refine (new_ok w).mono ?_
  rintro e w1 ⟨g, rfl, hi, hf⟩
  have M1 := hid (Mine.mine_new hi hf)
  clear hi hf
  go_wp2_with fail
  refine (lives_ok w1).mono ?_
  rintro e w2 ⟨rfl, hf⟩
  have P0 := hid (Play.start (M1.out.e0 hf))
  clear hf
  go_wp2_with fail
  generalize hW3 : w2.alloc (.cells #[] 67) = w3 at *
  clear hW3
  go_loopw [4, 5, 6] (fun v ok i wr => ∃ (k : Nat) (F G : Nat → Prop) (l : List Ch), i = .int .i64 k ∧ ok = .bool true ∧ k ≤ acts.length ∧ Play w wr F G g v l k) (fun _ _ i _ => acts.length - (intOf i).toNat)
  case atStart => exact ⟨0, _, _, [], rfl, rfl, Nat.zero_le _, P0.out⟩
  case round =>
    obtain ⟨k, F, G, l, rfl, rfl, hk, hp⟩ := hrel
    have HP := hid hp
    clear hp
    by_cases hlt : k < acts.length
    · obtain ⟨x, hx⟩ : ∃ x, acts[k]? = some x := ⟨acts[k], List.getElem?_eq_getElem hlt⟩
      obtain ⟨b, o, rfl, r⟩ := HR.out.actAt hx
      obtain ⟨c0, c1, c2, c3, c4, c5, c6⟩ := (r.fr HP.out.fr (fun x => x)).act hx
      clear r hx
      go_wp2_with fail
      refine (play_does7 HP.out (by omega) x).mono ?_
      rintro e w4 ⟨v4, F4, G4, rfl, hp4, _, _, _⟩
      have HP4 := hid hp4
      clear hp4 c0 c1 c2 c3 c4 c5 c6
      go_wp2_with fail
      go_roundw
      case rel => exact ⟨k + 1, F4, G4, _, by simp, rfl, by omega, HP4.out⟩
      case measure => simp [intOf]; omega
    · obtain rfl : k = acts.length := by omega
      clear hlt hk
      go_wp2_with fail
      refine (told7 HP.out (by omega) 0 1 0 0 0 0 false).mono ?_
      rintro e w5 ⟨rfl, hf5⟩
      have HP5 := hid (HP.out.e0 hf5)
      clear hf5
      go_wp2_with fail
      refine (told7 HP5.out (by omega) 0 (-1) 0 0 0 0 false).mono ?_
      rintro e w6 ⟨rfl, hf6⟩
      have F6 := hid (HP5.out.fr.trans hf6)
      clear hf6
      go_wp2_with fail
      go_ret
      exact ⟨rfl, F6.out⟩
end Go.Proofs.Yteffmnohgnmanaa
/- ChannelLoads: the walk. -/
namespace Go.Proofs.Yteffmnohgnmanaa
open Go.RowKit
set_option linter.unusedVariables false
theorem ok_loaded {l : List Ch} {N : Nat} (h : loadNo l = false) (hN : ∀ c ∈ l, c.snd.length + c.rcv.length ≤ N) : Ok N l := by
  unfold loadNo at h
  rw [Bool.or_eq_false_iff, decide_eq_false_iff_not] at h
  have ha : ∀ c ∈ l, mayC c = true := by simpa using h.2
  have hb : ∀ c ∈ l, ¬ c.cap < 0 ∧ ¬ 1024 < c.cap ∧ ¬ c.cap < c.vals.length := fun c hc => by
    have := ha c hc
    unfold mayC at this
    rw [Bool.and_eq_true] at this
    have := this.1
    unfold mayA at this
    simp only [Bool.not_eq_true', Bool.or_eq_false_iff, decide_eq_false_iff_not] at this
    exact ⟨this.1.1, this.1.2, this.2⟩
  exact ⟨by omega, fun c hc => by have := hb c hc; omega, fun c hc => by have := hb c hc; omega, hN⟩
/-- The beginning: channels that were loaded on both sides. -/
theorem Play.load {w w1 w2 : World} {F : Nat → Prop} {g N : Nat} {l : List Ch} {v : Value} {ms : List CM} (his : IsCh w1 F g l) (hF : ∀ k, F k → w.heap.size ≤ k) (hf1 : Fr E0 w w1) (hc : chs ms = l) (ho : OwnCs w2 (New w1) v ms) (hf2 : Fr E0 w1 w2) (hok : Ok N l) :
    Play w w2 F (fun k => w1.heap.size ≤ k ∧ k < w2.heap.size) g v l N := by
  refine ⟨⟨his.fr hf2 (fun _ _ x => x), ⟨ms, ho.restrict.mono (fun k hk => ⟨hk.1, hk.2⟩), hc⟩, fun k hk => hk.2, fun k hk hF' => ?_⟩, hF, fun k hk => ?_, hf1.trans hf2, hok⟩
  · have := his.lt k hF'; omega
  · have := hf1.size; omega
theorem state_play {w0 w : World} {F G : Nat → Prop} {g N : Nat} {v : Value} {l : List Ch} (h : Play w0 w F G g v l N) (hN : N ≤ 4194304) : Calls Try.prog 29 #[.pointer (some ⟨g, 0, none⟩)] w (MadeCs l w) := state_all h.both.is h.ok (by omega)
theorem same_play {w0 w1 : World} {F G : Nat → Prop} {g N : Nat} {v v1 : Value} {l : List Ch} {ms1 : List CM} (h : Play w0 w1 F G g v l N) (hc : chs ms1 = l) (ho : RdCs w1 v1 ms1) : Calls Try.prog 42 #[v1, v] w1 (Ret (.bool true) E0 w1) := by
  obtain ⟨ms, h1, h2⟩ := h.both.rd
  exact same_cs l ms1 ms v1 v w1 ho h1 hc h2
set_option maxRecDepth 8000 in
set_option maxHeartbeats 4000000 in
theorem loads_walk (v sv : Value) (ms : List CM) (acts : List ActD) (w : World) (h : RdCs w v ms) (hfit : ∀ c ∈ chs ms, BigC c) (hN : ∀ c ∈ chs ms, c.snd.length + c.rcv.length ≤ 1048576) (hs : RdV w sv 7 (actsV acts)) (hsz : acts.length ≤ 1048576) :
    Calls Try.prog 11 #[v, sv] w (Ret (.bool true) E0 w) := by
  obtain ⟨A, n, c, rfl, hl, _, _, hr⟩ := hs
  obtain rfl : acts.length = n := by rw [actsV_len] at hl; omega
  have HR := hid hr
  have H0 := hid h
  have HB := hid hfit
  have HN := hid hN
  obtain ⟨A0, n0, c0, hv, _⟩ := h.row
  subst hv
  clear hl hr h hfit hN
  go_enter Try.func11, Try.ntmps11
  go_wp2_with fail
  refine (load_ok _ ms w H0.out (fun m hm => by
    obtain ⟨h1, h2, h3⟩ := HB.out m.ch (List.mem_map.2 ⟨m, hm, rfl⟩)
    exact ⟨by omega, by omega, by omega⟩)).mono ?_
  rintro e w1 ⟨hf1, ⟨hno, rfl⟩ | ⟨hno, g, F, rfl, his, hnew⟩⟩
  · have F1 := hid hf1
    have HNO := hid hno
    clear hf1 hno
    simp only [tup2]
    go_wp2_with fail
    refine (rload_ok (H0.out.fr F1.out) HB.out).mono ?_
    rintro e w2 ⟨hf2, ⟨_, rfl⟩ | ⟨hno2, _⟩⟩
    · have F2 := hid (F1.out.trans hf2)
      clear hf2
      simp only [tup2]
      go_wp2_with fail
      refine (lives_ok w2).mono ?_
      rintro e w3 ⟨rfl, hf3⟩
      have F3 := hid (F2.out.trans hf3)
      clear hf3
      go_wp2_with fail
      go_ret
      exact ⟨rfl, F3.out⟩
    · rw [HNO.out] at hno2; cases hno2
  · have F1 := hid hf1
    have HNO := hid hno
    have IS := hid his
    have NEW := hid hnew
    clear hf1 hno his hnew
    simp only [tup2]
    go_wp2_with fail
    refine (rload_ok (H0.out.fr F1.out) HB.out).mono ?_
    rintro e w2 ⟨hf2, ⟨hno2, _⟩ | ⟨_, v2, ms2, rfl, hc2, ho2⟩⟩
    · rw [HNO.out] at hno2; cases hno2
    have P2 := hid (Play.load IS.out NEW.out F1.out hc2 ho2 hf2 (ok_loaded HNO.out HN.out))
    clear hf2 hc2 ho2
    simp only [tup2]
    go_wp2_with fail
    refine (lives_ok w2).mono ?_
    rintro e w3 ⟨rfl, hf3⟩
    have P3 := hid (P2.out.e0 hf3)
    clear hf3
    go_wp2_with fail
    refine (state_play P3.out (by omega)).mono ?_
    rintro e w4 ⟨v4, ms4, rfl, hc4, ho4, hf4⟩
    have P4 := hid (P3.out.e0 hf4)
    have C4 := hid hc4
    have O4 := hid ho4.rd
    clear hf4 hc4 ho4
    go_wp2_with fail
    refine (same_play P4.out C4.out O4.out).mono ?_
    rintro e w5 ⟨rfl, hf5⟩
    have P5 := hid (P4.out.e0 hf5)
    clear hf5
    go_wp2_with fail
    go_loopw [7, 9, 10] (fun v ok i wr => ∃ (k : Nat) (F G : Nat → Prop) (l : List Ch), i = .int .i64 k ∧ ok = .bool true ∧ k ≤ acts.length ∧ Play w wr F G g v l (1048576 + k)) (fun _ _ i _ => acts.length - (intOf i).toNat)
    case atStart => exact ⟨0, _, _, _, rfl, rfl, Nat.zero_le _, P5.out⟩
    case round =>
      obtain ⟨k, F, G, l, rfl, rfl, hk, hp⟩ := hrel
      have HP := hid hp
      clear hp
      by_cases hlt : k < acts.length
      · obtain ⟨x, hx⟩ : ∃ x, acts[k]? = some x := ⟨acts[k], List.getElem?_eq_getElem hlt⟩
        obtain ⟨b, o, rfl, r⟩ := HR.out.actAt hx
        obtain ⟨c0, c1, c2, c3, c4, c5, c6⟩ := (r.fr HP.out.fr (fun x => x)).act hx
        clear r hx
        go_wp2_with fail
        refine (play_does7 HP.out (by omega) x).mono ?_
        rintro e w4 ⟨v4, F4, G4, rfl, hp4, _, _, _⟩
        have HP4 := hid hp4
        clear hp4 c0 c1 c2 c3 c4 c5 c6
        go_wp2_with fail
        go_roundw
        case rel => exact ⟨k + 1, F4, G4, _, by simp, rfl, by omega, HP4.out⟩
        case measure => simp [intOf]; omega
      · obtain rfl : k = acts.length := by omega
        clear hlt hk
        go_wp2_with fail
        refine (state_play HP.out (by omega)).mono ?_
        rintro e w6 ⟨v6, ms6, rfl, hc6, ho6, hf6⟩
        have P6 := hid (HP.out.e0 hf6)
        have C6 := hid hc6
        have O6 := hid ho6.rd
        clear hf6 hc6 ho6
        go_wp2_with fail
        refine (same_play P6.out C6.out O6.out).mono ?_
        rintro e w7 ⟨rfl, hf7⟩
        have F7 := hid (P6.out.fr.trans hf7)
        clear hf7
        go_wp2_with fail
        go_ret
        exact ⟨rfl, F7.out⟩
end Go.Proofs.Yteffmnohgnmanaa
/- rotalaw12.awake: a select of one send into an empty channel goes on. -/
namespace Go.Proofs.Yteffmnohgnmanaa
open Go.RowKit
theorem rdL_block {w : World} {b : Nat} {cs : List Value} {t : TypeId} {fr : Nat × Nat} (h : w.heap[b]? = some (.cells cs.toArray t fr)) : RdL w b 0 cs := by
  intro j u hu
  rw [Nat.zero_add]
  simp [World.cell?, h, hu]
set_option maxHeartbeats 2000000 in
theorem awake_ok (w : World) : Calls Try.prog 37 #[] w (Ret (.bool true) E0 w) := by
  go_enter Try.func37, Try.ntmps37
  go_wp2_with fail
  refine (new_ok w).mono ?_
  rintro e w1 ⟨g, rfl, hi, hf⟩
  have M1 := hid (Mine.mine_new hi hf)
  clear hi hf
  go_wp2_with fail
  refine (make_all M1.out.is ok_nil 1 rfl).mono ?_
  rintro e w2 ⟨rfl, hs⟩
  obtain ⟨F2, m2, _, _⟩ := M1.out.step hs
  have M2 := hid m2
  have K2 := hid (ok_nil.make (c := 1) rfl)
  clear hs m2
  simp only [tup2]
  go_wp2_with fail
  generalize hW : ((w2.alloc (.cells #[.bool true, .int .i64 1, .int .i64 4] 78)).alloc (.cells #[.int .u64 9] 75)) = W
  have FA := hid (show Fr E0 w2 W by rw [← hW]; exact (Fr.refl.alloc _).alloc _)
  have C1 := hid (show W.heap[w2.heap.size]? = some (.cells #[.bool true, .int .i64 1, .int .i64 4] 78 (0, 0)) by rw [← hW]; exact heap_alloc2_old w2 _ _)
  have D1 := hid (show W.heap[w2.heap.size + 1]? = some (.cells #[.int .u64 9] 75 (0, 0)) by rw [← hW]; exact heap_alloc2_new w2 _ _)
  clear hW
  have M3 := hid (M2.out.e0 FA.out)
  have HL := hid M2.out.lt
  have RC := hid (show RdOut F2 W (.slice (some ⟨w2.heap.size, 0, none⟩) 1 1) 3 (pks [⟨true, 1, 4⟩]) from
    RdV.out ⟨_, _, _, rfl, rfl, Nat.le_refl _, by unfold maxLen; omega, .inr ⟨_, _, rfl, rdL_block (cs := [.bool true, .int .i64 1, .int .i64 4]) C1.out⟩⟩ (fun b o sp hF hx => by
      obtain ⟨n, c, he⟩ := hx
      cases he
      have := HL.out _ hF; omega))
  have RD := hid (show RdV W (.slice (some ⟨w2.heap.size + 1, 0, none⟩) 1 1) 1 (us [9]) from
    ⟨_, _, _, rfl, rfl, Nat.le_refl _, by unfold maxLen; omega, .inr ⟨_, _, rfl, rdL_block (cs := [.int .u64 9]) D1.out⟩⟩)
  refine (sel_all M3.out.is K2.out (by omega) 1 1 [⟨true, 1, 4⟩] (.slice (some ⟨w2.heap.size, 0, none⟩) 1 1) false [9] (.slice (some ⟨w2.heap.size + 1, 0, none⟩) 1 1) RC.out (by decide) RD.out (by simp) [{ newCh 1 with vals := [4] }] ⟨0, false, { ok := true }⟩ 0 (by decide)).mono ?_
  rintro e w3 ⟨wv, rfl, hr, hs⟩
  obtain ⟨F3, m3, _, _⟩ := M3.out.step hs
  have M4 := hid m3
  obtain ⟨A4, n4, c4, rfl⟩ := hr.shape
  clear hr hs m3
  simp only [tup2, Cho.val]
  go_wp2_with fail
  have M5 := hid (M4.out.e0 (Fr.refl.alloc (.cells #[.int .i64 0, .bool false, .bool false, .int .i64 0, .bool true, .int .i64 0, .slice A4 n4 c4] 47)))
  obtain ⟨⟨y0, _, _, _, y4, _, _⟩, _⟩ := blk7 (heap_alloc_new w3 (.cells #[.int .i64 0, .bool false, .bool false, .int .i64 0, .bool true, .int .i64 0, .slice A4 n4 c4] 47))
  refine (len_all M5.out.is 1).mono ?_
  rintro e w4 ⟨rfl, rfl⟩
  rw [show lenL [{ newCh 1 with vals := [4] }] 1 = 1 from by decide, show trapC [{ newCh 1 with vals := [4] }] 1 = 0 from by decide]
  simp only [tup2]
  go_wp2
  go_ret
  exact ⟨rfl, M5.out.fr⟩
end Go.Proofs.Yteffmnohgnmanaa
/- rotaref12.Same; ChooseSelects: the walk. Printed by wip/gen/selects.py. -/
namespace Go.Proofs.Yteffmnohgnmanaa
open Go.RowKit
set_option linter.unusedVariables false
attribute [local go_sem ↓] Go.wp_at_zero Go.wp_at_succ
set_option maxRecDepth 8000 in
set_option maxHeartbeats 4000000 in
theorem same_cho (c : Cho) (v1 v2 : Value) (w : World) (h1 : RdV w v1 6 (wks c.m.woken)) (h2 : RdV w v2 6 (wks c.m.woken)) : Calls Try.prog 48 #[c.val v1, c.val v2] w (Ret (.bool true) E0 w) := by
  obtain ⟨ca, df, ⟨wt, va, ok, tr, l⟩⟩ := c
  have R1 := hid h1
  have R2 := hid h2
  obtain ⟨A1, n, c1, rfl, _⟩ := h1
  obtain ⟨A2, n2, c2, rfl, _⟩ := h2
  have FW := hid (((Fr.refl (S := E0) (w := w)).alloc (.cells #[.int .i64 ca, .bool df, .bool wt, .int .i64 va, .bool ok, .int .i64 tr, .slice A1 n c1] 47)).alloc (.cells #[.int .i64 ca, .bool df, .bool wt, .int .i64 va, .bool ok, .int .i64 tr, .slice A2 n2 c2] 47))
  have z1 : ((ca == ca) : Bool) = true := by simp
  have z2 : ((df == df) : Bool) = true := by simp
  simp only [Cho.val]
  go_enter Try.func48, Try.ntmps48
  go_wp2_with fail
  refine (same_mv ⟨wt, va, ok, tr, l⟩ (.slice A1 n c1) (.slice A2 n2 c2) _ (R1.out.fr FW.out) (R2.out.fr FW.out)).mono ?_
  rintro e w1 ⟨rfl, hf1⟩
  have F1 := hid (FW.out.trans hf1)
  clear hf1
  go_wp2_with fail
  go_ret
  exact ⟨rfl, F1.out⟩
theorem same_cho7 (ca : Int) (df mw : Bool) (mv : Int) (mo : Bool) (mt : Int) (mk : List Wk) (A1 : Option Addr) (n1 c1 : Nat) (A2 : Option Addr) (n2 c2 : Nat) (w : World) {F1 F2 : Nat → Prop} (h1 : RowF w F1 39 6 (.slice A1 n1 c1) (wks mk)) (h2 : RowF w F2 39 6 (.slice A2 n2 c2) (wks mk)) :
    Calls Try.prog 48 #[.agg #[.int .i64 ca, .bool df, .bool mw, .int .i64 mv, .bool mo, .int .i64 mt, .slice A1 n1 c1], .agg #[.int .i64 ca, .bool df, .bool mw, .int .i64 mv, .bool mo, .int .i64 mt, .slice A2 n2 c2]] w (Ret (.bool true) E0 w) :=
  same_cho ⟨ca, df, ⟨mw, mv, mo, mt, mk⟩⟩ (.slice A1 n1 c1) (.slice A2 n2 c2) w (h1.rd (by decide) (wks_len _)) (h2.rd (by decide) (wks_len _))
theorem wf64 {d : Int} (h : (Lit.int .u64 d).wf = true) : 0 ≤ d ∧ d < 18446744073709551616 := by
  simp [Lit.wf, IntKind.min, IntKind.max, IntKind.signed, IntKind.bits] at h; omega
theorem ok_select {N : Nat} {l : List Ch} (h : Ok N l) (gs gg : Int) (cases : List Pk) (dft : Bool) (draws : List Int) (l' : List Ch) (r : Cho) (err : Int) (hs : selL l gs gg cases dft draws = (l', r, err)) : Ok (N + 17) l' := by
  unfold selL at hs
  split at hs
  · cases hs; exact h.mono (by omega)
  rename_i he
  split at hs
  · cases hs; exact h.mono (by omega)
  split at hs
  · cases hs; exact h.mono (by omega)
  have h0 : (orderL (cases.length : Int) draws).2 = 0 := by simpa using he
  obtain ⟨q1, _, _⟩ := orderL_zero h0
  unfold selGo at hs
  split at hs
  · cases hs
    unfold carryL
    split
    · exact (h.send _ _ _ _).mono (by omega)
    · exact (h.recv _ _ _).mono (by omega)
  · split at hs
    · cases hs; exact h.mono (by omega)
    · cases hs; exact (ok_waitK h gs gg cases cases.length).mono (by omega)
/-- Behind both selects. -/
structure Two2 (w0 w : World) (F G : Nat → Prop) (g : Nat) (v : Value) (l : List Ch) (N : Nat) : Prop extends Play w0 w F G g v l N
set_option maxRecDepth 8000 in
set_option maxHeartbeats 8000000 in
theorem selects_walk (v : Value) (ms : List CM) (x : Ask) (w : World) (h : RdCs w v ms) (hfit : ∀ c ∈ chs ms, BigC c) (hN : ∀ c ∈ chs ms, c.snd.length + c.rcv.length ≤ 1048576) (hx : x.Ok w) (hn : x.cases.length ≤ 1048576) :
    Calls Try.prog 17 #[v, .agg #[.int .i64 x.gs, .int .i64 x.gg, x.cv, .bool x.deflt, x.dv]] w (Ret (.bool true) E0 w) := by
  obtain ⟨gs, gg, cv, cs, dft, dv, draws⟩ := x
  obtain ⟨_, hc, _, hd, hdw⟩ := hx
  simp only at *
  have HC := hid hc
  have HD := hid hd
  have HDW := hid (show ∀ d ∈ draws, 0 ≤ d ∧ d < 18446744073709551616 from fun d hd => wf64 (hdw d hd))
  obtain ⟨CA, cn, cc, rfl, hcl, _, _, _⟩ := hc
  obtain rfl : cs.length = cn := by rw [pks_len] at hcl; omega
  obtain ⟨DA, dn, dc, rfl, _⟩ := hd
  obtain ⟨A, n, c, hv, _⟩ := h.row
  subst hv
  have H0 := hid h
  have HB := hid hfit
  have HN := hid hN
  clear h hcl hdw hfit hN
  go_enter Try.func17, Try.ntmps17
  go_wp2_with fail
  have G0 := hid (heap_alloc_new w (.cells #[.int .i64 gs, .int .i64 gg, .slice CA cs.length cc, .bool dft, .slice DA dn dc] 45))
  have FA := hid ((Fr.refl (S := E0) (w := w)).alloc (.cells #[.int .i64 gs, .int .i64 gg, .slice CA cs.length cc, .bool dft, .slice DA dn dc] 45))
  have HGW := hid (show w.heap.size < (w.alloc (.cells #[.int .i64 gs, .int .i64 gg, .slice CA cs.length cc, .bool dft, .slice DA dn dc] 45)).heap.size by simp)
  generalize w.alloc (.cells #[.int .i64 gs, .int .i64 gg, .slice CA cs.length cc, .bool dft, .slice DA dn dc] 45) = W0 at *
  refine (load_ok _ ms W0 (H0.out.fr FA.out) (fun m hm => by
    obtain ⟨h1, h2, h3⟩ := HB.out m.ch (List.mem_map.2 ⟨m, hm, rfl⟩)
    exact ⟨by omega, by omega, by omega⟩)).mono ?_
  rintro e w1 ⟨hf1, ⟨hno, rfl⟩ | ⟨hno, g, F, rfl, his, hnew⟩⟩
  · have F1 := hid hf1
    have HNO := hid hno
    clear hf1 hno
    simp only [tup2]
    go_wp2_with fail
    refine (rload_ok (H0.out.fr (FA.out.trans F1.out)) HB.out).mono ?_
    rintro e w2 ⟨hf2, ⟨_, rfl⟩ | ⟨hno2, _⟩⟩
    · have F2 := hid ((FA.out.trans F1.out).trans hf2)
      clear hf2
      simp only [tup2]
      go_wp2_with fail
      refine (awake_ok w2).mono ?_
      rintro e w3 ⟨rfl, hf3⟩
      have F3 := hid (F2.out.trans hf3)
      clear hf3
      go_wp2_with fail
      go_ret
      exact ⟨rfl, F3.out⟩
    · rw [HNO.out] at hno2; cases hno2
  · have F1 := hid hf1
    have HNO := hid hno
    have IS := hid his
    have NEW := hid hnew
    clear hf1 hno his hnew
    simp only [tup2]
    go_wp2_with fail
    refine (rload_ok (H0.out.fr (FA.out.trans F1.out)) HB.out).mono ?_
    rintro e w2 ⟨hf2, ⟨hno2, _⟩ | ⟨_, v2, ms2, rfl, hc2, ho2⟩⟩
    · rw [HNO.out] at hno2; cases hno2
    have P2 := hid (Play.load IS.out NEW.out F1.out hc2 ho2 hf2 (ok_loaded HNO.out HN.out))
    clear hf2 hc2 ho2
    simp only [tup2]
    have G2 := hid (P2.out.fr.heapAt G0.out (fun x => x))
    obtain ⟨⟨a0, a1, a2, a3, a4⟩, _⟩ := blk5 G2.out
    obtain ⟨l', ⟨rc, rdf, ⟨mw, mv, mo, mt, mk⟩⟩, err, hS⟩ : ∃ l' r err, selL (chs ms) gs gg cs dft draws = (l', r, err) := ⟨_, _, _, rfl⟩
    have HS := hid hS
    have HF0 := hid (FA.out.trans P2.out.fr)
    have HNF := hid (show ∀ k, F k → w.heap.size < k + 1 from fun k hk => by have h1 := P2.out.newF k hk; have h2 := HGW.out; omega)
    clear hS
    go_wp2_with fail
    refine (sel_all P2.out.both.is P2.out.ok (by decide) gs gg cs _ dft draws _ (HC.out.old HF0.out (fun q hq => by have h1 := HNF.out q hq; omega)) hn (HD.out.fr HF0.out) HDW.out l' ⟨rc, rdf, ⟨mw, mv, mo, mt, mk⟩⟩ err HS.out).mono ?_
    rintro e w3 ⟨wv3, rfl, hr3, hs3⟩
    simp only at hr3
    obtain ⟨F', t3, hf3, hfr⟩ := P2.out.both.step hs3
    obtain ⟨A3, n3, c3, rfl⟩ := hr3.shape
    have T3 := hid t3
    have HF3 := hid hf3
    have R3 := hid hr3
    have F3 := hid (P2.out.fr.trans' hfr (fun q hq => .inr (P2.out.newF q hq)))
    have G3 := hid (F3.out.heapAt G0.out (fun x => x))
    have hb3 := heap_lt G3.out
    clear hs3 hr3 t3 hf3 hfr a0 a1 a2 a3 a4
    obtain ⟨⟨a0, a1, a2, a3, a4⟩, _⟩ := blk5 G3.out
    simp only [tup2, Cho.val]
    go_wp2_with fail
    have X4 := hid (heap_alloc_new w3 (.cells #[.int .i64 rc, .bool rdf, .bool mw, .int .i64 mv, .bool mo, .int .i64 mt, .slice A3 n3 c3] 47))
    have FX := hid ((Fr.refl (S := E0) (w := w3)).alloc (.cells #[.int .i64 rc, .bool rdf, .bool mw, .int .i64 mv, .bool mo, .int .i64 mt, .slice A3 n3 c3] 47))
    have T4 := hid (T3.out.e0 FX.out)
    have R4 := hid (R3.out.fr FX.out (fun _ _ x => x))
    have F4 := hid (F3.out.trans FX.out)
    obtain ⟨ms4, hrd4, hms4⟩ := T4.out.rd
    have RD4 := hid hrd4
    have MS4 := hid hms4
    have OK4 := hid (show Ok 1048576 (chs ms4) by rw [hms4]; exact P2.out.ok)
    clear hrd4 hms4 a0 a1 a2 a3 a4
    generalize w3.alloc _ = w4 at *
    refine (rsel_all RD4.out OK4.out (by decide) gs gg cs _ dft draws _ (HC.out.fr (FA.out.trans F4.out)) hn (HD.out.fr (FA.out.trans F4.out)) HDW.out l' ⟨rc, rdf, ⟨mw, mv, mo, mt, mk⟩⟩ err (by rw [MS4.out]; exact HS.out)).mono ?_
    rintro e w5 ⟨v5, wv5, rfl, ho5, hr5, hf5⟩
    simp only at hr5
    rw [MS4.out] at ho5
    obtain ⟨G', t5, hg5⟩ := T4.out.outR hf5 ho5
    obtain ⟨A5, n5, c5, rfl⟩ := hr5.shape
    have X5 := hid (hf5.heapAt X4.out (fun x => x))
    have T5 := hid t5
    have HG5 := hid hg5
    have R5 := hid hr5
    have R5' := hid (R4.out.fr hf5 (fun _ _ x => x))
    have F5 := hid (F4.out.trans hf5)
    have OK5 := hid (ok_select P2.out.ok gs gg cs dft draws l' _ err HS.out)
    have PL := hid (show Play W0 w5 F' G' g v5 l' (1048576 + 17) from ⟨T5.out, fun k hk => by
      rcases HF3.out k hk with h1 | h1
      · exact P2.out.newF k h1
      · exact Nat.le_trans P2.out.fr.size h1, fun k hk => by
      rcases HG5.out k hk with h1 | h1
      · have := F1.out.size; omega
      · exact Nat.le_trans F4.out.size h1, F5.out, OK5.out⟩)
    have hX5 := heap_lt X5.out
    clear t5 hg5 hr5 hf5 ho5
    obtain ⟨⟨x0, x1, x2, x3, x4, x5, x6⟩, _⟩ := blk7 X5.out
    have zerr : ((err == err) : Bool) = true := by simp
    simp only [tup3, Cho.val]
    go_wp2_with fail
    have FY := hid ((Fr.refl (S := E0) (w := w5)).alloc (.cells #[.int .i64 rc, .bool rdf, .bool mw, .int .i64 mv, .bool mo, .int .i64 mt, .slice A5 n5 c5] 47))
    have P6 := hid (PL.out.e0 FY.out)
    have R6 := hid (R5.out.fr FY.out (fun _ _ x => x))
    have R6' := hid (R5'.out.fr FY.out (fun _ _ x => x))
    clear x0 x1 x2 x3 x4 x5 x6
    generalize w5.alloc _ = w6 at *
    refine (same_cho7 rc rdf mw mv mo mt mk A3 n3 c3 A5 n5 c5 w6 R6'.out R6.out).mono ?_
    rintro e w7 ⟨rfl, hf7⟩
    have P7 := hid (P6.out.e0 hf7)
    clear hf7
    go_wp2_with fail
    refine (state_play P7.out (by decide)).mono ?_
    rintro e w8 ⟨v8, ms8, rfl, hc8, ho8, hf8⟩
    have P8 := hid (P7.out.e0 hf8)
    have C8 := hid hc8
    have O8 := hid ho8.rd
    clear hf8 hc8 ho8
    go_wp2_with fail
    refine (same_play P8.out C8.out O8.out).mono ?_
    rintro e w9 ⟨rfl, hf9⟩
    have F9 := hid (FA.out.trans (P8.out.fr.trans hf9))
    clear hf9
    go_wp2_with fail
    go_ret
    exact ⟨rfl, F9.out⟩
end Go.Proofs.Yteffmnohgnmanaa

/- What a list of channels reads as, as plain data. -/
namespace Go.Proofs.Yteffmnohgnmanaa
open Go.ChangeShapes Go.WideShapes Go.ChangeAt Go.RowKit
theorem cells114 : Try.prog.cellsOf 114 = 4 := by kernel_rfl
theorem cells67 : Try.prog.cellsOf 67 = 5 := by kernel_rfl
theorem cells22 : Try.prog.cellsOf 22 = 1 := by kernel_rfl
theorem cells65 : Try.prog.cellsOf 65 = 1 := by kernel_rfl
theorem opens_wt : Opens 114 Wt.cells (fun _ _ => True) (fun _ => 1) :=
  (opens_struct (total := 4) Try.underlying114 cells114 (.cons (sz := 2) rfl cells37 opens_gid (.cons (sz := 1) rfl cells3 opens_3 (.cons (sz := 1) rfl cells2 opens_2 (opensF_nil 4))))).map
    (fun a => ⟨a.1.1, a.1.2, a.2.1, a.2.2.1⟩) (fun _ => rfl) (fun _ _ _ => trivial) (fun _ => by simp)
def CM.wt (m : CM) : Nat := m.ch.vals.length + m.ch.snd.length + m.ch.rcv.length
theorem opens_cm : Opens 67 CM.cells (fun W m => m.Rd W) CM.wt :=
  (opens_struct (total := 5) Try.underlying67 cells67 (.cons (sz := 1) rfl cells3 opens_3 (.cons (sz := 1) rfl cells22 (opens_slice Try.underlying22 cells2 (by decide) (fun _ => rfl) opens_2)
    (.cons (sz := 1) rfl cells65 (opens_slice Try.underlying65 cells114 (by decide) (fun _ => rfl) opens_wt) (.cons (sz := 1) rfl cells65 (opens_slice Try.underlying65 cells114 (by decide) (fun _ => rfl) opens_wt) (.cons (sz := 1) rfl cells4 opens_4 (opensF_nil 5))))))).map
    (fun a => ⟨⟨a.1, a.2.1.2, a.2.2.1.2, a.2.2.2.1.2, a.2.2.2.2.1⟩, a.2.1.1, a.2.2.1.1, a.2.2.2.1.1⟩) (fun _ => rfl)
    (fun W a h => ⟨by have := h.2.1.1; rw [flatMap_one] at this; exact this, h.2.2.1.1, h.2.2.2.1.1⟩) (fun a => by simp [CM.wt, sum_one]; omega)
theorem opens_cms : Opens 52 (fun vl : Value × List CM => [vl.1]) (fun W vl => RdCs W vl.1 vl.2) (fun vl => (vl.2.map CM.wt).sum + 1) :=
  (opens_slice Try.underlying52 cells67 (by decide) (fun _ => rfl) opens_cm).map id (fun _ => rfl) (fun _ _ h => ⟨h.1, h.2⟩) (fun _ => Nat.le_refl _)
theorem wt_le {l : List CM} {m : CM} (h : m ∈ l) : m.wt ≤ (l.map CM.wt).sum := by
  induction l with
  | nil => simp at h
  | cons x r ih =>
    rcases List.mem_cons.1 h with rfl | h
    · simp
    · have := ih h; simp; omega
end Go.Proofs.Yteffmnohgnmanaa
