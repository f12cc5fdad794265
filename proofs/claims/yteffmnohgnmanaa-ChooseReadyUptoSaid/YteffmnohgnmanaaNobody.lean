/- ChooseNobody: channels that nobody made. -/
import Derived.Test.YteffmnohgnmanaaOrder
import Derived.Test.YteffmnohgnmanaaTrap
import Derived.Test.YteffmnohgnmanaaSelB
namespace Go.Proofs.Yteffmnohgnmanaa
open Go.RowKit
def selNobody (l : List Pk) (dft : Bool) (draws : List Int) : Cho × Int :=
  if (orderL l.length draws).2 ≠ 0 then (⟨-1, false, {}⟩, (orderL l.length draws).2)
  else if l ≠ [] then (⟨-1, false, { trap := 4 }⟩, 0)
  else if dft then (⟨-1, true, {}⟩, 0) else (⟨-1, false, { waits := true }⟩, 0)
theorem pks_len (l : List Pk) : (pks l).length = l.length * 3 := flat_len (f := Pk.cells) (sz := 3) (fun _ => rfl) l
set_option maxHeartbeats 2000000 in
theorem sel_nobody (gs gg : Int) (l : List Pk) (v : Value) (dft : Bool) (draws : List Int) (dv : Value) (w : World) (hv : RdV w v 3 (pks l)) (hn : l.length ≤ 1048576) (hd : RdV w dv 1 (us draws)) (hdw : ∀ d ∈ draws, 0 ≤ d ∧ d < 18446744073709551616) (r : Cho) (err : Int) (hsel : selNobody l dft draws = (r, err)) :
    Calls Try.prog 26 #[.pointer none, .agg #[.int .i64 gs, .int .i64 gg], v, .bool dft, dv] w (Ret (tup2 (r.val (.slice none 0 0)) (.int .i64 err)) E0 w) := by
  have HV := hid hv
  have HD := hid hd
  have HDW := hid hdw
  obtain ⟨A, n, c, rfl, hl, _, _, hr⟩ := hv
  obtain rfl : l.length = n := by rw [pks_len] at hl; omega
  have HS := hid hsel
  clear hl hr hd hdw hsel
  go_enter Try.func26, Try.ntmps26
  go_wp2_with fail
  generalize hW : ((w.alloc (Obj.cells #[Value.int IntKind.i64 gs, Value.int IntKind.i64 gg] 37)).alloc _) = W
  have FA := hid (show Fr E0 w W by rw [← hW]; exact (Fr.refl.alloc _).alloc _)
  have T1 := hid (show W.heap[w.heap.size + 1]? = some (.cells #[Value.int IntKind.i64 0, Value.bool false, Value.bool false, Value.int IntKind.i64 0, Value.bool false, Value.int IntKind.i64 0, Value.slice none 0 0] 47 (0, 0)) by rw [← hW]; exact heap_alloc2_new w _ _)
  have G1 := hid (show W.heap[w.heap.size]? = some (.cells #[Value.int IntKind.i64 gs, Value.int IntKind.i64 gg] 37 (0, 0)) by rw [← hW]; exact heap_alloc2_old w _ _)
  clear hW
  refine (order_ok l.length draws dv W (HD.out.fr FA.out) HDW.out).mono ?_
  rintro e w2 ⟨ov, rfl, hrow, hf2⟩
  simp only [tup2]
  have T2 := hid (hf2.heapAt T1.out (fun x => x))
  have G2 := hid (hf2.heapAt G1.out (fun x => x))
  have F2 := hid (FA.out.trans hf2)
  obtain ⟨⟨k0, k1, k2, k3, k4, k5, k6⟩, z0, z1, z2, z3, z4, z5, z6⟩ := blk7 T2.out
  have g0 := cell_of_row w2 _ 0 _ _ _ G2.out
  have g1 := cell_of_row w2 _ 1 _ _ _ G2.out
  by_cases he : (orderL l.length draws).2 = 0
  · rw [he]
    go_wp2_with fail
    refine (waits_none gs gg w2).mono ?_
    rintro e w3 ⟨rfl, hf3⟩
    have T3 := hid (hf3.heapAt T2.out (fun x => x))
    have F3 := hid (F2.out.trans hf3)
    clear k0 k1 k2 k3 k4 k5 k6 z0 z1 z2 z3 z4 z5 z6
    obtain ⟨⟨k0, k1, k2, k3, k4, k5, k6⟩, z0, z1, z2, z3, z4, z5, z6⟩ := blk7 T3.out
    go_wp2_with fail
    refine (trap_ok (goesAs_none w3) l (.slice A l.length c) (HV.out.fr F3.out) hn).mono ?_
    rintro e w4 ⟨rfl, hf4⟩
    have T4 := hid (hf4.heapAt T3.out (fun x => x))
    have F4 := hid (F3.out.trans hf4)
    clear k0 k1 k2 k3 k4 k5 k6 z0 z1 z2 z3 z4 z5 z6
    obtain ⟨⟨k0, k1, k2, k3, k4, k5, k6⟩, z0, z1, z2, z3, z4, z5, z6⟩ := blk7 T4.out
    cases l with
    | cons p q =>
      have e1 : selNobody (p :: q) dft draws = (⟨-1, false, { trap := 4 }⟩, 0) := by unfold selNobody; rw [if_neg (by simpa using he), if_pos (by simp)]
      have e2 := e1.symm.trans HS.out
      cases e2
      rw [show trapP (fun _ => 4) (p :: q) = 4 from rfl]
      clear e1
      go_wp2_with fail
      exact fin26 (c := ⟨-1, false, { trap := 4 }⟩) rfl rfl rfl (set7_heap T4.out _ _ _ _ _ _ _) ⟨rfl, F4.out.trans' (set7_fr (S := fun q => q = w.heap.size + 1) rfl _ _ _ _ _ _ _) (fun q hq => .inr (by omega))⟩
    | nil =>
      rw [show trapP (fun _ => 4) [] = 0 from rfl]
      have ho : Hid (orderL ([] : List Pk).length draws = ([], 0)) := by show _ = _; unfold orderL; simp [ordN]
      rw [ho.out] at hrow
      have hov : ∃ oA oc, ov = .slice oA 0 oc := by
        obtain ⟨oA, oc, h, _⟩ := hrow.read (n := 0) (by decide) (by simp [ints])
        exact ⟨oA, oc, h⟩
      obtain ⟨oA, oc, rfl⟩ := hov
      cases dft with
      | true =>
        have e1 : selNobody [] true draws = (⟨-1, true, {}⟩, 0) := by unfold selNobody; rw [if_neg (by simpa using he)]; simp
        have e2 := e1.symm.trans HS.out
        cases e2
        clear e1 he hrow
        go_wp2_with fail
        go_loopw [50] (fun i wr => i = .int .i64 0 ∧ w4 = wr) (fun _ _ => 0)
        case atStart => exact ⟨rfl, rfl⟩
        case round =>
          obtain ⟨rfl, rfl⟩ := hrel
          go_wp2_with fail
          exact fin26 (c := ⟨-1, true, {}⟩) rfl rfl rfl (set7_heap T4.out _ _ _ _ _ _ _) ⟨rfl, F4.out.trans' (set7_fr (S := fun q => q = w.heap.size + 1) rfl _ _ _ _ _ _ _) (fun q hq => .inr (by omega))⟩
      | false =>
        have e1 : selNobody [] false draws = (⟨-1, false, { waits := true }⟩, 0) := by unfold selNobody; rw [if_neg (by simpa using he)]; simp
        have e2 := e1.symm.trans HS.out
        cases e2
        clear e1 he hrow
        go_wp2_with fail
        go_loopw [50] (fun i wr => i = .int .i64 0 ∧ w4 = wr) (fun _ _ => 0)
        case atStart => exact ⟨rfl, rfl⟩
        case round =>
          obtain ⟨rfl, rfl⟩ := hrel
          go_wp2_with fail
          go_loopw [89] (fun i wr => i = .int .i64 0 ∧ w4 = wr) (fun _ _ => 0)
          case atStart => exact ⟨rfl, rfl⟩
          case round =>
            obtain ⟨rfl, rfl⟩ := hrel
            go_wp2_with fail
            exact fin26 (c := ⟨-1, false, { waits := true }⟩) rfl rfl rfl (set7_heap T4.out _ _ _ _ _ _ _) ⟨rfl, F4.out.trans' (set7_fr (S := fun q => q = w.heap.size + 1) rfl _ _ _ _ _ _ _) (fun q hq => .inr (by omega))⟩
  · have e1 : selNobody l dft draws = (⟨-1, false, {}⟩, (orderL l.length draws).2) := by unfold selNobody; rw [if_pos he]
    have e2 := e1.symm.trans HS.out
    cases e2
    clear e1 hrow hf2
    have HE := hid he
    have hne : (((orderL l.length draws).2 == 0) : Bool) = false := by simpa using he
    go_wp2_with fail
    exact fin26 (c := ⟨-1, false, {}⟩) rfl rfl rfl (set7_heap T2.out _ _ _ _ _ _ _) ⟨rfl, F2.out.trans' (set7_fr (S := fun q => q = w.heap.size + 1) rfl _ _ _ _ _ _ _) (fun q hq => .inr (by omega))⟩
def Ask.val (x : Ask) : Value := .agg #[.int .i64 x.gs, .int .i64 x.gg, x.cv, .bool x.deflt, x.dv]
theorem wf_u64 {n : Int} (h : (Lit.int .u64 n).wf = true) : 0 ≤ n ∧ n < 18446744073709551616 := by
  have : 0 ≤ n ∧ n ≤ 18446744073709551615 := by simpa [Lit.wf, IntKind.min, IntKind.max, IntKind.signed, IntKind.bits] using h
  omega
set_option maxRecDepth 4000 in
set_option maxHeartbeats 2000000 in
theorem nobody_walk (x : Ask) (w : World) (hx : x.Ok w) (hn : x.cases.length ≤ 1048576) : Calls Try.prog 4 #[x.val] w (Ret (.bool true) E0 w) := by
  obtain ⟨gs, gg, cv, l, dft, dv, draws⟩ := x
  obtain ⟨_, hc, _, hd, hdw⟩ := hx
  simp only at hc hd hdw hn
  have HC := hid hc
  have HD := hid hd
  have HDW := hid hdw
  obtain ⟨A, n, c, rfl, hl, _, _, _⟩ := hc
  obtain rfl : l.length = n := by rw [pks_len] at hl; omega
  obtain ⟨B, m, k, rfl, hm, _, _, _⟩ := hd
  obtain rfl : draws.length = m := by simpa using hm
  clear hl hm hdw
  unfold Ask.val
  simp only
  obtain ⟨r, err, hsel⟩ : ∃ r err, selNobody l dft draws = (r, err) := ⟨_, _, rfl⟩
  have HS := hid hsel
  go_enter Try.func4, Try.ntmps4
  go_wp2_with fail
  refine (sel_nobody gs gg l (.slice A l.length c) dft draws (.slice B draws.length k) _ (HC.out.fr (Fr.refl.alloc _)) hn (HD.out.fr (Fr.refl.alloc _)) (fun d hd => wf_u64 (HDW.out d hd)) r err HS.out).mono ?_
  rintro e w2 ⟨rfl, hf⟩
  obtain ⟨rc, rd, ⟨rw, rv, ro, rt, rk⟩⟩ := r
  have FF := hid (((Fr.refl.alloc _).trans hf).alloc (.cells #[.int .i64 rc, .bool rd, .bool rw, .int .i64 rv, .bool ro, .int .i64 rt, .slice none 0 0] 47))
  have T1 := hid (((Fr.refl (S := E0)).alloc (.cells #[.int .i64 rc, .bool rd, .bool rw, .int .i64 rv, .bool ro, .int .i64 rt, .slice none 0 0] 47)).heapAt (hf.heapAt (heap_alloc_new w _) (fun x => x)) (fun x => x))
  have T2 := hid (heap_alloc_new w2 (.cells #[.int .i64 rc, .bool rd, .bool rw, .int .i64 rv, .bool ro, .int .i64 rt, .slice none 0 0] 47))
  clear hf hsel
  simp only [tup2, Cho.val]
  by_cases he : (orderL l.length draws).2 = 0
  · have h16 : ¬ 16 < l.length := fun h => by unfold orderL at he; rw [if_pos (.inr (by omega))] at he; cases he
    have hdr : ¬ draws.length < l.length := fun h => by unfold orderL at he; rw [if_neg (by omega), if_pos (by omega)] at he; cases he
    cases l with
    | cons p q =>
      have e1 : selNobody (p :: q) dft draws = (⟨-1, false, { trap := 4 }⟩, 0) := by unfold selNobody; rw [if_neg (by simpa using he), if_pos (by simp)]
      have e2 := HS.out.symm.trans e1
      cases e2
      obtain ⟨⟨_, _, x2, x3, x4⟩, _⟩ := blk5 T1.out
      obtain ⟨⟨y0, y1, y2, _, _, y5, _⟩, _⟩ := blk7 T2.out
      have hp : ((p :: q).length : Int) > 0 := by simp
      clear e1 he
      generalize (p :: q).length = n at *
      go_wp2
      go_ret
      exact ⟨rfl, FF.out⟩
    | nil =>
      have e1 : selNobody [] dft draws = (⟨-1, dft, { waits := !dft }⟩, 0) := by unfold selNobody; rw [if_neg (by simpa using he)]; cases dft <;> simp
      have e2 := HS.out.symm.trans e1
      cases e2
      obtain ⟨⟨_, _, x2, x3, x4⟩, _⟩ := blk5 T1.out
      obtain ⟨⟨y0, y1, y2, _, _, y5, _⟩, _⟩ := blk7 T2.out
      clear e1 he
      simp only [List.length_nil] at *
      go_wp2
      go_ret
      exact ⟨by simp, FF.out⟩
  · have e1 : selNobody l dft draws = (⟨-1, false, {}⟩, (orderL l.length draws).2) := by unfold selNobody; rw [if_pos he]
    have e2 := HS.out.symm.trans e1
    have hor : 16 < l.length ∨ (¬ 16 < l.length ∧ draws.length < l.length) := by
      by_cases h : 16 < l.length
      · exact .inl h
      · refine .inr ⟨h, ?_⟩
        apply Classical.byContradiction; intro h2
        apply he; unfold orderL; rw [if_neg (by omega), if_neg (by omega)]
    generalize (orderL l.length draws).2 = er at *
    cases e2
    obtain ⟨⟨_, _, x2, x3, x4⟩, _⟩ := blk5 T1.out
    obtain ⟨⟨y0, y1, y2, _, _, y5, _⟩, _⟩ := blk7 T2.out
    have hne : ((err == 0) : Bool) = false := by simpa using he
    have hne2 : ((err != 0) : Bool) = true := by simpa using he
    clear e1
    rcases hor with h | ⟨h1, h2⟩
    · go_wp2
      go_ret
      exact ⟨rfl, FF.out⟩
    · go_wp2
      go_ret
      exact ⟨rfl, FF.out⟩
end Go.Proofs.Yteffmnohgnmanaa
