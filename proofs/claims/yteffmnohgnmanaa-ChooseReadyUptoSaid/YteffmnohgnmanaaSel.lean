/- choose.Select: the walk. -/
import Derived.Test.YteffmnohgnmanaaSelP
import Derived.Test.YteffmnohgnmanaaNobody
namespace Go.Proofs.Yteffmnohgnmanaa
open Go.RowKit
attribute [local go_sem ↓] Go.wp_at_zero Go.wp_at_succ
def SelPost (F : Nat → Prop) (g : Nat) (w : World) (l' : List Ch) (r : Cho) (err : Int) (e : Ending) (w' : World) : Prop :=
  ∃ wv, e = .returned (tup2 (r.val wv) (.int .i64 err)) ∧ RowF w' (New w) 39 6 wv (wks r.m.woken) ∧ Step F g w l' w'
theorem keepG {w W w' : World} {B o1 o2 : Nat} {a b : Value} (h : Fr E0 w W ∧ W.cell? ⟨B, o1, none⟩ = some a ∧ W.cell? ⟨B, o2, none⟩ = some b) (hf : Fr E0 W w') : Fr E0 w w' ∧ w'.cell? ⟨B, o1, none⟩ = some a ∧ w'.cell? ⟨B, o2, none⟩ = some b :=
  ⟨h.1.trans hf, hf.cell h.2.1 (fun x => x), hf.cell h.2.2 (fun x => x)⟩
theorem carry_agg {w : World} {F : Nat → Prop} {g N : Nat} {l : List Ch} (h : IsCh w F g l) (hok : Ok N l) (hN : (N + 1) * 48 ≤ 140737488355328) (p : Pk) (gs gg : Int) {l' : List Ch} {m : Mv} {er : Int} (hc : carryL l p gs gg = (l', m, er)) :
    Calls Try.prog 58 #[.pointer (some ⟨g, 0, none⟩), .agg #[.int .i64 gs, .int .i64 gg], .agg #[.bool p.send, .int .i64 p.ch, .int .i64 p.v]] w (MvPost F g w l' m er) := by
  have := carry_ok h hok hN p gs gg
  rw [hc] at this; exact this
theorem Step.trans1 {w w1 w2 : World} {F F1 : Nat → Prop} {g : Nat} {l2 : List Ch} (i2 : ∀ k, F1 k → F k ∨ w.heap.size ≤ k) (i3 : Fr F w w1) (h : Step F1 g w1 l2 w2) : Step F g w l2 w2 := by
  obtain ⟨F2, j1, j2, j3⟩ := h
  refine ⟨F2, j1, fun k hk => ?_, i3.trans' j3 i2⟩
  rcases j2 k hk with x | x
  · exact i2 k x
  · exact .inr (Nat.le_trans i3.size x)
theorem wait_agg {w : World} {F : Nat → Prop} {g N : Nat} {l : List Ch} (h : IsCh w F g l) (hok : Ok N l) (hN : (N + 1) * 48 ≤ 140737488355328) (ch gs gg c v : Int) (send : Bool) :
    Calls Try.prog 59 #[.pointer (some ⟨g, 0, none⟩), .int .i64 ch, .agg #[.int .i64 gs, .int .i64 gg, .int .i64 c, .int .i64 v], .bool send] w (WaitPost F g w (waitL l ch ⟨gs, gg, c, v⟩ send).1 (waitL l ch ⟨gs, gg, c, v⟩ send).2) := wait_all h hok hN ch ⟨gs, gg, c, v⟩ send
theorem sizeK {N k n : Nat} (h : (N + 17) * 48 ≤ 140737488355328) (hn : n ≤ 16) (hk : k < n) : (N + k + 1) * 48 ≤ 140737488355328 := Nat.le_trans (Nat.mul_le_mul_right 48 (by omega)) h
theorem newDrew (w : World) (o : Obj) : (w.alloc o).drew.heap[w.heap.size]? = some o := heap_alloc_new w o
theorem fr_set5 {w w' : World} {F : Nat → Prop} {B : Nat} (h : Fr F w w') (hB : w.heap.size ≤ B) (a b c d e : Value) : Fr F w (((((w'.setCell ⟨B, 0, none⟩ a).setCell ⟨B, 1, none⟩ b).setCell ⟨B, 2, none⟩ c).setCell ⟨B, 3, none⟩ d).setCell ⟨B, 4, none⟩ e) :=
  ((((h.setCell (p := ⟨B, 0, none⟩) a (.inr hB)).setCell (p := ⟨B, 1, none⟩) b (.inr hB)).setCell (p := ⟨B, 2, none⟩) c (.inr hB)).setCell (p := ⟨B, 3, none⟩) d (.inr hB)).setCell (p := ⟨B, 4, none⟩) e (.inr hB)
/-- The select's own cells and its case, whatever is written in F. -/
theorem keepC {w w4 : World} {F : Nat → Prop} {n c bv ov i : Nat} {cases : List Pk} {p : Pk} {gs gg : Int} (hv : RdOut F w (.slice (some ⟨bv, ov, none⟩) n c) 3 (pks cases)) (hp : cases[i]? = some p) (hf : Fr E0 w w4) (hg : w4.heap[w.heap.size]? = some (.cells #[.int .i64 gs, .int .i64 gg] 37 (0, 0))) (hlt : ∀ k, F k → k < w.heap.size) :
    ∀ W, Fr F w4 W → (Fr F w4 W ∧ W.cell? ⟨w.heap.size, 0, none⟩ = some (.int .i64 gs) ∧ W.cell? ⟨w.heap.size, 1, none⟩ = some (.int .i64 gg) ∧ W.cell? ⟨bv, ov + i * 3, none⟩ = some (.bool p.send) ∧ W.cell? ⟨bv, ov + i * 3 + 1, none⟩ = some (.int .i64 p.ch) ∧ W.cell? ⟨bv, ov + i * 3 + 2, none⟩ = some (.int .i64 p.v)) := by
  intro W hW
  have hG := hW.heapAt hg (fun x => by have := hlt _ x; omega)
  obtain ⟨_, _, _, ev, _, _, _, rv⟩ := (hv.e0 hf).fr hW
  cases ev
  obtain ⟨_, _, eb, rv2⟩ := rv.at (fun e => by have := congrArg List.length e; rw [pks_len] at this; have h3 := lt_of_get hp; rw [List.length_nil] at this; omega)
  cases eb
  obtain ⟨c0, c1, c2⟩ := pk_at rv2 hp
  exact ⟨hW, cell_of_row W _ 0 _ _ _ hG, cell_of_row W _ 1 _ _ _ hG, c0, c1, c2⟩
set_option maxHeartbeats 16000000 in
theorem sel_all {w : World} {F : Nat → Prop} {g N : Nat} {l : List Ch} (h : IsCh w F g l) (hok : Ok N l) (hN : (N + 17) * 48 ≤ 140737488355328) (gs gg : Int) (cases : List Pk) (v : Value) (dft : Bool) (draws : List Int) (dv : Value)
    (hv : RdOut F w v 3 (pks cases)) (hn : cases.length ≤ 1048576) (hd : RdV w dv 1 (us draws)) (hdw : ∀ d ∈ draws, 0 ≤ d ∧ d < 18446744073709551616) (l' : List Ch) (r : Cho) (err : Int) (hsel : selL l gs gg cases dft draws = (l', r, err)) :
    Calls Try.prog 26 #[.pointer (some ⟨g, 0, none⟩), .agg #[.int .i64 gs, .int .i64 gg], v, .bool dft, dv] w (SelPost F g w l' r err) := by
  have H := hid h
  have HN := hid hN
  have HK := hid hok
  have HV := hid hv
  have HD := hid hd
  have HDW := hid hdw
  obtain ⟨A, n, c, rfl, hl, _, _, _⟩ := hv.here
  obtain rfl : cases.length = n := by rw [pks_len] at hl; omega
  have HS := hid hsel
  clear hl hd hdw hsel h hN hok hv
  go_enter Try.func26, Try.ntmps26
  go_wp2_with fail
  generalize hW : ((w.alloc (Obj.cells #[Value.int IntKind.i64 gs, Value.int IntKind.i64 gg] 37)).alloc _) = W
  have FA := hid (show Fr E0 w W by rw [← hW]; exact (Fr.refl.alloc _).alloc _)
  have T1 := hid (show W.heap[w.heap.size + 1]? = some (.cells #[Value.int IntKind.i64 0, Value.bool false, Value.bool false, Value.int IntKind.i64 0, Value.bool false, Value.int IntKind.i64 0, Value.slice none 0 0] 47 (0, 0)) by rw [← hW]; exact heap_alloc2_new w _ _)
  have G1 := hid (show W.heap[w.heap.size]? = some (.cells #[Value.int IntKind.i64 gs, Value.int IntKind.i64 gg] 37 (0, 0)) by rw [← hW]; exact heap_alloc2_old w _ _)
  have SZ := hid (show W.heap.size = w.heap.size + 2 by rw [← hW]; simp)
  clear hW
  refine (order_ok cases.length draws dv W (HD.out.fr FA.out) HDW.out).mono ?_
  rintro e w2 ⟨ov, rfl, hrow, hf2⟩
  simp only [tup2]
  have T2 := hid (hf2.heapAt T1.out (fun x => x))
  have G2 := hid (hf2.heapAt G1.out (fun x => x))
  have F2 := hid (FA.out.trans hf2)
  obtain ⟨⟨k0, k1, k2, k3, k4, k5, k6⟩, z0, z1, z2, z3, z4, z5, z6⟩ := blk7 T2.out
  have g0 := cell_of_row w2 _ 0 _ _ _ G2.out
  have g1 := cell_of_row w2 _ 1 _ _ _ G2.out
  by_cases he : (orderL cases.length draws).2 = 0
  · obtain ⟨q1, q2, q3⟩ := orderL_zero he
    rw [q3] at hrow
    have HO := hid hrow
    have HQ := hid q3
    have HE := hid he
    rw [he]
    clear hrow q2 q3
    obtain ⟨oA, oc, rfl, _, _, _⟩ := HO.out.read (n := cases.length) (by decide) (by simp [ints, ordN_len])
    go_wp2_with fail
    refine (waits_all (H.out.fr F2.out (fun _ _ x => x)) gs gg).mono ?_
    rintro e w3 ⟨rfl, hf3⟩
    have T3 := hid (hf3.heapAt T2.out (fun x => x))
    have G3 := hid (hf3.heapAt G2.out (fun x => x))
    have F3 := hid (F2.out.trans hf3)
    have O3 := hid (HO.out.fr hf3 (fun _ _ x => x))
    clear k0 k1 k2 k3 k4 k5 k6 z0 z1 z2 z3 z4 z5 z6 hf2 hf3
    obtain ⟨⟨k0, k1, k2, k3, k4, k5, k6⟩, z0, z1, z2, z3, z4, z5, z6⟩ := blk7 T3.out
    cases hw : waitsL gs gg l with
    | true =>
      have e1 : selL l gs gg cases dft draws = (l, ⟨-1, false, {}⟩, 111) := by unfold selL; rw [if_neg (by simpa using HE.out), if_pos hw]
      have e2 := e1.symm.trans HS.out
      cases e2
      clear e1 he
      go_wp2_with fail
      exact fin26 (c := ⟨-1, false, {}⟩) rfl rfl rfl (set7_heap T3.out _ _ _ _ _ _ _) ⟨_, rfl, RowF.nil, Step.wrap H.out F3.out (Step.same (H.out.fr F3.out (fun _ _ x => x)) Fr.refl) (set7_fr (S := fun q => q = w.heap.size + 1) rfl _ _ _ _ _ _ _) (fun q hq => ⟨by omega, by have := F3.out.size; have := heap_lt T3.out; omega⟩)⟩
    | false =>
      have HWt := hid hw
      clear hw he
      go_wp2_with fail
      refine (trap_ok (goesAs_ch (H.out.fr F3.out (fun _ _ x => x))) cases (.slice A cases.length c) (HV.out.e0 F3.out).here hn).mono ?_
      rintro e w4 ⟨rfl, hf4⟩
      have T4 := hid (hf4.heapAt T3.out (fun x => x))
      have G4 := hid (hf4.heapAt G3.out (fun x => x))
      have F4 := hid (F3.out.trans hf4)
      have O4 := hid (O3.out.fr hf4 (fun _ _ x => x))
      clear k0 k1 k2 k3 k4 k5 k6 z0 z1 z2 z3 z4 z5 z6 hf4 g0 g1
      obtain ⟨⟨k0, k1, k2, k3, k4, k5, k6⟩, z0, z1, z2, z3, z4, z5, z6⟩ := blk7 T4.out
      by_cases ht : trapP (trapC l) cases = 0
      · have e1 : selL l gs gg cases dft draws = selGo l gs gg cases dft (pickGo l cases (ordN cases.length draws cases.length)) := by
          unfold selL; rw [if_neg (by simpa using HE.out), if_neg (by rw [HWt.out]; simp), if_neg (by simpa using ht), HQ.out]
        have HG := hid (e1.symm.trans HS.out)
        rw [ht]
        clear e1 ht
        go_wp2_with fail
        go_loopw [50] (fun i wr => ∃ k : Nat, i = .int .i64 k ∧ k ≤ cases.length ∧ Fr E0 w4 wr ∧ pickGo l cases ((ordN cases.length draws cases.length).drop k) = pickGo l cases (ordN cases.length draws cases.length)) (fun i _ => cases.length - (intOf i).toNat)
        case atStart => exact ⟨0, rfl, Nat.zero_le _, Fr.refl, rfl⟩
        case round =>
          obtain ⟨k, rfl, hk, hf, hp⟩ := hrel
          have HF := hid hf
          have HP := hid hp
          clear hf hp k0 k1 k2 k3 k4 k5 k6 z0 z1 z2 z3 z4 z5 z6
          by_cases hlt : k < cases.length
          · obtain ⟨i, hi, hic⟩ := ordN_at (draws := draws) hlt
            obtain ⟨p, hpi⟩ : ∃ p, cases[i]? = some p := ⟨_, List.getElem?_eq_getElem hic⟩
            have O5 := hid (O4.out.fr HF.out (fun _ _ x => x))
            obtain ⟨_, _, eo, _, _, ro⟩ := O5.out.read (n := cases.length) (by decide) (by simp [ints, ordN_len])
            cases eo
            obtain ⟨bo, oo, rfl, ro2⟩ := ro.at (fun e => by have := congrArg List.length e; simp [ints, ordN_len] at this; subst this; simp at hlt)
            have oc1 := ro2 k (.int .i64 (i : Int)) (by simp [ints, hi])
            obtain ⟨_, _, _, ev, _, _, _, rv⟩ := (HV.out.e0 (F4.out.trans HF.out)).here
            cases ev
            obtain ⟨bv, ov, rfl, rv2⟩ := rv.at (fun e => by have := congrArg List.length e; rw [pks_len] at this; simp only [List.length_nil] at this; omega)
            obtain ⟨c0, c1, c2⟩ := pk_at rv2 hpi
            have RV := hid rv2
            have hnx := pickGo_next (l := l) hi hpi
            have HX := hid hnx
            have HI := hid hi
            have HPI := hid hpi
            clear ro ro2 rv rv2 hi hpi hnx
            have i0 : (0 : Int) ≤ (i : Int) := by omega
            have i1 : (i : Int) < (cases.length : Int) := by omega
            go_wp2_with fail
            have HC := hid (And.intro (HF.out.drew) (And.intro c0 c1))
            clear c0 c1 c2 oc1
            go_region_held3 (fun w' => Fr E0 w4 w' ∧ w'.cell? ⟨bv, ov + i * 3, none⟩ = some (.bool p.send) ∧ w'.cell? ⟨bv, ov + i * 3 + 1, none⟩ = some (.int .i64 p.ch))
              (first | exact HK1.out | exact HC.out)
              (first | (go_at_call 46; refine (goes_all (H.out.fr (F4.out.trans (by exact (‹Fr E0 w4 _ ∧ _›).1)) (fun _ _ x => x)) p.ch p.send).mono ?_; rintro e w5 ⟨rfl, hf5⟩; have HK1 := hid (keepG (by assumption) hf5); clear hf5; simp only [tup2]))
            have HF5 := hid (‹Fr E0 w4 _ ∧ _›).1
            clear ‹Fr E0 w4 _ ∧ _› HC
            cases hgo : goesL l p.ch p.send with
            | false =>
              rw [hgo, if_neg (by simp)] at HX
              have HX2 := hid (HX.out.symm.trans HP.out)
              clear hgo HX HK1
              go_wp2_with fail
              go_roundw
              case rel => exact ⟨k + 1, by simp, by omega, HF5.out, HX2.out⟩
              case measure => simp [intOf]; omega
            | true =>
              rw [hgo, if_pos rfl] at HX
              have HX2 := hid (HP.out.symm.trans HX.out)
              obtain ⟨l5, mw, mv, mo, mt, mk, er, hcl⟩ : ∃ l5 mw mv mo mt mk er, carryL l p gs gg = (l5, ⟨mw, mv, mo, mt, mk⟩, er) := ⟨_, _, _, _, _, _, _, rfl⟩
              have HCL := hid hcl
              clear hcl
              have hG2 : (l5, (⟨i, false, ⟨mw, mv, mo, mt, mk⟩⟩ : Cho), er) = (l', r, err) := by
                have := HG.out
                rw [HX2.out] at this
                simp only [selGo, Int.toNat_natCast, List.getD_eq_getElem?_getD, HPI.out, Option.getD_some, HCL.out] at this
                exact this
              cases hG2
              have KC := hid (keepC HV.out HPI.out F4.out G4.out (fun k hk => H.out.lt k hk))
              have hg0 := hid (KC.out _ (HF5.out.e0.drew))
              clear hgo HX HK1
              go_wp2_with fail
              go_region_held3 (fun w' => Fr F w4 w' ∧ w'.cell? ⟨w.heap.size, 0, none⟩ = some (.int .i64 gs) ∧ w'.cell? ⟨w.heap.size, 1, none⟩ = some (.int .i64 gg) ∧ w'.cell? ⟨bv, ov + i * 3, none⟩ = some (.bool p.send) ∧ w'.cell? ⟨bv, ov + i * 3 + 1, none⟩ = some (.int .i64 p.ch) ∧ w'.cell? ⟨bv, ov + i * 3 + 2, none⟩ = some (.int .i64 p.v))
                (first | exact KC.out _ (fr_set5 HT1.out HF5.out.size _ _ _ _ _) | exact KC.out _ (HT2.out.alloc _) | exact KC.out _ HT2.out | exact KC.out _ HT1.out | exact KC.out _ ((HF5.out.e0.alloc _).drew) | exact hg0.out)
                (first
                  | (go_at_call 58; ((with_reducible refine (carry_agg (H.out.fr (F4.out.trans HF5.out.drew) (fun _ _ x => x)) HK.out (by have := HN.out; omega) p gs gg HCL.out).mono ?_); rintro e w6 ⟨wv, rfl, hr6, hs6⟩); obtain ⟨A6, n6, c6, rfl⟩ := hr6.shape; simp only [tup2, Mv.val]; have HT2 := hid (HF5.out.e0.drew.trans (Step.fr' hs6)))
                  | (go_at_call 58; ((with_reducible refine (carry_agg (H.out.fr (F4.out.trans ((HF5.out.alloc _).drew)) (fun _ _ x => x)) HK.out (by have := HN.out; omega) p gs gg HCL.out).mono ?_); rintro e w6 ⟨wv, rfl, hr6, hs6⟩); obtain ⟨A6, n6, c6, rfl⟩ := hr6.shape; simp only [tup2, Mv.val]; have HT1 := hid (((HF5.out.e0.alloc _).drew).trans (Step.fr' hs6)); have M6 := hid ((Step.fr' hs6).heapAt (newDrew w5 _) (fun x => by have := H.out.lt _ x; have := F4.out.size; have := HF5.out.size; omega)); obtain ⟨⟨n0, n1, n2, n3, n4⟩, m0, m1, m2, m3, m4⟩ := blk5 M6.out))
              · have T6 := hid (HT2.out.heapAt T4.out (fun x => by have := H.out.lt _ x; omega))
                have T7 := hid (((Fr.refl (S := E0) (w := w6)).alloc (.cells #[.bool mw, .int .i64 mv, .bool mo, .int .i64 mt, .slice A6 n6 c6] 32)).heapAt T6.out (fun x => x))
                have F7 := hid ((Fr.refl (S := fun q => q = w.heap.size + 1) (w := w6)).alloc (.cells #[.bool mw, .int .i64 mv, .bool mo, .int .i64 mt, .slice A6 n6 c6] 32))
                have M7 := hid (heap_alloc_new w6 (.cells #[.bool mw, .int .i64 mv, .bool mo, .int .i64 mt, .slice A6 n6 c6] 32))
                have HR := hid hr6
                have HS6 := hid hs6
                clear hr6 hs6 hg0 ‹Fr F w4 _ ∧ _›
                generalize hB : w6.heap.size = B at *
                generalize w6.alloc _ = W7 at *
                clear hB
                obtain ⟨⟨k0, k1, k2, k3, k4, k5, k6⟩, z0, z1, z2, z3, z4, z5, z6⟩ := blk7 T7.out
                obtain ⟨⟨n0, n1, n2, n3, n4⟩, m0, m1, m2, m3, m4⟩ := blk5 M7.out
                go_wp2_with fail
                have F8 := hid (fun y0 y1 y2 y3 y4 y5 y6 => F7.out.trans (set7_fr (S := fun q => q = w.heap.size + 1) (B := w.heap.size + 1) rfl y0 y1 y2 y3 y4 y5 y6))
                refine fin26 (c := ⟨i, false, ⟨mw, mv, mo, mt, mk⟩⟩) rfl rfl rfl (set7_heap T7.out _ _ _ _ _ _ _) ⟨_, rfl, ?_, Step.wrap H.out (F4.out.trans HF5.out.drew) HS6.out (F8.out _ _ _ _ _ _ _) (fun q hq => ⟨by omega, by have := heap_lt T4.out; have := HF5.out.drew.size; omega⟩)⟩
                exact (HR.out.newer (F4.out.trans HF5.out.drew).size).fr (F8.out _ _ _ _ _ _ _) (fun q hq e => by have := HR.out.2 q hq; have := heap_lt T4.out; have := HF5.out.drew.size; unfold New at *; omega)
              · have T6 := hid (HT1.out.heapAt T4.out (fun x => by have := H.out.lt _ x; omega))
                have hne : Hid (w.heap.size + 1 ≠ w5.heap.size) := by show _ ≠ _; have := heap_lt T4.out; have := HF5.out.size; omega
                have M7 := hid (set5_heap (w := w6) M6.out (.bool mw) (.int .i64 mv) (.bool mo) (.int .i64 mt) (.slice A6 n6 c6))
                have F7 := hid (set5_fr (S := fun q => q = w5.heap.size) (w := w6) (B := w5.heap.size) rfl (.bool mw) (.int .i64 mv) (.bool mo) (.int .i64 mt) (.slice A6 n6 c6))
                have T7 := hid (F7.out.heapAt T6.out hne.out)
                have HR := hid hr6
                have HS6 := hid hs6
                clear hr6 hs6 hg0 ‹Fr F w4 _ ∧ _› n0 n1 n2 n3 n4 m0 m1 m2 m3 m4
                unfold set5 at M7 F7 T7
                generalize ((((World.setCell w6 _ _).setCell _ _).setCell _ _).setCell _ _).setCell _ _ = W7 at *
                obtain ⟨⟨k0, k1, k2, k3, k4, k5, k6⟩, z0, z1, z2, z3, z4, z5, z6⟩ := blk7 T7.out
                obtain ⟨⟨n0, n1, n2, n3, n4⟩, m0, m1, m2, m3, m4⟩ := blk5 M7.out
                go_wp2_with fail
                have F8 := hid (fun y0 y1 y2 y3 y4 y5 y6 => (F7.out.mono (T := fun q => q = w.heap.size + 1 ∨ q = w5.heap.size) (fun q hq => .inr hq)).trans (set7_fr (S := fun q => q = w.heap.size + 1 ∨ q = w5.heap.size) (B := w.heap.size + 1) (.inl rfl) y0 y1 y2 y3 y4 y5 y6))
                have FW := hid (F4.out.trans (HF5.out.alloc (.cells #[.bool false, .int .i64 0, .bool false, .int .i64 0, .slice none 0 0] 32)).drew)
                have hs5 : Hid ((w5.alloc (.cells #[.bool false, .int .i64 0, .bool false, .int .i64 0, .slice none 0 0] 32)).drew.heap.size = w5.heap.size + 1) := by show (w5.alloc _).heap.size = _; simp
                refine fin26 (c := ⟨i, false, ⟨mw, mv, mo, mt, mk⟩⟩) rfl rfl rfl (set7_heap T7.out _ _ _ _ _ _ _) ⟨_, rfl, ?_, Step.wrap H.out FW.out HS6.out (F8.out _ _ _ _ _ _ _) (fun q hq => ⟨by have := (F4.out.trans HF5.out).size; omega, by have := heap_lt T4.out; have := HF5.out.size; have := hs5.out; omega⟩)⟩
                exact (HR.out.newer FW.out.size).fr (F8.out _ _ _ _ _ _ _) (fun q hq e => by have h1 := HR.out.2 q hq; have := heap_lt T4.out; have := HF5.out.size; have h2 := hs5.out; unfold New at h1; omega)
          · obtain rfl : k = cases.length := by omega
            have hx : pickGo l cases (ordN cases.length draws cases.length) = none := by
              rw [← HP.out, List.drop_of_length_le (by rw [ordN_len]; exact Nat.le_refl _)]; rfl
            have HG2 := HG.out
            rw [hx] at HG2
            have T5 := hid (HF.out.heapAt T4.out (fun x => x))
            have G5 := hid (HF.out.heapAt G4.out (fun x => x))
            have F5 := hid (F4.out.trans HF.out)
            obtain ⟨⟨k0, k1, k2, k3, k4, k5, k6⟩, z0, z1, z2, z3, z4, z5, z6⟩ := blk7 T5.out
            clear hx hlt hk
            cases dft with
            | true =>
              simp only [selGo, if_true] at HG2
              cases HG2
              go_wp2_with fail
              exact fin26 (c := ⟨-1, true, {}⟩) rfl rfl rfl (set7_heap T5.out _ _ _ _ _ _ _) ⟨_, rfl, RowF.nil, Step.wrap H.out F5.out (Step.same (H.out.fr F5.out (fun _ _ x => x)) Fr.refl) (set7_fr (S := fun q => q = w.heap.size + 1) rfl _ _ _ _ _ _ _) (fun q hq => ⟨by omega, by have := heap_lt T5.out; omega⟩)⟩
            | false =>
              simp only [selGo, Bool.false_eq_true, if_false] at HG2
              cases HG2
              clear k0 k1 k2 k3 k4 k5 k6 z0 z1 z2 z3 z4 z5 z6
              go_wp2_with fail
              obtain ⟨w5, hw5⟩ : ∃ w5 : World, w5 = wr := ⟨_, rfl⟩
              subst hw5
              go_loopw [89] (fun i wr => ∃ k : Nat, i = .int .i64 k ∧ k ≤ cases.length ∧ Step F g w5 (waitK l gs gg cases k) wr) (fun i _ => cases.length - (intOf i).toNat)
              case atStart => exact ⟨0, rfl, Nat.zero_le _, Step.same (H.out.fr F5.out (fun _ _ x => x)) Fr.refl⟩
              case round =>
                obtain ⟨k, rfl, hk, hst⟩ := hrel
                have FS := hid (Step.fr' hst)
                have HST := hid hst
                obtain ⟨F1, i1, i2, i3⟩ := hst
                have I1 := hid i1
                have I2 := hid i2
                have I3 := hid i3
                clear i1 i2 i3
                by_cases hlt : k < cases.length
                · obtain ⟨p, hpi⟩ : ∃ p, cases[k]? = some p := ⟨_, List.getElem?_eq_getElem hlt⟩
                  have G6 := hid (FS.out.heapAt G5.out (fun x => by have := H.out.lt _ x; omega))
                  have g0 := cell_of_row wr _ 0 _ _ _ G6.out
                  have g1 := cell_of_row wr _ 1 _ _ _ G6.out
                  obtain ⟨_, _, _, ev, _, _, _, rv⟩ := (HV.out.e0 F5.out).fr FS.out
                  cases ev
                  obtain ⟨bv, ov, rfl, rv2⟩ := rv.at (fun e => by have := congrArg List.length e; rw [pks_len, List.length_nil] at this; omega)
                  obtain ⟨c0, c1, c2⟩ := pk_at rv2 hpi
                  have HPI := hid hpi
                  have hgl : w.heap.size < wr.heap.size := by have := heap_lt G6.out; omega
                  clear rv rv2 hpi
                  by_cases hz : p.ch = 0
                  · have hnx : waitK l gs gg cases (k + 1) = waitK l gs gg cases k := by rw [waitK, HPI.out]; simp only; rw [if_pos hz]
                    have HNX := hid hnx
                    have hz1 : ((p.ch == 0) : Bool) = true := by simpa using hz
                    have hz2 : ((p.ch != 0) : Bool) = false := by simpa using hz
                    clear hnx
                    go_wp2_with fail
                    go_roundw
                    case rel => exact ⟨k + 1, by simp, by omega, by rw [HNX.out]; exact Step.wrap (H.out.fr F5.out (fun _ _ x => x)) Fr.refl HST.out ((Fr.refl (S := E0)).alloc _) (fun _ x => x.elim)⟩
                    case measure => simp [intOf]; omega
                  · have hnx : waitK l gs gg cases (k + 1) = (waitL (waitK l gs gg cases k) p.ch ⟨gs, gg, k, p.v⟩ p.send).1 := by rw [waitK, HPI.out]; simp only; rw [if_neg hz]
                    have HNX := hid hnx
                    have hz1 : ((p.ch == 0) : Bool) = false := by simpa using hz
                    have hz2 : ((p.ch != 0) : Bool) = true := by simpa using hz
                    clear hnx
                    go_wp2_with fail
                    have hNk := hid (sizeK HN.out q1 hlt)
                    (with_reducible refine (wait_agg (I1.out.fr (Fr.refl.alloc (.cells #[.bool p.send, .int .i64 p.ch, .int .i64 p.v] 78)) (fun _ _ x => x)) (ok_waitK HK.out gs gg cases k) hNk.out p.ch gs gg k p.v p.send).mono ?_)
                    rintro e w7 ⟨rfl, hs7⟩
                    have HS7 := hid (Step.wrap I1.out (Fr.refl.alloc (.cells #[.bool p.send, .int .i64 p.ch, .int .i64 p.v] 78)) hs7 (Fr.refl (S := E0)) (fun _ x => x.elim))
                    clear hs7
                    go_wp2_with fail
                    go_roundw
                    case rel => exact ⟨k + 1, by simp, by omega, by have hh := Step.trans1 I2.out I3.out HS7.out; rw [← HNX.out] at hh; exact hh⟩
                    case measure => simp [intOf]; omega
                · obtain rfl : k = cases.length := by omega
                  have T6 := hid (FS.out.heapAt T5.out (fun x => by have := H.out.lt _ x; omega))
                  obtain ⟨⟨k0, k1, k2, k3, k4, k5, k6⟩, z0, z1, z2, z3, z4, z5, z6⟩ := blk7 T6.out
                  clear hlt hk
                  go_wp2_with fail
                  exact fin26 (c := ⟨-1, false, { waits := true }⟩) rfl rfl rfl (set7_heap T6.out _ _ _ _ _ _ _) ⟨_, rfl, RowF.nil, Step.wrap H.out F5.out HST.out (set7_fr (S := fun q => q = w.heap.size + 1) rfl _ _ _ _ _ _ _) (fun q hq => ⟨by omega, by have := heap_lt T5.out; omega⟩)⟩
      · have e1 : selL l gs gg cases dft draws = (l, ⟨-1, false, { trap := trapP (trapC l) cases }⟩, 0) := by
          unfold selL; rw [if_neg (by simpa using HE.out), if_neg (by rw [HWt.out]; simp), if_pos ht]
        have e2 := e1.symm.trans HS.out
        cases e2
        have hne : ((trapP (trapC l) cases == 0) : Bool) = false := by simpa using ht
        clear e1 ht
        go_wp2_with fail
        exact fin26 (c := ⟨-1, false, { trap := trapP (trapC l) cases }⟩) rfl rfl rfl (set7_heap T4.out _ _ _ _ _ _ _) ⟨_, rfl, RowF.nil, Step.wrap H.out F4.out (Step.same (H.out.fr F4.out (fun _ _ x => x)) Fr.refl) (set7_fr (S := fun q => q = w.heap.size + 1) rfl _ _ _ _ _ _ _) (fun q hq => ⟨by omega, by have := heap_lt T4.out; omega⟩)⟩
  · have e1 : selL l gs gg cases dft draws = (l, ⟨-1, false, {}⟩, (orderL cases.length draws).2) := by unfold selL; rw [if_pos he]
    have e2 := e1.symm.trans HS.out
    cases e2
    have hne : (((orderL cases.length draws).2 == 0) : Bool) = false := by simpa using he
    clear e1 hrow hf2 he
    go_wp2_with fail
    exact fin26 (c := ⟨-1, false, {}⟩) rfl rfl rfl (set7_heap T2.out _ _ _ _ _ _ _) ⟨_, rfl, RowF.nil, Step.wrap H.out F2.out (Step.same (H.out.fr F2.out (fun _ _ x => x)) Fr.refl) (set7_fr (S := fun q => q = w.heap.size + 1) rfl _ _ _ _ _ _ _) (fun q hq => ⟨by omega, by have := heap_lt T2.out; omega⟩)⟩
end Go.Proofs.Yteffmnohgnmanaa
