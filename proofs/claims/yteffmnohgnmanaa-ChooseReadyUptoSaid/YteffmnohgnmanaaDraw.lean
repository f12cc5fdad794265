/- choose.Draws: the walk. -/
import Derived.Test.YteffmnohgnmanaaDrawQ
import Derived.Test.YteffmnohgnmanaaSame
namespace Go.Proofs.Yteffmnohgnmanaa
open Go.RowKit
theorem info75 : (Try.prog.info? 75).map (fun i => (i.zero, i.size, i.bytes)) = some (some (.int .u64 0), 1, 8) := by kernel_rfl
def DrawPost (w : World) (l : List Int) (err : Int) (e : Ending) (w' : World) : Prop :=
  ∃ v, e = .returned (tup2 v (.int .i64 err)) ∧ RowF w' (New w) 75 1 v (us l) ∧ Fr E0 w w'
theorem RowF.far {w : World} {F : Nat → Prop} {e sz g j : Nat} {v u : Value} {xs : List Value} (h : RowF w F e sz v xs) (hne : v.ownBlock ≠ some g) : RowF (w.setCell ⟨g, j, none⟩ u) F e sz v xs :=
  h.same (fun _ hq => heap_setCell_other _ _ _ _ (fun e => hne (hq.trans (congrArg some e))))
theorem RowF.atI {w : World} {F : Nat → Prop} {e g n c j : Nat} {l : List Int} {x : Int} (h : RowF w F e 1 (.slice (some ⟨g, 0, none⟩) n c) (ints l)) (hn : l.length = n) (hx : l[j]? = some x) : w.cell? ⟨g, j, none⟩ = some (.int .i64 x) ∧ w.frozen? ⟨g, j, none⟩ = false := by
  obtain ⟨A, c', he, _, _, hrd⟩ := h.read (n := n) (by decide) (by rw [ints_len, hn])
  cases he
  obtain ⟨b, o, he, hrd⟩ := hrd.at (fun e => by have := congrArg List.length e; rw [ints_len, List.length_nil] at this; have := lt_of_get hx; omega)
  cases he
  have := hrd j (.int .i64 x) (by simp only [ints, List.getElem?_map, hx, Option.map_some])
  rw [Nat.zero_add] at this
  exact ⟨this, h.free rfl j⟩
theorem RowF.atU {w : World} {F : Nat → Prop} {e g n c j : Nat} {l : List Int} {x : Int} (h : RowF w F e 1 (.slice (some ⟨g, 0, none⟩) n c) (us l)) (hn : l.length = n) (hx : l[j]? = some x) : w.cell? ⟨g, j, none⟩ = some (.int .u64 x) ∧ w.frozen? ⟨g, j, none⟩ = false := by
  obtain ⟨A, c', he, _, _, hrd⟩ := h.read (n := n) (by decide) (by rw [us_len, hn])
  cases he
  obtain ⟨b, o, he, hrd⟩ := hrd.at (fun e => by have := congrArg List.length e; rw [us_len, List.length_nil] at this; have := lt_of_get hx; omega)
  cases he
  have := hrd j (.int .u64 x) (by simp only [us, List.getElem?_map, hx, Option.map_some])
  rw [Nat.zero_add] at this
  exact ⟨this, h.free rfl j⟩
theorem RowF.setI {w : World} {F : Nat → Prop} {e g n c j : Nat} {l : List Int} {x : Int} (h : RowF w F e 1 (.slice (some ⟨g, 0, none⟩) n c) (ints l)) (hj : j < l.length) : RowF (w.setCell ⟨g, j, none⟩ (.int .i64 x)) F e 1 (.slice (some ⟨g, 0, none⟩) n c) (ints (l.set j x)) := by
  have := h.stored (j := j) (u := .int .i64 x) (by rw [ints_len]; omega)
  rwa [ints_set] at this
theorem us_set (l : List Int) (j : Nat) (x : Int) : (us l).set j (.int .u64 x) = us (l.set j x) := by simp [us]
theorem RowF.setU {w : World} {F : Nat → Prop} {e g n c j : Nat} {l : List Int} {x : Int} (h : RowF w F e 1 (.slice (some ⟨g, 0, none⟩) n c) (us l)) (hj : j < l.length) : RowF (w.setCell ⟨g, j, none⟩ (.int .u64 x)) F e 1 (.slice (some ⟨g, 0, none⟩) n c) (us (l.set j x)) := by
  have := h.stored (j := j) (u := .int .u64 x) (by rw [us_len]; omega)
  rwa [us_set] at this
/-- The two rows that Draws keeps, at the blocks A and L. -/
structure Two (w0 w : World) (A L n : Nat) (aL left : List Int) : Prop where
  a : RowF w (New w0) 3 1 (.slice (some ⟨A, 0, none⟩) n n) (ints aL)
  l : RowF w (New w0) 3 1 (.slice (some ⟨L, 0, none⟩) n n) (ints left)
  f : Fr E0 w0 w
theorem Two.setA {w0 w : World} {A L n j : Nat} {aL left : List Int} {x : Int} (h : Two w0 w A L n aL left) (hne : A ≠ L) (hj : j < aL.length) : Two w0 (w.setCell ⟨A, j, none⟩ (.int .i64 x)) A L n (aL.set j x) left :=
  ⟨h.a.setI hj, h.l.far (fun e => by injection e with e; exact hne e.symm), h.f.setCell (p := ⟨A, j, none⟩) _ (.inr (h.a.2 A rfl))⟩
theorem Two.setL {w0 w : World} {A L n j : Nat} {aL left : List Int} {x : Int} (h : Two w0 w A L n aL left) (hne : A ≠ L) (hj : j < left.length) : Two w0 (w.setCell ⟨L, j, none⟩ (.int .i64 x)) A L n aL (left.set j x) :=
  ⟨h.a.far (fun e => by injection e with e; exact hne e), h.l.setI hj, h.f.setCell (p := ⟨L, j, none⟩) _ (.inr (h.l.2 L rfl))⟩
theorem rep_set {n k : Nat} {l : List Int} (hl : l.length = n) (h : ∀ i : Nat, i < k → l[i]? = some (-1)) (hk : k < n) : (l.set k (-1)).length = n ∧ ∀ i : Nat, i < k + 1 → (l.set k (-1))[i]? = some (-1) := by
  refine ⟨by simpa using hl, fun i hi => ?_⟩
  rw [List.getElem?_set]
  by_cases e : k = i
  · subst e; rw [if_pos rfl, if_pos (by omega)]
  · rw [if_neg e]; exact h i (by omega)
set_option maxRecDepth 8000 in
set_option maxHeartbeats 4000000 in
theorem draws_ok (o : List Int) (v : Value) (w : World) (hv : RdV w v 1 (ints o)) : Calls Try.prog 39 #[v] w (DrawPost w (drawsL o).1 (drawsL o).2) := by
  obtain ⟨A, m, c, rfl, hl, _, hcm, hr⟩ := hv
  obtain rfl : o.length = m := by simpa [ints] using hl
  have hmax : o.length ≤ 9223372036854775807 := by unfold maxLen at hcm; omega
  by_cases h1 : 16 < o.length
  · have e : drawsL o = ([], 1) := by unfold drawsL; rw [if_pos h1]
    rw [e]
    have h1' : (16 : Int) < o.length := by omega
    clear e hr hl
    go_enter Try.func39, Try.ntmps39
    go_wp2
    go_ret2
    exact ⟨_, rfl, RowF.nil, Fr.refl⟩
  have HR := hid hr
  clear hr hl
  obtain ⟨N, hN⟩ : ∃ N, o.length = N := ⟨_, rfl⟩
  rw [hN] at h1 hmax ⊢
  have HN := hid hN
  clear hN
  have h1' : ¬ (16 : Int) < N := by omega
  obtain ⟨i0, hi0, hz0, hz1, hz2⟩ := info_parts info3
  have hmk : ∀ u : World, (Instr.makeSlice 70 (.int .i64 (N : Int)) (.int .i64 (N : Int))).run Try.prog u = .ok (.slice (some ⟨u.heap.size, 0, none⟩) N N) (u.alloc (.cells (madeCells #[.int .i64 0] N) 3)) := fun u => by
    have h := run_make (P := Try.prog) u 70 3 i0 (.int .i64 0) Try.underlying70 hi0 hz0 .i64 .i64 (N : Int) (N : Int) (by omega) (Int.le_refl _) (by rw [hz2]; omega) (by omega)
    simpa [hz1, Value.cells] using h
  clear hi0 hz0 hz1 hz2
  obtain ⟨i1, hi0, hz0, hz1, hz2⟩ := info_parts info75
  have hmk2 : ∀ u : World, (Instr.makeSlice 43 (.int .i64 (N : Int)) (.int .i64 (N : Int))).run Try.prog u = .ok (.slice (some ⟨u.heap.size, 0, none⟩) N N) (u.alloc (.cells (madeCells #[.int .u64 0] N) 75)) := fun u => by
    have h := run_make (P := Try.prog) u 43 75 i1 (.int .u64 0) Try.underlying43 hi0 hz0 .i64 .i64 (N : Int) (N : Int) (by omega) (Int.le_refl _) (by rw [hz2]; omega) (by omega)
    simpa [hz1, Value.cells] using h
  clear hi0 hz0 hz1 hz2
  go_enter Try.func39, Try.ntmps39
  go_wp2_with fail
  have hne : w.heap.size ≠ w.heap.size + 1 := by omega
  have T0 := hid (show Two w ((w.alloc (.cells (madeCells #[.int .i64 0] N) 3)).alloc (.cells (madeCells #[.int .i64 0] N) 3)) w.heap.size (w.heap.size + 1) N (List.replicate N 0) (List.replicate N 0) from by
    have r1 := rowF_made w 3 N (.int .i64 0) (by omega)
    have r2 := rowF_made (w.alloc (.cells (madeCells #[.int .i64 0] N) 3)) 3 N (.int .i64 0) (by omega)
    refine ⟨?_, ?_, (Fr.refl.alloc _).alloc _⟩
    · have := r1.fr ((Fr.refl (S := E0)).alloc (.cells (madeCells #[.int .i64 0] N) 3)) (fun _ _ x => x)
      simpa [ints] using this
    · have := r2.mono (F' := New w) (fun q hq => by unfold New at *; simp at hq; omega)
      simpa [ints] using this)
  generalize ((w.alloc _).alloc _) = W at *
  go_loopw [23] (fun i wr => ∃ (k : Nat) (aL : List Int), i = .int .i64 k ∧ k ≤ N ∧ Two w wr w.heap.size (w.heap.size + 1) N aL (List.replicate N 0) ∧ aL.length = N ∧ (∀ i : Nat, i < k → aL[i]? = some (-1))) (fun i _ => N - (intOf i).toNat)
  case atStart => exact ⟨0, _, rfl, Nat.zero_le _, T0.out, by simp, fun i hi => absurd hi (by omega)⟩
  case round =>
    obtain ⟨k, aL, rfl, hk, hT, hal, hneg⟩ := hrel
    have HT := hid hT
    have HA := hid hal
    have HG := hid hneg
    clear hT hal hneg
    by_cases hlt : k < N
    · obtain ⟨x, hx⟩ : ∃ x, aL[k]? = some x := ⟨_, List.getElem?_eq_getElem (by have := HA.out; omega)⟩
      obtain ⟨c1, f1⟩ := HT.out.a.atI HA.out hx
      clear hx
      have HT2 := hid (HT.out.setA (j := k) (x := -1) hne (by have := HA.out; omega))
      have HR2 := hid (rep_set HA.out HG.out hlt)
      go_wp2_with fail
      go_roundw
      case rel => exact ⟨k + 1, _, by simp, by omega, HT2.out, HR2.out.1, HR2.out.2⟩
      case measure => simp [intOf]; omega
    · obtain rfl : k = N := by omega
      have HI := hid (AtInv.start (o := o) (aL := aL) (left := List.replicate k 0) (by rw [HA.out, HN.out]) (by simp [HN.out]) (fun i hi => HG.out i (by have := HN.out; omega)))
      clear hlt hk
      go_wp2_with fail
      obtain ⟨w1, hw1⟩ : ∃ w1 : World, w1 = wr := ⟨_, rfl⟩
      subst hw1
      go_loopw [32] (fun i wr => ∃ (k' : Nat) (aL left : List Int), i = .int .i64 k' ∧ k' ≤ k ∧ Two w wr w.heap.size (w.heap.size + 1) k aL left ∧ AtInv o aL left k') (fun i _ => k - (intOf i).toNat)
      case atStart => exact ⟨0, _, _, rfl, Nat.zero_le _, HT.out, HI.out⟩
      case round =>
        obtain ⟨i, aL2, left, rfl, hi, hT2, hI2⟩ := hrel
        have HT2 := hid hT2
        have HI2 := hid hI2
        clear hT2 hI2 HT HA HG HI
        have hfr := HT2.out.f
        by_cases hlt : i < k
        · obtain ⟨x, hx⟩ : ∃ x, o[i]? = some x := ⟨_, List.getElem?_eq_getElem (by have := HN.out; omega)⟩
          obtain ⟨b1, o1, rfl, r1⟩ := HR.out.at (fun e => by have := congrArg List.length e; rw [ints_len, List.length_nil] at this; have := HN.out; omega)
          have y1 := r1.fr hfr (fun x => x) i (.int .i64 x) (by simp only [ints, List.getElem?_map, hx, Option.map_some])
          have HX := hid hx
          clear r1 hx hfr
          by_cases g1 : x < 0
          · have e0 := HI2.out.bad HX.out (.inl g1)
            have e : drawsL o = ([], 121) := by unfold drawsL; rw [if_neg (by have := HN.out; omega), if_pos e0]
            rw [e]
            clear e e0
            go_wp2_with fail
            go_ret2
            exact ⟨_, rfl, RowF.nil, HT2.out.f⟩
          by_cases g2 : (k : Int) ≤ x
          · have e0 := HI2.out.bad HX.out (.inr (.inl (by have := HN.out; omega)))
            have e : drawsL o = ([], 121) := by unfold drawsL; rw [if_neg (by have := HN.out; omega), if_pos e0]
            rw [e]
            clear e e0
            go_wp2_with fail
            go_ret2
            exact ⟨_, rfl, RowF.nil, HT2.out.f⟩
          obtain ⟨xn, rfl⟩ : ∃ xn : Nat, x = (xn : Int) := ⟨x.toNat, by omega⟩
          have hxk : xn < k := by omega
          have h0x : (0 : Int) ≤ (xn : Int) := by omega
          have hxk' : (xn : Int) < (k : Int) := by omega
          obtain ⟨y, hy⟩ : ∃ y, aL2[xn]? = some y := ⟨_, List.getElem?_eq_getElem (by have := HN.out; have := HI2.out.alen; omega)⟩
          obtain ⟨c1, f1⟩ := HT2.out.a.atI (by rw [HI2.out.alen, HN.out]) hy
          have HY := hid hy
          clear hy g1 g2
          by_cases g3 : 0 ≤ y
          · have e0 := HI2.out.bad HX.out (.inr (.inr ⟨y, by rw [Int.toNat_natCast]; exact HY.out, g3, h0x⟩))
            have e : drawsL o = ([], 121) := by unfold drawsL; rw [if_neg (by have := HN.out; omega), if_pos e0]
            rw [e]
            clear e e0
            go_wp2_with fail
            go_ret2
            exact ⟨_, rfl, RowF.nil, HT2.out.f⟩
          · have g3' : y < 0 := by omega
            obtain ⟨z, hz⟩ : ∃ z, left[i]? = some z := ⟨_, List.getElem?_eq_getElem (by have := HN.out; have := HI2.out.llen; omega)⟩
            obtain ⟨c2, f2⟩ := HT2.out.l.atI (by rw [HI2.out.llen, HN.out]) hz
            have HT3 := hid ((HT2.out.setA (j := xn) (x := (i : Int)) hne (by have := HN.out; have := HI2.out.alen; omega)).setL (j := i) (x := (xn : Int)) hne (by have := HN.out; have := HI2.out.llen; omega))
            have HI3 := hid (HI2.out.step (by have := HN.out; omega) HX.out (by have := HN.out; omega) HY.out g3')
            clear hz
            go_wp2_with fail
            go_roundw
            case rel => exact ⟨i + 1, _, _, by simp, by omega, HT3.out, HI3.out⟩
            case measure => simp [intOf]; omega
        · obtain rfl : i = k := by omega
          obtain ⟨el, hp, hat⟩ := AtInv.last (HN.out.symm ▸ HI2.out)
          subst el
          have e : drawsL left = (drawsR i left, 0) := by unfold drawsL; rw [if_neg (by have := HN.out; omega), if_neg (by rw [isOrd_iff.2 hp]; simp), HN.out]
          have HE := hid e
          have HP := hid hp
          have HAT := hid hat
          clear hlt hi e hp hat hfr
          go_wp2_with fail
          have hD : w.heap.size + 2 ≤ wr.heap.size := by have := HT2.out.l.lt (g := w.heap.size + 1) rfl; omega
          have TA := hid (show Two w (wr.alloc (.cells (madeCells #[.int .u64 0] i) 75)) w.heap.size (w.heap.size + 1) i aL2 left from
            ⟨HT2.out.a.fr ((Fr.refl (S := E0)).alloc _) (fun _ _ x => x), HT2.out.l.fr ((Fr.refl (S := E0)).alloc _) (fun _ _ x => x), HT2.out.f.alloc _⟩)
          have RD := hid (show RowF (wr.alloc (.cells (madeCells #[.int .u64 0] i) 75)) (New w) 75 1 (.slice (some ⟨wr.heap.size, 0, none⟩) i i) (us (List.replicate i 0)) from by
            have := (rowF_made wr 75 i (.int .u64 0) (by omega)).mono (F' := New w) (fun q hq => by unfold New at *; omega)
            simpa [us] using this)
          have BI := hid (show BackInv left aL2 left (List.replicate i 0) i from
            ⟨by rw [HN.out]; exact Nat.le_refl _, HI2.out.alen, rfl, by simp [HN.out], HN.out ▸ HP.out, fun x j _ hx => HAT.out x j hx, by rw [HN.out]; simp⟩)
          generalize wr.heap.size = D at *
          generalize wr.alloc _ = W2 at *
          have d1 : ¬ D = w.heap.size := by omega
          have d2 : ¬ D = w.heap.size + 1 := by omega
          have d3 : ¬ w.heap.size = D := by omega
          have d4 : ¬ w.heap.size + 1 = D := by omega
          go_loopw [11] (fun ix wr => ∃ (m : Nat) (aL l ds : List Int), ix = .int .i64 ((m : Int) - 1) ∧ Two w wr w.heap.size (w.heap.size + 1) i aL l ∧ RowF wr (New w) 75 1 (.slice (some ⟨D, 0, none⟩) i i) (us ds) ∧ BackInv left aL l ds m) (fun ix _ => (intOf ix + 1).toNat)
          case atStart => exact ⟨i, _, _, _, rfl, TA.out, RD.out, BI.out⟩
          case round =>
            obtain ⟨m, aL3, l3, ds, rfl, hT3, hR3, hB3⟩ := hrel
            have HT3 := hid hT3
            have HR3 := hid hR3
            have HB3 := hid hB3
            clear hT3 hR3 hB3
            cases m with
            | zero =>
              go_wp2_with fail
              go_ret2
              have hds : (drawsL left).1 = ds := by rw [HE.out]; have := HB3.out.d; rw [HN.out] at this; rw [this]; simp [drawsR]
              have hd2 : (drawsL left).2 = 0 := by rw [HE.out]
              exact ⟨_, by rw [hd2]; rfl, by rw [hds]; exact HR3.out, HT3.out.f⟩
            | succ m =>
              have em : ((m + 1 : Nat) : Int) - 1 = (m : Int) := by omega
              rw [em]
              obtain ⟨j, hj, hlj, _⟩ := HB3.out.p.last
              obtain ⟨y, hy, hly⟩ := HB3.out.p.rng m (by omega)
              have haj := HB3.out.at' m j (by omega) hlj
              have hmi : m < i := by have := HB3.out.le; have := HN.out; omega
              have hal3 : aL3.length = i := by rw [HB3.out.alen, HN.out]
              have hll3 : l3.length = i := by rw [HB3.out.llen, HN.out]
              have hdl3 : ds.length = i := by rw [HB3.out.dlen, HN.out]
              obtain ⟨z, hz⟩ : ∃ z, ds[m]? = some z := ⟨_, List.getElem?_eq_getElem (by omega)⟩
              obtain ⟨u, hu⟩ : ∃ u, aL3[y]? = some u := ⟨_, List.getElem?_eq_getElem (by omega)⟩
              obtain ⟨q1, p1⟩ := HT3.out.a.atI hal3 haj
              obtain ⟨q2, p2⟩ := HT3.out.l.atI hll3 hlj
              obtain ⟨q3, p3⟩ := HT3.out.l.atI hll3 hly
              obtain ⟨q4, p4⟩ := HR3.out.atU hdl3 hz
              obtain ⟨q5, p5⟩ := HT3.out.a.atI hal3 hu
              have HB4 := hid (HB3.out.step hj hlj hly (by omega))
              have HR4 := hid ((((HR3.out.setU (j := m) (x := (j : Int)) (by omega)).far (g := w.heap.size + 1) (j := j) (u := .int .i64 (y : Int)) (fun e => by simp [Value.ownBlock] at e; omega))).far (g := w.heap.size) (j := y) (u := .int .i64 (j : Int)) (fun e => by simp [Value.ownBlock] at e; omega))
              have HT4 := hid ((show Two w (wr.setCell ⟨D, m, none⟩ (.int .u64 (j : Int))) w.heap.size (w.heap.size + 1) i aL3 l3 from
                ⟨HT3.out.a.far (fun e => by simp [Value.ownBlock] at e; omega), HT3.out.l.far (fun e => by simp [Value.ownBlock] at e; omega), HT3.out.f.setCell (p := ⟨D, m, none⟩) _ (.inr (HR3.out.2 D rfl))⟩).setL (j := j) (x := (y : Int)) hne (by omega) |>.setA (j := y) (x := (j : Int)) hne (by omega))
              have b1 : (0 : Int) ≤ (j : Int) := by omega
              have b2 : (j : Int) < (i : Int) := by omega
              have b3 : (0 : Int) ≤ (y : Int) := by omega
              have b4 : (y : Int) < (i : Int) := by omega
              have b5 : (m : Int) < (i : Int) := by omega
              have b6 : (j : Int) ≤ 16 := by omega
              clear em hlj hly haj hal3 hll3 hdl3 hz hu
              go_wp2_with fail
              go_roundw
              case rel => exact ⟨m, _, _, _, rfl, HT4.out, HR4.out, HB4.out⟩
              case measure => simp [intOf]
end Go.Proofs.Yteffmnohgnmanaa
