/- rotaref12.is and rotaref12.Draws. -/
import Derived.Test.YteffmnohgnmanaaDraw
namespace Go.Proofs.Yteffmnohgnmanaa
open Go.RowKit
theorem count_step {o : List Int} {k : Nat} {x y : Int} (h : o[k]? = some y) : (o.take (k + 1)).count x = (o.take k).count x + if y = x then 1 else 0 := by
  rw [List.take_add_one, h, List.count_append]
  simp [List.count_singleton]
set_option maxHeartbeats 1000000 in
theorem is_ok (o : List Int) (v : Value) (w : World) (hv : RdV w v 1 (ints o)) (hn : o.length ≤ 16) : Calls Try.prog 80 #[v] w fun e w' => e = .returned (.bool (isOrd o)) ∧ w = w' := by
  obtain ⟨A, m, c, rfl, hl, _, hcm, hr⟩ := hv
  obtain rfl : o.length = m := by simpa [ints] using hl
  have HR := hid hr
  clear hr hl hcm
  go_enter Try.func80, Try.ntmps80
  go_wp2_with fail
  go_loop [3] (fun i => ∃ k : Nat, i = .int .i64 k ∧ k ≤ o.length ∧ ∀ x : Nat, x < k → o.count (x : Int) = 1) (fun i => o.length - (intOf i).toNat)
  case atStart => exact ⟨0, rfl, Nat.zero_le _, fun x hx => absurd hx (by omega)⟩
  case round =>
    obtain ⟨k, rfl, hk, hc⟩ := hrel
    have HC := hid hc
    clear hc
    by_cases hlt : k < o.length
    · go_wp2_with fail
      go_loop [4, 5] (fun n j => ∃ q : Nat, j = .int .i64 q ∧ q ≤ o.length ∧ n = .int .i64 ((o.take q).count (k : Int) : Nat)) (fun _ j => o.length - (intOf j).toNat)
      case atStart => exact ⟨0, rfl, Nat.zero_le _, by simp⟩
      case round =>
        obtain ⟨q, rfl, hq, rfl⟩ := hrel
        have hle : (o.take q).count (k : Int) ≤ q := Nat.le_trans List.count_le_length (List.length_take_le _ _)
        by_cases hql : q < o.length
        · obtain ⟨y, hy⟩ : ∃ y, o[q]? = some y := ⟨_, List.getElem?_eq_getElem hql⟩
          obtain ⟨b, of, rfl, r⟩ := HR.out.at (fun e => by have := congrArg List.length e; rw [ints_len, List.length_nil] at this; omega)
          have y1 := r q (.int .i64 y) (by simp only [ints, List.getElem?_map, hy, Option.map_some])
          have hst := count_step (x := (k : Int)) hy
          clear r hy
          by_cases hyk : y = (k : Int)
          · subst hyk
            rw [if_pos rfl] at hst
            have HST := hid hst
            clear hst
            go_wp2_with fail
            go_round
            case rel => exact ⟨q + 1, by simp, by omega, by rw [HST.out]; simp⟩
            case measure => simp [intOf]; omega
          · rw [if_neg hyk] at hst
            have HST := hid hst
            have hb : ((y == (k : Int)) : Bool) = false := by simpa using hyk
            clear hst hyk
            go_wp2_with fail
            go_round
            case rel => exact ⟨q + 1, by simp, by omega, by rw [HST.out]; simp⟩
            case measure => simp [intOf]; omega
        · obtain rfl : q = o.length := by omega
          rw [List.take_length] at hle ⊢
          by_cases h1 : o.count (k : Int) = 1
          · rw [h1]
            have H1 := hid h1
            clear h1 hle
            go_wp2_with fail
            go_round
            case rel => exact ⟨k + 1, by simp, by omega, fun x hx => by
              by_cases e : x = k
              · subst e; exact H1.out
              · exact HC.out x (by omega)⟩
            case measure => simp [intOf]; omega
          · have hb : (((o.count (k : Int) : Nat) : Int) == 1) = false := by simpa using (by omega : ¬ ((o.count (k : Int) : Nat) : Int) = 1)
            have hb2 : (((o.count (k : Int) : Nat) : Int) != 1) = true := by simpa using (by omega : ¬ ((o.count (k : Int) : Nat) : Int) = 1)
            have HI := hid (show isOrd o = false by
              unfold isOrd; rw [List.all_eq_false]; exact ⟨k, List.mem_range.2 hlt, by simpa using h1⟩)
            clear h1
            go_wp2_with fail
            go_ret
            exact ⟨by rw [HI.out]; rfl, rfl⟩
    · obtain rfl : k = o.length := by omega
      have HI := hid (show isOrd o = true by
        unfold isOrd; rw [List.all_eq_true]; intro x hx; rw [List.mem_range] at hx; simpa using HC.out x hx)
      clear hlt hk
      go_wp2_with fail
      go_ret
      exact ⟨by rw [HI.out]; rfl, rfl⟩
/-- The like, without what Draws keeps besides. -/
structure BackL (o l ds : List Int) (m : Nat) : Prop where
  le : m ≤ o.length
  llen : l.length = o.length
  dlen : ds.length = o.length
  p : PermTo l m
  d : drawsR o.length o = drawsR m l ++ ds.drop m
theorem BackL.step {o l ds : List Int} {m j : Nat} {y : Nat} (h : BackL o l ds (m + 1)) (hj : j ≤ m) (hl : l[j]? = some (m : Int)) (hy : l[m]? = some (y : Int)) : BackL o (l.set j (y : Int)) (ds.set m (j : Int)) m := by
  have h1 := h.le
  have h4 := h.dlen
  refine ⟨by omega, by simpa using h.llen, by simpa using h4, h.p.step hj hl hy, ?_⟩
  rw [h.d, drawsR_step h.p hj hl hy, List.append_assoc]
  congr 1
  apply List.ext_getElem?
  intro i
  rw [List.getElem?_drop, List.getElem?_set]
  rcases Nat.eq_zero_or_pos i with e | e
  · subst e; rw [if_pos (by omega), if_pos (by omega)]; rfl
  · obtain ⟨i', rfl⟩ : ∃ i', i = i' + 1 := ⟨i - 1, by omega⟩
    rw [if_neg (by omega), List.getElem?_append_right (by simp), List.getElem?_drop]
    congr 1
    simp; omega
/-- What lies where while the document's Draws goes: the list at g, the numbers at D. -/
structure TwoL (w0 w : World) (g cp D n : Nat) (l ds : List Int) : Prop where
  l : RowF w (New w0) 3 1 (.slice (some ⟨g, 0, none⟩) n cp) (ints l)
  d : RowF w (New w0) 75 1 (.slice (some ⟨D, 0, none⟩) n n) (us ds)
  f : Fr E0 w0 w
theorem TwoL.ne {w0 w : World} {g cp D n : Nat} {l ds : List Int} (h : TwoL w0 w g cp D n l ds) : g ≠ D := by
  intro e; exact h.l.ne_type h.d (by decide) (g := g) rfl (by rw [e]; rfl)
theorem TwoL.setL {w0 w : World} {g cp D n j : Nat} {l ds : List Int} {x : Int} (h : TwoL w0 w g cp D n l ds) (hj : j < l.length) : TwoL w0 (w.setCell ⟨g, j, none⟩ (.int .i64 x)) g cp D n (l.set j x) ds :=
  ⟨h.l.setI hj, h.d.far (fun e => by simp [Value.ownBlock] at e; exact h.ne e.symm), h.f.setCell (p := ⟨g, j, none⟩) _ (.inr (h.l.2 g rfl))⟩
theorem TwoL.setD {w0 w : World} {g cp D n j : Nat} {l ds : List Int} {x : Int} (h : TwoL w0 w g cp D n l ds) (hj : j < ds.length) : TwoL w0 (w.setCell ⟨D, j, none⟩ (.int .u64 x)) g cp D n l (ds.set j x) :=
  ⟨h.l.far (fun e => by simp [Value.ownBlock] at e; exact h.ne e), h.d.setU hj, h.f.setCell (p := ⟨D, j, none⟩) _ (.inr (h.d.2 D rfl))⟩
theorem TwoL.drew {w0 w : World} {g cp D n : Nat} {l ds : List Int} (h : TwoL w0 w g cp D n l ds) : TwoL w0 w.drew g cp D n l ds := ⟨h.l.same (fun _ _ => rfl), h.d.same (fun _ _ => rfl), h.f.drew⟩
theorem run_append_nil0 (u : World) (c : Nat) : (Builtin.append_ #[70, 70] 70 #[.slice none 0 0, .slice none 0 c]).run Try.prog u = .ok (.slice none 0 0) u := by
  obtain ⟨i0, hi0, _⟩ := info_parts info3
  simp [Builtin.append_, run_underlying Try.underlying70, sizeOf, typeInfo, hi0, Builtin.lenOf, Builtin.firstCells]
set_option maxRecDepth 8000 in
set_option maxHeartbeats 4000000 in
theorem draws2_ok (o : List Int) (v : Value) (w : World) (hv : RdV w v 1 (ints o)) : Calls Try.prog 45 #[v] w (DrawPost w (drawsL o).1 (drawsL o).2) := by
  have HV := hid hv
  obtain ⟨A, m, c, rfl, hl, hmc, hcm, hr⟩ := hv
  obtain rfl : o.length = m := by simpa [ints] using hl
  have hmax : o.length ≤ 9223372036854775807 := by unfold maxLen at hcm; omega
  by_cases h1 : 16 < o.length
  · have e : drawsL o = ([], 1) := by unfold drawsL; rw [if_pos h1]
    rw [e]
    have h1' : (16 : Int) < o.length := by omega
    clear e hr hl
    go_enter Try.func45, Try.ntmps45
    go_wp2
    go_ret2
    exact ⟨_, rfl, RowF.nil, Fr.refl⟩
  have h1' : ¬ (16 : Int) < o.length := by omega
  have h2 : o.length ≤ 16 := by omega
  cases hi : isOrd o with
  | false =>
    have e : drawsL o = ([], 121) := by unfold drawsL; rw [if_neg h1, if_pos hi]
    rw [e]
    have HI := hid hi
    clear e hr hl hi
    go_enter Try.func45, Try.ntmps45
    go_wp2_with fail
    refine (is_ok o _ w HV.out h2).mono ?_
    rw [HI.out]
    rintro e w1 ⟨rfl, rfl⟩
    go_wp2
    go_ret2
    exact ⟨_, rfl, RowF.nil, Fr.refl⟩
  | true =>
    have e : drawsL o = (drawsR o.length o, 0) := by unfold drawsL; rw [if_neg h1, if_neg (by rw [hi]; simp)]
    rw [e]
    have HP := hid (isOrd_iff.1 hi)
    have HI := hid hi
    clear e hi
    obtain ⟨i1, hi0, hz0, hz1, hz2⟩ := info_parts info75
    have hmk2 : ∀ u : World, (Instr.makeSlice 43 (.int .i64 (o.length : Int)) (.int .i64 (o.length : Int))).run Try.prog u = .ok (.slice (some ⟨u.heap.size, 0, none⟩) o.length o.length) (u.alloc (.cells (madeCells #[.int .u64 0] o.length) 75)) := fun u => by
      have h := run_make (P := Try.prog) u 43 75 i1 (.int .u64 0) Try.underlying43 hi0 hz0 .i64 .i64 (o.length : Int) (o.length : Int) (by omega) (Int.le_refl _) (by rw [hz2]; omega) (by omega)
      simpa [hz1, Value.cells] using h
    clear hi0 hz0 hz1 hz2
    obtain ⟨i0, hi0, hz0, hz1, hz2⟩ := info_parts info3
    by_cases h0 : o = []
    · subst h0
      have HO := hid (ints_oneCell .i64 [])
      have hmk0 : ∀ u : World, (Instr.makeSlice 43 (.int .i64 0) (.int .i64 0)).run Try.prog u = .ok (.slice (some ⟨u.heap.size, 0, none⟩) 0 0) (u.alloc (.cells (madeCells #[.int .u64 0] 0) 75)) := fun u => by simpa using hmk2 u
      clear hmk2
      rcases A with _ | ad
      · have happ := fun (u : World) => run_append_nil0 u c
        clear hr hl hi0 hz0 hz1 hz2
        go_enter Try.func45, Try.ntmps45
        go_wp2_with fail
        refine (is_ok [] _ w HV.out h2).mono ?_
        rw [HI.out]
        rintro e w1 ⟨rfl, rfl⟩
        go_wp2_with fail
        have FR := hid ((Fr.refl (S := E0) (w := w)).alloc (.cells (madeCells #[.int .u64 0] 0) 75))
        have R0 := hid (rowF_made w 75 0 (.int .u64 0) (by omega))
        have hs := hid (show w.heap.size ≤ (w).heap.size from Nat.le_refl _)
        generalize (w).alloc _ = W3 at *
        go_loopw [7] (fun ix wr => ix = .int .i64 (-1) ∧ W3 = wr) (fun _ _ => 0)
        case atStart => exact ⟨rfl, rfl⟩
        case round =>
          obtain ⟨rfl, rfl⟩ := hrel
          go_wp2_with fail
          go_ret2
          exact ⟨_, rfl, R0.out.mono (fun q hq => Nat.le_trans hs.out hq), FR.out⟩
      · have HS := hid (show ∀ j u, (ints [])[j]? = some u → w.cell? (ad.add j) = some u from fun j u hu => by simp [ints] at hu)
        clear hr
        go_enter Try.func45, Try.ntmps45
        go_wp2_with fail
        refine (is_ok [] _ w HV.out h2).mono ?_
        rw [HI.out]
        rintro e w1 ⟨rfl, rfl⟩
        go_wp2_with (at_builtin; (refine wpList_append_own_at _ rfl (.tmp 16) (.tmp 17) 70 rfl 0 3 i0 (.int .i64 0) 1 8 Try.underlying70 hi0 hz0 hz1 hz2 rfl (by decide) (.slice none 0 0) 0 [] rfl (World.ownsRow_nil _ _ _ _) ad 0 c (ints []) rfl rfl HS.out HO.out (by unfold maxLen; omega) (by omega) (Nat.zero_le _) ?_); intro v2 w2 hown2 hgrow2 hnil2 hat2; obtain ⟨_, _⟩ := (show v2 = .slice none 0 0 ∧ True from ⟨hnil2.2 ⟨rfl, rfl⟩, trivial⟩); subst v2)
        have FG := hid ((Fr.refl (S := E0)).grown hgrow2 (fun q hq => by simp [Value.ownBlock] at hq))
        have FR := hid (FG.out.alloc (.cells (madeCells #[.int .u64 0] 0) 75))
        clear hown2 hgrow2 hnil2 hat2
        have R0 := hid (rowF_made w2 75 0 (.int .u64 0) (by omega))
        have hs := hid (show w.heap.size ≤ (w2).heap.size from FG.out.size)
        generalize (w2).alloc _ = W3 at *
        go_loopw [7] (fun ix wr => ix = .int .i64 (-1) ∧ W3 = wr) (fun _ _ => 0)
        case atStart => exact ⟨rfl, rfl⟩
        case round =>
          obtain ⟨rfl, rfl⟩ := hrel
          go_wp2_with fail
          go_ret2
          exact ⟨_, rfl, R0.out.mono (fun q hq => Nat.le_trans hs.out hq), FR.out⟩
    · have hpos : 0 < o.length := List.length_pos_iff.2 h0
      obtain ⟨b, of, rfl, r⟩ := hr.at (fun e => h0 (by have := congrArg List.length e; rw [ints_len, List.length_nil] at this; exact List.eq_nil_of_length_eq_zero (by omega)))
      have HS := hid (show ∀ j u, (ints o)[j]? = some u → w.cell? ((⟨b, of, none⟩ : Addr).add j) = some u from fun j u hu => by rw [Addr.add_lit]; exact r j u hu)
      have HL := hid hl
      have HO := hid (ints_oneCell .i64 o)
      clear r hr hl h0
      go_enter Try.func45, Try.ntmps45
      go_wp2_with fail
      refine (is_ok o _ w HV.out h2).mono ?_
      rw [HI.out]
      rintro e w1 ⟨rfl, rfl⟩
      go_wp2_with (at_builtin; (refine wpList_append_lies _ rfl (.tmp 16) (.tmp 17) 70 rfl 0 3 i0 (.int .i64 0) 1 8 Try.underlying70 hi0 hz0 hz1 hz2 rfl (by decide) (.slice none 0 0) 0 [] rfl (World.ownsRow_nil _ _ _ _) ⟨b, of, none⟩ o.length c (ints o) rfl HL.out HS.out HO.out hpos (by unfold maxLen; omega) (by omega) (Nat.zero_le _) w.heap.size rfl ?_); intro g cp w2 hown2 hgrow2 hat2 hlt2)
      have TL := hid (show TwoL w (w2.alloc (.cells (madeCells #[.int .u64 0] o.length) 75)) g cp w2.heap.size o.length o (List.replicate o.length 0) from by
        have hf2 : Fr E0 w w2 := Fr.refl.grown hgrow2 (fun q hq => by simp [Value.ownBlock] at hq)
        have hr2 : RowF w2 (New w) 3 1 (.slice (some ⟨g, 0, none⟩) o.length cp) (ints o) := ⟨⟨_, by simpa using hown2⟩, fun q hq => by
          simp [Value.ownBlock] at hq hat2; subst hq; unfold New; omega⟩
        refine ⟨hr2.fr ((Fr.refl (S := E0)).alloc _) (fun _ _ x => x), ?_, hf2.alloc _⟩
        have := (rowF_made w2 75 o.length (.int .u64 0) (by omega)).mono (F' := New w) (fun q hq => by have := hf2.size; unfold New at *; omega)
        simpa [us] using this)
      have BL := hid (show BackL o o (List.replicate o.length 0) o.length from ⟨Nat.le_refl _, rfl, by simp, HP.out, by simp⟩)
      clear hown2 hgrow2 hat2 hlt2
      generalize w2.heap.size = D at *
      generalize w2.alloc _ = W2 at *
      go_loopw [7] (fun ix wr => ∃ (m : Nat) (l ds : List Int), ix = .int .i64 ((m : Int) - 1) ∧ TwoL w wr g cp D o.length l ds ∧ BackL o l ds m) (fun ix _ => (intOf ix + 1).toNat)
      case atStart => exact ⟨o.length, _, _, rfl, TL.out, BL.out⟩
      case round =>
        obtain ⟨m, l, ds, rfl, hT, hB⟩ := hrel
        have HT := hid hT
        have HB := hid hB
        clear hT hB
        cases m with
        | zero =>
          go_wp2_with fail
          go_ret2
          have hds : drawsR o.length o = ds := by have := HB.out.d; rw [this]; simp [drawsR]
          exact ⟨_, rfl, by rw [hds]; exact HT.out.d, HT.out.f⟩
        | succ m =>
          have em : ((m + 1 : Nat) : Int) - 1 = (m : Int) := by omega
          rw [em]
          obtain ⟨j, hj, hlj, _⟩ := HB.out.p.last
          obtain ⟨y, hy, hly⟩ := HB.out.p.rng m (by omega)
          have hmi : m < o.length := by have := HB.out.le; omega
          have hll := HB.out.llen
          have hdl := HB.out.dlen
          have HLJ := hid hlj
          have HLY := hid hly
          have HLL := hid hll
          have HDL := hid hdl
          clear em hlj hly hll hdl
          go_wp2_with fail
          obtain ⟨w3, hw3⟩ : ∃ w3 : World, w3 = wr := ⟨_, rfl⟩
          subst hw3
          go_loopw [8] (fun jx wr => ∃ q : Nat, jx = .int .i64 q ∧ q ≤ m + 1 ∧ TwoL w wr g cp D o.length l (if j < q then ds.set m (j : Int) else ds)) (fun jx _ => (m + 1) - (intOf jx).toNat)
          case atStart => exact ⟨0, rfl, by omega, by rw [if_neg (by omega)]; exact HT.out⟩
          case round =>
            obtain ⟨q, rfl, hq, hT2⟩ := hrel
            have HT2 := hid hT2
            clear hT2
            by_cases hqm : q ≤ m
            · have hqi : (q : Int) ≤ (m : Int) := by omega
              obtain ⟨x, hxn, hx⟩ := HB.out.p.rng q (by omega)
              obtain ⟨c1, f1⟩ := HT2.out.l.atI HLL.out hx
              by_cases hqj : q = j
              · subst hqj
                have hxm : x = m := by have := HLJ.out; rw [hx] at this; injection this with this; omega
                subst hxm
                rw [if_neg (by omega)] at HT2
                obtain ⟨z, hz⟩ : ∃ z, ds[x]? = some z := ⟨_, List.getElem?_eq_getElem (by have := HDL.out; omega)⟩
                obtain ⟨c2, f2⟩ := HT2.out.d.atU HDL.out hz
                have HT3 := hid (HT2.out.setD (j := x) (x := (q : Int)) (by have := HDL.out; omega))
                clear hx hz
                go_wp2_with fail
                go_roundw
                case rel => exact ⟨q + 1, by simp, by omega, by rw [if_pos (by omega)]; exact HT3.out⟩
                case measure => simp [intOf]; omega
              · have hxm : ¬ (x : Int) = (m : Int) := fun e => by
                  have e2 : x = m := by omega
                  subst e2; exact hqj (HB.out.p.inj q j (x : Int) (by omega) (by omega) hx HLJ.out)
                have hb : (((x : Int) == (m : Int)) : Bool) = false := by simpa using hxm
                clear hx hxm
                go_wp2_with fail
                go_roundw
                case rel => exact ⟨q + 1, by simp, by omega, by
                  have h5 := HT2.out
                  by_cases hjq : j < q
                  · rw [if_pos hjq] at h5; rw [if_pos (by omega)]; exact h5
                  · rw [if_neg hjq] at h5; rw [if_neg (by omega)]; exact h5⟩
                case measure => simp [intOf]; omega
            · obtain rfl : q = m + 1 := by omega
              have hT4 := HT2.out
              rw [if_pos (by omega)] at hT4
              have HT4 := hid hT4
              have hz : (ds.set m (j : Int))[m]? = some (j : Int) := by rw [List.getElem?_set, if_pos rfl, if_pos (by have := HDL.out; omega)]
              obtain ⟨c1, f1⟩ := hT4.d.atU (by rw [List.length_set]; exact HDL.out) hz
              obtain ⟨c2, f2⟩ := hT4.l.atI HLL.out HLY.out
              obtain ⟨c3, f3⟩ := hT4.l.atI HLL.out HLJ.out
              have HT5 := hid ((HT4.out.setL (j := j) (x := (y : Int)) (by have := HLL.out; omega)).drew)
              have HB5 := hid (HB.out.step hj HLJ.out HLY.out)
              have b1 : (0 : Int) ≤ (j : Int) := by omega
              have b2 : (j : Int) < (o.length : Int) := by omega
              have b3 : (m : Int) < (o.length : Int) := by omega
              have b4 : (0 : Int) ≤ (m : Int) := by omega
              clear hT4 hz HT2 hq hqm
              go_wp2_with fail
              go_region
              go_wp2_with fail
              go_roundw
              case rel => exact ⟨m, _, _, rfl, HT5.out, HB5.out⟩
              case measure => simp [intOf]
end Go.Proofs.Yteffmnohgnmanaa
