/- slices.DeleteFunc over waiters, on a row that is owned. -/
import Derived.Test.YteffmnohgnmanaaFind
namespace Go.Proofs.Yteffmnohgnmanaa
open Go.RowKit
theorem idxv_cases {α : Type} (p : α → Bool) (l : List α) : (idxv p l = -1 ∧ ∀ x ∈ l, p x = false) ∨ ∃ (k : Nat) (x : α), idxv p l = k ∧ l[k]? = some x ∧ p x = true ∧ (∀ y ∈ l.take k, p y = false) := by
  unfold idxv
  rcases h : l.findIdx? p with _ | i
  · left; rw [List.findIdx?_eq_none_iff] at h; exact ⟨rfl, h⟩
  · right
    rw [List.findIdx?_eq_some_iff_getElem] at h
    obtain ⟨hi, hp, hno⟩ := h
    refine ⟨i, l[i], rfl, List.getElem?_eq_getElem hi, hp, ?_⟩
    intro y hy
    obtain ⟨j, hj, rfl⟩ := List.mem_iff_getElem.1 hy
    rw [List.getElem_take]
    have := hno j (by simp at hj; omega)
    simpa using this
/-- What DeleteFunc leaves. -/
def DelPost (v : Value) (l : List Wt) (p : Wt → Bool) (w : World) (F : Nat → Prop) (e : Ending) (w' : World) : Prop :=
  ∃ v', e = .returned v' ∧ RowF w' F 114 4 v' (wts (l.filter fun x => !p x)) ∧ Fr (fun k => v.ownBlock = some k) w w' ∧ v'.ownBlock = v.ownBlock
theorem filter_all {l : List Wt} {p : Wt → Bool} (h : ∀ x ∈ l, p x = false) : (l.filter fun x => !p x) = l := by
  rw [List.filter_eq_self]; intro x hx; simp [h x hx]
/-- The round's relation: what stands ahead is kept, what stands behind is not yet looked at. -/
structure DelRel (l q : List Wt) (p : Wt → Bool) (i j : Nat) : Prop where
  len : q.length = l.length
  kept : q.take i = (l.take j).filter fun x => !p x
  rest : q.drop j = l.drop j
theorem DelRel.at {l q : List Wt} {p : Wt → Bool} {i j : Nat} (h : DelRel l q p i j) {x : Wt} (hx : q[j]? = some x) : l[j]? = some x := by
  have := congrArg (fun t => t[0]?) h.rest
  simp only [List.getElem?_drop, Nat.add_zero] at this
  rw [← this]; exact hx
theorem DelRel.drop1 {l q : List Wt} {p : Wt → Bool} {i j : Nat} (h : DelRel l q p i j) {x : Wt} (hx : q[j]? = some x) (hp : p x = true) : DelRel l q p i (j + 1) := by
  have hl := h.at hx
  refine ⟨h.len, ?_, ?_⟩
  · rw [h.kept, List.take_add_one, hl]; simp [List.filter_append, hp]
  · have := congrArg (List.drop 1) h.rest; simpa [List.drop_drop] using this
theorem DelRel.keep1 {l q : List Wt} {p : Wt → Bool} {i j : Nat} (h : DelRel l q p i j) (hij : i < j) {x : Wt} (hx : q[j]? = some x) (hp : p x = false) : DelRel l (q.set i x) p (i + 1) (j + 1) := by
  have hl := h.at hx
  have hj := lt_of_get hx
  refine ⟨by rw [List.length_set]; exact h.len, ?_, ?_⟩
  · have e : (q.set i x).take (i + 1) = q.take i ++ [x] := by
      rw [List.take_add_one, List.getElem?_set_self (by omega), List.take_set_of_le (Nat.le_refl _)]; rfl
    rw [e, h.kept, List.take_add_one, hl]; simp [List.filter_append, hp]
  · rw [List.drop_set_of_lt (by omega)]
    have := congrArg (List.drop 1) h.rest; simpa [List.drop_drop] using this
theorem DelRel.start {l : List Wt} {p : Wt → Bool} {k : Nat} {x : Wt} (hx : l[k]? = some x) (hp : p x = true) (hno : ∀ y ∈ l.take k, p y = false) : DelRel l l p k (k + 1) := by
  refine ⟨rfl, ?_, rfl⟩
  rw [List.take_add_one, hx, List.filter_append, filter_all hno]; simp [hp]
/-- Four cells of an owned row of waiters are stored. -/
theorem RowF.put4 {w : World} {F : Nat → Prop} {g n c i : Nat} {q : List Wt} {x : Wt} (h : RowF w F 114 4 (.slice (some ⟨g, 0, none⟩) n c) (wts q)) (hi : i < q.length) :
    RowF ((((w.setCell ⟨g, i * 4, none⟩ (.int .i64 x.s)).setCell ⟨g, i * 4 + 1, none⟩ (.int .i64 x.g)).setCell ⟨g, i * 4 + 2, none⟩ (.int .i64 x.c)).setCell ⟨g, i * 4 + 3, none⟩ (.int .i64 x.v)) F 114 4 (.slice (some ⟨g, 0, none⟩) n c) (wts (q.set i x)) := by
  have hq := List.getElem?_eq_getElem hi
  generalize q[i] = y at hq
  have hl : ∀ m : List Wt, (wts m).length = m.length * 4 := wts_len
  have s1 := h.stored (j := i * 4 + 0) (u := .int .i64 x.s) (by rw [hl]; omega)
  have f1 := flat_set (f := Wt.cells) (sz := 4) (fun _ => rfl) q i 0 y ⟨x.s, y.g, y.c, y.v⟩ (.int .i64 x.s) hq (by omega) rfl
  change (wts q).set _ _ = wts _ at f1
  rw [f1] at s1
  have s2 := s1.stored (j := i * 4 + 1) (u := .int .i64 x.g) (by rw [hl, List.length_set]; omega)
  have f2 := flat_set (f := Wt.cells) (sz := 4) (fun _ => rfl) (q.set i ⟨x.s, y.g, y.c, y.v⟩) i 1 _ ⟨x.s, x.g, y.c, y.v⟩ (.int .i64 x.g) (List.getElem?_set_self (by omega)) (by omega) rfl
  change (wts _).set _ _ = wts _ at f2
  rw [f2] at s2
  have s3 := s2.stored (j := i * 4 + 2) (u := .int .i64 x.c) (by rw [hl]; simp; omega)
  have f3 := flat_set (f := Wt.cells) (sz := 4) (fun _ => rfl) ((q.set i ⟨x.s, y.g, y.c, y.v⟩).set i ⟨x.s, x.g, y.c, y.v⟩) i 2 _ ⟨x.s, x.g, x.c, y.v⟩ (.int .i64 x.c) (List.getElem?_set_self (by simp; omega)) (by omega) rfl
  change (wts _).set _ _ = wts _ at f3
  rw [f3] at s3
  have s4 := s3.stored (j := i * 4 + 3) (u := .int .i64 x.v) (by rw [hl]; simp; omega)
  have f4 := flat_set (f := Wt.cells) (sz := 4) (fun _ => rfl) (((q.set i ⟨x.s, y.g, y.c, y.v⟩).set i ⟨x.s, x.g, y.c, y.v⟩).set i ⟨x.s, x.g, x.c, y.v⟩) i 3 _ x (.int .i64 x.v) (List.getElem?_set_self (by simp; omega)) (by omega) (by cases x; rfl)
  change (wts _).set _ _ = wts _ at f4
  rw [f4] at s4
  simpa only [List.set_set, Nat.add_zero] using s4

theorem flat_take4 : ∀ (q : List Wt) (i : Nat), wts (q.take i) = (wts q).take (i * 4)
  | [], i => by simp [wts]
  | x :: q, 0 => by simp [wts]
  | x :: q, i + 1 => by
    have ih := flat_take4 q i
    simp only [wts] at ih
    simp only [wts, List.take_succ_cons, List.flatMap_cons]
    rw [ih, show (i + 1) * 4 = i * 4 + 4 from by omega]
    simp [Wt.cells]
theorem zero114 (w : World) : (zeroValue 114).run Try.prog w = .ok (.agg #[.int .i64 0, .int .i64 0, .int .i64 0, .int .i64 0]) w := by kernel_rfl
set_option maxHeartbeats 800000 in
theorem deleteFuncW (v : Value) (l : List Wt) (K : Nat) (cap : Array Value) (p : Wt → Bool) (w : World) (F : Nat → Prop) (hrow : RowF w F 114 4 v (wts l)) (hp : PredW (fun k => v.ownBlock = some k) K cap p w) :
    Calls Try.prog 84 #[v, .func (.func K) #[] cap] w (DelPost v l p w F) := by
  have hK := hp.enter
  rcases idxv_cases p l with ⟨hi, hall⟩ | ⟨k, x0, hi, hx0, hpx0, hno⟩
  · obtain ⟨A, c, rfl, hnc, hcm, hr⟩ := hrow.read (by decide) (wts_len l)
    have HI := hid hi; clear hi
    have HR := hid hrow; clear hrow
    go_enter Try.func84, Try.ntmps84
    go_wp2_with fail
    refine (indexW A l.length c K cap p l w rfl (Nat.le_trans hnc hcm) hp.e0 hr).mono ?_
    rintro e w1 ⟨rfl, hf1⟩
    rw [HI.out]
    have F1 := hid hf1; clear hf1
    go_wp2
    go_ret
    exact ⟨_, rfl, by rw [filter_all hall]; exact HR.out.fr F1.out (fun _ _ x => x), F1.out.e0, rfl⟩
  · have hk := lt_of_get hx0
    rcases hrow.form (by decide) (wts_len l) with ⟨_, h0, _⟩ | ⟨g, c, rfl, hFg, hg, hnc, hcm, hr, hfz⟩
    · omega
    have hn : l.length ≤ 2 ^ 63 - 1 := Nat.le_trans hnc hcm
    have HR := hid hrow
    have HI := hid hi; clear hi
    have HD := hid (DelRel.start hx0 hpx0 hno)
    clear hx0 hpx0 hno
    have hra : RdA w (some ⟨g, 0, none⟩) (wts l) := .inr ⟨g, 0, rfl, hr⟩
    clear hr
    have hfz0 := hid hfz; clear hfz
    go_enter Try.func84, Try.ntmps84
    go_wp2_with fail
    refine (indexW _ l.length c K cap p l w rfl (Nat.le_trans hnc hcm) hp.e0 hra).mono ?_
    rintro e w1 ⟨rfl, hf1⟩
    rw [HI.out]
    have F1 := hid (hf1.e0 (S := fun k => (Value.slice (some ⟨g, 0, none⟩) l.length c).ownBlock = some k))
    have R1 := hid (HR.out.fr hf1 (fun _ _ x => x))
    clear hf1 hra hrow
    have hb1 : ((k : Int) == -1) = false := by simp
    go_wp2_with fail
    go_loopw [5, 6] (fun ti tj wr => ∃ (i j : Nat) (q : List Wt), ti = .int .i64 i ∧ tj = .int .i64 j ∧ i < j ∧ j ≤ l.length ∧ DelRel l q p i j ∧ RowF wr F 114 4 (.slice (some ⟨g, 0, none⟩) l.length c) (wts q) ∧ Fr (fun k => (Value.slice (some ⟨g, 0, none⟩) l.length c).ownBlock = some k) w wr) (fun _ j _ => l.length - (intOf j).toNat)
    case atStart => exact ⟨k, k + 1, l, rfl, congrArg (Value.int .i64) (Int.natCast_succ k).symm, Nat.lt_succ_self k, hk, HD.out, R1.out, F1.out⟩
    case round =>
      obtain ⟨i, j, q, rfl, rfl, hij, hjl, hrel, hrow, hfr⟩ := hrel
      have R := hid hrow
      have D := hid hrel
      have FW := hid hfr
      have hql := hrel.len
      by_cases hlt : j < l.length
      · obtain ⟨x, hx⟩ : ∃ x, q[j]? = some x := ⟨q[j]'(by omega), List.getElem?_eq_getElem (by omega)⟩
        rcases hrow.form (by decide) (wts_len q) with ⟨hh, _⟩ | ⟨g', c', hv, _, hgr, _, _, hr, hfz⟩
        · cases hh
        injection hv with e1 e2 e3
        injection e1 with e1; injection e1 with e1; subst e1 e3
        obtain ⟨g0, g1, g2, g3⟩ := hr.wt hx
        simp only [Nat.zero_add] at g0 g1 g2 g3
        have hHX := hid hx
        clear hr hrow hrel hfr hx e2
        have hQ := hid hql; clear hql
        have hgw : g < wr.heap.size := hgr
        obtain ⟨y, hy⟩ : ∃ y, q[i]? = some y := ⟨q[i]'(by have := lt_of_get hHX.out; omega), List.getElem?_eq_getElem (by have := lt_of_get hHX.out; omega)⟩
        have hHY := hid hy; clear hy
        go_wp2_with fail
        refine (hp.call x _ (FW.out.alloc _)).mono ?_
        rintro e w2 ⟨rfl, hf2⟩
        have FA := hid (FW.out.trans ((Fr.refl.alloc (.cells #[.int .i64 x.s, .int .i64 x.g, .int .i64 x.c, .int .i64 x.v] 114)).trans hf2.e0))
        have RA := hid ((R.out.fr (Fr.refl (S := E0) |>.alloc (.cells #[.int .i64 x.s, .int .i64 x.g, .int .i64 x.c, .int .i64 x.v] 114)) (fun _ _ x => x)).fr hf2 (fun _ _ x => x))
        have k0 : w2.cell? ⟨wr.heap.size, 0, none⟩ = some (.int .i64 x.s) := hf2.cell (by rw [World.cell?_alloc_at _ _ _ _ rfl]; rfl) (fun x => x)
        have k1 : w2.cell? ⟨wr.heap.size, 1, none⟩ = some (.int .i64 x.g) := hf2.cell (by rw [World.cell?_alloc_at _ _ _ _ rfl]; rfl) (fun x => x)
        have k2 : w2.cell? ⟨wr.heap.size, 2, none⟩ = some (.int .i64 x.c) := hf2.cell (by rw [World.cell?_alloc_at _ _ _ _ rfl]; rfl) (fun x => x)
        have k3 : w2.cell? ⟨wr.heap.size, 3, none⟩ = some (.int .i64 x.v) := hf2.cell (by rw [World.cell?_alloc_at _ _ _ _ rfl]; rfl) (fun x => x)
        clear hf2 g0 g1 g2 g3
        cases hpx : p x with
        | true =>
          have HX := hid hpx; clear hpx
          go_wp2
          go_roundw
          case rel => exact ⟨i, j + 1, q, rfl, by go_num, by omega, by omega, D.out.drop1 hHX.out HX.out, RA.out, FA.out⟩
          case measure => simp [intOf]; omega
        | false =>
          have HX := hid hpx; clear hpx
          rcases RA.out.form (by decide) (wts_len q) with ⟨hh, _⟩ | ⟨g', c', hv, _, hg2, _, _, hr, hfz⟩
          · cases hh
          injection hv with e1 e2 e3
          injection e1 with e1; injection e1 with e1; subst e1 e3
          clear e2
          obtain ⟨y0, y1, y2, y3⟩ := hr.wt hHY.out
          simp only [Nat.zero_add] at y0 y1 y2 y3
          have RK := hid (RA.out.put4 (x := x) (lt_of_get hHY.out))
          have DK := hid (D.out.keep1 hij hHX.out HX.out)
          have FK := hid ((((FA.out.setCell (p := ⟨g, i * 4, none⟩) (.int .i64 x.s) (.inl rfl)).setCell (p := ⟨g, i * 4 + 1, none⟩) (.int .i64 x.g) (.inl rfl)).setCell (p := ⟨g, i * 4 + 2, none⟩) (.int .i64 x.c) (.inl rfl)).setCell (p := ⟨g, i * 4 + 3, none⟩) (.int .i64 x.v) (.inl rfl))
          have z0 := hfz (i * 4)
          have z1 := hfz (i * 4 + 1)
          have z2 := hfz (i * 4 + 2)
          have z3 := hfz (i * 4 + 3)
          clear hr hfz
          go_wp2
          go_roundw
          case rel => exact ⟨i + 1, j + 1, q.set i x, by simp, by simp, by omega, by omega, DK.out, RK.out, FK.out⟩
          case measure => simp [intOf]; omega
      · have hjl' : j = l.length := by omega
        have hil : i < l.length := by omega
        obtain ⟨zs, hcl⟩ := run_clear_row (P := Try.prog) (t := 65) (sz := 4) (z := .agg #[.int .i64 0, .int .i64 0, .int .i64 0, .int .i64 0]) Try.underlying65 zero114 rfl (by decide) (by decide) hrow (by rw [wts_len, hql]) hil 0 (c - i)
        have HZ := hid (hrow.cut (i := i) (by omega) zs)
        have HJ := hid hjl'
        have HZ' := HZ.out
        clear hjl' hrow hrel hfr
        have hQ := hid hql; clear hql
        go_wp2_with fail
        go_ret
        exact ⟨_, rfl, by rw [← flat_take4, D.out.kept, HJ.out, List.take_length] at HZ'; exact HZ', FW.out.setCells (.inl rfl) _ _, rfl⟩
end Go.Proofs.Yteffmnohgnmanaa
