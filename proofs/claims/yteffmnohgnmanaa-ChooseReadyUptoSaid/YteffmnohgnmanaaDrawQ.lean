/- Which lists are orders; what Draws answers. -/
import Derived.Test.YteffmnohgnmanaaDrawP
namespace Go.Proofs.Yteffmnohgnmanaa
open Go.RowKit
def isOrd (o : List Int) : Bool := (List.range o.length).all (fun i => decide (o.count (i : Int) = 1))
def drawsL (o : List Int) : List Int × Int := if 16 < o.length then ([], 1) else if isOrd o = false then ([], 121) else (drawsR o.length o, 0)
def rangeI (n : Nat) : List Int := (List.range n).map (fun i : Nat => (i : Int))
theorem rangeI_nodup (n : Nat) : (rangeI n).Nodup := by
  unfold rangeI List.Nodup
  rw [List.pairwise_map]
  exact (List.nodup_range (n := n)).imp (fun h e => h (by omega))
theorem mem_rangeI {n : Nat} {x : Int} : x ∈ rangeI n ↔ 0 ≤ x ∧ x < n := by
  unfold rangeI
  simp only [List.mem_map, List.mem_range]
  exact ⟨fun ⟨a, h1, h2⟩ => by omega, fun h => ⟨x.toNat, by omega, by omega⟩⟩
theorem len_rangeI (n : Nat) : (rangeI n).length = n := by simp [rangeI]
theorem nodup_inj {o : List Int} (h : o.Nodup) {j j' : Nat} {x : Int} (h1 : o[j]? = some x) (h2 : o[j']? = some x) : j = j' := by
  obtain ⟨a1, b1⟩ := List.getElem?_eq_some_iff.1 h1
  obtain ⟨a2, b2⟩ := List.getElem?_eq_some_iff.1 h2
  rcases Nat.lt_trichotomy j j' with hlt | hlt | hlt
  · exact absurd (b1.trans b2.symm) (List.pairwise_iff_getElem.1 h j j' a1 a2 hlt)
  · exact hlt
  · exact absurd (b2.trans b1.symm) (List.pairwise_iff_getElem.1 h j' j a2 a1 hlt)
theorem inj_nodup {o : List Int} (h : ∀ (j j' : Nat) (x : Int), o[j]? = some x → o[j']? = some x → j = j') : o.Nodup := by
  unfold List.Nodup
  rw [List.pairwise_iff_getElem]
  intro i j hi hj hij e
  have := h i j o[i] (List.getElem?_eq_getElem hi) (by rw [e]; exact List.getElem?_eq_getElem hj)
  omega
theorem perm_of_inj {o : List Int} (hr : ∀ x ∈ o, 0 ≤ x ∧ x < o.length) (hn : o.Nodup) : PermTo o o.length := by
  have hit : ∀ x : Nat, x < o.length → (x : Int) ∈ o := by
    intro x hx
    apply Classical.byContradiction
    intro hm
    have h1 : o.length ≤ ((rangeI o.length).erase (x : Int)).length := hn.length_le_of_subset (fun y hy => by
      rw [(rangeI_nodup _).mem_erase_iff, mem_rangeI]
      exact ⟨fun e => hm (e ▸ hy), hr y hy⟩)
    rw [List.length_erase_of_mem (mem_rangeI.2 (by omega)), len_rangeI] at h1
    omega
  refine ⟨fun x hx => ?_, fun j hj => ?_, fun j j' x _ _ h1 h2 => nodup_inj hn h1 h2⟩
  · obtain ⟨j, hj⟩ := List.getElem?_of_mem (hit x hx)
    exact ⟨j, lt_of_get hj, hj⟩
  · have := hr _ (List.getElem_mem hj)
    exact ⟨(o[j]).toNat, by omega, by rw [List.getElem?_eq_getElem hj]; congr 1; omega⟩
theorem isOrd_iff {o : List Int} : isOrd o = true ↔ PermTo o o.length := by
  unfold isOrd
  simp only [List.all_eq_true, List.mem_range, decide_eq_true_eq]
  constructor
  · intro h
    have hsub : ∀ y ∈ rangeI o.length, y ∈ o := fun y hy => by
      obtain ⟨h0, h1⟩ := mem_rangeI.1 hy
      have := h y.toNat (by omega)
      rw [show ((y.toNat : Nat) : Int) = y from by omega] at this
      exact List.count_pos_iff.1 (by omega)
    have hr : ∀ x ∈ o, 0 ≤ x ∧ x < o.length := by
      intro x hx
      apply Classical.byContradiction
      intro hb
      have h1 : (rangeI o.length).length ≤ (o.erase x).length := (rangeI_nodup _).length_le_of_subset (fun y hy => by
        refine (List.mem_erase_of_ne (fun e => hb ?_)).2 (hsub y hy)
        rw [← e]; exact mem_rangeI.1 hy)
      rw [len_rangeI, List.length_erase_of_mem hx] at h1
      have := List.length_pos_of_mem hx
      omega
    refine perm_of_inj hr (List.nodup_iff_count.2 (fun a => ?_))
    by_cases ha : a ∈ o
    · have hb := hr a ha
      have := h a.toNat (by omega)
      rw [show ((a.toNat : Nat) : Int) = a from by omega] at this
      omega
    · rw [List.count_eq_zero.2 ha]; omega
  · intro h i hi
    have hn : o.Nodup := inj_nodup (fun j j' x h1 h2 => h.inj j j' x (lt_of_get h1) (lt_of_get h2) h1 h2)
    rw [hn.count]
    obtain ⟨j, _, hj⟩ := h.hit i hi
    rw [if_pos (List.mem_of_getElem? hj)]
/-- What Draws keeps while it looks at an order: where each case stands. -/
structure AtInv (o aL left : List Int) (k : Nat) : Prop where
  alen : aL.length = o.length
  llen : left.length = o.length
  a : ∀ i : Nat, i < k → ∃ x : Nat, o[i]? = some (x : Int) ∧ aL[x]? = some (i : Int)
  b : ∀ x : Nat, x < o.length → aL[x]? = some (-1) ∨ ∃ i : Nat, i < k ∧ aL[x]? = some (i : Int) ∧ o[i]? = some (x : Int)
  l : ∀ i : Nat, i < k → left[i]? = o[i]?
theorem AtInv.start {o aL left : List Int} (h1 : aL.length = o.length) (h2 : left.length = o.length) (h : ∀ i : Nat, i < o.length → aL[i]? = some (-1)) : AtInv o aL left 0 :=
  ⟨h1, h2, fun i hi => absurd hi (by omega), fun x hx => .inl (h x hx), fun i hi => absurd hi (by omega)⟩
theorem AtInv.step {o aL left : List Int} {k x : Nat} {y : Int} (h : AtInv o aL left k) (hk : k < o.length) (hx : o[k]? = some (x : Int)) (hxn : x < o.length) (hy : aL[x]? = some y) (hneg : y < 0) : AtInv o (aL.set x (k : Int)) (left.set k (x : Int)) (k + 1) := by
  have hal := h.alen
  have hll := h.llen
  refine ⟨by simpa using hal, by simpa using hll, ?_, ?_, ?_⟩
  · intro i hi
    by_cases e : i = k
    · subst e; exact ⟨x, hx, by rw [List.getElem?_set, if_pos rfl, if_pos (by omega)]⟩
    · obtain ⟨z, hz, haz⟩ := h.a i (by omega)
      refine ⟨z, hz, ?_⟩
      rw [List.getElem?_set, if_neg, haz]
      intro e; subst e; rw [hy] at haz; injection haz with haz; omega
  · intro z hz
    by_cases e : x = z
    · subst e; exact .inr ⟨k, by omega, by rw [List.getElem?_set, if_pos rfl, if_pos (by omega)], hx⟩
    · rw [List.getElem?_set, if_neg e]
      rcases h.b z hz with h1 | ⟨i, hi, h1, h2⟩
      · exact .inl h1
      · exact .inr ⟨i, by omega, h1, h2⟩
  · intro i hi
    rw [List.getElem?_set]
    by_cases e : k = i
    · subst e; rw [if_pos rfl, if_pos (by omega), hx]
    · rw [if_neg e]; exact h.l i (by omega)
theorem AtInv.last {o aL left : List Int} (h : AtInv o aL left o.length) : left = o ∧ PermTo o o.length ∧ ∀ x j : Nat, o[j]? = some (x : Int) → aL[x]? = some (j : Int) := by
  have hat : ∀ x j : Nat, o[j]? = some (x : Int) → aL[x]? = some (j : Int) := fun x j hj => by
    obtain ⟨y, hy, hay⟩ := h.a j (lt_of_get hj)
    rw [hj] at hy; injection hy with hy
    have : x = y := by omega
    subst this; exact hay
  refine ⟨?_, ?_, hat⟩
  · apply List.ext_getElem?
    intro i
    rcases Nat.lt_or_ge i o.length with h1 | h1
    · exact h.l i h1
    · rw [List.getElem?_eq_none h1, List.getElem?_eq_none (by rw [h.llen]; exact h1)]
  · refine perm_of_inj (fun x hx => ?_) (inj_nodup (fun j j' x h1 h2 => ?_))
    · obtain ⟨j, hj⟩ := List.getElem?_of_mem hx
      obtain ⟨y, hy, hay⟩ := h.a j (lt_of_get hj)
      rw [hj] at hy; injection hy with hy
      have := lt_of_get hay
      rw [h.alen] at this; omega
    · obtain ⟨y, hy, hay⟩ := h.a j (lt_of_get h1)
      have e : x = (y : Int) := by rw [h1] at hy; injection hy
      subst e
      have h3 := hat y j h1
      have h4 := hat y j' h2
      rw [h3] at h4; injection h4 with h4; omega
/-- Where it stops: the list is no order. -/
theorem AtInv.bad {o aL left : List Int} {k : Nat} {x : Int} (h : AtInv o aL left k) (hx : o[k]? = some x) (hb : x < 0 ∨ (o.length : Int) ≤ x ∨ ∃ y, aL[x.toNat]? = some y ∧ 0 ≤ y ∧ 0 ≤ x) : isOrd o = false := by
  cases hi : isOrd o with
  | false => rfl
  | true =>
    exfalso
    have hp := isOrd_iff.1 hi
    have hk := lt_of_get hx
    obtain ⟨z, hz, hzx⟩ := hp.rng k hk
    have e : x = (z : Int) := by rw [hx] at hzx; injection hzx
    subst e
    rcases hb with h1 | h1 | ⟨y, hy, h0, _⟩
    · omega
    · omega
    · rw [Int.toNat_natCast] at hy
      rcases h.b z hz with h2 | ⟨i, hik, h2, h3⟩
      · rw [h2] at hy; injection hy with hy; omega
      · have := hp.inj i k (z : Int) (by omega) hk h3 hx; omega
/-- What it keeps while it tells the numbers. -/
structure BackInv (o aL left ds : List Int) (m : Nat) : Prop where
  le : m ≤ o.length
  alen : aL.length = o.length
  llen : left.length = o.length
  dlen : ds.length = o.length
  p : PermTo left m
  at' : ∀ x j : Nat, j < m → left[j]? = some (x : Int) → aL[x]? = some (j : Int)
  d : drawsR o.length o = drawsR m left ++ ds.drop m
theorem BackInv.step {o aL left ds : List Int} {m j : Nat} {y : Nat} (h : BackInv o aL left ds (m + 1)) (hj : j ≤ m) (hl : left[j]? = some (m : Int)) (hy : left[m]? = some (y : Int)) (hym : y ≤ m) : BackInv o (aL.set y (j : Int)) (left.set j (y : Int)) (ds.set m (j : Int)) m := by
  have h1 := h.le
  have h2 := h.alen
  have h3 := h.llen
  have h4 := h.dlen
  refine ⟨by omega, by simpa using h2, by simpa using h3, by simpa using h4, h.p.step hj hl hy, ?_, ?_⟩
  · intro x p hp hx
    rw [List.getElem?_set] at hx
    by_cases e : j = p
    · subst e
      rw [if_pos rfl, if_pos (by omega)] at hx
      injection hx with hx
      have : y = x := by omega
      subst this
      rw [List.getElem?_set, if_pos rfl, if_pos (by omega)]
    · rw [if_neg e] at hx
      rw [List.getElem?_set, if_neg, h.at' x p (by omega) hx]
      intro e2; subst e2
      have := h.p.inj p m (y : Int) (by omega) (by omega) hx hy
      omega
  · rw [h.d, drawsR_step h.p hj hl hy, List.append_assoc]
    congr 1
    apply List.ext_getElem?
    intro i
    rw [List.getElem?_drop, List.getElem?_set]
    rcases Nat.eq_zero_or_pos i with e | e
    · subst e; rw [if_pos (by omega), if_pos (by omega)]; rfl
    · obtain ⟨i', rfl⟩ : ∃ i', i = i' + 1 := ⟨i - 1, by omega⟩
      rw [if_neg (by omega), List.getElem?_append_right (by simp), List.getElem?_drop]
      congr 1
      simp; omega
end Go.Proofs.Yteffmnohgnmanaa
