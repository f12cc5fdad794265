/- Orders and draws as plain data: each order comes of the draws that are told of it, and of no others. -/
import Derived.Test.YteffmnohgnmanaaOrder2
namespace Go.Proofs.Yteffmnohgnmanaa
open Go.RowKit
/-- The first m places of l hold each of 0 to m - 1 once. -/
structure PermTo (l : List Int) (m : Nat) : Prop where
  hit : ∀ x : Nat, x < m → ∃ j : Nat, j < m ∧ l[j]? = some (x : Int)
  rng : ∀ j : Nat, j < m → ∃ x : Nat, x < m ∧ l[j]? = some (x : Int)
  inj : ∀ (j j' : Nat) (x : Int), j < m → j' < m → l[j]? = some x → l[j']? = some x → j = j'
theorem PermTo.len {l : List Int} {m : Nat} (h : PermTo l m) : m ≤ l.length := by
  rcases Nat.eq_zero_or_pos m with e | e
  · omega
  · obtain ⟨x, _, hx⟩ := h.rng (m - 1) (by omega)
    have := lt_of_get hx; omega
theorem PermTo.step {l : List Int} {m j : Nat} {y : Int} (h : PermTo l (m + 1)) (hj : j ≤ m) (hl : l[j]? = some (m : Int)) (hy : l[m]? = some y) : PermTo (l.set j y) m := by
  have hlen := h.len
  have get : ∀ p, p < m → (l.set j y)[p]? = if p = j then some y else l[p]? := fun p hp => by
    rw [List.getElem?_set]
    by_cases e : j = p
    · subst e; rw [if_pos rfl, if_pos (by omega), if_pos rfl]
    · rw [if_neg e, if_neg (fun x => e x.symm)]
  refine ⟨?_, ?_, ?_⟩
  · intro x hx
    obtain ⟨p, hp, hpx⟩ := h.hit x (by omega)
    by_cases e : p = m
    · subst e
      have hjm : j ≠ p := fun e => by subst e; rw [hl] at hpx; injection hpx with hpx; omega
      refine ⟨j, by omega, ?_⟩
      rw [get j (by omega), if_pos rfl, ← hy, hpx]
    · refine ⟨p, by omega, ?_⟩
      rw [get p (by omega), if_neg (fun e => by subst e; rw [hl] at hpx; injection hpx with hpx; omega), hpx]
  · intro p hp
    rw [get p hp]
    by_cases e : p = j
    · subst e
      rw [if_pos rfl]
      obtain ⟨x, hx, hmx⟩ := h.rng m (by omega)
      refine ⟨x, ?_, by rw [← hy, hmx]⟩
      rcases Nat.lt_or_ge x m with h1 | h1
      · exact h1
      · have : x = m := by omega
        subst this
        have := h.inj p x (x : Int) (by omega) (by omega) hl hmx
        omega
    · rw [if_neg e]
      obtain ⟨x, hx, hpx⟩ := h.rng p (by omega)
      refine ⟨x, ?_, hpx⟩
      rcases Nat.lt_or_ge x m with h1 | h1
      · exact h1
      · have : x = m := by omega
        subst this
        exact absurd (h.inj p j (x : Int) (by omega) (by omega) hpx hl) e
  · intro p p' x hp hp' h1 h2
    rw [get p hp] at h1
    rw [get p' hp'] at h2
    by_cases e : p = j
    · subst e
      rw [if_pos rfl] at h1
      by_cases e' : p' = p
      · exact e'.symm
      · rw [if_neg e'] at h2
        rw [← hy] at h1
        have := h.inj p' m x (by omega) (by omega) h2 h1
        omega
    · rw [if_neg e] at h1
      by_cases e' : p' = j
      · subst e'
        rw [if_pos rfl, ← hy] at h2
        have := h.inj p m x (by omega) (by omega) h1 h2
        omega
      · rw [if_neg e'] at h2
        exact h.inj p p' x (by omega) (by omega) h1 h2
theorem PermTo.congr {l l' : List Int} {m : Nat} (h : PermTo l m) (he : ∀ p, p < m → l'[p]? = l[p]?) : PermTo l' m :=
  ⟨fun x hx => by obtain ⟨j, hj, hjx⟩ := h.hit x hx; exact ⟨j, hj, (he j hj).trans hjx⟩, fun j hj => by obtain ⟨x, hx, hjx⟩ := h.rng j hj; exact ⟨x, hx, (he j hj).trans hjx⟩,
    fun j j' x hj hj' h1 h2 => h.inj j j' x hj hj' ((he j hj).symm.trans h1) ((he j' hj').symm.trans h2)⟩
/-- The numbers that an order was drawn by: the last case stands where its number drew it; what stood there stands at the end. -/
def drawsR : Nat → List Int → List Int
  | 0, _ => []
  | m + 1, l => drawsR m (l.set (l.idxOf (m : Int)) (l.getD m 0)) ++ [(l.idxOf (m : Int) : Int)]
theorem drawsR_len : ∀ (m : Nat) (l : List Int), (drawsR m l).length = m
  | 0, _ => rfl
  | m + 1, l => by simp [drawsR, drawsR_len m]
theorem idxOf_at {l : List Int} {j : Nat} {x : Int} (h : l[j]? = some x) (hf : ∀ j', j' < j → l[j']? ≠ some x) : l.idxOf x = j := by
  have hj := lt_of_get h
  have hmem : x ∈ l := List.mem_of_getElem? h
  have h1 : l.idxOf x < l.length := List.idxOf_lt_length_of_mem hmem
  have h2 : l[l.idxOf x]? = some x := by rw [List.getElem?_eq_getElem h1, List.getElem_idxOf h1]
  rcases Nat.lt_trichotomy (l.idxOf x) j with h3 | h3 | h3
  · exact absurd h2 (hf _ h3)
  · exact h3
  · exfalso
    have := List.not_of_lt_findIdx (xs := l) (p := (· == x)) (i := j) h3
    rw [List.getElem?_eq_getElem hj] at h
    injection h with h
    simp [h] at this
theorem PermTo.idx {l : List Int} {m j : Nat} (h : PermTo l (m + 1)) (hj : j ≤ m) (hl : l[j]? = some (m : Int)) : l.idxOf (m : Int) = j :=
  idxOf_at hl (fun j' hj' e => by have := h.inj j' j (m : Int) (by omega) (by omega) e hl; omega)
theorem PermTo.last {l : List Int} {m : Nat} (h : PermTo l (m + 1)) : ∃ j : Nat, j ≤ m ∧ l[j]? = some (m : Int) ∧ l.idxOf (m : Int) = j := by
  obtain ⟨j, hj, hl⟩ := h.hit m (by omega)
  exact ⟨j, by omega, hl, h.idx (by omega) hl⟩
theorem drawsR_step {l : List Int} {m j : Nat} {y : Int} (h : PermTo l (m + 1)) (hj : j ≤ m) (hl : l[j]? = some (m : Int)) (hy : l[m]? = some y) : drawsR (m + 1) l = drawsR m (l.set j y) ++ [(j : Int)] := by
  rw [drawsR, h.idx hj hl, List.getD_eq_getElem?_getD, hy]; rfl
theorem set_agree {l l' : List Int} {m j : Nat} {y : Int} (hl : m ≤ l.length) (hl' : m ≤ l'.length) (he : ∀ p, p < m → l'[p]? = l[p]?) : ∀ p, p < m → (l'.set j y)[p]? = (l.set j y)[p]? := by
  intro p hp
  rw [List.getElem?_set, List.getElem?_set]
  by_cases e : j = p
  · subst e; rw [if_pos rfl, if_pos rfl, if_pos (by omega), if_pos (by omega)]
  · rw [if_neg e, if_neg e, he p hp]
theorem drawsR_congr : ∀ {m : Nat} {l l' : List Int}, PermTo l m → (∀ p, p < m → l'[p]? = l[p]?) → drawsR m l' = drawsR m l
  | 0, _, _, _, _ => rfl
  | m + 1, l, l', h, he => by
    obtain ⟨j, hj, hl, _⟩ := h.last
    obtain ⟨x, _, hx⟩ := h.rng m (by omega)
    have h' := h.congr he
    rw [drawsR_step h hj hl hx, drawsR_step h' hj ((he j (by omega)).trans hl) ((he m (by omega)).trans hx)]
    rw [drawsR_congr (h.step hj hl hx) (set_agree (by have := h.len; omega) (by have := h'.len; omega) (fun p hp => he p (by omega)))]
theorem drawsR_small : ∀ {m : Nat} {l : List Int}, PermTo l m → ∀ (i : Nat) (d : Int), (drawsR m l)[i]? = some d → 0 ≤ d ∧ d ≤ i
  | 0, _, _, i, d, h => by simp [drawsR] at h
  | m + 1, l, hp, i, d, h => by
    obtain ⟨j, hj, hl, _⟩ := hp.last
    obtain ⟨x, _, hx⟩ := hp.rng m (by omega)
    rw [drawsR_step hp hj hl hx] at h
    rcases Nat.lt_or_ge i m with h1 | h1
    · rw [List.getElem?_append_left (by rw [drawsR_len]; exact h1)] at h
      exact drawsR_small (hp.step hj hl hx) i d h
    · rw [List.getElem?_append_right (by rw [drawsR_len]; exact h1), drawsR_len] at h
      have := lt_of_get h
      simp at this
      have e : i - m = 0 := by omega
      rw [e] at h
      simp at h
      omega
/-! ### the step and its way back -/
theorem ordAt_get {l : List Int} {k j : Nat} {d : Int} (hk : k < l.length) (hd : d % ((k : Int) + 1) = j) (hj : j ≤ k) : (ordAt l k d)[j]? = some (k : Int) ∧ (j < k → (ordAt l k d)[k]? = l[j]?) ∧ (∀ p, p ≠ j → p ≠ k → (ordAt l k d)[p]? = l[p]?) := by
  unfold ordAt
  rw [hd, Int.toNat_natCast]
  refine ⟨?_, ?_, ?_⟩
  · rw [List.getElem?_set, if_pos rfl, if_pos (by rw [List.length_set]; omega)]
  · intro h
    rw [List.getElem?_set, if_neg (by omega), List.getElem?_set, if_pos rfl, if_pos hk, List.getD_eq_getElem?_getD, List.getElem?_eq_getElem (by omega : j < l.length)]
    rfl
  · intro p h1 h2
    rw [List.getElem?_set, if_neg (fun e => h1 e.symm), List.getElem?_set, if_neg (fun e => h2 e.symm)]
theorem ordAt_len (l : List Int) (k : Nat) (d : Int) : (ordAt l k d).length = l.length := by simp [ordAt]
theorem ordAt_perm {l : List Int} {k j : Nat} {d : Int} (h : PermTo l k) (hk : k < l.length) (hd : d % ((k : Int) + 1) = j) (hj : j ≤ k) : PermTo (ordAt l k d) (k + 1) := by
  obtain ⟨g1, g2, g3⟩ := ordAt_get hk hd hj
  refine ⟨?_, ?_, ?_⟩
  · intro x hx
    by_cases e : x = k
    · subst e; exact ⟨j, by omega, g1⟩
    · obtain ⟨p, hp, hpx⟩ := h.hit x (by omega)
      by_cases ep : p = j
      · subst ep; exact ⟨k, by omega, (g2 hp).trans hpx⟩
      · exact ⟨p, by omega, (g3 p ep (by omega)).trans hpx⟩
  · intro p hp
    by_cases ep : p = j
    · subst ep; exact ⟨k, by omega, g1⟩
    · by_cases ek : p = k
      · subst ek
        obtain ⟨x, hx, hjx⟩ := h.rng j (by omega)
        exact ⟨x, by omega, (g2 (by omega)).trans hjx⟩
      · obtain ⟨x, hx, hpx⟩ := h.rng p (by omega)
        exact ⟨x, by omega, (g3 p ep ek).trans hpx⟩
  · have old : ∀ p, p < k + 1 → p ≠ j → ∃ q x : Nat, q < k ∧ x < k ∧ l[q]? = some (x : Int) ∧ (ordAt l k d)[p]? = some (x : Int) ∧ (p = k → q = j) ∧ (p ≠ k → q = p) := by
      intro p hp ep
      by_cases ek : p = k
      · subst ek
        obtain ⟨x, hx, hjx⟩ := h.rng j (by omega)
        exact ⟨j, x, by omega, hx, hjx, (g2 (by omega)).trans hjx, fun _ => rfl, fun e => absurd rfl e⟩
      · obtain ⟨x, hx, hpx⟩ := h.rng p (by omega)
        exact ⟨p, x, by omega, hx, hpx, (g3 p ep ek).trans hpx, fun e => absurd e ek, fun _ => rfl⟩
    intro p p' x hp hp' h1 h2
    by_cases ep : p = j
    · by_cases ep' : p' = j
      · omega
      · obtain ⟨q, y, _, hy, _, hy2, _, _⟩ := old p' hp' ep'
        subst ep
        rw [g1] at h1; rw [hy2] at h2
        injection h1 with h1; injection h2 with h2; omega
    · obtain ⟨q, y, hq, hy, hqy, hy2, a1, a2⟩ := old p hp ep
      by_cases ep' : p' = j
      · subst ep'
        rw [g1] at h2; rw [hy2] at h1
        injection h1 with h1; injection h2 with h2; omega
      · obtain ⟨q', y', hq', hy', hqy', hy2', b1, b2⟩ := old p' hp' ep'
        rw [hy2] at h1; rw [hy2'] at h2
        have : (y : Int) = y' := by injection h1 with h1; injection h2 with h2; omega
        have hqq := h.inj q q' (y : Int) hq hq' hqy (by rw [hqy', this])
        by_cases e1 : p = k
        · by_cases e2 : p' = k
          · omega
          · have := a1 e1; have := b2 e2; omega
        · by_cases e2 : p' = k
          · have := a2 e1; have := b1 e2; omega
          · have := a2 e1; have := b2 e2; omega
theorem emod_nat (d : Int) (k : Nat) : ∃ j : Nat, d % ((k : Int) + 1) = j ∧ j ≤ k := by
  have h1 := Int.emod_nonneg d (b := (k : Int) + 1) (by omega)
  have h2 := Int.emod_lt_of_pos d (b := (k : Int) + 1) (by omega)
  exact ⟨(d % ((k : Int) + 1)).toNat, by omega, by omega⟩
theorem ordN_perm (n : Nat) (draws : List Int) : ∀ k, k ≤ n → PermTo (ordN n draws k) k
  | 0, _ => ⟨fun x hx => absurd hx (by omega), fun j hj => absurd hj (by omega), fun j _ _ hj => absurd hj (by omega)⟩
  | k + 1, hk => by
    obtain ⟨j, hj, hjk⟩ := emod_nat (draws.getD k 0) k
    exact ordAt_perm (ordN_perm n draws k (by omega)) (by rw [ordN_len]; omega) hj hjk
/-- Small numbers come back. -/
theorem draws_back (n : Nat) (x : List Int) (hx : ∀ (i : Nat) (d : Int), x[i]? = some d → 0 ≤ d ∧ d ≤ i) (hn : x.length = n) : ∀ k, k ≤ n → drawsR k (ordN n x k) = x.take k
  | 0, _ => by simp [drawsR]
  | k + 1, hk => by
    have hkx : k < x.length := by omega
    have hxk : x[k]? = some x[k] := List.getElem?_eq_getElem hkx
    have hs := hx k _ hxk
    obtain ⟨j, hj, hjk⟩ := emod_nat (x.getD k 0) k
    have hd : x.getD k 0 = x[k] := by rw [List.getD_eq_getElem?_getD, hxk]; rfl
    have hjd : (j : Int) = x[k] := by rw [← hj, hd]; exact Int.emod_eq_of_lt (by omega) (by omega)
    have hp := ordN_perm n x k (by omega)
    have hl : k < (ordN n x k).length := by rw [ordN_len]; omega
    obtain ⟨g1, g2, g3⟩ := ordAt_get hl hj hjk
    have hp1 : PermTo (ordN n x (k + 1)) (k + 1) := ordN_perm n x (k + 1) hk
    obtain ⟨y, _, hy⟩ := hp1.rng k (by omega)
    have hy' : (ordAt (ordN n x k) k (x.getD k 0))[k]? = some (y : Int) := hy
    rw [drawsR_step hp1 hjk g1 hy]
    rw [drawsR_congr hp (l' := (ordN n x (k + 1)).set j (y : Int)) (fun p hpk => ?_), draws_back n x hx hn k (by omega), List.take_add_one, hxk, hjd]
    · rfl
    · rw [List.getElem?_set]
      by_cases e : j = p
      · subst e
        rw [if_pos rfl, if_pos (by rw [ordN_len]; omega), ← hy', g2 hpk]
      · rw [if_neg e]; exact g3 p (fun x => e x.symm) (by omega)
/-- The draws that are told of an order make it. -/
theorem order_back (n : Nat) : ∀ (m : Nat) (l rest : List Int), PermTo l m → l.length = n → ∀ p, p < m → (ordN n (drawsR m l ++ rest) m)[p]? = l[p]?
  | 0, _, _, _, _ => fun p hp => absurd hp (by omega)
  | m + 1, l, rest, h, hn => by
    intro p hp
    obtain ⟨j, hj, hl, _⟩ := h.last
    obtain ⟨y, _, hy⟩ := h.rng m (by omega)
    have hlen := h.len
    have ih := order_back n m (l.set j y) ([(j : Int)] ++ rest) (h.step hj hl hy) (by rw [List.length_set]; exact hn)
    have he : drawsR (m + 1) l ++ rest = drawsR m (l.set j y) ++ ([(j : Int)] ++ rest) := by rw [drawsR_step h hj hl hy, List.append_assoc]
    rw [he]
    generalize hD : drawsR m (l.set j y) ++ ([(j : Int)] ++ rest) = D at *
    have hDm : D.getD m 0 = (j : Int) := by
      rw [← hD, List.getD_eq_getElem?_getD, List.getElem?_append_right (by rw [drawsR_len]; exact Nat.le_refl _), drawsR_len]; simp
    have hL : (ordN n D m).length = n := ordN_len n D m
    obtain ⟨g1, g2, g3⟩ := ordAt_get (l := ordN n D m) (k := m) (j := j) (d := D.getD m 0) (by omega) (by rw [hDm]; exact Int.emod_eq_of_lt (by omega) (by omega)) hj
    show (ordAt (ordN n D m) m (D.getD m 0))[p]? = l[p]?
    by_cases e : p = j
    · subst e; rw [g1, hl]
    · by_cases em : p = m
      · subst em
        rw [g2 (by omega), ih j (by omega), List.getElem?_set, if_pos rfl, if_pos (by omega), hy]
      · rw [g3 p e em, ih p (by omega), List.getElem?_set, if_neg (fun x => e x.symm)]
end Go.Proofs.Yteffmnohgnmanaa
