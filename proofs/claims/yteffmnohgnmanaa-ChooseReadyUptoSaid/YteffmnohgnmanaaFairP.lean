/- ChooseFair, the plain law; a row beside the channels. -/
import Derived.Test.YteffmnohgnmanaaBack
namespace Go.Proofs.Yteffmnohgnmanaa
open Go.RowKit
/-- The channels at g, and a row of one's own beside them. -/
structure Beside (w0 w : World) (F : Nat → Prop) (g : Nat) (l : List Ch) (e sz : Nat) (v : Value) (xs : List Value) : Prop where
  m : Mine w0 w F g l
  row : RowF w (fun q => w0.heap.size ≤ q ∧ ¬ F q) e sz v xs
namespace Beside
variable {w0 w w' : World} {F : Nat → Prop} {g e sz : Nat} {l l' : List Ch} {v : Value} {xs : List Value}
theorem step (h : Beside w0 w F g l e sz v xs) (hs : Step F g w l' w') : ∃ F', Beside w0 w' F' g l' e sz v xs ∧ Fr F w w' := by
  obtain ⟨F', m', h1, h2⟩ := h.m.step hs
  refine ⟨F', ⟨m', (h.row.fr h2 (fun q hq => (h.row.2 q hq).2)).1, fun q hq => ⟨(h.row.2 q hq).1, fun hx => ?_⟩⟩, h2⟩
  rcases h1 q hx with hx | hx
  · exact (h.row.2 q hq).2 hx
  · have := h.row.lt hq; omega
theorem e0 (h : Beside w0 w F g l e sz v xs) (hf : Fr E0 w w') : Beside w0 w' F g l e sz v xs := ⟨h.m.e0 hf, h.row.fr hf (fun _ _ x => x)⟩
theorem app (h : Beside w0 w F g l e sz v xs) {gg cap nn : Nat} {o : Obj} {news : List Value} (hown : w'.ownsRow 0 e sz (.slice (some ⟨gg, 0, none⟩) nn cap) nn (xs ++ news)) (hgrow : (w.alloc o).grownBy w' v.ownBlock) (hat : v.ownBlock = some gg ∨ gg = w.heap.size + 1) :
    Beside w0 w' F g l e sz (.slice (some ⟨gg, 0, none⟩) nn cap) (xs ++ news) := by
  have hf : Fr (fun q => v.ownBlock = some q) w w' := ((Fr.refl (S := fun q => v.ownBlock = some q)).alloc o).grown hgrow (fun q hq => .inl hq)
  refine ⟨⟨h.m.is.fr hf (fun q hq e => (h.row.2 q e).2 hq), h.m.new, h.m.fr.trans' hf (fun q hq => .inr (h.row.2 q hq).1)⟩, ⟨nn, hown⟩, fun q hq => ?_⟩
  simp [Value.ownBlock] at hq; subst hq
  rcases hat with e | e
  · exact h.row.2 _ e
  · subst e
    exact ⟨by have := h.m.fr.size; omega, fun hx => absurd (h.m.lt _ hx) (by omega)⟩
theorem other {e' sz' : Nat} {v' : Value} {xs' : List Value} {o : Obj} (h : Beside w0 w F g l e sz v xs) (h2 : Beside w0 w F g l e' sz' v' xs') (hne : e ≠ e') (hgrow : (w.alloc o).grownBy w' v'.ownBlock) : Beside w0 w' F g l e sz v xs := by
  have hf : Fr (fun q => v'.ownBlock = some q) w w' := ((Fr.refl (S := fun q => v'.ownBlock = some q)).alloc o).grown hgrow (fun q hq => .inl hq)
  exact ⟨⟨h.m.is.fr hf (fun q hq e => (h2.row.2 q e).2 hq), h.m.new, h.m.fr.trans' hf (fun q hq => .inr (h2.row.2 q hq).1)⟩, h.row.fr hf (fun q hq => h.row.ne_type h2.row hne hq)⟩
theorem start (h : Mine w0 w F g l) : Beside w0 w F g l e sz (.slice none 0 0) [] := ⟨h, RowF.nil⟩
theorem out {n : Nat} (hsz : 0 < sz) (h : Beside w0 w F g l e sz v xs) (hn : xs.length = n * sz) : RdOut F w v sz xs :=
  RdV.out (CM.Own.rdv hsz h.row hn) (fun b o sp hF hx => by
    obtain ⟨n', c, he⟩ := hx
    rcases h.row.form hsz hn with ⟨rfl, _, _⟩ | ⟨g', c', rfl, hg', _⟩
    · cases he
    · cases he; exact absurd hF hg'.2)
end Beside
def fairL (k : Nat) : List Pk := (List.range k).map (fun i : Nat => ⟨true, (i : Int) + 1, i⟩)
theorem fairL_len (k : Nat) : (fairL k).length = k := by simp [fairL]
theorem fairL_succ (k : Nat) : fairL (k + 1) = fairL k ++ [⟨true, (k : Int) + 1, k⟩] := by simp [fairL, List.range_succ]
theorem pks_push (l : List Pk) (p : Pk) : pks l ++ p.cells = pks (l ++ [p]) := by simp [pks]
theorem ints_push (l : List Int) (x : Int) : ints l ++ [.int .i64 x] = ints (l ++ [x]) := by simp [ints]
def fairO (W k : Nat) : List Int := (W : Int) :: ((List.range k).filter (fun i => i ≠ W)).map (fun i : Nat => (i : Int))
theorem fairO_succ (W k : Nat) : fairO W (k + 1) = if k = W then fairO W k else fairO W k ++ [(k : Int)] := by
  unfold fairO
  rw [List.range_succ, List.filter_append]
  by_cases h : k = W
  · simp [h]
  · simp [h]
theorem fairO_len (W M : Nat) (h : W < M) : (fairO W M).length = M := by
  have : ∀ k, (fairO W k).length = if W < k then k else k + 1 := by
    intro k
    induction k with
    | zero => simp [fairO]
    | succ k ih =>
      rw [fairO_succ]
      split
      · rw [ih]; rename_i h; subst h; rw [if_neg (by omega), if_pos (by omega)]
      · rw [List.length_append, ih]
        by_cases h1 : W < k
        · rw [if_pos h1, if_pos (by omega)]; simp
        · rw [if_neg h1, if_neg (by omega)]; simp
  rw [this, if_pos h]
theorem fairO_ord (W M : Nat) (h : W < M) : isOrd (fairO W M) = true := by
  refine isOrd_iff.2 (perm_of_inj (fun x hx => ?_) ?_)
  · rw [fairO_len W M h]
    simp only [fairO, List.mem_cons, List.mem_map, List.mem_filter, List.mem_range] at hx
    rcases hx with hx | ⟨a, ⟨h1, _⟩, h2⟩ <;> omega
  · unfold fairO
    rw [List.nodup_cons]
    refine ⟨fun hx => ?_, ?_⟩
    · simp only [List.mem_map, List.mem_filter] at hx
      obtain ⟨a, ⟨_, h1⟩, h2⟩ := hx
      have : a = W := by omega
      simp [this] at h1
    · unfold List.Nodup
      rw [List.pairwise_map]
      exact ((List.nodup_range (n := M)).filter _).imp (fun h e => h (by omega))
theorem rep_no (M : Nat) (gs gg : Int) : waitsL gs gg (List.replicate M (newCh 1)) = false := by
  unfold waitsL
  rw [List.any_eq_false]
  intro x hx
  rw [List.mem_replicate] at hx
  rw [hx.2]; simp [waitsCh, newCh]
theorem rep_at {M k : Nat} (h : k < M) : (List.replicate M (newCh 1))[k]? = some (newCh 1) := by simp [h]
theorem fair_trap {M : Nat} : ∀ (l : List Pk), (∀ p ∈ l, ∃ k : Nat, k < M ∧ p.ch = (k : Int) + 1) → trapP (trapC (List.replicate M (newCh 1))) l = 0
  | [], _ => rfl
  | p :: r, h => by
    obtain ⟨k, hk, hp⟩ := h p (by simp)
    rw [trapP, hp, trapC_in (rep_at hk), if_pos rfl]
    exact fair_trap r (fun q hq => h q (by simp [hq]))
theorem fair_sel (W M : Nat) (h : W < M) (hM : M ≤ 16) (gs gg : Int) : ∃ l', selL (List.replicate M (newCh 1)) gs gg (fairL M) true (drawsR M (fairO W M)) = (l', ⟨W, false, { ok := true }⟩, 0) := by
  have hl := fairO_len W M h
  have ho : orderL M (drawsR M (fairO W M)) = (fairO W M, 0) := by
    have := orderL_draws (o := fairO W M) (by omega) (fairO_ord W M h)
    rwa [hl] at this
  have hp : (fairL M)[W]? = some ⟨true, (W : Int) + 1, W⟩ := by simp [fairL, h]
  have hg := getC_in (rep_at h)
  have ht := trapC_in (rep_at h)
  unfold selL
  rw [fairL_len, ho, if_neg (by simp), rep_no, if_neg (by simp), fair_trap _ (fun p hp => by
    simp only [fairL, List.mem_map, List.mem_range] at hp
    obtain ⟨i, hi, rfl⟩ := hp
    exact ⟨i, hi, rfl⟩), if_neg (by simp)]
  have hgo : goesL (List.replicate M (newCh 1)) ((W : Int) + 1) true = true := by unfold goesL; rw [hg]; rfl
  simp only [fairO, pickGo, Int.toNat_natCast, hp, hgo, if_true, selGo, List.getD_eq_getElem?_getD, Option.getD_some, carryL]
  unfold sendL
  rw [rep_no, ht, hg]
  simp [newCh]
theorem rep_succ (k : Nat) : List.replicate k (newCh 1) ++ [newCh 1] = List.replicate (k + 1) (newCh 1) := by rw [List.replicate_succ']
theorem rep_ok : ∀ k, k ≤ 16 → Ok 0 (List.replicate k (newCh 1))
  | 0, _ => ok_nil
  | k + 1, h => by rw [← rep_succ]; exact (rep_ok k (by omega)).make (by simp [makeNo]; omega)
end Go.Proofs.Yteffmnohgnmanaa
