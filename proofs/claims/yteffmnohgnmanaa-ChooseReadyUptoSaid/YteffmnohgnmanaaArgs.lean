/- Arguments as plain data: rows of numbers and of bools; how many, by the bound. -/
import Derived.Test.YteffmnohgnmanaaRow
import Derived.ChangeSlices
namespace Go.Proofs.Yteffmnohgnmanaa
open Go.ChangeShapes Go.WideShapes Go.ChangeAt Go.RowKit
def bools (l : List Bool) : List Value := l.map .bool
theorem rdA_of {w : World} {a : Addr} {xs : List Value} (h : ∀ i u, xs[i]? = some u → w.cell? (a.add i) = some u) : RdA w (some a) xs := by
  cases xs with
  | nil => exact .inl rfl
  | cons x r =>
    obtain ⟨b, o, spot⟩ := a
    have h0 := h 0 x rfl
    have hs : spot = none := by simpa [Addr.add] using World.cell?_spot h0
    subst hs
    exact .inr ⟨b, o, rfl, fun j u hu => by rw [← Addr.add_lit]; exact h j u hu⟩
theorem bulk_one {H : Type} (d : DataW H) : 1 ≤ Rows.uptoBulk d := by
  cases d with
  | lit l => cases l <;> simp [Rows.uptoBulk]
  | nil => simp [Rows.uptoBulk]
  | ptr d => simp [Rows.uptoBulk]
  | slice elems spare => simp [Rows.uptoBulk]
  | agg parts => simp [Rows.uptoBulk]
  | iface t d => simp [Rows.uptoBulk]
  | map entries => simp [Rows.uptoBulk]
  | held h => simp [Rows.uptoBulk]
theorem bulk_len {H : Type} (l : List (DataW H)) : l.length ≤ Rows.uptoBulkAll l := by
  induction l with
  | nil => simp [Rows.uptoBulkAll]
  | cons x r ih => have := bulk_one x; simp only [Rows.uptoBulkAll, List.length_cons]; omega
theorem bulk_mem {H : Type} {d : DataW H} {l : List (DataW H)} (h : d ∈ l) : Rows.uptoBulk d ≤ Rows.uptoBulkAll l := by
  induction l with
  | nil => cases h
  | cons x r ih =>
    simp only [Rows.uptoBulkAll]
    rcases List.mem_cons.1 h with e | e
    · subst e; omega
    · have := ih e; omega
theorem bulk_slice {H : Type} (elems spare : List (DataW H)) : Rows.uptoBulkAll elems + 1 ≤ Rows.uptoBulk (.slice elems spare) := by
  simp only [Rows.uptoBulk]; omega
theorem small {H : Type} {l : List (DataW H)} (hk : Rows.uptoSmall H l = true) : Rows.uptoBulkAll l ≤ 1048576 := of_decide_eq_true hk
section
variable {H : Type} {enc : TypeId × Value → H} {W : World} {base : Nat} {v : Value} {d : DataW H} {p : List MemPlace} {r : Reach}
theorem cells2 : Try.prog.cellsOf 2 = 1 := by kernel_rfl
theorem cells4 : Try.prog.cellsOf 4 = 1 := by kernel_rfl
set_option maxRecDepth 100000 in
theorem open_intsV {t e : TypeId} {k : IntKind} (ht : Try.prog.underlying t = some (.slice e)) (he : Try.prog.underlying e = some (.int k)) (hc : Try.prog.cellsOf e = 1) (hv : Value.okWide Try.prog W r base t v) (h : DataW.Trod enc Try.prog W 0 (fun _ => true) true t v d p) :
    ∃ l : List Int, RdV W v 1 (l.map (Value.int k)) ∧ l.length ≤ Rows.uptoBulk d ∧ ∀ n ∈ l, (Lit.int k n).wf = true := by
  obtain ⟨a0, len0, cap0, rfl⟩ := okWide_slice ht hv
  obtain ⟨fuel, hf⟩ := h
  rcases open_ints ht he hc hf with ⟨hcs, hx⟩ | ⟨a, len, cap, zs, hcs, _, hl, hm, hz, hx, hcell, hwf⟩
  · simp only [Value.cells, List.cons.injEq, Value.slice.injEq] at hcs
    obtain ⟨⟨rfl, rfl, rfl⟩, _⟩ := hcs
    exact ⟨[], ⟨none, 0, 0, rfl, rfl, Nat.le_refl _, Nat.zero_le _, .inl rfl⟩, Nat.zero_le _, by simp⟩
  · simp only [Value.cells, List.cons.injEq, Value.slice.injEq] at hcs
    obtain ⟨⟨rfl, rfl, rfl⟩, _⟩ := hcs
    simp only [if_true] at hz
    have hlen : (zs.take len0).length = len0 := by simp; omega
    refine ⟨zs.take len0, ⟨_, _, _, rfl, by simp; omega, hl, hm, rdA_of (fun i u hu => ?_)⟩, ?_, fun n hn => hwf n (List.mem_of_mem_take hn)⟩
    · rw [List.getElem?_map] at hu
      obtain ⟨z, hz1, rfl⟩ := Option.map_eq_some_iff.1 hu
      have hi : i < len0 := by have := (List.getElem?_eq_some_iff.1 hz1).1; rwa [hlen] at this
      rw [List.getElem?_take_of_lt hi] at hz1
      have := hcell i (by omega)
      rw [this]; simp [List.getD, hz1]
    · injection hx with hx1 _
      subst hx1
      have h1 := bulk_slice (H := H) (lits k (zs.take len0)) (lits k (zs.drop len0))
      have h2 := bulk_len (H := H) (lits k (zs.take len0))
      have h3 : (lits (H := H) k (zs.take len0)).length = (zs.take len0).length := by simp [lits]
      omega
set_option maxRecDepth 100000 in
theorem open_boolsV {t e : TypeId} (ht : Try.prog.underlying t = some (.slice e)) (he : Try.prog.underlying e = some .bool) (hc : Try.prog.cellsOf e = 1) (hv : Value.okWide Try.prog W r base t v) (h : DataW.Trod enc Try.prog W 0 (fun _ => true) true t v d p) :
    ∃ l : List Bool, RdV W v 1 (bools l) ∧ l.length ≤ Rows.uptoBulk d := by
  obtain ⟨a0, len0, cap0, rfl⟩ := okWide_slice ht hv
  obtain ⟨fuel, hf⟩ := h
  rcases Go.Deep.open_slice1 ht hc hf with ⟨hcs, hx⟩ | ⟨a, len, cap, m, n, V, D, Pl, hcs, _, hl, hm, hmm, hx, hcell⟩
  · simp only [Value.cells, List.cons.injEq, Value.slice.injEq] at hcs
    obtain ⟨⟨rfl, rfl, rfl⟩, _⟩ := hcs
    exact ⟨[], ⟨none, 0, 0, rfl, rfl, Nat.le_refl _, Nat.zero_le _, .inl rfl⟩, Nat.zero_le _⟩
  · simp only [Value.cells, List.cons.injEq, Value.slice.injEq] at hcs
    obtain ⟨⟨rfl, rfl, rfl⟩, _⟩ := hcs
    simp only [if_true] at hmm
    subst hmm
    have hb : ∀ i, i < m → ∃ b, V i = .bool b := fun i hi => by
      obtain ⟨b, h1, _⟩ := DataW.trod_bool he (hcell i hi).2
      exact ⟨b, by simpa using h1⟩
    refine ⟨(List.range len0).map (fun i => match V i with | .bool b => b | _ => false), ⟨_, _, _, rfl, by simp [bools], hl, hm, rdA_of (fun i u hu => ?_)⟩, ?_⟩
    · simp only [bools, List.map_map] at hu
      rw [List.getElem?_map] at hu
      obtain ⟨j, hj, rfl⟩ := Option.map_eq_some_iff.1 hu
      have hi : i < len0 := by have := (List.getElem?_eq_some_iff.1 hj).1; simpa using this
      rw [List.getElem?_range hi] at hj
      cases hj
      rw [(hcell i (by omega)).1]
      obtain ⟨b, hb'⟩ := hb i (by omega)
      simp [hb']
    · injection hx with hx1 _
      subst hx1
      have h1 := bulk_slice (H := H) ((List.range len0).map D) ((List.range (m - len0)).map fun j => D (len0 + j))
      have h2 := bulk_len (H := H) ((List.range len0).map D)
      simp at h2 ⊢
      omega
end
end Go.Proofs.Yteffmnohgnmanaa
