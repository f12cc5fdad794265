/- What an argument reads as, as plain data: numbers, bools, structs of them, rows of them. -/
import Derived.Test.YteffmnohgnmanaaArgs
namespace Go.Proofs.Yteffmnohgnmanaa
open Go.ChangeShapes Go.WideShapes Go.ChangeAt Go.RowKit
/-- Cells of type t are f a for some a that Q holds of; and a weighs no more than the datum. -/
def Opens (t : TypeId) {α : Type} (f : α → List Value) (Q : World → α → Prop) (wt : α → Nat) : Prop :=
  ∀ (H : Type) (enc : TypeId × Value → H) (W : World) (fuel : Nat) (cs : List Value) (x : DataW H × List MemPlace), DataW.trod enc Try.prog W 0 (fun _ => true) true fuel t cs = some x → ∃ a, cs = f a ∧ Q W a ∧ wt a ≤ Rows.uptoBulk x.1
def wfI (k : IntKind) : World → Int → Prop := fun _ n => (Lit.int k n).wf = true
theorem opens_int {t : TypeId} {k : IntKind} (ht : Try.prog.underlying t = some (.int k)) : Opens t (fun n : Int => [.int k n]) (wfI k) (fun _ => 1) := by
  intro H enc W fuel cs x h
  obtain ⟨n, h1, rfl, hw⟩ := DataW.trod_int ht h
  exact ⟨n, h1, hw, by simp [Rows.uptoBulk]⟩
theorem opens_bool {t : TypeId} (ht : Try.prog.underlying t = some .bool) : Opens t (fun b : Bool => [.bool b]) (fun _ _ => True) (fun _ => 1) := by
  intro H enc W fuel cs x h
  obtain ⟨b, h1, rfl⟩ := DataW.trod_bool ht h
  exact ⟨b, h1, trivial, by simp [Rows.uptoBulk]⟩
theorem Opens.map {t : TypeId} {α β : Type} {f : α → List Value} {Q : World → α → Prop} {wt : α → Nat} (h : Opens t f Q wt) {f' : β → List Value} {Q' : World → β → Prop} {wt' : β → Nat} (g : α → β) (hf : ∀ a, f a = f' (g a)) (hQ : ∀ W a, Q W a → Q' W (g a)) (hw : ∀ a, wt' (g a) ≤ wt a) : Opens t f' Q' wt' := by
  intro H enc W fuel cs x hx
  obtain ⟨a, h1, h2, h3⟩ := h H enc W fuel cs x hx
  exact ⟨g a, h1.trans (hf a), hQ W a h2, Nat.le_trans (hw a) h3⟩
/-! ### a struct's fields, one behind the other -/
def OpensF (total : Nat) (fs : List Field) (off : Nat) {α : Type} (f : α → List Value) (Q : World → α → Prop) (wt : α → Nat) : Prop :=
  ∀ (H : Type) (enc : TypeId × Value → H) (W : World) (n : Nat) (cs : List Value) (xs : List (DataW H × List MemPlace)), cs.length = total → xs.length = fs.length →
    (∀ (i : Nat) (fd : Field), fs[i]? = some fd → DataW.trod enc Try.prog W 0 (fun _ => true) true n fd.type ((cs.drop fd.offset).take (Try.prog.cellsOf fd.type)) = xs[i]?) →
    ∃ a, cs.drop off = f a ∧ Q W a ∧ wt a ≤ Rows.uptoBulkAll (xs.map (·.1))
theorem opensF_nil (total : Nat) : OpensF total [] total (fun _ : Unit => []) (fun _ _ => True) (fun _ => 0) := by
  intro H enc W n cs xs hc _ _
  exact ⟨(), by rw [← hc]; simp, trivial, Nat.zero_le _⟩
theorem OpensF.cons {total off sz : Nat} {fd : Field} {fs : List Field} {α β : Type} {f : α → List Value} {Q : World → α → Prop} {wt : α → Nat} {f' : β → List Value} {Q' : World → β → Prop} {wt' : β → Nat}
    (ho : fd.offset = off) (hs : Try.prog.cellsOf fd.type = sz) (h : Opens fd.type f Q wt) (hr : OpensF total fs (off + sz) f' Q' wt') :
    OpensF total (fd :: fs) off (fun ab : α × β => f ab.1 ++ f' ab.2) (fun W ab => Q W ab.1 ∧ Q' W ab.2) (fun ab => wt ab.1 + wt' ab.2) := by
  intro H enc W n cs xs hc hx hf
  cases xs with
  | nil => simp at hx
  | cons x xs =>
    have h0 := hf 0 fd rfl
    rw [ho, hs] at h0
    obtain ⟨a, ha, hq, hw⟩ := h H enc W n _ x h0
    obtain ⟨b, hb, hq', hw'⟩ := hr H enc W n cs xs hc (by simpa using hx) (fun i g hg => by have := hf (i + 1) g (by simpa using hg); simpa using this)
    refine ⟨(a, b), ?_, ⟨hq, hq'⟩, ?_⟩
    · show cs.drop off = f a ++ f' b
      rw [← ha, ← hb, ← List.drop_drop]
      exact (List.take_append_drop sz (cs.drop off)).symm
    · simp only [List.map_cons, Rows.uptoBulkAll]; omega
theorem opens_struct {t : TypeId} {fs : Array Field} {total : Nat} {α : Type} {f : α → List Value} {Q : World → α → Prop} {wt : α → Nat} (ht : Try.prog.underlying t = some (.struct fs)) (hc : Try.prog.cellsOf t = total) (h : OpensF total fs.toList 0 f Q wt) : Opens t f Q (fun a => wt a + 1) := by
  intro H enc W fuel cs x hx
  obtain ⟨xs, n, _, rfl, hl, hxl, hf⟩ := DataW.trod_struct ht hx
  obtain ⟨a, ha, hq, hw⟩ := h H enc W n cs xs (hl.trans hc) (by simpa using hxl) (fun i fd hi => hf i fd (by simpa using hi))
  exact ⟨a, by simpa using ha, hq, by simp only [Rows.uptoBulk]; omega⟩
/-- A row: the slice's value, and what lies there. -/
def RowQ {α : Type} (sz : Nat) (f : α → List Value) (Q : World → α → Prop) (W : World) (vl : Value × List α) : Prop := RdV W vl.1 sz (vl.2.flatMap f) ∧ ∀ a ∈ vl.2, Q W a
theorem opens_slice {t e : TypeId} {sz : Nat} {α : Type} {f : α → List Value} {Q : World → α → Prop} {wt : α → Nat} (ht : Try.prog.underlying t = some (.slice e)) (hc : Try.prog.cellsOf e = sz) (hpos : 0 < sz) (hf : ∀ a, (f a).length = sz) (h : Opens e f Q wt) :
    Opens t (fun vl : Value × List α => [vl.1]) (RowQ sz f Q) (fun vl => (vl.2.map wt).sum + 1) := by
  intro H enc W fuel cs x hx
  rcases Go.Deep.open_slice ht hx with ⟨rfl, rfl⟩ | ⟨a, len, cap, m, n, D, Pl, rfl, _, hl, hm, hmm, rfl, hcell⟩
  · exact ⟨(.slice none 0 0, []), rfl, ⟨⟨none, 0, 0, rfl, by simp, Nat.le_refl _, Nat.zero_le _, .inl rfl⟩, by simp⟩, by simp [Rows.uptoBulk]⟩
  · simp only [if_true] at hmm
    subst hmm
    rw [hc] at hcell
    have each : ∀ i, i < m → ∃ z : α, W.cells? 0 (a.add (i * sz)) sz = some (f z) ∧ Q W z ∧ wt z ≤ Rows.uptoBulk (D i) := fun i hi => by
      obtain ⟨cs', h1, h2⟩ := hcell i hi
      obtain ⟨z, rfl, hq, hw⟩ := h H enc W n cs' _ h2
      exact ⟨z, h1, hq, hw⟩
    have all : ∀ k, k ≤ len → ∃ l : List α, l.length = k ∧ (∀ i z, l[i]? = some z → W.cells? 0 (a.add (i * sz)) sz = some (f z)) ∧ (∀ z ∈ l, Q W z) ∧ (l.map wt).sum ≤ Rows.uptoBulkAll ((List.range k).map D) := by
      intro k
      induction k with
      | zero => intro _; exact ⟨[], rfl, by simp, by simp, by simp⟩
      | succ k ih =>
        intro hk
        obtain ⟨l, h1, h2, h3, h4⟩ := ih (by omega)
        obtain ⟨z, z1, z2, z3⟩ := each k (by omega)
        refine ⟨l ++ [z], by simp [h1], ?_, ?_, ?_⟩
        · intro i y hy
          rcases Nat.lt_or_ge i l.length with hi | hi
          · rw [List.getElem?_append_left hi] at hy; exact h2 i y hy
          · rw [List.getElem?_append_right hi] at hy
            have hi' : i - l.length = 0 := by
              rcases Nat.eq_zero_or_pos (i - l.length) with h | h
              · exact h
              · rw [List.getElem?_eq_none (by simp; omega)] at hy; cases hy
            rw [hi'] at hy
            simp at hy
            subst hy
            have : i = k := by omega
            subst this; exact z1
        · intro y hy
          rcases List.mem_append.1 hy with hy | hy
          · exact h3 y hy
          · simp at hy; subst hy; exact z2
        · have e : ∀ (u v : List (DataW H)), Rows.uptoBulkAll (u ++ v) = Rows.uptoBulkAll u + Rows.uptoBulkAll v := by
            intro u v
            induction u with
            | nil => simp [Rows.uptoBulkAll]
            | cons p q ihq => simp only [List.cons_append, Rows.uptoBulkAll, ihq]; omega
          rw [List.range_succ, List.map_append (f := D), e]
          simp [Rows.uptoBulkAll]
          omega
    obtain ⟨l, h1, h2, h3, h4⟩ := all len (Nat.le_refl _)
    refine ⟨(.slice (some a) len m, l), rfl, ⟨⟨_, _, _, rfl, ?_, hl, hm, rdA_of (fun j u hu => ?_)⟩, h3⟩, ?_⟩
    · show (l.flatMap f).length = len * sz
      rw [flat_len hf, h1]
    · show W.cell? (a.add j) = some u
      have hj : j < l.length * sz := by rw [← flat_len hf l]; exact (List.getElem?_eq_some_iff.1 hu).1
      have hq : j / sz < l.length := by rw [Nat.div_lt_iff_lt_mul hpos]; exact hj
      obtain ⟨z, hz⟩ : ∃ z, l[j / sz]? = some z := ⟨_, List.getElem?_eq_getElem hq⟩
      have hdm : j / sz * sz + j % sz = j := by rw [Nat.mul_comm]; exact Nat.div_add_mod j sz
      have hr := Nat.mod_lt j hpos
      have hu' : (f z)[j % sz]? = some u := by
        rw [← flat_get hf l (j / sz) (j % sz) z hz hr, hdm]; exact hu
      have hcz := (World.cells?_some (h2 _ _ hz)).2.2 (j % sz) hr
      rw [Addr.add_add, hdm, hu'] at hcz
      exact hcz
    · have := bulk_slice (H := H) ((List.range len).map D) ((List.range (m - len)).map fun j => D (len + j))
      show (l.map wt).sum + 1 ≤ Rows.uptoBulk (DataW.slice (List.map D (List.range len)) (List.map (fun j => D (len + j)) (List.range (m - len))))
      omega

theorem flatMap_one {α β : Type} (g : α → β) (l : List α) : l.flatMap (fun a => [g a]) = l.map g := by
  induction l with
  | nil => rfl
  | cons x r ih => simp [ih]
theorem sum_one {α : Type} (l : List α) : (l.map fun _ => 1).sum = l.length := by
  induction l with
  | nil => rfl
  | cons x r ih => simp [ih]; omega
/-! ### the types of these laws -/
theorem opens_3 : Opens 3 (fun n : Int => [.int .i64 n]) (wfI .i64) (fun _ => 1) := opens_int Try.underlying3
theorem opens_2 : Opens 2 (fun n : Int => [.int .i64 n]) (wfI .i64) (fun _ => 1) := opens_int Try.underlying2
theorem opens_4 : Opens 4 (fun b : Bool => [.bool b]) (fun _ _ => True) (fun _ => 1) := opens_bool Try.underlying4
theorem opens_75 : Opens 75 (fun n : Int => [.int .u64 n]) (wfI .u64) (fun _ => 1) := opens_int Try.underlying75
theorem cells3 : Try.prog.cellsOf 3 = 1 := by kernel_rfl
theorem cells37 : Try.prog.cellsOf 37 = 2 := by kernel_rfl
theorem cells78 : Try.prog.cellsOf 78 = 3 := by kernel_rfl
theorem cells75 : Try.prog.cellsOf 75 = 1 := by kernel_rfl
theorem cells42 : Try.prog.cellsOf 42 = 1 := by kernel_rfl
theorem cells43 : Try.prog.cellsOf 43 = 1 := by kernel_rfl
theorem cells45 : Try.prog.cellsOf 45 = 5 := by kernel_rfl
/-- A case of a select. -/
structure Pk where
  send : Bool
  ch : Int
  v : Int
  deriving DecidableEq
def Pk.cells (p : Pk) : List Value := [.bool p.send, .int .i64 p.ch, .int .i64 p.v]
def Pk.val (p : Pk) : Value := .agg #[.bool p.send, .int .i64 p.ch, .int .i64 p.v]
def Pk.wf (p : Pk) : Prop := (Lit.int .i64 p.ch).wf = true ∧ (Lit.int .i64 p.v).wf = true
def pks (l : List Pk) : List Value := l.flatMap Pk.cells
theorem opens_pk : Opens 78 Pk.cells (fun _ p => p.wf) (fun _ => 1) :=
  (opens_struct (total := 3) Try.underlying78 cells78 (.cons (sz := 1) rfl cells4 opens_4 (.cons (sz := 1) rfl cells2 opens_2 (.cons (sz := 1) rfl cells2 opens_2 (opensF_nil 3))))).map
    (fun a => ⟨a.1, a.2.1, a.2.2.1⟩) (fun _ => rfl) (fun _ _ h => ⟨h.2.1, h.2.2.1⟩) (fun _ => by simp)
theorem opens_gid : Opens 37 (fun g : Int × Int => [.int .i64 g.1, .int .i64 g.2]) (fun _ g => (Lit.int .i64 g.1).wf = true ∧ (Lit.int .i64 g.2).wf = true) (fun _ => 1) :=
  (opens_struct (total := 2) Try.underlying37 cells37 (.cons (sz := 1) rfl cells3 opens_3 (.cons (sz := 1) rfl cells3 opens_3 (opensF_nil 2)))).map
    (fun a => (a.1, a.2.1)) (fun _ => rfl) (fun _ _ h => ⟨h.1, h.2.1⟩) (fun _ => by simp)
/-- A select that is asked: who, of what; the two slices' values beside what lies there. -/
structure Ask where
  gs : Int
  gg : Int
  cv : Value
  cases : List Pk
  deflt : Bool
  dv : Value
  draws : List Int
def Ask.cells (x : Ask) : List Value := [.int .i64 x.gs, .int .i64 x.gg, x.cv, .bool x.deflt, x.dv]
structure Ask.Ok (W : World) (x : Ask) : Prop where
  g : (Lit.int .i64 x.gs).wf = true ∧ (Lit.int .i64 x.gg).wf = true
  c : RdV W x.cv 3 (pks x.cases)
  cw : ∀ p ∈ x.cases, p.wf
  d : RdV W x.dv 1 (x.draws.map (Value.int .u64))
  dw : ∀ n ∈ x.draws, (Lit.int .u64 n).wf = true
theorem opens_ask : Opens 45 Ask.cells Ask.Ok (fun x => x.cases.length + x.draws.length) :=
  (opens_struct (total := 5) Try.underlying45 cells45 (.cons (sz := 2) rfl cells37 opens_gid (.cons (sz := 1) rfl cells42 (opens_slice Try.underlying42 cells78 (by decide) (fun _ => rfl) opens_pk)
    (.cons (sz := 1) rfl cells4 opens_4 (.cons (sz := 1) rfl cells43 (opens_slice Try.underlying43 cells75 (by decide) (fun _ => rfl) opens_75) (opensF_nil 5)))))).map
    (fun a => ⟨a.1.1, a.1.2, a.2.1.1, a.2.1.2, a.2.2.1, a.2.2.2.1.1, a.2.2.2.1.2⟩) (fun _ => rfl)
    (fun W a h => ⟨h.1, h.2.1.1, h.2.1.2, by have := h.2.2.2.1.1; rw [flatMap_one] at this; exact this, h.2.2.2.1.2⟩) (fun a => by simp [sum_one]; omega)
end Go.Proofs.Yteffmnohgnmanaa
