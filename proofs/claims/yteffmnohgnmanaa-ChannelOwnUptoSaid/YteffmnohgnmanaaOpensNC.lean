/- What a list of channels reads as; the bulk counts each channel, too. -/
import Derived.Test.YteffmnohgnmanaaOpensCC
namespace Go.Proofs.Yteffmnohgnmanaa
open Go.ChangeShapes Go.WideShapes Go.ChangeAt Go.RowKit
theorem opens_cm1 : Opens 67 CM.cells (fun W m => m.Rd W) (fun m => m.wt + 1) :=
  (opens_struct (total := 5) Try.underlying67 cells67 (.cons (sz := 1) rfl cells3 opens_3 (.cons (sz := 1) rfl cells22 (opens_slice Try.underlying22 cells2 (by decide) (fun _ => rfl) opens_2)
    (.cons (sz := 1) rfl cells65 (opens_slice Try.underlying65 cells114 (by decide) (fun _ => rfl) opens_wt) (.cons (sz := 1) rfl cells65 (opens_slice Try.underlying65 cells114 (by decide) (fun _ => rfl) opens_wt) (.cons (sz := 1) rfl cells4 opens_4 (opensF_nil 5))))))).map
    (fun a => ⟨⟨a.1, a.2.1.2, a.2.2.1.2, a.2.2.2.1.2, a.2.2.2.2.1⟩, a.2.1.1, a.2.2.1.1, a.2.2.2.1.1⟩) (fun _ => rfl)
    (fun W a h => ⟨by have := h.2.1.1; rw [flatMap_one] at this; exact this, h.2.2.1.1, h.2.2.2.1.1⟩) (fun a => by simp [CM.wt, sum_one]; omega)
theorem opens_cms1 : Opens 52 (fun vl : Value × List CM => [vl.1]) (fun W vl => RdCs W vl.1 vl.2) (fun vl => (vl.2.map fun m => m.wt + 1).sum + 1) :=
  (opens_slice Try.underlying52 cells67 (by decide) (fun _ => rfl) opens_cm1).map id (fun _ => rfl) (fun _ _ h => ⟨h.1, h.2⟩) (fun _ => Nat.le_refl _)
theorem wt1_le {l : List CM} {m : CM} (h : m ∈ l) : m.wt ≤ (l.map fun m => m.wt + 1).sum := by
  induction l with
  | nil => simp at h
  | cons x r ih =>
    rcases List.mem_cons.1 h with rfl | h
    · simp; omega
    · have := ih h; simp; omega
theorem wt1_len (l : List CM) : l.length ≤ (l.map fun m => m.wt + 1).sum := by
  induction l with
  | nil => simp
  | cons x r ih => simp; omega
end Go.Proofs.Yteffmnohgnmanaa
