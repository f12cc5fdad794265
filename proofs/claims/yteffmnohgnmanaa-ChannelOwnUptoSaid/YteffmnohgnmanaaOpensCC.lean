/- What a list of channels reads as, as plain data. -/
import Derived.Test.YteffmnohgnmanaaB4ChannelPlays
namespace Go.Proofs.Yteffmnohgnmanaa
open Go.ChangeShapes Go.WideShapes Go.ChangeAt Go.RowKit
theorem cells114 : Try.prog.cellsOf 114 = 4 := by kernel_rfl
theorem cells67 : Try.prog.cellsOf 67 = 5 := by kernel_rfl
theorem cells22 : Try.prog.cellsOf 22 = 1 := by kernel_rfl
theorem cells65 : Try.prog.cellsOf 65 = 1 := by kernel_rfl
theorem opens_wt : Opens 114 Wt.cells (fun _ _ => True) (fun _ => 1) :=
  (opens_struct (total := 4) Try.underlying114 cells114 (.cons (sz := 2) rfl cells37 opens_gid (.cons (sz := 1) rfl cells3 opens_3 (.cons (sz := 1) rfl cells2 opens_2 (opensF_nil 4))))).map
    (fun a => ⟨a.1.1, a.1.2, a.2.1, a.2.2.1⟩) (fun _ => rfl) (fun _ _ _ => trivial) (fun _ => by simp)
def CM.wt (m : CM) : Nat := m.ch.vals.length + m.ch.snd.length + m.ch.rcv.length
theorem opens_cm : Opens 67 CM.cells (fun W m => m.Rd W) CM.wt :=
  (opens_struct (total := 5) Try.underlying67 cells67 (.cons (sz := 1) rfl cells3 opens_3 (.cons (sz := 1) rfl cells22 (opens_slice Try.underlying22 cells2 (by decide) (fun _ => rfl) opens_2)
    (.cons (sz := 1) rfl cells65 (opens_slice Try.underlying65 cells114 (by decide) (fun _ => rfl) opens_wt) (.cons (sz := 1) rfl cells65 (opens_slice Try.underlying65 cells114 (by decide) (fun _ => rfl) opens_wt) (.cons (sz := 1) rfl cells4 opens_4 (opensF_nil 5))))))).map
    (fun a => ⟨⟨a.1, a.2.1.2, a.2.2.1.2, a.2.2.2.1.2, a.2.2.2.2.1⟩, a.2.1.1, a.2.2.1.1, a.2.2.2.1.1⟩) (fun _ => rfl)
    (fun W a h => ⟨by have := h.2.1.1; rw [flatMap_one] at this; exact this, h.2.2.1.1, h.2.2.2.1.1⟩) (fun a => by simp [CM.wt, sum_one]; omega)
theorem opens_cms : Opens 52 (fun vl : Value × List CM => [vl.1]) (fun W vl => RdCs W vl.1 vl.2) (fun vl => (vl.2.map CM.wt).sum + 1) :=
  (opens_slice Try.underlying52 cells67 (by decide) (fun _ => rfl) opens_cm).map id (fun _ => rfl) (fun _ _ h => ⟨h.1, h.2⟩) (fun _ => Nat.le_refl _)
theorem wt_le {l : List CM} {m : CM} (h : m ∈ l) : m.wt ≤ (l.map CM.wt).sum := by
  induction l with
  | nil => simp at h
  | cons x r ih =>
    rcases List.mem_cons.1 h with rfl | h
    · simp
    · have := ih h; simp; omega
end Go.Proofs.Yteffmnohgnmanaa
