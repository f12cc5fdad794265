/- What a list of other ones' calls reads as, as plain data. -/
import Derived.Test.YteffmnohgnmanaaS5ChooseSelects
import Derived.Test.YteffmnohgnmanaaCWakesC
namespace Go.Proofs.Yteffmnohgnmanaa
open Go.ChangeShapes Go.WideShapes Go.ChangeAt Go.RowKit
theorem cells100 : Try.prog.cellsOf 100 = 5 := by kernel_rfl
theorem opens_thn : Opens 100 ThenD.cells (fun _ _ => True) (fun _ => 1) :=
  (opens_struct (total := 5) Try.underlying100 cells100 (.cons (sz := 2) rfl cells37 opens_gid (.cons (sz := 1) rfl cells4 opens_4 (.cons (sz := 1) rfl cells2 opens_2 (.cons (sz := 1) rfl cells2 opens_2 (opensF_nil 5)))))).map
    (fun a => ⟨a.1.1, a.1.2, a.2.1, a.2.2.1, a.2.2.2.1⟩) (fun _ => rfl) (fun _ _ _ => trivial) (fun _ => by simp)
theorem opens_thens : Opens 98 (fun vl : Value × List ThenD => [vl.1]) (fun W vl => RdV W vl.1 5 (thensV vl.2)) (fun vl => vl.2.length + 1) :=
  (opens_slice Try.underlying98 cells100 (by decide) (fun _ => rfl) opens_thn).map id (fun _ => rfl) (fun _ _ h => h.1) (fun a => by simp [sum_one])
end Go.Proofs.Yteffmnohgnmanaa
