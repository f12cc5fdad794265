/-
  No cell of these rows narrows 'for every input' (looked for: loops, veiled, ifaces, maps, wideKeys, modest, calm, conditions, laid).
  DERIVED. THE GIVEN ROWS OF THIS SEAT. 17 by the template 'for every input the law returns true; each argument reads behind the call as it read before'; 0 by the template 'total and deterministic' (their statements: YteffmnohgnmanaaTotals.lean).
  GIVEN WITH THE SEED: the statements are not yours to turn. If you find one false, say at which input.
  Laid BY PROGRAM, IN A SANDBOX (cutbox-rows.mjs): the forced cells as the released guide's own fill.sh prints them over the translation 98ba750e132c82e5… (all of the seat's roots in one cut). By AI agents, Wed Nov 11 2026. No macro, syntax, notation, axiom, sorry.
-/
import Derived.Test.YteffmnohgnmanaaChecked
import GoSem.Claim
import GoSem.ClaimJoined
import GoSem.ClaimMapViews
import Derived.JoinedTies
import Derived.KernelRfl
namespace Go.Proofs.Yteffmnohgnmanaa
/- THE CELL 'sum', in the pinned program and in every row, IS THE sha256 OF THE DUMP (.gsa) THAT YteffmnohgnmanaaProg.lean LOADS. Nothing in Lean hashes anything: it is a label: what it is worth is what the hold of that sum in a sandbox is worth. -/
noncomputable def Try.pinned : Pinned := { name := "yteffmnohgnmanaa", sum := "98ba750e132c82e506a2b4ed9aa7d0074a84f7e3081bb536fcf78152c333f915", checked := Try.checked }
namespace Rows
def none {H : Type} : Left H := { results := [], args := [] }

/-- 'rotalaw11.ChannelOrders': WHATEVER THE INPUT: true; the input reads as it did. -/
def channelOrdersSpec : ChangeSpec := { name := "channelOrders", fn := fun _ => fun
  | [d1, d2, d3] => { results := [.lit (.bool true)], args := [d1, d2, d3] }
  | _ => none }
def channelOrdersRow : OpenClaim := { program := "yteffmnohgnmanaa", sum := "98ba750e132c82e506a2b4ed9aa7d0074a84f7e3081bb536fcf78152c333f915", func := "rota/rotalaw11.ChannelOrders", spec := "channelOrders", unfollowed := true, recurses := true, apart := false }
def ChannelOrdersSaid : Prop := channelOrdersRow.holds Try.pinned (OpenSpec.ofChange channelOrdersSpec)

/-- ITS FALSE NEIGHBOUR: 'it returns false'. Refute it at one input. -/
def channelOrdersWrong : ChangeSpec := { name := "channelOrders", fn := fun _ => fun
  | [d1, d2, d3] => { results := [.lit (.bool false)], args := [d1, d2, d3] }
  | _ => none }
def ChannelOrdersWrongFalsely : Prop := channelOrdersRow.holds Try.pinned (OpenSpec.ofChange channelOrdersWrong)

/-- 'rotalaw12.ChooseNobody': WHATEVER THE INPUT: true; the input reads as it did. -/
def chooseNobodySpec : ChangeSpec := { name := "chooseNobody", fn := fun _ => fun
  | [d] => { results := [.lit (.bool true)], args := [d] }
  | _ => none }
def chooseNobodyRow : OpenClaim := { program := "yteffmnohgnmanaa", sum := "98ba750e132c82e506a2b4ed9aa7d0074a84f7e3081bb536fcf78152c333f915", func := "rota/rotalaw12.ChooseNobody", spec := "chooseNobody", unfollowed := true, recurses := true, apart := false }
def ChooseNobodySaid : Prop := chooseNobodyRow.holds Try.pinned (OpenSpec.ofChange chooseNobodySpec)

/-- ITS FALSE NEIGHBOUR: 'it returns false'. Refute it at one input. -/
def chooseNobodyWrong : ChangeSpec := { name := "chooseNobody", fn := fun _ => fun
  | [d] => { results := [.lit (.bool false)], args := [d] }
  | _ => none }
def ChooseNobodyWrongFalsely : Prop := chooseNobodyRow.holds Try.pinned (OpenSpec.ofChange chooseNobodyWrong)

/-- 'rotalaw11.ChannelPlays': WHATEVER THE INPUT: true; the input reads as it did. -/
def channelPlaysSpec : ChangeSpec := { name := "channelPlays", fn := fun _ => fun
  | [d] => { results := [.lit (.bool true)], args := [d] }
  | _ => none }
def channelPlaysRow : OpenClaim := { program := "yteffmnohgnmanaa", sum := "98ba750e132c82e506a2b4ed9aa7d0074a84f7e3081bb536fcf78152c333f915", func := "rota/rotalaw11.ChannelPlays", spec := "channelPlays", unfollowed := true, recurses := true, apart := false }
def ChannelPlaysSaid : Prop := channelPlaysRow.holds Try.pinned (OpenSpec.ofChange channelPlaysSpec)

/-- ITS FALSE NEIGHBOUR: 'it returns false'. Refute it at one input. -/
def channelPlaysWrong : ChangeSpec := { name := "channelPlays", fn := fun _ => fun
  | [d] => { results := [.lit (.bool false)], args := [d] }
  | _ => none }
def ChannelPlaysWrongFalsely : Prop := channelPlaysRow.holds Try.pinned (OpenSpec.ofChange channelPlaysWrong)

/-- 'rotalaw11.ChannelWakes': WHATEVER THE INPUT: true; the input reads as it did. -/
def channelWakesSpec : ChangeSpec := { name := "channelWakes", fn := fun _ => fun
  | [d1, d2] => { results := [.lit (.bool true)], args := [d1, d2] }
  | _ => none }
def channelWakesRow : OpenClaim := { program := "yteffmnohgnmanaa", sum := "98ba750e132c82e506a2b4ed9aa7d0074a84f7e3081bb536fcf78152c333f915", func := "rota/rotalaw11.ChannelWakes", spec := "channelWakes", unfollowed := true, recurses := true, apart := false }
def ChannelWakesSaid : Prop := channelWakesRow.holds Try.pinned (OpenSpec.ofChange channelWakesSpec)

/-- ITS FALSE NEIGHBOUR: 'it returns false'. Refute it at one input. -/
def channelWakesWrong : ChangeSpec := { name := "channelWakes", fn := fun _ => fun
  | [d1, d2] => { results := [.lit (.bool false)], args := [d1, d2] }
  | _ => none }
def ChannelWakesWrongFalsely : Prop := channelWakesRow.holds Try.pinned (OpenSpec.ofChange channelWakesWrong)

/-- 'rotalaw11.ChannelApart': WHATEVER THE INPUT: true; the input reads as it did. -/
def channelApartSpec : ChangeSpec := { name := "channelApart", fn := fun _ => fun
  | [d1, d2] => { results := [.lit (.bool true)], args := [d1, d2] }
  | _ => none }
def channelApartRow : OpenClaim := { program := "yteffmnohgnmanaa", sum := "98ba750e132c82e506a2b4ed9aa7d0074a84f7e3081bb536fcf78152c333f915", func := "rota/rotalaw11.ChannelApart", spec := "channelApart", unfollowed := true, recurses := true, apart := false }
def ChannelApartSaid : Prop := channelApartRow.holds Try.pinned (OpenSpec.ofChange channelApartSpec)

/-- ITS FALSE NEIGHBOUR: 'it returns false'. Refute it at one input. -/
def channelApartWrong : ChangeSpec := { name := "channelApart", fn := fun _ => fun
  | [d1, d2] => { results := [.lit (.bool false)], args := [d1, d2] }
  | _ => none }
def ChannelApartWrongFalsely : Prop := channelApartRow.holds Try.pinned (OpenSpec.ofChange channelApartWrong)

/-- 'rotalaw12.ChooseOrders': WHATEVER THE INPUT: true; the input reads as it did. -/
def chooseOrdersSpec : ChangeSpec := { name := "chooseOrders", fn := fun _ => fun
  | [d1, d2] => { results := [.lit (.bool true)], args := [d1, d2] }
  | _ => none }
def chooseOrdersRow : OpenClaim := { program := "yteffmnohgnmanaa", sum := "98ba750e132c82e506a2b4ed9aa7d0074a84f7e3081bb536fcf78152c333f915", func := "rota/rotalaw12.ChooseOrders", spec := "chooseOrders", unfollowed := true, recurses := true, apart := false }
def ChooseOrdersSaid : Prop := chooseOrdersRow.holds Try.pinned (OpenSpec.ofChange chooseOrdersSpec)

/-- ITS FALSE NEIGHBOUR: 'it returns false'. Refute it at one input. -/
def chooseOrdersWrong : ChangeSpec := { name := "chooseOrders", fn := fun _ => fun
  | [d1, d2] => { results := [.lit (.bool false)], args := [d1, d2] }
  | _ => none }
def ChooseOrdersWrongFalsely : Prop := chooseOrdersRow.holds Try.pinned (OpenSpec.ofChange chooseOrdersWrong)

/-- 'rotalaw12.ChooseOther': WHATEVER THE INPUT: true; the input reads as it did. -/
def chooseOtherSpec : ChangeSpec := { name := "chooseOther", fn := fun _ => fun
  | [d1, d2] => { results := [.lit (.bool true)], args := [d1, d2] }
  | _ => none }
def chooseOtherRow : OpenClaim := { program := "yteffmnohgnmanaa", sum := "98ba750e132c82e506a2b4ed9aa7d0074a84f7e3081bb536fcf78152c333f915", func := "rota/rotalaw12.ChooseOther", spec := "chooseOther", unfollowed := true, recurses := true, apart := false }
def ChooseOtherSaid : Prop := chooseOtherRow.holds Try.pinned (OpenSpec.ofChange chooseOtherSpec)

/-- ITS FALSE NEIGHBOUR: 'it returns false'. Refute it at one input. -/
def chooseOtherWrong : ChangeSpec := { name := "chooseOther", fn := fun _ => fun
  | [d1, d2] => { results := [.lit (.bool false)], args := [d1, d2] }
  | _ => none }
def ChooseOtherWrongFalsely : Prop := chooseOtherRow.holds Try.pinned (OpenSpec.ofChange chooseOtherWrong)

/-- 'rotalaw12.ChooseFair': WHATEVER THE INPUT: true; the input reads as it did. -/
def chooseFairSpec : ChangeSpec := { name := "chooseFair", fn := fun _ => fun
  | [d1, d2, d3] => { results := [.lit (.bool true)], args := [d1, d2, d3] }
  | _ => none }
def chooseFairRow : OpenClaim := { program := "yteffmnohgnmanaa", sum := "98ba750e132c82e506a2b4ed9aa7d0074a84f7e3081bb536fcf78152c333f915", func := "rota/rotalaw12.ChooseFair", spec := "chooseFair", unfollowed := true, recurses := true, apart := false }
def ChooseFairSaid : Prop := chooseFairRow.holds Try.pinned (OpenSpec.ofChange chooseFairSpec)

/-- ITS FALSE NEIGHBOUR: 'it returns false'. Refute it at one input. -/
def chooseFairWrong : ChangeSpec := { name := "chooseFair", fn := fun _ => fun
  | [d1, d2, d3] => { results := [.lit (.bool false)], args := [d1, d2, d3] }
  | _ => none }
def ChooseFairWrongFalsely : Prop := chooseFairRow.holds Try.pinned (OpenSpec.ofChange chooseFairWrong)

/-- 'rotalaw11.ChannelLoads': WHATEVER THE INPUT: true; the input reads as it did. -/
def channelLoadsSpec : ChangeSpec := { name := "channelLoads", fn := fun _ => fun
  | [d1, d2] => { results := [.lit (.bool true)], args := [d1, d2] }
  | _ => none }
def channelLoadsRow : OpenClaim := { program := "yteffmnohgnmanaa", sum := "98ba750e132c82e506a2b4ed9aa7d0074a84f7e3081bb536fcf78152c333f915", func := "rota/rotalaw11.ChannelLoads", spec := "channelLoads", unfollowed := true, recurses := true, apart := false }
def ChannelLoadsSaid : Prop := channelLoadsRow.holds Try.pinned (OpenSpec.ofChange channelLoadsSpec)

/-- ITS FALSE NEIGHBOUR: 'it returns false'. Refute it at one input. -/
def channelLoadsWrong : ChangeSpec := { name := "channelLoads", fn := fun _ => fun
  | [d1, d2] => { results := [.lit (.bool false)], args := [d1, d2] }
  | _ => none }
def ChannelLoadsWrongFalsely : Prop := channelLoadsRow.holds Try.pinned (OpenSpec.ofChange channelLoadsWrong)

/-- 'rotalaw11.ChannelSettled': WHATEVER THE INPUT: true; the input reads as it did. -/
def channelSettledSpec : ChangeSpec := { name := "channelSettled", fn := fun _ => fun
  | [d] => { results := [.lit (.bool true)], args := [d] }
  | _ => none }
def channelSettledRow : OpenClaim := { program := "yteffmnohgnmanaa", sum := "98ba750e132c82e506a2b4ed9aa7d0074a84f7e3081bb536fcf78152c333f915", func := "rota/rotalaw11.ChannelSettled", spec := "channelSettled", unfollowed := true, recurses := true, apart := false }
def ChannelSettledSaid : Prop := channelSettledRow.holds Try.pinned (OpenSpec.ofChange channelSettledSpec)

/-- ITS FALSE NEIGHBOUR: 'it returns false'. Refute it at one input. -/
def channelSettledWrong : ChangeSpec := { name := "channelSettled", fn := fun _ => fun
  | [d] => { results := [.lit (.bool false)], args := [d] }
  | _ => none }
def ChannelSettledWrongFalsely : Prop := channelSettledRow.holds Try.pinned (OpenSpec.ofChange channelSettledWrong)

/-- 'rotalaw11.ChannelOwn': WHATEVER THE INPUT: true; the input reads as it did. -/
def channelOwnSpec : ChangeSpec := { name := "channelOwn", fn := fun _ => fun
  | [d1, d2] => { results := [.lit (.bool true)], args := [d1, d2] }
  | _ => none }
def channelOwnRow : OpenClaim := { program := "yteffmnohgnmanaa", sum := "98ba750e132c82e506a2b4ed9aa7d0074a84f7e3081bb536fcf78152c333f915", func := "rota/rotalaw11.ChannelOwn", spec := "channelOwn", unfollowed := true, recurses := true, apart := false }
def ChannelOwnSaid : Prop := channelOwnRow.holds Try.pinned (OpenSpec.ofChange channelOwnSpec)

/-- ITS FALSE NEIGHBOUR: 'it returns false'. Refute it at one input. -/
def channelOwnWrong : ChangeSpec := { name := "channelOwn", fn := fun _ => fun
  | [d1, d2] => { results := [.lit (.bool false)], args := [d1, d2] }
  | _ => none }
def ChannelOwnWrongFalsely : Prop := channelOwnRow.holds Try.pinned (OpenSpec.ofChange channelOwnWrong)

/-- 'rotalaw12.ChooseDraws': WHATEVER THE INPUT: true; the input reads as it did. -/
def chooseDrawsSpec : ChangeSpec := { name := "chooseDraws", fn := fun _ => fun
  | [d] => { results := [.lit (.bool true)], args := [d] }
  | _ => none }
def chooseDrawsRow : OpenClaim := { program := "yteffmnohgnmanaa", sum := "98ba750e132c82e506a2b4ed9aa7d0074a84f7e3081bb536fcf78152c333f915", func := "rota/rotalaw12.ChooseDraws", spec := "chooseDraws", unfollowed := true, recurses := true, apart := false }
def ChooseDrawsSaid : Prop := chooseDrawsRow.holds Try.pinned (OpenSpec.ofChange chooseDrawsSpec)

/-- ITS FALSE NEIGHBOUR: 'it returns false'. Refute it at one input. -/
def chooseDrawsWrong : ChangeSpec := { name := "chooseDraws", fn := fun _ => fun
  | [d] => { results := [.lit (.bool false)], args := [d] }
  | _ => none }
def ChooseDrawsWrongFalsely : Prop := chooseDrawsRow.holds Try.pinned (OpenSpec.ofChange chooseDrawsWrong)

/-- 'rotalaw12.ChooseBack': WHATEVER THE INPUT: true; the input reads as it did. -/
def chooseBackSpec : ChangeSpec := { name := "chooseBack", fn := fun _ => fun
  | [d1, d2] => { results := [.lit (.bool true)], args := [d1, d2] }
  | _ => none }
def chooseBackRow : OpenClaim := { program := "yteffmnohgnmanaa", sum := "98ba750e132c82e506a2b4ed9aa7d0074a84f7e3081bb536fcf78152c333f915", func := "rota/rotalaw12.ChooseBack", spec := "chooseBack", unfollowed := true, recurses := true, apart := false }
def ChooseBackSaid : Prop := chooseBackRow.holds Try.pinned (OpenSpec.ofChange chooseBackSpec)

/-- ITS FALSE NEIGHBOUR: 'it returns false'. Refute it at one input. -/
def chooseBackWrong : ChangeSpec := { name := "chooseBack", fn := fun _ => fun
  | [d1, d2] => { results := [.lit (.bool false)], args := [d1, d2] }
  | _ => none }
def ChooseBackWrongFalsely : Prop := chooseBackRow.holds Try.pinned (OpenSpec.ofChange chooseBackWrong)

/-- 'rotalaw12.ChooseReady': WHATEVER THE INPUT: true; the input reads as it did. -/
def chooseReadySpec : ChangeSpec := { name := "chooseReady", fn := fun _ => fun
  | [d1, d2] => { results := [.lit (.bool true)], args := [d1, d2] }
  | _ => none }
def chooseReadyRow : OpenClaim := { program := "yteffmnohgnmanaa", sum := "98ba750e132c82e506a2b4ed9aa7d0074a84f7e3081bb536fcf78152c333f915", func := "rota/rotalaw12.ChooseReady", spec := "chooseReady", unfollowed := true, recurses := true, apart := false }
def ChooseReadySaid : Prop := chooseReadyRow.holds Try.pinned (OpenSpec.ofChange chooseReadySpec)

/-- ITS FALSE NEIGHBOUR: 'it returns false'. Refute it at one input. -/
def chooseReadyWrong : ChangeSpec := { name := "chooseReady", fn := fun _ => fun
  | [d1, d2] => { results := [.lit (.bool false)], args := [d1, d2] }
  | _ => none }
def ChooseReadyWrongFalsely : Prop := chooseReadyRow.holds Try.pinned (OpenSpec.ofChange chooseReadyWrong)

/-- 'rotalaw12.ChooseSelects': WHATEVER THE INPUT: true; the input reads as it did. -/
def chooseSelectsSpec : ChangeSpec := { name := "chooseSelects", fn := fun _ => fun
  | [d1, d2] => { results := [.lit (.bool true)], args := [d1, d2] }
  | _ => none }
def chooseSelectsRow : OpenClaim := { program := "yteffmnohgnmanaa", sum := "98ba750e132c82e506a2b4ed9aa7d0074a84f7e3081bb536fcf78152c333f915", func := "rota/rotalaw12.ChooseSelects", spec := "chooseSelects", unfollowed := true, recurses := true, apart := false }
def ChooseSelectsSaid : Prop := chooseSelectsRow.holds Try.pinned (OpenSpec.ofChange chooseSelectsSpec)

/-- ITS FALSE NEIGHBOUR: 'it returns false'. Refute it at one input. -/
def chooseSelectsWrong : ChangeSpec := { name := "chooseSelects", fn := fun _ => fun
  | [d1, d2] => { results := [.lit (.bool false)], args := [d1, d2] }
  | _ => none }
def ChooseSelectsWrongFalsely : Prop := chooseSelectsRow.holds Try.pinned (OpenSpec.ofChange chooseSelectsWrong)

/-- 'rotalaw12.ChooseWakes': WHATEVER THE INPUT: true; the input reads as it did. -/
def chooseWakesSpec : ChangeSpec := { name := "chooseWakes", fn := fun _ => fun
  | [d1, d2, d3] => { results := [.lit (.bool true)], args := [d1, d2, d3] }
  | _ => none }
def chooseWakesRow : OpenClaim := { program := "yteffmnohgnmanaa", sum := "98ba750e132c82e506a2b4ed9aa7d0074a84f7e3081bb536fcf78152c333f915", func := "rota/rotalaw12.ChooseWakes", spec := "chooseWakes", unfollowed := true, recurses := true, apart := false }
def ChooseWakesSaid : Prop := chooseWakesRow.holds Try.pinned (OpenSpec.ofChange chooseWakesSpec)

/-- ITS FALSE NEIGHBOUR: 'it returns false'. Refute it at one input. -/
def chooseWakesWrong : ChangeSpec := { name := "chooseWakes", fn := fun _ => fun
  | [d1, d2, d3] => { results := [.lit (.bool false)], args := [d1, d2, d3] }
  | _ => none }
def ChooseWakesWrongFalsely : Prop := chooseWakesRow.holds Try.pinned (OpenSpec.ofChange chooseWakesWrong)

/-- 'rotalaw12.ChooseOwn': WHATEVER THE INPUT: true; the input reads as it did. -/
def chooseOwnSpec : ChangeSpec := { name := "chooseOwn", fn := fun _ => fun
  | [d1, d2] => { results := [.lit (.bool true)], args := [d1, d2] }
  | _ => none }
def chooseOwnRow : OpenClaim := { program := "yteffmnohgnmanaa", sum := "98ba750e132c82e506a2b4ed9aa7d0074a84f7e3081bb536fcf78152c333f915", func := "rota/rotalaw12.ChooseOwn", spec := "chooseOwn", unfollowed := true, recurses := true, apart := false }
def ChooseOwnSaid : Prop := chooseOwnRow.holds Try.pinned (OpenSpec.ofChange chooseOwnSpec)

/-- ITS FALSE NEIGHBOUR: 'it returns false'. Refute it at one input. -/
def chooseOwnWrong : ChangeSpec := { name := "chooseOwn", fn := fun _ => fun
  | [d1, d2] => { results := [.lit (.bool false)], args := [d1, d2] }
  | _ => none }
def ChooseOwnWrongFalsely : Prop := chooseOwnRow.holds Try.pinned (OpenSpec.ofChange chooseOwnWrong)

/- THE SECOND FORM. 'bulk': how many values and letters a reading holds, each counted each time it is reached (what is shared counts as often as it is met; a slice's spare places count too). A statement '..UptoSaid' is the law's where the arguments, and the package variables that the reading takes, are together of bulk at most 1048576: NARROWER than '..Said'. Prove '..Said' where nothing that the law and all that it calls make is longer than what came in: it says more and counts as full. Else prove '..UptoSaid'. A law counts once. -/
mutual
def uptoBulk {H : Type} : DataW H → Nat
  | .lit (.string bytes) => bytes.length + 1
  | .lit _ => 1
  | .nil => 1
  | .ptr d => uptoBulk d + 1
  | .slice elems spare => uptoBulkAll elems + uptoBulkAll spare + 1
  | .agg parts => uptoBulkAll parts + 1
  | .iface _ d => uptoBulk d + 1
  | .map entries => uptoBulkEntries entries + 1
  | .held _ => 1
def uptoBulkAll {H : Type} : List (DataW H) → Nat
  | [] => 0
  | d :: r => uptoBulk d + uptoBulkAll r
def uptoBulkEntries {H : Type} : List (Lit × DataW H) → Nat
  | [] => 0
  | x :: r => uptoBulkEntry x + uptoBulkEntries r
def uptoBulkEntry {H : Type} : Lit × DataW H → Nat
  | (.string bytes, d) => bytes.length + uptoBulk d + 1
  | (_, d) => uptoBulk d + 1
 end
def uptoSmall : (H : Type) → List (DataW H) → Bool := fun _ ds => decide (uptoBulkAll ds ≤ 1048576)
def OpenSpec.upto (s : _root_.Go.ChangeSpec) : _root_.Go.OpenSpec := { _root_.Go.OpenSpec.ofChange s with cond := some uptoSmall }

/-- 'rotalaw11.ChannelOrders', WHERE WHAT IT READS IS OF BULK AT MOST 1048576: true; the input reads as it did. -/
def channelOrdersUptoRow : OpenClaim := { program := "yteffmnohgnmanaa", sum := "98ba750e132c82e506a2b4ed9aa7d0074a84f7e3081bb536fcf78152c333f915", func := "rota/rotalaw11.ChannelOrders", spec := "channelOrders", unfollowed := true, recurses := true, apart := false, narrowed := true }
def ChannelOrdersUptoSaid : Prop := channelOrdersUptoRow.holds Try.pinned (OpenSpec.upto channelOrdersSpec)

/-- 'rotalaw12.ChooseNobody', WHERE WHAT IT READS IS OF BULK AT MOST 1048576: true; the input reads as it did. -/
def chooseNobodyUptoRow : OpenClaim := { program := "yteffmnohgnmanaa", sum := "98ba750e132c82e506a2b4ed9aa7d0074a84f7e3081bb536fcf78152c333f915", func := "rota/rotalaw12.ChooseNobody", spec := "chooseNobody", unfollowed := true, recurses := true, apart := false, narrowed := true }
def ChooseNobodyUptoSaid : Prop := chooseNobodyUptoRow.holds Try.pinned (OpenSpec.upto chooseNobodySpec)

/-- 'rotalaw11.ChannelPlays', WHERE WHAT IT READS IS OF BULK AT MOST 1048576: true; the input reads as it did. -/
def channelPlaysUptoRow : OpenClaim := { program := "yteffmnohgnmanaa", sum := "98ba750e132c82e506a2b4ed9aa7d0074a84f7e3081bb536fcf78152c333f915", func := "rota/rotalaw11.ChannelPlays", spec := "channelPlays", unfollowed := true, recurses := true, apart := false, narrowed := true }
def ChannelPlaysUptoSaid : Prop := channelPlaysUptoRow.holds Try.pinned (OpenSpec.upto channelPlaysSpec)

/-- 'rotalaw11.ChannelWakes', WHERE WHAT IT READS IS OF BULK AT MOST 1048576: true; the input reads as it did. -/
def channelWakesUptoRow : OpenClaim := { program := "yteffmnohgnmanaa", sum := "98ba750e132c82e506a2b4ed9aa7d0074a84f7e3081bb536fcf78152c333f915", func := "rota/rotalaw11.ChannelWakes", spec := "channelWakes", unfollowed := true, recurses := true, apart := false, narrowed := true }
def ChannelWakesUptoSaid : Prop := channelWakesUptoRow.holds Try.pinned (OpenSpec.upto channelWakesSpec)

/-- 'rotalaw11.ChannelApart', WHERE WHAT IT READS IS OF BULK AT MOST 1048576: true; the input reads as it did. -/
def channelApartUptoRow : OpenClaim := { program := "yteffmnohgnmanaa", sum := "98ba750e132c82e506a2b4ed9aa7d0074a84f7e3081bb536fcf78152c333f915", func := "rota/rotalaw11.ChannelApart", spec := "channelApart", unfollowed := true, recurses := true, apart := false, narrowed := true }
def ChannelApartUptoSaid : Prop := channelApartUptoRow.holds Try.pinned (OpenSpec.upto channelApartSpec)

/-- 'rotalaw12.ChooseOrders', WHERE WHAT IT READS IS OF BULK AT MOST 1048576: true; the input reads as it did. -/
def chooseOrdersUptoRow : OpenClaim := { program := "yteffmnohgnmanaa", sum := "98ba750e132c82e506a2b4ed9aa7d0074a84f7e3081bb536fcf78152c333f915", func := "rota/rotalaw12.ChooseOrders", spec := "chooseOrders", unfollowed := true, recurses := true, apart := false, narrowed := true }
def ChooseOrdersUptoSaid : Prop := chooseOrdersUptoRow.holds Try.pinned (OpenSpec.upto chooseOrdersSpec)

/-- 'rotalaw12.ChooseOther', WHERE WHAT IT READS IS OF BULK AT MOST 1048576: true; the input reads as it did. -/
def chooseOtherUptoRow : OpenClaim := { program := "yteffmnohgnmanaa", sum := "98ba750e132c82e506a2b4ed9aa7d0074a84f7e3081bb536fcf78152c333f915", func := "rota/rotalaw12.ChooseOther", spec := "chooseOther", unfollowed := true, recurses := true, apart := false, narrowed := true }
def ChooseOtherUptoSaid : Prop := chooseOtherUptoRow.holds Try.pinned (OpenSpec.upto chooseOtherSpec)

/-- 'rotalaw12.ChooseFair', WHERE WHAT IT READS IS OF BULK AT MOST 1048576: true; the input reads as it did. -/
def chooseFairUptoRow : OpenClaim := { program := "yteffmnohgnmanaa", sum := "98ba750e132c82e506a2b4ed9aa7d0074a84f7e3081bb536fcf78152c333f915", func := "rota/rotalaw12.ChooseFair", spec := "chooseFair", unfollowed := true, recurses := true, apart := false, narrowed := true }
def ChooseFairUptoSaid : Prop := chooseFairUptoRow.holds Try.pinned (OpenSpec.upto chooseFairSpec)

/-- 'rotalaw11.ChannelLoads', WHERE WHAT IT READS IS OF BULK AT MOST 1048576: true; the input reads as it did. -/
def channelLoadsUptoRow : OpenClaim := { program := "yteffmnohgnmanaa", sum := "98ba750e132c82e506a2b4ed9aa7d0074a84f7e3081bb536fcf78152c333f915", func := "rota/rotalaw11.ChannelLoads", spec := "channelLoads", unfollowed := true, recurses := true, apart := false, narrowed := true }
def ChannelLoadsUptoSaid : Prop := channelLoadsUptoRow.holds Try.pinned (OpenSpec.upto channelLoadsSpec)

/-- 'rotalaw11.ChannelSettled', WHERE WHAT IT READS IS OF BULK AT MOST 1048576: true; the input reads as it did. -/
def channelSettledUptoRow : OpenClaim := { program := "yteffmnohgnmanaa", sum := "98ba750e132c82e506a2b4ed9aa7d0074a84f7e3081bb536fcf78152c333f915", func := "rota/rotalaw11.ChannelSettled", spec := "channelSettled", unfollowed := true, recurses := true, apart := false, narrowed := true }
def ChannelSettledUptoSaid : Prop := channelSettledUptoRow.holds Try.pinned (OpenSpec.upto channelSettledSpec)

/-- 'rotalaw11.ChannelOwn', WHERE WHAT IT READS IS OF BULK AT MOST 1048576: true; the input reads as it did. -/
def channelOwnUptoRow : OpenClaim := { program := "yteffmnohgnmanaa", sum := "98ba750e132c82e506a2b4ed9aa7d0074a84f7e3081bb536fcf78152c333f915", func := "rota/rotalaw11.ChannelOwn", spec := "channelOwn", unfollowed := true, recurses := true, apart := false, narrowed := true }
def ChannelOwnUptoSaid : Prop := channelOwnUptoRow.holds Try.pinned (OpenSpec.upto channelOwnSpec)

/-- 'rotalaw12.ChooseDraws', WHERE WHAT IT READS IS OF BULK AT MOST 1048576: true; the input reads as it did. -/
def chooseDrawsUptoRow : OpenClaim := { program := "yteffmnohgnmanaa", sum := "98ba750e132c82e506a2b4ed9aa7d0074a84f7e3081bb536fcf78152c333f915", func := "rota/rotalaw12.ChooseDraws", spec := "chooseDraws", unfollowed := true, recurses := true, apart := false, narrowed := true }
def ChooseDrawsUptoSaid : Prop := chooseDrawsUptoRow.holds Try.pinned (OpenSpec.upto chooseDrawsSpec)

/-- 'rotalaw12.ChooseBack', WHERE WHAT IT READS IS OF BULK AT MOST 1048576: true; the input reads as it did. -/
def chooseBackUptoRow : OpenClaim := { program := "yteffmnohgnmanaa", sum := "98ba750e132c82e506a2b4ed9aa7d0074a84f7e3081bb536fcf78152c333f915", func := "rota/rotalaw12.ChooseBack", spec := "chooseBack", unfollowed := true, recurses := true, apart := false, narrowed := true }
def ChooseBackUptoSaid : Prop := chooseBackUptoRow.holds Try.pinned (OpenSpec.upto chooseBackSpec)

/-- 'rotalaw12.ChooseReady', WHERE WHAT IT READS IS OF BULK AT MOST 1048576: true; the input reads as it did. -/
def chooseReadyUptoRow : OpenClaim := { program := "yteffmnohgnmanaa", sum := "98ba750e132c82e506a2b4ed9aa7d0074a84f7e3081bb536fcf78152c333f915", func := "rota/rotalaw12.ChooseReady", spec := "chooseReady", unfollowed := true, recurses := true, apart := false, narrowed := true }
def ChooseReadyUptoSaid : Prop := chooseReadyUptoRow.holds Try.pinned (OpenSpec.upto chooseReadySpec)

/-- 'rotalaw12.ChooseSelects', WHERE WHAT IT READS IS OF BULK AT MOST 1048576: true; the input reads as it did. -/
def chooseSelectsUptoRow : OpenClaim := { program := "yteffmnohgnmanaa", sum := "98ba750e132c82e506a2b4ed9aa7d0074a84f7e3081bb536fcf78152c333f915", func := "rota/rotalaw12.ChooseSelects", spec := "chooseSelects", unfollowed := true, recurses := true, apart := false, narrowed := true }
def ChooseSelectsUptoSaid : Prop := chooseSelectsUptoRow.holds Try.pinned (OpenSpec.upto chooseSelectsSpec)

/-- 'rotalaw12.ChooseWakes', WHERE WHAT IT READS IS OF BULK AT MOST 1048576: true; the input reads as it did. -/
def chooseWakesUptoRow : OpenClaim := { program := "yteffmnohgnmanaa", sum := "98ba750e132c82e506a2b4ed9aa7d0074a84f7e3081bb536fcf78152c333f915", func := "rota/rotalaw12.ChooseWakes", spec := "chooseWakes", unfollowed := true, recurses := true, apart := false, narrowed := true }
def ChooseWakesUptoSaid : Prop := chooseWakesUptoRow.holds Try.pinned (OpenSpec.upto chooseWakesSpec)

/-- 'rotalaw12.ChooseOwn', WHERE WHAT IT READS IS OF BULK AT MOST 1048576: true; the input reads as it did. -/
def chooseOwnUptoRow : OpenClaim := { program := "yteffmnohgnmanaa", sum := "98ba750e132c82e506a2b4ed9aa7d0074a84f7e3081bb536fcf78152c333f915", func := "rota/rotalaw12.ChooseOwn", spec := "chooseOwn", unfollowed := true, recurses := true, apart := false, narrowed := true }
def ChooseOwnUptoSaid : Prop := chooseOwnUptoRow.holds Try.pinned (OpenSpec.upto chooseOwnSpec)

end Rows
end Go.Proofs.Yteffmnohgnmanaa
