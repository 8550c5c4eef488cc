/-
  No cell of these rows narrows 'for every input' (looked for: loops, veiled, ifaces, maps, wideKeys, modest, calm, conditions, laid).
  DERIVED. THE GIVEN ROWS OF THIS SEAT. 12 by the template 'for every input the law returns true; each argument reads behind the call as it read before'; 0 by the template 'total and deterministic' (their statements: YtpnappendjomoaaTotals.lean).
  GIVEN WITH THE SEED: the statements are not yours to turn. If you find one false, say at which input.
  Laid BY PROGRAM, IN A SANDBOX (cutbox-rows.mjs): the forced cells as the released guide's own fill.sh prints them over the translation 843e4fd3d38fee1f… (all of the seat's roots in one cut). By AI agents, Wed Nov 11 2026. No macro, syntax, notation, axiom, sorry.
-/
import Derived.Test.YtpnappendjomoaaChecked
import GoSem.Claim
import GoSem.ClaimJoined
import GoSem.ClaimMapViews
import Derived.JoinedTies
import Derived.KernelRfl
namespace Go.Proofs.Ytpnappendjomoaa
/- THE CELL 'sum', in the pinned program and in every row, IS THE sha256 OF THE DUMP (.gsa) THAT YtpnappendjomoaaProg.lean LOADS. Nothing in Lean hashes anything: it is a label: what it is worth is what the hold of that sum in a sandbox is worth. -/
noncomputable def Try.pinned : Pinned := { name := "ytpnappendjomoaa", sum := "843e4fd3d38fee1f7cf176a9784ca97a61910f5a26a6fc7aeac908a349a87fa4", checked := Try.checked }
namespace Rows
def none {H : Type} : Left H := { results := [], args := [] }

/-- 'notarylaw5.RootRoots': WHATEVER THE INPUT: true; the input reads as it did. -/
def rootRootsSpec : ChangeSpec := { name := "rootRoots", fn := fun _ => fun
  | [d] => { results := [.lit (.bool true)], args := [d] }
  | _ => none }
def rootRootsRow : OpenClaim := { program := "ytpnappendjomoaa", sum := "843e4fd3d38fee1f7cf176a9784ca97a61910f5a26a6fc7aeac908a349a87fa4", func := "notary/notarylaw5.RootRoots", spec := "rootRoots", apart := false }
def RootRootsSaid : Prop := rootRootsRow.holds Try.pinned (OpenSpec.ofChange rootRootsSpec)

/-- ITS FALSE NEIGHBOUR: 'it returns false'. Refute it at one input. -/
def rootRootsWrong : ChangeSpec := { name := "rootRoots", fn := fun _ => fun
  | [d] => { results := [.lit (.bool false)], args := [d] }
  | _ => none }
def RootRootsWrongFalsely : Prop := rootRootsRow.holds Try.pinned (OpenSpec.ofChange rootRootsWrong)

/-- 'notarylaw5.RootEd': WHATEVER THE INPUT: true; the input reads as it did. -/
def rootEdSpec : ChangeSpec := { name := "rootEd", fn := fun _ => fun
  | [d] => { results := [.lit (.bool true)], args := [d] }
  | _ => none }
def rootEdRow : OpenClaim := { program := "ytpnappendjomoaa", sum := "843e4fd3d38fee1f7cf176a9784ca97a61910f5a26a6fc7aeac908a349a87fa4", func := "notary/notarylaw5.RootEd", spec := "rootEd", apart := false }
def RootEdSaid : Prop := rootEdRow.holds Try.pinned (OpenSpec.ofChange rootEdSpec)

/-- ITS FALSE NEIGHBOUR: 'it returns false'. Refute it at one input. -/
def rootEdWrong : ChangeSpec := { name := "rootEd", fn := fun _ => fun
  | [d] => { results := [.lit (.bool false)], args := [d] }
  | _ => none }
def RootEdWrongFalsely : Prop := rootEdRow.holds Try.pinned (OpenSpec.ofChange rootEdWrong)

/-- 'notarylaw5.RootP': WHATEVER THE INPUT: true; the input reads as it did. -/
def rootPSpec : ChangeSpec := { name := "rootP", fn := fun _ => fun
  | [d] => { results := [.lit (.bool true)], args := [d] }
  | _ => none }
def rootPRow : OpenClaim := { program := "ytpnappendjomoaa", sum := "843e4fd3d38fee1f7cf176a9784ca97a61910f5a26a6fc7aeac908a349a87fa4", func := "notary/notarylaw5.RootP", spec := "rootP", apart := false }
def RootPSaid : Prop := rootPRow.holds Try.pinned (OpenSpec.ofChange rootPSpec)

/-- ITS FALSE NEIGHBOUR: 'it returns false'. Refute it at one input. -/
def rootPWrong : ChangeSpec := { name := "rootP", fn := fun _ => fun
  | [d] => { results := [.lit (.bool false)], args := [d] }
  | _ => none }
def RootPWrongFalsely : Prop := rootPRow.holds Try.pinned (OpenSpec.ofChange rootPWrong)

/-- 'notarylaw6.EdwTimes': WHATEVER THE INPUT: true; the input reads as it did. -/
def edwTimesSpec : ChangeSpec := { name := "edwTimes", fn := fun _ => fun
  | [d] => { results := [.lit (.bool true)], args := [d] }
  | _ => none }
def edwTimesRow : OpenClaim := { program := "ytpnappendjomoaa", sum := "843e4fd3d38fee1f7cf176a9784ca97a61910f5a26a6fc7aeac908a349a87fa4", func := "notary/notarylaw6.EdwTimes", spec := "edwTimes", apart := false }
def EdwTimesSaid : Prop := edwTimesRow.holds Try.pinned (OpenSpec.ofChange edwTimesSpec)

/-- ITS FALSE NEIGHBOUR: 'it returns false'. Refute it at one input. -/
def edwTimesWrong : ChangeSpec := { name := "edwTimes", fn := fun _ => fun
  | [d] => { results := [.lit (.bool false)], args := [d] }
  | _ => none }
def EdwTimesWrongFalsely : Prop := edwTimesRow.holds Try.pinned (OpenSpec.ofChange edwTimesWrong)

/-- 'notarylaw6.EdwNumbers': WHATEVER THE INPUT: true; the input reads as it did. -/
def edwNumbersSpec : ChangeSpec := { name := "edwNumbers", fn := fun _ => fun
  | [d] => { results := [.lit (.bool true)], args := [d] }
  | _ => none }
def edwNumbersRow : OpenClaim := { program := "ytpnappendjomoaa", sum := "843e4fd3d38fee1f7cf176a9784ca97a61910f5a26a6fc7aeac908a349a87fa4", func := "notary/notarylaw6.EdwNumbers", spec := "edwNumbers", apart := false }
def EdwNumbersSaid : Prop := edwNumbersRow.holds Try.pinned (OpenSpec.ofChange edwNumbersSpec)

/-- ITS FALSE NEIGHBOUR: 'it returns false'. Refute it at one input. -/
def edwNumbersWrong : ChangeSpec := { name := "edwNumbers", fn := fun _ => fun
  | [d] => { results := [.lit (.bool false)], args := [d] }
  | _ => none }
def EdwNumbersWrongFalsely : Prop := edwNumbersRow.holds Try.pinned (OpenSpec.ofChange edwNumbersWrong)

/-- 'notarylaw6.EdwSmall': WHATEVER THE INPUT: true; the input reads as it did. -/
def edwSmallSpec : ChangeSpec := { name := "edwSmall", fn := fun _ => fun
  | [d] => { results := [.lit (.bool true)], args := [d] }
  | _ => none }
def edwSmallRow : OpenClaim := { program := "ytpnappendjomoaa", sum := "843e4fd3d38fee1f7cf176a9784ca97a61910f5a26a6fc7aeac908a349a87fa4", func := "notary/notarylaw6.EdwSmall", spec := "edwSmall", apart := false }
def EdwSmallSaid : Prop := edwSmallRow.holds Try.pinned (OpenSpec.ofChange edwSmallSpec)

/-- ITS FALSE NEIGHBOUR: 'it returns false'. Refute it at one input. -/
def edwSmallWrong : ChangeSpec := { name := "edwSmall", fn := fun _ => fun
  | [d] => { results := [.lit (.bool false)], args := [d] }
  | _ => none }
def EdwSmallWrongFalsely : Prop := edwSmallRow.holds Try.pinned (OpenSpec.ofChange edwSmallWrong)

/-- 'notarylaw6.EdwBoths': WHATEVER THE INPUT: true; the input reads as it did. -/
def edwBothsSpec : ChangeSpec := { name := "edwBoths", fn := fun _ => fun
  | [d] => { results := [.lit (.bool true)], args := [d] }
  | _ => none }
def edwBothsRow : OpenClaim := { program := "ytpnappendjomoaa", sum := "843e4fd3d38fee1f7cf176a9784ca97a61910f5a26a6fc7aeac908a349a87fa4", func := "notary/notarylaw6.EdwBoths", spec := "edwBoths", apart := false }
def EdwBothsSaid : Prop := edwBothsRow.holds Try.pinned (OpenSpec.ofChange edwBothsSpec)

/-- ITS FALSE NEIGHBOUR: 'it returns false'. Refute it at one input. -/
def edwBothsWrong : ChangeSpec := { name := "edwBoths", fn := fun _ => fun
  | [d] => { results := [.lit (.bool false)], args := [d] }
  | _ => none }
def EdwBothsWrongFalsely : Prop := edwBothsRow.holds Try.pinned (OpenSpec.ofChange edwBothsWrong)

/-- 'notarylaw6.EdwGroup': WHATEVER THE INPUT: true; the input reads as it did. -/
def edwGroupSpec : ChangeSpec := { name := "edwGroup", fn := fun _ => fun
  | [d] => { results := [.lit (.bool true)], args := [d] }
  | _ => none }
def edwGroupRow : OpenClaim := { program := "ytpnappendjomoaa", sum := "843e4fd3d38fee1f7cf176a9784ca97a61910f5a26a6fc7aeac908a349a87fa4", func := "notary/notarylaw6.EdwGroup", spec := "edwGroup", apart := false }
def EdwGroupSaid : Prop := edwGroupRow.holds Try.pinned (OpenSpec.ofChange edwGroupSpec)

/-- ITS FALSE NEIGHBOUR: 'it returns false'. Refute it at one input. -/
def edwGroupWrong : ChangeSpec := { name := "edwGroup", fn := fun _ => fun
  | [d] => { results := [.lit (.bool false)], args := [d] }
  | _ => none }
def EdwGroupWrongFalsely : Prop := edwGroupRow.holds Try.pinned (OpenSpec.ofChange edwGroupWrong)

/-- 'notarylaw6.EdwWrongs': WHATEVER THE INPUT: true; the input reads as it did. -/
def edwWrongsSpec : ChangeSpec := { name := "edwWrongs", fn := fun _ => fun
  | [d] => { results := [.lit (.bool true)], args := [d] }
  | _ => none }
def edwWrongsRow : OpenClaim := { program := "ytpnappendjomoaa", sum := "843e4fd3d38fee1f7cf176a9784ca97a61910f5a26a6fc7aeac908a349a87fa4", func := "notary/notarylaw6.EdwWrongs", spec := "edwWrongs", apart := false }
def EdwWrongsSaid : Prop := edwWrongsRow.holds Try.pinned (OpenSpec.ofChange edwWrongsSpec)

/-- ITS FALSE NEIGHBOUR: 'it returns false'. Refute it at one input. -/
def edwWrongsWrong : ChangeSpec := { name := "edwWrongs", fn := fun _ => fun
  | [d] => { results := [.lit (.bool false)], args := [d] }
  | _ => none }
def EdwWrongsWrongFalsely : Prop := edwWrongsRow.holds Try.pinned (OpenSpec.ofChange edwWrongsWrong)

/-- 'notarylaw6.EdwAdds': WHATEVER THE INPUT: true; the input reads as it did. -/
def edwAddsSpec : ChangeSpec := { name := "edwAdds", fn := fun _ => fun
  | [d] => { results := [.lit (.bool true)], args := [d] }
  | _ => none }
def edwAddsRow : OpenClaim := { program := "ytpnappendjomoaa", sum := "843e4fd3d38fee1f7cf176a9784ca97a61910f5a26a6fc7aeac908a349a87fa4", func := "notary/notarylaw6.EdwAdds", spec := "edwAdds", apart := false }
def EdwAddsSaid : Prop := edwAddsRow.holds Try.pinned (OpenSpec.ofChange edwAddsSpec)

/-- ITS FALSE NEIGHBOUR: 'it returns false'. Refute it at one input. -/
def edwAddsWrong : ChangeSpec := { name := "edwAdds", fn := fun _ => fun
  | [d] => { results := [.lit (.bool false)], args := [d] }
  | _ => none }
def EdwAddsWrongFalsely : Prop := edwAddsRow.holds Try.pinned (OpenSpec.ofChange edwAddsWrong)

/-- 'notarylaw7.EdpackPacks': WHATEVER THE INPUT: true; the input reads as it did. -/
def edpackPacksSpec : ChangeSpec := { name := "edpackPacks", fn := fun _ => fun
  | [d] => { results := [.lit (.bool true)], args := [d] }
  | _ => none }
def edpackPacksRow : OpenClaim := { program := "ytpnappendjomoaa", sum := "843e4fd3d38fee1f7cf176a9784ca97a61910f5a26a6fc7aeac908a349a87fa4", func := "notary/notarylaw7.EdpackPacks", spec := "edpackPacks", apart := false }
def EdpackPacksSaid : Prop := edpackPacksRow.holds Try.pinned (OpenSpec.ofChange edpackPacksSpec)

/-- ITS FALSE NEIGHBOUR: 'it returns false'. Refute it at one input. -/
def edpackPacksWrong : ChangeSpec := { name := "edpackPacks", fn := fun _ => fun
  | [d] => { results := [.lit (.bool false)], args := [d] }
  | _ => none }
def EdpackPacksWrongFalsely : Prop := edpackPacksRow.holds Try.pinned (OpenSpec.ofChange edpackPacksWrong)

/-- 'notarylaw7.EdpackBack': WHATEVER THE INPUT: true; the input reads as it did. -/
def edpackBackSpec : ChangeSpec := { name := "edpackBack", fn := fun _ => fun
  | [d] => { results := [.lit (.bool true)], args := [d] }
  | _ => none }
def edpackBackRow : OpenClaim := { program := "ytpnappendjomoaa", sum := "843e4fd3d38fee1f7cf176a9784ca97a61910f5a26a6fc7aeac908a349a87fa4", func := "notary/notarylaw7.EdpackBack", spec := "edpackBack", apart := false }
def EdpackBackSaid : Prop := edpackBackRow.holds Try.pinned (OpenSpec.ofChange edpackBackSpec)

/-- ITS FALSE NEIGHBOUR: 'it returns false'. Refute it at one input. -/
def edpackBackWrong : ChangeSpec := { name := "edpackBack", fn := fun _ => fun
  | [d] => { results := [.lit (.bool false)], args := [d] }
  | _ => none }
def EdpackBackWrongFalsely : Prop := edpackBackRow.holds Try.pinned (OpenSpec.ofChange edpackBackWrong)

/- THE SECOND FORM. 'bulk': how many values and letters a reading holds, each counted each time it is reached (what is shared counts as often as it is met; a slice's spare places count too). A statement '..UptoSaid' is the law's where the arguments, and the package variables that the reading takes, are together of bulk at most 1048576: NARROWER than '..Said'. Prove '..Said' where nothing that the law and all that it calls make is longer than what came in: it says more and counts as full. Else prove '..UptoSaid'. A law counts once. -/
mutual
def uptoBulk {H : Type} : DataW H → Nat
  | .lit (.string bytes) => bytes.length + 1
  | .lit _ => 1
  | .nil => 1
  | .ptr d => uptoBulk d + 1
  | .slice elems spare => uptoBulkAll elems + uptoBulkAll spare + 1
  | .agg parts => uptoBulkAll parts + 1
  | .iface _ d => uptoBulk d + 1
  | .map entries => uptoBulkEntries entries + 1
  | .held _ => 1
def uptoBulkAll {H : Type} : List (DataW H) → Nat
  | [] => 0
  | d :: r => uptoBulk d + uptoBulkAll r
def uptoBulkEntries {H : Type} : List (Lit × DataW H) → Nat
  | [] => 0
  | x :: r => uptoBulkEntry x + uptoBulkEntries r
def uptoBulkEntry {H : Type} : Lit × DataW H → Nat
  | (.string bytes, d) => bytes.length + uptoBulk d + 1
  | (_, d) => uptoBulk d + 1
 end
def uptoSmall : (H : Type) → List (DataW H) → Bool := fun _ ds => decide (uptoBulkAll ds ≤ 1048576)
def OpenSpec.upto (s : _root_.Go.ChangeSpec) : _root_.Go.OpenSpec := { _root_.Go.OpenSpec.ofChange s with cond := some uptoSmall }

/-- 'notarylaw5.RootRoots', WHERE WHAT IT READS IS OF BULK AT MOST 1048576: true; the input reads as it did. -/
def rootRootsUptoRow : OpenClaim := { program := "ytpnappendjomoaa", sum := "843e4fd3d38fee1f7cf176a9784ca97a61910f5a26a6fc7aeac908a349a87fa4", func := "notary/notarylaw5.RootRoots", spec := "rootRoots", apart := false, narrowed := true }
def RootRootsUptoSaid : Prop := rootRootsUptoRow.holds Try.pinned (OpenSpec.upto rootRootsSpec)

/-- 'notarylaw5.RootEd', WHERE WHAT IT READS IS OF BULK AT MOST 1048576: true; the input reads as it did. -/
def rootEdUptoRow : OpenClaim := { program := "ytpnappendjomoaa", sum := "843e4fd3d38fee1f7cf176a9784ca97a61910f5a26a6fc7aeac908a349a87fa4", func := "notary/notarylaw5.RootEd", spec := "rootEd", apart := false, narrowed := true }
def RootEdUptoSaid : Prop := rootEdUptoRow.holds Try.pinned (OpenSpec.upto rootEdSpec)

/-- 'notarylaw5.RootP', WHERE WHAT IT READS IS OF BULK AT MOST 1048576: true; the input reads as it did. -/
def rootPUptoRow : OpenClaim := { program := "ytpnappendjomoaa", sum := "843e4fd3d38fee1f7cf176a9784ca97a61910f5a26a6fc7aeac908a349a87fa4", func := "notary/notarylaw5.RootP", spec := "rootP", apart := false, narrowed := true }
def RootPUptoSaid : Prop := rootPUptoRow.holds Try.pinned (OpenSpec.upto rootPSpec)

/-- 'notarylaw6.EdwTimes', WHERE WHAT IT READS IS OF BULK AT MOST 1048576: true; the input reads as it did. -/
def edwTimesUptoRow : OpenClaim := { program := "ytpnappendjomoaa", sum := "843e4fd3d38fee1f7cf176a9784ca97a61910f5a26a6fc7aeac908a349a87fa4", func := "notary/notarylaw6.EdwTimes", spec := "edwTimes", apart := false, narrowed := true }
def EdwTimesUptoSaid : Prop := edwTimesUptoRow.holds Try.pinned (OpenSpec.upto edwTimesSpec)

/-- 'notarylaw6.EdwNumbers', WHERE WHAT IT READS IS OF BULK AT MOST 1048576: true; the input reads as it did. -/
def edwNumbersUptoRow : OpenClaim := { program := "ytpnappendjomoaa", sum := "843e4fd3d38fee1f7cf176a9784ca97a61910f5a26a6fc7aeac908a349a87fa4", func := "notary/notarylaw6.EdwNumbers", spec := "edwNumbers", apart := false, narrowed := true }
def EdwNumbersUptoSaid : Prop := edwNumbersUptoRow.holds Try.pinned (OpenSpec.upto edwNumbersSpec)

/-- 'notarylaw6.EdwSmall', WHERE WHAT IT READS IS OF BULK AT MOST 1048576: true; the input reads as it did. -/
def edwSmallUptoRow : OpenClaim := { program := "ytpnappendjomoaa", sum := "843e4fd3d38fee1f7cf176a9784ca97a61910f5a26a6fc7aeac908a349a87fa4", func := "notary/notarylaw6.EdwSmall", spec := "edwSmall", apart := false, narrowed := true }
def EdwSmallUptoSaid : Prop := edwSmallUptoRow.holds Try.pinned (OpenSpec.upto edwSmallSpec)

/-- 'notarylaw6.EdwBoths', WHERE WHAT IT READS IS OF BULK AT MOST 1048576: true; the input reads as it did. -/
def edwBothsUptoRow : OpenClaim := { program := "ytpnappendjomoaa", sum := "843e4fd3d38fee1f7cf176a9784ca97a61910f5a26a6fc7aeac908a349a87fa4", func := "notary/notarylaw6.EdwBoths", spec := "edwBoths", apart := false, narrowed := true }
def EdwBothsUptoSaid : Prop := edwBothsUptoRow.holds Try.pinned (OpenSpec.upto edwBothsSpec)

/-- 'notarylaw6.EdwGroup', WHERE WHAT IT READS IS OF BULK AT MOST 1048576: true; the input reads as it did. -/
def edwGroupUptoRow : OpenClaim := { program := "ytpnappendjomoaa", sum := "843e4fd3d38fee1f7cf176a9784ca97a61910f5a26a6fc7aeac908a349a87fa4", func := "notary/notarylaw6.EdwGroup", spec := "edwGroup", apart := false, narrowed := true }
def EdwGroupUptoSaid : Prop := edwGroupUptoRow.holds Try.pinned (OpenSpec.upto edwGroupSpec)

/-- 'notarylaw6.EdwWrongs', WHERE WHAT IT READS IS OF BULK AT MOST 1048576: true; the input reads as it did. -/
def edwWrongsUptoRow : OpenClaim := { program := "ytpnappendjomoaa", sum := "843e4fd3d38fee1f7cf176a9784ca97a61910f5a26a6fc7aeac908a349a87fa4", func := "notary/notarylaw6.EdwWrongs", spec := "edwWrongs", apart := false, narrowed := true }
def EdwWrongsUptoSaid : Prop := edwWrongsUptoRow.holds Try.pinned (OpenSpec.upto edwWrongsSpec)

/-- 'notarylaw6.EdwAdds', WHERE WHAT IT READS IS OF BULK AT MOST 1048576: true; the input reads as it did. -/
def edwAddsUptoRow : OpenClaim := { program := "ytpnappendjomoaa", sum := "843e4fd3d38fee1f7cf176a9784ca97a61910f5a26a6fc7aeac908a349a87fa4", func := "notary/notarylaw6.EdwAdds", spec := "edwAdds", apart := false, narrowed := true }
def EdwAddsUptoSaid : Prop := edwAddsUptoRow.holds Try.pinned (OpenSpec.upto edwAddsSpec)

/-- 'notarylaw7.EdpackPacks', WHERE WHAT IT READS IS OF BULK AT MOST 1048576: true; the input reads as it did. -/
def edpackPacksUptoRow : OpenClaim := { program := "ytpnappendjomoaa", sum := "843e4fd3d38fee1f7cf176a9784ca97a61910f5a26a6fc7aeac908a349a87fa4", func := "notary/notarylaw7.EdpackPacks", spec := "edpackPacks", apart := false, narrowed := true }
def EdpackPacksUptoSaid : Prop := edpackPacksUptoRow.holds Try.pinned (OpenSpec.upto edpackPacksSpec)

/-- 'notarylaw7.EdpackBack', WHERE WHAT IT READS IS OF BULK AT MOST 1048576: true; the input reads as it did. -/
def edpackBackUptoRow : OpenClaim := { program := "ytpnappendjomoaa", sum := "843e4fd3d38fee1f7cf176a9784ca97a61910f5a26a6fc7aeac908a349a87fa4", func := "notary/notarylaw7.EdpackBack", spec := "edpackBack", apart := false, narrowed := true }
def EdpackBackUptoSaid : Prop := edpackBackUptoRow.holds Try.pinned (OpenSpec.upto edpackBackSpec)

end Rows
end Go.Proofs.Ytpnappendjomoaa
