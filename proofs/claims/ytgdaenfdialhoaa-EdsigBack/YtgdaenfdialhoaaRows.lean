/-
  No cell of these rows narrows 'for every input' (looked for: loops, veiled, ifaces, maps, wideKeys, modest, calm, conditions, laid).
  DERIVED. THE GIVEN ROWS OF THIS SEAT. 7 by the template 'for every input the law returns true; each argument reads behind the call as it read before'; 0 by the template 'total and deterministic' (their statements: YtgdaenfdialhoaaTotals.lean).
  GIVEN WITH THE SEED: the statements are not yours to turn. If you find one false, say at which input.
  Laid BY PROGRAM, IN A SANDBOX (cutbox-rows.mjs): the forced cells as the released guide's own fill.sh prints them over the translation b632f3181df0af6f… (all of the seat's roots in one cut). By AI agents, Wed Nov 11 2026. No macro, syntax, notation, axiom, sorry.
-/
import Derived.Test.YtgdaenfdialhoaaChecked
import GoSem.Claim
import GoSem.ClaimJoined
import GoSem.ClaimMapViews
import Derived.JoinedTies
import Derived.KernelRfl
namespace Go.Proofs.Ytgdaenfdialhoaa
/- THE CELL 'sum', in the pinned program and in every row, IS THE sha256 OF THE DUMP (.gsa) THAT YtgdaenfdialhoaaProg.lean LOADS. Nothing in Lean hashes anything: it is a label: what it is worth is what the hold of that sum in a sandbox is worth. -/
noncomputable def Try.pinned : Pinned := { name := "ytgdaenfdialhoaa", sum := "b632f3181df0af6f0c3d7340f48a8a6a1c58c935b28003a281578b9a39377222", checked := Try.checked }
namespace Rows
def none {H : Type} : Left H := { results := [], args := [] }

/-- 'notarylaw5.RootRoots': WHATEVER THE INPUT: true; the input reads as it did. -/
def rootRootsSpec : ChangeSpec := { name := "rootRoots", fn := fun _ => fun
  | [d] => { results := [.lit (.bool true)], args := [d] }
  | _ => none }
def rootRootsRow : OpenClaim := { program := "ytgdaenfdialhoaa", sum := "b632f3181df0af6f0c3d7340f48a8a6a1c58c935b28003a281578b9a39377222", func := "notary/notarylaw5.RootRoots", spec := "rootRoots", apart := false }
def RootRootsSaid : Prop := rootRootsRow.holds Try.pinned (OpenSpec.ofChange rootRootsSpec)

/-- ITS FALSE NEIGHBOUR: 'it returns false'. Refute it at one input. -/
def rootRootsWrong : ChangeSpec := { name := "rootRoots", fn := fun _ => fun
  | [d] => { results := [.lit (.bool false)], args := [d] }
  | _ => none }
def RootRootsWrongFalsely : Prop := rootRootsRow.holds Try.pinned (OpenSpec.ofChange rootRootsWrong)

/-- 'notarylaw6.EdwTimes': WHATEVER THE INPUT: true; the input reads as it did. -/
def edwTimesSpec : ChangeSpec := { name := "edwTimes", fn := fun _ => fun
  | [d] => { results := [.lit (.bool true)], args := [d] }
  | _ => none }
def edwTimesRow : OpenClaim := { program := "ytgdaenfdialhoaa", sum := "b632f3181df0af6f0c3d7340f48a8a6a1c58c935b28003a281578b9a39377222", func := "notary/notarylaw6.EdwTimes", spec := "edwTimes", apart := false }
def EdwTimesSaid : Prop := edwTimesRow.holds Try.pinned (OpenSpec.ofChange edwTimesSpec)

/-- ITS FALSE NEIGHBOUR: 'it returns false'. Refute it at one input. -/
def edwTimesWrong : ChangeSpec := { name := "edwTimes", fn := fun _ => fun
  | [d] => { results := [.lit (.bool false)], args := [d] }
  | _ => none }
def EdwTimesWrongFalsely : Prop := edwTimesRow.holds Try.pinned (OpenSpec.ofChange edwTimesWrong)

/-- 'notarylaw6.EdwAdds': WHATEVER THE INPUT: true; the input reads as it did. -/
def edwAddsSpec : ChangeSpec := { name := "edwAdds", fn := fun _ => fun
  | [d] => { results := [.lit (.bool true)], args := [d] }
  | _ => none }
def edwAddsRow : OpenClaim := { program := "ytgdaenfdialhoaa", sum := "b632f3181df0af6f0c3d7340f48a8a6a1c58c935b28003a281578b9a39377222", func := "notary/notarylaw6.EdwAdds", spec := "edwAdds", apart := false }
def EdwAddsSaid : Prop := edwAddsRow.holds Try.pinned (OpenSpec.ofChange edwAddsSpec)

/-- ITS FALSE NEIGHBOUR: 'it returns false'. Refute it at one input. -/
def edwAddsWrong : ChangeSpec := { name := "edwAdds", fn := fun _ => fun
  | [d] => { results := [.lit (.bool false)], args := [d] }
  | _ => none }
def EdwAddsWrongFalsely : Prop := edwAddsRow.holds Try.pinned (OpenSpec.ofChange edwAddsWrong)

/-- 'notarylaw7.EdpackPacks': WHATEVER THE INPUT: true; the input reads as it did. -/
def edpackPacksSpec : ChangeSpec := { name := "edpackPacks", fn := fun _ => fun
  | [d] => { results := [.lit (.bool true)], args := [d] }
  | _ => none }
def edpackPacksRow : OpenClaim := { program := "ytgdaenfdialhoaa", sum := "b632f3181df0af6f0c3d7340f48a8a6a1c58c935b28003a281578b9a39377222", func := "notary/notarylaw7.EdpackPacks", spec := "edpackPacks", apart := false }
def EdpackPacksSaid : Prop := edpackPacksRow.holds Try.pinned (OpenSpec.ofChange edpackPacksSpec)

/-- ITS FALSE NEIGHBOUR: 'it returns false'. Refute it at one input. -/
def edpackPacksWrong : ChangeSpec := { name := "edpackPacks", fn := fun _ => fun
  | [d] => { results := [.lit (.bool false)], args := [d] }
  | _ => none }
def EdpackPacksWrongFalsely : Prop := edpackPacksRow.holds Try.pinned (OpenSpec.ofChange edpackPacksWrong)

/-- 'notarylaw7.EdpackBack': WHATEVER THE INPUT: true; the input reads as it did. -/
def edpackBackSpec : ChangeSpec := { name := "edpackBack", fn := fun _ => fun
  | [d] => { results := [.lit (.bool true)], args := [d] }
  | _ => none }
def edpackBackRow : OpenClaim := { program := "ytgdaenfdialhoaa", sum := "b632f3181df0af6f0c3d7340f48a8a6a1c58c935b28003a281578b9a39377222", func := "notary/notarylaw7.EdpackBack", spec := "edpackBack", apart := false }
def EdpackBackSaid : Prop := edpackBackRow.holds Try.pinned (OpenSpec.ofChange edpackBackSpec)

/-- ITS FALSE NEIGHBOUR: 'it returns false'. Refute it at one input. -/
def edpackBackWrong : ChangeSpec := { name := "edpackBack", fn := fun _ => fun
  | [d] => { results := [.lit (.bool false)], args := [d] }
  | _ => none }
def EdpackBackWrongFalsely : Prop := edpackBackRow.holds Try.pinned (OpenSpec.ofChange edpackBackWrong)

/-- 'notarylaw18.EdsigExpands': WHATEVER THE INPUT: true; the input reads as it did. -/
def edsigExpandsSpec : ChangeSpec := { name := "edsigExpands", fn := fun _ => fun
  | [d] => { results := [.lit (.bool true)], args := [d] }
  | _ => none }
def edsigExpandsRow : OpenClaim := { program := "ytgdaenfdialhoaa", sum := "b632f3181df0af6f0c3d7340f48a8a6a1c58c935b28003a281578b9a39377222", func := "notary/notarylaw18.EdsigExpands", spec := "edsigExpands", apart := false }
def EdsigExpandsSaid : Prop := edsigExpandsRow.holds Try.pinned (OpenSpec.ofChange edsigExpandsSpec)

/-- ITS FALSE NEIGHBOUR: 'it returns false'. Refute it at one input. -/
def edsigExpandsWrong : ChangeSpec := { name := "edsigExpands", fn := fun _ => fun
  | [d] => { results := [.lit (.bool false)], args := [d] }
  | _ => none }
def EdsigExpandsWrongFalsely : Prop := edsigExpandsRow.holds Try.pinned (OpenSpec.ofChange edsigExpandsWrong)

/-- 'notarylaw18.EdsigBack': WHATEVER THE INPUT: true; the input reads as it did. -/
def edsigBackSpec : ChangeSpec := { name := "edsigBack", fn := fun _ => fun
  | [d] => { results := [.lit (.bool true)], args := [d] }
  | _ => none }
def edsigBackRow : OpenClaim := { program := "ytgdaenfdialhoaa", sum := "b632f3181df0af6f0c3d7340f48a8a6a1c58c935b28003a281578b9a39377222", func := "notary/notarylaw18.EdsigBack", spec := "edsigBack", unfollowed := true, recurses := true, apart := false }
def EdsigBackSaid : Prop := edsigBackRow.holds Try.pinned (OpenSpec.ofChange edsigBackSpec)

/-- ITS FALSE NEIGHBOUR: 'it returns false'. Refute it at one input. -/
def edsigBackWrong : ChangeSpec := { name := "edsigBack", fn := fun _ => fun
  | [d] => { results := [.lit (.bool false)], args := [d] }
  | _ => none }
def EdsigBackWrongFalsely : Prop := edsigBackRow.holds Try.pinned (OpenSpec.ofChange edsigBackWrong)

/- THE SECOND FORM. 'bulk': how many values and letters a reading holds, each counted each time it is reached (what is shared counts as often as it is met; a slice's spare places count too). A statement '..UptoSaid' is the law's where the arguments, and the package variables that the reading takes, are together of bulk at most 1048576: NARROWER than '..Said'. Prove '..Said' where nothing that the law and all that it calls make is longer than what came in: it says more and counts as full. Else prove '..UptoSaid'. A law counts once. -/
mutual
def uptoBulk {H : Type} : DataW H → Nat
  | .lit (.string bytes) => bytes.length + 1
  | .lit _ => 1
  | .nil => 1
  | .ptr d => uptoBulk d + 1
  | .slice elems spare => uptoBulkAll elems + uptoBulkAll spare + 1
  | .agg parts => uptoBulkAll parts + 1
  | .iface _ d => uptoBulk d + 1
  | .map entries => uptoBulkEntries entries + 1
  | .held _ => 1
def uptoBulkAll {H : Type} : List (DataW H) → Nat
  | [] => 0
  | d :: r => uptoBulk d + uptoBulkAll r
def uptoBulkEntries {H : Type} : List (Lit × DataW H) → Nat
  | [] => 0
  | x :: r => uptoBulkEntry x + uptoBulkEntries r
def uptoBulkEntry {H : Type} : Lit × DataW H → Nat
  | (.string bytes, d) => bytes.length + uptoBulk d + 1
  | (_, d) => uptoBulk d + 1
 end
def uptoSmall : (H : Type) → List (DataW H) → Bool := fun _ ds => decide (uptoBulkAll ds ≤ 1048576)
def OpenSpec.upto (s : _root_.Go.ChangeSpec) : _root_.Go.OpenSpec := { _root_.Go.OpenSpec.ofChange s with cond := some uptoSmall }

/-- 'notarylaw5.RootRoots', WHERE WHAT IT READS IS OF BULK AT MOST 1048576: true; the input reads as it did. -/
def rootRootsUptoRow : OpenClaim := { program := "ytgdaenfdialhoaa", sum := "b632f3181df0af6f0c3d7340f48a8a6a1c58c935b28003a281578b9a39377222", func := "notary/notarylaw5.RootRoots", spec := "rootRoots", apart := false, narrowed := true }
def RootRootsUptoSaid : Prop := rootRootsUptoRow.holds Try.pinned (OpenSpec.upto rootRootsSpec)

/-- 'notarylaw6.EdwTimes', WHERE WHAT IT READS IS OF BULK AT MOST 1048576: true; the input reads as it did. -/
def edwTimesUptoRow : OpenClaim := { program := "ytgdaenfdialhoaa", sum := "b632f3181df0af6f0c3d7340f48a8a6a1c58c935b28003a281578b9a39377222", func := "notary/notarylaw6.EdwTimes", spec := "edwTimes", apart := false, narrowed := true }
def EdwTimesUptoSaid : Prop := edwTimesUptoRow.holds Try.pinned (OpenSpec.upto edwTimesSpec)

/-- 'notarylaw6.EdwAdds', WHERE WHAT IT READS IS OF BULK AT MOST 1048576: true; the input reads as it did. -/
def edwAddsUptoRow : OpenClaim := { program := "ytgdaenfdialhoaa", sum := "b632f3181df0af6f0c3d7340f48a8a6a1c58c935b28003a281578b9a39377222", func := "notary/notarylaw6.EdwAdds", spec := "edwAdds", apart := false, narrowed := true }
def EdwAddsUptoSaid : Prop := edwAddsUptoRow.holds Try.pinned (OpenSpec.upto edwAddsSpec)

/-- 'notarylaw7.EdpackPacks', WHERE WHAT IT READS IS OF BULK AT MOST 1048576: true; the input reads as it did. -/
def edpackPacksUptoRow : OpenClaim := { program := "ytgdaenfdialhoaa", sum := "b632f3181df0af6f0c3d7340f48a8a6a1c58c935b28003a281578b9a39377222", func := "notary/notarylaw7.EdpackPacks", spec := "edpackPacks", apart := false, narrowed := true }
def EdpackPacksUptoSaid : Prop := edpackPacksUptoRow.holds Try.pinned (OpenSpec.upto edpackPacksSpec)

/-- 'notarylaw7.EdpackBack', WHERE WHAT IT READS IS OF BULK AT MOST 1048576: true; the input reads as it did. -/
def edpackBackUptoRow : OpenClaim := { program := "ytgdaenfdialhoaa", sum := "b632f3181df0af6f0c3d7340f48a8a6a1c58c935b28003a281578b9a39377222", func := "notary/notarylaw7.EdpackBack", spec := "edpackBack", apart := false, narrowed := true }
def EdpackBackUptoSaid : Prop := edpackBackUptoRow.holds Try.pinned (OpenSpec.upto edpackBackSpec)

/-- 'notarylaw18.EdsigExpands', WHERE WHAT IT READS IS OF BULK AT MOST 1048576: true; the input reads as it did. -/
def edsigExpandsUptoRow : OpenClaim := { program := "ytgdaenfdialhoaa", sum := "b632f3181df0af6f0c3d7340f48a8a6a1c58c935b28003a281578b9a39377222", func := "notary/notarylaw18.EdsigExpands", spec := "edsigExpands", apart := false, narrowed := true }
def EdsigExpandsUptoSaid : Prop := edsigExpandsUptoRow.holds Try.pinned (OpenSpec.upto edsigExpandsSpec)

/-- 'notarylaw18.EdsigBack', WHERE WHAT IT READS IS OF BULK AT MOST 1048576: true; the input reads as it did. -/
def edsigBackUptoRow : OpenClaim := { program := "ytgdaenfdialhoaa", sum := "b632f3181df0af6f0c3d7340f48a8a6a1c58c935b28003a281578b9a39377222", func := "notary/notarylaw18.EdsigBack", spec := "edsigBack", unfollowed := true, recurses := true, apart := false, narrowed := true }
def EdsigBackUptoSaid : Prop := edsigBackUptoRow.holds Try.pinned (OpenSpec.upto edsigBackSpec)

end Rows
end Go.Proofs.Ytgdaenfdialhoaa
