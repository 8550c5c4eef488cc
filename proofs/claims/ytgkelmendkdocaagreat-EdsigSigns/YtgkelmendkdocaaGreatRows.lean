/-
  No cell of these rows narrows 'for every input' (looked for: loops, veiled, ifaces, maps, wideKeys, modest, calm, conditions, laid).
  DERIVED. THE GIVEN ROWS OF THIS SEAT. 4 by the template 'for every input the law returns true; each argument reads behind the call as it read before'; 0 by the template 'total and deterministic' (their statements: YtgkelmendkdocaaGreatTotals.lean).
  GIVEN WITH THE SEED: the statements are not yours to turn. If you find one false, say at which input.
  Laid BY PROGRAM, IN A SANDBOX (cutbox-rows.mjs): the forced cells as the released guide's own fill.sh prints them over the translation 4820f643833805d7… (all of the seat's roots in one cut). By AI agents, Wed Nov 11 2026. No macro, syntax, notation, axiom, sorry.
-/
import Derived.Test.YtgkelmendkdocaaGreatChecked
import GoSem.Claim
import GoSem.ClaimJoined
import GoSem.ClaimMapViews
import Derived.JoinedTies
import Derived.KernelRfl
namespace Go.Proofs.YtgkelmendkdocaaGreat
/- THE CELL 'sum', in the pinned program and in every row, IS THE sha256 OF THE DUMP (.gsa) THAT YtgkelmendkdocaaGreatProg.lean LOADS. Nothing in Lean hashes anything: it is a label: what it is worth is what the hold of that sum in a sandbox is worth. -/
noncomputable def Tryz.pinned : Pinned := { name := "ytgkelmendkdocaagreat", sum := "4820f643833805d7353bdd49ede10047e76d5dc5d58168b2c6b6de2dcd36f5b8", checked := Tryz.checked }
namespace Rows
def none {H : Type} : Left H := { results := [], args := [] }

/-- 'notarylaw18.EdsigSigns': WHATEVER THE INPUT: true; the input reads as it did. -/
def edsigSignsSpec : ChangeSpec := { name := "edsigSigns", fn := fun _ => fun
  | [d] => { results := [.lit (.bool true)], args := [d] }
  | _ => none }
def edsigSignsRow : OpenClaim := { program := "ytgkelmendkdocaagreat", sum := "4820f643833805d7353bdd49ede10047e76d5dc5d58168b2c6b6de2dcd36f5b8", func := "notary/notarylaw18.EdsigSigns", spec := "edsigSigns", unfollowed := true, recurses := true, apart := false }
def EdsigSignsSaid : Prop := edsigSignsRow.holds Tryz.pinned (OpenSpec.ofChange edsigSignsSpec)

/-- ITS FALSE NEIGHBOUR: 'it returns false'. Refute it at one input. -/
def edsigSignsWrong : ChangeSpec := { name := "edsigSigns", fn := fun _ => fun
  | [d] => { results := [.lit (.bool false)], args := [d] }
  | _ => none }
def EdsigSignsWrongFalsely : Prop := edsigSignsRow.holds Tryz.pinned (OpenSpec.ofChange edsigSignsWrong)

/-- 'notarylaw18.EdsigVerifies': WHATEVER THE INPUT: true; the input reads as it did. -/
def edsigVerifiesSpec : ChangeSpec := { name := "edsigVerifies", fn := fun _ => fun
  | [d] => { results := [.lit (.bool true)], args := [d] }
  | _ => none }
def edsigVerifiesRow : OpenClaim := { program := "ytgkelmendkdocaagreat", sum := "4820f643833805d7353bdd49ede10047e76d5dc5d58168b2c6b6de2dcd36f5b8", func := "notary/notarylaw18.EdsigVerifies", spec := "edsigVerifies", apart := false }
def EdsigVerifiesSaid : Prop := edsigVerifiesRow.holds Tryz.pinned (OpenSpec.ofChange edsigVerifiesSpec)

/-- ITS FALSE NEIGHBOUR: 'it returns false'. Refute it at one input. -/
def edsigVerifiesWrong : ChangeSpec := { name := "edsigVerifies", fn := fun _ => fun
  | [d] => { results := [.lit (.bool false)], args := [d] }
  | _ => none }
def EdsigVerifiesWrongFalsely : Prop := edsigVerifiesRow.holds Tryz.pinned (OpenSpec.ofChange edsigVerifiesWrong)

/-- 'notarylaw18.EdsigSmall': WHATEVER THE INPUT: true; the input reads as it did. -/
def edsigSmallSpec : ChangeSpec := { name := "edsigSmall", fn := fun _ => fun
  | [d] => { results := [.lit (.bool true)], args := [d] }
  | _ => none }
def edsigSmallRow : OpenClaim := { program := "ytgkelmendkdocaagreat", sum := "4820f643833805d7353bdd49ede10047e76d5dc5d58168b2c6b6de2dcd36f5b8", func := "notary/notarylaw18.EdsigSmall", spec := "edsigSmall", apart := false }
def EdsigSmallSaid : Prop := edsigSmallRow.holds Tryz.pinned (OpenSpec.ofChange edsigSmallSpec)

/-- ITS FALSE NEIGHBOUR: 'it returns false'. Refute it at one input. -/
def edsigSmallWrong : ChangeSpec := { name := "edsigSmall", fn := fun _ => fun
  | [d] => { results := [.lit (.bool false)], args := [d] }
  | _ => none }
def EdsigSmallWrongFalsely : Prop := edsigSmallRow.holds Tryz.pinned (OpenSpec.ofChange edsigSmallWrong)

/-- 'notarylaw18.EdsigTurned': WHATEVER THE INPUT: true; the input reads as it did. -/
def edsigTurnedSpec : ChangeSpec := { name := "edsigTurned", fn := fun _ => fun
  | [d] => { results := [.lit (.bool true)], args := [d] }
  | _ => none }
def edsigTurnedRow : OpenClaim := { program := "ytgkelmendkdocaagreat", sum := "4820f643833805d7353bdd49ede10047e76d5dc5d58168b2c6b6de2dcd36f5b8", func := "notary/notarylaw18.EdsigTurned", spec := "edsigTurned", unfollowed := true, recurses := true, apart := false }
def EdsigTurnedSaid : Prop := edsigTurnedRow.holds Tryz.pinned (OpenSpec.ofChange edsigTurnedSpec)

/-- ITS FALSE NEIGHBOUR: 'it returns false'. Refute it at one input. -/
def edsigTurnedWrong : ChangeSpec := { name := "edsigTurned", fn := fun _ => fun
  | [d] => { results := [.lit (.bool false)], args := [d] }
  | _ => none }
def EdsigTurnedWrongFalsely : Prop := edsigTurnedRow.holds Tryz.pinned (OpenSpec.ofChange edsigTurnedWrong)

/- THE SECOND FORM. 'bulk': how many values and letters a reading holds, each counted each time it is reached (what is shared counts as often as it is met; a slice's spare places count too). A statement '..UptoSaid' is the law's where the arguments, and the package variables that the reading takes, are together of bulk at most 1048576: NARROWER than '..Said'. Prove '..Said' where nothing that the law and all that it calls make is longer than what came in: it says more and counts as full. Else prove '..UptoSaid'. A law counts once. -/
mutual
def uptoBulk {H : Type} : DataW H → Nat
  | .lit (.string bytes) => bytes.length + 1
  | .lit _ => 1
  | .nil => 1
  | .ptr d => uptoBulk d + 1
  | .slice elems spare => uptoBulkAll elems + uptoBulkAll spare + 1
  | .agg parts => uptoBulkAll parts + 1
  | .iface _ d => uptoBulk d + 1
  | .map entries => uptoBulkEntries entries + 1
  | .held _ => 1
def uptoBulkAll {H : Type} : List (DataW H) → Nat
  | [] => 0
  | d :: r => uptoBulk d + uptoBulkAll r
def uptoBulkEntries {H : Type} : List (Lit × DataW H) → Nat
  | [] => 0
  | x :: r => uptoBulkEntry x + uptoBulkEntries r
def uptoBulkEntry {H : Type} : Lit × DataW H → Nat
  | (.string bytes, d) => bytes.length + uptoBulk d + 1
  | (_, d) => uptoBulk d + 1
 end
def uptoSmall : (H : Type) → List (DataW H) → Bool := fun _ ds => decide (uptoBulkAll ds ≤ 1048576)
def OpenSpec.upto (s : _root_.Go.ChangeSpec) : _root_.Go.OpenSpec := { _root_.Go.OpenSpec.ofChange s with cond := some uptoSmall }

/-- 'notarylaw18.EdsigSigns', WHERE WHAT IT READS IS OF BULK AT MOST 1048576: true; the input reads as it did. -/
def edsigSignsUptoRow : OpenClaim := { program := "ytgkelmendkdocaagreat", sum := "4820f643833805d7353bdd49ede10047e76d5dc5d58168b2c6b6de2dcd36f5b8", func := "notary/notarylaw18.EdsigSigns", spec := "edsigSigns", unfollowed := true, recurses := true, apart := false, narrowed := true }
def EdsigSignsUptoSaid : Prop := edsigSignsUptoRow.holds Tryz.pinned (OpenSpec.upto edsigSignsSpec)

/-- 'notarylaw18.EdsigVerifies', WHERE WHAT IT READS IS OF BULK AT MOST 1048576: true; the input reads as it did. -/
def edsigVerifiesUptoRow : OpenClaim := { program := "ytgkelmendkdocaagreat", sum := "4820f643833805d7353bdd49ede10047e76d5dc5d58168b2c6b6de2dcd36f5b8", func := "notary/notarylaw18.EdsigVerifies", spec := "edsigVerifies", apart := false, narrowed := true }
def EdsigVerifiesUptoSaid : Prop := edsigVerifiesUptoRow.holds Tryz.pinned (OpenSpec.upto edsigVerifiesSpec)

/-- 'notarylaw18.EdsigSmall', WHERE WHAT IT READS IS OF BULK AT MOST 1048576: true; the input reads as it did. -/
def edsigSmallUptoRow : OpenClaim := { program := "ytgkelmendkdocaagreat", sum := "4820f643833805d7353bdd49ede10047e76d5dc5d58168b2c6b6de2dcd36f5b8", func := "notary/notarylaw18.EdsigSmall", spec := "edsigSmall", apart := false, narrowed := true }
def EdsigSmallUptoSaid : Prop := edsigSmallUptoRow.holds Tryz.pinned (OpenSpec.upto edsigSmallSpec)

/-- 'notarylaw18.EdsigTurned', WHERE WHAT IT READS IS OF BULK AT MOST 1048576: true; the input reads as it did. -/
def edsigTurnedUptoRow : OpenClaim := { program := "ytgkelmendkdocaagreat", sum := "4820f643833805d7353bdd49ede10047e76d5dc5d58168b2c6b6de2dcd36f5b8", func := "notary/notarylaw18.EdsigTurned", spec := "edsigTurned", unfollowed := true, recurses := true, apart := false, narrowed := true }
def EdsigTurnedUptoSaid : Prop := edsigTurnedUptoRow.holds Tryz.pinned (OpenSpec.upto edsigTurnedSpec)

end Rows
end Go.Proofs.YtgkelmendkdocaaGreat
