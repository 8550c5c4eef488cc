/-
  No cell of these rows narrows 'for every input' (looked for: loops, veiled, ifaces, maps, wideKeys, modest, calm, conditions, laid).
  DERIVED. THE GIVEN ROWS OF THIS SEAT. 10 by the template 'for every input the law returns true; each argument reads behind the call as it read before'; 0 by the template 'total and deterministic' (their statements: YtkjohncaajammaaTotals.lean).
  GIVEN WITH THE SEED: the statements are not yours to turn. If you find one false, say at which input.
  Laid BY PROGRAM, IN A SANDBOX (cutbox-rows.mjs): the forced cells as the released guide's own fill.sh prints them over the translation 7c7604e8ab98daac… (all of the seat's roots in one cut). By AI agents, Wed Nov 11 2026. No macro, syntax, notation, axiom, sorry.
-/
import Derived.Test.YtkjohncaajammaaChecked
import GoSem.Claim
import GoSem.ClaimJoined
import GoSem.ClaimMapViews
import Derived.JoinedTies
import Derived.KernelRfl
namespace Go.Proofs.Ytkjohncaajammaa
/- THE CELL 'sum', in the pinned program and in every row, IS THE sha256 OF THE DUMP (.gsa) THAT YtkjohncaajammaaProg.lean LOADS. Nothing in Lean hashes anything: it is a label: what it is worth is what the hold of that sum in a sandbox is worth. -/
noncomputable def Try.pinned : Pinned := { name := "ytkjohncaajammaa", sum := "7c7604e8ab98daac4b49a3eca62f72a9d843649771d19d8a7ed907474d77ac9b", checked := Try.checked }
namespace Rows
def none {H : Type} : Left H := { results := [], args := [] }

/-- 'notarylaw8.WeiTimes': WHATEVER THE INPUT: true; the input reads as it did. -/
def weiTimesSpec : ChangeSpec := { name := "weiTimes", fn := fun _ => fun
  | [d] => { results := [.lit (.bool true)], args := [d] }
  | _ => none }
def weiTimesRow : OpenClaim := { program := "ytkjohncaajammaa", sum := "7c7604e8ab98daac4b49a3eca62f72a9d843649771d19d8a7ed907474d77ac9b", func := "notary/notarylaw8.WeiTimes", spec := "weiTimes", apart := false }
def WeiTimesSaid : Prop := weiTimesRow.holds Try.pinned (OpenSpec.ofChange weiTimesSpec)

/-- ITS FALSE NEIGHBOUR: 'it returns false'. Refute it at one input. -/
def weiTimesWrong : ChangeSpec := { name := "weiTimes", fn := fun _ => fun
  | [d] => { results := [.lit (.bool false)], args := [d] }
  | _ => none }
def WeiTimesWrongFalsely : Prop := weiTimesRow.holds Try.pinned (OpenSpec.ofChange weiTimesWrong)

/-- 'notarylaw8.WeiNumbers': WHATEVER THE INPUT: true; the input reads as it did. -/
def weiNumbersSpec : ChangeSpec := { name := "weiNumbers", fn := fun _ => fun
  | [d] => { results := [.lit (.bool true)], args := [d] }
  | _ => none }
def weiNumbersRow : OpenClaim := { program := "ytkjohncaajammaa", sum := "7c7604e8ab98daac4b49a3eca62f72a9d843649771d19d8a7ed907474d77ac9b", func := "notary/notarylaw8.WeiNumbers", spec := "weiNumbers", apart := false }
def WeiNumbersSaid : Prop := weiNumbersRow.holds Try.pinned (OpenSpec.ofChange weiNumbersSpec)

/-- ITS FALSE NEIGHBOUR: 'it returns false'. Refute it at one input. -/
def weiNumbersWrong : ChangeSpec := { name := "weiNumbers", fn := fun _ => fun
  | [d] => { results := [.lit (.bool false)], args := [d] }
  | _ => none }
def WeiNumbersWrongFalsely : Prop := weiNumbersRow.holds Try.pinned (OpenSpec.ofChange weiNumbersWrong)

/-- 'notarylaw8.WeiSmall': WHATEVER THE INPUT: true; the input reads as it did. -/
def weiSmallSpec : ChangeSpec := { name := "weiSmall", fn := fun _ => fun
  | [d] => { results := [.lit (.bool true)], args := [d] }
  | _ => none }
def weiSmallRow : OpenClaim := { program := "ytkjohncaajammaa", sum := "7c7604e8ab98daac4b49a3eca62f72a9d843649771d19d8a7ed907474d77ac9b", func := "notary/notarylaw8.WeiSmall", spec := "weiSmall", apart := false }
def WeiSmallSaid : Prop := weiSmallRow.holds Try.pinned (OpenSpec.ofChange weiSmallSpec)

/-- ITS FALSE NEIGHBOUR: 'it returns false'. Refute it at one input. -/
def weiSmallWrong : ChangeSpec := { name := "weiSmall", fn := fun _ => fun
  | [d] => { results := [.lit (.bool false)], args := [d] }
  | _ => none }
def WeiSmallWrongFalsely : Prop := weiSmallRow.holds Try.pinned (OpenSpec.ofChange weiSmallWrong)

/-- 'notarylaw8.WeiBoths': WHATEVER THE INPUT: true; the input reads as it did. -/
def weiBothsSpec : ChangeSpec := { name := "weiBoths", fn := fun _ => fun
  | [d] => { results := [.lit (.bool true)], args := [d] }
  | _ => none }
def weiBothsRow : OpenClaim := { program := "ytkjohncaajammaa", sum := "7c7604e8ab98daac4b49a3eca62f72a9d843649771d19d8a7ed907474d77ac9b", func := "notary/notarylaw8.WeiBoths", spec := "weiBoths", apart := false }
def WeiBothsSaid : Prop := weiBothsRow.holds Try.pinned (OpenSpec.ofChange weiBothsSpec)

/-- ITS FALSE NEIGHBOUR: 'it returns false'. Refute it at one input. -/
def weiBothsWrong : ChangeSpec := { name := "weiBoths", fn := fun _ => fun
  | [d] => { results := [.lit (.bool false)], args := [d] }
  | _ => none }
def WeiBothsWrongFalsely : Prop := weiBothsRow.holds Try.pinned (OpenSpec.ofChange weiBothsWrong)

/-- 'notarylaw8.WeiWrongs': WHATEVER THE INPUT: true; the input reads as it did. -/
def weiWrongsSpec : ChangeSpec := { name := "weiWrongs", fn := fun _ => fun
  | [d] => { results := [.lit (.bool true)], args := [d] }
  | _ => none }
def weiWrongsRow : OpenClaim := { program := "ytkjohncaajammaa", sum := "7c7604e8ab98daac4b49a3eca62f72a9d843649771d19d8a7ed907474d77ac9b", func := "notary/notarylaw8.WeiWrongs", spec := "weiWrongs", apart := false }
def WeiWrongsSaid : Prop := weiWrongsRow.holds Try.pinned (OpenSpec.ofChange weiWrongsSpec)

/-- ITS FALSE NEIGHBOUR: 'it returns false'. Refute it at one input. -/
def weiWrongsWrong : ChangeSpec := { name := "weiWrongs", fn := fun _ => fun
  | [d] => { results := [.lit (.bool false)], args := [d] }
  | _ => none }
def WeiWrongsWrongFalsely : Prop := weiWrongsRow.holds Try.pinned (OpenSpec.ofChange weiWrongsWrong)

/-- 'notarylaw8.WeiGroup': WHATEVER THE INPUT: true; the input reads as it did. -/
def weiGroupSpec : ChangeSpec := { name := "weiGroup", fn := fun _ => fun
  | [d] => { results := [.lit (.bool true)], args := [d] }
  | _ => none }
def weiGroupRow : OpenClaim := { program := "ytkjohncaajammaa", sum := "7c7604e8ab98daac4b49a3eca62f72a9d843649771d19d8a7ed907474d77ac9b", func := "notary/notarylaw8.WeiGroup", spec := "weiGroup", apart := false }
def WeiGroupSaid : Prop := weiGroupRow.holds Try.pinned (OpenSpec.ofChange weiGroupSpec)

/-- ITS FALSE NEIGHBOUR: 'it returns false'. Refute it at one input. -/
def weiGroupWrong : ChangeSpec := { name := "weiGroup", fn := fun _ => fun
  | [d] => { results := [.lit (.bool false)], args := [d] }
  | _ => none }
def WeiGroupWrongFalsely : Prop := weiGroupRow.holds Try.pinned (OpenSpec.ofChange weiGroupWrong)

/-- 'notarylaw8.WeiAdds': WHATEVER THE INPUT: true; the input reads as it did. -/
def weiAddsSpec : ChangeSpec := { name := "weiAdds", fn := fun _ => fun
  | [d] => { results := [.lit (.bool true)], args := [d] }
  | _ => none }
def weiAddsRow : OpenClaim := { program := "ytkjohncaajammaa", sum := "7c7604e8ab98daac4b49a3eca62f72a9d843649771d19d8a7ed907474d77ac9b", func := "notary/notarylaw8.WeiAdds", spec := "weiAdds", apart := false }
def WeiAddsSaid : Prop := weiAddsRow.holds Try.pinned (OpenSpec.ofChange weiAddsSpec)

/-- ITS FALSE NEIGHBOUR: 'it returns false'. Refute it at one input. -/
def weiAddsWrong : ChangeSpec := { name := "weiAdds", fn := fun _ => fun
  | [d] => { results := [.lit (.bool false)], args := [d] }
  | _ => none }
def WeiAddsWrongFalsely : Prop := weiAddsRow.holds Try.pinned (OpenSpec.ofChange weiAddsWrong)

/-- 'notarylaw9.WeipackPacks': WHATEVER THE INPUT: true; the input reads as it did. -/
def weipackPacksSpec : ChangeSpec := { name := "weipackPacks", fn := fun _ => fun
  | [d] => { results := [.lit (.bool true)], args := [d] }
  | _ => none }
def weipackPacksRow : OpenClaim := { program := "ytkjohncaajammaa", sum := "7c7604e8ab98daac4b49a3eca62f72a9d843649771d19d8a7ed907474d77ac9b", func := "notary/notarylaw9.WeipackPacks", spec := "weipackPacks", apart := false }
def WeipackPacksSaid : Prop := weipackPacksRow.holds Try.pinned (OpenSpec.ofChange weipackPacksSpec)

/-- ITS FALSE NEIGHBOUR: 'it returns false'. Refute it at one input. -/
def weipackPacksWrong : ChangeSpec := { name := "weipackPacks", fn := fun _ => fun
  | [d] => { results := [.lit (.bool false)], args := [d] }
  | _ => none }
def WeipackPacksWrongFalsely : Prop := weipackPacksRow.holds Try.pinned (OpenSpec.ofChange weipackPacksWrong)

/-- 'notarylaw9.WeipackBack': WHATEVER THE INPUT: true; the input reads as it did. -/
def weipackBackSpec : ChangeSpec := { name := "weipackBack", fn := fun _ => fun
  | [d] => { results := [.lit (.bool true)], args := [d] }
  | _ => none }
def weipackBackRow : OpenClaim := { program := "ytkjohncaajammaa", sum := "7c7604e8ab98daac4b49a3eca62f72a9d843649771d19d8a7ed907474d77ac9b", func := "notary/notarylaw9.WeipackBack", spec := "weipackBack", apart := false }
def WeipackBackSaid : Prop := weipackBackRow.holds Try.pinned (OpenSpec.ofChange weipackBackSpec)

/-- ITS FALSE NEIGHBOUR: 'it returns false'. Refute it at one input. -/
def weipackBackWrong : ChangeSpec := { name := "weipackBack", fn := fun _ => fun
  | [d] => { results := [.lit (.bool false)], args := [d] }
  | _ => none }
def WeipackBackWrongFalsely : Prop := weipackBackRow.holds Try.pinned (OpenSpec.ofChange weipackBackWrong)

/-- 'notarylaw19.EcsigBounds': WHATEVER THE INPUT: true; the input reads as it did. -/
def ecsigBoundsSpec : ChangeSpec := { name := "ecsigBounds", fn := fun _ => fun
  | [d] => { results := [.lit (.bool true)], args := [d] }
  | _ => none }
def ecsigBoundsRow : OpenClaim := { program := "ytkjohncaajammaa", sum := "7c7604e8ab98daac4b49a3eca62f72a9d843649771d19d8a7ed907474d77ac9b", func := "notary/notarylaw19.EcsigBounds", spec := "ecsigBounds", unfollowed := true, recurses := true, apart := false }
def EcsigBoundsSaid : Prop := ecsigBoundsRow.holds Try.pinned (OpenSpec.ofChange ecsigBoundsSpec)

/-- ITS FALSE NEIGHBOUR: 'it returns false'. Refute it at one input. -/
def ecsigBoundsWrong : ChangeSpec := { name := "ecsigBounds", fn := fun _ => fun
  | [d] => { results := [.lit (.bool false)], args := [d] }
  | _ => none }
def EcsigBoundsWrongFalsely : Prop := ecsigBoundsRow.holds Try.pinned (OpenSpec.ofChange ecsigBoundsWrong)

/- THE SECOND FORM. 'bulk': how many values and letters a reading holds, each counted each time it is reached (what is shared counts as often as it is met; a slice's spare places count too). A statement '..UptoSaid' is the law's where the arguments, and the package variables that the reading takes, are together of bulk at most 1048576: NARROWER than '..Said'. Prove '..Said' where nothing that the law and all that it calls make is longer than what came in: it says more and counts as full. Else prove '..UptoSaid'. A law counts once. -/
mutual
def uptoBulk {H : Type} : DataW H → Nat
  | .lit (.string bytes) => bytes.length + 1
  | .lit _ => 1
  | .nil => 1
  | .ptr d => uptoBulk d + 1
  | .slice elems spare => uptoBulkAll elems + uptoBulkAll spare + 1
  | .agg parts => uptoBulkAll parts + 1
  | .iface _ d => uptoBulk d + 1
  | .map entries => uptoBulkEntries entries + 1
  | .held _ => 1
def uptoBulkAll {H : Type} : List (DataW H) → Nat
  | [] => 0
  | d :: r => uptoBulk d + uptoBulkAll r
def uptoBulkEntries {H : Type} : List (Lit × DataW H) → Nat
  | [] => 0
  | x :: r => uptoBulkEntry x + uptoBulkEntries r
def uptoBulkEntry {H : Type} : Lit × DataW H → Nat
  | (.string bytes, d) => bytes.length + uptoBulk d + 1
  | (_, d) => uptoBulk d + 1
 end
def uptoSmall : (H : Type) → List (DataW H) → Bool := fun _ ds => decide (uptoBulkAll ds ≤ 1048576)
def OpenSpec.upto (s : _root_.Go.ChangeSpec) : _root_.Go.OpenSpec := { _root_.Go.OpenSpec.ofChange s with cond := some uptoSmall }

/-- 'notarylaw8.WeiTimes', WHERE WHAT IT READS IS OF BULK AT MOST 1048576: true; the input reads as it did. -/
def weiTimesUptoRow : OpenClaim := { program := "ytkjohncaajammaa", sum := "7c7604e8ab98daac4b49a3eca62f72a9d843649771d19d8a7ed907474d77ac9b", func := "notary/notarylaw8.WeiTimes", spec := "weiTimes", apart := false, narrowed := true }
def WeiTimesUptoSaid : Prop := weiTimesUptoRow.holds Try.pinned (OpenSpec.upto weiTimesSpec)

/-- 'notarylaw8.WeiNumbers', WHERE WHAT IT READS IS OF BULK AT MOST 1048576: true; the input reads as it did. -/
def weiNumbersUptoRow : OpenClaim := { program := "ytkjohncaajammaa", sum := "7c7604e8ab98daac4b49a3eca62f72a9d843649771d19d8a7ed907474d77ac9b", func := "notary/notarylaw8.WeiNumbers", spec := "weiNumbers", apart := false, narrowed := true }
def WeiNumbersUptoSaid : Prop := weiNumbersUptoRow.holds Try.pinned (OpenSpec.upto weiNumbersSpec)

/-- 'notarylaw8.WeiSmall', WHERE WHAT IT READS IS OF BULK AT MOST 1048576: true; the input reads as it did. -/
def weiSmallUptoRow : OpenClaim := { program := "ytkjohncaajammaa", sum := "7c7604e8ab98daac4b49a3eca62f72a9d843649771d19d8a7ed907474d77ac9b", func := "notary/notarylaw8.WeiSmall", spec := "weiSmall", apart := false, narrowed := true }
def WeiSmallUptoSaid : Prop := weiSmallUptoRow.holds Try.pinned (OpenSpec.upto weiSmallSpec)

/-- 'notarylaw8.WeiBoths', WHERE WHAT IT READS IS OF BULK AT MOST 1048576: true; the input reads as it did. -/
def weiBothsUptoRow : OpenClaim := { program := "ytkjohncaajammaa", sum := "7c7604e8ab98daac4b49a3eca62f72a9d843649771d19d8a7ed907474d77ac9b", func := "notary/notarylaw8.WeiBoths", spec := "weiBoths", apart := false, narrowed := true }
def WeiBothsUptoSaid : Prop := weiBothsUptoRow.holds Try.pinned (OpenSpec.upto weiBothsSpec)

/-- 'notarylaw8.WeiWrongs', WHERE WHAT IT READS IS OF BULK AT MOST 1048576: true; the input reads as it did. -/
def weiWrongsUptoRow : OpenClaim := { program := "ytkjohncaajammaa", sum := "7c7604e8ab98daac4b49a3eca62f72a9d843649771d19d8a7ed907474d77ac9b", func := "notary/notarylaw8.WeiWrongs", spec := "weiWrongs", apart := false, narrowed := true }
def WeiWrongsUptoSaid : Prop := weiWrongsUptoRow.holds Try.pinned (OpenSpec.upto weiWrongsSpec)

/-- 'notarylaw8.WeiGroup', WHERE WHAT IT READS IS OF BULK AT MOST 1048576: true; the input reads as it did. -/
def weiGroupUptoRow : OpenClaim := { program := "ytkjohncaajammaa", sum := "7c7604e8ab98daac4b49a3eca62f72a9d843649771d19d8a7ed907474d77ac9b", func := "notary/notarylaw8.WeiGroup", spec := "weiGroup", apart := false, narrowed := true }
def WeiGroupUptoSaid : Prop := weiGroupUptoRow.holds Try.pinned (OpenSpec.upto weiGroupSpec)

/-- 'notarylaw8.WeiAdds', WHERE WHAT IT READS IS OF BULK AT MOST 1048576: true; the input reads as it did. -/
def weiAddsUptoRow : OpenClaim := { program := "ytkjohncaajammaa", sum := "7c7604e8ab98daac4b49a3eca62f72a9d843649771d19d8a7ed907474d77ac9b", func := "notary/notarylaw8.WeiAdds", spec := "weiAdds", apart := false, narrowed := true }
def WeiAddsUptoSaid : Prop := weiAddsUptoRow.holds Try.pinned (OpenSpec.upto weiAddsSpec)

/-- 'notarylaw9.WeipackPacks', WHERE WHAT IT READS IS OF BULK AT MOST 1048576: true; the input reads as it did. -/
def weipackPacksUptoRow : OpenClaim := { program := "ytkjohncaajammaa", sum := "7c7604e8ab98daac4b49a3eca62f72a9d843649771d19d8a7ed907474d77ac9b", func := "notary/notarylaw9.WeipackPacks", spec := "weipackPacks", apart := false, narrowed := true }
def WeipackPacksUptoSaid : Prop := weipackPacksUptoRow.holds Try.pinned (OpenSpec.upto weipackPacksSpec)

/-- 'notarylaw9.WeipackBack', WHERE WHAT IT READS IS OF BULK AT MOST 1048576: true; the input reads as it did. -/
def weipackBackUptoRow : OpenClaim := { program := "ytkjohncaajammaa", sum := "7c7604e8ab98daac4b49a3eca62f72a9d843649771d19d8a7ed907474d77ac9b", func := "notary/notarylaw9.WeipackBack", spec := "weipackBack", apart := false, narrowed := true }
def WeipackBackUptoSaid : Prop := weipackBackUptoRow.holds Try.pinned (OpenSpec.upto weipackBackSpec)

/-- 'notarylaw19.EcsigBounds', WHERE WHAT IT READS IS OF BULK AT MOST 1048576: true; the input reads as it did. -/
def ecsigBoundsUptoRow : OpenClaim := { program := "ytkjohncaajammaa", sum := "7c7604e8ab98daac4b49a3eca62f72a9d843649771d19d8a7ed907474d77ac9b", func := "notary/notarylaw19.EcsigBounds", spec := "ecsigBounds", unfollowed := true, recurses := true, apart := false, narrowed := true }
def EcsigBoundsUptoSaid : Prop := ecsigBoundsUptoRow.holds Try.pinned (OpenSpec.upto ecsigBoundsSpec)

end Rows
end Go.Proofs.Ytkjohncaajammaa
