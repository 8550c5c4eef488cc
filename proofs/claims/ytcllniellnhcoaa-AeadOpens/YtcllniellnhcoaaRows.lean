/-
  No cell of these rows narrows 'for every input' (looked for: loops, veiled, ifaces, maps, wideKeys, modest, calm, conditions, laid).
  DERIVED. THE GIVEN ROWS OF THIS SEAT. 10 by the template 'for every input the law returns true; each argument reads behind the call as it read before'; 0 by the template 'total and deterministic' (their statements: YtcllniellnhcoaaTotals.lean).
  GIVEN WITH THE SEED: the statements are not yours to turn. If you find one false, say at which input.
  Laid BY PROGRAM, IN A SANDBOX (cutbox-rows.mjs): the forced cells as the released guide's own fill.sh prints them over the translation 0b1ea2a74cfe336e… (all of the seat's roots in one cut). By AI agents, Wed Nov 11 2026. No macro, syntax, notation, axiom, sorry.
-/
import Derived.Test.YtcllniellnhcoaaChecked
import GoSem.Claim
import GoSem.ClaimJoined
import GoSem.ClaimMapViews
import Derived.JoinedTies
import Derived.KernelRfl
namespace Go.Proofs.Ytcllniellnhcoaa
/- THE CELL 'sum', in the pinned program and in every row, IS THE sha256 OF THE DUMP (.gsa) THAT YtcllniellnhcoaaProg.lean LOADS. Nothing in Lean hashes anything: it is a label: what it is worth is what the hold of that sum in a sandbox is worth. -/
noncomputable def Try.pinned : Pinned := { name := "ytcllniellnhcoaa", sum := "0b1ea2a74cfe336eca5c04cec0a8b2d90f2fb0d1e8e3de28ac30a26f1cd3a148", checked := Try.checked }
namespace Rows
def none {H : Type} : Left H := { results := [], args := [] }

/-- 'notarylaw28.TraceRises': WHATEVER THE INPUT: true; the input reads as it did. -/
def traceRisesSpec : ChangeSpec := { name := "traceRises", fn := fun _ => fun
  | [d] => { results := [.lit (.bool true)], args := [d] }
  | _ => none }
def traceRisesRow : OpenClaim := { program := "ytcllniellnhcoaa", sum := "0b1ea2a74cfe336eca5c04cec0a8b2d90f2fb0d1e8e3de28ac30a26f1cd3a148", func := "notary/notarylaw28.TraceRises", spec := "traceRises", apart := false }
def TraceRisesSaid : Prop := traceRisesRow.holds Try.pinned (OpenSpec.ofChange traceRisesSpec)

/-- ITS FALSE NEIGHBOUR: 'it returns false'. Refute it at one input. -/
def traceRisesWrong : ChangeSpec := { name := "traceRises", fn := fun _ => fun
  | [d] => { results := [.lit (.bool false)], args := [d] }
  | _ => none }
def TraceRisesWrongFalsely : Prop := traceRisesRow.holds Try.pinned (OpenSpec.ofChange traceRisesWrong)

/-- 'notarylaw28.TraceMixes': WHATEVER THE INPUT: true; the input reads as it did. -/
def traceMixesSpec : ChangeSpec := { name := "traceMixes", fn := fun _ => fun
  | [d] => { results := [.lit (.bool true)], args := [d] }
  | _ => none }
def traceMixesRow : OpenClaim := { program := "ytcllniellnhcoaa", sum := "0b1ea2a74cfe336eca5c04cec0a8b2d90f2fb0d1e8e3de28ac30a26f1cd3a148", func := "notary/notarylaw28.TraceMixes", spec := "traceMixes", apart := false }
def TraceMixesSaid : Prop := traceMixesRow.holds Try.pinned (OpenSpec.ofChange traceMixesSpec)

/-- ITS FALSE NEIGHBOUR: 'it returns false'. Refute it at one input. -/
def traceMixesWrong : ChangeSpec := { name := "traceMixes", fn := fun _ => fun
  | [d] => { results := [.lit (.bool false)], args := [d] }
  | _ => none }
def TraceMixesWrongFalsely : Prop := traceMixesRow.holds Try.pinned (OpenSpec.ofChange traceMixesWrong)

/-- 'notarylaw15.ChachaBlocks': WHATEVER THE INPUT: true; the input reads as it did. -/
def chachaBlocksSpec : ChangeSpec := { name := "chachaBlocks", fn := fun _ => fun
  | [d] => { results := [.lit (.bool true)], args := [d] }
  | _ => none }
def chachaBlocksRow : OpenClaim := { program := "ytcllniellnhcoaa", sum := "0b1ea2a74cfe336eca5c04cec0a8b2d90f2fb0d1e8e3de28ac30a26f1cd3a148", func := "notary/notarylaw15.ChachaBlocks", spec := "chachaBlocks", apart := false }
def ChachaBlocksSaid : Prop := chachaBlocksRow.holds Try.pinned (OpenSpec.ofChange chachaBlocksSpec)

/-- ITS FALSE NEIGHBOUR: 'it returns false'. Refute it at one input. -/
def chachaBlocksWrong : ChangeSpec := { name := "chachaBlocks", fn := fun _ => fun
  | [d] => { results := [.lit (.bool false)], args := [d] }
  | _ => none }
def ChachaBlocksWrongFalsely : Prop := chachaBlocksRow.holds Try.pinned (OpenSpec.ofChange chachaBlocksWrong)

/-- 'notarylaw15.ChachaQuarters': WHATEVER THE INPUT: true; the input reads as it did. -/
def chachaQuartersSpec : ChangeSpec := { name := "chachaQuarters", fn := fun _ => fun
  | [d] => { results := [.lit (.bool true)], args := [d] }
  | _ => none }
def chachaQuartersRow : OpenClaim := { program := "ytcllniellnhcoaa", sum := "0b1ea2a74cfe336eca5c04cec0a8b2d90f2fb0d1e8e3de28ac30a26f1cd3a148", func := "notary/notarylaw15.ChachaQuarters", spec := "chachaQuarters", apart := false }
def ChachaQuartersSaid : Prop := chachaQuartersRow.holds Try.pinned (OpenSpec.ofChange chachaQuartersSpec)

/-- ITS FALSE NEIGHBOUR: 'it returns false'. Refute it at one input. -/
def chachaQuartersWrong : ChangeSpec := { name := "chachaQuarters", fn := fun _ => fun
  | [d] => { results := [.lit (.bool false)], args := [d] }
  | _ => none }
def ChachaQuartersWrongFalsely : Prop := chachaQuartersRow.holds Try.pinned (OpenSpec.ofChange chachaQuartersWrong)

/-- 'notarylaw15.ChachaStreams': WHATEVER THE INPUT: true; the input reads as it did. -/
def chachaStreamsSpec : ChangeSpec := { name := "chachaStreams", fn := fun _ => fun
  | [d] => { results := [.lit (.bool true)], args := [d] }
  | _ => none }
def chachaStreamsRow : OpenClaim := { program := "ytcllniellnhcoaa", sum := "0b1ea2a74cfe336eca5c04cec0a8b2d90f2fb0d1e8e3de28ac30a26f1cd3a148", func := "notary/notarylaw15.ChachaStreams", spec := "chachaStreams", apart := false }
def ChachaStreamsSaid : Prop := chachaStreamsRow.holds Try.pinned (OpenSpec.ofChange chachaStreamsSpec)

/-- ITS FALSE NEIGHBOUR: 'it returns false'. Refute it at one input. -/
def chachaStreamsWrong : ChangeSpec := { name := "chachaStreams", fn := fun _ => fun
  | [d] => { results := [.lit (.bool false)], args := [d] }
  | _ => none }
def ChachaStreamsWrongFalsely : Prop := chachaStreamsRow.holds Try.pinned (OpenSpec.ofChange chachaStreamsWrong)

/-- 'notarylaw15.ChachaLengths': WHATEVER THE INPUT: true; the input reads as it did. -/
def chachaLengthsSpec : ChangeSpec := { name := "chachaLengths", fn := fun _ => fun
  | [d] => { results := [.lit (.bool true)], args := [d] }
  | _ => none }
def chachaLengthsRow : OpenClaim := { program := "ytcllniellnhcoaa", sum := "0b1ea2a74cfe336eca5c04cec0a8b2d90f2fb0d1e8e3de28ac30a26f1cd3a148", func := "notary/notarylaw15.ChachaLengths", spec := "chachaLengths", apart := false }
def ChachaLengthsSaid : Prop := chachaLengthsRow.holds Try.pinned (OpenSpec.ofChange chachaLengthsSpec)

/-- ITS FALSE NEIGHBOUR: 'it returns false'. Refute it at one input. -/
def chachaLengthsWrong : ChangeSpec := { name := "chachaLengths", fn := fun _ => fun
  | [d] => { results := [.lit (.bool false)], args := [d] }
  | _ => none }
def ChachaLengthsWrongFalsely : Prop := chachaLengthsRow.holds Try.pinned (OpenSpec.ofChange chachaLengthsWrong)

/-- 'notarylaw16.PolyLengths': WHATEVER THE INPUT: true; the input reads as it did. -/
def polyLengthsSpec : ChangeSpec := { name := "polyLengths", fn := fun _ => fun
  | [d] => { results := [.lit (.bool true)], args := [d] }
  | _ => none }
def polyLengthsRow : OpenClaim := { program := "ytcllniellnhcoaa", sum := "0b1ea2a74cfe336eca5c04cec0a8b2d90f2fb0d1e8e3de28ac30a26f1cd3a148", func := "notary/notarylaw16.PolyLengths", spec := "polyLengths", apart := false }
def PolyLengthsSaid : Prop := polyLengthsRow.holds Try.pinned (OpenSpec.ofChange polyLengthsSpec)

/-- ITS FALSE NEIGHBOUR: 'it returns false'. Refute it at one input. -/
def polyLengthsWrong : ChangeSpec := { name := "polyLengths", fn := fun _ => fun
  | [d] => { results := [.lit (.bool false)], args := [d] }
  | _ => none }
def PolyLengthsWrongFalsely : Prop := polyLengthsRow.holds Try.pinned (OpenSpec.ofChange polyLengthsWrong)

/-- 'notarylaw16.PolyTags': WHATEVER THE INPUT: true; the input reads as it did. -/
def polyTagsSpec : ChangeSpec := { name := "polyTags", fn := fun _ => fun
  | [d] => { results := [.lit (.bool true)], args := [d] }
  | _ => none }
def polyTagsRow : OpenClaim := { program := "ytcllniellnhcoaa", sum := "0b1ea2a74cfe336eca5c04cec0a8b2d90f2fb0d1e8e3de28ac30a26f1cd3a148", func := "notary/notarylaw16.PolyTags", spec := "polyTags", apart := false }
def PolyTagsSaid : Prop := polyTagsRow.holds Try.pinned (OpenSpec.ofChange polyTagsSpec)

/-- ITS FALSE NEIGHBOUR: 'it returns false'. Refute it at one input. -/
def polyTagsWrong : ChangeSpec := { name := "polyTags", fn := fun _ => fun
  | [d] => { results := [.lit (.bool false)], args := [d] }
  | _ => none }
def PolyTagsWrongFalsely : Prop := polyTagsRow.holds Try.pinned (OpenSpec.ofChange polyTagsWrong)

/-- 'notarylaw17.AeadSeals': WHATEVER THE INPUT: true; the input reads as it did. -/
def aeadSealsSpec : ChangeSpec := { name := "aeadSeals", fn := fun _ => fun
  | [d] => { results := [.lit (.bool true)], args := [d] }
  | _ => none }
def aeadSealsRow : OpenClaim := { program := "ytcllniellnhcoaa", sum := "0b1ea2a74cfe336eca5c04cec0a8b2d90f2fb0d1e8e3de28ac30a26f1cd3a148", func := "notary/notarylaw17.AeadSeals", spec := "aeadSeals", apart := false }
def AeadSealsSaid : Prop := aeadSealsRow.holds Try.pinned (OpenSpec.ofChange aeadSealsSpec)

/-- ITS FALSE NEIGHBOUR: 'it returns false'. Refute it at one input. -/
def aeadSealsWrong : ChangeSpec := { name := "aeadSeals", fn := fun _ => fun
  | [d] => { results := [.lit (.bool false)], args := [d] }
  | _ => none }
def AeadSealsWrongFalsely : Prop := aeadSealsRow.holds Try.pinned (OpenSpec.ofChange aeadSealsWrong)

/-- 'notarylaw17.AeadOpens': WHATEVER THE INPUT: true; the input reads as it did. -/
def aeadOpensSpec : ChangeSpec := { name := "aeadOpens", fn := fun _ => fun
  | [d] => { results := [.lit (.bool true)], args := [d] }
  | _ => none }
def aeadOpensRow : OpenClaim := { program := "ytcllniellnhcoaa", sum := "0b1ea2a74cfe336eca5c04cec0a8b2d90f2fb0d1e8e3de28ac30a26f1cd3a148", func := "notary/notarylaw17.AeadOpens", spec := "aeadOpens", apart := false }
def AeadOpensSaid : Prop := aeadOpensRow.holds Try.pinned (OpenSpec.ofChange aeadOpensSpec)

/-- ITS FALSE NEIGHBOUR: 'it returns false'. Refute it at one input. -/
def aeadOpensWrong : ChangeSpec := { name := "aeadOpens", fn := fun _ => fun
  | [d] => { results := [.lit (.bool false)], args := [d] }
  | _ => none }
def AeadOpensWrongFalsely : Prop := aeadOpensRow.holds Try.pinned (OpenSpec.ofChange aeadOpensWrong)

/- THE SECOND FORM. 'bulk': how many values and letters a reading holds, each counted each time it is reached (what is shared counts as often as it is met; a slice's spare places count too). A statement '..UptoSaid' is the law's where the arguments, and the package variables that the reading takes, are together of bulk at most 1048576: NARROWER than '..Said'. Prove '..Said' where nothing that the law and all that it calls make is longer than what came in: it says more and counts as full. Else prove '..UptoSaid'. A law counts once. -/
mutual
def uptoBulk {H : Type} : DataW H → Nat
  | .lit (.string bytes) => bytes.length + 1
  | .lit _ => 1
  | .nil => 1
  | .ptr d => uptoBulk d + 1
  | .slice elems spare => uptoBulkAll elems + uptoBulkAll spare + 1
  | .agg parts => uptoBulkAll parts + 1
  | .iface _ d => uptoBulk d + 1
  | .map entries => uptoBulkEntries entries + 1
  | .held _ => 1
def uptoBulkAll {H : Type} : List (DataW H) → Nat
  | [] => 0
  | d :: r => uptoBulk d + uptoBulkAll r
def uptoBulkEntries {H : Type} : List (Lit × DataW H) → Nat
  | [] => 0
  | x :: r => uptoBulkEntry x + uptoBulkEntries r
def uptoBulkEntry {H : Type} : Lit × DataW H → Nat
  | (.string bytes, d) => bytes.length + uptoBulk d + 1
  | (_, d) => uptoBulk d + 1
 end
def uptoSmall : (H : Type) → List (DataW H) → Bool := fun _ ds => decide (uptoBulkAll ds ≤ 1048576)
def OpenSpec.upto (s : _root_.Go.ChangeSpec) : _root_.Go.OpenSpec := { _root_.Go.OpenSpec.ofChange s with cond := some uptoSmall }

/-- 'notarylaw28.TraceRises', WHERE WHAT IT READS IS OF BULK AT MOST 1048576: true; the input reads as it did. -/
def traceRisesUptoRow : OpenClaim := { program := "ytcllniellnhcoaa", sum := "0b1ea2a74cfe336eca5c04cec0a8b2d90f2fb0d1e8e3de28ac30a26f1cd3a148", func := "notary/notarylaw28.TraceRises", spec := "traceRises", apart := false, narrowed := true }
def TraceRisesUptoSaid : Prop := traceRisesUptoRow.holds Try.pinned (OpenSpec.upto traceRisesSpec)

/-- 'notarylaw28.TraceMixes', WHERE WHAT IT READS IS OF BULK AT MOST 1048576: true; the input reads as it did. -/
def traceMixesUptoRow : OpenClaim := { program := "ytcllniellnhcoaa", sum := "0b1ea2a74cfe336eca5c04cec0a8b2d90f2fb0d1e8e3de28ac30a26f1cd3a148", func := "notary/notarylaw28.TraceMixes", spec := "traceMixes", apart := false, narrowed := true }
def TraceMixesUptoSaid : Prop := traceMixesUptoRow.holds Try.pinned (OpenSpec.upto traceMixesSpec)

/-- 'notarylaw15.ChachaBlocks', WHERE WHAT IT READS IS OF BULK AT MOST 1048576: true; the input reads as it did. -/
def chachaBlocksUptoRow : OpenClaim := { program := "ytcllniellnhcoaa", sum := "0b1ea2a74cfe336eca5c04cec0a8b2d90f2fb0d1e8e3de28ac30a26f1cd3a148", func := "notary/notarylaw15.ChachaBlocks", spec := "chachaBlocks", apart := false, narrowed := true }
def ChachaBlocksUptoSaid : Prop := chachaBlocksUptoRow.holds Try.pinned (OpenSpec.upto chachaBlocksSpec)

/-- 'notarylaw15.ChachaQuarters', WHERE WHAT IT READS IS OF BULK AT MOST 1048576: true; the input reads as it did. -/
def chachaQuartersUptoRow : OpenClaim := { program := "ytcllniellnhcoaa", sum := "0b1ea2a74cfe336eca5c04cec0a8b2d90f2fb0d1e8e3de28ac30a26f1cd3a148", func := "notary/notarylaw15.ChachaQuarters", spec := "chachaQuarters", apart := false, narrowed := true }
def ChachaQuartersUptoSaid : Prop := chachaQuartersUptoRow.holds Try.pinned (OpenSpec.upto chachaQuartersSpec)

/-- 'notarylaw15.ChachaStreams', WHERE WHAT IT READS IS OF BULK AT MOST 1048576: true; the input reads as it did. -/
def chachaStreamsUptoRow : OpenClaim := { program := "ytcllniellnhcoaa", sum := "0b1ea2a74cfe336eca5c04cec0a8b2d90f2fb0d1e8e3de28ac30a26f1cd3a148", func := "notary/notarylaw15.ChachaStreams", spec := "chachaStreams", apart := false, narrowed := true }
def ChachaStreamsUptoSaid : Prop := chachaStreamsUptoRow.holds Try.pinned (OpenSpec.upto chachaStreamsSpec)

/-- 'notarylaw15.ChachaLengths', WHERE WHAT IT READS IS OF BULK AT MOST 1048576: true; the input reads as it did. -/
def chachaLengthsUptoRow : OpenClaim := { program := "ytcllniellnhcoaa", sum := "0b1ea2a74cfe336eca5c04cec0a8b2d90f2fb0d1e8e3de28ac30a26f1cd3a148", func := "notary/notarylaw15.ChachaLengths", spec := "chachaLengths", apart := false, narrowed := true }
def ChachaLengthsUptoSaid : Prop := chachaLengthsUptoRow.holds Try.pinned (OpenSpec.upto chachaLengthsSpec)

/-- 'notarylaw16.PolyLengths', WHERE WHAT IT READS IS OF BULK AT MOST 1048576: true; the input reads as it did. -/
def polyLengthsUptoRow : OpenClaim := { program := "ytcllniellnhcoaa", sum := "0b1ea2a74cfe336eca5c04cec0a8b2d90f2fb0d1e8e3de28ac30a26f1cd3a148", func := "notary/notarylaw16.PolyLengths", spec := "polyLengths", apart := false, narrowed := true }
def PolyLengthsUptoSaid : Prop := polyLengthsUptoRow.holds Try.pinned (OpenSpec.upto polyLengthsSpec)

/-- 'notarylaw16.PolyTags', WHERE WHAT IT READS IS OF BULK AT MOST 1048576: true; the input reads as it did. -/
def polyTagsUptoRow : OpenClaim := { program := "ytcllniellnhcoaa", sum := "0b1ea2a74cfe336eca5c04cec0a8b2d90f2fb0d1e8e3de28ac30a26f1cd3a148", func := "notary/notarylaw16.PolyTags", spec := "polyTags", apart := false, narrowed := true }
def PolyTagsUptoSaid : Prop := polyTagsUptoRow.holds Try.pinned (OpenSpec.upto polyTagsSpec)

/-- 'notarylaw17.AeadSeals', WHERE WHAT IT READS IS OF BULK AT MOST 1048576: true; the input reads as it did. -/
def aeadSealsUptoRow : OpenClaim := { program := "ytcllniellnhcoaa", sum := "0b1ea2a74cfe336eca5c04cec0a8b2d90f2fb0d1e8e3de28ac30a26f1cd3a148", func := "notary/notarylaw17.AeadSeals", spec := "aeadSeals", apart := false, narrowed := true }
def AeadSealsUptoSaid : Prop := aeadSealsUptoRow.holds Try.pinned (OpenSpec.upto aeadSealsSpec)

/-- 'notarylaw17.AeadOpens', WHERE WHAT IT READS IS OF BULK AT MOST 1048576: true; the input reads as it did. -/
def aeadOpensUptoRow : OpenClaim := { program := "ytcllniellnhcoaa", sum := "0b1ea2a74cfe336eca5c04cec0a8b2d90f2fb0d1e8e3de28ac30a26f1cd3a148", func := "notary/notarylaw17.AeadOpens", spec := "aeadOpens", apart := false, narrowed := true }
def AeadOpensUptoSaid : Prop := aeadOpensUptoRow.holds Try.pinned (OpenSpec.upto aeadOpensSpec)

end Rows
end Go.Proofs.Ytcllniellnhcoaa
