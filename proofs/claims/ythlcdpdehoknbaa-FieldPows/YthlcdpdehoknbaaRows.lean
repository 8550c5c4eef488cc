/-
  No cell of these rows narrows 'for every input' (looked for: loops, veiled, ifaces, maps, wideKeys, modest, calm, conditions, laid).
  DERIVED. THE GIVEN ROWS OF THIS SEAT. 14 by the template 'for every input the law returns true; each argument reads behind the call as it read before'; 0 by the template 'total and deterministic' (their statements: YthlcdpdehoknbaaTotals.lean).
  GIVEN WITH THE SEED: the statements are not yours to turn. If you find one false, say at which input.
  Laid BY PROGRAM, IN A SANDBOX (cutbox-rows.mjs): the forced cells as the released guide's own fill.sh prints them over the translation 75ec530549f42ca5… (all of the seat's roots in one cut). By AI agents, Wed Nov 11 2026. No macro, syntax, notation, axiom, sorry.
-/
import Derived.Test.YthlcdpdehoknbaaChecked
import GoSem.Claim
import GoSem.ClaimJoined
import GoSem.ClaimMapViews
import Derived.JoinedTies
import Derived.KernelRfl
namespace Go.Proofs.Ythlcdpdehoknbaa
/- THE CELL 'sum', in the pinned program and in every row, IS THE sha256 OF THE DUMP (.gsa) THAT YthlcdpdehoknbaaProg.lean LOADS. Nothing in Lean hashes anything: it is a label: what it is worth is what the hold of that sum in a sandbox is worth. -/
noncomputable def Try.pinned : Pinned := { name := "ythlcdpdehoknbaa", sum := "75ec530549f42ca56ddb4c92c8e05e2351bb9b8aaf631b0ddcdb75486566a94e", checked := Try.checked }
namespace Rows
def none {H : Type} : Left H := { results := [], args := [] }

/-- 'notarylaw4.MultsEd': WHATEVER THE INPUT: true; the input reads as it did. -/
def multsEdSpec : ChangeSpec := { name := "multsEd", fn := fun _ => fun
  | [d] => { results := [.lit (.bool true)], args := [d] }
  | _ => none }
def multsEdRow : OpenClaim := { program := "ythlcdpdehoknbaa", sum := "75ec530549f42ca56ddb4c92c8e05e2351bb9b8aaf631b0ddcdb75486566a94e", func := "notary/notarylaw4.MultsEd", spec := "multsEd", unfollowed := true, recurses := true, apart := false }
def MultsEdSaid : Prop := multsEdRow.holds Try.pinned (OpenSpec.ofChange multsEdSpec)

/-- ITS FALSE NEIGHBOUR: 'it returns false'. Refute it at one input. -/
def multsEdWrong : ChangeSpec := { name := "multsEd", fn := fun _ => fun
  | [d] => { results := [.lit (.bool false)], args := [d] }
  | _ => none }
def MultsEdWrongFalsely : Prop := multsEdRow.holds Try.pinned (OpenSpec.ofChange multsEdWrong)

/-- 'notarylaw4.MultsP': WHATEVER THE INPUT: true; the input reads as it did. -/
def multsPSpec : ChangeSpec := { name := "multsP", fn := fun _ => fun
  | [d] => { results := [.lit (.bool true)], args := [d] }
  | _ => none }
def multsPRow : OpenClaim := { program := "ythlcdpdehoknbaa", sum := "75ec530549f42ca56ddb4c92c8e05e2351bb9b8aaf631b0ddcdb75486566a94e", func := "notary/notarylaw4.MultsP", spec := "multsP", unfollowed := true, recurses := true, apart := false }
def MultsPSaid : Prop := multsPRow.holds Try.pinned (OpenSpec.ofChange multsPSpec)

/-- ITS FALSE NEIGHBOUR: 'it returns false'. Refute it at one input. -/
def multsPWrong : ChangeSpec := { name := "multsP", fn := fun _ => fun
  | [d] => { results := [.lit (.bool false)], args := [d] }
  | _ => none }
def MultsPWrongFalsely : Prop := multsPRow.holds Try.pinned (OpenSpec.ofChange multsPWrong)

/-- 'notarylaw4.MultsL': WHATEVER THE INPUT: true; the input reads as it did. -/
def multsLSpec : ChangeSpec := { name := "multsL", fn := fun _ => fun
  | [d] => { results := [.lit (.bool true)], args := [d] }
  | _ => none }
def multsLRow : OpenClaim := { program := "ythlcdpdehoknbaa", sum := "75ec530549f42ca56ddb4c92c8e05e2351bb9b8aaf631b0ddcdb75486566a94e", func := "notary/notarylaw4.MultsL", spec := "multsL", unfollowed := true, recurses := true, apart := false }
def MultsLSaid : Prop := multsLRow.holds Try.pinned (OpenSpec.ofChange multsLSpec)

/-- ITS FALSE NEIGHBOUR: 'it returns false'. Refute it at one input. -/
def multsLWrong : ChangeSpec := { name := "multsL", fn := fun _ => fun
  | [d] => { results := [.lit (.bool false)], args := [d] }
  | _ => none }
def MultsLWrongFalsely : Prop := multsLRow.holds Try.pinned (OpenSpec.ofChange multsLWrong)

/-- 'notarylaw4.MultsN': WHATEVER THE INPUT: true; the input reads as it did. -/
def multsNSpec : ChangeSpec := { name := "multsN", fn := fun _ => fun
  | [d] => { results := [.lit (.bool true)], args := [d] }
  | _ => none }
def multsNRow : OpenClaim := { program := "ythlcdpdehoknbaa", sum := "75ec530549f42ca56ddb4c92c8e05e2351bb9b8aaf631b0ddcdb75486566a94e", func := "notary/notarylaw4.MultsN", spec := "multsN", unfollowed := true, recurses := true, apart := false }
def MultsNSaid : Prop := multsNRow.holds Try.pinned (OpenSpec.ofChange multsNSpec)

/-- ITS FALSE NEIGHBOUR: 'it returns false'. Refute it at one input. -/
def multsNWrong : ChangeSpec := { name := "multsN", fn := fun _ => fun
  | [d] => { results := [.lit (.bool false)], args := [d] }
  | _ => none }
def MultsNWrongFalsely : Prop := multsNRow.holds Try.pinned (OpenSpec.ofChange multsNWrong)

/-- 'notarylaw4.FieldAdds': WHATEVER THE INPUT: true; the input reads as it did. -/
def fieldAddsSpec : ChangeSpec := { name := "fieldAdds", fn := fun _ => fun
  | [d] => { results := [.lit (.bool true)], args := [d] }
  | _ => none }
def fieldAddsRow : OpenClaim := { program := "ythlcdpdehoknbaa", sum := "75ec530549f42ca56ddb4c92c8e05e2351bb9b8aaf631b0ddcdb75486566a94e", func := "notary/notarylaw4.FieldAdds", spec := "fieldAdds", unfollowed := true, recurses := true, apart := false }
def FieldAddsSaid : Prop := fieldAddsRow.holds Try.pinned (OpenSpec.ofChange fieldAddsSpec)

/-- ITS FALSE NEIGHBOUR: 'it returns false'. Refute it at one input. -/
def fieldAddsWrong : ChangeSpec := { name := "fieldAdds", fn := fun _ => fun
  | [d] => { results := [.lit (.bool false)], args := [d] }
  | _ => none }
def FieldAddsWrongFalsely : Prop := fieldAddsRow.holds Try.pinned (OpenSpec.ofChange fieldAddsWrong)

/-- 'notarylaw4.PowersEd': WHATEVER THE INPUT: true; the input reads as it did. -/
def powersEdSpec : ChangeSpec := { name := "powersEd", fn := fun _ => fun
  | [d] => { results := [.lit (.bool true)], args := [d] }
  | _ => none }
def powersEdRow : OpenClaim := { program := "ythlcdpdehoknbaa", sum := "75ec530549f42ca56ddb4c92c8e05e2351bb9b8aaf631b0ddcdb75486566a94e", func := "notary/notarylaw4.PowersEd", spec := "powersEd", unfollowed := true, recurses := true, apart := false }
def PowersEdSaid : Prop := powersEdRow.holds Try.pinned (OpenSpec.ofChange powersEdSpec)

/-- ITS FALSE NEIGHBOUR: 'it returns false'. Refute it at one input. -/
def powersEdWrong : ChangeSpec := { name := "powersEd", fn := fun _ => fun
  | [d] => { results := [.lit (.bool false)], args := [d] }
  | _ => none }
def PowersEdWrongFalsely : Prop := powersEdRow.holds Try.pinned (OpenSpec.ofChange powersEdWrong)

/-- 'notarylaw4.PowersP': WHATEVER THE INPUT: true; the input reads as it did. -/
def powersPSpec : ChangeSpec := { name := "powersP", fn := fun _ => fun
  | [d] => { results := [.lit (.bool true)], args := [d] }
  | _ => none }
def powersPRow : OpenClaim := { program := "ythlcdpdehoknbaa", sum := "75ec530549f42ca56ddb4c92c8e05e2351bb9b8aaf631b0ddcdb75486566a94e", func := "notary/notarylaw4.PowersP", spec := "powersP", unfollowed := true, recurses := true, apart := false }
def PowersPSaid : Prop := powersPRow.holds Try.pinned (OpenSpec.ofChange powersPSpec)

/-- ITS FALSE NEIGHBOUR: 'it returns false'. Refute it at one input. -/
def powersPWrong : ChangeSpec := { name := "powersP", fn := fun _ => fun
  | [d] => { results := [.lit (.bool false)], args := [d] }
  | _ => none }
def PowersPWrongFalsely : Prop := powersPRow.holds Try.pinned (OpenSpec.ofChange powersPWrong)

/-- 'notarylaw4.PowersL': WHATEVER THE INPUT: true; the input reads as it did. -/
def powersLSpec : ChangeSpec := { name := "powersL", fn := fun _ => fun
  | [d] => { results := [.lit (.bool true)], args := [d] }
  | _ => none }
def powersLRow : OpenClaim := { program := "ythlcdpdehoknbaa", sum := "75ec530549f42ca56ddb4c92c8e05e2351bb9b8aaf631b0ddcdb75486566a94e", func := "notary/notarylaw4.PowersL", spec := "powersL", unfollowed := true, recurses := true, apart := false }
def PowersLSaid : Prop := powersLRow.holds Try.pinned (OpenSpec.ofChange powersLSpec)

/-- ITS FALSE NEIGHBOUR: 'it returns false'. Refute it at one input. -/
def powersLWrong : ChangeSpec := { name := "powersL", fn := fun _ => fun
  | [d] => { results := [.lit (.bool false)], args := [d] }
  | _ => none }
def PowersLWrongFalsely : Prop := powersLRow.holds Try.pinned (OpenSpec.ofChange powersLWrong)

/-- 'notarylaw4.PowersN': WHATEVER THE INPUT: true; the input reads as it did. -/
def powersNSpec : ChangeSpec := { name := "powersN", fn := fun _ => fun
  | [d] => { results := [.lit (.bool true)], args := [d] }
  | _ => none }
def powersNRow : OpenClaim := { program := "ythlcdpdehoknbaa", sum := "75ec530549f42ca56ddb4c92c8e05e2351bb9b8aaf631b0ddcdb75486566a94e", func := "notary/notarylaw4.PowersN", spec := "powersN", unfollowed := true, recurses := true, apart := false }
def PowersNSaid : Prop := powersNRow.holds Try.pinned (OpenSpec.ofChange powersNSpec)

/-- ITS FALSE NEIGHBOUR: 'it returns false'. Refute it at one input. -/
def powersNWrong : ChangeSpec := { name := "powersN", fn := fun _ => fun
  | [d] => { results := [.lit (.bool false)], args := [d] }
  | _ => none }
def PowersNWrongFalsely : Prop := powersNRow.holds Try.pinned (OpenSpec.ofChange powersNWrong)

/-- 'notarylaw4.FieldEd': WHATEVER THE INPUT: true; the input reads as it did. -/
def fieldEdSpec : ChangeSpec := { name := "fieldEd", fn := fun _ => fun
  | [d] => { results := [.lit (.bool true)], args := [d] }
  | _ => none }
def fieldEdRow : OpenClaim := { program := "ythlcdpdehoknbaa", sum := "75ec530549f42ca56ddb4c92c8e05e2351bb9b8aaf631b0ddcdb75486566a94e", func := "notary/notarylaw4.FieldEd", spec := "fieldEd", unfollowed := true, recurses := true, apart := false }
def FieldEdSaid : Prop := fieldEdRow.holds Try.pinned (OpenSpec.ofChange fieldEdSpec)

/-- ITS FALSE NEIGHBOUR: 'it returns false'. Refute it at one input. -/
def fieldEdWrong : ChangeSpec := { name := "fieldEd", fn := fun _ => fun
  | [d] => { results := [.lit (.bool false)], args := [d] }
  | _ => none }
def FieldEdWrongFalsely : Prop := fieldEdRow.holds Try.pinned (OpenSpec.ofChange fieldEdWrong)

/-- 'notarylaw4.FieldP': WHATEVER THE INPUT: true; the input reads as it did. -/
def fieldPSpec : ChangeSpec := { name := "fieldP", fn := fun _ => fun
  | [d] => { results := [.lit (.bool true)], args := [d] }
  | _ => none }
def fieldPRow : OpenClaim := { program := "ythlcdpdehoknbaa", sum := "75ec530549f42ca56ddb4c92c8e05e2351bb9b8aaf631b0ddcdb75486566a94e", func := "notary/notarylaw4.FieldP", spec := "fieldP", unfollowed := true, recurses := true, apart := false }
def FieldPSaid : Prop := fieldPRow.holds Try.pinned (OpenSpec.ofChange fieldPSpec)

/-- ITS FALSE NEIGHBOUR: 'it returns false'. Refute it at one input. -/
def fieldPWrong : ChangeSpec := { name := "fieldP", fn := fun _ => fun
  | [d] => { results := [.lit (.bool false)], args := [d] }
  | _ => none }
def FieldPWrongFalsely : Prop := fieldPRow.holds Try.pinned (OpenSpec.ofChange fieldPWrong)

/-- 'notarylaw4.FieldL': WHATEVER THE INPUT: true; the input reads as it did. -/
def fieldLSpec : ChangeSpec := { name := "fieldL", fn := fun _ => fun
  | [d] => { results := [.lit (.bool true)], args := [d] }
  | _ => none }
def fieldLRow : OpenClaim := { program := "ythlcdpdehoknbaa", sum := "75ec530549f42ca56ddb4c92c8e05e2351bb9b8aaf631b0ddcdb75486566a94e", func := "notary/notarylaw4.FieldL", spec := "fieldL", unfollowed := true, recurses := true, apart := false }
def FieldLSaid : Prop := fieldLRow.holds Try.pinned (OpenSpec.ofChange fieldLSpec)

/-- ITS FALSE NEIGHBOUR: 'it returns false'. Refute it at one input. -/
def fieldLWrong : ChangeSpec := { name := "fieldL", fn := fun _ => fun
  | [d] => { results := [.lit (.bool false)], args := [d] }
  | _ => none }
def FieldLWrongFalsely : Prop := fieldLRow.holds Try.pinned (OpenSpec.ofChange fieldLWrong)

/-- 'notarylaw4.FieldN': WHATEVER THE INPUT: true; the input reads as it did. -/
def fieldNSpec : ChangeSpec := { name := "fieldN", fn := fun _ => fun
  | [d] => { results := [.lit (.bool true)], args := [d] }
  | _ => none }
def fieldNRow : OpenClaim := { program := "ythlcdpdehoknbaa", sum := "75ec530549f42ca56ddb4c92c8e05e2351bb9b8aaf631b0ddcdb75486566a94e", func := "notary/notarylaw4.FieldN", spec := "fieldN", unfollowed := true, recurses := true, apart := false }
def FieldNSaid : Prop := fieldNRow.holds Try.pinned (OpenSpec.ofChange fieldNSpec)

/-- ITS FALSE NEIGHBOUR: 'it returns false'. Refute it at one input. -/
def fieldNWrong : ChangeSpec := { name := "fieldN", fn := fun _ => fun
  | [d] => { results := [.lit (.bool false)], args := [d] }
  | _ => none }
def FieldNWrongFalsely : Prop := fieldNRow.holds Try.pinned (OpenSpec.ofChange fieldNWrong)

/-- 'notarylaw4.FieldPows': WHATEVER THE INPUT: true; the input reads as it did. -/
def fieldPowsSpec : ChangeSpec := { name := "fieldPows", fn := fun _ => fun
  | [d] => { results := [.lit (.bool true)], args := [d] }
  | _ => none }
def fieldPowsRow : OpenClaim := { program := "ythlcdpdehoknbaa", sum := "75ec530549f42ca56ddb4c92c8e05e2351bb9b8aaf631b0ddcdb75486566a94e", func := "notary/notarylaw4.FieldPows", spec := "fieldPows", unfollowed := true, recurses := true, apart := false }
def FieldPowsSaid : Prop := fieldPowsRow.holds Try.pinned (OpenSpec.ofChange fieldPowsSpec)

/-- ITS FALSE NEIGHBOUR: 'it returns false'. Refute it at one input. -/
def fieldPowsWrong : ChangeSpec := { name := "fieldPows", fn := fun _ => fun
  | [d] => { results := [.lit (.bool false)], args := [d] }
  | _ => none }
def FieldPowsWrongFalsely : Prop := fieldPowsRow.holds Try.pinned (OpenSpec.ofChange fieldPowsWrong)

/- THE SECOND FORM. 'bulk': how many values and letters a reading holds, each counted each time it is reached (what is shared counts as often as it is met; a slice's spare places count too). A statement '..UptoSaid' is the law's where the arguments, and the package variables that the reading takes, are together of bulk at most 1048576: NARROWER than '..Said'. Prove '..Said' where nothing that the law and all that it calls make is longer than what came in: it says more and counts as full. Else prove '..UptoSaid'. A law counts once. -/
mutual
def uptoBulk {H : Type} : DataW H → Nat
  | .lit (.string bytes) => bytes.length + 1
  | .lit _ => 1
  | .nil => 1
  | .ptr d => uptoBulk d + 1
  | .slice elems spare => uptoBulkAll elems + uptoBulkAll spare + 1
  | .agg parts => uptoBulkAll parts + 1
  | .iface _ d => uptoBulk d + 1
  | .map entries => uptoBulkEntries entries + 1
  | .held _ => 1
def uptoBulkAll {H : Type} : List (DataW H) → Nat
  | [] => 0
  | d :: r => uptoBulk d + uptoBulkAll r
def uptoBulkEntries {H : Type} : List (Lit × DataW H) → Nat
  | [] => 0
  | x :: r => uptoBulkEntry x + uptoBulkEntries r
def uptoBulkEntry {H : Type} : Lit × DataW H → Nat
  | (.string bytes, d) => bytes.length + uptoBulk d + 1
  | (_, d) => uptoBulk d + 1
 end
def uptoSmall : (H : Type) → List (DataW H) → Bool := fun _ ds => decide (uptoBulkAll ds ≤ 1048576)
def OpenSpec.upto (s : _root_.Go.ChangeSpec) : _root_.Go.OpenSpec := { _root_.Go.OpenSpec.ofChange s with cond := some uptoSmall }

/-- 'notarylaw4.MultsEd', WHERE WHAT IT READS IS OF BULK AT MOST 1048576: true; the input reads as it did. -/
def multsEdUptoRow : OpenClaim := { program := "ythlcdpdehoknbaa", sum := "75ec530549f42ca56ddb4c92c8e05e2351bb9b8aaf631b0ddcdb75486566a94e", func := "notary/notarylaw4.MultsEd", spec := "multsEd", unfollowed := true, recurses := true, apart := false, narrowed := true }
def MultsEdUptoSaid : Prop := multsEdUptoRow.holds Try.pinned (OpenSpec.upto multsEdSpec)

/-- 'notarylaw4.MultsP', WHERE WHAT IT READS IS OF BULK AT MOST 1048576: true; the input reads as it did. -/
def multsPUptoRow : OpenClaim := { program := "ythlcdpdehoknbaa", sum := "75ec530549f42ca56ddb4c92c8e05e2351bb9b8aaf631b0ddcdb75486566a94e", func := "notary/notarylaw4.MultsP", spec := "multsP", unfollowed := true, recurses := true, apart := false, narrowed := true }
def MultsPUptoSaid : Prop := multsPUptoRow.holds Try.pinned (OpenSpec.upto multsPSpec)

/-- 'notarylaw4.MultsL', WHERE WHAT IT READS IS OF BULK AT MOST 1048576: true; the input reads as it did. -/
def multsLUptoRow : OpenClaim := { program := "ythlcdpdehoknbaa", sum := "75ec530549f42ca56ddb4c92c8e05e2351bb9b8aaf631b0ddcdb75486566a94e", func := "notary/notarylaw4.MultsL", spec := "multsL", unfollowed := true, recurses := true, apart := false, narrowed := true }
def MultsLUptoSaid : Prop := multsLUptoRow.holds Try.pinned (OpenSpec.upto multsLSpec)

/-- 'notarylaw4.MultsN', WHERE WHAT IT READS IS OF BULK AT MOST 1048576: true; the input reads as it did. -/
def multsNUptoRow : OpenClaim := { program := "ythlcdpdehoknbaa", sum := "75ec530549f42ca56ddb4c92c8e05e2351bb9b8aaf631b0ddcdb75486566a94e", func := "notary/notarylaw4.MultsN", spec := "multsN", unfollowed := true, recurses := true, apart := false, narrowed := true }
def MultsNUptoSaid : Prop := multsNUptoRow.holds Try.pinned (OpenSpec.upto multsNSpec)

/-- 'notarylaw4.FieldAdds', WHERE WHAT IT READS IS OF BULK AT MOST 1048576: true; the input reads as it did. -/
def fieldAddsUptoRow : OpenClaim := { program := "ythlcdpdehoknbaa", sum := "75ec530549f42ca56ddb4c92c8e05e2351bb9b8aaf631b0ddcdb75486566a94e", func := "notary/notarylaw4.FieldAdds", spec := "fieldAdds", unfollowed := true, recurses := true, apart := false, narrowed := true }
def FieldAddsUptoSaid : Prop := fieldAddsUptoRow.holds Try.pinned (OpenSpec.upto fieldAddsSpec)

/-- 'notarylaw4.PowersEd', WHERE WHAT IT READS IS OF BULK AT MOST 1048576: true; the input reads as it did. -/
def powersEdUptoRow : OpenClaim := { program := "ythlcdpdehoknbaa", sum := "75ec530549f42ca56ddb4c92c8e05e2351bb9b8aaf631b0ddcdb75486566a94e", func := "notary/notarylaw4.PowersEd", spec := "powersEd", unfollowed := true, recurses := true, apart := false, narrowed := true }
def PowersEdUptoSaid : Prop := powersEdUptoRow.holds Try.pinned (OpenSpec.upto powersEdSpec)

/-- 'notarylaw4.PowersP', WHERE WHAT IT READS IS OF BULK AT MOST 1048576: true; the input reads as it did. -/
def powersPUptoRow : OpenClaim := { program := "ythlcdpdehoknbaa", sum := "75ec530549f42ca56ddb4c92c8e05e2351bb9b8aaf631b0ddcdb75486566a94e", func := "notary/notarylaw4.PowersP", spec := "powersP", unfollowed := true, recurses := true, apart := false, narrowed := true }
def PowersPUptoSaid : Prop := powersPUptoRow.holds Try.pinned (OpenSpec.upto powersPSpec)

/-- 'notarylaw4.PowersL', WHERE WHAT IT READS IS OF BULK AT MOST 1048576: true; the input reads as it did. -/
def powersLUptoRow : OpenClaim := { program := "ythlcdpdehoknbaa", sum := "75ec530549f42ca56ddb4c92c8e05e2351bb9b8aaf631b0ddcdb75486566a94e", func := "notary/notarylaw4.PowersL", spec := "powersL", unfollowed := true, recurses := true, apart := false, narrowed := true }
def PowersLUptoSaid : Prop := powersLUptoRow.holds Try.pinned (OpenSpec.upto powersLSpec)

/-- 'notarylaw4.PowersN', WHERE WHAT IT READS IS OF BULK AT MOST 1048576: true; the input reads as it did. -/
def powersNUptoRow : OpenClaim := { program := "ythlcdpdehoknbaa", sum := "75ec530549f42ca56ddb4c92c8e05e2351bb9b8aaf631b0ddcdb75486566a94e", func := "notary/notarylaw4.PowersN", spec := "powersN", unfollowed := true, recurses := true, apart := false, narrowed := true }
def PowersNUptoSaid : Prop := powersNUptoRow.holds Try.pinned (OpenSpec.upto powersNSpec)

/-- 'notarylaw4.FieldEd', WHERE WHAT IT READS IS OF BULK AT MOST 1048576: true; the input reads as it did. -/
def fieldEdUptoRow : OpenClaim := { program := "ythlcdpdehoknbaa", sum := "75ec530549f42ca56ddb4c92c8e05e2351bb9b8aaf631b0ddcdb75486566a94e", func := "notary/notarylaw4.FieldEd", spec := "fieldEd", unfollowed := true, recurses := true, apart := false, narrowed := true }
def FieldEdUptoSaid : Prop := fieldEdUptoRow.holds Try.pinned (OpenSpec.upto fieldEdSpec)

/-- 'notarylaw4.FieldP', WHERE WHAT IT READS IS OF BULK AT MOST 1048576: true; the input reads as it did. -/
def fieldPUptoRow : OpenClaim := { program := "ythlcdpdehoknbaa", sum := "75ec530549f42ca56ddb4c92c8e05e2351bb9b8aaf631b0ddcdb75486566a94e", func := "notary/notarylaw4.FieldP", spec := "fieldP", unfollowed := true, recurses := true, apart := false, narrowed := true }
def FieldPUptoSaid : Prop := fieldPUptoRow.holds Try.pinned (OpenSpec.upto fieldPSpec)

/-- 'notarylaw4.FieldL', WHERE WHAT IT READS IS OF BULK AT MOST 1048576: true; the input reads as it did. -/
def fieldLUptoRow : OpenClaim := { program := "ythlcdpdehoknbaa", sum := "75ec530549f42ca56ddb4c92c8e05e2351bb9b8aaf631b0ddcdb75486566a94e", func := "notary/notarylaw4.FieldL", spec := "fieldL", unfollowed := true, recurses := true, apart := false, narrowed := true }
def FieldLUptoSaid : Prop := fieldLUptoRow.holds Try.pinned (OpenSpec.upto fieldLSpec)

/-- 'notarylaw4.FieldN', WHERE WHAT IT READS IS OF BULK AT MOST 1048576: true; the input reads as it did. -/
def fieldNUptoRow : OpenClaim := { program := "ythlcdpdehoknbaa", sum := "75ec530549f42ca56ddb4c92c8e05e2351bb9b8aaf631b0ddcdb75486566a94e", func := "notary/notarylaw4.FieldN", spec := "fieldN", unfollowed := true, recurses := true, apart := false, narrowed := true }
def FieldNUptoSaid : Prop := fieldNUptoRow.holds Try.pinned (OpenSpec.upto fieldNSpec)

/-- 'notarylaw4.FieldPows', WHERE WHAT IT READS IS OF BULK AT MOST 1048576: true; the input reads as it did. -/
def fieldPowsUptoRow : OpenClaim := { program := "ythlcdpdehoknbaa", sum := "75ec530549f42ca56ddb4c92c8e05e2351bb9b8aaf631b0ddcdb75486566a94e", func := "notary/notarylaw4.FieldPows", spec := "fieldPows", unfollowed := true, recurses := true, apart := false, narrowed := true }
def FieldPowsUptoSaid : Prop := fieldPowsUptoRow.holds Try.pinned (OpenSpec.upto fieldPowsSpec)

end Rows
end Go.Proofs.Ythlcdpdehoknbaa
