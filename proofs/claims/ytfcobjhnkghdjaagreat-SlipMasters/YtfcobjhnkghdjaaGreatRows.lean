/-
  No cell of these rows narrows 'for every input' (looked for: loops, veiled, ifaces, maps, wideKeys, modest, calm, conditions, laid).
  DERIVED. THE GIVEN ROWS OF THIS SEAT. 6 by the template 'for every input the law returns true; each argument reads behind the call as it read before'; 0 by the template 'total and deterministic' (their statements: YtfcobjhnkghdjaaGreatTotals.lean).
  GIVEN WITH THE SEED: the statements are not yours to turn. If you find one false, say at which input.
  Laid BY PROGRAM, IN A SANDBOX (cutbox-rows.mjs): the forced cells as the released guide's own fill.sh prints them over the translation a341b937b9095ceb… (all of the seat's roots in one cut). By AI agents, Wed Nov 11 2026. No macro, syntax, notation, axiom, sorry.
-/
import Derived.Test.YtfcobjhnkghdjaaGreatChecked
import GoSem.Claim
import GoSem.ClaimJoined
import GoSem.ClaimMapViews
import Derived.JoinedTies
import Derived.KernelRfl
namespace Go.Proofs.YtfcobjhnkghdjaaGreat
/- THE CELL 'sum', in the pinned program and in every row, IS THE sha256 OF THE DUMP (.gsa) THAT YtfcobjhnkghdjaaGreatProg.lean LOADS. Nothing in Lean hashes anything: it is a label: what it is worth is what the hold of that sum in a sandbox is worth. -/
noncomputable def Tryz.pinned : Pinned := { name := "ytfcobjhnkghdjaagreat", sum := "a341b937b9095cebb44268789071fe9f6d99646d182b9cbd16fc1bed61f3f392", checked := Tryz.checked }
namespace Rows
def none {H : Type} : Left H := { results := [], args := [] }

/-- 'notarylaw20.SlipChilds': WHATEVER THE INPUT: true; the input reads as it did. -/
def slipChildsSpec : ChangeSpec := { name := "slipChilds", fn := fun _ => fun
  | [d] => { results := [.lit (.bool true)], args := [d] }
  | _ => none }
def slipChildsRow : OpenClaim := { program := "ytfcobjhnkghdjaagreat", sum := "a341b937b9095cebb44268789071fe9f6d99646d182b9cbd16fc1bed61f3f392", func := "notary/notarylaw20.SlipChilds", spec := "slipChilds", unfollowed := true, recurses := true, apart := false }
def SlipChildsSaid : Prop := slipChildsRow.holds Tryz.pinned (OpenSpec.ofChange slipChildsSpec)

/-- ITS FALSE NEIGHBOUR: 'it returns false'. Refute it at one input. -/
def slipChildsWrong : ChangeSpec := { name := "slipChilds", fn := fun _ => fun
  | [d] => { results := [.lit (.bool false)], args := [d] }
  | _ => none }
def SlipChildsWrongFalsely : Prop := slipChildsRow.holds Tryz.pinned (OpenSpec.ofChange slipChildsWrong)

/-- 'notarylaw20.SlipEd': WHATEVER THE INPUT: true; the input reads as it did. -/
def slipEdSpec : ChangeSpec := { name := "slipEd", fn := fun _ => fun
  | [d] => { results := [.lit (.bool true)], args := [d] }
  | _ => none }
def slipEdRow : OpenClaim := { program := "ytfcobjhnkghdjaagreat", sum := "a341b937b9095cebb44268789071fe9f6d99646d182b9cbd16fc1bed61f3f392", func := "notary/notarylaw20.SlipEd", spec := "slipEd", unfollowed := true, recurses := true, apart := false }
def SlipEdSaid : Prop := slipEdRow.holds Tryz.pinned (OpenSpec.ofChange slipEdSpec)

/-- ITS FALSE NEIGHBOUR: 'it returns false'. Refute it at one input. -/
def slipEdWrong : ChangeSpec := { name := "slipEd", fn := fun _ => fun
  | [d] => { results := [.lit (.bool false)], args := [d] }
  | _ => none }
def SlipEdWrongFalsely : Prop := slipEdRow.holds Tryz.pinned (OpenSpec.ofChange slipEdWrong)

/-- 'notarylaw20.SlipP': WHATEVER THE INPUT: true; the input reads as it did. -/
def slipPSpec : ChangeSpec := { name := "slipP", fn := fun _ => fun
  | [d] => { results := [.lit (.bool true)], args := [d] }
  | _ => none }
def slipPRow : OpenClaim := { program := "ytfcobjhnkghdjaagreat", sum := "a341b937b9095cebb44268789071fe9f6d99646d182b9cbd16fc1bed61f3f392", func := "notary/notarylaw20.SlipP", spec := "slipP", unfollowed := true, recurses := true, apart := false }
def SlipPSaid : Prop := slipPRow.holds Tryz.pinned (OpenSpec.ofChange slipPSpec)

/-- ITS FALSE NEIGHBOUR: 'it returns false'. Refute it at one input. -/
def slipPWrong : ChangeSpec := { name := "slipP", fn := fun _ => fun
  | [d] => { results := [.lit (.bool false)], args := [d] }
  | _ => none }
def SlipPWrongFalsely : Prop := slipPRow.holds Tryz.pinned (OpenSpec.ofChange slipPWrong)

/-- 'notarylaw20.SlipSoft': WHATEVER THE INPUT: true; the input reads as it did. -/
def slipSoftSpec : ChangeSpec := { name := "slipSoft", fn := fun _ => fun
  | [d] => { results := [.lit (.bool true)], args := [d] }
  | _ => none }
def slipSoftRow : OpenClaim := { program := "ytfcobjhnkghdjaagreat", sum := "a341b937b9095cebb44268789071fe9f6d99646d182b9cbd16fc1bed61f3f392", func := "notary/notarylaw20.SlipSoft", spec := "slipSoft", unfollowed := true, recurses := true, apart := false }
def SlipSoftSaid : Prop := slipSoftRow.holds Tryz.pinned (OpenSpec.ofChange slipSoftSpec)

/-- ITS FALSE NEIGHBOUR: 'it returns false'. Refute it at one input. -/
def slipSoftWrong : ChangeSpec := { name := "slipSoft", fn := fun _ => fun
  | [d] => { results := [.lit (.bool false)], args := [d] }
  | _ => none }
def SlipSoftWrongFalsely : Prop := slipSoftRow.holds Tryz.pinned (OpenSpec.ofChange slipSoftWrong)

/-- 'notarylaw20.SlipDowns': WHATEVER THE INPUT: true; the input reads as it did. -/
def slipDownsSpec : ChangeSpec := { name := "slipDowns", fn := fun _ => fun
  | [d] => { results := [.lit (.bool true)], args := [d] }
  | _ => none }
def slipDownsRow : OpenClaim := { program := "ytfcobjhnkghdjaagreat", sum := "a341b937b9095cebb44268789071fe9f6d99646d182b9cbd16fc1bed61f3f392", func := "notary/notarylaw20.SlipDowns", spec := "slipDowns", unfollowed := true, recurses := true, apart := false }
def SlipDownsSaid : Prop := slipDownsRow.holds Tryz.pinned (OpenSpec.ofChange slipDownsSpec)

/-- ITS FALSE NEIGHBOUR: 'it returns false'. Refute it at one input. -/
def slipDownsWrong : ChangeSpec := { name := "slipDowns", fn := fun _ => fun
  | [d] => { results := [.lit (.bool false)], args := [d] }
  | _ => none }
def SlipDownsWrongFalsely : Prop := slipDownsRow.holds Tryz.pinned (OpenSpec.ofChange slipDownsWrong)

/-- 'notarylaw20.SlipMasters': WHATEVER THE INPUT: true; the input reads as it did. -/
def slipMastersSpec : ChangeSpec := { name := "slipMasters", fn := fun _ => fun
  | [d] => { results := [.lit (.bool true)], args := [d] }
  | _ => none }
def slipMastersRow : OpenClaim := { program := "ytfcobjhnkghdjaagreat", sum := "a341b937b9095cebb44268789071fe9f6d99646d182b9cbd16fc1bed61f3f392", func := "notary/notarylaw20.SlipMasters", spec := "slipMasters", unfollowed := true, recurses := true, apart := false }
def SlipMastersSaid : Prop := slipMastersRow.holds Tryz.pinned (OpenSpec.ofChange slipMastersSpec)

/-- ITS FALSE NEIGHBOUR: 'it returns false'. Refute it at one input. -/
def slipMastersWrong : ChangeSpec := { name := "slipMasters", fn := fun _ => fun
  | [d] => { results := [.lit (.bool false)], args := [d] }
  | _ => none }
def SlipMastersWrongFalsely : Prop := slipMastersRow.holds Tryz.pinned (OpenSpec.ofChange slipMastersWrong)

/- THE SECOND FORM. 'bulk': how many values and letters a reading holds, each counted each time it is reached (what is shared counts as often as it is met; a slice's spare places count too). A statement '..UptoSaid' is the law's where the arguments, and the package variables that the reading takes, are together of bulk at most 1048576: NARROWER than '..Said'. Prove '..Said' where nothing that the law and all that it calls make is longer than what came in: it says more and counts as full. Else prove '..UptoSaid'. A law counts once. -/
mutual
def uptoBulk {H : Type} : DataW H → Nat
  | .lit (.string bytes) => bytes.length + 1
  | .lit _ => 1
  | .nil => 1
  | .ptr d => uptoBulk d + 1
  | .slice elems spare => uptoBulkAll elems + uptoBulkAll spare + 1
  | .agg parts => uptoBulkAll parts + 1
  | .iface _ d => uptoBulk d + 1
  | .map entries => uptoBulkEntries entries + 1
  | .held _ => 1
def uptoBulkAll {H : Type} : List (DataW H) → Nat
  | [] => 0
  | d :: r => uptoBulk d + uptoBulkAll r
def uptoBulkEntries {H : Type} : List (Lit × DataW H) → Nat
  | [] => 0
  | x :: r => uptoBulkEntry x + uptoBulkEntries r
def uptoBulkEntry {H : Type} : Lit × DataW H → Nat
  | (.string bytes, d) => bytes.length + uptoBulk d + 1
  | (_, d) => uptoBulk d + 1
 end
def uptoSmall : (H : Type) → List (DataW H) → Bool := fun _ ds => decide (uptoBulkAll ds ≤ 1048576)
def OpenSpec.upto (s : _root_.Go.ChangeSpec) : _root_.Go.OpenSpec := { _root_.Go.OpenSpec.ofChange s with cond := some uptoSmall }

/-- 'notarylaw20.SlipChilds', WHERE WHAT IT READS IS OF BULK AT MOST 1048576: true; the input reads as it did. -/
def slipChildsUptoRow : OpenClaim := { program := "ytfcobjhnkghdjaagreat", sum := "a341b937b9095cebb44268789071fe9f6d99646d182b9cbd16fc1bed61f3f392", func := "notary/notarylaw20.SlipChilds", spec := "slipChilds", unfollowed := true, recurses := true, apart := false, narrowed := true }
def SlipChildsUptoSaid : Prop := slipChildsUptoRow.holds Tryz.pinned (OpenSpec.upto slipChildsSpec)

/-- 'notarylaw20.SlipEd', WHERE WHAT IT READS IS OF BULK AT MOST 1048576: true; the input reads as it did. -/
def slipEdUptoRow : OpenClaim := { program := "ytfcobjhnkghdjaagreat", sum := "a341b937b9095cebb44268789071fe9f6d99646d182b9cbd16fc1bed61f3f392", func := "notary/notarylaw20.SlipEd", spec := "slipEd", unfollowed := true, recurses := true, apart := false, narrowed := true }
def SlipEdUptoSaid : Prop := slipEdUptoRow.holds Tryz.pinned (OpenSpec.upto slipEdSpec)

/-- 'notarylaw20.SlipP', WHERE WHAT IT READS IS OF BULK AT MOST 1048576: true; the input reads as it did. -/
def slipPUptoRow : OpenClaim := { program := "ytfcobjhnkghdjaagreat", sum := "a341b937b9095cebb44268789071fe9f6d99646d182b9cbd16fc1bed61f3f392", func := "notary/notarylaw20.SlipP", spec := "slipP", unfollowed := true, recurses := true, apart := false, narrowed := true }
def SlipPUptoSaid : Prop := slipPUptoRow.holds Tryz.pinned (OpenSpec.upto slipPSpec)

/-- 'notarylaw20.SlipSoft', WHERE WHAT IT READS IS OF BULK AT MOST 1048576: true; the input reads as it did. -/
def slipSoftUptoRow : OpenClaim := { program := "ytfcobjhnkghdjaagreat", sum := "a341b937b9095cebb44268789071fe9f6d99646d182b9cbd16fc1bed61f3f392", func := "notary/notarylaw20.SlipSoft", spec := "slipSoft", unfollowed := true, recurses := true, apart := false, narrowed := true }
def SlipSoftUptoSaid : Prop := slipSoftUptoRow.holds Tryz.pinned (OpenSpec.upto slipSoftSpec)

/-- 'notarylaw20.SlipDowns', WHERE WHAT IT READS IS OF BULK AT MOST 1048576: true; the input reads as it did. -/
def slipDownsUptoRow : OpenClaim := { program := "ytfcobjhnkghdjaagreat", sum := "a341b937b9095cebb44268789071fe9f6d99646d182b9cbd16fc1bed61f3f392", func := "notary/notarylaw20.SlipDowns", spec := "slipDowns", unfollowed := true, recurses := true, apart := false, narrowed := true }
def SlipDownsUptoSaid : Prop := slipDownsUptoRow.holds Tryz.pinned (OpenSpec.upto slipDownsSpec)

/-- 'notarylaw20.SlipMasters', WHERE WHAT IT READS IS OF BULK AT MOST 1048576: true; the input reads as it did. -/
def slipMastersUptoRow : OpenClaim := { program := "ytfcobjhnkghdjaagreat", sum := "a341b937b9095cebb44268789071fe9f6d99646d182b9cbd16fc1bed61f3f392", func := "notary/notarylaw20.SlipMasters", spec := "slipMasters", unfollowed := true, recurses := true, apart := false, narrowed := true }
def SlipMastersUptoSaid : Prop := slipMastersUptoRow.holds Tryz.pinned (OpenSpec.upto slipMastersSpec)

end Rows
end Go.Proofs.YtfcobjhnkghdjaaGreat
