/- Sums of numbers, bytes, and spots -/
import Derived.Test.YtfcobjhnkghdjaaGreatPartN
namespace Go.Ev
open Go Go.Proofs Go.RowKit

def wBN : Nat := 41058363725152142129326129780047268409114441015993725554835256314039467401291
def wXN : Nat := 48439561293906451759052585252797914202762949526041747995844080717082404635286
def wYN : Nat := 36134250956749795798585127919587881956611106672985015071877198253568414405109
theorem wBN_lt : wBN < modN 1 := by decide +kernel
theorem wXN_lt : wXN < modN 1 := by decide +kernel
theorem wYN_lt : wYN < modN 1 := by decide +kernel
def P3 (x y : Nat) (i : Bool) : V1 := .agg [.num 8 x, .num 8 y, .a (.v (.bool i))]
theorem wi70 (a : Nat) : callR E0 1000 128 [] [] =
    some ([], AV.val (V1.agg [Piece.a (Atom.u IntKind.u32 668098635), Piece.a (Atom.u IntKind.u32 1003371582), Piece.a (Atom.u IntKind.u32 3428036854), Piece.a (Atom.u IntKind.u32 1696401072), Piece.a (Atom.u IntKind.u32 1989707452), Piece.a (Atom.u IntKind.u32 3018571093), Piece.a (Atom.u IntKind.u32 2855965671), Piece.a (Atom.u IntKind.u32 1522939352)])) := by kernel_rfl
theorem spec70w : Spec 128 [] (.val (N8 wBN)) := (spec_run envE0 rfl (wi70 0) trivial rfl rfl).congr (fun _ => rfl) (fun _ => by kernel_rfl)
theorem wi19 (a : Nat) : callR E0 1000 66 [] [] =
    some ([], AV.val (V1.agg [Piece.a (Atom.u IntKind.u32 3633889942), Piece.a (Atom.u IntKind.u32 4104206661), Piece.a (Atom.u IntKind.u32 770388896), Piece.a (Atom.u IntKind.u32 1996717441), Piece.a (Atom.u IntKind.u32 1671708914), Piece.a (Atom.u IntKind.u32 4173129445), Piece.a (Atom.u IntKind.u32 3777774151), Piece.a (Atom.u IntKind.u32 1796723186), Piece.a (Atom.u IntKind.u32 935285237), Piece.a (Atom.u IntKind.u32 3417718888), Piece.a (Atom.u IntKind.u32 1798397646), Piece.a (Atom.u IntKind.u32 734933847), Piece.a (Atom.u IntKind.u32 2081398294), Piece.a (Atom.u IntKind.u32 2397563722), Piece.a (Atom.u IntKind.u32 4263149467), Piece.a (Atom.u IntKind.u32 1340293858), Piece.a (Atom.v (Value.bool false))])) := by kernel_rfl
theorem spec19w : Spec 66 [] (.val (P3 wXN wYN false)) := (spec_run envE0 rfl (wi19 0) trivial rfl rfl).congr (fun _ => rfl) (fun _ => by kernel_rfl)
theorem wi28 (a : Nat) : callR E0 1000 50 [] [] =
    some ([], AV.val (V1.agg [Piece.a (Atom.u IntKind.u32 3633889942), Piece.a (Atom.u IntKind.u32 4104206661), Piece.a (Atom.u IntKind.u32 770388896), Piece.a (Atom.u IntKind.u32 1996717441), Piece.a (Atom.u IntKind.u32 1671708914), Piece.a (Atom.u IntKind.u32 4173129445), Piece.a (Atom.u IntKind.u32 3777774151), Piece.a (Atom.u IntKind.u32 1796723186), Piece.a (Atom.u IntKind.u32 935285237), Piece.a (Atom.u IntKind.u32 3417718888), Piece.a (Atom.u IntKind.u32 1798397646), Piece.a (Atom.u IntKind.u32 734933847), Piece.a (Atom.u IntKind.u32 2081398294), Piece.a (Atom.u IntKind.u32 2397563722), Piece.a (Atom.u IntKind.u32 4263149467), Piece.a (Atom.u IntKind.u32 1340293858), Piece.a (Atom.v (Value.bool false))])) := by kernel_rfl
theorem spec28w : Spec 50 [] (.val (P3 wXN wYN false)) := (spec_run envE0 rfl (wi28 0) trivial rfl rfl).congr (fun _ => rfl) (fun _ => by kernel_rfl)
noncomputable def L8a : List CT := [⟨128, cV (.val (N8 wBN))⟩, ⟨66, cV (.val (P3 wXN wYN false))⟩, ⟨50, cV (.val (P3 wXN wYN false))⟩, ⟨105, fnS [.z, .s [.n8]] gFis⟩] ++ L0
theorem L8a_ok : AllCT L8a := ⟨ctV spec70w, ctV spec19w, ctV spec28w, ct85, L0_ok⟩
def rg1 : V1 := rgK 1
noncomputable def wBi : Nat := inN (modN 1) wBN
end Go.Ev

namespace Go.Ev
open Go Go.Proofs Go.RowKit

noncomputable def sqJ (x : Nat) : Nat := addM (modN 1) (subM (modN 1) (mmN (modN 1) x (mmN (modN 1) x x)) (addM (modN 1) x (addM (modN 1) x x))) (inN (modN 1) wBN)
noncomputable def L2a : List CT := [] ++ L8a
theorem L2a_ok : AllCT L2a := L8a_ok
def ltW (x y : Nat) : Bool := decide (x < modN 1) && decide (y < modN 1)
noncomputable def eqW (x y : Nat) : Bool := decide (mmN (modN 1) (inN (modN 1) y) (inN (modN 1) y) = sqJ (inN (modN 1) x))
noncomputable def onS (x y : Nat) (i : Bool) : Bool := bif i then (decide (x = 0) && decide (y = 0)) else (ltW x y && eqW x y)
end Go.Ev

namespace Go.Ev
open Go Go.Proofs Go.RowKit

def sqP (x : Nat) : Nat := addM (modN 1) (subM (modN 1) (mulM (modN 1) x (mulM (modN 1) x x)) (addM (modN 1) x (addM (modN 1) x x))) wBN
theorem sqP_lt (x : Nat) : sqP x < modN 1 := addM_lt (modN_pos 1)
theorem sqJ_in (x : Nat) : sqJ (inN (modN 1) x) = inN (modN 1) (sqP x) := by
  unfold sqJ sqP
  rw [in_mul (by decide), in_mul (by decide), in_add, in_add, in_sub (modN_pos 1) (addM_lt (modN_pos 1)), in_add]
theorem eqW_in {x y : Nat} : eqW x y = decide (mulM (modN 1) y y = sqP x) := by
  unfold eqW
  rw [sqJ_in, in_mul (by decide), Bool.eq_iff_iff, decide_eq_true_iff, decide_eq_true_iff]
  exact ⟨fun h => in_inj (modN_lt 1) (good_fac (by decide)) (mulM_lt (modN_pos 1)) (sqP_lt x) h, fun h => by rw [h]⟩
def aSp : Arg := .s [.n8, .n8, .b]
noncomputable def L3a : List CT := [] ++ L2a
theorem L3a_ok : AllCT L3a := L2a_ok
end Go.Ev

