/- An evaluator of the model's code with values known in part, and its soundness -/
import Derived.Test.YtfcobjhnkghdjaaGreatPartJ
import Derived.Test.YtfcobjhnkghdjaaGreatPartB
namespace Go.Ev
open Go Go.RowKit

inductive SK where | n8 | i | s | b | u32 | u64
def SK.sz : SK → Nat
  | .n8 => 8
  | _ => 1
def nA (c : Cells) (p : Nat) : Nat := valU 8 p c.n
def nU (c : Cells) (p : Nat) : Nat := c.n p
def zA (c : Cells) (p : Nat) : Int := c.z p
def sA (c : Cells) (p : Nat) : ByteArray := c.s p
def bA (c : Cells) (p : Nat) : Bool := c.b p
def SK.pc (c : Cells) (p : Nat) : SK → Piece
  | .n8 => .num 8 (nA c p)
  | .i => .a (.i (zA c p))
  | .s => .a (.v (.string (sA c p)))
  | .b => .a (.v (.bool (bA c p)))
  | .u32 => .a (.u .u32 (nU c p))
  | .u64 => .a (.u .u64 (nU c p))
def shSz : List SK → Nat
  | [] => 0
  | k :: l => k.sz + shSz l
def fldPs (c : Cells) : List SK → Nat → List Piece
  | [], _ => []
  | k :: l, p => k.pc c p :: fldPs c l (p + k.sz)
def rowPs (c : Cells) (sh : List SK) : Nat → Nat → List Piece
  | 0, _ => []
  | m + 1, p => fldPs c sh p ++ rowPs c sh m (p + shSz sh)
theorem fld_free (c : Cells) (f : Nat → Bool) : ∀ (sh : List SK) (p : Nat), allPtr f (fldPs c sh p) = true
  | [], _ => rfl
  | k :: l, p => by cases k <;> simp [fldPs, SK.pc, allPtr, fld_free c f l]
theorem allPtr_app (f : Nat → Bool) : ∀ (ps qs : List Piece), allPtr f ps = true → allPtr f qs = true → allPtr f (ps ++ qs) = true
  | [], _, _, h => h
  | p :: ps, qs, h, h' => by
    unfold allPtr at h
    cases p with
    | num k x => simp only [List.cons_append, allPtr] at h ⊢; exact allPtr_app f ps qs h h'
    | arr k x => simp only [List.cons_append, allPtr] at h ⊢; exact allPtr_app f ps qs h h'
    | a x =>
      cases x <;> simp only [List.cons_append, allPtr, Bool.and_eq_true] at h ⊢ <;>
        first | exact ⟨h.1, allPtr_app f ps qs h.2 h'⟩ | exact allPtr_app f ps qs h h'
theorem row_free (c : Cells) (sh : List SK) (f : Nat → Bool) : ∀ m p, allPtr f (rowPs c sh m p) = true
  | 0, _ => rfl
  | m + 1, p => allPtr_app f _ _ (fld_free c f sh p) (row_free c sh f m _)
end Go.Ev

