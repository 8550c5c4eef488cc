/- Keyed sums, nodes, and the law, of every input; An evaluator of the model's code with values known in part, and its soundness -/
import Derived.Test.YtfcobjhnkghdjaaGreatPartR
import Derived.Test.YtfcobjhnkghdjaaGreatPartL
import Derived.Deep.Strs
namespace Go.Ev.H5
open Go Go.Proofs Go.RowKit
set_option maxRecDepth 100000
theorem ti0 (c : Cells) (len cap n k : Nat) (z : Int) (xs : Nat → Atom) (q : Nat → Nat) (p2 p3 p4 : List Piece) (K C : ByteArray) (j : Nat) : runTo (ETn q) 1000 ((ETn q).S 15) (bodyOf Tryz.prog 15 12) (TI (len + 1) cap z 0 0 (j : Int)) (MR c (xsW 0 (.sl 1 0 n k) xs) (len + 1) (qPs q n) p2 p3 p4 ++ [nB K C, nB K C]) [true, true, true, false, false] (TI (len + 1) cap z 0 (nxE z K C (q (0 + j * 1))) ((j : Int) + 1)) 7 =
    some ([(0 : Int) ≤ 0 ∧ (0 : Int) < ((len + 1 : Nat) : Int), decide ((j : Int) < (n : Int)) = true, decide ((j : Int) < 4) = true, decide ((0 : Int) = 0) = true, (0 : Int) ≤ 0 ∧ (0 : Int) < ((len + 1 : Nat) : Int), (0 : Int) ≤ (j : Int) ∧ (j : Int) < (n : Int), LoadsAs Tryz.prog 32 (qPs q n) (0 + j * 1) (.one (.u .u32 (q (0 + j * 1)))), z = 1 ∨ z = 2, mayB z K C = true, 2147483648 ≤ atH (q (0 + j * 1)), z = 1 ∨ z = 2, mayB z K C = true, 2147483648 ≤ atH (q (0 + j * 1)), (!decide ((nxE z K C (q (0 + j * 1))) = (nxE z K C (q (0 + j * 1))))) = false, (!eqS (nxK z K C (q (0 + j * 1))) (nxC z K C (q (0 + j * 1))) (nxK z K C (q (0 + j * 1))) (nxC z K C (q (0 + j * 1)))) = false, inI ((j : Int) + 1)], .normal, TI (len + 1) cap z 0 (nxE z K C (q (0 + j * 1))) ((j : Int) + 1), MR c (xsW 0 (.sl 1 0 n k) xs) (len + 1) (qPs q n) p2 p3 p4 ++ [nB (nxK z K C (q (0 + j * 1))) (nxC z K C (q (0 + j * 1))), nB (nxK z K C (q (0 + j * 1))) (nxC z K C (q (0 + j * 1)))]) := by kernel_rfl
theorem txn0 (c : Cells) (len cap n k : Nat) (z e : Int) (xs : Nat → Atom) (q : Nat → Nat) (p2 p3 p4 : List Piece) (K C : ByteArray) (j : Nat) : runTo (ETn q) 1000 ((ETn q).S 15) (bodyOf Tryz.prog 15 12) (TI (len + 1) cap z 0 e (j : Int)) (MR c (xsW 0 (.sl 1 0 n k) xs) (len + 1) (qPs q n) p2 p3 p4 ++ [nB K C, nB K C]) [false] (TIx (len + 1) cap z 0) 7 =
    some ([(0 : Int) ≤ 0 ∧ (0 : Int) < ((len + 1 : Nat) : Int), decide ((j : Int) < (n : Int)) = false], .exit 2, TIx (len + 1) cap z 0, MR c (xsW 0 (.sl 1 0 n k) xs) (len + 1) (qPs q n) p2 p3 p4 ++ [nB K C, nB K C]) := by kernel_rfl
theorem txf0 (c : Cells) (len cap n k : Nat) (z e : Int) (xs : Nat → Atom) (q : Nat → Nat) (p2 p3 p4 : List Piece) (K C : ByteArray) (j : Nat) : runTo (ETn q) 1000 ((ETn q).S 15) (bodyOf Tryz.prog 15 12) (TI (len + 1) cap z 0 e (j : Int)) (MR c (xsW 0 (.sl 1 0 n k) xs) (len + 1) (qPs q n) p2 p3 p4 ++ [nB K C, nB K C]) [true, false] (TIx (len + 1) cap z 0) 7 =
    some ([(0 : Int) ≤ 0 ∧ (0 : Int) < ((len + 1 : Nat) : Int), decide ((j : Int) < (n : Int)) = true, decide ((j : Int) < 4) = false], .exit 2, TIx (len + 1) cap z 0, MR c (xsW 0 (.sl 1 0 n k) xs) (len + 1) (qPs q n) p2 p3 p4 ++ [nB K C, nB K C]) := by kernel_rfl
theorem txe0 (c : Cells) (len cap n k : Nat) (z e : Int) (xs : Nat → Atom) (q : Nat → Nat) (p2 p3 p4 : List Piece) (K C : ByteArray) (j : Nat) : runTo (ETn q) 1000 ((ETn q).S 15) (bodyOf Tryz.prog 15 12) (TI (len + 1) cap z 0 e (j : Int)) (MR c (xsW 0 (.sl 1 0 n k) xs) (len + 1) (qPs q n) p2 p3 p4 ++ [nB K C, nB K C]) [true, true, false] (TIx (len + 1) cap z 0) 7 =
    some ([(0 : Int) ≤ 0 ∧ (0 : Int) < ((len + 1 : Nat) : Int), decide ((j : Int) < (n : Int)) = true, decide ((j : Int) < 4) = true, decide (e = 0) = false], .exit 2, TIx (len + 1) cap z 0, MR c (xsW 0 (.sl 1 0 n k) xs) (len + 1) (qPs q n) p2 p3 p4 ++ [nB K C, nB K C]) := by kernel_rfl
theorem ti1 (c : Cells) (len cap n k : Nat) (z : Int) (xs : Nat → Atom) (q : Nat → Nat) (p1 p3 p4 : List Piece) (K C : ByteArray) (j : Nat) : runTo (ETn q) 1000 ((ETn q).S 15) (bodyOf Tryz.prog 15 12) (TI (len + 2) cap z 1 0 (j : Int)) (MR c (xsW 1 (.sl 2 0 n k) xs) (len + 2) p1 (qPs q n) p3 p4 ++ [nB K C, nB K C]) [true, true, true, false, false] (TI (len + 2) cap z 1 (nxE z K C (q (0 + j * 1))) ((j : Int) + 1)) 7 =
    some ([(0 : Int) ≤ 1 ∧ (1 : Int) < ((len + 2 : Nat) : Int), decide ((j : Int) < (n : Int)) = true, decide ((j : Int) < 4) = true, decide ((0 : Int) = 0) = true, (0 : Int) ≤ 1 ∧ (1 : Int) < ((len + 2 : Nat) : Int), (0 : Int) ≤ (j : Int) ∧ (j : Int) < (n : Int), LoadsAs Tryz.prog 32 (qPs q n) (0 + j * 1) (.one (.u .u32 (q (0 + j * 1)))), z = 1 ∨ z = 2, mayB z K C = true, 2147483648 ≤ atH (q (0 + j * 1)), z = 1 ∨ z = 2, mayB z K C = true, 2147483648 ≤ atH (q (0 + j * 1)), (!decide ((nxE z K C (q (0 + j * 1))) = (nxE z K C (q (0 + j * 1))))) = false, (!eqS (nxK z K C (q (0 + j * 1))) (nxC z K C (q (0 + j * 1))) (nxK z K C (q (0 + j * 1))) (nxC z K C (q (0 + j * 1)))) = false, inI ((j : Int) + 1)], .normal, TI (len + 2) cap z 1 (nxE z K C (q (0 + j * 1))) ((j : Int) + 1), MR c (xsW 1 (.sl 2 0 n k) xs) (len + 2) p1 (qPs q n) p3 p4 ++ [nB (nxK z K C (q (0 + j * 1))) (nxC z K C (q (0 + j * 1))), nB (nxK z K C (q (0 + j * 1))) (nxC z K C (q (0 + j * 1)))]) := by kernel_rfl
theorem txn1 (c : Cells) (len cap n k : Nat) (z e : Int) (xs : Nat → Atom) (q : Nat → Nat) (p1 p3 p4 : List Piece) (K C : ByteArray) (j : Nat) : runTo (ETn q) 1000 ((ETn q).S 15) (bodyOf Tryz.prog 15 12) (TI (len + 2) cap z 1 e (j : Int)) (MR c (xsW 1 (.sl 2 0 n k) xs) (len + 2) p1 (qPs q n) p3 p4 ++ [nB K C, nB K C]) [false] (TIx (len + 2) cap z 1) 7 =
    some ([(0 : Int) ≤ 1 ∧ (1 : Int) < ((len + 2 : Nat) : Int), decide ((j : Int) < (n : Int)) = false], .exit 2, TIx (len + 2) cap z 1, MR c (xsW 1 (.sl 2 0 n k) xs) (len + 2) p1 (qPs q n) p3 p4 ++ [nB K C, nB K C]) := by kernel_rfl
theorem txf1 (c : Cells) (len cap n k : Nat) (z e : Int) (xs : Nat → Atom) (q : Nat → Nat) (p1 p3 p4 : List Piece) (K C : ByteArray) (j : Nat) : runTo (ETn q) 1000 ((ETn q).S 15) (bodyOf Tryz.prog 15 12) (TI (len + 2) cap z 1 e (j : Int)) (MR c (xsW 1 (.sl 2 0 n k) xs) (len + 2) p1 (qPs q n) p3 p4 ++ [nB K C, nB K C]) [true, false] (TIx (len + 2) cap z 1) 7 =
    some ([(0 : Int) ≤ 1 ∧ (1 : Int) < ((len + 2 : Nat) : Int), decide ((j : Int) < (n : Int)) = true, decide ((j : Int) < 4) = false], .exit 2, TIx (len + 2) cap z 1, MR c (xsW 1 (.sl 2 0 n k) xs) (len + 2) p1 (qPs q n) p3 p4 ++ [nB K C, nB K C]) := by kernel_rfl
theorem txe1 (c : Cells) (len cap n k : Nat) (z e : Int) (xs : Nat → Atom) (q : Nat → Nat) (p1 p3 p4 : List Piece) (K C : ByteArray) (j : Nat) : runTo (ETn q) 1000 ((ETn q).S 15) (bodyOf Tryz.prog 15 12) (TI (len + 2) cap z 1 e (j : Int)) (MR c (xsW 1 (.sl 2 0 n k) xs) (len + 2) p1 (qPs q n) p3 p4 ++ [nB K C, nB K C]) [true, true, false] (TIx (len + 2) cap z 1) 7 =
    some ([(0 : Int) ≤ 1 ∧ (1 : Int) < ((len + 2 : Nat) : Int), decide ((j : Int) < (n : Int)) = true, decide ((j : Int) < 4) = true, decide (e = 0) = false], .exit 2, TIx (len + 2) cap z 1, MR c (xsW 1 (.sl 2 0 n k) xs) (len + 2) p1 (qPs q n) p3 p4 ++ [nB K C, nB K C]) := by kernel_rfl
theorem ti2 (c : Cells) (len cap n k : Nat) (z : Int) (xs : Nat → Atom) (q : Nat → Nat) (p1 p2 p4 : List Piece) (K C : ByteArray) (j : Nat) : runTo (ETn q) 1000 ((ETn q).S 15) (bodyOf Tryz.prog 15 12) (TI (len + 3) cap z 2 0 (j : Int)) (MR c (xsW 2 (.sl 3 0 n k) xs) (len + 3) p1 p2 (qPs q n) p4 ++ [nB K C, nB K C]) [true, true, true, false, false] (TI (len + 3) cap z 2 (nxE z K C (q (0 + j * 1))) ((j : Int) + 1)) 7 =
    some ([(0 : Int) ≤ 2 ∧ (2 : Int) < ((len + 3 : Nat) : Int), decide ((j : Int) < (n : Int)) = true, decide ((j : Int) < 4) = true, decide ((0 : Int) = 0) = true, (0 : Int) ≤ 2 ∧ (2 : Int) < ((len + 3 : Nat) : Int), (0 : Int) ≤ (j : Int) ∧ (j : Int) < (n : Int), LoadsAs Tryz.prog 32 (qPs q n) (0 + j * 1) (.one (.u .u32 (q (0 + j * 1)))), z = 1 ∨ z = 2, mayB z K C = true, 2147483648 ≤ atH (q (0 + j * 1)), z = 1 ∨ z = 2, mayB z K C = true, 2147483648 ≤ atH (q (0 + j * 1)), (!decide ((nxE z K C (q (0 + j * 1))) = (nxE z K C (q (0 + j * 1))))) = false, (!eqS (nxK z K C (q (0 + j * 1))) (nxC z K C (q (0 + j * 1))) (nxK z K C (q (0 + j * 1))) (nxC z K C (q (0 + j * 1)))) = false, inI ((j : Int) + 1)], .normal, TI (len + 3) cap z 2 (nxE z K C (q (0 + j * 1))) ((j : Int) + 1), MR c (xsW 2 (.sl 3 0 n k) xs) (len + 3) p1 p2 (qPs q n) p4 ++ [nB (nxK z K C (q (0 + j * 1))) (nxC z K C (q (0 + j * 1))), nB (nxK z K C (q (0 + j * 1))) (nxC z K C (q (0 + j * 1)))]) := by kernel_rfl
theorem txn2 (c : Cells) (len cap n k : Nat) (z e : Int) (xs : Nat → Atom) (q : Nat → Nat) (p1 p2 p4 : List Piece) (K C : ByteArray) (j : Nat) : runTo (ETn q) 1000 ((ETn q).S 15) (bodyOf Tryz.prog 15 12) (TI (len + 3) cap z 2 e (j : Int)) (MR c (xsW 2 (.sl 3 0 n k) xs) (len + 3) p1 p2 (qPs q n) p4 ++ [nB K C, nB K C]) [false] (TIx (len + 3) cap z 2) 7 =
    some ([(0 : Int) ≤ 2 ∧ (2 : Int) < ((len + 3 : Nat) : Int), decide ((j : Int) < (n : Int)) = false], .exit 2, TIx (len + 3) cap z 2, MR c (xsW 2 (.sl 3 0 n k) xs) (len + 3) p1 p2 (qPs q n) p4 ++ [nB K C, nB K C]) := by kernel_rfl
theorem txf2 (c : Cells) (len cap n k : Nat) (z e : Int) (xs : Nat → Atom) (q : Nat → Nat) (p1 p2 p4 : List Piece) (K C : ByteArray) (j : Nat) : runTo (ETn q) 1000 ((ETn q).S 15) (bodyOf Tryz.prog 15 12) (TI (len + 3) cap z 2 e (j : Int)) (MR c (xsW 2 (.sl 3 0 n k) xs) (len + 3) p1 p2 (qPs q n) p4 ++ [nB K C, nB K C]) [true, false] (TIx (len + 3) cap z 2) 7 =
    some ([(0 : Int) ≤ 2 ∧ (2 : Int) < ((len + 3 : Nat) : Int), decide ((j : Int) < (n : Int)) = true, decide ((j : Int) < 4) = false], .exit 2, TIx (len + 3) cap z 2, MR c (xsW 2 (.sl 3 0 n k) xs) (len + 3) p1 p2 (qPs q n) p4 ++ [nB K C, nB K C]) := by kernel_rfl
theorem txe2 (c : Cells) (len cap n k : Nat) (z e : Int) (xs : Nat → Atom) (q : Nat → Nat) (p1 p2 p4 : List Piece) (K C : ByteArray) (j : Nat) : runTo (ETn q) 1000 ((ETn q).S 15) (bodyOf Tryz.prog 15 12) (TI (len + 3) cap z 2 e (j : Int)) (MR c (xsW 2 (.sl 3 0 n k) xs) (len + 3) p1 p2 (qPs q n) p4 ++ [nB K C, nB K C]) [true, true, false] (TIx (len + 3) cap z 2) 7 =
    some ([(0 : Int) ≤ 2 ∧ (2 : Int) < ((len + 3 : Nat) : Int), decide ((j : Int) < (n : Int)) = true, decide ((j : Int) < 4) = true, decide (e = 0) = false], .exit 2, TIx (len + 3) cap z 2, MR c (xsW 2 (.sl 3 0 n k) xs) (len + 3) p1 p2 (qPs q n) p4 ++ [nB K C, nB K C]) := by kernel_rfl
theorem ti3 (c : Cells) (len cap n k : Nat) (z : Int) (xs : Nat → Atom) (q : Nat → Nat) (p1 p2 p3 : List Piece) (K C : ByteArray) (j : Nat) : runTo (ETn q) 1000 ((ETn q).S 15) (bodyOf Tryz.prog 15 12) (TI (len + 4) cap z 3 0 (j : Int)) (MR c (xsW 3 (.sl 4 0 n k) xs) (len + 4) p1 p2 p3 (qPs q n) ++ [nB K C, nB K C]) [true, true, true, false, false] (TI (len + 4) cap z 3 (nxE z K C (q (0 + j * 1))) ((j : Int) + 1)) 7 =
    some ([(0 : Int) ≤ 3 ∧ (3 : Int) < ((len + 4 : Nat) : Int), decide ((j : Int) < (n : Int)) = true, decide ((j : Int) < 4) = true, decide ((0 : Int) = 0) = true, (0 : Int) ≤ 3 ∧ (3 : Int) < ((len + 4 : Nat) : Int), (0 : Int) ≤ (j : Int) ∧ (j : Int) < (n : Int), LoadsAs Tryz.prog 32 (qPs q n) (0 + j * 1) (.one (.u .u32 (q (0 + j * 1)))), z = 1 ∨ z = 2, mayB z K C = true, 2147483648 ≤ atH (q (0 + j * 1)), z = 1 ∨ z = 2, mayB z K C = true, 2147483648 ≤ atH (q (0 + j * 1)), (!decide ((nxE z K C (q (0 + j * 1))) = (nxE z K C (q (0 + j * 1))))) = false, (!eqS (nxK z K C (q (0 + j * 1))) (nxC z K C (q (0 + j * 1))) (nxK z K C (q (0 + j * 1))) (nxC z K C (q (0 + j * 1)))) = false, inI ((j : Int) + 1)], .normal, TI (len + 4) cap z 3 (nxE z K C (q (0 + j * 1))) ((j : Int) + 1), MR c (xsW 3 (.sl 4 0 n k) xs) (len + 4) p1 p2 p3 (qPs q n) ++ [nB (nxK z K C (q (0 + j * 1))) (nxC z K C (q (0 + j * 1))), nB (nxK z K C (q (0 + j * 1))) (nxC z K C (q (0 + j * 1)))]) := by kernel_rfl
theorem txn3 (c : Cells) (len cap n k : Nat) (z e : Int) (xs : Nat → Atom) (q : Nat → Nat) (p1 p2 p3 : List Piece) (K C : ByteArray) (j : Nat) : runTo (ETn q) 1000 ((ETn q).S 15) (bodyOf Tryz.prog 15 12) (TI (len + 4) cap z 3 e (j : Int)) (MR c (xsW 3 (.sl 4 0 n k) xs) (len + 4) p1 p2 p3 (qPs q n) ++ [nB K C, nB K C]) [false] (TIx (len + 4) cap z 3) 7 =
    some ([(0 : Int) ≤ 3 ∧ (3 : Int) < ((len + 4 : Nat) : Int), decide ((j : Int) < (n : Int)) = false], .exit 2, TIx (len + 4) cap z 3, MR c (xsW 3 (.sl 4 0 n k) xs) (len + 4) p1 p2 p3 (qPs q n) ++ [nB K C, nB K C]) := by kernel_rfl
theorem txf3 (c : Cells) (len cap n k : Nat) (z e : Int) (xs : Nat → Atom) (q : Nat → Nat) (p1 p2 p3 : List Piece) (K C : ByteArray) (j : Nat) : runTo (ETn q) 1000 ((ETn q).S 15) (bodyOf Tryz.prog 15 12) (TI (len + 4) cap z 3 e (j : Int)) (MR c (xsW 3 (.sl 4 0 n k) xs) (len + 4) p1 p2 p3 (qPs q n) ++ [nB K C, nB K C]) [true, false] (TIx (len + 4) cap z 3) 7 =
    some ([(0 : Int) ≤ 3 ∧ (3 : Int) < ((len + 4 : Nat) : Int), decide ((j : Int) < (n : Int)) = true, decide ((j : Int) < 4) = false], .exit 2, TIx (len + 4) cap z 3, MR c (xsW 3 (.sl 4 0 n k) xs) (len + 4) p1 p2 p3 (qPs q n) ++ [nB K C, nB K C]) := by kernel_rfl
theorem txe3 (c : Cells) (len cap n k : Nat) (z e : Int) (xs : Nat → Atom) (q : Nat → Nat) (p1 p2 p3 : List Piece) (K C : ByteArray) (j : Nat) : runTo (ETn q) 1000 ((ETn q).S 15) (bodyOf Tryz.prog 15 12) (TI (len + 4) cap z 3 e (j : Int)) (MR c (xsW 3 (.sl 4 0 n k) xs) (len + 4) p1 p2 p3 (qPs q n) ++ [nB K C, nB K C]) [true, true, false] (TIx (len + 4) cap z 3) 7 =
    some ([(0 : Int) ≤ 3 ∧ (3 : Int) < ((len + 4 : Nat) : Int), decide ((j : Int) < (n : Int)) = true, decide ((j : Int) < 4) = true, decide (e = 0) = false], .exit 2, TIx (len + 4) cap z 3, MR c (xsW 3 (.sl 4 0 n k) xs) (len + 4) p1 p2 p3 (qPs q n) ++ [nB K C, nB K C]) := by kernel_rfl
end Go.Ev.H5

namespace Go.Ev.H5
open Go Go.Proofs Go.RowKit
set_option maxRecDepth 100000
/-- where the inner loop ends. -/
noncomputable def fin (z : Int) (q : Nat → Nat) : Nat → Nat → ByteArray → ByteArray → Int → ByteArray × ByteArray
  | 0, _, K, C, _ => (K, C)
  | d + 1, j, K, C, E => bif decide (E = 0) then fin z q d (j + 1) (nxK z K C (q (0 + j * 1))) (nxC z K C (q (0 + j * 1))) (nxE z K C (q (0 + j * 1))) else (K, C)
theorem fin_zero (z : Int) (q : Nat → Nat) (j : Nat) (K C : ByteArray) (E : Int) : fin z q 0 j K C E = (K, C) := rfl
theorem fin_succ (z : Int) (q : Nat → Nat) (d j : Nat) (K C : ByteArray) (E : Int) : fin z q (d + 1) j K C E = bif decide (E = 0) then fin z q d (j + 1) (nxK z K C (q (0 + j * 1))) (nxC z K C (q (0 + j * 1))) (nxE z K C (q (0 + j * 1))) else (K, C) := rfl
theorem bb_self (K : ByteArray) : (K == K) = true := by
  cases K with | mk a => exact (beq_self_eq_true a : (a == a) = true)
theorem eqS_self (K C : ByteArray) : (!eqS K C K C) = false := by unfold eqS; rw [bb_self, bb_self]; rfl
theorem inner {y : Code} {T : Int → Int → List AV} {Tx : List AV} {M : ByteArray → ByteArray → List Blk} {z : Int} {q : Nat → Nat} {n : Nat} (hl : ∀ K C K' C', (M K C).length = (M K' C').length)
    (step : ∀ K C (j : Nat), j < n → j < 4 → mayB z K C = true → Goes Tryz.prog y .normal (T 0 (j : Int)) (M K C) (T (nxE z K C (q (0 + j * 1))) ((j : Int) + 1)) (M (nxK z K C (q (0 + j * 1))) (nxC z K C (q (0 + j * 1)))))
    (xe : ∀ K C (e : Int) (j : Nat), j < n → j < 4 → e ≠ 0 → Goes Tryz.prog y (.exit 2) (T e (j : Int)) (M K C) Tx (M K C))
    (xn : ∀ K C (e : Int) (j : Nat), j = min n 4 → Goes Tryz.prog y (.exit 2) (T e (j : Int)) (M K C) Tx (M K C)) (hz : z = 1 ∨ z = 2) :
    ∀ (d j : Nat) (K C : ByteArray) (E : Int), j + d = min n 4 → (E = 0 → mayB z K C = true) → GoesN Tryz.prog y (d + 1) (.exit 2) (T E (j : Int)) (M K C) Tx (M (fin z q d j K C E).1 (fin z q d j K C E).2) := by
  intro d
  induction d with
  | zero =>
    intro j K C E hj _
    rw [fin_zero]
    exact GoesN.out (by simp) (xn K C E j (by omega))
  | succ d ih =>
    intro j K C E hj hm
    rw [fin_succ]
    by_cases he : E = 0
    · subst he
      rw [decide_eq_true rfl, cond_true]
      have ih := ih (j + 1) (nxK z K C (q (0 + j * 1))) (nxC z K C (q (0 + j * 1))) (nxE z K C (q (0 + j * 1))) (by omega) (fun h => ch_may hz (hm rfl) h)
      rw [show ((j + 1 : Nat) : Int) = (j : Int) + 1 by omega] at ih
      exact GoesN.cons (hl _ _ _ _) (step K C j (by omega) (by omega) (hm rfl)) ih
    · rw [decide_eq_false he, cond_false]
      exact GoesN.out (by simp) (xe K C E j (by omega) (by omega) he)
/-! pointers -/
def XsOk (xs : Nat → Atom) : Prop := ∀ k n, 5 ≤ n → allPtr (fun b => Nat.blt b n) [.a (xs k)] = true
theorem XsOk.w {xs : Nat → Atom} (h : XsOk xs) {i : Nat} {x : Atom} (hx : ∀ n, 5 ≤ n → allPtr (fun b => Nat.blt b n) [.a x] = true) : XsOk (xsW i x xs) := by
  intro k n hn
  unfold xsW
  cases Nat.beq k i with
  | true => exact hx n hn
  | false => exact h k n hn
theorem sl_ok {J n k N : Nat} (hJ : J < 5) (hN : 5 ≤ N) : allPtr (fun b => Nat.blt b N) [.a (.sl J 0 n k)] = true := by
  simp only [allPtr, Bool.and_true]
  rw [Nat.blt]; exact Nat.ble_eq_true_of_le (by omega)
theorem memWf_mr {c : Cells} {xs : Nat → Atom} {m : Nat} {p1 p2 p3 p4 : List Piece} {N : Nat} (hN : 5 ≤ N) (hx : XsOk xs) (h1 : Free (roB p1)) (h2 : Free (roB p2)) (h3 : Free (roB p3)) (h4 : Free (roB p4)) (l : List Blk) (hl : memWf N l = true) : memWf N (MR c xs m p1 p2 p3 p4 ++ l) = true := by
  simp only [MR, List.cons_append, List.nil_append, memWf, h1 _, h2 _, h3 _, h4 _, hl, Bool.and_true]
  exact rowsX_ptr _ _ _ _ _ fun k _ => hx _ _ hN
theorem wfR5 {c : Cells} {xs : Nat → Atom} {m : Nat} {p1 p2 p3 p4 : List Piece} {t : Nat} {s : List (Nat × AV)} (hx : XsOk xs) (h1 : Free (roB p1)) (h2 : Free (roB p2)) (h3 : Free (roB p3)) (h4 : Free (roB p4)) (h : tmsWf 5 (slots t s) = true) : wfS (slots t s) (MR c xs m p1 p2 p3 p4) = true := by
  have := memWf_mr (c := c) (m := m) (N := 5) (Nat.le_refl _) hx h1 h2 h3 h4 [] rfl
  rw [List.append_nil] at this
  unfold wfS
  rw [show (MR c xs m p1 p2 p3 p4).length = 5 from rfl, h, this]; rfl
theorem wfR7 {c : Cells} {xs : Nat → Atom} {m : Nat} {p1 p2 p3 p4 : List Piece} {K C K' C' : ByteArray} {t : Nat} {s : List (Nat × AV)} (hx : XsOk xs) (h1 : Free (roB p1)) (h2 : Free (roB p2)) (h3 : Free (roB p3)) (h4 : Free (roB p4)) (h : tmsWf 7 (slots t s) = true) : wfS (slots t s) (MR c xs m p1 p2 p3 p4 ++ [nB K C, nB K' C']) = true := by
  have := memWf_mr (c := c) (m := m) (N := 7) (by omega) hx h1 h2 h3 h4 [nB K C, nB K' C'] rfl
  unfold wfS
  rw [show (MR c xs m p1 p2 p3 p4 ++ [nB K C, nB K' C']).length = 7 from rfl, h, this]; rfl
theorem ldQ {q : Nat → Nat} {n j : Nat} (h : j < n) : LoadsAs Tryz.prog 32 (qPs q n) (0 + j * 1) (.one (.u .u32 (q (0 + j * 1)))) := by
  exact loads_fld (c := numQ q) (i := j) (n := n) (off := 0 + j * 1) (sh := [.u32]) [] .u32 [] rfl ag32 h (by simp [shSz, SK.sz]) rfl
theorem qPs_free (q : Nat → Nat) (n : Nat) : Free (roB (qPs q n)) := fun f => row_free _ _ f _ _
theorem inner0 {c : Cells} {cap n k : Nat} {z : Int} {xs : Nat → Atom} {q : Nat → Nat} {p2 p3 p4 : List Piece} (hx : XsOk xs) (f2 : Free (roB p2)) (f3 : Free (roB p3)) (f4 : Free (roB p4)) (hz : z = 1 ∨ z = 2) (len : Nat) (d j : Nat) (K C : ByteArray) (E : Int) (hj : j + d = min n 4) (hm : E = 0 → mayB z K C = true) :
    GoesN Tryz.prog (bodyOf Tryz.prog 15 12) (d + 1) (.exit 2) (TI (len + 1) cap z 0 E (j : Int)) (MR c (xsW 0 (.sl 1 0 n k) xs) (len + 1) (qPs q n) p2 p3 p4 ++ [nB K C, nB K C]) (TIx (len + 1) cap z 0) (MR c (xsW 0 (.sl 1 0 n k) xs) (len + 1) (qPs q n) p2 p3 p4 ++ [nB (fin z q d j K C E).1 (fin z q d j K C E).2, nB (fin z q d j K C E).1 (fin z q d j K C E).2]) := by
  refine inner (M := fun K C => MR c (xsW 0 (.sl 1 0 n k) xs) (len + 1) (qPs q n) p2 p3 p4 ++ [nB K C, nB K C]) (T := fun e j => TI (len + 1) cap z 0 e j) (Tx := TIx (len + 1) cap z 0) (fun _ _ _ _ => rfl) ?_ ?_ ?_ hz d j K C E hj hm
  · intro K C j h1 h2 h3
    exact Runs.goes (envTn q) ⟨_, _, ti0 c len cap n k z xs q p2 p3 p4 K C j, ⟨⟨by omega, by omega⟩, decide_eq_true (by omega), decide_eq_true (by omega), by decide, ⟨by omega, by omega⟩, ⟨by omega, by omega⟩, ldQ h1, hz, h3, atH_ge _, hz, h3, atH_ge _, by rw [decide_eq_true rfl]; rfl, eqS_self _ _, by unfold inI; omega, trivial⟩, wfR7 (hx.w fun _ h => sl_ok (by omega) h) (qPs_free _ _) f2 f3 f4 (by kernel_rfl)⟩
  · intro K C e j h1 h2 h3
    exact Runs.goes (envTn q) ⟨_, _, txe0 c len cap n k z e xs q p2 p3 p4 K C j, ⟨⟨by omega, by omega⟩, decide_eq_true (by omega), decide_eq_true (by omega), decide_eq_false h3, trivial⟩, wfR7 (hx.w fun _ h => sl_ok (by omega) h) (qPs_free _ _) f2 f3 f4 (by kernel_rfl)⟩
  · intro K C e j h1
    by_cases hn : j < n
    · exact Runs.goes (envTn q) ⟨_, _, txf0 c len cap n k z e xs q p2 p3 p4 K C j, ⟨⟨by omega, by omega⟩, decide_eq_true (by omega), decide_eq_false (by omega), trivial⟩, wfR7 (hx.w fun _ h => sl_ok (by omega) h) (qPs_free _ _) f2 f3 f4 (by kernel_rfl)⟩
    · exact Runs.goes (envTn q) ⟨_, _, txn0 c len cap n k z e xs q p2 p3 p4 K C j, ⟨⟨by omega, by omega⟩, decide_eq_false (by omega), trivial⟩, wfR7 (hx.w fun _ h => sl_ok (by omega) h) (qPs_free _ _) f2 f3 f4 (by kernel_rfl)⟩
theorem inner1 {c : Cells} {cap n k : Nat} {z : Int} {xs : Nat → Atom} {q : Nat → Nat} {p1 p3 p4 : List Piece} (hx : XsOk xs) (f1 : Free (roB p1)) (f3 : Free (roB p3)) (f4 : Free (roB p4)) (hz : z = 1 ∨ z = 2) (len : Nat) (d j : Nat) (K C : ByteArray) (E : Int) (hj : j + d = min n 4) (hm : E = 0 → mayB z K C = true) :
    GoesN Tryz.prog (bodyOf Tryz.prog 15 12) (d + 1) (.exit 2) (TI (len + 2) cap z 1 E (j : Int)) (MR c (xsW 1 (.sl 2 0 n k) xs) (len + 2) p1 (qPs q n) p3 p4 ++ [nB K C, nB K C]) (TIx (len + 2) cap z 1) (MR c (xsW 1 (.sl 2 0 n k) xs) (len + 2) p1 (qPs q n) p3 p4 ++ [nB (fin z q d j K C E).1 (fin z q d j K C E).2, nB (fin z q d j K C E).1 (fin z q d j K C E).2]) := by
  refine inner (M := fun K C => MR c (xsW 1 (.sl 2 0 n k) xs) (len + 2) p1 (qPs q n) p3 p4 ++ [nB K C, nB K C]) (T := fun e j => TI (len + 2) cap z 1 e j) (Tx := TIx (len + 2) cap z 1) (fun _ _ _ _ => rfl) ?_ ?_ ?_ hz d j K C E hj hm
  · intro K C j h1 h2 h3
    exact Runs.goes (envTn q) ⟨_, _, ti1 c len cap n k z xs q p1 p3 p4 K C j, ⟨⟨by omega, by omega⟩, decide_eq_true (by omega), decide_eq_true (by omega), by decide, ⟨by omega, by omega⟩, ⟨by omega, by omega⟩, ldQ h1, hz, h3, atH_ge _, hz, h3, atH_ge _, by rw [decide_eq_true rfl]; rfl, eqS_self _ _, by unfold inI; omega, trivial⟩, wfR7 (hx.w fun _ h => sl_ok (by omega) h) f1 (qPs_free _ _) f3 f4 (by kernel_rfl)⟩
  · intro K C e j h1 h2 h3
    exact Runs.goes (envTn q) ⟨_, _, txe1 c len cap n k z e xs q p1 p3 p4 K C j, ⟨⟨by omega, by omega⟩, decide_eq_true (by omega), decide_eq_true (by omega), decide_eq_false h3, trivial⟩, wfR7 (hx.w fun _ h => sl_ok (by omega) h) f1 (qPs_free _ _) f3 f4 (by kernel_rfl)⟩
  · intro K C e j h1
    by_cases hn : j < n
    · exact Runs.goes (envTn q) ⟨_, _, txf1 c len cap n k z e xs q p1 p3 p4 K C j, ⟨⟨by omega, by omega⟩, decide_eq_true (by omega), decide_eq_false (by omega), trivial⟩, wfR7 (hx.w fun _ h => sl_ok (by omega) h) f1 (qPs_free _ _) f3 f4 (by kernel_rfl)⟩
    · exact Runs.goes (envTn q) ⟨_, _, txn1 c len cap n k z e xs q p1 p3 p4 K C j, ⟨⟨by omega, by omega⟩, decide_eq_false (by omega), trivial⟩, wfR7 (hx.w fun _ h => sl_ok (by omega) h) f1 (qPs_free _ _) f3 f4 (by kernel_rfl)⟩
theorem inner2 {c : Cells} {cap n k : Nat} {z : Int} {xs : Nat → Atom} {q : Nat → Nat} {p1 p2 p4 : List Piece} (hx : XsOk xs) (f1 : Free (roB p1)) (f2 : Free (roB p2)) (f4 : Free (roB p4)) (hz : z = 1 ∨ z = 2) (len : Nat) (d j : Nat) (K C : ByteArray) (E : Int) (hj : j + d = min n 4) (hm : E = 0 → mayB z K C = true) :
    GoesN Tryz.prog (bodyOf Tryz.prog 15 12) (d + 1) (.exit 2) (TI (len + 3) cap z 2 E (j : Int)) (MR c (xsW 2 (.sl 3 0 n k) xs) (len + 3) p1 p2 (qPs q n) p4 ++ [nB K C, nB K C]) (TIx (len + 3) cap z 2) (MR c (xsW 2 (.sl 3 0 n k) xs) (len + 3) p1 p2 (qPs q n) p4 ++ [nB (fin z q d j K C E).1 (fin z q d j K C E).2, nB (fin z q d j K C E).1 (fin z q d j K C E).2]) := by
  refine inner (M := fun K C => MR c (xsW 2 (.sl 3 0 n k) xs) (len + 3) p1 p2 (qPs q n) p4 ++ [nB K C, nB K C]) (T := fun e j => TI (len + 3) cap z 2 e j) (Tx := TIx (len + 3) cap z 2) (fun _ _ _ _ => rfl) ?_ ?_ ?_ hz d j K C E hj hm
  · intro K C j h1 h2 h3
    exact Runs.goes (envTn q) ⟨_, _, ti2 c len cap n k z xs q p1 p2 p4 K C j, ⟨⟨by omega, by omega⟩, decide_eq_true (by omega), decide_eq_true (by omega), by decide, ⟨by omega, by omega⟩, ⟨by omega, by omega⟩, ldQ h1, hz, h3, atH_ge _, hz, h3, atH_ge _, by rw [decide_eq_true rfl]; rfl, eqS_self _ _, by unfold inI; omega, trivial⟩, wfR7 (hx.w fun _ h => sl_ok (by omega) h) f1 f2 (qPs_free _ _) f4 (by kernel_rfl)⟩
  · intro K C e j h1 h2 h3
    exact Runs.goes (envTn q) ⟨_, _, txe2 c len cap n k z e xs q p1 p2 p4 K C j, ⟨⟨by omega, by omega⟩, decide_eq_true (by omega), decide_eq_true (by omega), decide_eq_false h3, trivial⟩, wfR7 (hx.w fun _ h => sl_ok (by omega) h) f1 f2 (qPs_free _ _) f4 (by kernel_rfl)⟩
  · intro K C e j h1
    by_cases hn : j < n
    · exact Runs.goes (envTn q) ⟨_, _, txf2 c len cap n k z e xs q p1 p2 p4 K C j, ⟨⟨by omega, by omega⟩, decide_eq_true (by omega), decide_eq_false (by omega), trivial⟩, wfR7 (hx.w fun _ h => sl_ok (by omega) h) f1 f2 (qPs_free _ _) f4 (by kernel_rfl)⟩
    · exact Runs.goes (envTn q) ⟨_, _, txn2 c len cap n k z e xs q p1 p2 p4 K C j, ⟨⟨by omega, by omega⟩, decide_eq_false (by omega), trivial⟩, wfR7 (hx.w fun _ h => sl_ok (by omega) h) f1 f2 (qPs_free _ _) f4 (by kernel_rfl)⟩
theorem inner3 {c : Cells} {cap n k : Nat} {z : Int} {xs : Nat → Atom} {q : Nat → Nat} {p1 p2 p3 : List Piece} (hx : XsOk xs) (f1 : Free (roB p1)) (f2 : Free (roB p2)) (f3 : Free (roB p3)) (hz : z = 1 ∨ z = 2) (len : Nat) (d j : Nat) (K C : ByteArray) (E : Int) (hj : j + d = min n 4) (hm : E = 0 → mayB z K C = true) :
    GoesN Tryz.prog (bodyOf Tryz.prog 15 12) (d + 1) (.exit 2) (TI (len + 4) cap z 3 E (j : Int)) (MR c (xsW 3 (.sl 4 0 n k) xs) (len + 4) p1 p2 p3 (qPs q n) ++ [nB K C, nB K C]) (TIx (len + 4) cap z 3) (MR c (xsW 3 (.sl 4 0 n k) xs) (len + 4) p1 p2 p3 (qPs q n) ++ [nB (fin z q d j K C E).1 (fin z q d j K C E).2, nB (fin z q d j K C E).1 (fin z q d j K C E).2]) := by
  refine inner (M := fun K C => MR c (xsW 3 (.sl 4 0 n k) xs) (len + 4) p1 p2 p3 (qPs q n) ++ [nB K C, nB K C]) (T := fun e j => TI (len + 4) cap z 3 e j) (Tx := TIx (len + 4) cap z 3) (fun _ _ _ _ => rfl) ?_ ?_ ?_ hz d j K C E hj hm
  · intro K C j h1 h2 h3
    exact Runs.goes (envTn q) ⟨_, _, ti3 c len cap n k z xs q p1 p2 p3 K C j, ⟨⟨by omega, by omega⟩, decide_eq_true (by omega), decide_eq_true (by omega), by decide, ⟨by omega, by omega⟩, ⟨by omega, by omega⟩, ldQ h1, hz, h3, atH_ge _, hz, h3, atH_ge _, by rw [decide_eq_true rfl]; rfl, eqS_self _ _, by unfold inI; omega, trivial⟩, wfR7 (hx.w fun _ h => sl_ok (by omega) h) f1 f2 f3 (qPs_free _ _) (by kernel_rfl)⟩
  · intro K C e j h1 h2 h3
    exact Runs.goes (envTn q) ⟨_, _, txe3 c len cap n k z e xs q p1 p2 p3 K C j, ⟨⟨by omega, by omega⟩, decide_eq_true (by omega), decide_eq_true (by omega), decide_eq_false h3, trivial⟩, wfR7 (hx.w fun _ h => sl_ok (by omega) h) f1 f2 f3 (qPs_free _ _) (by kernel_rfl)⟩
  · intro K C e j h1
    by_cases hn : j < n
    · exact Runs.goes (envTn q) ⟨_, _, txf3 c len cap n k z e xs q p1 p2 p3 K C j, ⟨⟨by omega, by omega⟩, decide_eq_true (by omega), decide_eq_false (by omega), trivial⟩, wfR7 (hx.w fun _ h => sl_ok (by omega) h) f1 f2 f3 (qPs_free _ _) (by kernel_rfl)⟩
    · exact Runs.goes (envTn q) ⟨_, _, txn3 c len cap n k z e xs q p1 p2 p3 K C j, ⟨⟨by omega, by omega⟩, decide_eq_false (by omega), trivial⟩, wfR7 (hx.w fun _ h => sl_ok (by omega) h) f1 f2 f3 (qPs_free _ _) (by kernel_rfl)⟩
end Go.Ev.H5

namespace Go.Ev.H5
open Go Go.Proofs Go.RowKit
set_option maxRecDepth 100000
/-! a turn -/
def sdL (S : ByteArray) : Int := bif decide ((16 : Int) < bif decide ((64 : Int) < (S.size : Int)) then (64 : Int) else (S.size : Int)) then (bif decide ((64 : Int) < (S.size : Int)) then (64 : Int) else (S.size : Int)) else (16 : Int)
def sd (S : ByteArray) : ByteArray := (S ++ zs 16).extract 0 (sdL S).toNat
theorem sdL_eq (S : ByteArray) : sdL S = ((max 16 (min 64 S.size) : Nat) : Int) := by
  unfold sdL
  by_cases h : 64 < S.size
  · rw [decide_eq_true (show (64 : Int) < (S.size : Int) by omega), cond_true, decide_eq_true (by omega), cond_true]; omega
  · rw [decide_eq_false (show ¬ (64 : Int) < (S.size : Int) by omega), cond_false]
    by_cases h2 : 16 < S.size
    · rw [decide_eq_true (by omega), cond_true]; omega
    · rw [decide_eq_false (by omega), cond_false]; omega
theorem sz16 (S : ByteArray) : (S ++ zs 16).size = S.size + 16 := by rw [ByteArray.size_append, zs_size]
theorem sd_size (S : ByteArray) : (sd S).size = max 16 (min 64 S.size) := by
  unfold sd
  rw [sdL_eq, Int.toNat_natCast, cut_size _ _ _ (by rw [sz16]; omega)]; omega
/-- a master's functions, as variables of a run. -/
structure MsF where
  k : Int → ByteArray → ByteArray
  c : Int → ByteArray → ByteArray
  e : Int → ByteArray → Int
  b : Int → ByteArray → Bool
noncomputable def msF : MsF := ⟨msK, msC, msE, sdB⟩
def MsF.pk (g : MsF) (z : Int) (s : ByteArray) : ByteArray := bif g.b z s then g.k z s else e0
def MsF.pc (g : MsF) (z : Int) (s : ByteArray) : ByteArray := bif g.b z s then g.c z s else e0
def MsF.pe (g : MsF) (z : Int) (s : ByteArray) : Int := bif g.b z s then g.e z s else 1
def fnMsV (g : MsF) (vs : List V1) : Option (List Prop × AV) := match vs with | [.one (.i z), .one (.v (.string s))] => some ([], res (bif g.b z s then g.k z s else e0) (bif g.b z s then g.c z s else e0) (bif g.b z s then g.e z s else 1)) | _ => none
def fnMsQ (g : MsF) (vs : List V1) : Option (List Prop × AV) := match vs with | [.one (.i z), .one (.v (.string s))] => some ([z = 1 ∨ z = 2, s.size ≤ 1000000], res (g.k z s) (g.c z s) (g.e z s)) | _ => none
noncomputable def LTv (g : MsF) (q : Nat → Nat) : List CT := ⟨22, fnMsV g⟩ :: ⟨16, fnMsQ g⟩ :: LTn q
noncomputable def ETv (g : MsF) (q : Nat → Nat) : Env := mkE (LTv g q) S15
theorem ct22v : CTok ⟨22, fnMsV msF⟩ := by
  intro vs ob r h ho
  simp only [fnMsV] at h
  split at h
  · simp only [Option.some.injEq, Prod.mk.injEq] at h
    obtain ⟨rfl, rfl⟩ := h
    exact spec22 _ _
  · simp at h
theorem ct16v : CTok ⟨16, fnMsQ msF⟩ := by
  intro vs ob r h ho
  simp only [fnMsQ] at h
  split at h
  · simp only [Option.some.injEq, Prod.mk.injEq] at h
    obtain ⟨rfl, rfl⟩ := h
    obtain ⟨h1, h2, _⟩ := ho
    exact spec16 _ _ h1 h2
  · simp at h
theorem envTv (q : Nat → Nat) : EnvOK (ETv msF q) := envMk (show AllCT (LTv msF q) from ⟨ct22v, ct16v, LTn_ok q⟩) S15
theorem pk_eq {z : Int} {s : ByteArray} (h : sdB z s = true) : msF.pk z s = msF.k z s := by
  have h' : msF.b z s = true := by dsimp only [msF]; exact h
  unfold MsF.pk
  rw [h', cond_true]
theorem pc_eq {z : Int} {s : ByteArray} (h : sdB z s = true) : msF.pc z s = msF.c z s := by
  have h' : msF.b z s = true := by dsimp only [msF]; exact h
  unfold MsF.pc
  rw [h', cond_true]
theorem pe_eq {z : Int} {s : ByteArray} (h : sdB z s = true) : msF.pe z s = msF.e z s := by
  have h' : msF.b z s = true := by dsimp only [msF]; exact h
  unfold MsF.pe
  rw [h', cond_true]
theorem sdB_sd {z : Int} (hz : z = 1 ∨ z = 2) (S : ByteArray) : sdB z (sd S) = true := by
  have := sd_size S
  exact sdB_of hz (by omega) (by omega)
def obA (S : ByteArray) (i : Int) (m : Nat) : List Prop := [decide (i < (m : Int)) = true, decide (i < 4) = true, (0 : Int) ≤ i ∧ i < (m : Int), (0 : Int) ≤ 16 ∧ (16 : Int) ≤ 1000000, S.size + 16 ≤ 9223372036854775807, (0 : Int) ≤ i ∧ i < (m : Int), (0 : Int) ≤ sdL S ∧ sdL S ≤ ((S ++ zs 16).size : Int)]
def obB (g : MsF) (z : Int) (s : ByteArray) : List Prop := [z = 1 ∨ z = 2, s.size ≤ 1000000, (!decide (g.pe z s = g.e z s)) = false, (!eqS (g.pk z s) (g.pc z s) (g.k z s) (g.c z s)) = false]
def TO (len cap : Nat) (z : Int) (i : Int) : List AV := slots 113 [(0, slN len cap), (1, iV z), (5, iV i)]
noncomputable def ELp0 (g : MsF) (c : Cells) (len cap n k : Nat) (z : Int) (xs : Nat → Atom) (q : Nat → Nat) (p2 p3 p4 : List Piece) (Kf Cf : ByteArray) : Env :=
  addLp (ETv g q) 12 (bodyOf Tryz.prog 15 12) (sumC (TI (len + 1) cap z 0 (g.e z (sd (sA c (0 * 5 + 1)))) 0) (MR c (xsW 0 (.sl 1 0 n k) xs) (len + 1) (qPs q n) p2 p3 p4 ++ [nB (g.k z (sd (sA c (0 * 5 + 1)))) (g.c z (sd (sA c (0 * 5 + 1)))), nB (g.k z (sd (sA c (0 * 5 + 1)))) (g.c z (sd (sA c (0 * 5 + 1))))]) (TIx (len + 1) cap z 0) (MR c (xsW 0 (.sl 1 0 n k) xs) (len + 1) (qPs q n) p2 p3 p4 ++ [nB Kf Cf, nB Kf Cf]) (.exit 2))
theorem tl0 (g : MsF) (c : Cells) (len cap n k : Nat) (z : Int) (xs : Nat → Atom) (q : Nat → Nat) (p2 p3 p4 : List Piece) (Kf Cf : ByteArray) : runTo (ELp0 g c len cap n k z xs q p2 p3 p4 Kf Cf) 1000 (((ELp0 g c len cap n k z xs q p2 p3 p4 Kf Cf)).S 15) (bodyOf Tryz.prog 15 4) (TO (len + 1) cap z 0) (MR c (xsW 0 (.sl 1 0 n k) xs) (len + 1) (qPs q n) p2 p3 p4) [true, true, false, false] (TO (len + 1) cap z 1) 5 =
    some (obA (sA c (0 * 5 + 1)) 0 (len + 1) ++ obB g z (sd (sA c (0 * 5 + 1))) ++ [bodyOf Tryz.prog 15 12 = bodyOf Tryz.prog 15 12, (TI (len + 1) cap z 0 (g.e z (sd (sA c (0 * 5 + 1)))) 0, MR c (xsW 0 (.sl 1 0 n k) xs) (len + 1) (qPs q n) p2 p3 p4 ++ [nB (g.pk z (sd (sA c (0 * 5 + 1)))) (g.pc z (sd (sA c (0 * 5 + 1)))), nB (g.k z (sd (sA c (0 * 5 + 1)))) (g.c z (sd (sA c (0 * 5 + 1))))]) = (TI (len + 1) cap z 0 (g.e z (sd (sA c (0 * 5 + 1)))) 0, MR c (xsW 0 (.sl 1 0 n k) xs) (len + 1) (qPs q n) p2 p3 p4 ++ [nB (g.k z (sd (sA c (0 * 5 + 1)))) (g.c z (sd (sA c (0 * 5 + 1)))), nB (g.k z (sd (sA c (0 * 5 + 1)))) (g.c z (sd (sA c (0 * 5 + 1))))]), wfS (TI (len + 1) cap z 0 (g.e z (sd (sA c (0 * 5 + 1)))) 0) (MR c (xsW 0 (.sl 1 0 n k) xs) (len + 1) (qPs q n) p2 p3 p4 ++ [nB (g.k z (sd (sA c (0 * 5 + 1)))) (g.c z (sd (sA c (0 * 5 + 1)))), nB (g.k z (sd (sA c (0 * 5 + 1)))) (g.c z (sd (sA c (0 * 5 + 1))))]) = true, inI ((0 : Int) + 1)], .normal, TO (len + 1) cap z 1, MR c (xsW 0 (.sl 1 0 n k) xs) (len + 1) (qPs q n) p2 p3 p4) := by kernel_rfl
theorem tn0 (g : MsF) (c : Cells) (len cap : Nat) (o : Option Addr) (cp : Nat) (z : Int) (xs : Nat → Atom) (q : Nat → Nat) (p1 p2 p3 p4 : List Piece) : runTo (ETv g q) 1000 ((ETv g q).S 15) (bodyOf Tryz.prog 15 4) (TO (len + 1) cap z 0) (MR c (xsW 0 (.v (.slice o 0 cp)) xs) (len + 1) p1 p2 p3 p4) [true, true, false, false, false] (TO (len + 1) cap z 1) 5 =
    some (obA (sA c (0 * 5 + 1)) 0 (len + 1) ++ obB g z (sd (sA c (0 * 5 + 1))) ++ [(0 : Int) ≤ 0 ∧ (0 : Int) < (((len + 1) : Nat) : Int), decide ((0 : Int) < ((0 : Nat) : Int)) = false, inI ((0 : Int) + 1)], .normal, TO (len + 1) cap z 1, MR c (xsW 0 (.v (.slice o 0 cp)) xs) (len + 1) p1 p2 p3 p4) := by kernel_rfl
noncomputable def ELp1 (g : MsF) (c : Cells) (len cap n k : Nat) (z : Int) (xs : Nat → Atom) (q : Nat → Nat) (p1 p3 p4 : List Piece) (Kf Cf : ByteArray) : Env :=
  addLp (ETv g q) 12 (bodyOf Tryz.prog 15 12) (sumC (TI (len + 2) cap z 1 (g.e z (sd (sA c (1 * 5 + 1)))) 0) (MR c (xsW 1 (.sl 2 0 n k) xs) (len + 2) p1 (qPs q n) p3 p4 ++ [nB (g.k z (sd (sA c (1 * 5 + 1)))) (g.c z (sd (sA c (1 * 5 + 1)))), nB (g.k z (sd (sA c (1 * 5 + 1)))) (g.c z (sd (sA c (1 * 5 + 1))))]) (TIx (len + 2) cap z 1) (MR c (xsW 1 (.sl 2 0 n k) xs) (len + 2) p1 (qPs q n) p3 p4 ++ [nB Kf Cf, nB Kf Cf]) (.exit 2))
theorem tl1 (g : MsF) (c : Cells) (len cap n k : Nat) (z : Int) (xs : Nat → Atom) (q : Nat → Nat) (p1 p3 p4 : List Piece) (Kf Cf : ByteArray) : runTo (ELp1 g c len cap n k z xs q p1 p3 p4 Kf Cf) 1000 (((ELp1 g c len cap n k z xs q p1 p3 p4 Kf Cf)).S 15) (bodyOf Tryz.prog 15 4) (TO (len + 2) cap z 1) (MR c (xsW 1 (.sl 2 0 n k) xs) (len + 2) p1 (qPs q n) p3 p4) [true, true, false, false] (TO (len + 2) cap z 2) 5 =
    some (obA (sA c (1 * 5 + 1)) 1 (len + 2) ++ obB g z (sd (sA c (1 * 5 + 1))) ++ [bodyOf Tryz.prog 15 12 = bodyOf Tryz.prog 15 12, (TI (len + 2) cap z 1 (g.e z (sd (sA c (1 * 5 + 1)))) 0, MR c (xsW 1 (.sl 2 0 n k) xs) (len + 2) p1 (qPs q n) p3 p4 ++ [nB (g.pk z (sd (sA c (1 * 5 + 1)))) (g.pc z (sd (sA c (1 * 5 + 1)))), nB (g.k z (sd (sA c (1 * 5 + 1)))) (g.c z (sd (sA c (1 * 5 + 1))))]) = (TI (len + 2) cap z 1 (g.e z (sd (sA c (1 * 5 + 1)))) 0, MR c (xsW 1 (.sl 2 0 n k) xs) (len + 2) p1 (qPs q n) p3 p4 ++ [nB (g.k z (sd (sA c (1 * 5 + 1)))) (g.c z (sd (sA c (1 * 5 + 1)))), nB (g.k z (sd (sA c (1 * 5 + 1)))) (g.c z (sd (sA c (1 * 5 + 1))))]), wfS (TI (len + 2) cap z 1 (g.e z (sd (sA c (1 * 5 + 1)))) 0) (MR c (xsW 1 (.sl 2 0 n k) xs) (len + 2) p1 (qPs q n) p3 p4 ++ [nB (g.k z (sd (sA c (1 * 5 + 1)))) (g.c z (sd (sA c (1 * 5 + 1)))), nB (g.k z (sd (sA c (1 * 5 + 1)))) (g.c z (sd (sA c (1 * 5 + 1))))]) = true, inI ((1 : Int) + 1)], .normal, TO (len + 2) cap z 2, MR c (xsW 1 (.sl 2 0 n k) xs) (len + 2) p1 (qPs q n) p3 p4) := by kernel_rfl
theorem tn1 (g : MsF) (c : Cells) (len cap : Nat) (o : Option Addr) (cp : Nat) (z : Int) (xs : Nat → Atom) (q : Nat → Nat) (p1 p2 p3 p4 : List Piece) : runTo (ETv g q) 1000 ((ETv g q).S 15) (bodyOf Tryz.prog 15 4) (TO (len + 2) cap z 1) (MR c (xsW 1 (.v (.slice o 0 cp)) xs) (len + 2) p1 p2 p3 p4) [true, true, false, false, false] (TO (len + 2) cap z 2) 5 =
    some (obA (sA c (1 * 5 + 1)) 1 (len + 2) ++ obB g z (sd (sA c (1 * 5 + 1))) ++ [(0 : Int) ≤ 1 ∧ (1 : Int) < (((len + 2) : Nat) : Int), decide ((0 : Int) < ((0 : Nat) : Int)) = false, inI ((1 : Int) + 1)], .normal, TO (len + 2) cap z 2, MR c (xsW 1 (.v (.slice o 0 cp)) xs) (len + 2) p1 p2 p3 p4) := by kernel_rfl
noncomputable def ELp2 (g : MsF) (c : Cells) (len cap n k : Nat) (z : Int) (xs : Nat → Atom) (q : Nat → Nat) (p1 p2 p4 : List Piece) (Kf Cf : ByteArray) : Env :=
  addLp (ETv g q) 12 (bodyOf Tryz.prog 15 12) (sumC (TI (len + 3) cap z 2 (g.e z (sd (sA c (2 * 5 + 1)))) 0) (MR c (xsW 2 (.sl 3 0 n k) xs) (len + 3) p1 p2 (qPs q n) p4 ++ [nB (g.k z (sd (sA c (2 * 5 + 1)))) (g.c z (sd (sA c (2 * 5 + 1)))), nB (g.k z (sd (sA c (2 * 5 + 1)))) (g.c z (sd (sA c (2 * 5 + 1))))]) (TIx (len + 3) cap z 2) (MR c (xsW 2 (.sl 3 0 n k) xs) (len + 3) p1 p2 (qPs q n) p4 ++ [nB Kf Cf, nB Kf Cf]) (.exit 2))
theorem tl2 (g : MsF) (c : Cells) (len cap n k : Nat) (z : Int) (xs : Nat → Atom) (q : Nat → Nat) (p1 p2 p4 : List Piece) (Kf Cf : ByteArray) : runTo (ELp2 g c len cap n k z xs q p1 p2 p4 Kf Cf) 1000 (((ELp2 g c len cap n k z xs q p1 p2 p4 Kf Cf)).S 15) (bodyOf Tryz.prog 15 4) (TO (len + 3) cap z 2) (MR c (xsW 2 (.sl 3 0 n k) xs) (len + 3) p1 p2 (qPs q n) p4) [true, true, false, false] (TO (len + 3) cap z 3) 5 =
    some (obA (sA c (2 * 5 + 1)) 2 (len + 3) ++ obB g z (sd (sA c (2 * 5 + 1))) ++ [bodyOf Tryz.prog 15 12 = bodyOf Tryz.prog 15 12, (TI (len + 3) cap z 2 (g.e z (sd (sA c (2 * 5 + 1)))) 0, MR c (xsW 2 (.sl 3 0 n k) xs) (len + 3) p1 p2 (qPs q n) p4 ++ [nB (g.pk z (sd (sA c (2 * 5 + 1)))) (g.pc z (sd (sA c (2 * 5 + 1)))), nB (g.k z (sd (sA c (2 * 5 + 1)))) (g.c z (sd (sA c (2 * 5 + 1))))]) = (TI (len + 3) cap z 2 (g.e z (sd (sA c (2 * 5 + 1)))) 0, MR c (xsW 2 (.sl 3 0 n k) xs) (len + 3) p1 p2 (qPs q n) p4 ++ [nB (g.k z (sd (sA c (2 * 5 + 1)))) (g.c z (sd (sA c (2 * 5 + 1)))), nB (g.k z (sd (sA c (2 * 5 + 1)))) (g.c z (sd (sA c (2 * 5 + 1))))]), wfS (TI (len + 3) cap z 2 (g.e z (sd (sA c (2 * 5 + 1)))) 0) (MR c (xsW 2 (.sl 3 0 n k) xs) (len + 3) p1 p2 (qPs q n) p4 ++ [nB (g.k z (sd (sA c (2 * 5 + 1)))) (g.c z (sd (sA c (2 * 5 + 1)))), nB (g.k z (sd (sA c (2 * 5 + 1)))) (g.c z (sd (sA c (2 * 5 + 1))))]) = true, inI ((2 : Int) + 1)], .normal, TO (len + 3) cap z 3, MR c (xsW 2 (.sl 3 0 n k) xs) (len + 3) p1 p2 (qPs q n) p4) := by kernel_rfl
theorem tn2 (g : MsF) (c : Cells) (len cap : Nat) (o : Option Addr) (cp : Nat) (z : Int) (xs : Nat → Atom) (q : Nat → Nat) (p1 p2 p3 p4 : List Piece) : runTo (ETv g q) 1000 ((ETv g q).S 15) (bodyOf Tryz.prog 15 4) (TO (len + 3) cap z 2) (MR c (xsW 2 (.v (.slice o 0 cp)) xs) (len + 3) p1 p2 p3 p4) [true, true, false, false, false] (TO (len + 3) cap z 3) 5 =
    some (obA (sA c (2 * 5 + 1)) 2 (len + 3) ++ obB g z (sd (sA c (2 * 5 + 1))) ++ [(0 : Int) ≤ 2 ∧ (2 : Int) < (((len + 3) : Nat) : Int), decide ((0 : Int) < ((0 : Nat) : Int)) = false, inI ((2 : Int) + 1)], .normal, TO (len + 3) cap z 3, MR c (xsW 2 (.v (.slice o 0 cp)) xs) (len + 3) p1 p2 p3 p4) := by kernel_rfl
noncomputable def ELp3 (g : MsF) (c : Cells) (len cap n k : Nat) (z : Int) (xs : Nat → Atom) (q : Nat → Nat) (p1 p2 p3 : List Piece) (Kf Cf : ByteArray) : Env :=
  addLp (ETv g q) 12 (bodyOf Tryz.prog 15 12) (sumC (TI (len + 4) cap z 3 (g.e z (sd (sA c (3 * 5 + 1)))) 0) (MR c (xsW 3 (.sl 4 0 n k) xs) (len + 4) p1 p2 p3 (qPs q n) ++ [nB (g.k z (sd (sA c (3 * 5 + 1)))) (g.c z (sd (sA c (3 * 5 + 1)))), nB (g.k z (sd (sA c (3 * 5 + 1)))) (g.c z (sd (sA c (3 * 5 + 1))))]) (TIx (len + 4) cap z 3) (MR c (xsW 3 (.sl 4 0 n k) xs) (len + 4) p1 p2 p3 (qPs q n) ++ [nB Kf Cf, nB Kf Cf]) (.exit 2))
theorem tl3 (g : MsF) (c : Cells) (len cap n k : Nat) (z : Int) (xs : Nat → Atom) (q : Nat → Nat) (p1 p2 p3 : List Piece) (Kf Cf : ByteArray) : runTo (ELp3 g c len cap n k z xs q p1 p2 p3 Kf Cf) 1000 (((ELp3 g c len cap n k z xs q p1 p2 p3 Kf Cf)).S 15) (bodyOf Tryz.prog 15 4) (TO (len + 4) cap z 3) (MR c (xsW 3 (.sl 4 0 n k) xs) (len + 4) p1 p2 p3 (qPs q n)) [true, true, false, false] (TO (len + 4) cap z 4) 5 =
    some (obA (sA c (3 * 5 + 1)) 3 (len + 4) ++ obB g z (sd (sA c (3 * 5 + 1))) ++ [bodyOf Tryz.prog 15 12 = bodyOf Tryz.prog 15 12, (TI (len + 4) cap z 3 (g.e z (sd (sA c (3 * 5 + 1)))) 0, MR c (xsW 3 (.sl 4 0 n k) xs) (len + 4) p1 p2 p3 (qPs q n) ++ [nB (g.pk z (sd (sA c (3 * 5 + 1)))) (g.pc z (sd (sA c (3 * 5 + 1)))), nB (g.k z (sd (sA c (3 * 5 + 1)))) (g.c z (sd (sA c (3 * 5 + 1))))]) = (TI (len + 4) cap z 3 (g.e z (sd (sA c (3 * 5 + 1)))) 0, MR c (xsW 3 (.sl 4 0 n k) xs) (len + 4) p1 p2 p3 (qPs q n) ++ [nB (g.k z (sd (sA c (3 * 5 + 1)))) (g.c z (sd (sA c (3 * 5 + 1)))), nB (g.k z (sd (sA c (3 * 5 + 1)))) (g.c z (sd (sA c (3 * 5 + 1))))]), wfS (TI (len + 4) cap z 3 (g.e z (sd (sA c (3 * 5 + 1)))) 0) (MR c (xsW 3 (.sl 4 0 n k) xs) (len + 4) p1 p2 p3 (qPs q n) ++ [nB (g.k z (sd (sA c (3 * 5 + 1)))) (g.c z (sd (sA c (3 * 5 + 1)))), nB (g.k z (sd (sA c (3 * 5 + 1)))) (g.c z (sd (sA c (3 * 5 + 1))))]) = true, inI ((3 : Int) + 1)], .normal, TO (len + 4) cap z 4, MR c (xsW 3 (.sl 4 0 n k) xs) (len + 4) p1 p2 p3 (qPs q n)) := by kernel_rfl
theorem tn3 (g : MsF) (c : Cells) (len cap : Nat) (o : Option Addr) (cp : Nat) (z : Int) (xs : Nat → Atom) (q : Nat → Nat) (p1 p2 p3 p4 : List Piece) : runTo (ETv g q) 1000 ((ETv g q).S 15) (bodyOf Tryz.prog 15 4) (TO (len + 4) cap z 3) (MR c (xsW 3 (.v (.slice o 0 cp)) xs) (len + 4) p1 p2 p3 p4) [true, true, false, false, false] (TO (len + 4) cap z 4) 5 =
    some (obA (sA c (3 * 5 + 1)) 3 (len + 4) ++ obB g z (sd (sA c (3 * 5 + 1))) ++ [(0 : Int) ≤ 3 ∧ (3 : Int) < (((len + 4) : Nat) : Int), decide ((0 : Int) < ((0 : Nat) : Int)) = false, inI ((3 : Int) + 1)], .normal, TO (len + 4) cap z 4, MR c (xsW 3 (.v (.slice o 0 cp)) xs) (len + 4) p1 p2 p3 p4) := by kernel_rfl
def TOx (len cap : Nat) (z : Int) : List AV := slots 113 [(0, slN len cap), (1, iV z)]
theorem tz (g : MsF) (c : Cells) (len cap : Nat) (z i : Int) (xs : Nat → Atom) (q : Nat → Nat) (p1 p2 p3 p4 : List Piece) : runTo (ETv g q) 1000 ((ETv g q).S 15) (bodyOf Tryz.prog 15 4) (TO len cap z i) (MR c xs len p1 p2 p3 p4) [false] (TOx len cap z) 5 =
    some ([decide (i < (len : Int)) = false], .exit 0, TOx len cap z, MR c xs len p1 p2 p3 p4) := by kernel_rfl
theorem t4 (g : MsF) (c : Cells) (len cap : Nat) (z i : Int) (xs : Nat → Atom) (q : Nat → Nat) (p1 p2 p3 p4 : List Piece) : runTo (ETv g q) 1000 ((ETv g q).S 15) (bodyOf Tryz.prog 15 4) (TO len cap z i) (MR c xs len p1 p2 p3 p4) [true, false] (TOx len cap z) 5 =
    some ([decide (i < (len : Int)) = true, decide (i < 4) = false], .exit 0, TOx len cap z, MR c xs len p1 p2 p3 p4) := by kernel_rfl
end Go.Ev.H5

namespace Go.Ev
open Go Go.RowKit Go.ChangeShapes Go.WideShapes Go.ChangeAt
section
variable {P : Program}
theorem trod_i64 {H : Type} {enc : TypeId × Value → H} {W : World} {base : Nat} {sp : Nat → Bool} {held : Bool} {t : TypeId} (ht : P.underlying t = some (.int .i64)) {n : Nat} {x : Value} {y : DataW H × List MemPlace} (h : DataW.trod enc P W base sp held n t [x] = some y) : ∃ z, x = .int .i64 z := by
  cases n with
  | zero => simp [DataW.trod] at h
  | succ n =>
    unfold DataW.trod at h
    rw [ht] at h
    split at h <;> simp_all
/-- THE ARGUMENT OF A LAW: a struct of a slice of plain rows, a number, a slice of plain rows. -/
theorem three_open {H : Type} {enc : TypeId × Value → H} {t eA eB : TypeId} {f0 f1 f2 : Field} (shA shB : List SK) {DA DB B : Nat} (ht : P.underlying t = some (.struct #[f0, f1, f2])) (o0 : f0.offset = 0) (o1 : f1.offset = 1) (o2 : f2.offset = 2)
    (hct : P.cellTypes P.depth t = some [f0.type, f1.type, f2.type]) (hc0 : P.cellsOf f0.type = 1) (hc1 : P.cellsOf f1.type = 1) (hc2 : P.cellsOf f2.type = 1) (hcs : P.cellsOf t = 3)
    (hA : P.underlying f0.type = some (.slice eA)) (hkA : kindsT P DA eA = some (shKs shA)) (hsA : sizeA P eA = some (shSz shA)) (hbA : 0 < P.bytesOf eA)
    (hI : P.underlying f1.type = some (.int .i64))
    (hB : P.underlying f2.type = some (.slice eB)) (hkB : kindsT P DB eB = some (shKs shB)) (hsB : sizeA P eB = some (shSz shB)) (hbB : 0 < P.bytesOf eB)
    {r : Reach} {W : World} {base : Nat} {v : Value} {d : DataW H} {ps : List MemPlace} (hval : Value.okWide P W r base t v) (h : DataW.Trod enc P W 0 (fun _ => true) true t v d ps) (hwt : ∀ n ∈ d.weights P t, n ≤ B) :
    ∃ a z b, v = .agg #[a, .int .i64 z, b] ∧ OpenS W shA B a ∧ OpenS W shB B b := by
  unfold Value.okWide at hval
  rw [ht] at hval
  obtain ⟨cs, rfl, hsz, ts, hts, _, hcell⟩ := hval
  rw [hct] at hts
  simp only [Option.some.injEq] at hts
  subst hts
  rw [hcs] at hsz
  have e : cs = #[cs[0], cs[1], cs[2]] := by
    apply Array.ext
    · simpa using hsz
    · intro i h1 h2
      match i, h2 with
      | 0, _ => rfl
      | 1, _ => rfl
      | 2, _ => rfl
  obtain ⟨u0, hu0, hk0⟩ := hcell 0 cs[0] (by rw [Array.getElem?_eq_getElem])
  obtain ⟨u2, hu2, hk2⟩ := hcell 2 cs[2] (by rw [Array.getElem?_eq_getElem])
  have hu0 : f0.type = u0 := by simpa using hu0
  have hu2 : f2.type = u2 := by simpa using hu2
  subst hu0; subst hu2
  generalize cs[0] = a at *
  generalize cs[1] = x at *
  generalize cs[2] = b at *
  subst e
  have va : Value.okWide P W r base f0.type a := by unfold Value.okWide; rw [hA]; exact hk0
  have vb : Value.okWide P W r base f2.type b := by unfold Value.okWide; rw [hB]; exact hk2
  obtain ⟨fuel, hf⟩ := h
  obtain ⟨y0, y1, y2, n, hx, _, h0, h1, h2⟩ := Go.Deep.trod_struct3 ht hf
  simp only [Prod.mk.injEq] at hx
  obtain ⟨rfl, rfl⟩ := hx
  rw [o0, hc0] at h0
  rw [o1, hc1] at h1
  rw [o2, hc2] at h2
  obtain ⟨z, rfl⟩ := trod_i64 hI (x := x) h1
  have ca : a.cells.toList = [a] := by obtain ⟨_, _, _, rfl⟩ := okWide_slice hA va; rfl
  have cb : b.cells.toList = [b] := by obtain ⟨_, _, _, rfl⟩ := okWide_slice hB vb; rfl
  refine ⟨a, z, b, rfl, ?_, ?_⟩
  · refine slice_openW (enc := enc) shA hA hkA hsA hbA va (d := y0.1) (ps := y0.2) ⟨n, ?_⟩ fun q hq => hwt q ?_
    · rw [ca]; exact h0
    · simp only [DataW.weights, ht]
      exact DataW.weights_mem_each (j := 0) (t := f0.type) (d := y0.1) rfl rfl q hq
  · refine slice_openW (enc := enc) shB hB hkB hsB hbB vb (d := y2.1) (ps := y2.2) ⟨n, ?_⟩ fun q hq => hwt q ?_
    · rw [cb]; exact h2
    · simp only [DataW.weights, ht]
      exact DataW.weights_mem_each (j := 2) (t := f2.type) (d := y2.1) rfl rfl q hq
end
end Go.Ev

