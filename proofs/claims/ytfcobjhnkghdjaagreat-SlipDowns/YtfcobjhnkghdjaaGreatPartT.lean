/- Keyed sums, nodes, and the law, of every input; An evaluator of the model's code with values known in part, and its soundness -/
import Derived.Test.YtfcobjhnkghdjaaGreatPartS
import Derived.Test.YtfcobjhnkghdjaaGreatPartL
import Derived.Deep.Strs
namespace Go.Ev.H5
open Go Go.Proofs Go.RowKit
set_option maxRecDepth 100000
end Go.Ev.H5

namespace Go.Ev.H5
open Go Go.Proofs Go.RowKit
set_option maxRecDepth 100000
theorem bb_self (K : ByteArray) : (K == K) = true := by
  cases K with | mk a => exact (beq_self_eq_true a : (a == a) = true)
theorem eqS_self (K C : ByteArray) : (!eqS K C K C) = false := by unfold eqS; rw [bb_self, bb_self]; rfl
def XsOk (xs : Nat → Atom) : Prop := ∀ k n, 5 ≤ n → allPtr (fun b => Nat.blt b n) [.a (xs k)] = true
theorem XsOk.w {xs : Nat → Atom} (h : XsOk xs) {i : Nat} {x : Atom} (hx : ∀ n, 5 ≤ n → allPtr (fun b => Nat.blt b n) [.a x] = true) : XsOk (xsW i x xs) := by
  intro k n hn
  unfold xsW
  cases Nat.beq k i with
  | true => exact hx n hn
  | false => exact h k n hn
theorem sl_ok {J n k N : Nat} (hJ : J < 5) (hN : 5 ≤ N) : allPtr (fun b => Nat.blt b N) [.a (.sl J 0 n k)] = true := by
  simp only [allPtr, Bool.and_true]
  rw [Nat.blt]; exact Nat.ble_eq_true_of_le (by omega)
theorem memWf_mr {c : Cells} {xs : Nat → Atom} {m : Nat} {p1 p2 p3 p4 : List Piece} {N : Nat} (hN : 5 ≤ N) (hx : XsOk xs) (h1 : Free (roB p1)) (h2 : Free (roB p2)) (h3 : Free (roB p3)) (h4 : Free (roB p4)) (l : List Blk) (hl : memWf N l = true) : memWf N (MR c xs m p1 p2 p3 p4 ++ l) = true := by
  simp only [MR, List.cons_append, List.nil_append, memWf, h1 _, h2 _, h3 _, h4 _, hl, Bool.and_true]
  exact rowsX_ptr _ _ _ _ _ fun k _ => hx _ _ hN
theorem wfR5 {c : Cells} {xs : Nat → Atom} {m : Nat} {p1 p2 p3 p4 : List Piece} {t : Nat} {s : List (Nat × AV)} (hx : XsOk xs) (h1 : Free (roB p1)) (h2 : Free (roB p2)) (h3 : Free (roB p3)) (h4 : Free (roB p4)) (h : tmsWf 5 (slots t s) = true) : wfS (slots t s) (MR c xs m p1 p2 p3 p4) = true := by
  have := memWf_mr (c := c) (m := m) (N := 5) (Nat.le_refl _) hx h1 h2 h3 h4 [] rfl
  rw [List.append_nil] at this
  unfold wfS
  rw [show (MR c xs m p1 p2 p3 p4).length = 5 from rfl, h, this]; rfl
theorem ldQ {q : Nat → Nat} {n j : Nat} (h : j < n) : LoadsAs Tryz.prog 32 (qPs q n) (0 + j * 1) (.one (.u .u32 (q (0 + j * 1)))) := by
  exact loads_fld (c := numQ q) (i := j) (n := n) (off := 0 + j * 1) (sh := [.u32]) [] .u32 [] rfl ag32 h (by simp [shSz, SK.sz]) rfl
theorem qPs_free (q : Nat → Nat) (n : Nat) : Free (roB (qPs q n)) := fun f => row_free _ _ f _ _
end Go.Ev.H5

namespace Go.Ev.H5
open Go Go.Proofs Go.RowKit
set_option maxRecDepth 100000
end Go.Ev.H5

namespace Go.Ev
open Go Go.RowKit Go.ChangeShapes Go.WideShapes Go.ChangeAt
section
variable {P : Program}
end
end Go.Ev

