/- The law WeiNumbers holds of every argument, without a condition -/
import Derived.Test.YtciiekkkldbgfaaWeiC
import Derived.JoinedOf
namespace Go.Ev
open Go Go.Proofs Go.RowKit

theorem neqS {s t : Sp} (h : s = t) : (!(decide (s.x % 4294967296 ^ 8 = t.x % 4294967296 ^ 8) && (decide (s.y % 4294967296 ^ 8 = t.y % 4294967296 ^ 8) && (s.i == t.i && true)))) = false := neq3_f (congrArg Sp.x h) (congrArg Sp.y h) (congrArg Sp.i h)
noncomputable def S6w : FuncId → Nat → Bool := fun f t => match f with | 6 => memN t [17, 26, 31, 45, 51, 61, 67, 77, 89, 35, 39, 111, 116] | _ => false
noncomputable def E6w : Env := mkE (LW true true) S6w
theorem envE6w : EnvOK E6w := envMk (LW_ok true true) S6w
def T6w (len cap : Nat) (i : Int) : List AV := slots 119 [(0, sV' len cap), (2, bV false), (3, iV i)]
theorem wfT6w (c : Cells) (m len cap : Nat) (i : Int) : wfS (T6w len cap i) (MW c m) = true := wfW c m (by kernel_rfl)
theorem a6n (c : Cells) (len : Nat) (cap : Nat) : runTo E6w 1000 (Env.S E6w 6) (bodyOf Try.prog 6 2) (T6w len cap ((0 : Nat) : Int)) (MW c 1) [true, false] (T6w len cap (↑(0 + 1) : Int)) 1 =
    some ([decide (((0 : Nat) : Int) < (↑len : Int)) = true, (0 : Int) ≤ ((0 : Nat) : Int) ∧ ((0 : Nat) : Int) < (↑len : Int), (0 : Int) ≤ ((0 : Nat) : Int) ∧ ((0 : Nat) : Int) < (↑len : Int), onS (nA c 0) (nA c 8) (bA c 16) = false, nA c 0 < 4294967296 ^ 8, nA c 8 < 4294967296 ^ 8], .normal, T6w len cap ((0 + 1 : Nat) : Int), MW c 1) := by kernel_rfl
theorem a6m (c : Cells) (len : Nat) (cap : Nat) : runTo E6w 1000 (Env.S E6w 6) (bodyOf Try.prog 6 2) (T6w len cap ((0 : Nat) : Int)) (MW c 1) [true, true, false] (T6w len cap (↑(0 + 1) : Int)) 1 =
    some ([decide (((0 : Nat) : Int) < (↑len : Int)) = true, (0 : Int) ≤ ((0 : Nat) : Int) ∧ ((0 : Nat) : Int) < (↑len : Int), (0 : Int) ≤ ((0 : Nat) : Int) ∧ ((0 : Nat) : Int) < (↑len : Int), onS (nA c 0) (nA c 8) (bA c 16) = true, nA c 0 < 4294967296 ^ 8, nA c 8 < 4294967296 ^ 8, onS (nA c 17) (nA c 25) (bA c 33) = false, nA c 17 < 4294967296 ^ 8, nA c 25 < 4294967296 ^ 8], .normal, T6w len cap ((0 + 1 : Nat) : Int), MW c 1) := by kernel_rfl
theorem a6y (c : Cells) (len : Nat) (cap : Nat) : runTo E6w 1000 (Env.S E6w 6) (bodyOf Try.prog 6 2) (T6w len cap ((0 : Nat) : Int)) (MW c 1) [true, true, true, false, false] (T6w len cap (↑(0 + 1) : Int)) 1 =
    some ([decide (((0 : Nat) : Int) < (↑len : Int)) = true, (0 : Int) ≤ ((0 : Nat) : Int) ∧ ((0 : Nat) : Int) < (↑len : Int), (0 : Int) ≤ ((0 : Nat) : Int) ∧ ((0 : Nat) : Int) < (↑len : Int), onS (nA c 0) (nA c 8) (bA c 16) = true, nA c 0 < 4294967296 ^ 8, nA c 8 < 4294967296 ^ 8, onS (nA c 17) (nA c 25) (bA c 33) = true, nA c 17 < 4294967296 ^ 8, nA c 25 < 4294967296 ^ 8, (0 : Int) ≤ ((0 : Nat) : Int) ∧ ((0 : Nat) : Int) < (↑len : Int), (0 : Int) ≤ ((0 : Nat) : Int) ∧ ((0 : Nat) : Int) < (↑len : Int), nA c 34 < 4294967296 ^ 8, nA c 0 < 4294967296 ^ 8, nA c 8 < 4294967296 ^ 8, nA c 42 < 4294967296 ^ 8, nA c 17 < 4294967296 ^ 8, nA c 25 < 4294967296 ^ 8, onS (nA c 0) (nA c 8) (bA c 16) = true, onS (nA c 17) (nA c 25) (bA c 33) = true, (0 : Int) ≤ ((0 : Nat) : Int) ∧ ((0 : Nat) : Int) < (↑len : Int), (0 : Int) ≤ ((0 : Nat) : Int) ∧ ((0 : Nat) : Int) < (↑len : Int), nA c 42 < 4294967296 ^ 8, nA c 17 < 4294967296 ^ 8, nA c 25 < 4294967296 ^ 8, nA c 34 < 4294967296 ^ 8, nA c 0 < 4294967296 ^ 8, nA c 8 < 4294967296 ^ 8, onS (nA c 17) (nA c 25) (bA c 33) = true, onS (nA c 0) (nA c 8) (bA c 16) = true, (0 : Int) ≤ ((0 : Nat) : Int) ∧ ((0 : Nat) : Int) < (↑len : Int), nA c 34 < 4294967296 ^ 8, nA c 0 < 4294967296 ^ 8, nA c 8 < 4294967296 ^ 8, 0 < 4294967296, 0 < 4294967296, 0 < 4294967296, 0 < 4294967296, 0 < 4294967296, 0 < 4294967296, 0 < 4294967296, 0 < 4294967296, nA c 17 < 4294967296 ^ 8, nA c 25 < 4294967296 ^ 8, onS (nA c 0) (nA c 8) (bA c 16) = true, onS (nA c 17) (nA c 25) (bA c 33) = true, (0 : Int) ≤ ((0 : Nat) : Int) ∧ ((0 : Nat) : Int) < (↑len : Int), nA c 34 < 4294967296 ^ 8, nA c 0 < 4294967296 ^ 8, nA c 8 < 4294967296 ^ 8, onS (nA c 0) (nA c 8) (bA c 16) = true, (!(decide ((gsum (gmul (Sp.mk (nA c 0) (nA c 8) (bA c 16)) (nA c 34)) (gmul (Sp.mk (nA c 17) (nA c 25) (bA c 33)) (nA c 42))).1 % 4294967296 ^ 8 = (gsum (gmul (Sp.mk (nA c 17) (nA c 25) (bA c 33)) (nA c 42)) (gmul (Sp.mk (nA c 0) (nA c 8) (bA c 16)) (nA c 34))).1 % 4294967296 ^ 8) && (decide ((gsum (gmul (Sp.mk (nA c 0) (nA c 8) (bA c 16)) (nA c 34)) (gmul (Sp.mk (nA c 17) (nA c 25) (bA c 33)) (nA c 42))).2 % 4294967296 ^ 8 = (gsum (gmul (Sp.mk (nA c 17) (nA c 25) (bA c 33)) (nA c 42)) (gmul (Sp.mk (nA c 0) (nA c 8) (bA c 16)) (nA c 34))).2 % 4294967296 ^ 8) && ((gsum (gmul (Sp.mk (nA c 0) (nA c 8) (bA c 16)) (nA c 34)) (gmul (Sp.mk (nA c 17) (nA c 25) (bA c 33)) (nA c 42))).3 == (gsum (gmul (Sp.mk (nA c 17) (nA c 25) (bA c 33)) (nA c 42)) (gmul (Sp.mk (nA c 0) (nA c 8) (bA c 16)) (nA c 34))).3 && true)))) = false, (!(decide ((gsum (gmul (Sp.mk (nA c 0) (nA c 8) (bA c 16)) (nA c 34)) (gmul (Sp.mk (nA c 17) (nA c 25) (bA c 33)) 0)).1 % 4294967296 ^ 8 = (gmul (Sp.mk (nA c 0) (nA c 8) (bA c 16)) (nA c 34)).1 % 4294967296 ^ 8) && (decide ((gsum (gmul (Sp.mk (nA c 0) (nA c 8) (bA c 16)) (nA c 34)) (gmul (Sp.mk (nA c 17) (nA c 25) (bA c 33)) 0)).2 % 4294967296 ^ 8 = (gmul (Sp.mk (nA c 0) (nA c 8) (bA c 16)) (nA c 34)).2 % 4294967296 ^ 8) && ((gsum (gmul (Sp.mk (nA c 0) (nA c 8) (bA c 16)) (nA c 34)) (gmul (Sp.mk (nA c 17) (nA c 25) (bA c 33)) 0)).3 == (gmul (Sp.mk (nA c 0) (nA c 8) (bA c 16)) (nA c 34)).3 && true)))) = false], .normal, T6w len cap ((0 + 1 : Nat) : Int), MW c 1) := by kernel_rfl
theorem l6s_1_0 (c : Cells) {len cap : Nat} (hl : 0 < len) (ho : All (rowOb c shW 1 0)) : Goes Try.prog (bodyOf Try.prog 6 2) .normal (T6w len cap ((0 : Nat) : Int)) (MW c 1) (T6w len cap ((0 + 1 : Nat) : Int)) (MW c 1) := by
  obtain ⟨g00, g01, _, g03, g04, _, g06, g07, _⟩ := ho
  have w0 : nA c 0 < 4294967296 ^ 8 := g00
  have w1 : nA c 8 < 4294967296 ^ 8 := g01
  have w3 : nA c 17 < 4294967296 ^ 8 := g03
  have w4 : nA c 25 < 4294967296 ^ 8 := g04
  have w6 : nA c 34 < 4294967296 ^ 8 := g06
  have w7 : nA c 42 < 4294967296 ^ 8 := g07
  have hll : decide (((0 : Nat) : Int) < (len : Int)) = true := decide_eq_true (by omega)
  have hii : 0 ≤ ((0 : Nat) : Int) ∧ ((0 : Nat) : Int) < (len : Int) := by omega
  cases hu : onS (nA c 0) (nA c 8) (bA c 16) with
  | false => exact Runs.goes envE6w ⟨_, _, a6n c len cap, ⟨(by first | with_reducible assumption | with_reducible exact L8 (by with_reducible assumption) | exact decide_eq_true (by omega) | exact decide_eq_false (by omega) | omega), (by first | with_reducible assumption | with_reducible exact L8 (by with_reducible assumption) | exact decide_eq_true (by omega) | exact decide_eq_false (by omega) | omega), (by first | with_reducible assumption | with_reducible exact L8 (by with_reducible assumption) | exact decide_eq_true (by omega) | exact decide_eq_false (by omega) | omega), (by first | with_reducible assumption | with_reducible exact L8 (by with_reducible assumption) | exact decide_eq_true (by omega) | exact decide_eq_false (by omega) | omega), (by first | with_reducible assumption | with_reducible exact L8 (by with_reducible assumption) | exact decide_eq_true (by omega) | exact decide_eq_false (by omega) | omega), (by first | with_reducible assumption | with_reducible exact L8 (by with_reducible assumption) | exact decide_eq_true (by omega) | exact decide_eq_false (by omega) | omega), trivial⟩, wfT6w _ _ _ _ _⟩
  | true =>
    cases hv : onS (nA c 17) (nA c 25) (bA c 33) with
    | false => 
      have hu' : (!onS (nA c 0) (nA c 8) (bA c 16)) = false := by rw [hu]; rfl
      exact Runs.goes envE6w ⟨_, _, a6m c len cap, ⟨(by first | with_reducible assumption | with_reducible exact L8 (by with_reducible assumption) | exact decide_eq_true (by omega) | exact decide_eq_false (by omega) | omega), (by first | with_reducible assumption | with_reducible exact L8 (by with_reducible assumption) | exact decide_eq_true (by omega) | exact decide_eq_false (by omega) | omega), (by first | with_reducible assumption | with_reducible exact L8 (by with_reducible assumption) | exact decide_eq_true (by omega) | exact decide_eq_false (by omega) | omega), (by first | with_reducible assumption | with_reducible exact L8 (by with_reducible assumption) | exact decide_eq_true (by omega) | exact decide_eq_false (by omega) | omega), (by first | with_reducible assumption | with_reducible exact L8 (by with_reducible assumption) | exact decide_eq_true (by omega) | exact decide_eq_false (by omega) | omega), (by first | with_reducible assumption | with_reducible exact L8 (by with_reducible assumption) | exact decide_eq_true (by omega) | exact decide_eq_false (by omega) | omega), (by first | with_reducible assumption | with_reducible exact L8 (by with_reducible assumption) | exact decide_eq_true (by omega) | exact decide_eq_false (by omega) | omega), (by first | with_reducible assumption | with_reducible exact L8 (by with_reducible assumption) | exact decide_eq_true (by omega) | exact decide_eq_false (by omega) | omega), (by first | with_reducible assumption | with_reducible exact L8 (by with_reducible assumption) | exact decide_eq_true (by omega) | exact decide_eq_false (by omega) | omega), trivial⟩, wfT6w _ _ _ _ _⟩
    | true =>
      have hp : Sp.on ⟨(nA c 0), (nA c 8), (bA c 16)⟩ := hu
      have hq : Sp.on ⟨(nA c 17), (nA c 25), (bA c 33)⟩ := hv
      have hk := gmul_on hp (nA c 34)
      have hl2 := gmul_on hq (nA c 42)
      have h0 := gmul_on hq 0
      obtain ⟨b1, b2⟩ := spB (gsum_on hk hl2)
      obtain ⟨b3, b4⟩ := spB (gsum_on hl2 hk)
      obtain ⟨b5, b6⟩ := spB (gsum_on hk h0)
      obtain ⟨b7, b8⟩ := spB hk
      have z1 := neqS (gsum_comm hk hl2)
      have z2 := neqS (show gsum (gmul ⟨(nA c 0), (nA c 8), (bA c 16)⟩ (nA c 34)) (gmul ⟨(nA c 17), (nA c 25), (bA c 33)⟩ 0) = gmul ⟨(nA c 0), (nA c 8), (bA c 16)⟩ (nA c 34) from gsum_no hk)
      exact Runs.goes envE6w ⟨_, _, a6y c len cap, ⟨(by first | with_reducible assumption | with_reducible exact L8 (by with_reducible assumption) | exact decide_eq_true (by omega) | exact decide_eq_false (by omega) | omega), (by first | with_reducible assumption | with_reducible exact L8 (by with_reducible assumption) | exact decide_eq_true (by omega) | exact decide_eq_false (by omega) | omega), (by first | with_reducible assumption | with_reducible exact L8 (by with_reducible assumption) | exact decide_eq_true (by omega) | exact decide_eq_false (by omega) | omega), (by first | with_reducible assumption | with_reducible exact L8 (by with_reducible assumption) | exact decide_eq_true (by omega) | exact decide_eq_false (by omega) | omega), (by first | with_reducible assumption | with_reducible exact L8 (by with_reducible assumption) | exact decide_eq_true (by omega) | exact decide_eq_false (by omega) | omega), (by first | with_reducible assumption | with_reducible exact L8 (by with_reducible assumption) | exact decide_eq_true (by omega) | exact decide_eq_false (by omega) | omega), (by first | with_reducible assumption | with_reducible exact L8 (by with_reducible assumption) | exact decide_eq_true (by omega) | exact decide_eq_false (by omega) | omega), (by first | with_reducible assumption | with_reducible exact L8 (by with_reducible assumption) | exact decide_eq_true (by omega) | exact decide_eq_false (by omega) | omega), (by first | with_reducible assumption | with_reducible exact L8 (by with_reducible assumption) | exact decide_eq_true (by omega) | exact decide_eq_false (by omega) | omega), (by first | with_reducible assumption | with_reducible exact L8 (by with_reducible assumption) | exact decide_eq_true (by omega) | exact decide_eq_false (by omega) | omega), (by first | with_reducible assumption | with_reducible exact L8 (by with_reducible assumption) | exact decide_eq_true (by omega) | exact decide_eq_false (by omega) | omega), (by first | with_reducible assumption | with_reducible exact L8 (by with_reducible assumption) | exact decide_eq_true (by omega) | exact decide_eq_false (by omega) | omega), (by first | with_reducible assumption | with_reducible exact L8 (by with_reducible assumption) | exact decide_eq_true (by omega) | exact decide_eq_false (by omega) | omega), (by first | with_reducible assumption | with_reducible exact L8 (by with_reducible assumption) | exact decide_eq_true (by omega) | exact decide_eq_false (by omega) | omega), (by first | with_reducible assumption | with_reducible exact L8 (by with_reducible assumption) | exact decide_eq_true (by omega) | exact decide_eq_false (by omega) | omega), (by first | with_reducible assumption | with_reducible exact L8 (by with_reducible assumption) | exact decide_eq_true (by omega) | exact decide_eq_false (by omega) | omega), (by first | with_reducible assumption | with_reducible exact L8 (by with_reducible assumption) | exact decide_eq_true (by omega) | exact decide_eq_false (by omega) | omega), (by first | with_reducible assumption | with_reducible exact L8 (by with_reducible assumption) | exact decide_eq_true (by omega) | exact decide_eq_false (by omega) | omega), (by first | with_reducible assumption | with_reducible exact L8 (by with_reducible assumption) | exact decide_eq_true (by omega) | exact decide_eq_false (by omega) | omega), (by first | with_reducible assumption | with_reducible exact L8 (by with_reducible assumption) | exact decide_eq_true (by omega) | exact decide_eq_false (by omega) | omega), (by first | with_reducible assumption | with_reducible exact L8 (by with_reducible assumption) | exact decide_eq_true (by omega) | exact decide_eq_false (by omega) | omega), (by first | with_reducible assumption | with_reducible exact L8 (by with_reducible assumption) | exact decide_eq_true (by omega) | exact decide_eq_false (by omega) | omega), (by first | with_reducible assumption | with_reducible exact L8 (by with_reducible assumption) | exact decide_eq_true (by omega) | exact decide_eq_false (by omega) | omega), (by first | with_reducible assumption | with_reducible exact L8 (by with_reducible assumption) | exact decide_eq_true (by omega) | exact decide_eq_false (by omega) | omega), (by first | with_reducible assumption | with_reducible exact L8 (by with_reducible assumption) | exact decide_eq_true (by omega) | exact decide_eq_false (by omega) | omega), (by first | with_reducible assumption | with_reducible exact L8 (by with_reducible assumption) | exact decide_eq_true (by omega) | exact decide_eq_false (by omega) | omega), (by first | with_reducible assumption | with_reducible exact L8 (by with_reducible assumption) | exact decide_eq_true (by omega) | exact decide_eq_false (by omega) | omega), (by first | with_reducible assumption | with_reducible exact L8 (by with_reducible assumption) | exact decide_eq_true (by omega) | exact decide_eq_false (by omega) | omega), (by first | with_reducible assumption | with_reducible exact L8 (by with_reducible assumption) | exact decide_eq_true (by omega) | exact decide_eq_false (by omega) | omega), (by first | with_reducible assumption | with_reducible exact L8 (by with_reducible assumption) | exact decide_eq_true (by omega) | exact decide_eq_false (by omega) | omega), (by first | with_reducible assumption | with_reducible exact L8 (by with_reducible assumption) | exact decide_eq_true (by omega) | exact decide_eq_false (by omega) | omega), (by first | with_reducible assumption | with_reducible exact L8 (by with_reducible assumption) | exact decide_eq_true (by omega) | exact decide_eq_false (by omega) | omega), (by first | with_reducible assumption | with_reducible exact L8 (by with_reducible assumption) | exact decide_eq_true (by omega) | exact decide_eq_false (by omega) | omega), lit0, lit0, lit0, lit0, lit0, lit0, lit0, lit0, (by first | with_reducible assumption | with_reducible exact L8 (by with_reducible assumption) | exact decide_eq_true (by omega) | exact decide_eq_false (by omega) | omega), (by first | with_reducible assumption | with_reducible exact L8 (by with_reducible assumption) | exact decide_eq_true (by omega) | exact decide_eq_false (by omega) | omega), (by first | with_reducible assumption | with_reducible exact L8 (by with_reducible assumption) | exact decide_eq_true (by omega) | exact decide_eq_false (by omega) | omega), (by first | with_reducible assumption | with_reducible exact L8 (by with_reducible assumption) | exact decide_eq_true (by omega) | exact decide_eq_false (by omega) | omega), (by first | with_reducible assumption | with_reducible exact L8 (by with_reducible assumption) | exact decide_eq_true (by omega) | exact decide_eq_false (by omega) | omega), (by first | with_reducible assumption | with_reducible exact L8 (by with_reducible assumption) | exact decide_eq_true (by omega) | exact decide_eq_false (by omega) | omega), (by first | with_reducible assumption | with_reducible exact L8 (by with_reducible assumption) | exact decide_eq_true (by omega) | exact decide_eq_false (by omega) | omega), (by first | with_reducible assumption | with_reducible exact L8 (by with_reducible assumption) | exact decide_eq_true (by omega) | exact decide_eq_false (by omega) | omega), (by first | with_reducible assumption | with_reducible exact L8 (by with_reducible assumption) | exact decide_eq_true (by omega) | exact decide_eq_false (by omega) | omega), (by first | with_reducible assumption | with_reducible exact L8 (by with_reducible assumption) | exact decide_eq_true (by omega) | exact decide_eq_false (by omega) | omega), (by first | with_reducible assumption | with_reducible exact L8 (by with_reducible assumption) | exact decide_eq_true (by omega) | exact decide_eq_false (by omega) | omega), trivial⟩, wfT6w _ _ _ _ _⟩
end Go.Ev

namespace Go.Ev
open Go Go.Proofs Go.RowKit Go.NT

/-! the order of the base spot, by plain numbers -/
def qcr (a b c d e f : Nat) : Nat := subM (modN 1) (mulM (modN 1) (addM (modN 1) a b) (addM (modN 1) c d)) (addM (modN 1) e f)
def qtr (a : Nat) : Nat := addM (modN 1) (addM (modN 1) a a) a
theorem cz_qcr (a b c d e f : Nat) : C1 (qcr a b c d e f) (((a : Int) + b) * (c + d) - (e + f)) := (cz_sub (addM_lt (modN_pos 1))).trans (((cz_mul _ _).trans ((cz_add _ _).mul (cz_add _ _))).sub (cz_add _ _))
theorem cz_qtr (a : Nat) : C1 (qtr a) (3 * (a : Int)) := ((cz_add _ _).trans ((cz_add a a).add (Cz.refl _ (a : Int)))).trans (Cz.of_eq (by omega))
theorem qtr_lt {a : Nat} : qtr a < modN 1 := addM_lt (modN_pos 1)
theorem qcr_lt {a b c d e f : Nat} : qcr a b c d e f < modN 1 := subM_lt (modN_pos 1)
def nXX (p q : J3) : Nat := mulM (modN 1) p.x q.x
def nYY (p q : J3) : Nat := mulM (modN 1) p.y q.y
def nZZ (p q : J3) : Nat := mulM (modN 1) p.z q.z
def nXY (p q : J3) : Nat := qcr p.x p.y q.x q.y (nXX p q) (nYY p q)
def nYZ (p q : J3) : Nat := qcr p.y p.z q.y q.z (nYY p q) (nZZ p q)
def nXZ (p q : J3) : Nat := qcr p.x p.z q.x q.z (nXX p q) (nZZ p q)
def nSi (p q : J3) : Nat := qtr (subM (modN 1) (nXZ p q) (mulM (modN 1) wB (nZZ p q)))
def nLe (p q : J3) : Nat := subM (modN 1) (nYY p q) (nSi p q)
def nRi (p q : J3) : Nat := addM (modN 1) (nYY p q) (nSi p q)
def nZ3 (p q : J3) : Nat := qtr (nZZ p q)
def nMM (p q : J3) : Nat := qtr (subM (modN 1) (subM (modN 1) (mulM (modN 1) wB (nXZ p q)) (nZ3 p q)) (nXX p q))
def nNN (p q : J3) : Nat := subM (modN 1) (qtr (nXX p q)) (nZ3 p q)
def nAdd (p q : J3) : J3 := ⟨subM (modN 1) (mulM (modN 1) (nXY p q) (nRi p q)) (mulM (modN 1) (nYZ p q) (nMM p q)), addM (modN 1) (mulM (modN 1) (nRi p q) (nLe p q)) (mulM (modN 1) (nNN p q) (nMM p q)), addM (modN 1) (mulM (modN 1) (nYZ p q) (nLe p q)) (mulM (modN 1) (nXY p q) (nNN p q))⟩
section
variable (p q : J3)
theorem eXX : C1 (nXX p q) (wxx p.x p.y p.z q.x q.y q.z) := cz_mul _ _
theorem eYY : C1 (nYY p q) (wyy p.x p.y p.z q.x q.y q.z) := cz_mul _ _
theorem eZZ : C1 (nZZ p q) (wzz p.x p.y p.z q.x q.y q.z) := cz_mul _ _
theorem eXY : C1 (nXY p q) (wxy p.x p.y p.z q.x q.y q.z) := ((cz_qcr _ _ _ _ _ _).trans ((Cz.refl _ _).sub ((eXX p q).add (eYY p q)))).trans (Cz.of_eq (by unfold wxy wxx wyy; grind))
theorem eYZ : C1 (nYZ p q) (wyz p.x p.y p.z q.x q.y q.z) := ((cz_qcr _ _ _ _ _ _).trans ((Cz.refl _ _).sub ((eYY p q).add (eZZ p q)))).trans (Cz.of_eq (by unfold wyz wyy wzz; grind))
theorem eXZ : C1 (nXZ p q) (wxz p.x p.y p.z q.x q.y q.z) := ((cz_qcr _ _ _ _ _ _).trans ((Cz.refl _ _).sub ((eXX p q).add (eZZ p q)))).trans (Cz.of_eq (by unfold wxz wxx wzz; grind))
theorem eSi : C1 (nSi p q) (wsi wB p.x p.y p.z q.x q.y q.z) := (cz_qtr _).trans ((Cz.refl _ 3).mul ((cz_sub (mulM_lt (modN_pos 1))).trans ((eXZ p q).sub ((cz_mul _ _).trans ((Cz.refl _ _).mul (eZZ p q))))))
theorem eLe : C1 (nLe p q) (wle wB p.x p.y p.z q.x q.y q.z) := (cz_sub qtr_lt).trans ((eYY p q).sub (eSi p q))
theorem eRi : C1 (nRi p q) (wri wB p.x p.y p.z q.x q.y q.z) := (cz_add _ _).trans ((eYY p q).add (eSi p q))
theorem eZ3 : C1 (nZ3 p q) (wz3 p.x p.y p.z q.x q.y q.z) := (cz_qtr _).trans ((Cz.refl _ 3).mul (eZZ p q))
theorem eMM : C1 (nMM p q) (wmm wB p.x p.y p.z q.x q.y q.z) := (cz_qtr _).trans ((Cz.refl _ 3).mul ((cz_sub (mulM_lt (modN_pos 1))).trans (((cz_sub qtr_lt).trans (((cz_mul _ _).trans ((Cz.refl _ _).mul (eXZ p q))).sub (eZ3 p q))).sub (eXX p q))))
theorem eNN : C1 (nNN p q) (wnn p.x p.y p.z q.x q.y q.z) := (cz_sub qtr_lt).trans (((cz_qtr _).trans ((Cz.refl _ 3).mul (eXX p q))).sub (eZ3 p q))
theorem eAx : C1 (nAdd p q).x (wX wB p.x p.y p.z q.x q.y q.z) := (cz_sub (mulM_lt (modN_pos 1))).trans (((cz_mul _ _).trans ((eXY p q).mul (eRi p q))).sub ((cz_mul _ _).trans ((eYZ p q).mul (eMM p q))))
theorem eAy : C1 (nAdd p q).y (wY wB p.x p.y p.z q.x q.y q.z) := (cz_add _ _).trans (((cz_mul _ _).trans ((eRi p q).mul (eLe p q))).add ((cz_mul _ _).trans ((eNN p q).mul (eMM p q))))
theorem eAz : C1 (nAdd p q).z (wZ wB p.x p.y p.z q.x q.y q.z) := (cz_add _ _).trans (((cz_mul _ _).trans ((eYZ p q).mul (eLe p q))).add ((cz_mul _ _).trans ((eXY p q).mul (eNN p q))))
end
def RP (x : J3) (s : Sp) : Prop := RepW (x.x : Int) (x.y : Int) (x.z : Int) s.o
theorem rp_add {x y : J3} {s t : Sp} (hs : s.on) (ht : t.on) (hx : RP x s) (hy : RP y t) : RP (nAdd x y) (gsum s t) :=
  repW_c (rep_wadd hx hy (gsum_is hs ht)) (eAx x y) (eAy x y) (eAz x y)
def nTimesG (k : Nat) (p : J3) : Nat → J3 → J3
  | 0, x => x
  | j + 1, x => nTimesG k p j (bif bitB k j then nAdd (nAdd x x) p else nAdd x x)
theorem rp_step {k j : Nat} {p x : J3} {s : Sp} {a : Nat} (hs : s.on) (hp : RP p s) (hx : RP x (gmul s a)) : RP (bif bitB k j then nAdd (nAdd x x) p else nAdd x x) (gmul s (2 * a + bitN k j)) := by
  have h1 := rp_add (gmul_on hs a) (gmul_on hs a) hx hx
  rw [← gmul_add hs a a, ← Nat.two_mul] at h1
  unfold bitB
  have hb := bitN_le k j
  by_cases h : bitN k j = 1
  · rw [decide_eq_true h, cond_true, h]
    exact rp_add (gmul_on hs (2 * a)) hs h1 hp
  · rw [decide_eq_false h, cond_false, show bitN k j = 0 by omega]
    exact h1
theorem rp_timesG {k : Nat} {p : J3} {s : Sp} (hs : s.on) (hp : RP p s) : ∀ (j : Nat) (x : J3) (a : Nat), RP x (gmul s a) → a = k / 2 ^ j → RP (nTimesG k p j x) (gmul s k)
  | 0, x, a, hx, ha => by
    rw [Nat.pow_zero, Nat.div_one] at ha
    subst ha; exact hx
  | j + 1, x, a, hx, ha => by
    refine rp_timesG hs hp j _ (2 * a + bitN k j) (rp_step hs hp hx) ?_
    subst ha
    unfold bitN
    rw [Nat.pow_succ, ← Nat.div_div_eq_div_mul]
    omega
def fN {α : Type} (x : Nat) (f : Nat → α) : α := match x with | 0 => f 0 | n + 1 => f (n + 1)
theorem fN_eq {α : Type} (x : Nat) (f : Nat → α) : fN x f = f x := by unfold fN; split <;> rfl
def nAddF {α : Type} (p q : J3) (f : J3 → α) : α :=
  fN (mulM (modN 1) p.x q.x) fun xx => fN (mulM (modN 1) p.y q.y) fun yy => fN (mulM (modN 1) p.z q.z) fun zz =>
  fN (qcr p.x p.y q.x q.y xx yy) fun xy => fN (qcr p.y p.z q.y q.z yy zz) fun yz => fN (qcr p.x p.z q.x q.z xx zz) fun xz =>
  fN (qtr (subM (modN 1) xz (mulM (modN 1) wB zz))) fun si => fN (subM (modN 1) yy si) fun le => fN (addM (modN 1) yy si) fun ri => fN (qtr zz) fun z3 =>
  fN (qtr (subM (modN 1) (subM (modN 1) (mulM (modN 1) wB xz) z3) xx)) fun mm => fN (subM (modN 1) (qtr xx) z3) fun nn =>
  fN (subM (modN 1) (mulM (modN 1) xy ri) (mulM (modN 1) yz mm)) fun x => fN (addM (modN 1) (mulM (modN 1) ri le) (mulM (modN 1) nn mm)) fun y => fN (addM (modN 1) (mulM (modN 1) yz le) (mulM (modN 1) xy nn)) fun z => f ⟨x, y, z⟩
theorem nAddF_eq {α : Type} (p q : J3) (f : J3 → α) : nAddF p q f = f (nAdd p q) := by unfold nAddF; simp only [fN_eq]; rfl
def nTimesF {α : Type} (k : Nat) (p : J3) (f : J3 → α) : Nat → J3 → α
  | 0, x => f x
  | j + 1, x => nAddF x x fun d => bif bitB k j then nAddF d p fun e => nTimesF k p f j e else nTimesF k p f j d
theorem nTimesF_eq {α : Type} (k : Nat) (p : J3) (f : J3 → α) : ∀ j x, nTimesF k p f j x = f (nTimesG k p j x)
  | 0, _ => rfl
  | j + 1, x => by
    unfold nTimesF nTimesG
    simp only [nAddF_eq]
    cases bitB k j with
    | true => simp only [cond_true]; exact nTimesF_eq k p f j _
    | false => simp only [cond_false]; exact nTimesF_eq k p f j _
theorem ordW : (nTimesF (modN 3) ⟨wXN, wYN, 1⟩ (fun q => decide (q.z = 0)) 256 ⟨0, 1, 0⟩) = true := by decide +kernel
theorem base_on : Sp.on ⟨wXN, wYN, false⟩ := on_base
theorem gm_order : gmul ⟨wXN, wYN, false⟩ (modN 3) = sNo := by
  have h := ordW
  rw [nTimesF_eq, decide_eq_true_iff] at h
  have hr := rp_timesG (k := modN 3) (p := ⟨wXN, wYN, 1⟩) base_on (rep_canon (some ((wXN : Int), (wYN : Int)))) 256 ⟨0, 1, 0⟩ 0 (rep_canon none) (by decide +kernel)
  have hn := gmul_on base_on (modN 3)
  generalize gmul ⟨wXN, wYN, false⟩ (modN 3) = s at *
  obtain ⟨x, y, i⟩ := s
  cases i with
  | true => obtain ⟨rfl, rfl⟩ := Sp.on_none.1 hn; rfl
  | false =>
    refine absurd ?_ hr.1
    rw [h]
    exact Cz.refl _ _
theorem gm_more : gmul ⟨wXN, wYN, false⟩ (addN (modN 3) 1) = ⟨wXN, wYN, false⟩ := by
  have h1 : addN (modN 3) 1 = modN 3 + 1 := by
    unfold addN
    exact Nat.mod_eq_of_lt (by decide +kernel)
  rw [h1, gmul_add base_on (modN 3) 1, gm_order, gmul_one base_on, gsum_no_left base_on]
theorem gm_add {a b : Nat} {s : Sp} (hs : s.on) (h : addK a b = 0) (_ha : a < 4294967296 ^ 8) (_hb : b < 4294967296 ^ 8) : gsum (gmul s a) (gmul s b) = gmul s (addN a b) := by
  have h1 : addN a b = a + b := by
    unfold addK at h
    unfold addN
    exact Nat.mod_eq_of_lt (by omega)
  rw [h1, gmul_add hs a b]
end Go.Ev

namespace Go.Ev
open Go Go.Proofs Go.RowKit

def shB : List SK := [.n8, .n8, .i, .s]
theorem u40 : Try.prog.underlying 40 = some (.slice 46) := by kernel_rfl
theorem k46 : kindsT Try.prog 20 46 = some (shKs shB) := by kernel_rfl
theorem s46 : sizeA Try.prog 46 = some (shSz shB) := by kernel_rfl
theorem rd40 : Try.prog.readableRec 40 = true := by kernel_rfl
theorem row40 : (40 : Nat) < Try.prog.types.size := of_decide_eq_true (by kernel_rfl)
noncomputable def S4w : FuncId → Nat → Bool := fun f t => match f with | 4 => memN t [47, 52, 57, 67, 72, 81, 87, 110, 114, 119] | _ => false
noncomputable def L4w (bx bz : Nat) : List CT := ⟨19, cV (.val (P3 bx bz false))⟩ :: LW true true
def isB (bx bz : Nat) : Prop := bx = wXN ∧ bz = wYN
theorem L4w_ok {bx bz : Nat} (h : isB bx bz) : AllCT (L4w bx bz) := ⟨by rw [h.1, h.2]; exact ctV spec19w, LW_ok true true⟩
noncomputable def E4w (bx bz : Nat) : Env := mkE (L4w bx bz) S4w
theorem envE4w {bx bz : Nat} (h : isB bx bz) : EnvOK (E4w bx bz) := envMk (L4w_ok h) S4w
def T4w (len cap : Nat) (i : Int) : List AV := slots 123 [(0, sV' len cap), (2, bV false), (3, pV 1), (10, iV i)]
def M4w (c : Cells) (m bx bz : Nat) : List Blk := [rowB c shB m 46, ⟨[.num 8 bx, .num 8 bz, .a (.v (.bool false))], 27, true, false, 0⟩]
theorem wfT4w (c : Cells) (m bx bz len cap : Nat) (i : Int) : wfS (T4w len cap i) (M4w c m bx bz) = true := wfS_of (by
  intro b hb
  simp only [M4w, List.mem_cons, List.not_mem_nil, or_false] at hb
  rcases hb with rfl | rfl
  · exact rowB_free _ _ _ _
  · exact fun _ => rfl) (by show tmsWf 2 _ = true; kernel_rfl)
theorem isB_on {bx bz : Nat} (h : isB bx bz) : Sp.on ⟨bx, bz, false⟩ := by rw [h.1, h.2]; exact base_on
theorem gm_orderB {bx bz : Nat} (h : isB bx bz) : gmul ⟨bx, bz, false⟩ (modN 3) = sNo := by rw [h.1, h.2]; exact gm_order
theorem gm_moreB {bx bz : Nat} (h : isB bx bz) : gmul ⟨bx, bz, false⟩ (addN (modN 3) 1) = ⟨bx, bz, false⟩ := by rw [h.1, h.2]; exact gm_more
theorem a4t (c : Cells) (bx : Nat) (bz : Nat) (len : Nat) (cap : Nat) : runTo (E4w bx bz) 1000 (Env.S (E4w bx bz) 4) (bodyOf Try.prog 4 8) (T4w len cap ((0 : Nat) : Int)) (M4w c 1 bx bz) [true, true, false, true] (T4w len cap (↑(0 + 1) : Int)) 2 =
    some ([decide (((0 : Nat) : Int) < (↑len : Int)) = true, (0 : Int) ≤ ((0 : Nat) : Int) ∧ ((0 : Nat) : Int) < (↑len : Int), (0 : Int) ≤ ((0 : Nat) : Int) ∧ ((0 : Nat) : Int) < (↑len : Int), nA c 0 < 4294967296 ^ 8, nA c 8 < 4294967296 ^ 8, (0 : Int) ≤ ((0 : Nat) : Int) ∧ ((0 : Nat) : Int) < (↑len : Int), (0 : Int) ≤ ((0 : Nat) : Int) ∧ ((0 : Nat) : Int) < (↑len : Int), nA c 0 < 4294967296 ^ 8, bx < 4294967296 ^ 8, bz < 4294967296 ^ 8, nA c 8 < 4294967296 ^ 8, bx < 4294967296 ^ 8, bz < 4294967296 ^ 8, onS bx bz false = true, onS bx bz false = true, addN (nA c 0) (nA c 8) < 4294967296 ^ 8, bx < 4294967296 ^ 8, bz < 4294967296 ^ 8, onS bx bz false = true, decide (addK (nA c 0) (nA c 8) = 0) = true, (!(decide ((gsum (gmul (Sp.mk bx bz false) (nA c 0)) (gmul (Sp.mk bx bz false) (nA c 8))).1 % 4294967296 ^ 8 = (gmul (Sp.mk bx bz false) (addN (nA c 0) (nA c 8))).1 % 4294967296 ^ 8) && (decide ((gsum (gmul (Sp.mk bx bz false) (nA c 0)) (gmul (Sp.mk bx bz false) (nA c 8))).2 % 4294967296 ^ 8 = (gmul (Sp.mk bx bz false) (addN (nA c 0) (nA c 8))).2 % 4294967296 ^ 8) && ((gsum (gmul (Sp.mk bx bz false) (nA c 0)) (gmul (Sp.mk bx bz false) (nA c 8))).3 == (gmul (Sp.mk bx bz false) (addN (nA c 0) (nA c 8))).3 && true)))) = false, onS (gsum (gmul (Sp.mk bx bz false) (nA c 0)) (gmul (Sp.mk bx bz false) (nA c 8))).1 (gsum (gmul (Sp.mk bx bz false) (nA c 0)) (gmul (Sp.mk bx bz false) (nA c 8))).2 (gsum (gmul (Sp.mk bx bz false) (nA c 0)) (gmul (Sp.mk bx bz false) (nA c 8))).3 = true, (gsum (gmul (Sp.mk bx bz false) (nA c 0)) (gmul (Sp.mk bx bz false) (nA c 8))).1 < 4294967296 ^ 8, (gsum (gmul (Sp.mk bx bz false) (nA c 0)) (gmul (Sp.mk bx bz false) (nA c 8))).2 < 4294967296 ^ 8], .normal, T4w len cap ((0 + 1 : Nat) : Int), M4w c 1 bx bz) := by kernel_rfl
theorem a4f (c : Cells) (bx : Nat) (bz : Nat) (len : Nat) (cap : Nat) : runTo (E4w bx bz) 1000 (Env.S (E4w bx bz) 4) (bodyOf Try.prog 4 8) (T4w len cap ((0 : Nat) : Int)) (M4w c 1 bx bz) [true, false, true] (T4w len cap (↑(0 + 1) : Int)) 2 =
    some ([decide (((0 : Nat) : Int) < (↑len : Int)) = true, (0 : Int) ≤ ((0 : Nat) : Int) ∧ ((0 : Nat) : Int) < (↑len : Int), (0 : Int) ≤ ((0 : Nat) : Int) ∧ ((0 : Nat) : Int) < (↑len : Int), nA c 0 < 4294967296 ^ 8, nA c 8 < 4294967296 ^ 8, (0 : Int) ≤ ((0 : Nat) : Int) ∧ ((0 : Nat) : Int) < (↑len : Int), (0 : Int) ≤ ((0 : Nat) : Int) ∧ ((0 : Nat) : Int) < (↑len : Int), nA c 0 < 4294967296 ^ 8, bx < 4294967296 ^ 8, bz < 4294967296 ^ 8, nA c 8 < 4294967296 ^ 8, bx < 4294967296 ^ 8, bz < 4294967296 ^ 8, onS bx bz false = true, onS bx bz false = true, addN (nA c 0) (nA c 8) < 4294967296 ^ 8, bx < 4294967296 ^ 8, bz < 4294967296 ^ 8, onS bx bz false = true, decide (addK (nA c 0) (nA c 8) = 0) = false, onS (gsum (gmul (Sp.mk bx bz false) (nA c 0)) (gmul (Sp.mk bx bz false) (nA c 8))).1 (gsum (gmul (Sp.mk bx bz false) (nA c 0)) (gmul (Sp.mk bx bz false) (nA c 8))).2 (gsum (gmul (Sp.mk bx bz false) (nA c 0)) (gmul (Sp.mk bx bz false) (nA c 8))).3 = true, (gsum (gmul (Sp.mk bx bz false) (nA c 0)) (gmul (Sp.mk bx bz false) (nA c 8))).1 < 4294967296 ^ 8, (gsum (gmul (Sp.mk bx bz false) (nA c 0)) (gmul (Sp.mk bx bz false) (nA c 8))).2 < 4294967296 ^ 8], .normal, T4w len cap ((0 + 1 : Nat) : Int), M4w c 1 bx bz) := by kernel_rfl
theorem l4s_1_0 (c : Cells) {bx bz len cap : Nat} (hB : isB bx bz) (hl : 0 < len) (ho : All (rowOb c shB 1 0)) : Goes Try.prog (bodyOf Try.prog 4 8) .normal (T4w len cap ((0 : Nat) : Int)) (M4w c 1 bx bz) (T4w len cap ((0 + 1 : Nat) : Int)) (M4w c 1 bx bz) := by
  obtain ⟨g0, g1, _⟩ := ho
  have w0 : nA c 0 < 4294967296 ^ 8 := g0
  have w1 : nA c 8 < 4294967296 ^ 8 := g1
  have hll : decide (((0 : Nat) : Int) < (len : Int)) = true := decide_eq_true (by omega)
  have hii : 0 ≤ ((0 : Nat) : Int) ∧ ((0 : Nat) : Int) < (len : Int) := by omega
  have hb := isB_on hB
  have hbo := onP hb
  obtain ⟨hb1, hb2⟩ := spB hb
  have hs := addN_lt (nA c 0) (nA c 8)
  have hsum := gsum_on (gmul_on hb (nA c 0)) (gmul_on hb (nA c 8))
  have hso := onP hsum
  obtain ⟨s1, s2⟩ := spB hsum
  obtain ⟨s3, s4⟩ := spB (gmul_on hb (addN (nA c 0) (nA c 8)))
  cases hc : decide (addK (nA c 0) (nA c 8) = 0) with
  | true =>
    have z1 := neqS (gm_add hb (of_decide_eq_true hc) w0 w1)
    exact Runs.goes (envE4w hB) ⟨_, _, a4t c bx bz len cap, ⟨(by first | with_reducible assumption | with_reducible exact L8 (by with_reducible assumption) | exact decide_eq_true (by omega) | exact decide_eq_false (by omega) | omega), (by first | with_reducible assumption | with_reducible exact L8 (by with_reducible assumption) | exact decide_eq_true (by omega) | exact decide_eq_false (by omega) | omega), (by first | with_reducible assumption | with_reducible exact L8 (by with_reducible assumption) | exact decide_eq_true (by omega) | exact decide_eq_false (by omega) | omega), (by first | with_reducible assumption | with_reducible exact L8 (by with_reducible assumption) | exact decide_eq_true (by omega) | exact decide_eq_false (by omega) | omega), (by first | with_reducible assumption | with_reducible exact L8 (by with_reducible assumption) | exact decide_eq_true (by omega) | exact decide_eq_false (by omega) | omega), (by first | with_reducible assumption | with_reducible exact L8 (by with_reducible assumption) | exact decide_eq_true (by omega) | exact decide_eq_false (by omega) | omega), (by first | with_reducible assumption | with_reducible exact L8 (by with_reducible assumption) | exact decide_eq_true (by omega) | exact decide_eq_false (by omega) | omega), (by first | with_reducible assumption | with_reducible exact L8 (by with_reducible assumption) | exact decide_eq_true (by omega) | exact decide_eq_false (by omega) | omega), (by first | with_reducible assumption | with_reducible exact L8 (by with_reducible assumption) | exact decide_eq_true (by omega) | exact decide_eq_false (by omega) | omega), (by first | with_reducible assumption | with_reducible exact L8 (by with_reducible assumption) | exact decide_eq_true (by omega) | exact decide_eq_false (by omega) | omega), (by first | with_reducible assumption | with_reducible exact L8 (by with_reducible assumption) | exact decide_eq_true (by omega) | exact decide_eq_false (by omega) | omega), (by first | with_reducible assumption | with_reducible exact L8 (by with_reducible assumption) | exact decide_eq_true (by omega) | exact decide_eq_false (by omega) | omega), (by first | with_reducible assumption | with_reducible exact L8 (by with_reducible assumption) | exact decide_eq_true (by omega) | exact decide_eq_false (by omega) | omega), (by first | with_reducible assumption | with_reducible exact L8 (by with_reducible assumption) | exact decide_eq_true (by omega) | exact decide_eq_false (by omega) | omega), (by first | with_reducible assumption | with_reducible exact L8 (by with_reducible assumption) | exact decide_eq_true (by omega) | exact decide_eq_false (by omega) | omega), (addN_lt _ _), (by first | with_reducible assumption | with_reducible exact L8 (by with_reducible assumption) | exact decide_eq_true (by omega) | exact decide_eq_false (by omega) | omega), (by first | with_reducible assumption | with_reducible exact L8 (by with_reducible assumption) | exact decide_eq_true (by omega) | exact decide_eq_false (by omega) | omega), (by first | with_reducible assumption | with_reducible exact L8 (by with_reducible assumption) | exact decide_eq_true (by omega) | exact decide_eq_false (by omega) | omega), (by first | with_reducible assumption | with_reducible exact L8 (by with_reducible assumption) | exact decide_eq_true (by omega) | exact decide_eq_false (by omega) | omega), (by first | with_reducible assumption | with_reducible exact L8 (by with_reducible assumption) | exact decide_eq_true (by omega) | exact decide_eq_false (by omega) | omega), (by first | with_reducible assumption | with_reducible exact L8 (by with_reducible assumption) | exact decide_eq_true (by omega) | exact decide_eq_false (by omega) | omega), (by first | with_reducible assumption | with_reducible exact L8 (by with_reducible assumption) | exact decide_eq_true (by omega) | exact decide_eq_false (by omega) | omega), (by first | with_reducible assumption | with_reducible exact L8 (by with_reducible assumption) | exact decide_eq_true (by omega) | exact decide_eq_false (by omega) | omega), trivial⟩, wfT4w _ _ _ _ _ _ _⟩
  | false => exact Runs.goes (envE4w hB) ⟨_, _, a4f c bx bz len cap, ⟨(by first | with_reducible assumption | with_reducible exact L8 (by with_reducible assumption) | exact decide_eq_true (by omega) | exact decide_eq_false (by omega) | omega), (by first | with_reducible assumption | with_reducible exact L8 (by with_reducible assumption) | exact decide_eq_true (by omega) | exact decide_eq_false (by omega) | omega), (by first | with_reducible assumption | with_reducible exact L8 (by with_reducible assumption) | exact decide_eq_true (by omega) | exact decide_eq_false (by omega) | omega), (by first | with_reducible assumption | with_reducible exact L8 (by with_reducible assumption) | exact decide_eq_true (by omega) | exact decide_eq_false (by omega) | omega), (by first | with_reducible assumption | with_reducible exact L8 (by with_reducible assumption) | exact decide_eq_true (by omega) | exact decide_eq_false (by omega) | omega), (by first | with_reducible assumption | with_reducible exact L8 (by with_reducible assumption) | exact decide_eq_true (by omega) | exact decide_eq_false (by omega) | omega), (by first | with_reducible assumption | with_reducible exact L8 (by with_reducible assumption) | exact decide_eq_true (by omega) | exact decide_eq_false (by omega) | omega), (by first | with_reducible assumption | with_reducible exact L8 (by with_reducible assumption) | exact decide_eq_true (by omega) | exact decide_eq_false (by omega) | omega), (by first | with_reducible assumption | with_reducible exact L8 (by with_reducible assumption) | exact decide_eq_true (by omega) | exact decide_eq_false (by omega) | omega), (by first | with_reducible assumption | with_reducible exact L8 (by with_reducible assumption) | exact decide_eq_true (by omega) | exact decide_eq_false (by omega) | omega), (by first | with_reducible assumption | with_reducible exact L8 (by with_reducible assumption) | exact decide_eq_true (by omega) | exact decide_eq_false (by omega) | omega), (by first | with_reducible assumption | with_reducible exact L8 (by with_reducible assumption) | exact decide_eq_true (by omega) | exact decide_eq_false (by omega) | omega), (by first | with_reducible assumption | with_reducible exact L8 (by with_reducible assumption) | exact decide_eq_true (by omega) | exact decide_eq_false (by omega) | omega), (by first | with_reducible assumption | with_reducible exact L8 (by with_reducible assumption) | exact decide_eq_true (by omega) | exact decide_eq_false (by omega) | omega), (by first | with_reducible assumption | with_reducible exact L8 (by with_reducible assumption) | exact decide_eq_true (by omega) | exact decide_eq_false (by omega) | omega), (addN_lt _ _), (by first | with_reducible assumption | with_reducible exact L8 (by with_reducible assumption) | exact decide_eq_true (by omega) | exact decide_eq_false (by omega) | omega), (by first | with_reducible assumption | with_reducible exact L8 (by with_reducible assumption) | exact decide_eq_true (by omega) | exact decide_eq_false (by omega) | omega), (by first | with_reducible assumption | with_reducible exact L8 (by with_reducible assumption) | exact decide_eq_true (by omega) | exact decide_eq_false (by omega) | omega), (by first | with_reducible assumption | with_reducible exact L8 (by with_reducible assumption) | exact decide_eq_true (by omega) | exact decide_eq_false (by omega) | omega), (by first | with_reducible assumption | with_reducible exact L8 (by with_reducible assumption) | exact decide_eq_true (by omega) | exact decide_eq_false (by omega) | omega), (by first | with_reducible assumption | with_reducible exact L8 (by with_reducible assumption) | exact decide_eq_true (by omega) | exact decide_eq_false (by omega) | omega), (by first | with_reducible assumption | with_reducible exact L8 (by with_reducible assumption) | exact decide_eq_true (by omega) | exact decide_eq_false (by omega) | omega), trivial⟩, wfT4w _ _ _ _ _ _ _⟩
end Go.Ev

namespace Go.Ev
open Go Go.Proofs Go.RowKit
theorem l4p (c : Cells) (bx bz : Nat) (len cap : Nat) (m : Nat) : runTo (E4w bx bz) 1000 ((E4w bx bz).S 4) (bodyOf Try.prog 4 8) (T4w len cap (m : Int)) (M4w c m bx bz) [false] (T4w len cap (m : Int)) 2 =
    some ([decide ((m : Int) < (len : Int)) = false], .exit 0, T4w len cap (m : Int), M4w c m bx bz) := by kernel_rfl
theorem l4q (c : Cells) (bx bz : Nat) (len cap : Nat) : runTo (E4w bx bz) 1000 ((E4w bx bz).S 4) (bodyOf Try.prog 4 8) (T4w len cap ((1 : Nat) : Int)) (M4w c 1 bx bz) [true] (T4w len cap ((1 : Nat) : Int)) 2 =
    some ([decide (((1 : Nat) : Int) < (len : Int)) = true], .exit 0, T4w len cap ((1 : Nat) : Int), M4w c 1 bx bz) := by kernel_rfl
theorem l4loop (c : Cells) (bx bz : Nat) (len cap : Nat) {m : Nat} (hB : isB bx bz) (hm : m = min len 1) (ho : All (rowOb c shB m 0)) : Goes Try.prog (.loop (bodyOf Try.prog 4 8)) (.exit 0) (T4w len cap ((0 : Nat) : Int)) (M4w c m bx bz) (T4w len cap (m : Int)) (M4w c m bx bz) := by
  refine loop_goes (N := m) (k := 2) (T := fun i => T4w len cap (i : Int)) (M := fun _ => M4w c m bx bz) (by simp) (fun _ _ => rfl) (fun i hi => ?_) ?_
  · have h3 : (m = 1 ∧ i = 0) := by omega
    have hl : i < len := by omega
    clear hm
    rcases h3 with ⟨rfl, rfl⟩
    · exact l4s_1_0 c hB hl ho
  · by_cases h : m < len
    · obtain rfl : m = 1 := by omega
      exact Runs.goes (envE4w hB) ⟨[true], _, l4q c bx bz len cap, ⟨decide_eq_true (by omega), trivial⟩, wfT4w _ _ _ _ _ _ _⟩
    · exact Runs.goes (envE4w hB) ⟨[false], _, l4p c bx bz len cap m, ⟨decide_eq_false (by omega), trivial⟩, wfT4w _ _ _ _ _ _ _⟩
noncomputable def l4X (c : Cells) (bx bz : Nat) (len cap : Nat) (m : Nat) : Env := withL (E4w bx bz) 8 (bodyOf Try.prog 4 8) (sumC (T4w len cap ((0 : Nat) : Int)) (M4w c m bx bz) (T4w len cap (m : Int)) (M4w c m bx bz) (.exit 0))
theorem l4Xok (c : Cells) (bx bz : Nat) (len cap : Nat) {m : Nat} (hB : isB bx bz) (hm : m = min len 1) (ho : All (rowOb c shB m 0)) : EnvOK (l4X c bx bz len cap m) := envWithL (envE4w hB) (sumC_ok rfl (l4loop c bx bz len cap hB hm ho))
theorem l4run4 (c : Cells) (bx : Nat) (bz : Nat) (len : Nat) (cap : Nat) (m : Nat) : dropM (callBy (l4X c bx bz len cap m) (evalC (l4X c bx bz len cap m) 1000) 4 [V1.one (Atom.sl 0 0 len cap)] [rowB c shB m 46] [false, false]) =
    some ([(0 : Int) ≤ (3 : Int) ∧ (3 : Int) < (4 : Int), modN 3 < 4294967296 ^ 8, bx < 4294967296 ^ 8, bz < 4294967296 ^ 8, onS bx bz false = true, (0 : Int) ≤ (3 : Int) ∧ (3 : Int) < (4 : Int), modN 3 < 4294967296 ^ 8, 1 < 4294967296, 0 < 4294967296, 0 < 4294967296, 0 < 4294967296, 0 < 4294967296, 0 < 4294967296, 0 < 4294967296, 0 < 4294967296, addN (modN 3) 1 < 4294967296 ^ 8, bx < 4294967296 ^ 8, bz < 4294967296 ^ 8, onS bx bz false = true, (!(decide ((gmul (Sp.mk bx bz false) (modN 3)).1 % 4294967296 = 0) && (decide ((gmul (Sp.mk bx bz false) (modN 3)).1 / 4294967296 % 4294967296 = 0) && (decide ((gmul (Sp.mk bx bz false) (modN 3)).1 / 4294967296 / 4294967296 % 4294967296 = 0) && (decide ((gmul (Sp.mk bx bz false) (modN 3)).1 / 4294967296 / 4294967296 / 4294967296 % 4294967296 = 0) && (decide ((gmul (Sp.mk bx bz false) (modN 3)).1 / 4294967296 / 4294967296 / 4294967296 / 4294967296 % 4294967296 = 0) && (decide ((gmul (Sp.mk bx bz false) (modN 3)).1 / 4294967296 / 4294967296 / 4294967296 / 4294967296 / 4294967296 % 4294967296 = 0) && (decide ((gmul (Sp.mk bx bz false) (modN 3)).1 / 4294967296 / 4294967296 / 4294967296 / 4294967296 / 4294967296 / 4294967296 % 4294967296 = 0) && (decide ((gmul (Sp.mk bx bz false) (modN 3)).1 / 4294967296 / 4294967296 / 4294967296 / 4294967296 / 4294967296 / 4294967296 / 4294967296 % 4294967296 = 0) && (decide ((gmul (Sp.mk bx bz false) (modN 3)).2 % 4294967296 = 0) && (decide ((gmul (Sp.mk bx bz false) (modN 3)).2 / 4294967296 % 4294967296 = 0) && (decide ((gmul (Sp.mk bx bz false) (modN 3)).2 / 4294967296 / 4294967296 % 4294967296 = 0) && (decide ((gmul (Sp.mk bx bz false) (modN 3)).2 / 4294967296 / 4294967296 / 4294967296 % 4294967296 = 0) && (decide ((gmul (Sp.mk bx bz false) (modN 3)).2 / 4294967296 / 4294967296 / 4294967296 / 4294967296 % 4294967296 = 0) && (decide ((gmul (Sp.mk bx bz false) (modN 3)).2 / 4294967296 / 4294967296 / 4294967296 / 4294967296 / 4294967296 % 4294967296 = 0) && (decide ((gmul (Sp.mk bx bz false) (modN 3)).2 / 4294967296 / 4294967296 / 4294967296 / 4294967296 / 4294967296 / 4294967296 % 4294967296 = 0) && (decide ((gmul (Sp.mk bx bz false) (modN 3)).2 / 4294967296 / 4294967296 / 4294967296 / 4294967296 / 4294967296 / 4294967296 / 4294967296 % 4294967296 = 0) && ((gmul (Sp.mk bx bz false) (modN 3)).3 == true && true)))))))))))))))))) = false, (!(decide ((gmul (Sp.mk bx bz false) (addN (modN 3) 1)).1 % 4294967296 ^ 8 = bx % 4294967296 ^ 8) && (decide ((gmul (Sp.mk bx bz false) (addN (modN 3) 1)).2 % 4294967296 ^ 8 = bz % 4294967296 ^ 8) && ((gmul (Sp.mk bx bz false) (addN (modN 3) 1)).3 == false && true)))) = false, (bodyOf Try.prog 4 8) = (bodyOf Try.prog 4 8), (T4w len cap ((0 : Nat) : Int), M4w c m bx bz) = (T4w len cap ((0 : Nat) : Int), M4w c m bx bz), wfS (T4w len cap ((0 : Nat) : Int)) (M4w c m bx bz) = true], bV true) := by kernel_rfl
theorem l4nil4 (bx : Nat) (bz : Nat) : dropM (callBy (E4w bx bz) (evalC (E4w bx bz) 1000) 4 [V1.one (Atom.v (Value.slice none 0 0))] [] [false, false, false]) =
    some ([(0 : Int) ≤ (3 : Int) ∧ (3 : Int) < (4 : Int), modN 3 < 4294967296 ^ 8, bx < 4294967296 ^ 8, bz < 4294967296 ^ 8, onS bx bz false = true, (0 : Int) ≤ (3 : Int) ∧ (3 : Int) < (4 : Int), modN 3 < 4294967296 ^ 8, 1 < 4294967296, 0 < 4294967296, 0 < 4294967296, 0 < 4294967296, 0 < 4294967296, 0 < 4294967296, 0 < 4294967296, 0 < 4294967296, addN (modN 3) 1 < 4294967296 ^ 8, bx < 4294967296 ^ 8, bz < 4294967296 ^ 8, onS bx bz false = true, (!(decide ((gmul (Sp.mk bx bz false) (modN 3)).1 % 4294967296 = 0) && (decide ((gmul (Sp.mk bx bz false) (modN 3)).1 / 4294967296 % 4294967296 = 0) && (decide ((gmul (Sp.mk bx bz false) (modN 3)).1 / 4294967296 / 4294967296 % 4294967296 = 0) && (decide ((gmul (Sp.mk bx bz false) (modN 3)).1 / 4294967296 / 4294967296 / 4294967296 % 4294967296 = 0) && (decide ((gmul (Sp.mk bx bz false) (modN 3)).1 / 4294967296 / 4294967296 / 4294967296 / 4294967296 % 4294967296 = 0) && (decide ((gmul (Sp.mk bx bz false) (modN 3)).1 / 4294967296 / 4294967296 / 4294967296 / 4294967296 / 4294967296 % 4294967296 = 0) && (decide ((gmul (Sp.mk bx bz false) (modN 3)).1 / 4294967296 / 4294967296 / 4294967296 / 4294967296 / 4294967296 / 4294967296 % 4294967296 = 0) && (decide ((gmul (Sp.mk bx bz false) (modN 3)).1 / 4294967296 / 4294967296 / 4294967296 / 4294967296 / 4294967296 / 4294967296 / 4294967296 % 4294967296 = 0) && (decide ((gmul (Sp.mk bx bz false) (modN 3)).2 % 4294967296 = 0) && (decide ((gmul (Sp.mk bx bz false) (modN 3)).2 / 4294967296 % 4294967296 = 0) && (decide ((gmul (Sp.mk bx bz false) (modN 3)).2 / 4294967296 / 4294967296 % 4294967296 = 0) && (decide ((gmul (Sp.mk bx bz false) (modN 3)).2 / 4294967296 / 4294967296 / 4294967296 % 4294967296 = 0) && (decide ((gmul (Sp.mk bx bz false) (modN 3)).2 / 4294967296 / 4294967296 / 4294967296 / 4294967296 % 4294967296 = 0) && (decide ((gmul (Sp.mk bx bz false) (modN 3)).2 / 4294967296 / 4294967296 / 4294967296 / 4294967296 / 4294967296 % 4294967296 = 0) && (decide ((gmul (Sp.mk bx bz false) (modN 3)).2 / 4294967296 / 4294967296 / 4294967296 / 4294967296 / 4294967296 / 4294967296 % 4294967296 = 0) && (decide ((gmul (Sp.mk bx bz false) (modN 3)).2 / 4294967296 / 4294967296 / 4294967296 / 4294967296 / 4294967296 / 4294967296 / 4294967296 % 4294967296 = 0) && ((gmul (Sp.mk bx bz false) (modN 3)).3 == true && true)))))))))))))))))) = false, (!(decide ((gmul (Sp.mk bx bz false) (addN (modN 3) 1)).1 % 4294967296 ^ 8 = bx % 4294967296 ^ 8) && (decide ((gmul (Sp.mk bx bz false) (addN (modN 3) 1)).2 % 4294967296 ^ 8 = bz % 4294967296 ^ 8) && ((gmul (Sp.mk bx bz false) (addN (modN 3) 1)).3 == false && true)))) = false, decide ((0 : Int) < ((0 : Nat) : Int)) = false], bV true) := by kernel_rfl
theorem l4nila4 {bx bz : Nat} (hB : isB bx bz) (w : World) : Calls (E4w bx bz).P 4 #[.slice none 0 0] w (Trues w) := by
  have hb := isB_on hB
  have hbo := onP hb
  obtain ⟨hb1, hb2⟩ := spB hb
  have zE : gmul ⟨bx, bz, false⟩ (modN 3) = ⟨0, 0, true⟩ := gm_orderB hB
  have z2 := neqS (gm_moreB hB)
  have hs := addN_lt (modN 3) 1
  exact law_nilD (envE4w hB) (l4nil4 bx bz) ⟨(by decide), (modN_lt _), (by first | with_reducible assumption | with_reducible exact L8 (by with_reducible assumption) | exact decide_eq_true (by omega) | exact decide_eq_false (by omega) | omega), (by first | with_reducible assumption | with_reducible exact L8 (by with_reducible assumption) | exact decide_eq_true (by omega) | exact decide_eq_false (by omega) | omega), (by first | with_reducible assumption | with_reducible exact L8 (by with_reducible assumption) | exact decide_eq_true (by omega) | exact decide_eq_false (by omega) | omega), (by decide), (modN_lt _), lit1, lit0, lit0, lit0, lit0, lit0, lit0, lit0, (addN_lt _ _), (by first | with_reducible assumption | with_reducible exact L8 (by with_reducible assumption) | exact decide_eq_true (by omega) | exact decide_eq_false (by omega) | omega), (by first | with_reducible assumption | with_reducible exact L8 (by with_reducible assumption) | exact decide_eq_true (by omega) | exact decide_eq_false (by omega) | omega), (by first | with_reducible assumption | with_reducible exact L8 (by with_reducible assumption) | exact decide_eq_true (by omega) | exact decide_eq_false (by omega) | omega), (by rw [zE]; rfl), (by first | with_reducible assumption | with_reducible exact L8 (by with_reducible assumption) | exact decide_eq_true (by omega) | exact decide_eq_false (by omega) | omega), (by first | with_reducible assumption | with_reducible exact L8 (by with_reducible assumption) | exact decide_eq_true (by omega) | exact decide_eq_false (by omega) | omega), trivial⟩ w
theorem l4nilc4 (w : World) : Calls Try.prog 4 #[.slice none 0 0] w (Trues w) := l4nila4 (bx := wXN) (bz := wYN) ⟨rfl, rfl⟩ w
theorem l4obs (c : Cells) {bx bz : Nat} (hB : isB bx bz) (len cap m : Nat) : All [(0 : Int) ≤ (3 : Int) ∧ (3 : Int) < (4 : Int), modN 3 < 4294967296 ^ 8, bx < 4294967296 ^ 8, bz < 4294967296 ^ 8, onS bx bz false = true, (0 : Int) ≤ (3 : Int) ∧ (3 : Int) < (4 : Int), modN 3 < 4294967296 ^ 8, 1 < 4294967296, 0 < 4294967296, 0 < 4294967296, 0 < 4294967296, 0 < 4294967296, 0 < 4294967296, 0 < 4294967296, 0 < 4294967296, addN (modN 3) 1 < 4294967296 ^ 8, bx < 4294967296 ^ 8, bz < 4294967296 ^ 8, onS bx bz false = true, (!(decide ((gmul (Sp.mk bx bz false) (modN 3)).1 % 4294967296 = 0) && (decide ((gmul (Sp.mk bx bz false) (modN 3)).1 / 4294967296 % 4294967296 = 0) && (decide ((gmul (Sp.mk bx bz false) (modN 3)).1 / 4294967296 / 4294967296 % 4294967296 = 0) && (decide ((gmul (Sp.mk bx bz false) (modN 3)).1 / 4294967296 / 4294967296 / 4294967296 % 4294967296 = 0) && (decide ((gmul (Sp.mk bx bz false) (modN 3)).1 / 4294967296 / 4294967296 / 4294967296 / 4294967296 % 4294967296 = 0) && (decide ((gmul (Sp.mk bx bz false) (modN 3)).1 / 4294967296 / 4294967296 / 4294967296 / 4294967296 / 4294967296 % 4294967296 = 0) && (decide ((gmul (Sp.mk bx bz false) (modN 3)).1 / 4294967296 / 4294967296 / 4294967296 / 4294967296 / 4294967296 / 4294967296 % 4294967296 = 0) && (decide ((gmul (Sp.mk bx bz false) (modN 3)).1 / 4294967296 / 4294967296 / 4294967296 / 4294967296 / 4294967296 / 4294967296 / 4294967296 % 4294967296 = 0) && (decide ((gmul (Sp.mk bx bz false) (modN 3)).2 % 4294967296 = 0) && (decide ((gmul (Sp.mk bx bz false) (modN 3)).2 / 4294967296 % 4294967296 = 0) && (decide ((gmul (Sp.mk bx bz false) (modN 3)).2 / 4294967296 / 4294967296 % 4294967296 = 0) && (decide ((gmul (Sp.mk bx bz false) (modN 3)).2 / 4294967296 / 4294967296 / 4294967296 % 4294967296 = 0) && (decide ((gmul (Sp.mk bx bz false) (modN 3)).2 / 4294967296 / 4294967296 / 4294967296 / 4294967296 % 4294967296 = 0) && (decide ((gmul (Sp.mk bx bz false) (modN 3)).2 / 4294967296 / 4294967296 / 4294967296 / 4294967296 / 4294967296 % 4294967296 = 0) && (decide ((gmul (Sp.mk bx bz false) (modN 3)).2 / 4294967296 / 4294967296 / 4294967296 / 4294967296 / 4294967296 / 4294967296 % 4294967296 = 0) && (decide ((gmul (Sp.mk bx bz false) (modN 3)).2 / 4294967296 / 4294967296 / 4294967296 / 4294967296 / 4294967296 / 4294967296 / 4294967296 % 4294967296 = 0) && ((gmul (Sp.mk bx bz false) (modN 3)).3 == true && true)))))))))))))))))) = false, (!(decide ((gmul (Sp.mk bx bz false) (addN (modN 3) 1)).1 % 4294967296 ^ 8 = bx % 4294967296 ^ 8) && (decide ((gmul (Sp.mk bx bz false) (addN (modN 3) 1)).2 % 4294967296 ^ 8 = bz % 4294967296 ^ 8) && ((gmul (Sp.mk bx bz false) (addN (modN 3) 1)).3 == false && true)))) = false, (bodyOf Try.prog 4 8) = (bodyOf Try.prog 4 8), (T4w len cap ((0 : Nat) : Int), M4w c m bx bz) = (T4w len cap ((0 : Nat) : Int), M4w c m bx bz), wfS (T4w len cap ((0 : Nat) : Int)) (M4w c m bx bz) = true] := by
  have hb := isB_on hB
  have hbo := onP hb
  obtain ⟨hb1, hb2⟩ := spB hb
  have zE : gmul ⟨bx, bz, false⟩ (modN 3) = ⟨0, 0, true⟩ := gm_orderB hB
  have z2 := neqS (gm_moreB hB)
  have hs := addN_lt (modN 3) 1
  have hw := wfT4w c m bx bz len cap ((0 : Nat) : Int)
  exact ⟨(by decide), (modN_lt _), (by first | with_reducible assumption | with_reducible exact L8 (by with_reducible assumption) | exact decide_eq_true (by omega) | exact decide_eq_false (by omega) | omega), (by first | with_reducible assumption | with_reducible exact L8 (by with_reducible assumption) | exact decide_eq_true (by omega) | exact decide_eq_false (by omega) | omega), (by first | with_reducible assumption | with_reducible exact L8 (by with_reducible assumption) | exact decide_eq_true (by omega) | exact decide_eq_false (by omega) | omega), (by decide), (modN_lt _), lit1, lit0, lit0, lit0, lit0, lit0, lit0, lit0, (addN_lt _ _), (by first | with_reducible assumption | with_reducible exact L8 (by with_reducible assumption) | exact decide_eq_true (by omega) | exact decide_eq_false (by omega) | omega), (by first | with_reducible assumption | with_reducible exact L8 (by with_reducible assumption) | exact decide_eq_true (by omega) | exact decide_eq_false (by omega) | omega), (by first | with_reducible assumption | with_reducible exact L8 (by with_reducible assumption) | exact decide_eq_true (by omega) | exact decide_eq_false (by omega) | omega), (by rw [zE]; rfl), (by first | with_reducible assumption | with_reducible exact L8 (by with_reducible assumption) | exact decide_eq_true (by omega) | exact decide_eq_false (by omega) | omega), rfl, rfl, (by assumption), trivial⟩
theorem law4g {bx bz : Nat} (hB : isB bx bz) (c : Cells) (m len cap : Nat) (hm : m = min len 1) (ho : All (rowOb c shB m 0)) (w : World) (φ : Loc) (hmr : MRel w φ [rowB c shB m 46] w) : Calls Try.prog 4 #[(V1.one (.sl 0 0 len cap)).conc φ] w (Trues w) := by
  have h3 := law_runD (l4Xok c bx bz len cap hB hm ho) (l4run4 c bx bz len cap m) (l4obs c hB len cap m) hmr
  exact h3
set_option maxRecDepth 100000 in
theorem law4 {H : Type} {enc : TypeId × Value → H} {r : Reach} {W : World} {base : Nat} {v : Value} {d : DataW H} {ps : List MemPlace} (hval : Value.okWide Try.prog W r base 40 v) (h : DataW.Trod enc Try.prog W 0 (fun _ => true) true 40 v d ps) :
    Calls Try.prog 4 #[v] W (Trues W) := by
  refine rows_calls shB (K := 1) (Q := Trues) u40 k46 s46 l4nilc4 ?_ hval h
  intro c m len cap hm _ _ ho w φ hmr
  exact law4g (bx := wXN) (bz := wYN) ⟨rfl, rfl⟩ c m len cap hm ho w φ hmr
end Go.Ev

namespace Go.Proofs.Ytciiekkkldbgfaa.Laws
open Go Go.Ev Go.RowKit Go.ChangeShapes Go.WideShapes Go.ChangeAt

set_option maxRecDepth 100000 in
theorem lifted4 (os : Os) (started : os.Started) (H : Type) (enc : TypeId × Value → H) :
    ReturnsInHanded {} Try.checked os 4 .any (Rows.weiNumbersSpec.pre6 enc Try.prog Try.f4 Rows.weiNumbersRow.domain false) (Rows.weiNumbersSpec.post enc Try.prog Try.f4 false true false false) := by
  refine returnsInHanded_of_change (C := Try.checked) own started (by kernel_rfl) Try.func4
    (ChangeSpec.witness6 (enc := enc) (C := Try.checked) false ⟨#[], #[.slice none 0 0], []⟩ 8 (by kernel_rfl) (by kernel_rfl) (by kernel_rfl) (by kernel_rfl)) ?_
  intro W base args ds gs before hval0 hW _ _
  have hval : ∀ (j : Nat) t v, Try.f4.params[j]? = some t → args[j]? = some v → Value.okWide Try.prog W .any base t v := hval0
  have hW' := hW
  obtain ⟨p, q, hA0, hV, hbef, hfz, hnd⟩ := hW
  have hp : Try.f4.params = #[40] := by kernel_rfl
  have hA : DataW.TrodAll enc Try.prog W 0 (fun _ => true) true Try.f4.params.toList args.toList ds p := hA0
  rw [hp] at hA hval
  obtain ⟨v0, d0, rfl, rfl, h0⟩ := trodAll_one hA
  obtain ⟨rfl, rfl⟩ := trodVars_none hV
  refine (law4 (hval 0 40 v0 rfl rfl) h0).mono ?_
  rintro e W' ⟨rfl, hb⟩
  exact ⟨_, rfl, post_true (tb := 4) rfl hp (by kernel_rfl) u4 laid rd40 row40 rfl rfl hW' hb⟩

theorem holds4 : Rows.WeiNumbersSaid :=
  OpenClaim.holds_of_wide 4 Try.f4 rfl rfl rfl rfl rfl rfl rfl ⟨rfl, rfl, rfl, rfl, rfl⟩ rfl rfl rfl rfl rfl (by kernel_rfl) Try.func4 (by kernel_rfl)
    (of_decide_eq_true (by kernel_rfl)) (by unfold Func.isWrapper; first | (rw [if_pos (by decide +kernel)]; kernel_rfl) | (rw [if_neg (by decide +kernel)]; exact ⟨rfl, rfl⟩))
    (fun os started H enc _ => lifted4 os started H enc)

end Go.Proofs.Ytciiekkkldbgfaa.Laws

namespace Go.Proofs.Ytciiekkkldbgfaa
open Go
theorem weiNumbers_holds : Rows.WeiNumbersSaid := Laws.holds4
end Go.Proofs.Ytciiekkkldbgfaa

