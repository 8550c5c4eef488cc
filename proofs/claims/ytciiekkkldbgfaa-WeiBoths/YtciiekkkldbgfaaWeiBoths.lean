/- The law WeiBoths holds of every argument, without a condition -/
import Derived.Test.YtciiekkkldbgfaaWeiC
import Derived.JoinedOf
namespace Go.Ev
open Go Go.Proofs Go.RowKit

theorem neqS {s t : Sp} (h : s = t) : (!(decide (s.x % 4294967296 ^ 8 = t.x % 4294967296 ^ 8) && (decide (s.y % 4294967296 ^ 8 = t.y % 4294967296 ^ 8) && (s.i == t.i && true)))) = false := neq3_f (congrArg Sp.x h) (congrArg Sp.y h) (congrArg Sp.i h)
noncomputable def S6w : FuncId → Nat → Bool := fun f t => match f with | 6 => memN t [17, 26, 31, 45, 51, 61, 67, 77, 89, 35, 39, 111, 116] | _ => false
noncomputable def E6w : Env := mkE (LW true true) S6w
theorem envE6w : EnvOK E6w := envMk (LW_ok true true) S6w
def T6w (len cap : Nat) (i : Int) : List AV := slots 119 [(0, sV' len cap), (2, bV false), (3, iV i)]
theorem wfT6w (c : Cells) (m len cap : Nat) (i : Int) : wfS (T6w len cap i) (MW c m) = true := wfW c m (by kernel_rfl)
theorem a6n (c : Cells) (len : Nat) (cap : Nat) : runTo E6w 1000 (Env.S E6w 6) (bodyOf Try.prog 6 2) (T6w len cap ((0 : Nat) : Int)) (MW c 1) [true, false] (T6w len cap (↑(0 + 1) : Int)) 1 =
    some ([decide (((0 : Nat) : Int) < (↑len : Int)) = true, (0 : Int) ≤ ((0 : Nat) : Int) ∧ ((0 : Nat) : Int) < (↑len : Int), (0 : Int) ≤ ((0 : Nat) : Int) ∧ ((0 : Nat) : Int) < (↑len : Int), onS (nA c 0) (nA c 8) (bA c 16) = false, nA c 0 < 4294967296 ^ 8, nA c 8 < 4294967296 ^ 8], .normal, T6w len cap ((0 + 1 : Nat) : Int), MW c 1) := by kernel_rfl
theorem a6m (c : Cells) (len : Nat) (cap : Nat) : runTo E6w 1000 (Env.S E6w 6) (bodyOf Try.prog 6 2) (T6w len cap ((0 : Nat) : Int)) (MW c 1) [true, true, false] (T6w len cap (↑(0 + 1) : Int)) 1 =
    some ([decide (((0 : Nat) : Int) < (↑len : Int)) = true, (0 : Int) ≤ ((0 : Nat) : Int) ∧ ((0 : Nat) : Int) < (↑len : Int), (0 : Int) ≤ ((0 : Nat) : Int) ∧ ((0 : Nat) : Int) < (↑len : Int), onS (nA c 0) (nA c 8) (bA c 16) = true, nA c 0 < 4294967296 ^ 8, nA c 8 < 4294967296 ^ 8, onS (nA c 17) (nA c 25) (bA c 33) = false, nA c 17 < 4294967296 ^ 8, nA c 25 < 4294967296 ^ 8], .normal, T6w len cap ((0 + 1 : Nat) : Int), MW c 1) := by kernel_rfl
theorem a6y (c : Cells) (len : Nat) (cap : Nat) : runTo E6w 1000 (Env.S E6w 6) (bodyOf Try.prog 6 2) (T6w len cap ((0 : Nat) : Int)) (MW c 1) [true, true, true, false, false] (T6w len cap (↑(0 + 1) : Int)) 1 =
    some ([decide (((0 : Nat) : Int) < (↑len : Int)) = true, (0 : Int) ≤ ((0 : Nat) : Int) ∧ ((0 : Nat) : Int) < (↑len : Int), (0 : Int) ≤ ((0 : Nat) : Int) ∧ ((0 : Nat) : Int) < (↑len : Int), onS (nA c 0) (nA c 8) (bA c 16) = true, nA c 0 < 4294967296 ^ 8, nA c 8 < 4294967296 ^ 8, onS (nA c 17) (nA c 25) (bA c 33) = true, nA c 17 < 4294967296 ^ 8, nA c 25 < 4294967296 ^ 8, (0 : Int) ≤ ((0 : Nat) : Int) ∧ ((0 : Nat) : Int) < (↑len : Int), (0 : Int) ≤ ((0 : Nat) : Int) ∧ ((0 : Nat) : Int) < (↑len : Int), nA c 34 < 4294967296 ^ 8, nA c 0 < 4294967296 ^ 8, nA c 8 < 4294967296 ^ 8, nA c 42 < 4294967296 ^ 8, nA c 17 < 4294967296 ^ 8, nA c 25 < 4294967296 ^ 8, onS (nA c 0) (nA c 8) (bA c 16) = true, onS (nA c 17) (nA c 25) (bA c 33) = true, (0 : Int) ≤ ((0 : Nat) : Int) ∧ ((0 : Nat) : Int) < (↑len : Int), (0 : Int) ≤ ((0 : Nat) : Int) ∧ ((0 : Nat) : Int) < (↑len : Int), nA c 42 < 4294967296 ^ 8, nA c 17 < 4294967296 ^ 8, nA c 25 < 4294967296 ^ 8, nA c 34 < 4294967296 ^ 8, nA c 0 < 4294967296 ^ 8, nA c 8 < 4294967296 ^ 8, onS (nA c 17) (nA c 25) (bA c 33) = true, onS (nA c 0) (nA c 8) (bA c 16) = true, (0 : Int) ≤ ((0 : Nat) : Int) ∧ ((0 : Nat) : Int) < (↑len : Int), nA c 34 < 4294967296 ^ 8, nA c 0 < 4294967296 ^ 8, nA c 8 < 4294967296 ^ 8, 0 < 4294967296, 0 < 4294967296, 0 < 4294967296, 0 < 4294967296, 0 < 4294967296, 0 < 4294967296, 0 < 4294967296, 0 < 4294967296, nA c 17 < 4294967296 ^ 8, nA c 25 < 4294967296 ^ 8, onS (nA c 0) (nA c 8) (bA c 16) = true, onS (nA c 17) (nA c 25) (bA c 33) = true, (0 : Int) ≤ ((0 : Nat) : Int) ∧ ((0 : Nat) : Int) < (↑len : Int), nA c 34 < 4294967296 ^ 8, nA c 0 < 4294967296 ^ 8, nA c 8 < 4294967296 ^ 8, onS (nA c 0) (nA c 8) (bA c 16) = true, (!(decide ((gsum (gmul (Sp.mk (nA c 0) (nA c 8) (bA c 16)) (nA c 34)) (gmul (Sp.mk (nA c 17) (nA c 25) (bA c 33)) (nA c 42))).1 % 4294967296 ^ 8 = (gsum (gmul (Sp.mk (nA c 17) (nA c 25) (bA c 33)) (nA c 42)) (gmul (Sp.mk (nA c 0) (nA c 8) (bA c 16)) (nA c 34))).1 % 4294967296 ^ 8) && (decide ((gsum (gmul (Sp.mk (nA c 0) (nA c 8) (bA c 16)) (nA c 34)) (gmul (Sp.mk (nA c 17) (nA c 25) (bA c 33)) (nA c 42))).2 % 4294967296 ^ 8 = (gsum (gmul (Sp.mk (nA c 17) (nA c 25) (bA c 33)) (nA c 42)) (gmul (Sp.mk (nA c 0) (nA c 8) (bA c 16)) (nA c 34))).2 % 4294967296 ^ 8) && ((gsum (gmul (Sp.mk (nA c 0) (nA c 8) (bA c 16)) (nA c 34)) (gmul (Sp.mk (nA c 17) (nA c 25) (bA c 33)) (nA c 42))).3 == (gsum (gmul (Sp.mk (nA c 17) (nA c 25) (bA c 33)) (nA c 42)) (gmul (Sp.mk (nA c 0) (nA c 8) (bA c 16)) (nA c 34))).3 && true)))) = false, (!(decide ((gsum (gmul (Sp.mk (nA c 0) (nA c 8) (bA c 16)) (nA c 34)) (gmul (Sp.mk (nA c 17) (nA c 25) (bA c 33)) 0)).1 % 4294967296 ^ 8 = (gmul (Sp.mk (nA c 0) (nA c 8) (bA c 16)) (nA c 34)).1 % 4294967296 ^ 8) && (decide ((gsum (gmul (Sp.mk (nA c 0) (nA c 8) (bA c 16)) (nA c 34)) (gmul (Sp.mk (nA c 17) (nA c 25) (bA c 33)) 0)).2 % 4294967296 ^ 8 = (gmul (Sp.mk (nA c 0) (nA c 8) (bA c 16)) (nA c 34)).2 % 4294967296 ^ 8) && ((gsum (gmul (Sp.mk (nA c 0) (nA c 8) (bA c 16)) (nA c 34)) (gmul (Sp.mk (nA c 17) (nA c 25) (bA c 33)) 0)).3 == (gmul (Sp.mk (nA c 0) (nA c 8) (bA c 16)) (nA c 34)).3 && true)))) = false], .normal, T6w len cap ((0 + 1 : Nat) : Int), MW c 1) := by kernel_rfl
theorem l6s_1_0 (c : Cells) {len cap : Nat} (hl : 0 < len) (ho : All (rowOb c shW 1 0)) : Goes Try.prog (bodyOf Try.prog 6 2) .normal (T6w len cap ((0 : Nat) : Int)) (MW c 1) (T6w len cap ((0 + 1 : Nat) : Int)) (MW c 1) := by
  obtain ⟨g00, g01, _, g03, g04, _, g06, g07, _⟩ := ho
  have w0 : nA c 0 < 4294967296 ^ 8 := g00
  have w1 : nA c 8 < 4294967296 ^ 8 := g01
  have w3 : nA c 17 < 4294967296 ^ 8 := g03
  have w4 : nA c 25 < 4294967296 ^ 8 := g04
  have w6 : nA c 34 < 4294967296 ^ 8 := g06
  have w7 : nA c 42 < 4294967296 ^ 8 := g07
  have hll : decide (((0 : Nat) : Int) < (len : Int)) = true := decide_eq_true (by omega)
  have hii : 0 ≤ ((0 : Nat) : Int) ∧ ((0 : Nat) : Int) < (len : Int) := by omega
  cases hu : onS (nA c 0) (nA c 8) (bA c 16) with
  | false => exact Runs.goes envE6w ⟨_, _, a6n c len cap, ⟨(by first | with_reducible assumption | with_reducible exact L8 (by with_reducible assumption) | exact decide_eq_true (by omega) | exact decide_eq_false (by omega) | omega), (by first | with_reducible assumption | with_reducible exact L8 (by with_reducible assumption) | exact decide_eq_true (by omega) | exact decide_eq_false (by omega) | omega), (by first | with_reducible assumption | with_reducible exact L8 (by with_reducible assumption) | exact decide_eq_true (by omega) | exact decide_eq_false (by omega) | omega), (by first | with_reducible assumption | with_reducible exact L8 (by with_reducible assumption) | exact decide_eq_true (by omega) | exact decide_eq_false (by omega) | omega), (by first | with_reducible assumption | with_reducible exact L8 (by with_reducible assumption) | exact decide_eq_true (by omega) | exact decide_eq_false (by omega) | omega), (by first | with_reducible assumption | with_reducible exact L8 (by with_reducible assumption) | exact decide_eq_true (by omega) | exact decide_eq_false (by omega) | omega), trivial⟩, wfT6w _ _ _ _ _⟩
  | true =>
    cases hv : onS (nA c 17) (nA c 25) (bA c 33) with
    | false => 
      have hu' : (!onS (nA c 0) (nA c 8) (bA c 16)) = false := by rw [hu]; rfl
      exact Runs.goes envE6w ⟨_, _, a6m c len cap, ⟨(by first | with_reducible assumption | with_reducible exact L8 (by with_reducible assumption) | exact decide_eq_true (by omega) | exact decide_eq_false (by omega) | omega), (by first | with_reducible assumption | with_reducible exact L8 (by with_reducible assumption) | exact decide_eq_true (by omega) | exact decide_eq_false (by omega) | omega), (by first | with_reducible assumption | with_reducible exact L8 (by with_reducible assumption) | exact decide_eq_true (by omega) | exact decide_eq_false (by omega) | omega), (by first | with_reducible assumption | with_reducible exact L8 (by with_reducible assumption) | exact decide_eq_true (by omega) | exact decide_eq_false (by omega) | omega), (by first | with_reducible assumption | with_reducible exact L8 (by with_reducible assumption) | exact decide_eq_true (by omega) | exact decide_eq_false (by omega) | omega), (by first | with_reducible assumption | with_reducible exact L8 (by with_reducible assumption) | exact decide_eq_true (by omega) | exact decide_eq_false (by omega) | omega), (by first | with_reducible assumption | with_reducible exact L8 (by with_reducible assumption) | exact decide_eq_true (by omega) | exact decide_eq_false (by omega) | omega), (by first | with_reducible assumption | with_reducible exact L8 (by with_reducible assumption) | exact decide_eq_true (by omega) | exact decide_eq_false (by omega) | omega), (by first | with_reducible assumption | with_reducible exact L8 (by with_reducible assumption) | exact decide_eq_true (by omega) | exact decide_eq_false (by omega) | omega), trivial⟩, wfT6w _ _ _ _ _⟩
    | true =>
      have hp : Sp.on ⟨(nA c 0), (nA c 8), (bA c 16)⟩ := hu
      have hq : Sp.on ⟨(nA c 17), (nA c 25), (bA c 33)⟩ := hv
      have hk := gmul_on hp (nA c 34)
      have hl2 := gmul_on hq (nA c 42)
      have h0 := gmul_on hq 0
      obtain ⟨b1, b2⟩ := spB (gsum_on hk hl2)
      obtain ⟨b3, b4⟩ := spB (gsum_on hl2 hk)
      obtain ⟨b5, b6⟩ := spB (gsum_on hk h0)
      obtain ⟨b7, b8⟩ := spB hk
      have z1 := neqS (gsum_comm hk hl2)
      have z2 := neqS (show gsum (gmul ⟨(nA c 0), (nA c 8), (bA c 16)⟩ (nA c 34)) (gmul ⟨(nA c 17), (nA c 25), (bA c 33)⟩ 0) = gmul ⟨(nA c 0), (nA c 8), (bA c 16)⟩ (nA c 34) from gsum_no hk)
      exact Runs.goes envE6w ⟨_, _, a6y c len cap, ⟨(by first | with_reducible assumption | with_reducible exact L8 (by with_reducible assumption) | exact decide_eq_true (by omega) | exact decide_eq_false (by omega) | omega), (by first | with_reducible assumption | with_reducible exact L8 (by with_reducible assumption) | exact decide_eq_true (by omega) | exact decide_eq_false (by omega) | omega), (by first | with_reducible assumption | with_reducible exact L8 (by with_reducible assumption) | exact decide_eq_true (by omega) | exact decide_eq_false (by omega) | omega), (by first | with_reducible assumption | with_reducible exact L8 (by with_reducible assumption) | exact decide_eq_true (by omega) | exact decide_eq_false (by omega) | omega), (by first | with_reducible assumption | with_reducible exact L8 (by with_reducible assumption) | exact decide_eq_true (by omega) | exact decide_eq_false (by omega) | omega), (by first | with_reducible assumption | with_reducible exact L8 (by with_reducible assumption) | exact decide_eq_true (by omega) | exact decide_eq_false (by omega) | omega), (by first | with_reducible assumption | with_reducible exact L8 (by with_reducible assumption) | exact decide_eq_true (by omega) | exact decide_eq_false (by omega) | omega), (by first | with_reducible assumption | with_reducible exact L8 (by with_reducible assumption) | exact decide_eq_true (by omega) | exact decide_eq_false (by omega) | omega), (by first | with_reducible assumption | with_reducible exact L8 (by with_reducible assumption) | exact decide_eq_true (by omega) | exact decide_eq_false (by omega) | omega), (by first | with_reducible assumption | with_reducible exact L8 (by with_reducible assumption) | exact decide_eq_true (by omega) | exact decide_eq_false (by omega) | omega), (by first | with_reducible assumption | with_reducible exact L8 (by with_reducible assumption) | exact decide_eq_true (by omega) | exact decide_eq_false (by omega) | omega), (by first | with_reducible assumption | with_reducible exact L8 (by with_reducible assumption) | exact decide_eq_true (by omega) | exact decide_eq_false (by omega) | omega), (by first | with_reducible assumption | with_reducible exact L8 (by with_reducible assumption) | exact decide_eq_true (by omega) | exact decide_eq_false (by omega) | omega), (by first | with_reducible assumption | with_reducible exact L8 (by with_reducible assumption) | exact decide_eq_true (by omega) | exact decide_eq_false (by omega) | omega), (by first | with_reducible assumption | with_reducible exact L8 (by with_reducible assumption) | exact decide_eq_true (by omega) | exact decide_eq_false (by omega) | omega), (by first | with_reducible assumption | with_reducible exact L8 (by with_reducible assumption) | exact decide_eq_true (by omega) | exact decide_eq_false (by omega) | omega), (by first | with_reducible assumption | with_reducible exact L8 (by with_reducible assumption) | exact decide_eq_true (by omega) | exact decide_eq_false (by omega) | omega), (by first | with_reducible assumption | with_reducible exact L8 (by with_reducible assumption) | exact decide_eq_true (by omega) | exact decide_eq_false (by omega) | omega), (by first | with_reducible assumption | with_reducible exact L8 (by with_reducible assumption) | exact decide_eq_true (by omega) | exact decide_eq_false (by omega) | omega), (by first | with_reducible assumption | with_reducible exact L8 (by with_reducible assumption) | exact decide_eq_true (by omega) | exact decide_eq_false (by omega) | omega), (by first | with_reducible assumption | with_reducible exact L8 (by with_reducible assumption) | exact decide_eq_true (by omega) | exact decide_eq_false (by omega) | omega), (by first | with_reducible assumption | with_reducible exact L8 (by with_reducible assumption) | exact decide_eq_true (by omega) | exact decide_eq_false (by omega) | omega), (by first | with_reducible assumption | with_reducible exact L8 (by with_reducible assumption) | exact decide_eq_true (by omega) | exact decide_eq_false (by omega) | omega), (by first | with_reducible assumption | with_reducible exact L8 (by with_reducible assumption) | exact decide_eq_true (by omega) | exact decide_eq_false (by omega) | omega), (by first | with_reducible assumption | with_reducible exact L8 (by with_reducible assumption) | exact decide_eq_true (by omega) | exact decide_eq_false (by omega) | omega), (by first | with_reducible assumption | with_reducible exact L8 (by with_reducible assumption) | exact decide_eq_true (by omega) | exact decide_eq_false (by omega) | omega), (by first | with_reducible assumption | with_reducible exact L8 (by with_reducible assumption) | exact decide_eq_true (by omega) | exact decide_eq_false (by omega) | omega), (by first | with_reducible assumption | with_reducible exact L8 (by with_reducible assumption) | exact decide_eq_true (by omega) | exact decide_eq_false (by omega) | omega), (by first | with_reducible assumption | with_reducible exact L8 (by with_reducible assumption) | exact decide_eq_true (by omega) | exact decide_eq_false (by omega) | omega), (by first | with_reducible assumption | with_reducible exact L8 (by with_reducible assumption) | exact decide_eq_true (by omega) | exact decide_eq_false (by omega) | omega), (by first | with_reducible assumption | with_reducible exact L8 (by with_reducible assumption) | exact decide_eq_true (by omega) | exact decide_eq_false (by omega) | omega), (by first | with_reducible assumption | with_reducible exact L8 (by with_reducible assumption) | exact decide_eq_true (by omega) | exact decide_eq_false (by omega) | omega), (by first | with_reducible assumption | with_reducible exact L8 (by with_reducible assumption) | exact decide_eq_true (by omega) | exact decide_eq_false (by omega) | omega), lit0, lit0, lit0, lit0, lit0, lit0, lit0, lit0, (by first | with_reducible assumption | with_reducible exact L8 (by with_reducible assumption) | exact decide_eq_true (by omega) | exact decide_eq_false (by omega) | omega), (by first | with_reducible assumption | with_reducible exact L8 (by with_reducible assumption) | exact decide_eq_true (by omega) | exact decide_eq_false (by omega) | omega), (by first | with_reducible assumption | with_reducible exact L8 (by with_reducible assumption) | exact decide_eq_true (by omega) | exact decide_eq_false (by omega) | omega), (by first | with_reducible assumption | with_reducible exact L8 (by with_reducible assumption) | exact decide_eq_true (by omega) | exact decide_eq_false (by omega) | omega), (by first | with_reducible assumption | with_reducible exact L8 (by with_reducible assumption) | exact decide_eq_true (by omega) | exact decide_eq_false (by omega) | omega), (by first | with_reducible assumption | with_reducible exact L8 (by with_reducible assumption) | exact decide_eq_true (by omega) | exact decide_eq_false (by omega) | omega), (by first | with_reducible assumption | with_reducible exact L8 (by with_reducible assumption) | exact decide_eq_true (by omega) | exact decide_eq_false (by omega) | omega), (by first | with_reducible assumption | with_reducible exact L8 (by with_reducible assumption) | exact decide_eq_true (by omega) | exact decide_eq_false (by omega) | omega), (by first | with_reducible assumption | with_reducible exact L8 (by with_reducible assumption) | exact decide_eq_true (by omega) | exact decide_eq_false (by omega) | omega), (by first | with_reducible assumption | with_reducible exact L8 (by with_reducible assumption) | exact decide_eq_true (by omega) | exact decide_eq_false (by omega) | omega), (by first | with_reducible assumption | with_reducible exact L8 (by with_reducible assumption) | exact decide_eq_true (by omega) | exact decide_eq_false (by omega) | omega), trivial⟩, wfT6w _ _ _ _ _⟩
end Go.Ev

namespace Go.Ev
open Go Go.Proofs Go.RowKit
theorem l6p (c : Cells)  (len cap : Nat) (m : Nat) : runTo E6w 1000 (E6w.S 6) (bodyOf Try.prog 6 2) (T6w len cap (m : Int)) (MW c m) [false] (T6w len cap (m : Int)) 1 =
    some ([decide ((m : Int) < (len : Int)) = false], .exit 0, T6w len cap (m : Int), MW c m) := by kernel_rfl
theorem l6q (c : Cells)  (len cap : Nat) : runTo E6w 1000 (E6w.S 6) (bodyOf Try.prog 6 2) (T6w len cap ((1 : Nat) : Int)) (MW c 1) [true] (T6w len cap ((1 : Nat) : Int)) 1 =
    some ([decide (((1 : Nat) : Int) < (len : Int)) = true], .exit 0, T6w len cap ((1 : Nat) : Int), MW c 1) := by kernel_rfl
theorem l6loop (c : Cells)  (len cap : Nat) {m : Nat}  (hm : m = min len 1) (ho : All (rowOb c shW m 0)) : Goes Try.prog (.loop (bodyOf Try.prog 6 2)) (.exit 0) (T6w len cap ((0 : Nat) : Int)) (MW c m) (T6w len cap (m : Int)) (MW c m) := by
  refine loop_goes (N := m) (k := 1) (T := fun i => T6w len cap (i : Int)) (M := fun _ => MW c m) (by simp) (fun _ _ => rfl) (fun i hi => ?_) ?_
  · have h3 : (m = 1 ∧ i = 0) := by omega
    have hl : i < len := by omega
    clear hm
    rcases h3 with ⟨rfl, rfl⟩
    · exact l6s_1_0 c hl ho
  · by_cases h : m < len
    · obtain rfl : m = 1 := by omega
      exact Runs.goes envE6w ⟨[true], _, l6q c len cap, ⟨decide_eq_true (by omega), trivial⟩, wfT6w _ _ _ _ _⟩
    · exact Runs.goes envE6w ⟨[false], _, l6p c len cap m, ⟨decide_eq_false (by omega), trivial⟩, wfT6w _ _ _ _ _⟩
noncomputable def l6X (c : Cells)  (len cap : Nat) (m : Nat) : Env := withL E6w 2 (bodyOf Try.prog 6 2) (sumC (T6w len cap ((0 : Nat) : Int)) (MW c m) (T6w len cap (m : Int)) (MW c m) (.exit 0))
theorem l6Xok (c : Cells)  (len cap : Nat) {m : Nat}  (hm : m = min len 1) (ho : All (rowOb c shW m 0)) : EnvOK (l6X c len cap m) := envWithL envE6w (sumC_ok rfl (l6loop c len cap  hm ho))
theorem l6run6 (c : Cells) (len cap m : Nat) : dropM (callBy (l6X c len cap m) (evalC (l6X c len cap m) 1000) 6 [.one (.sl 0 0 len cap)] [rowB c shW m 29] []) =
    some ([(bodyOf Try.prog 6 2) = (bodyOf Try.prog 6 2), (T6w len cap ((0 : Nat) : Int), MW c m) = (T6w len cap ((0 : Nat) : Int), MW c m), wfS (T6w len cap ((0 : Nat) : Int)) (MW c m) = true], bV true) := by kernel_rfl
theorem l6nil6 : dropM (callBy E6w (evalC E6w 1000) 6 [.one (.v (.slice none 0 0))] [] [false]) = some ([decide (((0 : Nat) : Int) < ((0 : Nat) : Int)) = false], bV true) := by kernel_rfl
theorem l6nilo6 : All [decide (((0 : Nat) : Int) < ((0 : Nat) : Int)) = false] := ⟨by decide, trivial⟩
theorem l6nila6 (w : World) : Calls E6w.P 6 #[.slice none 0 0] w (Trues w) := law_nilD envE6w l6nil6 l6nilo6 w
theorem l6nilc6 (w : World) : Calls Try.prog 6 #[.slice none 0 0] w (Trues w) := l6nila6 w
set_option maxRecDepth 100000 in
theorem law6 {H : Type} {enc : TypeId × Value → H} {r : Reach} {W : World} {base : Nat} {v : Value} {d : DataW H} {ps : List MemPlace} (hval : Value.okWide Try.prog W r base 22 v) (h : DataW.Trod enc Try.prog W 0 (fun _ => true) true 22 v d ps) :
    Calls Try.prog 6 #[v] W (Trues W) := by
  refine rows_calls shW (K := 1) (Q := Trues) u22w k29w s29w l6nilc6 ?_ hval h
  intro c m len cap hm _ _ ho w φ hmr
  have h2 : All [(bodyOf Try.prog 6 2) = (bodyOf Try.prog 6 2), (T6w len cap ((0 : Nat) : Int), MW c m) = (T6w len cap ((0 : Nat) : Int), MW c m), wfS (T6w len cap ((0 : Nat) : Int)) (MW c m) = true] := ⟨rfl, rfl, wfT6w _ _ _ _ _, trivial⟩
  have h3 := law_runD (l6Xok c len cap  hm ho) (l6run6 c len cap m) h2 hmr
  exact h3
end Go.Ev

namespace Go.Proofs.Ytciiekkkldbgfaa.Laws
open Go Go.Ev Go.RowKit Go.ChangeShapes Go.WideShapes Go.ChangeAt

set_option maxRecDepth 100000 in
theorem lifted6 (os : Os) (started : os.Started) (H : Type) (enc : TypeId × Value → H) :
    ReturnsInHanded {} Try.checked os 6 .any (Rows.weiBothsSpec.pre6 enc Try.prog Try.f6 Rows.weiBothsRow.domain false) (Rows.weiBothsSpec.post enc Try.prog Try.f6 false true false false) := by
  refine returnsInHanded_of_change (C := Try.checked) own started (by kernel_rfl) Try.func6
    (ChangeSpec.witness6 (enc := enc) (C := Try.checked) false ⟨#[], #[.slice none 0 0], []⟩ 8 (by kernel_rfl) (by kernel_rfl) (by kernel_rfl) (by kernel_rfl)) ?_
  intro W base args ds gs before hval0 hW _ _
  have hval : ∀ (j : Nat) t v, Try.f6.params[j]? = some t → args[j]? = some v → Value.okWide Try.prog W .any base t v := hval0
  have hW' := hW
  obtain ⟨p, q, hA0, hV, hbef, hfz, hnd⟩ := hW
  have hp : Try.f6.params = #[22] := by kernel_rfl
  have hA : DataW.TrodAll enc Try.prog W 0 (fun _ => true) true Try.f6.params.toList args.toList ds p := hA0
  rw [hp] at hA hval
  obtain ⟨v0, d0, rfl, rfl, h0⟩ := trodAll_one hA
  obtain ⟨rfl, rfl⟩ := trodVars_none hV
  refine (law6 (hval 0 22 v0 rfl rfl) h0).mono ?_
  rintro e W' ⟨rfl, hb⟩
  exact ⟨_, rfl, post_true (tb := 4) rfl hp (by kernel_rfl) u4 laid rd22w row22w rfl rfl hW' hb⟩

theorem holds6 : Rows.WeiBothsSaid :=
  OpenClaim.holds_of_wide 6 Try.f6 rfl rfl rfl rfl rfl rfl rfl ⟨rfl, rfl, rfl, rfl, rfl⟩ rfl rfl rfl rfl rfl (by kernel_rfl) Try.func6 (by kernel_rfl)
    (of_decide_eq_true (by kernel_rfl)) (by unfold Func.isWrapper; first | (rw [if_pos (by decide +kernel)]; kernel_rfl) | (rw [if_neg (by decide +kernel)]; exact ⟨rfl, rfl⟩))
    (fun os started H enc _ => lifted6 os started H enc)

end Go.Proofs.Ytciiekkkldbgfaa.Laws

namespace Go.Proofs.Ytciiekkkldbgfaa
open Go
theorem weiBoths_holds : Rows.WeiBothsSaid := Laws.holds6
end Go.Proofs.Ytciiekkkldbgfaa

