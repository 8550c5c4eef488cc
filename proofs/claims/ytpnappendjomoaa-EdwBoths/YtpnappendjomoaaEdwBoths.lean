/- The law EdwBoths holds of every argument, without a condition -/
import Derived.Test.YtpnappendjomoaaCurve
import Derived.JoinedOf
namespace Go.Ev
open Go Go.Proofs Go.RowKit

noncomputable def S9 (u v : Bool) : FuncId → Nat → Bool := fun f t => match f with | 9 => memN t [17, 26, 31, 45, 51, 61, 67, 77, 89, 35, 39, 111, 116] | _ => false
noncomputable def E9 : Env := mkE L15 (S9 true true)
theorem envE9 : EnvOK E9 := envMk L15_ok (S9 true true)
def T9 (len cap : Nat) (i : Int) : List AV := slots 119 [(0, sV' len cap), (2, bV false), (3, iV i)]
theorem wfT9 (c : Cells) (m len cap : Nat) (i : Int) : wfS (T9 len cap i) (ME c m) = true := wfE c m (by kernel_rfl)
theorem a9n (c : Cells) (len : Nat) (cap : Nat) : runTo E9 1000 (Env.S E9 9) (bodyOf Try.prog 9 2) (T9 len cap ((0 : Nat) : Int)) (ME c 1) [true, false] (T9 len cap (↑(0 + 1) : Int)) 1 =
    some ([decide (((0 : Nat) : Int) < (↑len : Int)) = true, (0 : Int) ≤ ((0 : Nat) : Int) ∧ ((0 : Nat) : Int) < (↑len : Int), (0 : Int) ≤ ((0 : Nat) : Int) ∧ ((0 : Nat) : Int) < (↑len : Int), onE (nA c 0) (nA c 8) = false, nA c 0 < 4294967296 ^ 8, nA c 8 < 4294967296 ^ 8], .normal, T9 len cap ((0 + 1 : Nat) : Int), ME c 1) := by kernel_rfl
theorem a9m (c : Cells) (len : Nat) (cap : Nat) : runTo E9 1000 (Env.S E9 9) (bodyOf Try.prog 9 2) (T9 len cap ((0 : Nat) : Int)) (ME c 1) [true, true, false] (T9 len cap (↑(0 + 1) : Int)) 1 =
    some ([decide (((0 : Nat) : Int) < (↑len : Int)) = true, (0 : Int) ≤ ((0 : Nat) : Int) ∧ ((0 : Nat) : Int) < (↑len : Int), (0 : Int) ≤ ((0 : Nat) : Int) ∧ ((0 : Nat) : Int) < (↑len : Int), onE (nA c 0) (nA c 8) = true, nA c 0 < 4294967296 ^ 8, nA c 8 < 4294967296 ^ 8, onE (nA c 16) (nA c 24) = false, nA c 16 < 4294967296 ^ 8, nA c 24 < 4294967296 ^ 8], .normal, T9 len cap ((0 + 1 : Nat) : Int), ME c 1) := by kernel_rfl
theorem a9y (c : Cells) (len : Nat) (cap : Nat) : runTo E9 1000 (Env.S E9 9) (bodyOf Try.prog 9 2) (T9 len cap ((0 : Nat) : Int)) (ME c 1) [true, true, true, false, false] (T9 len cap (↑(0 + 1) : Int)) 1 =
    some ([decide (((0 : Nat) : Int) < (↑len : Int)) = true, (0 : Int) ≤ ((0 : Nat) : Int) ∧ ((0 : Nat) : Int) < (↑len : Int), (0 : Int) ≤ ((0 : Nat) : Int) ∧ ((0 : Nat) : Int) < (↑len : Int), onE (nA c 0) (nA c 8) = true, nA c 0 < 4294967296 ^ 8, nA c 8 < 4294967296 ^ 8, onE (nA c 16) (nA c 24) = true, nA c 16 < 4294967296 ^ 8, nA c 24 < 4294967296 ^ 8, (0 : Int) ≤ ((0 : Nat) : Int) ∧ ((0 : Nat) : Int) < (↑len : Int), (0 : Int) ≤ ((0 : Nat) : Int) ∧ ((0 : Nat) : Int) < (↑len : Int), nA c 32 < 4294967296 ^ 8, nA c 0 < 4294967296 ^ 8, nA c 8 < 4294967296 ^ 8, nA c 40 < 4294967296 ^ 8, nA c 16 < 4294967296 ^ 8, nA c 24 < 4294967296 ^ 8, onE (nA c 0) (nA c 8) = true, onE (nA c 16) (nA c 24) = true, (0 : Int) ≤ ((0 : Nat) : Int) ∧ ((0 : Nat) : Int) < (↑len : Int), (0 : Int) ≤ ((0 : Nat) : Int) ∧ ((0 : Nat) : Int) < (↑len : Int), nA c 40 < 4294967296 ^ 8, nA c 16 < 4294967296 ^ 8, nA c 24 < 4294967296 ^ 8, nA c 32 < 4294967296 ^ 8, nA c 0 < 4294967296 ^ 8, nA c 8 < 4294967296 ^ 8, onE (nA c 16) (nA c 24) = true, onE (nA c 0) (nA c 8) = true, (0 : Int) ≤ ((0 : Nat) : Int) ∧ ((0 : Nat) : Int) < (↑len : Int), nA c 32 < 4294967296 ^ 8, nA c 0 < 4294967296 ^ 8, nA c 8 < 4294967296 ^ 8, 0 < 4294967296, 0 < 4294967296, 0 < 4294967296, 0 < 4294967296, 0 < 4294967296, 0 < 4294967296, 0 < 4294967296, 0 < 4294967296, nA c 16 < 4294967296 ^ 8, nA c 24 < 4294967296 ^ 8, onE (nA c 0) (nA c 8) = true, onE (nA c 16) (nA c 24) = true, (0 : Int) ≤ ((0 : Nat) : Int) ∧ ((0 : Nat) : Int) < (↑len : Int), nA c 32 < 4294967296 ^ 8, nA c 0 < 4294967296 ^ 8, nA c 8 < 4294967296 ^ 8, onE (nA c 0) (nA c 8) = true, (!(decide (boX (nA c 32) (nA c 0) (nA c 8) (nA c 40) (nA c 16) (nA c 24) % 4294967296 ^ 8 = boX (nA c 40) (nA c 16) (nA c 24) (nA c 32) (nA c 0) (nA c 8) % 4294967296 ^ 8) && (decide (boY (nA c 32) (nA c 0) (nA c 8) (nA c 40) (nA c 16) (nA c 24) % 4294967296 ^ 8 = boY (nA c 40) (nA c 16) (nA c 24) (nA c 32) (nA c 0) (nA c 8) % 4294967296 ^ 8) && true))) = false, (!(decide (boX (nA c 32) (nA c 0) (nA c 8) 0 (nA c 16) (nA c 24) % 4294967296 ^ 8 = nmX (nA c 32) (nA c 0) (nA c 8) % 4294967296 ^ 8) && (decide (boY (nA c 32) (nA c 0) (nA c 8) 0 (nA c 16) (nA c 24) % 4294967296 ^ 8 = nmY (nA c 32) (nA c 0) (nA c 8) % 4294967296 ^ 8) && true))) = false], .normal, T9 len cap ((0 + 1 : Nat) : Int), ME c 1) := by kernel_rfl
theorem l9s_1_0 (c : Cells) {len cap : Nat} (hl : 0 < len) (ho : All (rowOb c shE 1 0)) : Goes Try.prog (bodyOf Try.prog 9 2) .normal (T9 len cap ((0 : Nat) : Int)) (ME c 1) (T9 len cap ((0 + 1 : Nat) : Int)) (ME c 1) := by
  obtain ⟨g00, g01, g02, g03, g04, g05, _⟩ := ho
  have w0 : nA c 0 < 4294967296 ^ 8 := g00
  have w1 : nA c 8 < 4294967296 ^ 8 := g01
  have w2 : nA c 16 < 4294967296 ^ 8 := g02
  have w3 : nA c 24 < 4294967296 ^ 8 := g03
  have w4 : nA c 32 < 4294967296 ^ 8 := g04
  have w5 : nA c 40 < 4294967296 ^ 8 := g05
  have hll : decide (((0 : Nat) : Int) < (len : Int)) = true := decide_eq_true (by omega)
  have hii : 0 ≤ ((0 : Nat) : Int) ∧ ((0 : Nat) : Int) < (len : Int) := by omega
  cases hu : onE (nA c 0) (nA c 8) with
  | false => exact Runs.goes envE9 ⟨_, _, a9n c len cap, ⟨(by first | with_reducible assumption | with_reducible exact L8 (by with_reducible assumption) | exact decide_eq_true (by omega) | exact decide_eq_false (by omega) | omega), (by first | with_reducible assumption | with_reducible exact L8 (by with_reducible assumption) | exact decide_eq_true (by omega) | exact decide_eq_false (by omega) | omega), (by first | with_reducible assumption | with_reducible exact L8 (by with_reducible assumption) | exact decide_eq_true (by omega) | exact decide_eq_false (by omega) | omega), (by first | with_reducible assumption | with_reducible exact L8 (by with_reducible assumption) | exact decide_eq_true (by omega) | exact decide_eq_false (by omega) | omega), (by first | with_reducible assumption | with_reducible exact L8 (by with_reducible assumption) | exact decide_eq_true (by omega) | exact decide_eq_false (by omega) | omega), (by first | with_reducible assumption | with_reducible exact L8 (by with_reducible assumption) | exact decide_eq_true (by omega) | exact decide_eq_false (by omega) | omega), trivial⟩, wfT9 _ _ _ _ _⟩
  | true =>
    cases hv : onE (nA c 16) (nA c 24) with
    | false => 
      have hu' : (!onE (nA c 0) (nA c 8)) = false := by rw [hu]; rfl
      exact Runs.goes envE9 ⟨_, _, a9m c len cap, ⟨(by first | with_reducible assumption | with_reducible exact L8 (by with_reducible assumption) | exact decide_eq_true (by omega) | exact decide_eq_false (by omega) | omega), (by first | with_reducible assumption | with_reducible exact L8 (by with_reducible assumption) | exact decide_eq_true (by omega) | exact decide_eq_false (by omega) | omega), (by first | with_reducible assumption | with_reducible exact L8 (by with_reducible assumption) | exact decide_eq_true (by omega) | exact decide_eq_false (by omega) | omega), (by first | with_reducible assumption | with_reducible exact L8 (by with_reducible assumption) | exact decide_eq_true (by omega) | exact decide_eq_false (by omega) | omega), (by first | with_reducible assumption | with_reducible exact L8 (by with_reducible assumption) | exact decide_eq_true (by omega) | exact decide_eq_false (by omega) | omega), (by first | with_reducible assumption | with_reducible exact L8 (by with_reducible assumption) | exact decide_eq_true (by omega) | exact decide_eq_false (by omega) | omega), (by first | with_reducible assumption | with_reducible exact L8 (by with_reducible assumption) | exact decide_eq_true (by omega) | exact decide_eq_false (by omega) | omega), (by first | with_reducible assumption | with_reducible exact L8 (by with_reducible assumption) | exact decide_eq_true (by omega) | exact decide_eq_false (by omega) | omega), (by first | with_reducible assumption | with_reducible exact L8 (by with_reducible assumption) | exact decide_eq_true (by omega) | exact decide_eq_false (by omega) | omega), trivial⟩, wfT9 _ _ _ _ _⟩
    | true =>
      have z1 := neq2_f (bo_comm (k := (nA c 32)) (m := (nA c 40)) hu hv).1 (bo_comm (k := (nA c 32)) (m := (nA c 40)) hu hv).2
      have z2 := neq2_f (bo_zero (k := (nA c 32)) (qx := (nA c 16)) (qy := (nA c 24)) hu).1 (bo_zero (k := (nA c 32)) (qx := (nA c 16)) (qy := (nA c 24)) hu).2
      exact Runs.goes envE9 ⟨_, _, a9y c len cap, ⟨(by first | with_reducible assumption | with_reducible exact L8 (by with_reducible assumption) | exact decide_eq_true (by omega) | exact decide_eq_false (by omega) | omega), (by first | with_reducible assumption | with_reducible exact L8 (by with_reducible assumption) | exact decide_eq_true (by omega) | exact decide_eq_false (by omega) | omega), (by first | with_reducible assumption | with_reducible exact L8 (by with_reducible assumption) | exact decide_eq_true (by omega) | exact decide_eq_false (by omega) | omega), (by first | with_reducible assumption | with_reducible exact L8 (by with_reducible assumption) | exact decide_eq_true (by omega) | exact decide_eq_false (by omega) | omega), (by first | with_reducible assumption | with_reducible exact L8 (by with_reducible assumption) | exact decide_eq_true (by omega) | exact decide_eq_false (by omega) | omega), (by first | with_reducible assumption | with_reducible exact L8 (by with_reducible assumption) | exact decide_eq_true (by omega) | exact decide_eq_false (by omega) | omega), (by first | with_reducible assumption | with_reducible exact L8 (by with_reducible assumption) | exact decide_eq_true (by omega) | exact decide_eq_false (by omega) | omega), (by first | with_reducible assumption | with_reducible exact L8 (by with_reducible assumption) | exact decide_eq_true (by omega) | exact decide_eq_false (by omega) | omega), (by first | with_reducible assumption | with_reducible exact L8 (by with_reducible assumption) | exact decide_eq_true (by omega) | exact decide_eq_false (by omega) | omega), (by first | with_reducible assumption | with_reducible exact L8 (by with_reducible assumption) | exact decide_eq_true (by omega) | exact decide_eq_false (by omega) | omega), (by first | with_reducible assumption | with_reducible exact L8 (by with_reducible assumption) | exact decide_eq_true (by omega) | exact decide_eq_false (by omega) | omega), (by first | with_reducible assumption | with_reducible exact L8 (by with_reducible assumption) | exact decide_eq_true (by omega) | exact decide_eq_false (by omega) | omega), (by first | with_reducible assumption | with_reducible exact L8 (by with_reducible assumption) | exact decide_eq_true (by omega) | exact decide_eq_false (by omega) | omega), (by first | with_reducible assumption | with_reducible exact L8 (by with_reducible assumption) | exact decide_eq_true (by omega) | exact decide_eq_false (by omega) | omega), (by first | with_reducible assumption | with_reducible exact L8 (by with_reducible assumption) | exact decide_eq_true (by omega) | exact decide_eq_false (by omega) | omega), (by first | with_reducible assumption | with_reducible exact L8 (by with_reducible assumption) | exact decide_eq_true (by omega) | exact decide_eq_false (by omega) | omega), (by first | with_reducible assumption | with_reducible exact L8 (by with_reducible assumption) | exact decide_eq_true (by omega) | exact decide_eq_false (by omega) | omega), (by first | with_reducible assumption | with_reducible exact L8 (by with_reducible assumption) | exact decide_eq_true (by omega) | exact decide_eq_false (by omega) | omega), (by first | with_reducible assumption | with_reducible exact L8 (by with_reducible assumption) | exact decide_eq_true (by omega) | exact decide_eq_false (by omega) | omega), (by first | with_reducible assumption | with_reducible exact L8 (by with_reducible assumption) | exact decide_eq_true (by omega) | exact decide_eq_false (by omega) | omega), (by first | with_reducible assumption | with_reducible exact L8 (by with_reducible assumption) | exact decide_eq_true (by omega) | exact decide_eq_false (by omega) | omega), (by first | with_reducible assumption | with_reducible exact L8 (by with_reducible assumption) | exact decide_eq_true (by omega) | exact decide_eq_false (by omega) | omega), (by first | with_reducible assumption | with_reducible exact L8 (by with_reducible assumption) | exact decide_eq_true (by omega) | exact decide_eq_false (by omega) | omega), (by first | with_reducible assumption | with_reducible exact L8 (by with_reducible assumption) | exact decide_eq_true (by omega) | exact decide_eq_false (by omega) | omega), (by first | with_reducible assumption | with_reducible exact L8 (by with_reducible assumption) | exact decide_eq_true (by omega) | exact decide_eq_false (by omega) | omega), (by first | with_reducible assumption | with_reducible exact L8 (by with_reducible assumption) | exact decide_eq_true (by omega) | exact decide_eq_false (by omega) | omega), (by first | with_reducible assumption | with_reducible exact L8 (by with_reducible assumption) | exact decide_eq_true (by omega) | exact decide_eq_false (by omega) | omega), (by first | with_reducible assumption | with_reducible exact L8 (by with_reducible assumption) | exact decide_eq_true (by omega) | exact decide_eq_false (by omega) | omega), (by first | with_reducible assumption | with_reducible exact L8 (by with_reducible assumption) | exact decide_eq_true (by omega) | exact decide_eq_false (by omega) | omega), (by first | with_reducible assumption | with_reducible exact L8 (by with_reducible assumption) | exact decide_eq_true (by omega) | exact decide_eq_false (by omega) | omega), (by first | with_reducible assumption | with_reducible exact L8 (by with_reducible assumption) | exact decide_eq_true (by omega) | exact decide_eq_false (by omega) | omega), (by first | with_reducible assumption | with_reducible exact L8 (by with_reducible assumption) | exact decide_eq_true (by omega) | exact decide_eq_false (by omega) | omega), (by first | with_reducible assumption | with_reducible exact L8 (by with_reducible assumption) | exact decide_eq_true (by omega) | exact decide_eq_false (by omega) | omega), lit0, lit0, lit0, lit0, lit0, lit0, lit0, lit0, (by first | with_reducible assumption | with_reducible exact L8 (by with_reducible assumption) | exact decide_eq_true (by omega) | exact decide_eq_false (by omega) | omega), (by first | with_reducible assumption | with_reducible exact L8 (by with_reducible assumption) | exact decide_eq_true (by omega) | exact decide_eq_false (by omega) | omega), (by first | with_reducible assumption | with_reducible exact L8 (by with_reducible assumption) | exact decide_eq_true (by omega) | exact decide_eq_false (by omega) | omega), (by first | with_reducible assumption | with_reducible exact L8 (by with_reducible assumption) | exact decide_eq_true (by omega) | exact decide_eq_false (by omega) | omega), (by first | with_reducible assumption | with_reducible exact L8 (by with_reducible assumption) | exact decide_eq_true (by omega) | exact decide_eq_false (by omega) | omega), (by first | with_reducible assumption | with_reducible exact L8 (by with_reducible assumption) | exact decide_eq_true (by omega) | exact decide_eq_false (by omega) | omega), (by first | with_reducible assumption | with_reducible exact L8 (by with_reducible assumption) | exact decide_eq_true (by omega) | exact decide_eq_false (by omega) | omega), (by first | with_reducible assumption | with_reducible exact L8 (by with_reducible assumption) | exact decide_eq_true (by omega) | exact decide_eq_false (by omega) | omega), (by first | with_reducible assumption | with_reducible exact L8 (by with_reducible assumption) | exact decide_eq_true (by omega) | exact decide_eq_false (by omega) | omega), (by first | with_reducible assumption | with_reducible exact L8 (by with_reducible assumption) | exact decide_eq_true (by omega) | exact decide_eq_false (by omega) | omega), (by first | with_reducible assumption | with_reducible exact L8 (by with_reducible assumption) | exact decide_eq_true (by omega) | exact decide_eq_false (by omega) | omega), trivial⟩, wfT9 _ _ _ _ _⟩
end Go.Ev

namespace Go.Ev
open Go Go.Proofs Go.RowKit
theorem l9p (c : Cells)  (len cap : Nat) (m : Nat) : runTo E9 1000 (E9.S 9) (bodyOf Try.prog 9 2) (T9 len cap (m : Int)) (ME c m) [false] (T9 len cap (m : Int)) 1 =
    some ([decide ((m : Int) < (len : Int)) = false], .exit 0, T9 len cap (m : Int), ME c m) := by kernel_rfl
theorem l9q (c : Cells)  (len cap : Nat) : runTo E9 1000 (E9.S 9) (bodyOf Try.prog 9 2) (T9 len cap ((1 : Nat) : Int)) (ME c 1) [true] (T9 len cap ((1 : Nat) : Int)) 1 =
    some ([decide (((1 : Nat) : Int) < (len : Int)) = true], .exit 0, T9 len cap ((1 : Nat) : Int), ME c 1) := by kernel_rfl
theorem l9loop (c : Cells)  (len cap : Nat) {m : Nat}  (hm : m = min len 1) (ho : All (rowOb c shE m 0)) : Goes Try.prog (.loop (bodyOf Try.prog 9 2)) (.exit 0) (T9 len cap ((0 : Nat) : Int)) (ME c m) (T9 len cap (m : Int)) (ME c m) := by
  refine loop_goes (N := m) (k := 1) (T := fun i => T9 len cap (i : Int)) (M := fun _ => ME c m) (by simp) (fun _ _ => rfl) (fun i hi => ?_) ?_
  · have h3 : (m = 1 ∧ i = 0) := by omega
    have hl : i < len := by omega
    clear hm
    rcases h3 with ⟨rfl, rfl⟩
    · exact l9s_1_0 c hl ho
  · by_cases h : m < len
    · obtain rfl : m = 1 := by omega
      exact Runs.goes envE9 ⟨[true], _, l9q c len cap, ⟨decide_eq_true (by omega), trivial⟩, wfT9 _ _ _ _ _⟩
    · exact Runs.goes envE9 ⟨[false], _, l9p c len cap m, ⟨decide_eq_false (by omega), trivial⟩, wfT9 _ _ _ _ _⟩
noncomputable def l9X (c : Cells)  (len cap : Nat) (m : Nat) : Env := withL E9 2 (bodyOf Try.prog 9 2) (sumC (T9 len cap ((0 : Nat) : Int)) (ME c m) (T9 len cap (m : Int)) (ME c m) (.exit 0))
theorem l9Xok (c : Cells)  (len cap : Nat) {m : Nat}  (hm : m = min len 1) (ho : All (rowOb c shE m 0)) : EnvOK (l9X c len cap m) := envWithL envE9 (sumC_ok rfl (l9loop c len cap  hm ho))
theorem l9run9 (c : Cells) (len cap m : Nat) : dropM (callBy (l9X c len cap m) (evalC (l9X c len cap m) 1000) 9 [.one (.sl 0 0 len cap)] [rowB c shE m 53] []) =
    some ([(bodyOf Try.prog 9 2) = (bodyOf Try.prog 9 2), (T9 len cap ((0 : Nat) : Int), ME c m) = (T9 len cap ((0 : Nat) : Int), ME c m), wfS (T9 len cap ((0 : Nat) : Int)) (ME c m) = true], bV true) := by kernel_rfl
theorem l9nil9 : dropM (callBy E9 (evalC E9 1000) 9 [.one (.v (.slice none 0 0))] [] [false]) = some ([decide (((0 : Nat) : Int) < ((0 : Nat) : Int)) = false], bV true) := by kernel_rfl
theorem l9nilo9 : All [decide (((0 : Nat) : Int) < ((0 : Nat) : Int)) = false] := ⟨by decide, trivial⟩
theorem l9nila9 (w : World) : Calls E9.P 9 #[.slice none 0 0] w (Trues w) := law_nilD envE9 l9nil9 l9nilo9 w
theorem l9nilc9 (w : World) : Calls Try.prog 9 #[.slice none 0 0] w (Trues w) := l9nila9 w
set_option maxRecDepth 100000 in
theorem law9 {H : Type} {enc : TypeId × Value → H} {r : Reach} {W : World} {base : Nat} {v : Value} {d : DataW H} {ps : List MemPlace} (hval : Value.okWide Try.prog W r base 49 v) (h : DataW.Trod enc Try.prog W 0 (fun _ => true) true 49 v d ps) :
    Calls Try.prog 9 #[v] W (Trues W) := by
  refine rows_calls shE (K := 1) (Q := Trues) u49 k53 s53 l9nilc9 ?_ hval h
  intro c m len cap hm _ _ ho w φ hmr
  have h2 : All [(bodyOf Try.prog 9 2) = (bodyOf Try.prog 9 2), (T9 len cap ((0 : Nat) : Int), ME c m) = (T9 len cap ((0 : Nat) : Int), ME c m), wfS (T9 len cap ((0 : Nat) : Int)) (ME c m) = true] := ⟨rfl, rfl, wfT9 _ _ _ _ _, trivial⟩
  have h3 := law_runD (l9Xok c len cap  hm ho) (l9run9 c len cap m) h2 hmr
  exact h3
end Go.Ev

namespace Go.Proofs.Ytpnappendjomoaa.Laws
open Go Go.Ev Go.RowKit Go.ChangeShapes Go.WideShapes Go.ChangeAt

set_option maxRecDepth 100000 in
theorem lifted9 (os : Os) (started : os.Started) (H : Type) (enc : TypeId × Value → H) :
    ReturnsInHanded {} Try.checked os 9 .any (Rows.edwBothsSpec.pre6 enc Try.prog Try.f9 Rows.edwBothsRow.domain false) (Rows.edwBothsSpec.post enc Try.prog Try.f9 false true false false) := by
  refine returnsInHanded_of_change (C := Try.checked) own started (by kernel_rfl) Try.func9
    (ChangeSpec.witness6 (enc := enc) (C := Try.checked) false ⟨#[], #[.slice none 0 0], []⟩ 8 (by kernel_rfl) (by kernel_rfl) (by kernel_rfl) (by kernel_rfl)) ?_
  intro W base args ds gs before hval0 hW _ _
  have hval : ∀ (j : Nat) t v, Try.f9.params[j]? = some t → args[j]? = some v → Value.okWide Try.prog W .any base t v := hval0
  have hW' := hW
  obtain ⟨p, q, hA0, hV, hbef, hfz, hnd⟩ := hW
  have hp : Try.f9.params = #[49] := by kernel_rfl
  have hA : DataW.TrodAll enc Try.prog W 0 (fun _ => true) true Try.f9.params.toList args.toList ds p := hA0
  rw [hp] at hA hval
  obtain ⟨v0, d0, rfl, rfl, h0⟩ := trodAll_one hA
  obtain ⟨rfl, rfl⟩ := trodVars_none hV
  refine (law9 (hval 0 49 v0 rfl rfl) h0).mono ?_
  rintro e W' ⟨rfl, hb⟩
  exact ⟨_, rfl, post_true (tb := 4) rfl hp (by kernel_rfl) u4 laid rd49 row49 rfl rfl hW' hb⟩

theorem holds9 : Rows.EdwBothsSaid :=
  OpenClaim.holds_of_wide 9 Try.f9 rfl rfl rfl rfl rfl rfl rfl ⟨rfl, rfl, rfl, rfl, rfl⟩ rfl rfl rfl rfl rfl (by kernel_rfl) Try.func9 (by kernel_rfl)
    (of_decide_eq_true (by kernel_rfl)) (by unfold Func.isWrapper; first | (rw [if_pos (by decide +kernel)]; kernel_rfl) | (rw [if_neg (by decide +kernel)]; exact ⟨rfl, rfl⟩))
    (fun os started H enc _ => lifted9 os started H enc)

end Go.Proofs.Ytpnappendjomoaa.Laws

namespace Go.Proofs.Ytpnappendjomoaa
open Go
theorem edwBoths_holds : Rows.EdwBothsSaid := Laws.holds9
end Go.Proofs.Ytpnappendjomoaa

