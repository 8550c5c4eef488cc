/- The law EdwWrongs holds of every argument, without a condition -/
import Derived.Test.YtpnappendjomoaaCurve
import Derived.JoinedOf
namespace Go.Ev
open Go Go.Proofs Go.RowKit

/-! refused, if one of them is none -/
noncomputable def gAddN : List Val → Option (List Prop × AV)
  | [.n px, .n py, .n qx, .n qy] => some ([(onE px py && onE qx qy) = false], .tup [noP, .one (.i 7)])
  | _ => none
theorem ct38N : CTok ⟨38, fnS [aPt, aPt] gAddN⟩ := ctS (by
  intro xs ob r hb h ho
  unfold gAddN at h
  split at h
  · rename_i px py qx qy
    simp only [Option.some.injEq, Prod.mk.injEq] at h
    obtain ⟨rfl, rfl⟩ := h
    obtain ⟨⟨b1, b2, _⟩, ⟨b3, b4, _⟩, _⟩ := hb
    have hS := ct38V (onE px py) (onE qx qy) [P2 px py, P2 qx qy] _ _ rfl ⟨b1, b2, b3, b4, rfl, rfl, trivial⟩
    rw [ho.1] at hS
    exact hS
  · simp at h)
noncomputable def L11 : List CT := [⟨33, bT⟩, ⟨38, fnS [aPt, aPt] gAddN⟩, ⟨27, fnS [aN, aPt] (g27V false)⟩, ⟨40, fnS [aPt] (g40V false)⟩] ++ L12
theorem L11_ok : AllCT L11 := ⟨ctT spec33e, ct38N, ct27V false, ct40V false, L12_ok⟩
noncomputable def S11 : FuncId → Nat → Bool := fun f t => match f with | 11 => memN t [16, 25, 29, 65] | _ => false
noncomputable def E11 : Env := mkE L11 S11
theorem envE11 : EnvOK E11 := envMk L11_ok S11
def T11 (len cap : Nat) (i : Int) : List AV := slots 131 [(0, sV' len cap), (2, bV false), (3, iV i)]
def T11i (len cap : Nat) (i : Int) (k : Int) : List AV := slots 131 [(0, sV' len cap), (2, bV false), (3, iV i), (4, pV 1), (5, .val (.one (.sl 2 0 3 3))), (6, iV k)]
def M11 (c : Cells) (m px py a : Nat) (y : Nat → Nat) : List Blk := [rowB c shE m 53, ⟨[.num 8 px, .num 8 py], 51, true, false, 0⟩, ⟨.num 8 a :: .num 8 py :: .num 8 px :: (cellsU 8 0 y ++ cellsU 16 0 zF), 51, true, false, 0⟩]
theorem M11_free (c : Cells) (m px py a : Nat) (y : Nat → Nat) : ∀ b ∈ M11 c m px py a y, Free b := by
  intro b hb
  simp only [M11, List.mem_cons, List.not_mem_nil, or_false] at hb
  rcases hb with rfl | rfl | rfl
  · exact rowB_free _ _ _ _
  · exact fun _ => rfl
  · exact fun _ => rfl
theorem wfT11 (c : Cells) (m len cap : Nat) (i : Int) : wfS (T11 len cap i) (ME c m) = true := wfE c m (by kernel_rfl)
theorem wfT11i (c : Cells) (m px py a : Nat) (y : Nat → Nat) (len cap : Nat) (i k : Int) : wfS (T11i len cap i k) (M11 c m px py a y) = true := wfS_of (M11_free _ _ _ _ _ _) (by show tmsWf 3 _ = true; kernel_rfl)
theorem wfT11o (c : Cells) (m px py a : Nat) (y : Nat → Nat) (len cap : Nat) (i : Int) : wfS (T11 len cap i) (M11 c m px py a y) = true := wfS_of (M11_free _ _ _ _ _ _) (by show tmsWf 3 _ = true; kernel_rfl)
theorem b11_0c (c : Cells) (m : Nat) (px : Nat) (py : Nat) (a : Nat) (y : Nat → Nat) (len : Nat) (cap : Nat) (i : Int) : runTo E11 1000 (Env.S E11 11) (bodyOf Try.prog 11 10) (T11i len cap i ((0 : Nat) : Int)) (M11 c m px py a y) [true] (T11i len cap i (↑(0 + 1) : Int)) 3 =
    some ([onE a py = true, a < 4294967296 ^ 8, py < 4294967296 ^ 8], .normal, T11i len cap i ((0 + 1 : Nat) : Int), M11 c m px py a y) := by kernel_rfl
theorem b11_0r (c : Cells) (m : Nat) (px : Nat) (py : Nat) (a : Nat) (y : Nat → Nat) (len : Nat) (cap : Nat) (i : Int) : runTo E11 1000 (Env.S E11 11) (bodyOf Try.prog 11 10) (T11i len cap i ((0 : Nat) : Int)) (M11 c m px py a y) [false] (T11i len cap i (↑(0 + 1) : Int)) 3 =
    some ([onE a py = false, a < 4294967296 ^ 8, py < 4294967296 ^ 8, px < 4294967296 ^ 8, py < 4294967296 ^ 8, a < 4294967296 ^ 8, py < 4294967296 ^ 8, (onE px py && onE a py) = false, a < 4294967296 ^ 8, py < 4294967296 ^ 8, px < 4294967296 ^ 8, py < 4294967296 ^ 8, (onE a py && onE px py) = false, 0 < 4294967296, 0 < 4294967296, 0 < 4294967296, 0 < 4294967296, 0 < 4294967296, 0 < 4294967296, 0 < 4294967296, 0 < 4294967296, a < 4294967296 ^ 8, py < 4294967296 ^ 8, onE a py = false, a < 4294967296 ^ 8, py < 4294967296 ^ 8, onE a py = false], .normal, T11i len cap i ((0 + 1 : Nat) : Int), M11 c m px py a y) := by kernel_rfl
theorem c11_0 (c : Cells) (m : Nat) {px py a : Nat} {y : Nat → Nat} (len cap : Nat) (i : Int) (hu : onE px py = true) (ha : a < 4294967296 ^ 8) (hy : ∀ i, y i < 4294967296) : Goes Try.prog (bodyOf Try.prog 11 10) .normal (T11i len cap i ((0 : Nat) : Int)) (M11 c m px py a y) (T11i len cap i ((0 + 1 : Nat) : Int)) (M11 c m px py a y) := by
  obtain ⟨h3, h4⟩ := dN0 hu
  have y0 := hy 0
  have y1 := hy 1
  have y2 := hy 2
  have y3 := hy 3
  have y4 := hy 4
  have y5 := hy 5
  have y6 := hy 6
  have y7 := hy 7
  cases hv : onE a py with
  | true => exact Runs.goes envE11 ⟨_, _, b11_0c c m px py a y len cap i, ⟨(by first | with_reducible assumption | with_reducible exact L8 (by with_reducible assumption) | exact decide_eq_true (by omega) | exact decide_eq_false (by omega) | omega), (by first | with_reducible assumption | with_reducible exact L8 (by with_reducible assumption) | exact decide_eq_true (by omega) | exact decide_eq_false (by omega) | omega), (by first | with_reducible assumption | with_reducible exact L8 (by with_reducible assumption) | exact decide_eq_true (by omega) | exact decide_eq_false (by omega) | omega), trivial⟩, wfT11i _ _ _ _ _ _ _ _ _ _⟩
  | false =>
    have v1 : (onE px py && onE a py) = false := by rw [hv, Bool.and_false]
    have v2 : (onE a py && onE px py) = false := by rw [hv, Bool.false_and]
    exact Runs.goes envE11 ⟨_, _, b11_0r c m px py a y len cap i, ⟨(by first | with_reducible assumption | with_reducible exact L8 (by with_reducible assumption) | exact decide_eq_true (by omega) | exact decide_eq_false (by omega) | omega), (by first | with_reducible assumption | with_reducible exact L8 (by with_reducible assumption) | exact decide_eq_true (by omega) | exact decide_eq_false (by omega) | omega), (by first | with_reducible assumption | with_reducible exact L8 (by with_reducible assumption) | exact decide_eq_true (by omega) | exact decide_eq_false (by omega) | omega), (by first | with_reducible assumption | with_reducible exact L8 (by with_reducible assumption) | exact decide_eq_true (by omega) | exact decide_eq_false (by omega) | omega), (by first | with_reducible assumption | with_reducible exact L8 (by with_reducible assumption) | exact decide_eq_true (by omega) | exact decide_eq_false (by omega) | omega), (by first | with_reducible assumption | with_reducible exact L8 (by with_reducible assumption) | exact decide_eq_true (by omega) | exact decide_eq_false (by omega) | omega), (by first | with_reducible assumption | with_reducible exact L8 (by with_reducible assumption) | exact decide_eq_true (by omega) | exact decide_eq_false (by omega) | omega), (by first | with_reducible assumption | with_reducible exact L8 (by with_reducible assumption) | exact decide_eq_true (by omega) | exact decide_eq_false (by omega) | omega), (by first | with_reducible assumption | with_reducible exact L8 (by with_reducible assumption) | exact decide_eq_true (by omega) | exact decide_eq_false (by omega) | omega), (by first | with_reducible assumption | with_reducible exact L8 (by with_reducible assumption) | exact decide_eq_true (by omega) | exact decide_eq_false (by omega) | omega), (by first | with_reducible assumption | with_reducible exact L8 (by with_reducible assumption) | exact decide_eq_true (by omega) | exact decide_eq_false (by omega) | omega), (by first | with_reducible assumption | with_reducible exact L8 (by with_reducible assumption) | exact decide_eq_true (by omega) | exact decide_eq_false (by omega) | omega), (by first | with_reducible assumption | with_reducible exact L8 (by with_reducible assumption) | exact decide_eq_true (by omega) | exact decide_eq_false (by omega) | omega), lit0, lit0, lit0, lit0, lit0, lit0, lit0, lit0, (by first | with_reducible assumption | with_reducible exact L8 (by with_reducible assumption) | exact decide_eq_true (by omega) | exact decide_eq_false (by omega) | omega), (by first | with_reducible assumption | with_reducible exact L8 (by with_reducible assumption) | exact decide_eq_true (by omega) | exact decide_eq_false (by omega) | omega), (by first | with_reducible assumption | with_reducible exact L8 (by with_reducible assumption) | exact decide_eq_true (by omega) | exact decide_eq_false (by omega) | omega), (by first | with_reducible assumption | with_reducible exact L8 (by with_reducible assumption) | exact decide_eq_true (by omega) | exact decide_eq_false (by omega) | omega), (by first | with_reducible assumption | with_reducible exact L8 (by with_reducible assumption) | exact decide_eq_true (by omega) | exact decide_eq_false (by omega) | omega), (by first | with_reducible assumption | with_reducible exact L8 (by with_reducible assumption) | exact decide_eq_true (by omega) | exact decide_eq_false (by omega) | omega), trivial⟩, wfT11i _ _ _ _ _ _ _ _ _ _⟩
theorem b11_1c (c : Cells) (m : Nat) (px : Nat) (py : Nat) (a : Nat) (y : Nat → Nat) (len : Nat) (cap : Nat) (i : Int) : runTo E11 1000 (Env.S E11 11) (bodyOf Try.prog 11 10) (T11i len cap i ((1 : Nat) : Int)) (M11 c m px py a y) [true] (T11i len cap i (↑(1 + 1) : Int)) 3 =
    some ([onE px (y 0 + 4294967296 * (y (0 + 1) + 4294967296 * (y (0 + 1 + 1) + 4294967296 * (y (0 + 1 + 1 + 1) + 4294967296 * (y (0 + 1 + 1 + 1 + 1) + 4294967296 * (y (0 + 1 + 1 + 1 + 1 + 1) + 4294967296 * (y (0 + 1 + 1 + 1 + 1 + 1 + 1) + 4294967296 * (y (0 + 1 + 1 + 1 + 1 + 1 + 1 + 1) + 4294967296 * 0)))))))) = true, px < 4294967296 ^ 8, y 0 < 4294967296, y (0 + 1) < 4294967296, y (0 + 1 + 1) < 4294967296, y (0 + 1 + 1 + 1) < 4294967296, y (0 + 1 + 1 + 1 + 1) < 4294967296, y (0 + 1 + 1 + 1 + 1 + 1) < 4294967296, y (0 + 1 + 1 + 1 + 1 + 1 + 1) < 4294967296, y (0 + 1 + 1 + 1 + 1 + 1 + 1 + 1) < 4294967296], .normal, T11i len cap i ((1 + 1 : Nat) : Int), M11 c m px py a y) := by kernel_rfl
theorem b11_1r (c : Cells) (m : Nat) (px : Nat) (py : Nat) (a : Nat) (y : Nat → Nat) (len : Nat) (cap : Nat) (i : Int) : runTo E11 1000 (Env.S E11 11) (bodyOf Try.prog 11 10) (T11i len cap i ((1 : Nat) : Int)) (M11 c m px py a y) [false] (T11i len cap i (↑(1 + 1) : Int)) 3 =
    some ([onE px (y 0 + 4294967296 * (y (0 + 1) + 4294967296 * (y (0 + 1 + 1) + 4294967296 * (y (0 + 1 + 1 + 1) + 4294967296 * (y (0 + 1 + 1 + 1 + 1) + 4294967296 * (y (0 + 1 + 1 + 1 + 1 + 1) + 4294967296 * (y (0 + 1 + 1 + 1 + 1 + 1 + 1) + 4294967296 * (y (0 + 1 + 1 + 1 + 1 + 1 + 1 + 1) + 4294967296 * 0)))))))) = false, px < 4294967296 ^ 8, y 0 < 4294967296, y (0 + 1) < 4294967296, y (0 + 1 + 1) < 4294967296, y (0 + 1 + 1 + 1) < 4294967296, y (0 + 1 + 1 + 1 + 1) < 4294967296, y (0 + 1 + 1 + 1 + 1 + 1) < 4294967296, y (0 + 1 + 1 + 1 + 1 + 1 + 1) < 4294967296, y (0 + 1 + 1 + 1 + 1 + 1 + 1 + 1) < 4294967296, px < 4294967296 ^ 8, py < 4294967296 ^ 8, px < 4294967296 ^ 8, y 0 < 4294967296, y (0 + 1) < 4294967296, y (0 + 1 + 1) < 4294967296, y (0 + 1 + 1 + 1) < 4294967296, y (0 + 1 + 1 + 1 + 1) < 4294967296, y (0 + 1 + 1 + 1 + 1 + 1) < 4294967296, y (0 + 1 + 1 + 1 + 1 + 1 + 1) < 4294967296, y (0 + 1 + 1 + 1 + 1 + 1 + 1 + 1) < 4294967296, (onE px py && onE px (y 0 + 4294967296 * (y (0 + 1) + 4294967296 * (y (0 + 1 + 1) + 4294967296 * (y (0 + 1 + 1 + 1) + 4294967296 * (y (0 + 1 + 1 + 1 + 1) + 4294967296 * (y (0 + 1 + 1 + 1 + 1 + 1) + 4294967296 * (y (0 + 1 + 1 + 1 + 1 + 1 + 1) + 4294967296 * (y (0 + 1 + 1 + 1 + 1 + 1 + 1 + 1) + 4294967296 * 0))))))))) = false, px < 4294967296 ^ 8, y 0 < 4294967296, y (0 + 1) < 4294967296, y (0 + 1 + 1) < 4294967296, y (0 + 1 + 1 + 1) < 4294967296, y (0 + 1 + 1 + 1 + 1) < 4294967296, y (0 + 1 + 1 + 1 + 1 + 1) < 4294967296, y (0 + 1 + 1 + 1 + 1 + 1 + 1) < 4294967296, y (0 + 1 + 1 + 1 + 1 + 1 + 1 + 1) < 4294967296, px < 4294967296 ^ 8, py < 4294967296 ^ 8, (onE px (y 0 + 4294967296 * (y (0 + 1) + 4294967296 * (y (0 + 1 + 1) + 4294967296 * (y (0 + 1 + 1 + 1) + 4294967296 * (y (0 + 1 + 1 + 1 + 1) + 4294967296 * (y (0 + 1 + 1 + 1 + 1 + 1) + 4294967296 * (y (0 + 1 + 1 + 1 + 1 + 1 + 1) + 4294967296 * (y (0 + 1 + 1 + 1 + 1 + 1 + 1 + 1) + 4294967296 * 0)))))))) && onE px py) = false, 0 < 4294967296, 0 < 4294967296, 0 < 4294967296, 0 < 4294967296, 0 < 4294967296, 0 < 4294967296, 0 < 4294967296, 0 < 4294967296, px < 4294967296 ^ 8, y 0 < 4294967296, y (0 + 1) < 4294967296, y (0 + 1 + 1) < 4294967296, y (0 + 1 + 1 + 1) < 4294967296, y (0 + 1 + 1 + 1 + 1) < 4294967296, y (0 + 1 + 1 + 1 + 1 + 1) < 4294967296, y (0 + 1 + 1 + 1 + 1 + 1 + 1) < 4294967296, y (0 + 1 + 1 + 1 + 1 + 1 + 1 + 1) < 4294967296, onE px (y 0 + 4294967296 * (y (0 + 1) + 4294967296 * (y (0 + 1 + 1) + 4294967296 * (y (0 + 1 + 1 + 1) + 4294967296 * (y (0 + 1 + 1 + 1 + 1) + 4294967296 * (y (0 + 1 + 1 + 1 + 1 + 1) + 4294967296 * (y (0 + 1 + 1 + 1 + 1 + 1 + 1) + 4294967296 * (y (0 + 1 + 1 + 1 + 1 + 1 + 1 + 1) + 4294967296 * 0)))))))) = false, px < 4294967296 ^ 8, y 0 < 4294967296, y (0 + 1) < 4294967296, y (0 + 1 + 1) < 4294967296, y (0 + 1 + 1 + 1) < 4294967296, y (0 + 1 + 1 + 1 + 1) < 4294967296, y (0 + 1 + 1 + 1 + 1 + 1) < 4294967296, y (0 + 1 + 1 + 1 + 1 + 1 + 1) < 4294967296, y (0 + 1 + 1 + 1 + 1 + 1 + 1 + 1) < 4294967296, onE px (y 0 + 4294967296 * (y (0 + 1) + 4294967296 * (y (0 + 1 + 1) + 4294967296 * (y (0 + 1 + 1 + 1) + 4294967296 * (y (0 + 1 + 1 + 1 + 1) + 4294967296 * (y (0 + 1 + 1 + 1 + 1 + 1) + 4294967296 * (y (0 + 1 + 1 + 1 + 1 + 1 + 1) + 4294967296 * (y (0 + 1 + 1 + 1 + 1 + 1 + 1 + 1) + 4294967296 * 0)))))))) = false], .normal, T11i len cap i ((1 + 1 : Nat) : Int), M11 c m px py a y) := by kernel_rfl
theorem c11_1 (c : Cells) (m : Nat) {px py a : Nat} {y : Nat → Nat} (len cap : Nat) (i : Int) (hu : onE px py = true) (ha : a < 4294967296 ^ 8) (hy : ∀ i, y i < 4294967296) : Goes Try.prog (bodyOf Try.prog 11 10) .normal (T11i len cap i ((1 : Nat) : Int)) (M11 c m px py a y) (T11i len cap i ((1 + 1 : Nat) : Int)) (M11 c m px py a y) := by
  obtain ⟨h3, h4⟩ := dN0 hu
  have y0 := hy 0
  have y1 := hy 1
  have y2 := hy 2
  have y3 := hy 3
  have y4 := hy 4
  have y5 := hy 5
  have y6 := hy 6
  have y7 := hy 7
  cases hv : onE px (y 0 + 4294967296 * (y 1 + 4294967296 * (y 2 + 4294967296 * (y 3 + 4294967296 * (y 4 + 4294967296 * (y 5 + 4294967296 * (y 6 + 4294967296 * (y 7 + 4294967296 * 0)))))))) with
  | true => exact Runs.goes envE11 ⟨_, _, b11_1c c m px py a y len cap i, ⟨(by first | with_reducible assumption | with_reducible exact L8 (by with_reducible assumption) | exact decide_eq_true (by omega) | exact decide_eq_false (by omega) | omega), (by first | with_reducible assumption | with_reducible exact L8 (by with_reducible assumption) | exact decide_eq_true (by omega) | exact decide_eq_false (by omega) | omega), (by first | with_reducible assumption | with_reducible exact L8 (by with_reducible assumption) | exact decide_eq_true (by omega) | exact decide_eq_false (by omega) | omega), (by first | with_reducible assumption | with_reducible exact L8 (by with_reducible assumption) | exact decide_eq_true (by omega) | exact decide_eq_false (by omega) | omega), (by first | with_reducible assumption | with_reducible exact L8 (by with_reducible assumption) | exact decide_eq_true (by omega) | exact decide_eq_false (by omega) | omega), (by first | with_reducible assumption | with_reducible exact L8 (by with_reducible assumption) | exact decide_eq_true (by omega) | exact decide_eq_false (by omega) | omega), (by first | with_reducible assumption | with_reducible exact L8 (by with_reducible assumption) | exact decide_eq_true (by omega) | exact decide_eq_false (by omega) | omega), (by first | with_reducible assumption | with_reducible exact L8 (by with_reducible assumption) | exact decide_eq_true (by omega) | exact decide_eq_false (by omega) | omega), (by first | with_reducible assumption | with_reducible exact L8 (by with_reducible assumption) | exact decide_eq_true (by omega) | exact decide_eq_false (by omega) | omega), (by first | with_reducible assumption | with_reducible exact L8 (by with_reducible assumption) | exact decide_eq_true (by omega) | exact decide_eq_false (by omega) | omega), trivial⟩, wfT11i _ _ _ _ _ _ _ _ _ _⟩
  | false =>
    have v1 : (onE px py && onE px (y 0 + 4294967296 * (y 1 + 4294967296 * (y 2 + 4294967296 * (y 3 + 4294967296 * (y 4 + 4294967296 * (y 5 + 4294967296 * (y 6 + 4294967296 * (y 7 + 4294967296 * 0))))))))) = false := by rw [hv, Bool.and_false]
    have v2 : (onE px (y 0 + 4294967296 * (y 1 + 4294967296 * (y 2 + 4294967296 * (y 3 + 4294967296 * (y 4 + 4294967296 * (y 5 + 4294967296 * (y 6 + 4294967296 * (y 7 + 4294967296 * 0)))))))) && onE px py) = false := by rw [hv, Bool.false_and]
    exact Runs.goes envE11 ⟨_, _, b11_1r c m px py a y len cap i, ⟨(by first | with_reducible assumption | with_reducible exact L8 (by with_reducible assumption) | exact decide_eq_true (by omega) | exact decide_eq_false (by omega) | omega), (by first | with_reducible assumption | with_reducible exact L8 (by with_reducible assumption) | exact decide_eq_true (by omega) | exact decide_eq_false (by omega) | omega), (by first | with_reducible assumption | with_reducible exact L8 (by with_reducible assumption) | exact decide_eq_true (by omega) | exact decide_eq_false (by omega) | omega), (by first | with_reducible assumption | with_reducible exact L8 (by with_reducible assumption) | exact decide_eq_true (by omega) | exact decide_eq_false (by omega) | omega), (by first | with_reducible assumption | with_reducible exact L8 (by with_reducible assumption) | exact decide_eq_true (by omega) | exact decide_eq_false (by omega) | omega), (by first | with_reducible assumption | with_reducible exact L8 (by with_reducible assumption) | exact decide_eq_true (by omega) | exact decide_eq_false (by omega) | omega), (by first | with_reducible assumption | with_reducible exact L8 (by with_reducible assumption) | exact decide_eq_true (by omega) | exact decide_eq_false (by omega) | omega), (by first | with_reducible assumption | with_reducible exact L8 (by with_reducible assumption) | exact decide_eq_true (by omega) | exact decide_eq_false (by omega) | omega), (by first | with_reducible assumption | with_reducible exact L8 (by with_reducible assumption) | exact decide_eq_true (by omega) | exact decide_eq_false (by omega) | omega), (by first | with_reducible assumption | with_reducible exact L8 (by with_reducible assumption) | exact decide_eq_true (by omega) | exact decide_eq_false (by omega) | omega), (by first | with_reducible assumption | with_reducible exact L8 (by with_reducible assumption) | exact decide_eq_true (by omega) | exact decide_eq_false (by omega) | omega), (by first | with_reducible assumption | with_reducible exact L8 (by with_reducible assumption) | exact decide_eq_true (by omega) | exact decide_eq_false (by omega) | omega), (by first | with_reducible assumption | with_reducible exact L8 (by with_reducible assumption) | exact decide_eq_true (by omega) | exact decide_eq_false (by omega) | omega), (by first | with_reducible assumption | with_reducible exact L8 (by with_reducible assumption) | exact decide_eq_true (by omega) | exact decide_eq_false (by omega) | omega), (by first | with_reducible assumption | with_reducible exact L8 (by with_reducible assumption) | exact decide_eq_true (by omega) | exact decide_eq_false (by omega) | omega), (by first | with_reducible assumption | with_reducible exact L8 (by with_reducible assumption) | exact decide_eq_true (by omega) | exact decide_eq_false (by omega) | omega), (by first | with_reducible assumption | with_reducible exact L8 (by with_reducible assumption) | exact decide_eq_true (by omega) | exact decide_eq_false (by omega) | omega), (by first | with_reducible assumption | with_reducible exact L8 (by with_reducible assumption) | exact decide_eq_true (by omega) | exact decide_eq_false (by omega) | omega), (by first | with_reducible assumption | with_reducible exact L8 (by with_reducible assumption) | exact decide_eq_true (by omega) | exact decide_eq_false (by omega) | omega), (by first | with_reducible assumption | with_reducible exact L8 (by with_reducible assumption) | exact decide_eq_true (by omega) | exact decide_eq_false (by omega) | omega), (by first | with_reducible assumption | with_reducible exact L8 (by with_reducible assumption) | exact decide_eq_true (by omega) | exact decide_eq_false (by omega) | omega), (by first | with_reducible assumption | with_reducible exact L8 (by with_reducible assumption) | exact decide_eq_true (by omega) | exact decide_eq_false (by omega) | omega), (by first | with_reducible assumption | with_reducible exact L8 (by with_reducible assumption) | exact decide_eq_true (by omega) | exact decide_eq_false (by omega) | omega), (by first | with_reducible assumption | with_reducible exact L8 (by with_reducible assumption) | exact decide_eq_true (by omega) | exact decide_eq_false (by omega) | omega), (by first | with_reducible assumption | with_reducible exact L8 (by with_reducible assumption) | exact decide_eq_true (by omega) | exact decide_eq_false (by omega) | omega), (by first | with_reducible assumption | with_reducible exact L8 (by with_reducible assumption) | exact decide_eq_true (by omega) | exact decide_eq_false (by omega) | omega), (by first | with_reducible assumption | with_reducible exact L8 (by with_reducible assumption) | exact decide_eq_true (by omega) | exact decide_eq_false (by omega) | omega), (by first | with_reducible assumption | with_reducible exact L8 (by with_reducible assumption) | exact decide_eq_true (by omega) | exact decide_eq_false (by omega) | omega), (by first | with_reducible assumption | with_reducible exact L8 (by with_reducible assumption) | exact decide_eq_true (by omega) | exact decide_eq_false (by omega) | omega), (by first | with_reducible assumption | with_reducible exact L8 (by with_reducible assumption) | exact decide_eq_true (by omega) | exact decide_eq_false (by omega) | omega), (by first | with_reducible assumption | with_reducible exact L8 (by with_reducible assumption) | exact decide_eq_true (by omega) | exact decide_eq_false (by omega) | omega), (by first | with_reducible assumption | with_reducible exact L8 (by with_reducible assumption) | exact decide_eq_true (by omega) | exact decide_eq_false (by omega) | omega), (by first | with_reducible assumption | with_reducible exact L8 (by with_reducible assumption) | exact decide_eq_true (by omega) | exact decide_eq_false (by omega) | omega), (by first | with_reducible assumption | with_reducible exact L8 (by with_reducible assumption) | exact decide_eq_true (by omega) | exact decide_eq_false (by omega) | omega), lit0, lit0, lit0, lit0, lit0, lit0, lit0, lit0, (by first | with_reducible assumption | with_reducible exact L8 (by with_reducible assumption) | exact decide_eq_true (by omega) | exact decide_eq_false (by omega) | omega), (by first | with_reducible assumption | with_reducible exact L8 (by with_reducible assumption) | exact decide_eq_true (by omega) | exact decide_eq_false (by omega) | omega), (by first | with_reducible assumption | with_reducible exact L8 (by with_reducible assumption) | exact decide_eq_true (by omega) | exact decide_eq_false (by omega) | omega), (by first | with_reducible assumption | with_reducible exact L8 (by with_reducible assumption) | exact decide_eq_true (by omega) | exact decide_eq_false (by omega) | omega), (by first | with_reducible assumption | with_reducible exact L8 (by with_reducible assumption) | exact decide_eq_true (by omega) | exact decide_eq_false (by omega) | omega), (by first | with_reducible assumption | with_reducible exact L8 (by with_reducible assumption) | exact decide_eq_true (by omega) | exact decide_eq_false (by omega) | omega), (by first | with_reducible assumption | with_reducible exact L8 (by with_reducible assumption) | exact decide_eq_true (by omega) | exact decide_eq_false (by omega) | omega), (by first | with_reducible assumption | with_reducible exact L8 (by with_reducible assumption) | exact decide_eq_true (by omega) | exact decide_eq_false (by omega) | omega), (by first | with_reducible assumption | with_reducible exact L8 (by with_reducible assumption) | exact decide_eq_true (by omega) | exact decide_eq_false (by omega) | omega), (by first | with_reducible assumption | with_reducible exact L8 (by with_reducible assumption) | exact decide_eq_true (by omega) | exact decide_eq_false (by omega) | omega), (by first | with_reducible assumption | with_reducible exact L8 (by with_reducible assumption) | exact decide_eq_true (by omega) | exact decide_eq_false (by omega) | omega), (by first | with_reducible assumption | with_reducible exact L8 (by with_reducible assumption) | exact decide_eq_true (by omega) | exact decide_eq_false (by omega) | omega), (by first | with_reducible assumption | with_reducible exact L8 (by with_reducible assumption) | exact decide_eq_true (by omega) | exact decide_eq_false (by omega) | omega), (by first | with_reducible assumption | with_reducible exact L8 (by with_reducible assumption) | exact decide_eq_true (by omega) | exact decide_eq_false (by omega) | omega), (by first | with_reducible assumption | with_reducible exact L8 (by with_reducible assumption) | exact decide_eq_true (by omega) | exact decide_eq_false (by omega) | omega), (by first | with_reducible assumption | with_reducible exact L8 (by with_reducible assumption) | exact decide_eq_true (by omega) | exact decide_eq_false (by omega) | omega), (by first | with_reducible assumption | with_reducible exact L8 (by with_reducible assumption) | exact decide_eq_true (by omega) | exact decide_eq_false (by omega) | omega), (by first | with_reducible assumption | with_reducible exact L8 (by with_reducible assumption) | exact decide_eq_true (by omega) | exact decide_eq_false (by omega) | omega), (by first | with_reducible assumption | with_reducible exact L8 (by with_reducible assumption) | exact decide_eq_true (by omega) | exact decide_eq_false (by omega) | omega), (by first | with_reducible assumption | with_reducible exact L8 (by with_reducible assumption) | exact decide_eq_true (by omega) | exact decide_eq_false (by omega) | omega), trivial⟩, wfT11i _ _ _ _ _ _ _ _ _ _⟩
theorem b11_2c (c : Cells) (m : Nat) (px : Nat) (py : Nat) (a : Nat) (y : Nat → Nat) (len : Nat) (cap : Nat) (i : Int) : runTo E11 1000 (Env.S E11 11) (bodyOf Try.prog 11 10) (T11i len cap i ((2 : Nat) : Int)) (M11 c m px py a y) [true] (T11i len cap i (↑(2 + 1) : Int)) 3 =
    some ([onE 0 0 = true, 0 < 4294967296, 0 < 4294967296, 0 < 4294967296, 0 < 4294967296, 0 < 4294967296, 0 < 4294967296, 0 < 4294967296, 0 < 4294967296, 0 < 4294967296, 0 < 4294967296, 0 < 4294967296, 0 < 4294967296, 0 < 4294967296, 0 < 4294967296, 0 < 4294967296, 0 < 4294967296], .normal, T11i len cap i ((2 + 1 : Nat) : Int), M11 c m px py a y) := by kernel_rfl
theorem b11_2r (c : Cells) (m : Nat) (px : Nat) (py : Nat) (a : Nat) (y : Nat → Nat) (len : Nat) (cap : Nat) (i : Int) : runTo E11 1000 (Env.S E11 11) (bodyOf Try.prog 11 10) (T11i len cap i ((2 : Nat) : Int)) (M11 c m px py a y) [false] (T11i len cap i (↑(2 + 1) : Int)) 3 =
    some ([onE 0 0 = false, 0 < 4294967296, 0 < 4294967296, 0 < 4294967296, 0 < 4294967296, 0 < 4294967296, 0 < 4294967296, 0 < 4294967296, 0 < 4294967296, 0 < 4294967296, 0 < 4294967296, 0 < 4294967296, 0 < 4294967296, 0 < 4294967296, 0 < 4294967296, 0 < 4294967296, 0 < 4294967296, px < 4294967296 ^ 8, py < 4294967296 ^ 8, 0 < 4294967296, 0 < 4294967296, 0 < 4294967296, 0 < 4294967296, 0 < 4294967296, 0 < 4294967296, 0 < 4294967296, 0 < 4294967296, 0 < 4294967296, 0 < 4294967296, 0 < 4294967296, 0 < 4294967296, 0 < 4294967296, 0 < 4294967296, 0 < 4294967296, 0 < 4294967296, (onE px py && onE 0 0) = false, 0 < 4294967296, 0 < 4294967296, 0 < 4294967296, 0 < 4294967296, 0 < 4294967296, 0 < 4294967296, 0 < 4294967296, 0 < 4294967296, 0 < 4294967296, 0 < 4294967296, 0 < 4294967296, 0 < 4294967296, 0 < 4294967296, 0 < 4294967296, 0 < 4294967296, 0 < 4294967296, px < 4294967296 ^ 8, py < 4294967296 ^ 8, (onE 0 0 && onE px py) = false, 0 < 4294967296, 0 < 4294967296, 0 < 4294967296, 0 < 4294967296, 0 < 4294967296, 0 < 4294967296, 0 < 4294967296, 0 < 4294967296, 0 < 4294967296, 0 < 4294967296, 0 < 4294967296, 0 < 4294967296, 0 < 4294967296, 0 < 4294967296, 0 < 4294967296, 0 < 4294967296, 0 < 4294967296, 0 < 4294967296, 0 < 4294967296, 0 < 4294967296, 0 < 4294967296, 0 < 4294967296, 0 < 4294967296, 0 < 4294967296, onE 0 0 = false, 0 < 4294967296, 0 < 4294967296, 0 < 4294967296, 0 < 4294967296, 0 < 4294967296, 0 < 4294967296, 0 < 4294967296, 0 < 4294967296, 0 < 4294967296, 0 < 4294967296, 0 < 4294967296, 0 < 4294967296, 0 < 4294967296, 0 < 4294967296, 0 < 4294967296, 0 < 4294967296, onE 0 0 = false], .normal, T11i len cap i ((2 + 1 : Nat) : Int), M11 c m px py a y) := by kernel_rfl
set_option maxRecDepth 20000 in
theorem c11_2 (c : Cells) (m : Nat) {px py a : Nat} {y : Nat → Nat} (len cap : Nat) (i : Int) (hu : onE px py = true) (ha : a < 4294967296 ^ 8) (hy : ∀ i, y i < 4294967296) : Goes Try.prog (bodyOf Try.prog 11 10) .normal (T11i len cap i ((2 : Nat) : Int)) (M11 c m px py a y) (T11i len cap i ((2 + 1 : Nat) : Int)) (M11 c m px py a y) := by
  obtain ⟨h3, h4⟩ := dN0 hu
  have y0 := hy 0
  have y1 := hy 1
  have y2 := hy 2
  have y3 := hy 3
  have y4 := hy 4
  have y5 := hy 5
  have y6 := hy 6
  have y7 := hy 7
  cases hv : onE 0 0 with
  | true => exact Runs.goes envE11 ⟨_, _, b11_2c c m px py a y len cap i, ⟨(by first | with_reducible assumption | with_reducible exact L8 (by with_reducible assumption) | exact decide_eq_true (by omega) | exact decide_eq_false (by omega) | omega), lit0, lit0, lit0, lit0, lit0, lit0, lit0, lit0, lit0, lit0, lit0, lit0, lit0, lit0, lit0, lit0, trivial⟩, wfT11i _ _ _ _ _ _ _ _ _ _⟩
  | false =>
    have v1 : (onE px py && onE 0 0) = false := by rw [hv, Bool.and_false]
    have v2 : (onE 0 0 && onE px py) = false := by rw [hv, Bool.false_and]
    exact Runs.goes envE11 ⟨_, _, b11_2r c m px py a y len cap i, ⟨(by first | with_reducible assumption | with_reducible exact L8 (by with_reducible assumption) | exact decide_eq_true (by omega) | exact decide_eq_false (by omega) | omega), lit0, lit0, lit0, lit0, lit0, lit0, lit0, lit0, lit0, lit0, lit0, lit0, lit0, lit0, lit0, lit0, (by first | with_reducible assumption | with_reducible exact L8 (by with_reducible assumption) | exact decide_eq_true (by omega) | exact decide_eq_false (by omega) | omega), (by first | with_reducible assumption | with_reducible exact L8 (by with_reducible assumption) | exact decide_eq_true (by omega) | exact decide_eq_false (by omega) | omega), lit0, lit0, lit0, lit0, lit0, lit0, lit0, lit0, lit0, lit0, lit0, lit0, lit0, lit0, lit0, lit0, (by first | with_reducible assumption | with_reducible exact L8 (by with_reducible assumption) | exact decide_eq_true (by omega) | exact decide_eq_false (by omega) | omega), lit0, lit0, lit0, lit0, lit0, lit0, lit0, lit0, lit0, lit0, lit0, lit0, lit0, lit0, lit0, lit0, (by first | with_reducible assumption | with_reducible exact L8 (by with_reducible assumption) | exact decide_eq_true (by omega) | exact decide_eq_false (by omega) | omega), (by first | with_reducible assumption | with_reducible exact L8 (by with_reducible assumption) | exact decide_eq_true (by omega) | exact decide_eq_false (by omega) | omega), (by first | with_reducible assumption | with_reducible exact L8 (by with_reducible assumption) | exact decide_eq_true (by omega) | exact decide_eq_false (by omega) | omega), lit0, lit0, lit0, lit0, lit0, lit0, lit0, lit0, lit0, lit0, lit0, lit0, lit0, lit0, lit0, lit0, lit0, lit0, lit0, lit0, lit0, lit0, lit0, lit0, (by first | with_reducible assumption | with_reducible exact L8 (by with_reducible assumption) | exact decide_eq_true (by omega) | exact decide_eq_false (by omega) | omega), lit0, lit0, lit0, lit0, lit0, lit0, lit0, lit0, lit0, lit0, lit0, lit0, lit0, lit0, lit0, lit0, (by first | with_reducible assumption | with_reducible exact L8 (by with_reducible assumption) | exact decide_eq_true (by omega) | exact decide_eq_false (by omega) | omega), trivial⟩, wfT11i _ _ _ _ _ _ _ _ _ _⟩
theorem b11x (c : Cells) (m : Nat) (px : Nat) (py : Nat) (a : Nat) (y : Nat → Nat) (len : Nat) (cap : Nat) (i : Int) : runTo E11 1000 (Env.S E11 11) (bodyOf Try.prog 11 10) (T11i len cap i ((3 : Nat) : Int)) (M11 c m px py a y) [] (T11 len cap i) 3 =
    some ([], .exit 2, T11 len cap i, M11 c m px py a y) := by kernel_rfl
theorem loop11i (c : Cells) (m : Nat) {px py a : Nat} {y : Nat → Nat} (len cap : Nat) (i : Int) (hu : onE px py = true) (ha : a < 4294967296 ^ 8) (hy : ∀ i, y i < 4294967296) : Goes Try.prog (.loop (bodyOf Try.prog 11 10)) (.exit 2) (T11i len cap i ((0 : Nat) : Int)) (M11 c m px py a y) (T11 len cap i) (M11 c m px py a y) := by
  refine loop_goes (N := 3) (k := 3) (T := fun n => T11i len cap i (n : Int)) (M := fun _ => M11 c m px py a y) (by simp) (fun _ _ => rfl) (fun n hn => ?_) (Runs.goes envE11 ⟨_, _, b11x c m px py a y len cap i, trivial, wfT11o _ _ _ _ _ _ _ _ _⟩)
  match n, hn with
  | 0, _ => exact c11_0 c m len cap i hu ha hy
  | 1, _ => exact c11_1 c m len cap i hu ha hy
  | 2, _ => exact c11_2 c m len cap i hu ha hy
  | n + 3, h => exact absurd h (by omega)
noncomputable def E11i (c : Cells) (m px py a : Nat) (y : Nat → Nat) (len cap : Nat) (i : Int) : Env := withL E11 10 (bodyOf Try.prog 11 10) (sumC (T11i len cap i ((0 : Nat) : Int)) (M11 c m px py a y) (T11 len cap i) (M11 c m px py a y) (.exit 2))
theorem envE11i (c : Cells) (m : Nat) {px py a : Nat} {y : Nat → Nat} (len cap : Nat) (i : Int) (hu : onE px py = true) (ha : a < 4294967296 ^ 8) (hy : ∀ i, y i < 4294967296) : EnvOK (E11i c m px py a y len cap i) := envWithL envE11 (sumC_ok (by simp only [M11, List.length_cons]) (loop11i c m len cap i hu ha hy))
def y11 (p : Nat) (i : Nat) : Nat :=
  match i with
  | 0 => p % 4294967296
  | 1 => p / 4294967296 % 4294967296
  | 2 => p / 4294967296 / 4294967296 % 4294967296
  | 3 => p / 4294967296 / 4294967296 / 4294967296 % 4294967296
  | 4 => p / 4294967296 / 4294967296 / 4294967296 / 4294967296 % 4294967296
  | 5 => p / 4294967296 / 4294967296 / 4294967296 / 4294967296 / 4294967296 % 4294967296
  | 6 => p / 4294967296 / 4294967296 / 4294967296 / 4294967296 / 4294967296 / 4294967296 % 4294967296
  | 7 => p / 4294967296 / 4294967296 / 4294967296 / 4294967296 / 4294967296 / 4294967296 / 4294967296 % 4294967296 % bitsOf IntKind.u32 ||| 2147483648 % bitsOf IntKind.u32
  | _ => 0
theorem y11_lt (p i : Nat) : y11 p i < 4294967296 := by
  unfold y11
  split
  · exact Nat.mod_lt _ (by decide)
  · exact Nat.mod_lt _ (by decide)
  · exact Nat.mod_lt _ (by decide)
  · exact Nat.mod_lt _ (by decide)
  · exact Nat.mod_lt _ (by decide)
  · exact Nat.mod_lt _ (by decide)
  · exact Nat.mod_lt _ (by decide)
  · exact or_lt32 (Nat.mod_lt _ (by decide)) (Nat.mod_lt _ (by decide))
  · decide
theorem a11_1_0n (c : Cells) (len : Nat) (cap : Nat) : runTo E11 1000 (Env.S E11 11) (bodyOf Try.prog 11 2) (T11 len cap ((0 : Nat) : Int)) (ME c 1) [true, false] (T11 len cap (↑(0 + 1) : Int)) 1 =
    some ([decide (((0 : Nat) : Int) < (↑len : Int)) = true, (0 : Int) ≤ ((0 : Nat) : Int) ∧ ((0 : Nat) : Int) < (↑len : Int), onE (nA c 0) (nA c 8) = false, nA c 0 < 4294967296 ^ 8, nA c 8 < 4294967296 ^ 8], .normal, T11 len cap ((0 + 1 : Nat) : Int), ME c 1) := by kernel_rfl
theorem a11_1_0y (c : Cells) (len cap : Nat) : runTo (E11i c 1 (nA c 0) (nA c 8) (addN (nA c 0) 1) (y11 (nA c 8)) len cap ((0 : Nat) : Int)) 1000 (E11.S 11) (bodyOf Try.prog 11 2) (T11 len cap ((0 : Nat) : Int)) (ME c 1) [true, true] (T11 len cap ((0 + 1 : Nat) : Int)) 1 =
    some ([decide (((0 : Nat) : Int) < (len : Int)) = true, 0 ≤ ((0 : Nat) : Int) ∧ ((0 : Nat) : Int) < (len : Int), onE (nA c 0) (nA c 8) = true, (nA c 0) < 4294967296 ^ 8, (nA c 8) < 4294967296 ^ 8, (nA c 0) < 4294967296 ^ 8, 1 < 4294967296, 0 < 4294967296, 0 < 4294967296, 0 < 4294967296, 0 < 4294967296, 0 < 4294967296, 0 < 4294967296, 0 < 4294967296, bodyOf Try.prog 11 10 = bodyOf Try.prog 11 10,
      (T11i len cap ((0 : Nat) : Int) ((0 : Nat) : Int), M11 c 1 (nA c 0) (nA c 8) (addN (nA c 0) 1) (y11 (nA c 8))) = (T11i len cap ((0 : Nat) : Int) ((0 : Nat) : Int), M11 c 1 (nA c 0) (nA c 8) (addN (nA c 0) 1) (y11 (nA c 8))), wfS (T11i len cap ((0 : Nat) : Int) ((0 : Nat) : Int)) (M11 c 1 (nA c 0) (nA c 8) (addN (nA c 0) 1) (y11 (nA c 8))) = true], .normal, T11 len cap ((0 + 1 : Nat) : Int), ME c 1) := by kernel_rfl
theorem l11s_1_0 (c : Cells) {len cap : Nat} (hl : 0 < len) (ho : All (rowOb c shE 1 0)) : Goes Try.prog (bodyOf Try.prog 11 2) .normal (T11 len cap ((0 : Nat) : Int)) (ME c 1) (T11 len cap ((0 + 1 : Nat) : Int)) (ME c 1) := by
  obtain ⟨g00, g01, g02, g03, g04, g05, _⟩ := ho
  have w0 : nA c 0 < 4294967296 ^ 8 := g00
  have w1 : nA c 8 < 4294967296 ^ 8 := g01
  have w2 : nA c 16 < 4294967296 ^ 8 := g02
  have w3 : nA c 24 < 4294967296 ^ 8 := g03
  have w4 : nA c 32 < 4294967296 ^ 8 := g04
  have w5 : nA c 40 < 4294967296 ^ 8 := g05
  have hll : decide (((0 : Nat) : Int) < (len : Int)) = true := decide_eq_true (by omega)
  have hii : 0 ≤ ((0 : Nat) : Int) ∧ ((0 : Nat) : Int) < (len : Int) := by omega
  cases hu : onE (nA c 0) (nA c 8) with
  | false => exact Runs.goes envE11 ⟨_, _, a11_1_0n c len cap, ⟨(by first | with_reducible assumption | with_reducible exact L8 (by with_reducible assumption) | exact decide_eq_true (by omega) | exact decide_eq_false (by omega) | omega), (by first | with_reducible assumption | with_reducible exact L8 (by with_reducible assumption) | exact decide_eq_true (by omega) | exact decide_eq_false (by omega) | omega), (by first | with_reducible assumption | with_reducible exact L8 (by with_reducible assumption) | exact decide_eq_true (by omega) | exact decide_eq_false (by omega) | omega), (by first | with_reducible assumption | with_reducible exact L8 (by with_reducible assumption) | exact decide_eq_true (by omega) | exact decide_eq_false (by omega) | omega), (by first | with_reducible assumption | with_reducible exact L8 (by with_reducible assumption) | exact decide_eq_true (by omega) | exact decide_eq_false (by omega) | omega), trivial⟩, wfT11 _ _ _ _ _⟩
  | true => exact Runs.goes (envE11i c 1 len cap ((0 : Nat) : Int) hu (addN_lt _ _) (y11_lt _)) ⟨_, _, a11_1_0y c len cap, ⟨hll, hii, hu, w0, w1, w0, lit1, lit0, lit0, lit0, lit0, lit0, lit0, lit0, rfl, rfl, wfT11i _ _ _ _ _ _ _ _ _ _, trivial⟩, wfT11 _ _ _ _ _⟩
theorem a11_2_0n (c : Cells) (len : Nat) (cap : Nat) : runTo E11 1000 (Env.S E11 11) (bodyOf Try.prog 11 2) (T11 len cap ((0 : Nat) : Int)) (ME c 2) [true, false] (T11 len cap (↑(0 + 1) : Int)) 1 =
    some ([decide (((0 : Nat) : Int) < (↑len : Int)) = true, (0 : Int) ≤ ((0 : Nat) : Int) ∧ ((0 : Nat) : Int) < (↑len : Int), onE (nA c 0) (nA c 8) = false, nA c 0 < 4294967296 ^ 8, nA c 8 < 4294967296 ^ 8], .normal, T11 len cap ((0 + 1 : Nat) : Int), ME c 2) := by kernel_rfl
theorem a11_2_0y (c : Cells) (len cap : Nat) : runTo (E11i c 2 (nA c 0) (nA c 8) (addN (nA c 0) 1) (y11 (nA c 8)) len cap ((0 : Nat) : Int)) 1000 (E11.S 11) (bodyOf Try.prog 11 2) (T11 len cap ((0 : Nat) : Int)) (ME c 2) [true, true] (T11 len cap ((0 + 1 : Nat) : Int)) 1 =
    some ([decide (((0 : Nat) : Int) < (len : Int)) = true, 0 ≤ ((0 : Nat) : Int) ∧ ((0 : Nat) : Int) < (len : Int), onE (nA c 0) (nA c 8) = true, (nA c 0) < 4294967296 ^ 8, (nA c 8) < 4294967296 ^ 8, (nA c 0) < 4294967296 ^ 8, 1 < 4294967296, 0 < 4294967296, 0 < 4294967296, 0 < 4294967296, 0 < 4294967296, 0 < 4294967296, 0 < 4294967296, 0 < 4294967296, bodyOf Try.prog 11 10 = bodyOf Try.prog 11 10,
      (T11i len cap ((0 : Nat) : Int) ((0 : Nat) : Int), M11 c 2 (nA c 0) (nA c 8) (addN (nA c 0) 1) (y11 (nA c 8))) = (T11i len cap ((0 : Nat) : Int) ((0 : Nat) : Int), M11 c 2 (nA c 0) (nA c 8) (addN (nA c 0) 1) (y11 (nA c 8))), wfS (T11i len cap ((0 : Nat) : Int) ((0 : Nat) : Int)) (M11 c 2 (nA c 0) (nA c 8) (addN (nA c 0) 1) (y11 (nA c 8))) = true], .normal, T11 len cap ((0 + 1 : Nat) : Int), ME c 2) := by kernel_rfl
theorem l11s_2_0 (c : Cells) {len cap : Nat} (hl : 0 < len) (ho : All (rowOb c shE 2 0)) : Goes Try.prog (bodyOf Try.prog 11 2) .normal (T11 len cap ((0 : Nat) : Int)) (ME c 2) (T11 len cap ((0 + 1 : Nat) : Int)) (ME c 2) := by
  obtain ⟨g00, g01, g02, g03, g04, g05, g10, g11, g12, g13, g14, g15, _⟩ := ho
  have w0 : nA c 0 < 4294967296 ^ 8 := g00
  have w1 : nA c 8 < 4294967296 ^ 8 := g01
  have w2 : nA c 16 < 4294967296 ^ 8 := g02
  have w3 : nA c 24 < 4294967296 ^ 8 := g03
  have w4 : nA c 32 < 4294967296 ^ 8 := g04
  have w5 : nA c 40 < 4294967296 ^ 8 := g05
  have hll : decide (((0 : Nat) : Int) < (len : Int)) = true := decide_eq_true (by omega)
  have hii : 0 ≤ ((0 : Nat) : Int) ∧ ((0 : Nat) : Int) < (len : Int) := by omega
  cases hu : onE (nA c 0) (nA c 8) with
  | false => exact Runs.goes envE11 ⟨_, _, a11_2_0n c len cap, ⟨(by first | with_reducible assumption | with_reducible exact L8 (by with_reducible assumption) | exact decide_eq_true (by omega) | exact decide_eq_false (by omega) | omega), (by first | with_reducible assumption | with_reducible exact L8 (by with_reducible assumption) | exact decide_eq_true (by omega) | exact decide_eq_false (by omega) | omega), (by first | with_reducible assumption | with_reducible exact L8 (by with_reducible assumption) | exact decide_eq_true (by omega) | exact decide_eq_false (by omega) | omega), (by first | with_reducible assumption | with_reducible exact L8 (by with_reducible assumption) | exact decide_eq_true (by omega) | exact decide_eq_false (by omega) | omega), (by first | with_reducible assumption | with_reducible exact L8 (by with_reducible assumption) | exact decide_eq_true (by omega) | exact decide_eq_false (by omega) | omega), trivial⟩, wfT11 _ _ _ _ _⟩
  | true => exact Runs.goes (envE11i c 2 len cap ((0 : Nat) : Int) hu (addN_lt _ _) (y11_lt _)) ⟨_, _, a11_2_0y c len cap, ⟨hll, hii, hu, w0, w1, w0, lit1, lit0, lit0, lit0, lit0, lit0, lit0, lit0, rfl, rfl, wfT11i _ _ _ _ _ _ _ _ _ _, trivial⟩, wfT11 _ _ _ _ _⟩
theorem a11_2_1n (c : Cells) (len : Nat) (cap : Nat) : runTo E11 1000 (Env.S E11 11) (bodyOf Try.prog 11 2) (T11 len cap ((1 : Nat) : Int)) (ME c 2) [true, false] (T11 len cap (↑(1 + 1) : Int)) 1 =
    some ([decide (((1 : Nat) : Int) < (↑len : Int)) = true, (0 : Int) ≤ ((1 : Nat) : Int) ∧ ((1 : Nat) : Int) < (↑len : Int), onE (nA c 48) (nA c 56) = false, nA c 48 < 4294967296 ^ 8, nA c 56 < 4294967296 ^ 8], .normal, T11 len cap ((1 + 1 : Nat) : Int), ME c 2) := by kernel_rfl
theorem a11_2_1y (c : Cells) (len cap : Nat) : runTo (E11i c 2 (nA c 48) (nA c 56) (addN (nA c 48) 1) (y11 (nA c 56)) len cap ((1 : Nat) : Int)) 1000 (E11.S 11) (bodyOf Try.prog 11 2) (T11 len cap ((1 : Nat) : Int)) (ME c 2) [true, true] (T11 len cap ((1 + 1 : Nat) : Int)) 1 =
    some ([decide (((1 : Nat) : Int) < (len : Int)) = true, 0 ≤ ((1 : Nat) : Int) ∧ ((1 : Nat) : Int) < (len : Int), onE (nA c 48) (nA c 56) = true, (nA c 48) < 4294967296 ^ 8, (nA c 56) < 4294967296 ^ 8, (nA c 48) < 4294967296 ^ 8, 1 < 4294967296, 0 < 4294967296, 0 < 4294967296, 0 < 4294967296, 0 < 4294967296, 0 < 4294967296, 0 < 4294967296, 0 < 4294967296, bodyOf Try.prog 11 10 = bodyOf Try.prog 11 10,
      (T11i len cap ((1 : Nat) : Int) ((0 : Nat) : Int), M11 c 2 (nA c 48) (nA c 56) (addN (nA c 48) 1) (y11 (nA c 56))) = (T11i len cap ((1 : Nat) : Int) ((0 : Nat) : Int), M11 c 2 (nA c 48) (nA c 56) (addN (nA c 48) 1) (y11 (nA c 56))), wfS (T11i len cap ((1 : Nat) : Int) ((0 : Nat) : Int)) (M11 c 2 (nA c 48) (nA c 56) (addN (nA c 48) 1) (y11 (nA c 56))) = true], .normal, T11 len cap ((1 + 1 : Nat) : Int), ME c 2) := by kernel_rfl
theorem l11s_2_1 (c : Cells) {len cap : Nat} (hl : 1 < len) (ho : All (rowOb c shE 2 0)) : Goes Try.prog (bodyOf Try.prog 11 2) .normal (T11 len cap ((1 : Nat) : Int)) (ME c 2) (T11 len cap ((1 + 1 : Nat) : Int)) (ME c 2) := by
  obtain ⟨g00, g01, g02, g03, g04, g05, g10, g11, g12, g13, g14, g15, _⟩ := ho
  have w0 : nA c 48 < 4294967296 ^ 8 := g10
  have w1 : nA c 56 < 4294967296 ^ 8 := g11
  have w2 : nA c 64 < 4294967296 ^ 8 := g12
  have w3 : nA c 72 < 4294967296 ^ 8 := g13
  have w4 : nA c 80 < 4294967296 ^ 8 := g14
  have w5 : nA c 88 < 4294967296 ^ 8 := g15
  have hll : decide (((1 : Nat) : Int) < (len : Int)) = true := decide_eq_true (by omega)
  have hii : 0 ≤ ((1 : Nat) : Int) ∧ ((1 : Nat) : Int) < (len : Int) := by omega
  cases hu : onE (nA c 48) (nA c 56) with
  | false => exact Runs.goes envE11 ⟨_, _, a11_2_1n c len cap, ⟨(by first | with_reducible assumption | with_reducible exact L8 (by with_reducible assumption) | exact decide_eq_true (by omega) | exact decide_eq_false (by omega) | omega), (by first | with_reducible assumption | with_reducible exact L8 (by with_reducible assumption) | exact decide_eq_true (by omega) | exact decide_eq_false (by omega) | omega), (by first | with_reducible assumption | with_reducible exact L8 (by with_reducible assumption) | exact decide_eq_true (by omega) | exact decide_eq_false (by omega) | omega), (by first | with_reducible assumption | with_reducible exact L8 (by with_reducible assumption) | exact decide_eq_true (by omega) | exact decide_eq_false (by omega) | omega), (by first | with_reducible assumption | with_reducible exact L8 (by with_reducible assumption) | exact decide_eq_true (by omega) | exact decide_eq_false (by omega) | omega), trivial⟩, wfT11 _ _ _ _ _⟩
  | true => exact Runs.goes (envE11i c 2 len cap ((1 : Nat) : Int) hu (addN_lt _ _) (y11_lt _)) ⟨_, _, a11_2_1y c len cap, ⟨hll, hii, hu, w0, w1, w0, lit1, lit0, lit0, lit0, lit0, lit0, lit0, lit0, rfl, rfl, wfT11i _ _ _ _ _ _ _ _ _ _, trivial⟩, wfT11 _ _ _ _ _⟩
theorem a11_3_0n (c : Cells) (len : Nat) (cap : Nat) : runTo E11 1000 (Env.S E11 11) (bodyOf Try.prog 11 2) (T11 len cap ((0 : Nat) : Int)) (ME c 3) [true, false] (T11 len cap (↑(0 + 1) : Int)) 1 =
    some ([decide (((0 : Nat) : Int) < (↑len : Int)) = true, (0 : Int) ≤ ((0 : Nat) : Int) ∧ ((0 : Nat) : Int) < (↑len : Int), onE (nA c 0) (nA c 8) = false, nA c 0 < 4294967296 ^ 8, nA c 8 < 4294967296 ^ 8], .normal, T11 len cap ((0 + 1 : Nat) : Int), ME c 3) := by kernel_rfl
theorem a11_3_0y (c : Cells) (len cap : Nat) : runTo (E11i c 3 (nA c 0) (nA c 8) (addN (nA c 0) 1) (y11 (nA c 8)) len cap ((0 : Nat) : Int)) 1000 (E11.S 11) (bodyOf Try.prog 11 2) (T11 len cap ((0 : Nat) : Int)) (ME c 3) [true, true] (T11 len cap ((0 + 1 : Nat) : Int)) 1 =
    some ([decide (((0 : Nat) : Int) < (len : Int)) = true, 0 ≤ ((0 : Nat) : Int) ∧ ((0 : Nat) : Int) < (len : Int), onE (nA c 0) (nA c 8) = true, (nA c 0) < 4294967296 ^ 8, (nA c 8) < 4294967296 ^ 8, (nA c 0) < 4294967296 ^ 8, 1 < 4294967296, 0 < 4294967296, 0 < 4294967296, 0 < 4294967296, 0 < 4294967296, 0 < 4294967296, 0 < 4294967296, 0 < 4294967296, bodyOf Try.prog 11 10 = bodyOf Try.prog 11 10,
      (T11i len cap ((0 : Nat) : Int) ((0 : Nat) : Int), M11 c 3 (nA c 0) (nA c 8) (addN (nA c 0) 1) (y11 (nA c 8))) = (T11i len cap ((0 : Nat) : Int) ((0 : Nat) : Int), M11 c 3 (nA c 0) (nA c 8) (addN (nA c 0) 1) (y11 (nA c 8))), wfS (T11i len cap ((0 : Nat) : Int) ((0 : Nat) : Int)) (M11 c 3 (nA c 0) (nA c 8) (addN (nA c 0) 1) (y11 (nA c 8))) = true], .normal, T11 len cap ((0 + 1 : Nat) : Int), ME c 3) := by kernel_rfl
theorem l11s_3_0 (c : Cells) {len cap : Nat} (hl : 0 < len) (ho : All (rowOb c shE 3 0)) : Goes Try.prog (bodyOf Try.prog 11 2) .normal (T11 len cap ((0 : Nat) : Int)) (ME c 3) (T11 len cap ((0 + 1 : Nat) : Int)) (ME c 3) := by
  obtain ⟨g00, g01, g02, g03, g04, g05, g10, g11, g12, g13, g14, g15, g20, g21, g22, g23, g24, g25, _⟩ := ho
  have w0 : nA c 0 < 4294967296 ^ 8 := g00
  have w1 : nA c 8 < 4294967296 ^ 8 := g01
  have w2 : nA c 16 < 4294967296 ^ 8 := g02
  have w3 : nA c 24 < 4294967296 ^ 8 := g03
  have w4 : nA c 32 < 4294967296 ^ 8 := g04
  have w5 : nA c 40 < 4294967296 ^ 8 := g05
  have hll : decide (((0 : Nat) : Int) < (len : Int)) = true := decide_eq_true (by omega)
  have hii : 0 ≤ ((0 : Nat) : Int) ∧ ((0 : Nat) : Int) < (len : Int) := by omega
  cases hu : onE (nA c 0) (nA c 8) with
  | false => exact Runs.goes envE11 ⟨_, _, a11_3_0n c len cap, ⟨(by first | with_reducible assumption | with_reducible exact L8 (by with_reducible assumption) | exact decide_eq_true (by omega) | exact decide_eq_false (by omega) | omega), (by first | with_reducible assumption | with_reducible exact L8 (by with_reducible assumption) | exact decide_eq_true (by omega) | exact decide_eq_false (by omega) | omega), (by first | with_reducible assumption | with_reducible exact L8 (by with_reducible assumption) | exact decide_eq_true (by omega) | exact decide_eq_false (by omega) | omega), (by first | with_reducible assumption | with_reducible exact L8 (by with_reducible assumption) | exact decide_eq_true (by omega) | exact decide_eq_false (by omega) | omega), (by first | with_reducible assumption | with_reducible exact L8 (by with_reducible assumption) | exact decide_eq_true (by omega) | exact decide_eq_false (by omega) | omega), trivial⟩, wfT11 _ _ _ _ _⟩
  | true => exact Runs.goes (envE11i c 3 len cap ((0 : Nat) : Int) hu (addN_lt _ _) (y11_lt _)) ⟨_, _, a11_3_0y c len cap, ⟨hll, hii, hu, w0, w1, w0, lit1, lit0, lit0, lit0, lit0, lit0, lit0, lit0, rfl, rfl, wfT11i _ _ _ _ _ _ _ _ _ _, trivial⟩, wfT11 _ _ _ _ _⟩
theorem a11_3_1n (c : Cells) (len : Nat) (cap : Nat) : runTo E11 1000 (Env.S E11 11) (bodyOf Try.prog 11 2) (T11 len cap ((1 : Nat) : Int)) (ME c 3) [true, false] (T11 len cap (↑(1 + 1) : Int)) 1 =
    some ([decide (((1 : Nat) : Int) < (↑len : Int)) = true, (0 : Int) ≤ ((1 : Nat) : Int) ∧ ((1 : Nat) : Int) < (↑len : Int), onE (nA c 48) (nA c 56) = false, nA c 48 < 4294967296 ^ 8, nA c 56 < 4294967296 ^ 8], .normal, T11 len cap ((1 + 1 : Nat) : Int), ME c 3) := by kernel_rfl
theorem a11_3_1y (c : Cells) (len cap : Nat) : runTo (E11i c 3 (nA c 48) (nA c 56) (addN (nA c 48) 1) (y11 (nA c 56)) len cap ((1 : Nat) : Int)) 1000 (E11.S 11) (bodyOf Try.prog 11 2) (T11 len cap ((1 : Nat) : Int)) (ME c 3) [true, true] (T11 len cap ((1 + 1 : Nat) : Int)) 1 =
    some ([decide (((1 : Nat) : Int) < (len : Int)) = true, 0 ≤ ((1 : Nat) : Int) ∧ ((1 : Nat) : Int) < (len : Int), onE (nA c 48) (nA c 56) = true, (nA c 48) < 4294967296 ^ 8, (nA c 56) < 4294967296 ^ 8, (nA c 48) < 4294967296 ^ 8, 1 < 4294967296, 0 < 4294967296, 0 < 4294967296, 0 < 4294967296, 0 < 4294967296, 0 < 4294967296, 0 < 4294967296, 0 < 4294967296, bodyOf Try.prog 11 10 = bodyOf Try.prog 11 10,
      (T11i len cap ((1 : Nat) : Int) ((0 : Nat) : Int), M11 c 3 (nA c 48) (nA c 56) (addN (nA c 48) 1) (y11 (nA c 56))) = (T11i len cap ((1 : Nat) : Int) ((0 : Nat) : Int), M11 c 3 (nA c 48) (nA c 56) (addN (nA c 48) 1) (y11 (nA c 56))), wfS (T11i len cap ((1 : Nat) : Int) ((0 : Nat) : Int)) (M11 c 3 (nA c 48) (nA c 56) (addN (nA c 48) 1) (y11 (nA c 56))) = true], .normal, T11 len cap ((1 + 1 : Nat) : Int), ME c 3) := by kernel_rfl
theorem l11s_3_1 (c : Cells) {len cap : Nat} (hl : 1 < len) (ho : All (rowOb c shE 3 0)) : Goes Try.prog (bodyOf Try.prog 11 2) .normal (T11 len cap ((1 : Nat) : Int)) (ME c 3) (T11 len cap ((1 + 1 : Nat) : Int)) (ME c 3) := by
  obtain ⟨g00, g01, g02, g03, g04, g05, g10, g11, g12, g13, g14, g15, g20, g21, g22, g23, g24, g25, _⟩ := ho
  have w0 : nA c 48 < 4294967296 ^ 8 := g10
  have w1 : nA c 56 < 4294967296 ^ 8 := g11
  have w2 : nA c 64 < 4294967296 ^ 8 := g12
  have w3 : nA c 72 < 4294967296 ^ 8 := g13
  have w4 : nA c 80 < 4294967296 ^ 8 := g14
  have w5 : nA c 88 < 4294967296 ^ 8 := g15
  have hll : decide (((1 : Nat) : Int) < (len : Int)) = true := decide_eq_true (by omega)
  have hii : 0 ≤ ((1 : Nat) : Int) ∧ ((1 : Nat) : Int) < (len : Int) := by omega
  cases hu : onE (nA c 48) (nA c 56) with
  | false => exact Runs.goes envE11 ⟨_, _, a11_3_1n c len cap, ⟨(by first | with_reducible assumption | with_reducible exact L8 (by with_reducible assumption) | exact decide_eq_true (by omega) | exact decide_eq_false (by omega) | omega), (by first | with_reducible assumption | with_reducible exact L8 (by with_reducible assumption) | exact decide_eq_true (by omega) | exact decide_eq_false (by omega) | omega), (by first | with_reducible assumption | with_reducible exact L8 (by with_reducible assumption) | exact decide_eq_true (by omega) | exact decide_eq_false (by omega) | omega), (by first | with_reducible assumption | with_reducible exact L8 (by with_reducible assumption) | exact decide_eq_true (by omega) | exact decide_eq_false (by omega) | omega), (by first | with_reducible assumption | with_reducible exact L8 (by with_reducible assumption) | exact decide_eq_true (by omega) | exact decide_eq_false (by omega) | omega), trivial⟩, wfT11 _ _ _ _ _⟩
  | true => exact Runs.goes (envE11i c 3 len cap ((1 : Nat) : Int) hu (addN_lt _ _) (y11_lt _)) ⟨_, _, a11_3_1y c len cap, ⟨hll, hii, hu, w0, w1, w0, lit1, lit0, lit0, lit0, lit0, lit0, lit0, lit0, rfl, rfl, wfT11i _ _ _ _ _ _ _ _ _ _, trivial⟩, wfT11 _ _ _ _ _⟩
theorem a11_3_2n (c : Cells) (len : Nat) (cap : Nat) : runTo E11 1000 (Env.S E11 11) (bodyOf Try.prog 11 2) (T11 len cap ((2 : Nat) : Int)) (ME c 3) [true, false] (T11 len cap (↑(2 + 1) : Int)) 1 =
    some ([decide (((2 : Nat) : Int) < (↑len : Int)) = true, (0 : Int) ≤ ((2 : Nat) : Int) ∧ ((2 : Nat) : Int) < (↑len : Int), onE (nA c 96) (nA c 104) = false, nA c 96 < 4294967296 ^ 8, nA c 104 < 4294967296 ^ 8], .normal, T11 len cap ((2 + 1 : Nat) : Int), ME c 3) := by kernel_rfl
theorem a11_3_2y (c : Cells) (len cap : Nat) : runTo (E11i c 3 (nA c 96) (nA c 104) (addN (nA c 96) 1) (y11 (nA c 104)) len cap ((2 : Nat) : Int)) 1000 (E11.S 11) (bodyOf Try.prog 11 2) (T11 len cap ((2 : Nat) : Int)) (ME c 3) [true, true] (T11 len cap ((2 + 1 : Nat) : Int)) 1 =
    some ([decide (((2 : Nat) : Int) < (len : Int)) = true, 0 ≤ ((2 : Nat) : Int) ∧ ((2 : Nat) : Int) < (len : Int), onE (nA c 96) (nA c 104) = true, (nA c 96) < 4294967296 ^ 8, (nA c 104) < 4294967296 ^ 8, (nA c 96) < 4294967296 ^ 8, 1 < 4294967296, 0 < 4294967296, 0 < 4294967296, 0 < 4294967296, 0 < 4294967296, 0 < 4294967296, 0 < 4294967296, 0 < 4294967296, bodyOf Try.prog 11 10 = bodyOf Try.prog 11 10,
      (T11i len cap ((2 : Nat) : Int) ((0 : Nat) : Int), M11 c 3 (nA c 96) (nA c 104) (addN (nA c 96) 1) (y11 (nA c 104))) = (T11i len cap ((2 : Nat) : Int) ((0 : Nat) : Int), M11 c 3 (nA c 96) (nA c 104) (addN (nA c 96) 1) (y11 (nA c 104))), wfS (T11i len cap ((2 : Nat) : Int) ((0 : Nat) : Int)) (M11 c 3 (nA c 96) (nA c 104) (addN (nA c 96) 1) (y11 (nA c 104))) = true], .normal, T11 len cap ((2 + 1 : Nat) : Int), ME c 3) := by kernel_rfl
theorem l11s_3_2 (c : Cells) {len cap : Nat} (hl : 2 < len) (ho : All (rowOb c shE 3 0)) : Goes Try.prog (bodyOf Try.prog 11 2) .normal (T11 len cap ((2 : Nat) : Int)) (ME c 3) (T11 len cap ((2 + 1 : Nat) : Int)) (ME c 3) := by
  obtain ⟨g00, g01, g02, g03, g04, g05, g10, g11, g12, g13, g14, g15, g20, g21, g22, g23, g24, g25, _⟩ := ho
  have w0 : nA c 96 < 4294967296 ^ 8 := g20
  have w1 : nA c 104 < 4294967296 ^ 8 := g21
  have w2 : nA c 112 < 4294967296 ^ 8 := g22
  have w3 : nA c 120 < 4294967296 ^ 8 := g23
  have w4 : nA c 128 < 4294967296 ^ 8 := g24
  have w5 : nA c 136 < 4294967296 ^ 8 := g25
  have hll : decide (((2 : Nat) : Int) < (len : Int)) = true := decide_eq_true (by omega)
  have hii : 0 ≤ ((2 : Nat) : Int) ∧ ((2 : Nat) : Int) < (len : Int) := by omega
  cases hu : onE (nA c 96) (nA c 104) with
  | false => exact Runs.goes envE11 ⟨_, _, a11_3_2n c len cap, ⟨(by first | with_reducible assumption | with_reducible exact L8 (by with_reducible assumption) | exact decide_eq_true (by omega) | exact decide_eq_false (by omega) | omega), (by first | with_reducible assumption | with_reducible exact L8 (by with_reducible assumption) | exact decide_eq_true (by omega) | exact decide_eq_false (by omega) | omega), (by first | with_reducible assumption | with_reducible exact L8 (by with_reducible assumption) | exact decide_eq_true (by omega) | exact decide_eq_false (by omega) | omega), (by first | with_reducible assumption | with_reducible exact L8 (by with_reducible assumption) | exact decide_eq_true (by omega) | exact decide_eq_false (by omega) | omega), (by first | with_reducible assumption | with_reducible exact L8 (by with_reducible assumption) | exact decide_eq_true (by omega) | exact decide_eq_false (by omega) | omega), trivial⟩, wfT11 _ _ _ _ _⟩
  | true => exact Runs.goes (envE11i c 3 len cap ((2 : Nat) : Int) hu (addN_lt _ _) (y11_lt _)) ⟨_, _, a11_3_2y c len cap, ⟨hll, hii, hu, w0, w1, w0, lit1, lit0, lit0, lit0, lit0, lit0, lit0, lit0, rfl, rfl, wfT11i _ _ _ _ _ _ _ _ _ _, trivial⟩, wfT11 _ _ _ _ _⟩
end Go.Ev

namespace Go.Ev
open Go Go.Proofs Go.RowKit
theorem l11p (c : Cells)  (len cap : Nat) (m : Nat) : runTo E11 1000 (E11.S 11) (bodyOf Try.prog 11 2) (T11 len cap (m : Int)) (ME c m) [false] (T11 len cap (m : Int)) 1 =
    some ([decide ((m : Int) < (len : Int)) = false], .exit 0, T11 len cap (m : Int), ME c m) := by kernel_rfl
theorem l11q (c : Cells)  (len cap : Nat) : runTo E11 1000 (E11.S 11) (bodyOf Try.prog 11 2) (T11 len cap ((3 : Nat) : Int)) (ME c 3) [true] (T11 len cap ((3 : Nat) : Int)) 1 =
    some ([decide (((3 : Nat) : Int) < (len : Int)) = true], .exit 0, T11 len cap ((3 : Nat) : Int), ME c 3) := by kernel_rfl
theorem l11loop (c : Cells)  (len cap : Nat) {m : Nat}  (hm : m = min len 3) (ho : All (rowOb c shE m 0)) : Goes Try.prog (.loop (bodyOf Try.prog 11 2)) (.exit 0) (T11 len cap ((0 : Nat) : Int)) (ME c m) (T11 len cap (m : Int)) (ME c m) := by
  refine loop_goes (N := m) (k := 1) (T := fun i => T11 len cap (i : Int)) (M := fun _ => ME c m) (by simp) (fun _ _ => rfl) (fun i hi => ?_) ?_
  · have h3 : (m = 1 ∧ i = 0) ∨ (m = 2 ∧ i = 0) ∨ (m = 2 ∧ i = 1) ∨ (m = 3 ∧ i = 0) ∨ (m = 3 ∧ i = 1) ∨ (m = 3 ∧ i = 2) := by omega
    have hl : i < len := by omega
    clear hm
    rcases h3 with ⟨rfl, rfl⟩ | ⟨rfl, rfl⟩ | ⟨rfl, rfl⟩ | ⟨rfl, rfl⟩ | ⟨rfl, rfl⟩ | ⟨rfl, rfl⟩
    · exact l11s_1_0 c hl ho
    · exact l11s_2_0 c hl ho
    · exact l11s_2_1 c hl ho
    · exact l11s_3_0 c hl ho
    · exact l11s_3_1 c hl ho
    · exact l11s_3_2 c hl ho
  · by_cases h : m < len
    · obtain rfl : m = 3 := by omega
      exact Runs.goes envE11 ⟨[true], _, l11q c len cap, ⟨decide_eq_true (by omega), trivial⟩, wfT11 _ _ _ _ _⟩
    · exact Runs.goes envE11 ⟨[false], _, l11p c len cap m, ⟨decide_eq_false (by omega), trivial⟩, wfT11 _ _ _ _ _⟩
noncomputable def l11X (c : Cells)  (len cap : Nat) (m : Nat) : Env := withL E11 2 (bodyOf Try.prog 11 2) (sumC (T11 len cap ((0 : Nat) : Int)) (ME c m) (T11 len cap (m : Int)) (ME c m) (.exit 0))
theorem l11Xok (c : Cells)  (len cap : Nat) {m : Nat}  (hm : m = min len 3) (ho : All (rowOb c shE m 0)) : EnvOK (l11X c len cap m) := envWithL envE11 (sumC_ok rfl (l11loop c len cap  hm ho))
theorem l11run11 (c : Cells) (len cap m : Nat) : dropM (callBy (l11X c len cap m) (evalC (l11X c len cap m) 1000) 11 [.one (.sl 0 0 len cap)] [rowB c shE m 53] []) =
    some ([(bodyOf Try.prog 11 2) = (bodyOf Try.prog 11 2), (T11 len cap ((0 : Nat) : Int), ME c m) = (T11 len cap ((0 : Nat) : Int), ME c m), wfS (T11 len cap ((0 : Nat) : Int)) (ME c m) = true], bV true) := by kernel_rfl
theorem l11nil11 : dropM (callBy E11 (evalC E11 1000) 11 [.one (.v (.slice none 0 0))] [] [false]) = some ([decide (((0 : Nat) : Int) < ((0 : Nat) : Int)) = false], bV true) := by kernel_rfl
theorem l11nilo11 : All [decide (((0 : Nat) : Int) < ((0 : Nat) : Int)) = false] := ⟨by decide, trivial⟩
theorem l11nila11 (w : World) : Calls E11.P 11 #[.slice none 0 0] w (Trues w) := law_nilD envE11 l11nil11 l11nilo11 w
theorem l11nilc11 (w : World) : Calls Try.prog 11 #[.slice none 0 0] w (Trues w) := l11nila11 w
set_option maxRecDepth 100000 in
theorem law11 {H : Type} {enc : TypeId × Value → H} {r : Reach} {W : World} {base : Nat} {v : Value} {d : DataW H} {ps : List MemPlace} (hval : Value.okWide Try.prog W r base 49 v) (h : DataW.Trod enc Try.prog W 0 (fun _ => true) true 49 v d ps) :
    Calls Try.prog 11 #[v] W (Trues W) := by
  refine rows_calls shE (K := 3) (Q := Trues) u49 k53 s53 l11nilc11 ?_ hval h
  intro c m len cap hm _ _ ho w φ hmr
  have h2 : All [(bodyOf Try.prog 11 2) = (bodyOf Try.prog 11 2), (T11 len cap ((0 : Nat) : Int), ME c m) = (T11 len cap ((0 : Nat) : Int), ME c m), wfS (T11 len cap ((0 : Nat) : Int)) (ME c m) = true] := ⟨rfl, rfl, wfT11 _ _ _ _ _, trivial⟩
  have h3 := law_runD (l11Xok c len cap  hm ho) (l11run11 c len cap m) h2 hmr
  exact h3
end Go.Ev

namespace Go.Proofs.Ytpnappendjomoaa.Laws
open Go Go.Ev Go.RowKit Go.ChangeShapes Go.WideShapes Go.ChangeAt

set_option maxRecDepth 100000 in
theorem lifted11 (os : Os) (started : os.Started) (H : Type) (enc : TypeId × Value → H) :
    ReturnsInHanded {} Try.checked os 11 .any (Rows.edwWrongsSpec.pre6 enc Try.prog Try.f11 Rows.edwWrongsRow.domain false) (Rows.edwWrongsSpec.post enc Try.prog Try.f11 false true false false) := by
  refine returnsInHanded_of_change (C := Try.checked) own started (by kernel_rfl) Try.func11
    (ChangeSpec.witness6 (enc := enc) (C := Try.checked) false ⟨#[], #[.slice none 0 0], []⟩ 8 (by kernel_rfl) (by kernel_rfl) (by kernel_rfl) (by kernel_rfl)) ?_
  intro W base args ds gs before hval0 hW _ _
  have hval : ∀ (j : Nat) t v, Try.f11.params[j]? = some t → args[j]? = some v → Value.okWide Try.prog W .any base t v := hval0
  have hW' := hW
  obtain ⟨p, q, hA0, hV, hbef, hfz, hnd⟩ := hW
  have hp : Try.f11.params = #[49] := by kernel_rfl
  have hA : DataW.TrodAll enc Try.prog W 0 (fun _ => true) true Try.f11.params.toList args.toList ds p := hA0
  rw [hp] at hA hval
  obtain ⟨v0, d0, rfl, rfl, h0⟩ := trodAll_one hA
  obtain ⟨rfl, rfl⟩ := trodVars_none hV
  refine (law11 (hval 0 49 v0 rfl rfl) h0).mono ?_
  rintro e W' ⟨rfl, hb⟩
  exact ⟨_, rfl, post_true (tb := 4) rfl hp (by kernel_rfl) u4 laid rd49 row49 rfl rfl hW' hb⟩

theorem holds11 : Rows.EdwWrongsSaid :=
  OpenClaim.holds_of_wide 11 Try.f11 rfl rfl rfl rfl rfl rfl rfl ⟨rfl, rfl, rfl, rfl, rfl⟩ rfl rfl rfl rfl rfl (by kernel_rfl) Try.func11 (by kernel_rfl)
    (of_decide_eq_true (by kernel_rfl)) (by unfold Func.isWrapper; first | (rw [if_pos (by decide +kernel)]; kernel_rfl) | (rw [if_neg (by decide +kernel)]; exact ⟨rfl, rfl⟩))
    (fun os started H enc _ => lifted11 os started H enc)

end Go.Proofs.Ytpnappendjomoaa.Laws

namespace Go.Proofs.Ytpnappendjomoaa
open Go
theorem edwWrongs_holds : Rows.EdwWrongsSaid := Laws.holds11
end Go.Proofs.Ytpnappendjomoaa

