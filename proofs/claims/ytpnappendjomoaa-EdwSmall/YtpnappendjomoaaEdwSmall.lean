/- The law EdwSmall holds of every argument, without a condition -/
import Derived.Test.YtpnappendjomoaaCurve
import Derived.JoinedOf
namespace Go.Ev
open Go Go.Proofs Go.RowKit

noncomputable def S8 : FuncId → Nat → Bool := fun f t => match f with | 8 => memN t [14, 23, 27, 47] | _ => false
noncomputable def E8 : Env := mkE L15 S8
theorem envE8 : EnvOK E8 := envMk L15_ok S8
def T8 (len cap : Nat) (i : Int) : List AV := slots 60 [(0, sV' len cap), (2, bV false), (3, iV i)]
theorem wfT8 (c : Cells) (m len cap : Nat) (i : Int) : wfS (T8 len cap i) (ME c m) = true := wfE c m (by kernel_rfl)
def T8i (len cap : Nat) (i : Int) (n : Nat) : List AV := slots 60 [(0, sV' len cap), (2, bV false), (3, iV i), (4, pV 1), (5, pV 2), (6, .val (u32 n))]
noncomputable def M8 (c : Cells) (m px py n : Nat) : List Blk := [rowB c shE m 53, ⟨[.num 8 px, .num 8 py], 51, true, false, 0⟩, ⟨[.num 8 (nmX n px py), .num 8 (nmY n px py)], 51, true, false, 0⟩]
theorem M8_free (c : Cells) (m px py n : Nat) : ∀ b ∈ M8 c m px py n, Free b := by
  intro b hb
  simp only [M8, List.mem_cons, List.not_mem_nil, or_false] at hb
  rcases hb with rfl | rfl | rfl
  · exact rowB_free _ _ _ _
  · exact fun _ => rfl
  · exact fun _ => rfl
theorem wfT8i (c : Cells) (m px py len cap : Nat) (i : Int) (n : Nat) : wfS (T8i len cap i n) (M8 c m px py n) = true := wfS_of (M8_free _ _ _ _ _) (by show tmsWf 3 _ = true; kernel_rfl)
theorem wfT8o (c : Cells) (m px py len cap : Nat) (i : Int) (n : Nat) : wfS (T8 len cap i) (M8 c m px py n) = true := wfS_of (M8_free _ _ _ _ _) (by show tmsWf 3 _ = true; kernel_rfl)
theorem nm_lt {n px py : Nat} (h : onE px py = true) : nmX n px py < 4294967296 ^ 8 ∧ nmY n px py < 4294967296 ^ 8 := dN0 (nm_on h)
theorem b8_0 (c : Cells) (m : Nat) (px : Nat) (py : Nat) (len : Nat) (cap : Nat) (i : Int) : runTo E8 1000 (Env.S E8 8) (bodyOf Try.prog 8 8) (T8i len cap i 0) (M8 c m px py 0) [false] (T8i len cap i 1) 3 =
    some ([0 < 4294967296, 0 < 4294967296, 0 < 4294967296, 0 < 4294967296, 0 < 4294967296, 0 < 4294967296, 0 < 4294967296, 0 < 4294967296, px < 4294967296 ^ 8, py < 4294967296 ^ 8, onE px py = true, (!(decide (nmX 0 px py % 4294967296 ^ 8 = nmX 0 px py % 4294967296 ^ 8) && (decide (nmY 0 px py % 4294967296 ^ 8 = nmY 0 px py % 4294967296 ^ 8) && true))) = false, nmX 0 px py < 4294967296 ^ 8, nmY 0 px py < 4294967296 ^ 8, px < 4294967296 ^ 8, py < 4294967296 ^ 8, onE (nmX 0 px py) (nmY 0 px py) = true, onE px py = true], .normal, T8i len cap i 1, M8 c m px py 1) := by kernel_rfl
theorem c8_0 (c : Cells) (m : Nat) {px py : Nat} (len cap : Nat) (i : Int) (hu : onE px py = true) : Goes Try.prog (bodyOf Try.prog 8 8) .normal (T8i len cap i 0) (M8 c m px py 0) (T8i len cap i 1) (M8 c m px py 1) := by
  obtain ⟨h1, h2⟩ := nm_lt (n := 0) hu
  obtain ⟨h3, h4⟩ := dN0 hu
  have h5 := nm_on (k := 0) hu
  exact Runs.goes envE8 ⟨_, _, b8_0 c m px py len cap i, ⟨lit0, lit0, lit0, lit0, lit0, lit0, lit0, lit0, (by first | with_reducible assumption | with_reducible exact L8 (by with_reducible assumption) | exact decide_eq_true (by omega) | exact decide_eq_false (by omega) | omega), (by first | with_reducible assumption | with_reducible exact L8 (by with_reducible assumption) | exact decide_eq_true (by omega) | exact decide_eq_false (by omega) | omega), (by first | with_reducible assumption | with_reducible exact L8 (by with_reducible assumption) | exact decide_eq_true (by omega) | exact decide_eq_false (by omega) | omega), (by simp), (by first | with_reducible assumption | with_reducible exact L8 (by with_reducible assumption) | exact decide_eq_true (by omega) | exact decide_eq_false (by omega) | omega), (by first | with_reducible assumption | with_reducible exact L8 (by with_reducible assumption) | exact decide_eq_true (by omega) | exact decide_eq_false (by omega) | omega), (by first | with_reducible assumption | with_reducible exact L8 (by with_reducible assumption) | exact decide_eq_true (by omega) | exact decide_eq_false (by omega) | omega), (by first | with_reducible assumption | with_reducible exact L8 (by with_reducible assumption) | exact decide_eq_true (by omega) | exact decide_eq_false (by omega) | omega), (by first | with_reducible assumption | with_reducible exact L8 (by with_reducible assumption) | exact decide_eq_true (by omega) | exact decide_eq_false (by omega) | omega), (by first | with_reducible assumption | with_reducible exact L8 (by with_reducible assumption) | exact decide_eq_true (by omega) | exact decide_eq_false (by omega) | omega), trivial⟩, wfT8i _ _ _ _ _ _ _ _⟩
theorem b8_1 (c : Cells) (m : Nat) (px : Nat) (py : Nat) (len : Nat) (cap : Nat) (i : Int) : runTo E8 1000 (Env.S E8 8) (bodyOf Try.prog 8 8) (T8i len cap i 1) (M8 c m px py 1) [false] (T8i len cap i 2) 3 =
    some ([1 < 4294967296, 0 < 4294967296, 0 < 4294967296, 0 < 4294967296, 0 < 4294967296, 0 < 4294967296, 0 < 4294967296, 0 < 4294967296, px < 4294967296 ^ 8, py < 4294967296 ^ 8, onE px py = true, (!(decide (nmX 1 px py % 4294967296 ^ 8 = nmX 1 px py % 4294967296 ^ 8) && (decide (nmY 1 px py % 4294967296 ^ 8 = nmY 1 px py % 4294967296 ^ 8) && true))) = false, nmX 1 px py < 4294967296 ^ 8, nmY 1 px py < 4294967296 ^ 8, px < 4294967296 ^ 8, py < 4294967296 ^ 8, onE (nmX 1 px py) (nmY 1 px py) = true, onE px py = true], .normal, T8i len cap i 2, M8 c m px py 2) := by kernel_rfl
theorem c8_1 (c : Cells) (m : Nat) {px py : Nat} (len cap : Nat) (i : Int) (hu : onE px py = true) : Goes Try.prog (bodyOf Try.prog 8 8) .normal (T8i len cap i 1) (M8 c m px py 1) (T8i len cap i 2) (M8 c m px py 2) := by
  obtain ⟨h1, h2⟩ := nm_lt (n := 1) hu
  obtain ⟨h3, h4⟩ := dN0 hu
  have h5 := nm_on (k := 1) hu
  exact Runs.goes envE8 ⟨_, _, b8_1 c m px py len cap i, ⟨lit1, lit0, lit0, lit0, lit0, lit0, lit0, lit0, (by first | with_reducible assumption | with_reducible exact L8 (by with_reducible assumption) | exact decide_eq_true (by omega) | exact decide_eq_false (by omega) | omega), (by first | with_reducible assumption | with_reducible exact L8 (by with_reducible assumption) | exact decide_eq_true (by omega) | exact decide_eq_false (by omega) | omega), (by first | with_reducible assumption | with_reducible exact L8 (by with_reducible assumption) | exact decide_eq_true (by omega) | exact decide_eq_false (by omega) | omega), (by simp), (by first | with_reducible assumption | with_reducible exact L8 (by with_reducible assumption) | exact decide_eq_true (by omega) | exact decide_eq_false (by omega) | omega), (by first | with_reducible assumption | with_reducible exact L8 (by with_reducible assumption) | exact decide_eq_true (by omega) | exact decide_eq_false (by omega) | omega), (by first | with_reducible assumption | with_reducible exact L8 (by with_reducible assumption) | exact decide_eq_true (by omega) | exact decide_eq_false (by omega) | omega), (by first | with_reducible assumption | with_reducible exact L8 (by with_reducible assumption) | exact decide_eq_true (by omega) | exact decide_eq_false (by omega) | omega), (by first | with_reducible assumption | with_reducible exact L8 (by with_reducible assumption) | exact decide_eq_true (by omega) | exact decide_eq_false (by omega) | omega), (by first | with_reducible assumption | with_reducible exact L8 (by with_reducible assumption) | exact decide_eq_true (by omega) | exact decide_eq_false (by omega) | omega), trivial⟩, wfT8i _ _ _ _ _ _ _ _⟩
theorem b8_2 (c : Cells) (m : Nat) (px : Nat) (py : Nat) (len : Nat) (cap : Nat) (i : Int) : runTo E8 1000 (Env.S E8 8) (bodyOf Try.prog 8 8) (T8i len cap i 2) (M8 c m px py 2) [false] (T8i len cap i 3) 3 =
    some ([2 < 4294967296, 0 < 4294967296, 0 < 4294967296, 0 < 4294967296, 0 < 4294967296, 0 < 4294967296, 0 < 4294967296, 0 < 4294967296, px < 4294967296 ^ 8, py < 4294967296 ^ 8, onE px py = true, (!(decide (nmX 2 px py % 4294967296 ^ 8 = nmX 2 px py % 4294967296 ^ 8) && (decide (nmY 2 px py % 4294967296 ^ 8 = nmY 2 px py % 4294967296 ^ 8) && true))) = false, nmX 2 px py < 4294967296 ^ 8, nmY 2 px py < 4294967296 ^ 8, px < 4294967296 ^ 8, py < 4294967296 ^ 8, onE (nmX 2 px py) (nmY 2 px py) = true, onE px py = true], .normal, T8i len cap i 3, M8 c m px py 3) := by kernel_rfl
theorem c8_2 (c : Cells) (m : Nat) {px py : Nat} (len cap : Nat) (i : Int) (hu : onE px py = true) : Goes Try.prog (bodyOf Try.prog 8 8) .normal (T8i len cap i 2) (M8 c m px py 2) (T8i len cap i 3) (M8 c m px py 3) := by
  obtain ⟨h1, h2⟩ := nm_lt (n := 2) hu
  obtain ⟨h3, h4⟩ := dN0 hu
  have h5 := nm_on (k := 2) hu
  exact Runs.goes envE8 ⟨_, _, b8_2 c m px py len cap i, ⟨lit2, lit0, lit0, lit0, lit0, lit0, lit0, lit0, (by first | with_reducible assumption | with_reducible exact L8 (by with_reducible assumption) | exact decide_eq_true (by omega) | exact decide_eq_false (by omega) | omega), (by first | with_reducible assumption | with_reducible exact L8 (by with_reducible assumption) | exact decide_eq_true (by omega) | exact decide_eq_false (by omega) | omega), (by first | with_reducible assumption | with_reducible exact L8 (by with_reducible assumption) | exact decide_eq_true (by omega) | exact decide_eq_false (by omega) | omega), (by simp), (by first | with_reducible assumption | with_reducible exact L8 (by with_reducible assumption) | exact decide_eq_true (by omega) | exact decide_eq_false (by omega) | omega), (by first | with_reducible assumption | with_reducible exact L8 (by with_reducible assumption) | exact decide_eq_true (by omega) | exact decide_eq_false (by omega) | omega), (by first | with_reducible assumption | with_reducible exact L8 (by with_reducible assumption) | exact decide_eq_true (by omega) | exact decide_eq_false (by omega) | omega), (by first | with_reducible assumption | with_reducible exact L8 (by with_reducible assumption) | exact decide_eq_true (by omega) | exact decide_eq_false (by omega) | omega), (by first | with_reducible assumption | with_reducible exact L8 (by with_reducible assumption) | exact decide_eq_true (by omega) | exact decide_eq_false (by omega) | omega), (by first | with_reducible assumption | with_reducible exact L8 (by with_reducible assumption) | exact decide_eq_true (by omega) | exact decide_eq_false (by omega) | omega), trivial⟩, wfT8i _ _ _ _ _ _ _ _⟩
theorem b8_3 (c : Cells) (m : Nat) (px : Nat) (py : Nat) (len : Nat) (cap : Nat) (i : Int) : runTo E8 1000 (Env.S E8 8) (bodyOf Try.prog 8 8) (T8i len cap i 3) (M8 c m px py 3) [false] (T8i len cap i 4) 3 =
    some ([3 < 4294967296, 0 < 4294967296, 0 < 4294967296, 0 < 4294967296, 0 < 4294967296, 0 < 4294967296, 0 < 4294967296, 0 < 4294967296, px < 4294967296 ^ 8, py < 4294967296 ^ 8, onE px py = true, (!(decide (nmX 3 px py % 4294967296 ^ 8 = nmX 3 px py % 4294967296 ^ 8) && (decide (nmY 3 px py % 4294967296 ^ 8 = nmY 3 px py % 4294967296 ^ 8) && true))) = false, nmX 3 px py < 4294967296 ^ 8, nmY 3 px py < 4294967296 ^ 8, px < 4294967296 ^ 8, py < 4294967296 ^ 8, onE (nmX 3 px py) (nmY 3 px py) = true, onE px py = true], .normal, T8i len cap i 4, M8 c m px py 4) := by kernel_rfl
theorem c8_3 (c : Cells) (m : Nat) {px py : Nat} (len cap : Nat) (i : Int) (hu : onE px py = true) : Goes Try.prog (bodyOf Try.prog 8 8) .normal (T8i len cap i 3) (M8 c m px py 3) (T8i len cap i 4) (M8 c m px py 4) := by
  obtain ⟨h1, h2⟩ := nm_lt (n := 3) hu
  obtain ⟨h3, h4⟩ := dN0 hu
  have h5 := nm_on (k := 3) hu
  exact Runs.goes envE8 ⟨_, _, b8_3 c m px py len cap i, ⟨lit3, lit0, lit0, lit0, lit0, lit0, lit0, lit0, (by first | with_reducible assumption | with_reducible exact L8 (by with_reducible assumption) | exact decide_eq_true (by omega) | exact decide_eq_false (by omega) | omega), (by first | with_reducible assumption | with_reducible exact L8 (by with_reducible assumption) | exact decide_eq_true (by omega) | exact decide_eq_false (by omega) | omega), (by first | with_reducible assumption | with_reducible exact L8 (by with_reducible assumption) | exact decide_eq_true (by omega) | exact decide_eq_false (by omega) | omega), (by simp), (by first | with_reducible assumption | with_reducible exact L8 (by with_reducible assumption) | exact decide_eq_true (by omega) | exact decide_eq_false (by omega) | omega), (by first | with_reducible assumption | with_reducible exact L8 (by with_reducible assumption) | exact decide_eq_true (by omega) | exact decide_eq_false (by omega) | omega), (by first | with_reducible assumption | with_reducible exact L8 (by with_reducible assumption) | exact decide_eq_true (by omega) | exact decide_eq_false (by omega) | omega), (by first | with_reducible assumption | with_reducible exact L8 (by with_reducible assumption) | exact decide_eq_true (by omega) | exact decide_eq_false (by omega) | omega), (by first | with_reducible assumption | with_reducible exact L8 (by with_reducible assumption) | exact decide_eq_true (by omega) | exact decide_eq_false (by omega) | omega), (by first | with_reducible assumption | with_reducible exact L8 (by with_reducible assumption) | exact decide_eq_true (by omega) | exact decide_eq_false (by omega) | omega), trivial⟩, wfT8i _ _ _ _ _ _ _ _⟩
theorem b8_4 (c : Cells) (m : Nat) (px : Nat) (py : Nat) (len : Nat) (cap : Nat) (i : Int) : runTo E8 1000 (Env.S E8 8) (bodyOf Try.prog 8 8) (T8i len cap i 4) (M8 c m px py 4) [false] (T8i len cap i 5) 3 =
    some ([4 < 4294967296, 0 < 4294967296, 0 < 4294967296, 0 < 4294967296, 0 < 4294967296, 0 < 4294967296, 0 < 4294967296, 0 < 4294967296, px < 4294967296 ^ 8, py < 4294967296 ^ 8, onE px py = true, (!(decide (nmX 4 px py % 4294967296 ^ 8 = nmX 4 px py % 4294967296 ^ 8) && (decide (nmY 4 px py % 4294967296 ^ 8 = nmY 4 px py % 4294967296 ^ 8) && true))) = false, nmX 4 px py < 4294967296 ^ 8, nmY 4 px py < 4294967296 ^ 8, px < 4294967296 ^ 8, py < 4294967296 ^ 8, onE (nmX 4 px py) (nmY 4 px py) = true, onE px py = true], .normal, T8i len cap i 5, M8 c m px py 5) := by kernel_rfl
theorem c8_4 (c : Cells) (m : Nat) {px py : Nat} (len cap : Nat) (i : Int) (hu : onE px py = true) : Goes Try.prog (bodyOf Try.prog 8 8) .normal (T8i len cap i 4) (M8 c m px py 4) (T8i len cap i 5) (M8 c m px py 5) := by
  obtain ⟨h1, h2⟩ := nm_lt (n := 4) hu
  obtain ⟨h3, h4⟩ := dN0 hu
  have h5 := nm_on (k := 4) hu
  exact Runs.goes envE8 ⟨_, _, b8_4 c m px py len cap i, ⟨lit4, lit0, lit0, lit0, lit0, lit0, lit0, lit0, (by first | with_reducible assumption | with_reducible exact L8 (by with_reducible assumption) | exact decide_eq_true (by omega) | exact decide_eq_false (by omega) | omega), (by first | with_reducible assumption | with_reducible exact L8 (by with_reducible assumption) | exact decide_eq_true (by omega) | exact decide_eq_false (by omega) | omega), (by first | with_reducible assumption | with_reducible exact L8 (by with_reducible assumption) | exact decide_eq_true (by omega) | exact decide_eq_false (by omega) | omega), (by simp), (by first | with_reducible assumption | with_reducible exact L8 (by with_reducible assumption) | exact decide_eq_true (by omega) | exact decide_eq_false (by omega) | omega), (by first | with_reducible assumption | with_reducible exact L8 (by with_reducible assumption) | exact decide_eq_true (by omega) | exact decide_eq_false (by omega) | omega), (by first | with_reducible assumption | with_reducible exact L8 (by with_reducible assumption) | exact decide_eq_true (by omega) | exact decide_eq_false (by omega) | omega), (by first | with_reducible assumption | with_reducible exact L8 (by with_reducible assumption) | exact decide_eq_true (by omega) | exact decide_eq_false (by omega) | omega), (by first | with_reducible assumption | with_reducible exact L8 (by with_reducible assumption) | exact decide_eq_true (by omega) | exact decide_eq_false (by omega) | omega), (by first | with_reducible assumption | with_reducible exact L8 (by with_reducible assumption) | exact decide_eq_true (by omega) | exact decide_eq_false (by omega) | omega), trivial⟩, wfT8i _ _ _ _ _ _ _ _⟩
theorem b8_5 (c : Cells) (m : Nat) (px : Nat) (py : Nat) (len : Nat) (cap : Nat) (i : Int) : runTo E8 1000 (Env.S E8 8) (bodyOf Try.prog 8 8) (T8i len cap i 5) (M8 c m px py 5) [false] (T8i len cap i 6) 3 =
    some ([5 < 4294967296, 0 < 4294967296, 0 < 4294967296, 0 < 4294967296, 0 < 4294967296, 0 < 4294967296, 0 < 4294967296, 0 < 4294967296, px < 4294967296 ^ 8, py < 4294967296 ^ 8, onE px py = true, (!(decide (nmX 5 px py % 4294967296 ^ 8 = nmX 5 px py % 4294967296 ^ 8) && (decide (nmY 5 px py % 4294967296 ^ 8 = nmY 5 px py % 4294967296 ^ 8) && true))) = false, nmX 5 px py < 4294967296 ^ 8, nmY 5 px py < 4294967296 ^ 8, px < 4294967296 ^ 8, py < 4294967296 ^ 8, onE (nmX 5 px py) (nmY 5 px py) = true, onE px py = true], .normal, T8i len cap i 6, M8 c m px py 6) := by kernel_rfl
theorem c8_5 (c : Cells) (m : Nat) {px py : Nat} (len cap : Nat) (i : Int) (hu : onE px py = true) : Goes Try.prog (bodyOf Try.prog 8 8) .normal (T8i len cap i 5) (M8 c m px py 5) (T8i len cap i 6) (M8 c m px py 6) := by
  obtain ⟨h1, h2⟩ := nm_lt (n := 5) hu
  obtain ⟨h3, h4⟩ := dN0 hu
  have h5 := nm_on (k := 5) hu
  exact Runs.goes envE8 ⟨_, _, b8_5 c m px py len cap i, ⟨(of_decide_eq_true rfl), lit0, lit0, lit0, lit0, lit0, lit0, lit0, (by first | with_reducible assumption | with_reducible exact L8 (by with_reducible assumption) | exact decide_eq_true (by omega) | exact decide_eq_false (by omega) | omega), (by first | with_reducible assumption | with_reducible exact L8 (by with_reducible assumption) | exact decide_eq_true (by omega) | exact decide_eq_false (by omega) | omega), (by first | with_reducible assumption | with_reducible exact L8 (by with_reducible assumption) | exact decide_eq_true (by omega) | exact decide_eq_false (by omega) | omega), (by simp), (by first | with_reducible assumption | with_reducible exact L8 (by with_reducible assumption) | exact decide_eq_true (by omega) | exact decide_eq_false (by omega) | omega), (by first | with_reducible assumption | with_reducible exact L8 (by with_reducible assumption) | exact decide_eq_true (by omega) | exact decide_eq_false (by omega) | omega), (by first | with_reducible assumption | with_reducible exact L8 (by with_reducible assumption) | exact decide_eq_true (by omega) | exact decide_eq_false (by omega) | omega), (by first | with_reducible assumption | with_reducible exact L8 (by with_reducible assumption) | exact decide_eq_true (by omega) | exact decide_eq_false (by omega) | omega), (by first | with_reducible assumption | with_reducible exact L8 (by with_reducible assumption) | exact decide_eq_true (by omega) | exact decide_eq_false (by omega) | omega), (by first | with_reducible assumption | with_reducible exact L8 (by with_reducible assumption) | exact decide_eq_true (by omega) | exact decide_eq_false (by omega) | omega), trivial⟩, wfT8i _ _ _ _ _ _ _ _⟩
theorem b8_6 (c : Cells) (m : Nat) (px : Nat) (py : Nat) (len : Nat) (cap : Nat) (i : Int) : runTo E8 1000 (Env.S E8 8) (bodyOf Try.prog 8 8) (T8i len cap i 6) (M8 c m px py 6) [false] (T8i len cap i 7) 3 =
    some ([6 < 4294967296, 0 < 4294967296, 0 < 4294967296, 0 < 4294967296, 0 < 4294967296, 0 < 4294967296, 0 < 4294967296, 0 < 4294967296, px < 4294967296 ^ 8, py < 4294967296 ^ 8, onE px py = true, (!(decide (nmX 6 px py % 4294967296 ^ 8 = nmX 6 px py % 4294967296 ^ 8) && (decide (nmY 6 px py % 4294967296 ^ 8 = nmY 6 px py % 4294967296 ^ 8) && true))) = false, nmX 6 px py < 4294967296 ^ 8, nmY 6 px py < 4294967296 ^ 8, px < 4294967296 ^ 8, py < 4294967296 ^ 8, onE (nmX 6 px py) (nmY 6 px py) = true, onE px py = true], .normal, T8i len cap i 7, M8 c m px py 7) := by kernel_rfl
theorem c8_6 (c : Cells) (m : Nat) {px py : Nat} (len cap : Nat) (i : Int) (hu : onE px py = true) : Goes Try.prog (bodyOf Try.prog 8 8) .normal (T8i len cap i 6) (M8 c m px py 6) (T8i len cap i 7) (M8 c m px py 7) := by
  obtain ⟨h1, h2⟩ := nm_lt (n := 6) hu
  obtain ⟨h3, h4⟩ := dN0 hu
  have h5 := nm_on (k := 6) hu
  exact Runs.goes envE8 ⟨_, _, b8_6 c m px py len cap i, ⟨(of_decide_eq_true rfl), lit0, lit0, lit0, lit0, lit0, lit0, lit0, (by first | with_reducible assumption | with_reducible exact L8 (by with_reducible assumption) | exact decide_eq_true (by omega) | exact decide_eq_false (by omega) | omega), (by first | with_reducible assumption | with_reducible exact L8 (by with_reducible assumption) | exact decide_eq_true (by omega) | exact decide_eq_false (by omega) | omega), (by first | with_reducible assumption | with_reducible exact L8 (by with_reducible assumption) | exact decide_eq_true (by omega) | exact decide_eq_false (by omega) | omega), (by simp), (by first | with_reducible assumption | with_reducible exact L8 (by with_reducible assumption) | exact decide_eq_true (by omega) | exact decide_eq_false (by omega) | omega), (by first | with_reducible assumption | with_reducible exact L8 (by with_reducible assumption) | exact decide_eq_true (by omega) | exact decide_eq_false (by omega) | omega), (by first | with_reducible assumption | with_reducible exact L8 (by with_reducible assumption) | exact decide_eq_true (by omega) | exact decide_eq_false (by omega) | omega), (by first | with_reducible assumption | with_reducible exact L8 (by with_reducible assumption) | exact decide_eq_true (by omega) | exact decide_eq_false (by omega) | omega), (by first | with_reducible assumption | with_reducible exact L8 (by with_reducible assumption) | exact decide_eq_true (by omega) | exact decide_eq_false (by omega) | omega), (by first | with_reducible assumption | with_reducible exact L8 (by with_reducible assumption) | exact decide_eq_true (by omega) | exact decide_eq_false (by omega) | omega), trivial⟩, wfT8i _ _ _ _ _ _ _ _⟩
theorem b8_7 (c : Cells) (m : Nat) (px : Nat) (py : Nat) (len : Nat) (cap : Nat) (i : Int) : runTo E8 1000 (Env.S E8 8) (bodyOf Try.prog 8 8) (T8i len cap i 7) (M8 c m px py 7) [false] (T8i len cap i 8) 3 =
    some ([7 < 4294967296, 0 < 4294967296, 0 < 4294967296, 0 < 4294967296, 0 < 4294967296, 0 < 4294967296, 0 < 4294967296, 0 < 4294967296, px < 4294967296 ^ 8, py < 4294967296 ^ 8, onE px py = true, (!(decide (nmX 7 px py % 4294967296 ^ 8 = nmX 7 px py % 4294967296 ^ 8) && (decide (nmY 7 px py % 4294967296 ^ 8 = nmY 7 px py % 4294967296 ^ 8) && true))) = false, nmX 7 px py < 4294967296 ^ 8, nmY 7 px py < 4294967296 ^ 8, px < 4294967296 ^ 8, py < 4294967296 ^ 8, onE (nmX 7 px py) (nmY 7 px py) = true, onE px py = true], .normal, T8i len cap i 8, M8 c m px py 8) := by kernel_rfl
theorem c8_7 (c : Cells) (m : Nat) {px py : Nat} (len cap : Nat) (i : Int) (hu : onE px py = true) : Goes Try.prog (bodyOf Try.prog 8 8) .normal (T8i len cap i 7) (M8 c m px py 7) (T8i len cap i 8) (M8 c m px py 8) := by
  obtain ⟨h1, h2⟩ := nm_lt (n := 7) hu
  obtain ⟨h3, h4⟩ := dN0 hu
  have h5 := nm_on (k := 7) hu
  exact Runs.goes envE8 ⟨_, _, b8_7 c m px py len cap i, ⟨(of_decide_eq_true rfl), lit0, lit0, lit0, lit0, lit0, lit0, lit0, (by first | with_reducible assumption | with_reducible exact L8 (by with_reducible assumption) | exact decide_eq_true (by omega) | exact decide_eq_false (by omega) | omega), (by first | with_reducible assumption | with_reducible exact L8 (by with_reducible assumption) | exact decide_eq_true (by omega) | exact decide_eq_false (by omega) | omega), (by first | with_reducible assumption | with_reducible exact L8 (by with_reducible assumption) | exact decide_eq_true (by omega) | exact decide_eq_false (by omega) | omega), (by simp), (by first | with_reducible assumption | with_reducible exact L8 (by with_reducible assumption) | exact decide_eq_true (by omega) | exact decide_eq_false (by omega) | omega), (by first | with_reducible assumption | with_reducible exact L8 (by with_reducible assumption) | exact decide_eq_true (by omega) | exact decide_eq_false (by omega) | omega), (by first | with_reducible assumption | with_reducible exact L8 (by with_reducible assumption) | exact decide_eq_true (by omega) | exact decide_eq_false (by omega) | omega), (by first | with_reducible assumption | with_reducible exact L8 (by with_reducible assumption) | exact decide_eq_true (by omega) | exact decide_eq_false (by omega) | omega), (by first | with_reducible assumption | with_reducible exact L8 (by with_reducible assumption) | exact decide_eq_true (by omega) | exact decide_eq_false (by omega) | omega), (by first | with_reducible assumption | with_reducible exact L8 (by with_reducible assumption) | exact decide_eq_true (by omega) | exact decide_eq_false (by omega) | omega), trivial⟩, wfT8i _ _ _ _ _ _ _ _⟩
theorem b8_8 (c : Cells) (m : Nat) (px : Nat) (py : Nat) (len : Nat) (cap : Nat) (i : Int) : runTo E8 1000 (Env.S E8 8) (bodyOf Try.prog 8 8) (T8i len cap i 8) (M8 c m px py 8) [false] (T8i len cap i 9) 3 =
    some ([8 < 4294967296, 0 < 4294967296, 0 < 4294967296, 0 < 4294967296, 0 < 4294967296, 0 < 4294967296, 0 < 4294967296, 0 < 4294967296, px < 4294967296 ^ 8, py < 4294967296 ^ 8, onE px py = true, (!(decide (nmX 8 px py % 4294967296 ^ 8 = nmX 8 px py % 4294967296 ^ 8) && (decide (nmY 8 px py % 4294967296 ^ 8 = nmY 8 px py % 4294967296 ^ 8) && true))) = false, nmX 8 px py < 4294967296 ^ 8, nmY 8 px py < 4294967296 ^ 8, px < 4294967296 ^ 8, py < 4294967296 ^ 8, onE (nmX 8 px py) (nmY 8 px py) = true, onE px py = true], .normal, T8i len cap i 9, M8 c m px py 9) := by kernel_rfl
theorem c8_8 (c : Cells) (m : Nat) {px py : Nat} (len cap : Nat) (i : Int) (hu : onE px py = true) : Goes Try.prog (bodyOf Try.prog 8 8) .normal (T8i len cap i 8) (M8 c m px py 8) (T8i len cap i 9) (M8 c m px py 9) := by
  obtain ⟨h1, h2⟩ := nm_lt (n := 8) hu
  obtain ⟨h3, h4⟩ := dN0 hu
  have h5 := nm_on (k := 8) hu
  exact Runs.goes envE8 ⟨_, _, b8_8 c m px py len cap i, ⟨(of_decide_eq_true rfl), lit0, lit0, lit0, lit0, lit0, lit0, lit0, (by first | with_reducible assumption | with_reducible exact L8 (by with_reducible assumption) | exact decide_eq_true (by omega) | exact decide_eq_false (by omega) | omega), (by first | with_reducible assumption | with_reducible exact L8 (by with_reducible assumption) | exact decide_eq_true (by omega) | exact decide_eq_false (by omega) | omega), (by first | with_reducible assumption | with_reducible exact L8 (by with_reducible assumption) | exact decide_eq_true (by omega) | exact decide_eq_false (by omega) | omega), (by simp), (by first | with_reducible assumption | with_reducible exact L8 (by with_reducible assumption) | exact decide_eq_true (by omega) | exact decide_eq_false (by omega) | omega), (by first | with_reducible assumption | with_reducible exact L8 (by with_reducible assumption) | exact decide_eq_true (by omega) | exact decide_eq_false (by omega) | omega), (by first | with_reducible assumption | with_reducible exact L8 (by with_reducible assumption) | exact decide_eq_true (by omega) | exact decide_eq_false (by omega) | omega), (by first | with_reducible assumption | with_reducible exact L8 (by with_reducible assumption) | exact decide_eq_true (by omega) | exact decide_eq_false (by omega) | omega), (by first | with_reducible assumption | with_reducible exact L8 (by with_reducible assumption) | exact decide_eq_true (by omega) | exact decide_eq_false (by omega) | omega), (by first | with_reducible assumption | with_reducible exact L8 (by with_reducible assumption) | exact decide_eq_true (by omega) | exact decide_eq_false (by omega) | omega), trivial⟩, wfT8i _ _ _ _ _ _ _ _⟩
theorem b8x (c : Cells) (m : Nat) (px : Nat) (py : Nat) (len : Nat) (cap : Nat) (i : Int) : runTo E8 1000 (Env.S E8 8) (bodyOf Try.prog 8 8) (T8i len cap i 9) (M8 c m px py 9) [] (T8 len cap i) 3 =
    some ([], .exit 2, T8 len cap i, M8 c m px py 9) := by kernel_rfl
theorem loop8i (c : Cells) (m : Nat) {px py : Nat} (len cap : Nat) (i : Int) (hu : onE px py = true) : Goes Try.prog (.loop (bodyOf Try.prog 8 8)) (.exit 2) (T8i len cap i 0) (M8 c m px py 0) (T8 len cap i) (M8 c m px py 9) := by
  refine loop_goes (N := 9) (k := 3) (T := fun n => T8i len cap i n) (M := fun n => M8 c m px py n) (by simp) (fun _ _ => rfl) (fun n hn => ?_) (Runs.goes envE8 ⟨_, _, b8x c m px py len cap i, trivial, wfT8o _ _ _ _ _ _ _ _⟩)
  match n, hn with
  | 0, _ => exact c8_0 c m len cap i hu
  | 1, _ => exact c8_1 c m len cap i hu
  | 2, _ => exact c8_2 c m len cap i hu
  | 3, _ => exact c8_3 c m len cap i hu
  | 4, _ => exact c8_4 c m len cap i hu
  | 5, _ => exact c8_5 c m len cap i hu
  | 6, _ => exact c8_6 c m len cap i hu
  | 7, _ => exact c8_7 c m len cap i hu
  | 8, _ => exact c8_8 c m len cap i hu
  | n + 9, h => exact absurd h (by omega)
noncomputable def E8i (c : Cells) (m px py len cap : Nat) (i : Int) : Env := withL E8 8 (bodyOf Try.prog 8 8) (sumC (T8i len cap i 0) (M8 c m px py 0) (T8 len cap i) (M8 c m px py 9) (.exit 2))
theorem envE8i (c : Cells) (m : Nat) {px py : Nat} (len cap : Nat) (i : Int) (hu : onE px py = true) : EnvOK (E8i c m px py len cap i) := envWithL envE8 (sumC_ok (by simp only [M8, List.length_cons]) (loop8i c m len cap i hu))
theorem a8_1_0n (c : Cells) (len : Nat) (cap : Nat) : runTo E8 1000 (Env.S E8 8) (bodyOf Try.prog 8 2) (T8 len cap ((0 : Nat) : Int)) (ME c 1) [true, false] (T8 len cap (↑(0 + 1) : Int)) 1 =
    some ([decide (((0 : Nat) : Int) < (↑len : Int)) = true, (0 : Int) ≤ ((0 : Nat) : Int) ∧ ((0 : Nat) : Int) < (↑len : Int), onE (nA c 0) (nA c 8) = false, nA c 0 < 4294967296 ^ 8, nA c 8 < 4294967296 ^ 8], .normal, T8 len cap ((0 + 1 : Nat) : Int), ME c 1) := by kernel_rfl
theorem a8_1_0y (c : Cells) (len cap : Nat) : runTo (E8i c 1 (nA c 0) (nA c 8) len cap ((0 : Nat) : Int)) 1000 (E8.S 8) (bodyOf Try.prog 8 2) (T8 len cap ((0 : Nat) : Int)) (ME c 1) [true, true] (T8 len cap ((0 + 1 : Nat) : Int)) 1 =
    some ([decide (((0 : Nat) : Int) < (len : Int)) = true, 0 ≤ ((0 : Nat) : Int) ∧ ((0 : Nat) : Int) < (len : Int), onE (nA c 0) (nA c 8) = true, (nA c 0) < 4294967296 ^ 8, (nA c 8) < 4294967296 ^ 8, bodyOf Try.prog 8 8 = bodyOf Try.prog 8 8,
      (T8i len cap ((0 : Nat) : Int) 0, M8 c 1 (nA c 0) (nA c 8) 0) = (T8i len cap ((0 : Nat) : Int) 0, M8 c 1 (nA c 0) (nA c 8) 0), wfS (T8i len cap ((0 : Nat) : Int) 0) (M8 c 1 (nA c 0) (nA c 8) 0) = true], .normal, T8 len cap ((0 + 1 : Nat) : Int), ME c 1) := by kernel_rfl
theorem l8s_1_0 (c : Cells) {len cap : Nat} (hl : 0 < len) (ho : All (rowOb c shE 1 0)) : Goes Try.prog (bodyOf Try.prog 8 2) .normal (T8 len cap ((0 : Nat) : Int)) (ME c 1) (T8 len cap ((0 + 1 : Nat) : Int)) (ME c 1) := by
  obtain ⟨g00, g01, g02, g03, g04, g05, _⟩ := ho
  have w0 : nA c 0 < 4294967296 ^ 8 := g00
  have w1 : nA c 8 < 4294967296 ^ 8 := g01
  have w2 : nA c 16 < 4294967296 ^ 8 := g02
  have w3 : nA c 24 < 4294967296 ^ 8 := g03
  have w4 : nA c 32 < 4294967296 ^ 8 := g04
  have w5 : nA c 40 < 4294967296 ^ 8 := g05
  have hll : decide (((0 : Nat) : Int) < (len : Int)) = true := decide_eq_true (by omega)
  have hii : 0 ≤ ((0 : Nat) : Int) ∧ ((0 : Nat) : Int) < (len : Int) := by omega
  cases hu : onE (nA c 0) (nA c 8) with
  | false => exact Runs.goes envE8 ⟨_, _, a8_1_0n c len cap, ⟨(by first | with_reducible assumption | with_reducible exact L8 (by with_reducible assumption) | exact decide_eq_true (by omega) | exact decide_eq_false (by omega) | omega), (by first | with_reducible assumption | with_reducible exact L8 (by with_reducible assumption) | exact decide_eq_true (by omega) | exact decide_eq_false (by omega) | omega), (by first | with_reducible assumption | with_reducible exact L8 (by with_reducible assumption) | exact decide_eq_true (by omega) | exact decide_eq_false (by omega) | omega), (by first | with_reducible assumption | with_reducible exact L8 (by with_reducible assumption) | exact decide_eq_true (by omega) | exact decide_eq_false (by omega) | omega), (by first | with_reducible assumption | with_reducible exact L8 (by with_reducible assumption) | exact decide_eq_true (by omega) | exact decide_eq_false (by omega) | omega), trivial⟩, wfT8 _ _ _ _ _⟩
  | true => exact Runs.goes (envE8i c 1 len cap ((0 : Nat) : Int) hu) ⟨_, _, a8_1_0y c len cap, ⟨hll, hii, hu, w0, w1, rfl, rfl, wfT8i _ _ _ _ _ _ _ _, trivial⟩, wfT8 _ _ _ _ _⟩
theorem a8_2_0n (c : Cells) (len : Nat) (cap : Nat) : runTo E8 1000 (Env.S E8 8) (bodyOf Try.prog 8 2) (T8 len cap ((0 : Nat) : Int)) (ME c 2) [true, false] (T8 len cap (↑(0 + 1) : Int)) 1 =
    some ([decide (((0 : Nat) : Int) < (↑len : Int)) = true, (0 : Int) ≤ ((0 : Nat) : Int) ∧ ((0 : Nat) : Int) < (↑len : Int), onE (nA c 0) (nA c 8) = false, nA c 0 < 4294967296 ^ 8, nA c 8 < 4294967296 ^ 8], .normal, T8 len cap ((0 + 1 : Nat) : Int), ME c 2) := by kernel_rfl
theorem a8_2_0y (c : Cells) (len cap : Nat) : runTo (E8i c 2 (nA c 0) (nA c 8) len cap ((0 : Nat) : Int)) 1000 (E8.S 8) (bodyOf Try.prog 8 2) (T8 len cap ((0 : Nat) : Int)) (ME c 2) [true, true] (T8 len cap ((0 + 1 : Nat) : Int)) 1 =
    some ([decide (((0 : Nat) : Int) < (len : Int)) = true, 0 ≤ ((0 : Nat) : Int) ∧ ((0 : Nat) : Int) < (len : Int), onE (nA c 0) (nA c 8) = true, (nA c 0) < 4294967296 ^ 8, (nA c 8) < 4294967296 ^ 8, bodyOf Try.prog 8 8 = bodyOf Try.prog 8 8,
      (T8i len cap ((0 : Nat) : Int) 0, M8 c 2 (nA c 0) (nA c 8) 0) = (T8i len cap ((0 : Nat) : Int) 0, M8 c 2 (nA c 0) (nA c 8) 0), wfS (T8i len cap ((0 : Nat) : Int) 0) (M8 c 2 (nA c 0) (nA c 8) 0) = true], .normal, T8 len cap ((0 + 1 : Nat) : Int), ME c 2) := by kernel_rfl
theorem l8s_2_0 (c : Cells) {len cap : Nat} (hl : 0 < len) (ho : All (rowOb c shE 2 0)) : Goes Try.prog (bodyOf Try.prog 8 2) .normal (T8 len cap ((0 : Nat) : Int)) (ME c 2) (T8 len cap ((0 + 1 : Nat) : Int)) (ME c 2) := by
  obtain ⟨g00, g01, g02, g03, g04, g05, g10, g11, g12, g13, g14, g15, _⟩ := ho
  have w0 : nA c 0 < 4294967296 ^ 8 := g00
  have w1 : nA c 8 < 4294967296 ^ 8 := g01
  have w2 : nA c 16 < 4294967296 ^ 8 := g02
  have w3 : nA c 24 < 4294967296 ^ 8 := g03
  have w4 : nA c 32 < 4294967296 ^ 8 := g04
  have w5 : nA c 40 < 4294967296 ^ 8 := g05
  have hll : decide (((0 : Nat) : Int) < (len : Int)) = true := decide_eq_true (by omega)
  have hii : 0 ≤ ((0 : Nat) : Int) ∧ ((0 : Nat) : Int) < (len : Int) := by omega
  cases hu : onE (nA c 0) (nA c 8) with
  | false => exact Runs.goes envE8 ⟨_, _, a8_2_0n c len cap, ⟨(by first | with_reducible assumption | with_reducible exact L8 (by with_reducible assumption) | exact decide_eq_true (by omega) | exact decide_eq_false (by omega) | omega), (by first | with_reducible assumption | with_reducible exact L8 (by with_reducible assumption) | exact decide_eq_true (by omega) | exact decide_eq_false (by omega) | omega), (by first | with_reducible assumption | with_reducible exact L8 (by with_reducible assumption) | exact decide_eq_true (by omega) | exact decide_eq_false (by omega) | omega), (by first | with_reducible assumption | with_reducible exact L8 (by with_reducible assumption) | exact decide_eq_true (by omega) | exact decide_eq_false (by omega) | omega), (by first | with_reducible assumption | with_reducible exact L8 (by with_reducible assumption) | exact decide_eq_true (by omega) | exact decide_eq_false (by omega) | omega), trivial⟩, wfT8 _ _ _ _ _⟩
  | true => exact Runs.goes (envE8i c 2 len cap ((0 : Nat) : Int) hu) ⟨_, _, a8_2_0y c len cap, ⟨hll, hii, hu, w0, w1, rfl, rfl, wfT8i _ _ _ _ _ _ _ _, trivial⟩, wfT8 _ _ _ _ _⟩
theorem a8_2_1n (c : Cells) (len : Nat) (cap : Nat) : runTo E8 1000 (Env.S E8 8) (bodyOf Try.prog 8 2) (T8 len cap ((1 : Nat) : Int)) (ME c 2) [true, false] (T8 len cap (↑(1 + 1) : Int)) 1 =
    some ([decide (((1 : Nat) : Int) < (↑len : Int)) = true, (0 : Int) ≤ ((1 : Nat) : Int) ∧ ((1 : Nat) : Int) < (↑len : Int), onE (nA c 48) (nA c 56) = false, nA c 48 < 4294967296 ^ 8, nA c 56 < 4294967296 ^ 8], .normal, T8 len cap ((1 + 1 : Nat) : Int), ME c 2) := by kernel_rfl
theorem a8_2_1y (c : Cells) (len cap : Nat) : runTo (E8i c 2 (nA c 48) (nA c 56) len cap ((1 : Nat) : Int)) 1000 (E8.S 8) (bodyOf Try.prog 8 2) (T8 len cap ((1 : Nat) : Int)) (ME c 2) [true, true] (T8 len cap ((1 + 1 : Nat) : Int)) 1 =
    some ([decide (((1 : Nat) : Int) < (len : Int)) = true, 0 ≤ ((1 : Nat) : Int) ∧ ((1 : Nat) : Int) < (len : Int), onE (nA c 48) (nA c 56) = true, (nA c 48) < 4294967296 ^ 8, (nA c 56) < 4294967296 ^ 8, bodyOf Try.prog 8 8 = bodyOf Try.prog 8 8,
      (T8i len cap ((1 : Nat) : Int) 0, M8 c 2 (nA c 48) (nA c 56) 0) = (T8i len cap ((1 : Nat) : Int) 0, M8 c 2 (nA c 48) (nA c 56) 0), wfS (T8i len cap ((1 : Nat) : Int) 0) (M8 c 2 (nA c 48) (nA c 56) 0) = true], .normal, T8 len cap ((1 + 1 : Nat) : Int), ME c 2) := by kernel_rfl
theorem l8s_2_1 (c : Cells) {len cap : Nat} (hl : 1 < len) (ho : All (rowOb c shE 2 0)) : Goes Try.prog (bodyOf Try.prog 8 2) .normal (T8 len cap ((1 : Nat) : Int)) (ME c 2) (T8 len cap ((1 + 1 : Nat) : Int)) (ME c 2) := by
  obtain ⟨g00, g01, g02, g03, g04, g05, g10, g11, g12, g13, g14, g15, _⟩ := ho
  have w0 : nA c 48 < 4294967296 ^ 8 := g10
  have w1 : nA c 56 < 4294967296 ^ 8 := g11
  have w2 : nA c 64 < 4294967296 ^ 8 := g12
  have w3 : nA c 72 < 4294967296 ^ 8 := g13
  have w4 : nA c 80 < 4294967296 ^ 8 := g14
  have w5 : nA c 88 < 4294967296 ^ 8 := g15
  have hll : decide (((1 : Nat) : Int) < (len : Int)) = true := decide_eq_true (by omega)
  have hii : 0 ≤ ((1 : Nat) : Int) ∧ ((1 : Nat) : Int) < (len : Int) := by omega
  cases hu : onE (nA c 48) (nA c 56) with
  | false => exact Runs.goes envE8 ⟨_, _, a8_2_1n c len cap, ⟨(by first | with_reducible assumption | with_reducible exact L8 (by with_reducible assumption) | exact decide_eq_true (by omega) | exact decide_eq_false (by omega) | omega), (by first | with_reducible assumption | with_reducible exact L8 (by with_reducible assumption) | exact decide_eq_true (by omega) | exact decide_eq_false (by omega) | omega), (by first | with_reducible assumption | with_reducible exact L8 (by with_reducible assumption) | exact decide_eq_true (by omega) | exact decide_eq_false (by omega) | omega), (by first | with_reducible assumption | with_reducible exact L8 (by with_reducible assumption) | exact decide_eq_true (by omega) | exact decide_eq_false (by omega) | omega), (by first | with_reducible assumption | with_reducible exact L8 (by with_reducible assumption) | exact decide_eq_true (by omega) | exact decide_eq_false (by omega) | omega), trivial⟩, wfT8 _ _ _ _ _⟩
  | true => exact Runs.goes (envE8i c 2 len cap ((1 : Nat) : Int) hu) ⟨_, _, a8_2_1y c len cap, ⟨hll, hii, hu, w0, w1, rfl, rfl, wfT8i _ _ _ _ _ _ _ _, trivial⟩, wfT8 _ _ _ _ _⟩
end Go.Ev

namespace Go.Ev
open Go Go.Proofs Go.RowKit
theorem l8p (c : Cells)  (len cap : Nat) (m : Nat) : runTo E8 1000 (E8.S 8) (bodyOf Try.prog 8 2) (T8 len cap (m : Int)) (ME c m) [false] (T8 len cap (m : Int)) 1 =
    some ([decide ((m : Int) < (len : Int)) = false], .exit 0, T8 len cap (m : Int), ME c m) := by kernel_rfl
theorem l8q (c : Cells)  (len cap : Nat) : runTo E8 1000 (E8.S 8) (bodyOf Try.prog 8 2) (T8 len cap ((2 : Nat) : Int)) (ME c 2) [true] (T8 len cap ((2 : Nat) : Int)) 1 =
    some ([decide (((2 : Nat) : Int) < (len : Int)) = true], .exit 0, T8 len cap ((2 : Nat) : Int), ME c 2) := by kernel_rfl
theorem l8loop (c : Cells)  (len cap : Nat) {m : Nat}  (hm : m = min len 2) (ho : All (rowOb c shE m 0)) : Goes Try.prog (.loop (bodyOf Try.prog 8 2)) (.exit 0) (T8 len cap ((0 : Nat) : Int)) (ME c m) (T8 len cap (m : Int)) (ME c m) := by
  refine loop_goes (N := m) (k := 1) (T := fun i => T8 len cap (i : Int)) (M := fun _ => ME c m) (by simp) (fun _ _ => rfl) (fun i hi => ?_) ?_
  · have h3 : (m = 1 ∧ i = 0) ∨ (m = 2 ∧ i = 0) ∨ (m = 2 ∧ i = 1) := by omega
    have hl : i < len := by omega
    clear hm
    rcases h3 with ⟨rfl, rfl⟩ | ⟨rfl, rfl⟩ | ⟨rfl, rfl⟩
    · exact l8s_1_0 c hl ho
    · exact l8s_2_0 c hl ho
    · exact l8s_2_1 c hl ho
  · by_cases h : m < len
    · obtain rfl : m = 2 := by omega
      exact Runs.goes envE8 ⟨[true], _, l8q c len cap, ⟨decide_eq_true (by omega), trivial⟩, wfT8 _ _ _ _ _⟩
    · exact Runs.goes envE8 ⟨[false], _, l8p c len cap m, ⟨decide_eq_false (by omega), trivial⟩, wfT8 _ _ _ _ _⟩
noncomputable def l8X (c : Cells)  (len cap : Nat) (m : Nat) : Env := withL E8 2 (bodyOf Try.prog 8 2) (sumC (T8 len cap ((0 : Nat) : Int)) (ME c m) (T8 len cap (m : Int)) (ME c m) (.exit 0))
theorem l8Xok (c : Cells)  (len cap : Nat) {m : Nat}  (hm : m = min len 2) (ho : All (rowOb c shE m 0)) : EnvOK (l8X c len cap m) := envWithL envE8 (sumC_ok rfl (l8loop c len cap  hm ho))
theorem l8run8 (c : Cells) (len cap m : Nat) : dropM (callBy (l8X c len cap m) (evalC (l8X c len cap m) 1000) 8 [.one (.sl 0 0 len cap)] [rowB c shE m 53] []) =
    some ([(bodyOf Try.prog 8 2) = (bodyOf Try.prog 8 2), (T8 len cap ((0 : Nat) : Int), ME c m) = (T8 len cap ((0 : Nat) : Int), ME c m), wfS (T8 len cap ((0 : Nat) : Int)) (ME c m) = true], bV true) := by kernel_rfl
theorem l8nil8 : dropM (callBy E8 (evalC E8 1000) 8 [.one (.v (.slice none 0 0))] [] [false]) = some ([decide (((0 : Nat) : Int) < ((0 : Nat) : Int)) = false], bV true) := by kernel_rfl
theorem l8nilo8 : All [decide (((0 : Nat) : Int) < ((0 : Nat) : Int)) = false] := ⟨by decide, trivial⟩
theorem l8nila8 (w : World) : Calls E8.P 8 #[.slice none 0 0] w (Trues w) := law_nilD envE8 l8nil8 l8nilo8 w
theorem l8nilc8 (w : World) : Calls Try.prog 8 #[.slice none 0 0] w (Trues w) := l8nila8 w
set_option maxRecDepth 100000 in
theorem law8 {H : Type} {enc : TypeId × Value → H} {r : Reach} {W : World} {base : Nat} {v : Value} {d : DataW H} {ps : List MemPlace} (hval : Value.okWide Try.prog W r base 49 v) (h : DataW.Trod enc Try.prog W 0 (fun _ => true) true 49 v d ps) :
    Calls Try.prog 8 #[v] W (Trues W) := by
  refine rows_calls shE (K := 2) (Q := Trues) u49 k53 s53 l8nilc8 ?_ hval h
  intro c m len cap hm _ _ ho w φ hmr
  have h2 : All [(bodyOf Try.prog 8 2) = (bodyOf Try.prog 8 2), (T8 len cap ((0 : Nat) : Int), ME c m) = (T8 len cap ((0 : Nat) : Int), ME c m), wfS (T8 len cap ((0 : Nat) : Int)) (ME c m) = true] := ⟨rfl, rfl, wfT8 _ _ _ _ _, trivial⟩
  have h3 := law_runD (l8Xok c len cap  hm ho) (l8run8 c len cap m) h2 hmr
  exact h3
end Go.Ev

namespace Go.Proofs.Ytpnappendjomoaa.Laws
open Go Go.Ev Go.RowKit Go.ChangeShapes Go.WideShapes Go.ChangeAt

set_option maxRecDepth 100000 in
theorem lifted8 (os : Os) (started : os.Started) (H : Type) (enc : TypeId × Value → H) :
    ReturnsInHanded {} Try.checked os 8 .any (Rows.edwSmallSpec.pre6 enc Try.prog Try.f8 Rows.edwSmallRow.domain false) (Rows.edwSmallSpec.post enc Try.prog Try.f8 false true false false) := by
  refine returnsInHanded_of_change (C := Try.checked) own started (by kernel_rfl) Try.func8
    (ChangeSpec.witness6 (enc := enc) (C := Try.checked) false ⟨#[], #[.slice none 0 0], []⟩ 8 (by kernel_rfl) (by kernel_rfl) (by kernel_rfl) (by kernel_rfl)) ?_
  intro W base args ds gs before hval0 hW _ _
  have hval : ∀ (j : Nat) t v, Try.f8.params[j]? = some t → args[j]? = some v → Value.okWide Try.prog W .any base t v := hval0
  have hW' := hW
  obtain ⟨p, q, hA0, hV, hbef, hfz, hnd⟩ := hW
  have hp : Try.f8.params = #[49] := by kernel_rfl
  have hA : DataW.TrodAll enc Try.prog W 0 (fun _ => true) true Try.f8.params.toList args.toList ds p := hA0
  rw [hp] at hA hval
  obtain ⟨v0, d0, rfl, rfl, h0⟩ := trodAll_one hA
  obtain ⟨rfl, rfl⟩ := trodVars_none hV
  refine (law8 (hval 0 49 v0 rfl rfl) h0).mono ?_
  rintro e W' ⟨rfl, hb⟩
  exact ⟨_, rfl, post_true (tb := 4) rfl hp (by kernel_rfl) u4 laid rd49 row49 rfl rfl hW' hb⟩

theorem holds8 : Rows.EdwSmallSaid :=
  OpenClaim.holds_of_wide 8 Try.f8 rfl rfl rfl rfl rfl rfl rfl ⟨rfl, rfl, rfl, rfl, rfl⟩ rfl rfl rfl rfl rfl (by kernel_rfl) Try.func8 (by kernel_rfl)
    (of_decide_eq_true (by kernel_rfl)) (by unfold Func.isWrapper; first | (rw [if_pos (by decide +kernel)]; kernel_rfl) | (rw [if_neg (by decide +kernel)]; exact ⟨rfl, rfl⟩))
    (fun os started H enc _ => lifted8 os started H enc)

end Go.Proofs.Ytpnappendjomoaa.Laws

namespace Go.Proofs.Ytpnappendjomoaa
open Go
theorem edwSmall_holds : Rows.EdwSmallSaid := Laws.holds8
end Go.Proofs.Ytpnappendjomoaa

