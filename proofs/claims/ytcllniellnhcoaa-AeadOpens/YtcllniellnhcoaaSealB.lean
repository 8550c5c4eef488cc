/- Both the asks of a law, one behind the other -/
import Derived.Test.YtcllniellnhcoaaSealA
namespace Go.Ev
open Go Go.Proofs Go.RowKit
/-! what is sealed: the law -/
noncomputable def LA (c : Cells) : List CT := [⟨27, fn27n⟩, ⟨34, fn34⟩, ⟨35, fn35⟩, ⟨36, fn36⟩, ⟨37, fnNum⟩, ⟨38, fn38⟩, ⟨39, fn38⟩, ⟨40, bT⟩] ++ LB c
theorem LA_ok (c : Cells) : AllCT (LA c) := ⟨ct27n, ct34, ct35, ct36, ct37, ct38, ct39, ctT spec40, LB_ok c⟩
noncomputable def S11 : FuncId → Nat → Bool := fun f t => match f with | 11 => memN t [31, 34, 40, 2000041, 44, 2000045, 37, 78, 91, 95, 101, 140, 144, 159, 167, 181, 185, 190, 195, 200] | 17 => memN t [47] | _ => false
noncomputable def E11 (c : Cells) : Env := mkE (LA c) S11
theorem envE11 (c : Cells) : EnvOK (E11 c) := envMk (LA_ok c) _
def T11 (len cap : Nat) (i : Int) : List AV := slots 205 [(0, sV' len cap), (2, bV false), (3, iV i)]
theorem wfT11 (c : Cells) (m len cap : Nat) (i : Int) : wfS (T11 len cap i) (MC c m) = true := wfC c m (by kernel_rfl)
def askP (x : Nat → ByteArray) (n : Nat → Nat) : List Piece := [.a (.v (.string (x 0))), .a (.v (.string (x 1))), .a (.v (.string (x 2))), .a (.v (.string (x 3))), .a (.u .u32 (n 0)), .a (.u .u32 (n 1)), .a (.u .u32 (n 2)), .a (.u .u32 (n 3)), .a (.u .u32 (n 4))]
def b2A (x y : Nat → ByteArray) (n p : Nat → Nat) : Blk := ⟨askP x n ++ askP y p, 38, true, false, 0⟩
theorem b2A_free (x y : Nat → ByteArray) (n p : Nat → Nat) : Free (b2A x y n p) := fun _ => rfl
def TK (len cap : Nat) (i k : Int) : List AV := slots 205 [(0, sV' len cap), (2, bV false), (3, iV i), (4, .val (.one (.sl 1 0 2 2))), (5, iV k)]
def MK (c : Cells) (m : Nat) (x y : Nat → ByteArray) (n p : Nat → Nat) : List Blk := [rowB c shC m 38, b2A x y n p]
theorem tTK (len cap : Nat) (i k : Int) : tmsWf 2 (TK len cap i k) = true := by kernel_rfl
theorem wfTK (c : Cells) (m : Nat) (x y : Nat → ByteArray) (n p : Nat → Nat) (len cap : Nat) (i k : Int) : wfS (TK len cap i k) (MK c m x y n p) = true := wfS_of (by
  intro b hb
  simp only [MK, List.mem_cons, List.not_mem_nil, or_false] at hb
  rcases hb with rfl | rfl
  · exact rowB_free _ _ _ _
  · exact b2A_free _ _ _ _) (tTK len cap i k)
def x120 : ByteArray := ⟨#[120]⟩
theorem sK0y (c : Cells) (m len cap : Nat) (i : Int) (x y : Nat → ByteArray) (n p : Nat → Nat) : runTo (E11 c) 1000 ((E11 c).S 11) (bodyOf Try.prog 11 8) (TK len cap i ((0 : Nat) : Int)) (MK c m x y n p) [true, false, false, false, false, false, false, false, false, false, false] (TK len cap i ((0 + 1 : Nat) : Int)) 2 =
  some ([decide (sealE (x 0) (x 1) (x 2) (x 3) = 0) = true, fitKN (x 0) (x 1) = true, (x 2).size ≤ 100000, (x 3).size ≤ 100000, (!decide (sealE (x 0) (x 1) (x 2) (x 3) = sealE (x 0) (x 1) (x 2) (x 3))) = false, (!((sealR (x 0) (x 1) (x 2) (x 3)).toList == (sealB (x 0) (x 1) (x 2) (x 3)).toList)) = false, (sealB (x 0) (x 1) (x 2) (x 3)).size + x120.size ≤ 9223372036854775807, (!decide (openE (x 0) (x 1) (x 2) (sealB (x 0) (x 1) (x 2) (x 3)) = openE (x 0) (x 1) (x 2) (sealB (x 0) (x 1) (x 2) (x 3)))) = false, (!((openR (x 0) (x 1) (x 2) (sealB (x 0) (x 1) (x 2) (x 3))).toList == (openR (x 0) (x 1) (x 2) (sealB (x 0) (x 1) (x 2) (x 3))).toList)) = false, (!decide (openE (x 0) (x 1) (x 2) (x 3) = openE (x 0) (x 1) (x 2) (x 3))) = false, (!((openR (x 0) (x 1) (x 2) (x 3)).toList == (openR (x 0) (x 1) (x 2) (x 3)).toList)) = false, (!decide (openE (x 0) (x 1) (x 2) ((sealB (x 0) (x 1) (x 2) (x 3)) ++ x120) = openE (x 0) (x 1) (x 2) ((sealB (x 0) (x 1) (x 2) (x 3)) ++ x120))) = false, (!((openR (x 0) (x 1) (x 2) ((sealB (x 0) (x 1) (x 2) (x 3)) ++ x120)).toList == (openR (x 0) (x 1) (x 2) ((sealB (x 0) (x 1) (x 2) (x 3)) ++ x120)).toList)) = false, (!decide (openE (x 0) (x 1) (x 2) ⟨#[]⟩ = openE (x 0) (x 1) (x 2) ⟨#[]⟩)) = false, (!((openR (x 0) (x 1) (x 2) ⟨#[]⟩).toList == (openR (x 0) (x 1) (x 2) ⟨#[]⟩).toList)) = false], .normal, TK len cap i ((0 + 1 : Nat) : Int), MK c m x y n p) := by kernel_rfl
theorem sK0n (c : Cells) (m len cap : Nat) (i : Int) (x y : Nat → ByteArray) (n p : Nat → Nat) : runTo (E11 c) 1000 ((E11 c).S 11) (bodyOf Try.prog 11 8) (TK len cap i ((0 : Nat) : Int)) (MK c m x y n p) [false, false, false, false, false, false, false, false, false, false, false] (TK len cap i ((0 + 1 : Nat) : Int)) 2 =
  some ([decide (sealE (x 0) (x 1) (x 2) (x 3) = 0) = false, (!decide (sealE (x 0) (x 1) (x 2) (x 3) = sealE (x 0) (x 1) (x 2) (x 3))) = false, (!((sealR (x 0) (x 1) (x 2) (x 3)).toList == (⟨#[]⟩ : ByteArray).toList)) = false, (⟨#[]⟩ : ByteArray).size + x120.size ≤ 9223372036854775807, (!decide (openE (x 0) (x 1) (x 2) (⟨#[]⟩ : ByteArray) = openE (x 0) (x 1) (x 2) (⟨#[]⟩ : ByteArray))) = false, (!((openR (x 0) (x 1) (x 2) (⟨#[]⟩ : ByteArray)).toList == (openR (x 0) (x 1) (x 2) (⟨#[]⟩ : ByteArray)).toList)) = false, (!decide (openE (x 0) (x 1) (x 2) (x 3) = openE (x 0) (x 1) (x 2) (x 3))) = false, (!((openR (x 0) (x 1) (x 2) (x 3)).toList == (openR (x 0) (x 1) (x 2) (x 3)).toList)) = false, (!decide (openE (x 0) (x 1) (x 2) ((⟨#[]⟩ : ByteArray) ++ x120) = openE (x 0) (x 1) (x 2) ((⟨#[]⟩ : ByteArray) ++ x120))) = false, (!((openR (x 0) (x 1) (x 2) ((⟨#[]⟩ : ByteArray) ++ x120)).toList == (openR (x 0) (x 1) (x 2) ((⟨#[]⟩ : ByteArray) ++ x120)).toList)) = false, (!decide (openE (x 0) (x 1) (x 2) ⟨#[]⟩ = openE (x 0) (x 1) (x 2) ⟨#[]⟩)) = false, (!((openR (x 0) (x 1) (x 2) ⟨#[]⟩).toList == (openR (x 0) (x 1) (x 2) ⟨#[]⟩).toList)) = false], .normal, TK len cap i ((0 + 1 : Nat) : Int), MK c m x y n p) := by kernel_rfl
theorem sK1y (c : Cells) (m len cap : Nat) (i : Int) (x y : Nat → ByteArray) (n p : Nat → Nat) : runTo (E11 c) 1000 ((E11 c).S 11) (bodyOf Try.prog 11 8) (TK len cap i ((1 : Nat) : Int)) (MK c m x y n p) [true, false, false, false, false, false, false, false, false, false, false] (TK len cap i ((1 + 1 : Nat) : Int)) 2 =
  some ([decide (sealE (y 0) (y 1) (y 2) (y 3) = 0) = true, fitKN (y 0) (y 1) = true, (y 2).size ≤ 100000, (y 3).size ≤ 100000, (!decide (sealE (y 0) (y 1) (y 2) (y 3) = sealE (y 0) (y 1) (y 2) (y 3))) = false, (!((sealR (y 0) (y 1) (y 2) (y 3)).toList == (sealB (y 0) (y 1) (y 2) (y 3)).toList)) = false, (sealB (y 0) (y 1) (y 2) (y 3)).size + x120.size ≤ 9223372036854775807, (!decide (openE (y 0) (y 1) (y 2) (sealB (y 0) (y 1) (y 2) (y 3)) = openE (y 0) (y 1) (y 2) (sealB (y 0) (y 1) (y 2) (y 3)))) = false, (!((openR (y 0) (y 1) (y 2) (sealB (y 0) (y 1) (y 2) (y 3))).toList == (openR (y 0) (y 1) (y 2) (sealB (y 0) (y 1) (y 2) (y 3))).toList)) = false, (!decide (openE (y 0) (y 1) (y 2) (y 3) = openE (y 0) (y 1) (y 2) (y 3))) = false, (!((openR (y 0) (y 1) (y 2) (y 3)).toList == (openR (y 0) (y 1) (y 2) (y 3)).toList)) = false, (!decide (openE (y 0) (y 1) (y 2) ((sealB (y 0) (y 1) (y 2) (y 3)) ++ x120) = openE (y 0) (y 1) (y 2) ((sealB (y 0) (y 1) (y 2) (y 3)) ++ x120))) = false, (!((openR (y 0) (y 1) (y 2) ((sealB (y 0) (y 1) (y 2) (y 3)) ++ x120)).toList == (openR (y 0) (y 1) (y 2) ((sealB (y 0) (y 1) (y 2) (y 3)) ++ x120)).toList)) = false, (!decide (openE (y 0) (y 1) (y 2) ⟨#[]⟩ = openE (y 0) (y 1) (y 2) ⟨#[]⟩)) = false, (!((openR (y 0) (y 1) (y 2) ⟨#[]⟩).toList == (openR (y 0) (y 1) (y 2) ⟨#[]⟩).toList)) = false], .normal, TK len cap i ((1 + 1 : Nat) : Int), MK c m x y n p) := by kernel_rfl
theorem sK1n (c : Cells) (m len cap : Nat) (i : Int) (x y : Nat → ByteArray) (n p : Nat → Nat) : runTo (E11 c) 1000 ((E11 c).S 11) (bodyOf Try.prog 11 8) (TK len cap i ((1 : Nat) : Int)) (MK c m x y n p) [false, false, false, false, false, false, false, false, false, false, false] (TK len cap i ((1 + 1 : Nat) : Int)) 2 =
  some ([decide (sealE (y 0) (y 1) (y 2) (y 3) = 0) = false, (!decide (sealE (y 0) (y 1) (y 2) (y 3) = sealE (y 0) (y 1) (y 2) (y 3))) = false, (!((sealR (y 0) (y 1) (y 2) (y 3)).toList == (⟨#[]⟩ : ByteArray).toList)) = false, (⟨#[]⟩ : ByteArray).size + x120.size ≤ 9223372036854775807, (!decide (openE (y 0) (y 1) (y 2) (⟨#[]⟩ : ByteArray) = openE (y 0) (y 1) (y 2) (⟨#[]⟩ : ByteArray))) = false, (!((openR (y 0) (y 1) (y 2) (⟨#[]⟩ : ByteArray)).toList == (openR (y 0) (y 1) (y 2) (⟨#[]⟩ : ByteArray)).toList)) = false, (!decide (openE (y 0) (y 1) (y 2) (y 3) = openE (y 0) (y 1) (y 2) (y 3))) = false, (!((openR (y 0) (y 1) (y 2) (y 3)).toList == (openR (y 0) (y 1) (y 2) (y 3)).toList)) = false, (!decide (openE (y 0) (y 1) (y 2) ((⟨#[]⟩ : ByteArray) ++ x120) = openE (y 0) (y 1) (y 2) ((⟨#[]⟩ : ByteArray) ++ x120))) = false, (!((openR (y 0) (y 1) (y 2) ((⟨#[]⟩ : ByteArray) ++ x120)).toList == (openR (y 0) (y 1) (y 2) ((⟨#[]⟩ : ByteArray) ++ x120)).toList)) = false, (!decide (openE (y 0) (y 1) (y 2) ⟨#[]⟩ = openE (y 0) (y 1) (y 2) ⟨#[]⟩)) = false, (!((openR (y 0) (y 1) (y 2) ⟨#[]⟩).toList == (openR (y 0) (y 1) (y 2) ⟨#[]⟩).toList)) = false], .normal, TK len cap i ((1 + 1 : Nat) : Int), MK c m x y n p) := by kernel_rfl
theorem sKx (c : Cells) (m len cap : Nat) (i : Int) (x y : Nat → ByteArray) (n p : Nat → Nat) : runTo (E11 c) 1000 ((E11 c).S 11) (bodyOf Try.prog 11 8) (TK len cap i ((2 : Nat) : Int)) (MK c m x y n p) [] (TK len cap i ((2 : Nat) : Int)) 2 =
  some ([], .exit 2, TK len cap i ((2 : Nat) : Int), MK c m x y n p) := by kernel_rfl
theorem neq_ii (z : Int) : (!decide (z = z)) = false := by simp
theorem neq_ss (s : ByteArray) : (!(s.toList == s.toList)) = false := by simp
theorem seal_y {k t ad s : ByteArray} (h : sealE k t ad s = 0) : fitKN k t = true ∧ ad.size ≤ 4096 ∧ s.size ≤ 4096 ∧ sealR k t ad s = sealB k t ad s := by
  unfold sealE at h
  unfold sealR
  cases hf : fitKN k t
  · rw [hf] at h; simp at h
  · rw [hf, cond_true] at h
    cases hl : limOk 4096 ad s
    · rw [hl] at h; simp at h
    · unfold limOk at hl
      simp only [Bool.and_eq_true, decide_eq_true_iff] at hl
      exact ⟨rfl, hl.1, hl.2, rfl⟩
theorem seal_n {k t ad s : ByteArray} (h : sealE k t ad s ≠ 0) : sealR k t ad s = ⟨#[]⟩ := by
  unfold sealE at h
  unfold sealR
  cases hf : fitKN k t
  · rfl
  · rw [hf, cond_true] at h
    cases hl : limOk 4096 ad s
    · rfl
    · rw [hl] at h; exact absurd rfl h
theorem lKloop (c : Cells) (m len cap : Nat) (i : Int) (x y : Nat → ByteArray) (n p : Nat → Nat) : Goes Try.prog (.loop (bodyOf Try.prog 11 8)) (.exit 2) (TK len cap i ((0 : Nat) : Int)) (MK c m x y n p) (TK len cap i ((2 : Nat) : Int)) (MK c m x y n p) := by
  refine loop_goes (N := 2) (k := 2) (T := fun k => TK len cap i (k : Int)) (M := fun _ => MK c m x y n p) (by simp) (fun _ _ => rfl) (fun k hk => ?_) ?_
  · match k, hk with
    | 0, _ =>
      by_cases h : sealE (x 0) (x 1) (x 2) (x 3) = 0
      · obtain ⟨h1, h2, h3, h4⟩ := seal_y h
        exact Runs.goes (envE11 c) ⟨_, _, sK0y c m len cap i x y n p, ⟨decide_eq_true h, h1, by omega, by omega, neq_ii _, by rw [h4]; exact neq_ss _, by rw [sealB_size, show x120.size = 1 from rfl]; omega, neq_ii _, neq_ss _, neq_ii _, neq_ss _, neq_ii _, neq_ss _, neq_ii _, neq_ss _, trivial⟩, wfTK _ _ _ _ _ _ _ _ _ _⟩
      · have h4 := seal_n h
        exact Runs.goes (envE11 c) ⟨_, _, sK0n c m len cap i x y n p, ⟨decide_eq_false h, neq_ii _, by rw [h4]; exact neq_ss _, by decide, neq_ii _, neq_ss _, neq_ii _, neq_ss _, neq_ii _, neq_ss _, neq_ii _, neq_ss _, trivial⟩, wfTK _ _ _ _ _ _ _ _ _ _⟩
    | 1, _ =>
      by_cases h : sealE (y 0) (y 1) (y 2) (y 3) = 0
      · obtain ⟨h1, h2, h3, h4⟩ := seal_y h
        exact Runs.goes (envE11 c) ⟨_, _, sK1y c m len cap i x y n p, ⟨decide_eq_true h, h1, by omega, by omega, neq_ii _, by rw [h4]; exact neq_ss _, by rw [sealB_size, show x120.size = 1 from rfl]; omega, neq_ii _, neq_ss _, neq_ii _, neq_ss _, neq_ii _, neq_ss _, neq_ii _, neq_ss _, trivial⟩, wfTK _ _ _ _ _ _ _ _ _ _⟩
      · have h4 := seal_n h
        exact Runs.goes (envE11 c) ⟨_, _, sK1n c m len cap i x y n p, ⟨decide_eq_false h, neq_ii _, by rw [h4]; exact neq_ss _, by decide, neq_ii _, neq_ss _, neq_ii _, neq_ss _, neq_ii _, neq_ss _, neq_ii _, neq_ss _, trivial⟩, wfTK _ _ _ _ _ _ _ _ _ _⟩
  · exact Runs.goes (envE11 c) ⟨_, _, sKx c m len cap i x y n p, trivial, wfTK _ _ _ _ _ _ _ _ _ _⟩
def xL (c : Cells) (i : Nat) : Nat → ByteArray
  | 0 => sA c (0 + i * 9)
  | 1 => sA c (0 + i * 9 + 1)
  | 2 => sA c (0 + i * 9 + 1 + 1)
  | _ => sA c (0 + i * 9 + 1 + 1 + 1)
def xA (c : Cells) (i : Nat) : Nat → ByteArray
  | 0 => kfit (sA c (0 + i * 9))
  | 1 => tfit (sA c (0 + i * 9 + 1))
  | 2 => sA c (0 + i * 9 + 1 + 1)
  | _ => sA c (0 + i * 9 + 1 + 1 + 1)
def nB (c : Cells) (i : Nat) : Nat → Nat := fun j => nU c (0 + i * 9 + 4 + j)
noncomputable def EK11 (c : Cells) (len cap i : Nat) : Env := addL (E11 c) 8 (bodyOf Try.prog 11 8) (sumC (TK len cap (i : Int) ((0 : Nat) : Int)) (MK c len (xL c i) (xA c i) (nB c i) (nB c i)) (TK len cap (i : Int) ((2 : Nat) : Int)) (MK c len (xL c i) (xA c i) (nB c i) (nB c i)) (.exit 2))
theorem envEK11 (c : Cells) (len cap i : Nat) : EnvOK (EK11 c len cap i) := envAddL (envE11 c) (sumC_ok rfl (lKloop c len len cap (i : Int) (xL c i) (xA c i) (nB c i) (nB c i)))
theorem s11a (c : Cells) (len cap i : Nat) : runTo (EK11 c len cap i) 1000 ((EK11 c len cap i).S 11) (bodyOf Try.prog 11 4) (T11 len cap (i : Int)) (MC c len) [true, true] (T11 len cap ((i : Int) + 1)) 1 =
  some ([decide ((i : Int) < (len : Int)) = true, decide ((i : Int) < 6) = true, (0 : Int) ≤ (i : Int) ∧ (i : Int) < (len : Int), LoadsAs Try.prog 38 (rowPs c shC len 0) (0 + i * 9) (.agg (fldPs c shC (0 + i * 9))), (0 : Int) ≤ (i : Int) ∧ (i : Int) < (len : Int), LoadsAs Try.prog 38 (rowPs c shC len 0) (0 + i * 9) (.agg (fldPs c shC (0 + i * 9))), (sA c (0 + i * 9)).size ≤ 1000000, (sA c (0 + i * 9 + 1)).size ≤ 1000000, bodyOf Try.prog 11 8 = bodyOf Try.prog 11 8, ((TK len cap (i : Int) ((0 : Nat) : Int)), (MK c len (xL c i) (xA c i) (nB c i) (nB c i))) = ((TK len cap (i : Int) ((0 : Nat) : Int)), (MK c len (xL c i) (xA c i) (nB c i) (nB c i))), wfS (TK len cap (i : Int) ((0 : Nat) : Int)) (MK c len (xL c i) (xA c i) (nB c i) (nB c i)) = true, inI ((i : Int) + 1)], .normal, T11 len cap ((i : Int) + 1), MC c len) := by kernel_rfl
theorem s11o (c : Cells) (len cap i : Nat) : runTo (E11 c) 1000 ((E11 c).S 11) (bodyOf Try.prog 11 4) (T11 len cap (i : Int)) (MC c len) [false] (T11 len cap (i : Int)) 1 = some ([decide ((i : Int) < (len : Int)) = false], .exit 0, T11 len cap (i : Int), MC c len) := by kernel_rfl
theorem s11p (c : Cells) (len cap i : Nat) : runTo (E11 c) 1000 ((E11 c).S 11) (bodyOf Try.prog 11 4) (T11 len cap (i : Int)) (MC c len) [true, false] (T11 len cap (i : Int)) 1 = some ([decide ((i : Int) < (len : Int)) = true, decide ((i : Int) < 6) = false], .exit 0, T11 len cap (i : Int), MC c len) := by kernel_rfl
theorem l11loop (c : Cells) (len cap : Nat) (hs : ∀ j, j < len → (sA c (0 + j * 9 + 0)).size ≤ 9000 ∧ (sA c (0 + j * 9 + 1)).size ≤ 9000) : Goes Try.prog (.loop (bodyOf Try.prog 11 4)) (.exit 0) (T11 len cap ((0 : Nat) : Int)) (MC c len) (T11 len cap ((min len 6 : Nat) : Int)) (MC c len) := by
  refine loop_goes (N := min len 6) (k := 1) (T := fun i => T11 len cap (i : Int)) (M := fun _ => MC c len) (by simp) (fun _ _ => rfl) (fun i hi => ?_) ?_
  · obtain ⟨h1, h2⟩ := hs i (by omega)
    have h1' : (sA c (0 + i * 9)).size ≤ 9000 := h1
    have b1 : (0 : Int) ≤ (i : Int) ∧ (i : Int) < (len : Int) := by omega
    have hi' : i < len := by omega
    exact Runs.goes (envEK11 c len cap i) ⟨_, _, s11a c len cap i, ⟨decide_eq_true (by omega), decide_eq_true (by omega), b1, ld38 hi', b1, ld38 hi', by omega, by omega, rfl, rfl, wfTK _ _ _ _ _ _ _ _ _ _, by unfold inI; omega, trivial⟩, wfT11 _ _ _ _ _⟩
  · by_cases h : len ≤ 6
    · rw [show min len 6 = len by omega]
      exact Runs.goes (envE11 c) ⟨_, _, s11o c len cap len, ⟨decide_eq_false (by omega), trivial⟩, wfT11 _ _ _ _ _⟩
    · rw [show min len 6 = 6 by omega]
      exact Runs.goes (envE11 c) ⟨_, _, s11p c len cap 6, ⟨decide_eq_true (by omega), decide_eq_false (by omega), trivial⟩, wfT11 _ _ _ _ _⟩
end Go.Ev

