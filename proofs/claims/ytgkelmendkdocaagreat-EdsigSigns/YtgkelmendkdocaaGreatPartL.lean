/- Roots, and points of the curve: what the functions on them come to -/
import Derived.Test.YtgkelmendkdocaaGreatPartK
namespace Go.Ev
open Go Go.Proofs Go.RowKit

theorem tb_min : ∀ n, n < 256 → tb n = 0 ∨ 2 ^ (tb n - 1) ≤ n := by decide +kernel
theorem tb_zero : ∀ n, n < 256 → (tb n = 0 ↔ n = 0) := by decide +kernel
theorem min_shift {x q c : Nat} (h : q = 0 ∨ 2 ^ (q - 1) ≤ x / 2 ^ c) (h0 : q = 0 → x / 2 ^ c = 0) (hx : 0 < x / 2 ^ c) : 2 ^ (c + q - 1) ≤ x := by
  rcases h with h | h
  · have := h0 h; omega
  · have hq : 0 < q := by
      rcases Nat.eq_zero_or_pos q with h' | h'
      · have := h0 h'; omega
      · exact h'
    rw [show c + q - 1 = (q - 1) + c by omega, Nat.pow_add]
    exact Nat.le_trans (Nat.mul_le_mul_right _ h) (Nat.div_mul_le_self _ _)
theorem len32_min {x : Nat} (hx : x < 4294967296) : len32 x = 0 ∨ 2 ^ (len32 x - 1) ≤ x := by
  by_cases h1 : 65536 ≤ x
  · by_cases h2 : 256 ≤ x / 65536
    · have hl : len32 x = 24 + tb (x / 65536 / 256 % 256) := by simp only [len32, decide_eq_true h1, decide_eq_true h2, cond_true]
      have hn : x / 65536 / 256 % 256 < 256 := by omega
      have he : x / 65536 / 256 % 256 = x / 2 ^ 24 := by omega
      right; rw [hl]
      exact min_shift (by have := tb_min _ hn; rwa [he] at this ⊢) (by intro h; have := (tb_zero _ hn).1 h; omega) (by omega)
    · have hl : len32 x = 16 + tb (x / 65536 % 256) := by simp only [len32, decide_eq_true h1, decide_eq_false h2, cond_true, cond_false]
      have hn : x / 65536 % 256 < 256 := by omega
      have he : x / 65536 % 256 = x / 2 ^ 16 := by omega
      right; rw [hl]
      exact min_shift (by have := tb_min _ hn; rwa [he] at this ⊢) (by intro h; have := (tb_zero _ hn).1 h; omega) (by omega)
  · by_cases h2 : 256 ≤ x
    · have hl : len32 x = 8 + tb (x / 256 % 256) := by simp only [len32, decide_eq_false h1, decide_eq_true h2, cond_true, cond_false]
      have hn : x / 256 % 256 < 256 := by omega
      have he : x / 256 % 256 = x / 2 ^ 8 := by omega
      right; rw [hl]
      exact min_shift (by have := tb_min _ hn; rwa [he] at this ⊢) (by intro h; have := (tb_zero _ hn).1 h; omega) (by omega)
    · have hl : len32 x = tb (x % 256) := by simp only [len32, decide_eq_false h1, decide_eq_false h2, cond_false]
      have hn : x % 256 < 256 := by omega
      have := tb_min _ hn
      rw [hl]
      rw [show x % 256 = x by omega] at *
      exact this
theorem len32_zero {x : Nat} (hx : x < 4294967296) (h : len32 x = 0) : x = 0 := by
  have := (spec91 x hx).2.1
  rw [h] at this; omega
theorem lenU_min {a : Nat → Nat} (ha : ∀ i, a i < 4294967296) : ∀ n, lenU a n = 0 ∨ 2 ^ (lenU a n - 1) ≤ valU n 0 a
  | 0 => .inl rfl
  | j + 1 => by
    simp only [lenU]
    rw [valU_snoc, Nat.zero_add]
    split
    · rename_i h; have := of_decide_eq_true h; rw [this, Nat.mul_zero, Nat.add_zero]; exact lenU_min ha j
    · rename_i h
      have h0 := of_decide_eq_false h
      right
      rcases len32_min (ha j) with h1 | h1
      · exact absurd (len32_zero (ha j) h1) h0
      · have hp : 0 < len32 (a j) := by
          rcases Nat.eq_zero_or_pos (len32 (a j)) with h2 | h2
          · exact absurd (len32_zero (ha j) h2) h0
          · exact h2
        rw [show 32 * j + len32 (a j) - 1 = 32 * j + (len32 (a j) - 1) by omega, Nat.pow_add, two_pow_mul]
        exact Nat.le_trans (Nat.mul_le_mul_left _ h1) (Nat.le_add_left _ _)
theorem lenQ_min (a : Nat) : ∀ n, lenQ a n = 0 ∨ 2 ^ (lenQ a n - 1) ≤ a
  | 0 => .inl rfl
  | n + 1 => by
    rw [lenQ]
    cases hb : bitB a n with
    | true =>
      right
      have h0 : bitN a n = 1 := of_decide_eq_true hb
      unfold bitN at h0
      show 2 ^ (n + 1 - 1) ≤ a
      rw [Nat.add_sub_cancel]
      apply Nat.le_of_not_lt
      intro h
      rw [Nat.div_eq_of_lt h] at h0
      exact absurd h0 (by decide)
    | false => exact lenQ_min a n
theorem len_uniq {a L M : Nat} (h1 : a < 2 ^ L) (h2 : L = 0 ∨ 2 ^ (L - 1) ≤ a) (h3 : a < 2 ^ M) (h4 : M = 0 ∨ 2 ^ (M - 1) ≤ a) : L = M := by
  have key : ∀ {L M : Nat}, (L = 0 ∨ 2 ^ (L - 1) ≤ a) → a < 2 ^ M → L ≤ M := by
    intro L M h2 h3
    rcases h2 with h2 | h2
    · omega
    · have := (Nat.pow_lt_pow_iff_right (a := 2) (by decide)).1 (Nat.lt_of_le_of_lt h2 h3)
      omega
  exact Nat.le_antisymm (key h2 h3) (key h4 h1)
theorem lenQ_N {a : Nat} (ha : a < 4294967296 ^ 8) : lenQ a 256 = lenN a := by
  have h1 := lenQ_spec a 256 (by rw [show (2 : Nat) ^ 256 = 4294967296 ^ 8 by decide]; exact ha)
  have h2 := lenU_min (limb_lt a) 8
  rw [valU_num a 8 ha] at h2
  exact len_uniq h1.1 (lenQ_min a 256) (lenN_spec ha).1 h2
end Go.Ev

namespace Go.Ev
open Go Go.Proofs Go.RowKit

def dN : Nat := 37095705934669439343138083508754565189542113879843219016388785533085940283555
def bXN : Nat := 15112221349535400772501151409588531511454012693041857206046113283949847762202
def bYN : Nat := 46316835694926478169428394003475163141307993866256225615783033603165251855960
theorem dN_lt : dN < modN 0 := by decide +kernel
theorem bXN_lt : bXN < modN 0 := by decide +kernel
theorem bYN_lt : bYN < modN 0 := by decide +kernel
def cV (v : AV) : List V1 → Option (List Prop × AV) := fun vs => match vs with | [] => some ([], v) | _ => none
theorem ctV {f : FuncId} {v : AV} (h : Spec f [] v) : CTok ⟨f, cV v⟩ := by
  intro vs ob r hv ho
  simp only [cV] at hv
  split at hv
  · simp only [Option.some.injEq, Prod.mk.injEq] at hv
    obtain ⟨rfl, rfl⟩ := hv
    exact h
  · simp at hv
def P2 (x y : Nat) : V1 := .agg [.num 8 x, .num 8 y]
theorem ed101 : callR E0 1000 115 [] [] = some ([], .val (.agg [.a (.u .u32 324630691), .a (.u .u32 1978355146), .a (.u .u32 1094834347), .a (.u .u32 7342669), .a (.u .u32 2004478104), .a (.u .u32 2361868409), .a (.u .u32 728759923), .a (.u .u32 1375956206)])) := by kernel_rfl
theorem spec101d : Spec 115 [] (.val (N8 dN)) := (spec_run envE0 rfl ed101 trivial rfl rfl).congr (fun _ => rfl) (fun _ => by kernel_rfl)
theorem ed73 : callR E0 1000 88 [] [] = some ([], .val (.agg [.a (.u .u32 324630691), .a (.u .u32 1978355146), .a (.u .u32 1094834347), .a (.u .u32 7342669), .a (.u .u32 2004478104), .a (.u .u32 2361868409), .a (.u .u32 728759923), .a (.u .u32 1375956206)])) := by kernel_rfl
theorem spec73d : Spec 88 [] (.val (N8 dN)) := (spec_run envE0 rfl ed73 trivial rfl rfl).congr (fun _ => rfl) (fun _ => by kernel_rfl)
theorem ed34 : callR E0 1000 48 [] [] = some ([], .val (.agg [.a (.u .u32 2401621274), .a (.u .u32 3377868128), .a (.u .u32 2502272946), .a (.u .u32 1764542304), .a (.u .u32 4258716764), .a (.u .u32 3232031281), .a (.u .u32 3446559742), .a (.u .u32 560543443), .a (.u .u32 1717986904), .a (.u .u32 1717986918), .a (.u .u32 1717986918), .a (.u .u32 1717986918), .a (.u .u32 1717986918), .a (.u .u32 1717986918), .a (.u .u32 1717986918), .a (.u .u32 1717986918)])) := by kernel_rfl
theorem spec34b : Spec 48 [] (.val (P2 bXN bYN)) := (spec_run envE0 rfl ed34 trivial rfl rfl).congr (fun _ => rfl) (fun _ => by kernel_rfl)
theorem ed44 : callR E0 1000 36 [] [] = some ([], .val (.agg [.a (.u .u32 2401621274), .a (.u .u32 3377868128), .a (.u .u32 2502272946), .a (.u .u32 1764542304), .a (.u .u32 4258716764), .a (.u .u32 3232031281), .a (.u .u32 3446559742), .a (.u .u32 560543443), .a (.u .u32 1717986904), .a (.u .u32 1717986918), .a (.u .u32 1717986918), .a (.u .u32 1717986918), .a (.u .u32 1717986918), .a (.u .u32 1717986918), .a (.u .u32 1717986918), .a (.u .u32 1717986918)])) := by kernel_rfl
theorem spec44b : Spec 36 [] (.val (P2 bXN bYN)) := (spec_run envE0 rfl ed44 trivial rfl rfl).congr (fun _ => rfl) (fun _ => by kernel_rfl)
theorem ed37 : callR E0 1000 120 [] [] = some ([], .val (.agg [.a (.u .u32 0), .a (.u .u32 0), .a (.u .u32 0), .a (.u .u32 0), .a (.u .u32 0), .a (.u .u32 0), .a (.u .u32 0), .a (.u .u32 0), .a (.u .u32 1), .a (.u .u32 0), .a (.u .u32 0), .a (.u .u32 0), .a (.u .u32 0), .a (.u .u32 0), .a (.u .u32 0), .a (.u .u32 0)])) := by kernel_rfl
theorem spec37n : Spec 120 [] (.val (P2 0 1)) := (spec_run envE0 rfl ed37 trivial rfl rfl).congr (fun _ => rfl) (fun _ => by kernel_rfl)
theorem ed45 : callR (mkE L0 noS) 1000 105 [] [] = some ([1 < 4294967296], .val (.agg (.a (.u .u32 0) :: .a (.u .u32 0) :: .a (.u .u32 0) :: .a (.u .u32 0) :: .a (.u .u32 0) :: .a (.u .u32 0) :: .a (.u .u32 0) :: .a (.u .u32 0) :: [.num 8 1]))) := by kernel_rfl
theorem spec45n : Spec 105 [] (.val (P2 0 1)) := (spec_run (envMk L0_ok noS) rfl ed45 ⟨lit1, trivial⟩ rfl rfl).congr (fun _ => rfl) (fun _ => by kernel_rfl)
noncomputable def L8a : List CT := [⟨115, cV (.val (N8 dN))⟩, ⟨88, cV (.val (N8 dN))⟩, ⟨48, cV (.val (P2 bXN bYN))⟩, ⟨36, cV (.val (P2 bXN bYN))⟩, ⟨120, cV (.val (P2 0 1))⟩, ⟨105, cV (.val (P2 0 1))⟩] ++ L0
theorem L8a_ok : AllCT L8a := ⟨ctV spec101d, ctV spec73d, ctV spec34b, ctV spec44b, ctV spec37n, ctV spec45n, L0_ok⟩

structure E4 where
  x : Nat
  y : Nat
  z : Nat
  t : Nat
def E4.lt (p : E4) : Prop := p.x < modN 0 ∧ p.y < modN 0 ∧ p.z < modN 0 ∧ p.t < modN 0
def twE : Nat := addM (modN 0) (inN (modN 0) dN) (inN (modN 0) dN)
noncomputable def eA (p q : E4) : Nat := mmN (modN 0) (subM (modN 0) p.y p.x) (subM (modN 0) q.y q.x)
noncomputable def eB (p q : E4) : Nat := mmN (modN 0) (addM (modN 0) p.y p.x) (addM (modN 0) q.y q.x)
noncomputable def eC (p q : E4) : Nat := mmN (modN 0) (mmN (modN 0) p.t twE) q.t
noncomputable def eD (p q : E4) : Nat := mmN (modN 0) (addM (modN 0) p.z p.z) q.z
noncomputable def eE (p q : E4) : Nat := subM (modN 0) (eB p q) (eA p q)
noncomputable def eF (p q : E4) : Nat := subM (modN 0) (eD p q) (eC p q)
noncomputable def eG (p q : E4) : Nat := addM (modN 0) (eD p q) (eC p q)
noncomputable def eH (p q : E4) : Nat := addM (modN 0) (eB p q) (eA p q)
noncomputable def eAdd (p q : E4) : E4 := ⟨mmN (modN 0) (eE p q) (eF p q), mmN (modN 0) (eG p q) (eH p q), mmN (modN 0) (eF p q) (eG p q), mmN (modN 0) (eE p q) (eH p q)⟩
noncomputable def eLift (x y : Nat) : E4 := ⟨inN (modN 0) x, inN (modN 0) y, inN (modN 0) 1, mmN (modN 0) (inN (modN 0) x) (inN (modN 0) y)⟩
noncomputable def eDownX (p : E4) : Nat := outN (modN 0) (mmN (modN 0) p.x (minvN (modN 0) p.z))
noncomputable def eDownY (p : E4) : Nat := outN (modN 0) (mmN (modN 0) p.y (minvN (modN 0) p.z))
theorem twE_lt : twE < modN 0 := addM_lt (modN_pos 0)
theorem eAdd_lt (p q : E4) : (eAdd p q).lt := ⟨mmN_lt (modN_pos 0), mmN_lt (modN_pos 0), mmN_lt (modN_pos 0), mmN_lt (modN_pos 0)⟩
theorem eLift_lt (x y : Nat) : (eLift x y).lt := ⟨inN_lt (modN_pos 0), inN_lt (modN_pos 0), inN_lt (modN_pos 0), mmN_lt (modN_pos 0)⟩
noncomputable def eqE (x y : Nat) : Bool := decide (subM (modN 0) (mmN (modN 0) (inN (modN 0) y) (inN (modN 0) y)) (mmN (modN 0) (inN (modN 0) x) (inN (modN 0) x)) =
  addM (modN 0) (inN (modN 0) 1) (mmN (modN 0) (inN (modN 0) dN) (mmN (modN 0) (mmN (modN 0) (inN (modN 0) x) (inN (modN 0) x)) (mmN (modN 0) (inN (modN 0) y) (inN (modN 0) y)))))
def ltE (x y : Nat) : Bool := decide (x < modN 0) && decide (y < modN 0)
noncomputable def onE (x y : Nat) : Bool := ltE x y && eqE x y
theorem onE_lt {x y : Nat} (h : onE x y = true) : x < modN 0 ∧ y < modN 0 := by
  simp only [onE, ltE, Bool.and_eq_true, decide_eq_true_iff] at h
  exact h.1

noncomputable def L8b : List CT := ⟨44, fnS [.z, .s [.n8]] gFis⟩ :: L8a
theorem L8b_ok : AllCT L8b := ⟨ct85, L8a_ok⟩
noncomputable def S66 : FuncId → Nat → Bool := fun f t => match f with | 79 => memN t [9, 14] | _ => false
theorem ed66y (x : Nat) (y : Nat) : callR (mkE L8b S66) 1000 79 [P2 x y] [true, true] =
    some ([ok1 (0 : Int) x = true, x < 4294967296 ^ 8, ok1 (0 : Int) y = true, y < 4294967296 ^ 8, (0 : Int) ≤ (0 : Int) ∧ (0 : Int) < (4 : Int), modN 0 < 4294967296 ^ 8, 0 < modN 0, x < 4294967296 ^ 8, modN 0 < 4294967296 ^ 8, 0 < modN 0, y < 4294967296 ^ 8, modN 0 < 4294967296 ^ 8, inN (modN 0) x < modN 0, inN (modN 0) x < modN 0, goodF (modN 0) (facN 0), inN (modN 0) x < 4294967296 ^ 8, inN (modN 0) x < 4294967296 ^ 8, modN 0 < 4294967296 ^ 8, inN (modN 0) y < modN 0, inN (modN 0) y < modN 0, goodF (modN 0) (facN 0), inN (modN 0) y < 4294967296 ^ 8, inN (modN 0) y < 4294967296 ^ 8, modN 0 < 4294967296 ^ 8, 0 < modN 0, 1 < 4294967296, 0 < 4294967296, 0 < 4294967296, 0 < 4294967296, 0 < 4294967296, 0 < 4294967296, 0 < 4294967296, 0 < 4294967296, modN 0 < 4294967296 ^ 8, 0 < modN 0, dN < 4294967296 ^ 8, modN 0 < 4294967296 ^ 8, mmN (modN 0) (inN (modN 0) x) (inN (modN 0) x) < modN 0, mmN (modN 0) (inN (modN 0) y) (inN (modN 0) y) < modN 0, goodF (modN 0) (facN 0), mmN (modN 0) (inN (modN 0) x) (inN (modN 0) x) < 4294967296 ^ 8, mmN (modN 0) (inN (modN 0) y) (inN (modN 0) y) < 4294967296 ^ 8, modN 0 < 4294967296 ^ 8, inN (modN 0) dN < modN 0, mmN (modN 0) (mmN (modN 0) (inN (modN 0) x) (inN (modN 0) x)) (mmN (modN 0) (inN (modN 0) y) (inN (modN 0) y)) < modN 0, goodF (modN 0) (facN 0), inN (modN 0) dN < 4294967296 ^ 8, mmN (modN 0) (mmN (modN 0) (inN (modN 0) x) (inN (modN 0) x)) (mmN (modN 0) (inN (modN 0) y) (inN (modN 0) y)) < 4294967296 ^ 8, modN 0 < 4294967296 ^ 8, inN (modN 0) 1 < modN 0, mmN (modN 0) (inN (modN 0) dN) (mmN (modN 0) (mmN (modN 0) (inN (modN 0) x) (inN (modN 0) x)) (mmN (modN 0) (inN (modN 0) y) (inN (modN 0) y))) < modN 0, inN (modN 0) 1 < 4294967296 ^ 8, mmN (modN 0) (inN (modN 0) dN) (mmN (modN 0) (mmN (modN 0) (inN (modN 0) x) (inN (modN 0) x)) (mmN (modN 0) (inN (modN 0) y) (inN (modN 0) y))) < 4294967296 ^ 8, modN 0 < 4294967296 ^ 8, mmN (modN 0) (inN (modN 0) y) (inN (modN 0) y) < modN 0, mmN (modN 0) (inN (modN 0) x) (inN (modN 0) x) < modN 0, mmN (modN 0) (inN (modN 0) y) (inN (modN 0) y) < 4294967296 ^ 8, mmN (modN 0) (inN (modN 0) x) (inN (modN 0) x) < 4294967296 ^ 8], bV (decide (subM (modN 0) (mmN (modN 0) (inN (modN 0) y) (inN (modN 0) y)) (mmN (modN 0) (inN (modN 0) x) (inN (modN 0) x)) % 4294967296 ^ 8 = addM (modN 0) (inN (modN 0) 1) (mmN (modN 0) (inN (modN 0) dN) (mmN (modN 0) (mmN (modN 0) (inN (modN 0) x) (inN (modN 0) x)) (mmN (modN 0) (inN (modN 0) y) (inN (modN 0) y)))) % 4294967296 ^ 8) && true)) := by kernel_rfl
theorem ed66n (x : Nat) (y : Nat) : callR (mkE L8b S66) 1000 79 [P2 x y] [true, false] =
    some ([ok1 (0 : Int) x = true, x < 4294967296 ^ 8, ok1 (0 : Int) y = false, y < 4294967296 ^ 8], bV false) := by kernel_rfl
theorem ed66m (x : Nat) (y : Nat) : callR (mkE L8b S66) 1000 79 [P2 x y] [false] =
    some ([ok1 (0 : Int) x = false, x < 4294967296 ^ 8], bV false) := by kernel_rfl

theorem ok1_0 {x : Nat} : ok1 0 x = decide (x < modN 0) := by
  unfold ok1 lessB; rfl
theorem spec66e (x y : Nat) (hx : x < 4294967296 ^ 8) (hy : y < 4294967296 ^ 8) : Spec 79 [P2 x y] (bV (onE x y)) := by
  unfold onE ltE
  cases h1 : decide (x < modN 0) with
  | false =>
    have h1' : ok1 0 x = false := by rw [ok1_0]; exact h1
    rw [Bool.false_and, Bool.false_and]
    exact spec_run (envMk L8b_ok S66) rfl (ed66m x y) ⟨(by first | with_reducible assumption | exact decide_eq_true (by omega) | exact decide_eq_false (by omega) | omega), (by first | with_reducible assumption | exact decide_eq_true (by omega) | exact decide_eq_false (by omega) | omega), trivial⟩ rfl rfl
  | true =>
    have h1' : ok1 0 x = true := by rw [ok1_0]; exact h1
    cases h2 : decide (y < modN 0) with
    | false =>
      have h2' : ok1 0 y = false := by rw [ok1_0]; exact h2
      rw [Bool.and_false, Bool.false_and]
      exact spec_run (envMk L8b_ok S66) rfl (ed66n x y) ⟨(by first | with_reducible assumption | exact decide_eq_true (by omega) | exact decide_eq_false (by omega) | omega), (by first | with_reducible assumption | exact decide_eq_true (by omega) | exact decide_eq_false (by omega) | omega), (by first | with_reducible assumption | exact decide_eq_true (by omega) | exact decide_eq_false (by omega) | omega), (by first | with_reducible assumption | exact decide_eq_true (by omega) | exact decide_eq_false (by omega) | omega), trivial⟩ rfl rfl
    | true =>
      have h2' : ok1 0 y = true := by rw [ok1_0]; exact h2
      have hx' := of_decide_eq_true h1
      have hy' := of_decide_eq_true h2
      have hp := modN_pos 0
      rw [Bool.and_true, Bool.true_and]
      have h := spec_run (envMk L8b_ok S66) rfl (ed66y x y) ⟨(by first | with_reducible assumption | exact decide_eq_true (by omega) | exact decide_eq_false (by omega) | omega), (by first | with_reducible assumption | exact decide_eq_true (by omega) | exact decide_eq_false (by omega) | omega), (by first | with_reducible assumption | exact decide_eq_true (by omega) | exact decide_eq_false (by omega) | omega), (by first | with_reducible assumption | exact decide_eq_true (by omega) | exact decide_eq_false (by omega) | omega), (by decide), (modN_lt _), (modN_pos _), (by first | with_reducible assumption | exact decide_eq_true (by omega) | exact decide_eq_false (by omega) | omega), (modN_lt _), (modN_pos _), (by first | with_reducible assumption | exact decide_eq_true (by omega) | exact decide_eq_false (by omega) | omega), (modN_lt _), (inN_lt (modN_pos _)), (inN_lt (modN_pos _)), (good_fac (by decide)), (L8 (inN_lt (modN_pos _))), (L8 (inN_lt (modN_pos _))), (modN_lt _), (inN_lt (modN_pos _)), (inN_lt (modN_pos _)), (good_fac (by decide)), (L8 (inN_lt (modN_pos _))), (L8 (inN_lt (modN_pos _))), (modN_lt _), (modN_pos _), lit1, lit0, lit0, lit0, lit0, lit0, lit0, lit0, (modN_lt _), (modN_pos _), (L8 dN_lt), (modN_lt _), (mmN_lt (modN_pos _)), (mmN_lt (modN_pos _)), (good_fac (by decide)), (L8 (mmN_lt (modN_pos _))), (L8 (mmN_lt (modN_pos _))), (modN_lt _), (inN_lt (modN_pos _)), (mmN_lt (modN_pos _)), (good_fac (by decide)), (L8 (inN_lt (modN_pos _))), (L8 (mmN_lt (modN_pos _))), (modN_lt _), (inN_lt (modN_pos _)), (mmN_lt (modN_pos _)), (L8 (inN_lt (modN_pos _))), (L8 (mmN_lt (modN_pos _))), (modN_lt _), (mmN_lt (modN_pos _)), (mmN_lt (modN_pos _)), (L8 (mmN_lt (modN_pos _))), (L8 (mmN_lt (modN_pos _))), trivial⟩ rfl rfl
      rw [same_b (L8 (subM_lt hp)) (L8 (addM_lt hp))] at h
      exact h

end Go.Ev

namespace Go.Ev
open Go Go.Proofs Go.RowKit

noncomputable def L9a : List CT := ⟨79, fnS [.s [.n8, .n8]] (fun xs => match xs with | [.n x, .n y] => some ([], bV (onE x y)) | _ => none)⟩ :: L8b
theorem ctOn {f : FuncId} (hf : ∀ x y, x < 4294967296 ^ 8 → y < 4294967296 ^ 8 → Spec f [P2 x y] (bV (onE x y))) : CTok ⟨f, fnS [.s [.n8, .n8]] (fun xs => match xs with | [.n x, .n y] => some ([], bV (onE x y)) | _ => none)⟩ := ctS (by
  intro xs ob r hb h ho
  split at h
  · rename_i x y
    simp only [Option.some.injEq, Prod.mk.injEq] at h
    obtain ⟨rfl, rfl⟩ := h
    obtain ⟨⟨hx, hy, _⟩, _⟩ := hb
    exact hf x y hx hy
  · simp at h)
theorem L9a_ok : AllCT L9a := ⟨ctOn spec66e, L8b_ok⟩

noncomputable def lawV : V1 := .agg [.num 8 (modN 0), .a (.u .u32 (facN 0)), .num 8 twE]
def e4V (p : E4) : V1 := .agg [.num 8 p.x, .num 8 p.y, .num 8 p.z, .num 8 p.t]
def rg0 : V1 := rgK 0
theorem ed68 (_ : Nat) : callR (mkE L9a noS) 1000 80 [] [] =
    some ([(0 : Int) ≤ (0 : Int) ∧ (0 : Int) < (4 : Int), modN 0 < 4294967296 ^ 8, 0 < modN 0, dN < 4294967296 ^ 8, modN 0 < 4294967296 ^ 8, inN (modN 0) dN < modN 0, inN (modN 0) dN < modN 0, inN (modN 0) dN < 4294967296 ^ 8, inN (modN 0) dN < 4294967296 ^ 8], .val lawV) := by kernel_rfl
theorem spec68e : Spec 80 [] (.val lawV) := spec_run (envMk L9a_ok noS) rfl (ed68 0) ⟨(by decide), (modN_lt _), (modN_pos _), (L8 dN_lt), (modN_lt _), (inN_lt (modN_pos _)), (inN_lt (modN_pos _)), (L8 (inN_lt (modN_pos _))), (L8 (inN_lt (modN_pos _))), trivial⟩ rfl rfl
theorem ed77 (_ : Nat) : callR (mkE L9a noS) 1000 68 [rg0] [] =
    some ([okR (modN 0) (facR (limb (modN 0) 0)) (r2N (modN 0)), dN < modN 0, dN < 4294967296 ^ 8, okR (modN 0) (facR (limb (modN 0) 0)) (r2N (modN 0)), inN (modN 0) dN < modN 0, inN (modN 0) dN < modN 0, inN (modN 0) dN < 4294967296 ^ 8, inN (modN 0) dN < 4294967296 ^ 8], .val (N8 twE)) := by kernel_rfl
theorem spec77e : Spec 68 [rg0] (.val (N8 twE)) := spec_run (envMk L9a_ok noS) rfl (ed77 0) ⟨(okR_K (by decide)), dN_lt, (L8 dN_lt), (okR_K (by decide)), (inN_lt (modN_pos _)), (inN_lt (modN_pos _)), (L8 (inN_lt (modN_pos _))), (L8 (inN_lt (modN_pos _))), trivial⟩ rfl rfl
theorem ed72 (x : Nat) (y : Nat) : callR (mkE L9a noS) 1000 84 [lawV, P2 x y] [] =
    some ([modN 0 < 4294967296 ^ 8, 0 < modN 0, x < 4294967296 ^ 8, modN 0 < 4294967296 ^ 8, 0 < modN 0, y < 4294967296 ^ 8, modN 0 < 4294967296 ^ 8, 0 < modN 0, 1 < 4294967296, 0 < 4294967296, 0 < 4294967296, 0 < 4294967296, 0 < 4294967296, 0 < 4294967296, 0 < 4294967296, 0 < 4294967296, modN 0 < 4294967296 ^ 8, inN (modN 0) x < modN 0, inN (modN 0) y < modN 0, goodF (modN 0) (facN 0), inN (modN 0) x < 4294967296 ^ 8, inN (modN 0) y < 4294967296 ^ 8], .val (e4V (eLift x y))) := by kernel_rfl
theorem spec72e (x y : Nat) (hx : x < modN 0) (hy : y < modN 0) : Spec 84 [lawV, P2 x y] (.val (e4V (eLift x y))) := spec_run (envMk L9a_ok noS) rfl (ed72 x y) ⟨(modN_lt _), (modN_pos _), (by first | with_reducible assumption | with_reducible exact L8 (by with_reducible assumption) | exact decide_eq_true (by omega) | exact decide_eq_false (by omega) | omega), (modN_lt _), (modN_pos _), (by first | with_reducible assumption | with_reducible exact L8 (by with_reducible assumption) | exact decide_eq_true (by omega) | exact decide_eq_false (by omega) | omega), (modN_lt _), (modN_pos _), lit1, lit0, lit0, lit0, lit0, lit0, lit0, lit0, (modN_lt _), (inN_lt (modN_pos _)), (inN_lt (modN_pos _)), (good_fac (by decide)), (L8 (inN_lt (modN_pos _))), (L8 (inN_lt (modN_pos _))), trivial⟩ rfl rfl
theorem ed78 (x : Nat) (y : Nat) : callR (mkE L9a noS) 1000 69 [rg0, P2 x y] [] =
    some ([okR (modN 0) (facR (limb (modN 0) 0)) (r2N (modN 0)), x < modN 0, x < 4294967296 ^ 8, okR (modN 0) (facR (limb (modN 0) 0)) (r2N (modN 0)), y < modN 0, y < 4294967296 ^ 8, 1 < 4294967296, okR (modN 0) (facR (limb (modN 0) 0)) (r2N (modN 0)), 1 < modN 0, 1 < 4294967296 ^ 8, okR (modN 0) (facR (limb (modN 0) 0)) (r2N (modN 0)), inN (modN 0) x < modN 0, inN (modN 0) y < modN 0, inN (modN 0) x < 4294967296 ^ 8, inN (modN 0) y < 4294967296 ^ 8], .val (e4V (eLift x y))) := by kernel_rfl
theorem spec78e (x y : Nat) (hx : x < modN 0) (hy : y < modN 0) : Spec 69 [rg0, P2 x y] (.val (e4V (eLift x y))) := spec_run (envMk L9a_ok noS) rfl (ed78 x y) ⟨(okR_K (by decide)), (by first | with_reducible assumption | with_reducible exact L8 (by with_reducible assumption) | exact decide_eq_true (by omega) | exact decide_eq_false (by omega) | omega), (by first | with_reducible assumption | with_reducible exact L8 (by with_reducible assumption) | exact decide_eq_true (by omega) | exact decide_eq_false (by omega) | omega), (okR_K (by decide)), (by first | with_reducible assumption | with_reducible exact L8 (by with_reducible assumption) | exact decide_eq_true (by omega) | exact decide_eq_false (by omega) | omega), (by first | with_reducible assumption | with_reducible exact L8 (by with_reducible assumption) | exact decide_eq_true (by omega) | exact decide_eq_false (by omega) | omega), lit1, (okR_K (by decide)), (modN_one _), lit1_8, (okR_K (by decide)), (inN_lt (modN_pos _)), (inN_lt (modN_pos _)), (L8 (inN_lt (modN_pos _))), (L8 (inN_lt (modN_pos _))), trivial⟩ rfl rfl
theorem ed70 (p : E4) (q : E4) : callR (mkE L9a noS) 1000 82 [lawV, e4V p, e4V q] [] =
    some ([modN 0 < 4294967296 ^ 8, p.2 < modN 0, p.1 < modN 0, p.2 < 4294967296 ^ 8, p.1 < 4294967296 ^ 8, modN 0 < 4294967296 ^ 8, q.2 < modN 0, q.1 < modN 0, q.2 < 4294967296 ^ 8, q.1 < 4294967296 ^ 8, modN 0 < 4294967296 ^ 8, subM (modN 0) p.2 p.1 < modN 0, subM (modN 0) q.2 q.1 < modN 0, goodF (modN 0) (facN 0), subM (modN 0) p.2 p.1 < 4294967296 ^ 8, subM (modN 0) q.2 q.1 < 4294967296 ^ 8, modN 0 < 4294967296 ^ 8, p.2 < modN 0, p.1 < modN 0, p.2 < 4294967296 ^ 8, p.1 < 4294967296 ^ 8, modN 0 < 4294967296 ^ 8, q.2 < modN 0, q.1 < modN 0, q.2 < 4294967296 ^ 8, q.1 < 4294967296 ^ 8, modN 0 < 4294967296 ^ 8, addM (modN 0) p.2 p.1 < modN 0, addM (modN 0) q.2 q.1 < modN 0, goodF (modN 0) (facN 0), addM (modN 0) p.2 p.1 < 4294967296 ^ 8, addM (modN 0) q.2 q.1 < 4294967296 ^ 8, modN 0 < 4294967296 ^ 8, p.4 < modN 0, twE < modN 0, goodF (modN 0) (facN 0), p.4 < 4294967296 ^ 8, twE < 4294967296 ^ 8, modN 0 < 4294967296 ^ 8, mmN (modN 0) p.4 twE < modN 0, q.4 < modN 0, goodF (modN 0) (facN 0), mmN (modN 0) p.4 twE < 4294967296 ^ 8, q.4 < 4294967296 ^ 8, modN 0 < 4294967296 ^ 8, p.3 < modN 0, p.3 < modN 0, p.3 < 4294967296 ^ 8, p.3 < 4294967296 ^ 8, modN 0 < 4294967296 ^ 8, addM (modN 0) p.3 p.3 < modN 0, q.3 < modN 0, goodF (modN 0) (facN 0), addM (modN 0) p.3 p.3 < 4294967296 ^ 8, q.3 < 4294967296 ^ 8, modN 0 < 4294967296 ^ 8, mmN (modN 0) (addM (modN 0) p.2 p.1) (addM (modN 0) q.2 q.1) < modN 0, mmN (modN 0) (subM (modN 0) p.2 p.1) (subM (modN 0) q.2 q.1) < modN 0, mmN (modN 0) (addM (modN 0) p.2 p.1) (addM (modN 0) q.2 q.1) < 4294967296 ^ 8, mmN (modN 0) (subM (modN 0) p.2 p.1) (subM (modN 0) q.2 q.1) < 4294967296 ^ 8, modN 0 < 4294967296 ^ 8, mmN (modN 0) (addM (modN 0) p.3 p.3) q.3 < modN 0, mmN (modN 0) (mmN (modN 0) p.4 twE) q.4 < modN 0, mmN (modN 0) (addM (modN 0) p.3 p.3) q.3 < 4294967296 ^ 8, mmN (modN 0) (mmN (modN 0) p.4 twE) q.4 < 4294967296 ^ 8, modN 0 < 4294967296 ^ 8, mmN (modN 0) (addM (modN 0) p.3 p.3) q.3 < modN 0, mmN (modN 0) (mmN (modN 0) p.4 twE) q.4 < modN 0, mmN (modN 0) (addM (modN 0) p.3 p.3) q.3 < 4294967296 ^ 8, mmN (modN 0) (mmN (modN 0) p.4 twE) q.4 < 4294967296 ^ 8, modN 0 < 4294967296 ^ 8, mmN (modN 0) (addM (modN 0) p.2 p.1) (addM (modN 0) q.2 q.1) < modN 0, mmN (modN 0) (subM (modN 0) p.2 p.1) (subM (modN 0) q.2 q.1) < modN 0, mmN (modN 0) (addM (modN 0) p.2 p.1) (addM (modN 0) q.2 q.1) < 4294967296 ^ 8, mmN (modN 0) (subM (modN 0) p.2 p.1) (subM (modN 0) q.2 q.1) < 4294967296 ^ 8, modN 0 < 4294967296 ^ 8, subM (modN 0) (mmN (modN 0) (addM (modN 0) p.2 p.1) (addM (modN 0) q.2 q.1)) (mmN (modN 0) (subM (modN 0) p.2 p.1) (subM (modN 0) q.2 q.1)) < modN 0, subM (modN 0) (mmN (modN 0) (addM (modN 0) p.3 p.3) q.3) (mmN (modN 0) (mmN (modN 0) p.4 twE) q.4) < modN 0, goodF (modN 0) (facN 0), subM (modN 0) (mmN (modN 0) (addM (modN 0) p.2 p.1) (addM (modN 0) q.2 q.1)) (mmN (modN 0) (subM (modN 0) p.2 p.1) (subM (modN 0) q.2 q.1)) < 4294967296 ^ 8, subM (modN 0) (mmN (modN 0) (addM (modN 0) p.3 p.3) q.3) (mmN (modN 0) (mmN (modN 0) p.4 twE) q.4) < 4294967296 ^ 8, modN 0 < 4294967296 ^ 8, addM (modN 0) (mmN (modN 0) (addM (modN 0) p.3 p.3) q.3) (mmN (modN 0) (mmN (modN 0) p.4 twE) q.4) < modN 0, addM (modN 0) (mmN (modN 0) (addM (modN 0) p.2 p.1) (addM (modN 0) q.2 q.1)) (mmN (modN 0) (subM (modN 0) p.2 p.1) (subM (modN 0) q.2 q.1)) < modN 0, goodF (modN 0) (facN 0), addM (modN 0) (mmN (modN 0) (addM (modN 0) p.3 p.3) q.3) (mmN (modN 0) (mmN (modN 0) p.4 twE) q.4) < 4294967296 ^ 8, addM (modN 0) (mmN (modN 0) (addM (modN 0) p.2 p.1) (addM (modN 0) q.2 q.1)) (mmN (modN 0) (subM (modN 0) p.2 p.1) (subM (modN 0) q.2 q.1)) < 4294967296 ^ 8, modN 0 < 4294967296 ^ 8, subM (modN 0) (mmN (modN 0) (addM (modN 0) p.3 p.3) q.3) (mmN (modN 0) (mmN (modN 0) p.4 twE) q.4) < modN 0, addM (modN 0) (mmN (modN 0) (addM (modN 0) p.3 p.3) q.3) (mmN (modN 0) (mmN (modN 0) p.4 twE) q.4) < modN 0, goodF (modN 0) (facN 0), subM (modN 0) (mmN (modN 0) (addM (modN 0) p.3 p.3) q.3) (mmN (modN 0) (mmN (modN 0) p.4 twE) q.4) < 4294967296 ^ 8, addM (modN 0) (mmN (modN 0) (addM (modN 0) p.3 p.3) q.3) (mmN (modN 0) (mmN (modN 0) p.4 twE) q.4) < 4294967296 ^ 8, modN 0 < 4294967296 ^ 8, subM (modN 0) (mmN (modN 0) (addM (modN 0) p.2 p.1) (addM (modN 0) q.2 q.1)) (mmN (modN 0) (subM (modN 0) p.2 p.1) (subM (modN 0) q.2 q.1)) < modN 0, addM (modN 0) (mmN (modN 0) (addM (modN 0) p.2 p.1) (addM (modN 0) q.2 q.1)) (mmN (modN 0) (subM (modN 0) p.2 p.1) (subM (modN 0) q.2 q.1)) < modN 0, goodF (modN 0) (facN 0), subM (modN 0) (mmN (modN 0) (addM (modN 0) p.2 p.1) (addM (modN 0) q.2 q.1)) (mmN (modN 0) (subM (modN 0) p.2 p.1) (subM (modN 0) q.2 q.1)) < 4294967296 ^ 8, addM (modN 0) (mmN (modN 0) (addM (modN 0) p.2 p.1) (addM (modN 0) q.2 q.1)) (mmN (modN 0) (subM (modN 0) p.2 p.1) (subM (modN 0) q.2 q.1)) < 4294967296 ^ 8], .val (e4V (eAdd p q))) := by kernel_rfl
theorem spec70e (p q : E4) (hp : p.lt) (hq : q.lt) : Spec 82 [lawV, e4V p, e4V q] (.val (e4V (eAdd p q))) := by
  obtain ⟨h1, h2, h3, h4⟩ := hp
  obtain ⟨h5, h6, h7, h8⟩ := hq
  exact spec_run (envMk L9a_ok noS) rfl (ed70 p q) ⟨(modN_lt _), (by first | with_reducible assumption | with_reducible exact L8 (by with_reducible assumption) | exact decide_eq_true (by omega) | exact decide_eq_false (by omega) | omega), (by first | with_reducible assumption | with_reducible exact L8 (by with_reducible assumption) | exact decide_eq_true (by omega) | exact decide_eq_false (by omega) | omega), (by first | with_reducible assumption | with_reducible exact L8 (by with_reducible assumption) | exact decide_eq_true (by omega) | exact decide_eq_false (by omega) | omega), (by first | with_reducible assumption | with_reducible exact L8 (by with_reducible assumption) | exact decide_eq_true (by omega) | exact decide_eq_false (by omega) | omega), (modN_lt _), (by first | with_reducible assumption | with_reducible exact L8 (by with_reducible assumption) | exact decide_eq_true (by omega) | exact decide_eq_false (by omega) | omega), (by first | with_reducible assumption | with_reducible exact L8 (by with_reducible assumption) | exact decide_eq_true (by omega) | exact decide_eq_false (by omega) | omega), (by first | with_reducible assumption | with_reducible exact L8 (by with_reducible assumption) | exact decide_eq_true (by omega) | exact decide_eq_false (by omega) | omega), (by first | with_reducible assumption | with_reducible exact L8 (by with_reducible assumption) | exact decide_eq_true (by omega) | exact decide_eq_false (by omega) | omega), (modN_lt _), (subM_lt (modN_pos _)), (subM_lt (modN_pos _)), (good_fac (by decide)), (L8 (subM_lt (modN_pos _))), (L8 (subM_lt (modN_pos _))), (modN_lt _), (by first | with_reducible assumption | with_reducible exact L8 (by with_reducible assumption) | exact decide_eq_true (by omega) | exact decide_eq_false (by omega) | omega), (by first | with_reducible assumption | with_reducible exact L8 (by with_reducible assumption) | exact decide_eq_true (by omega) | exact decide_eq_false (by omega) | omega), (by first | with_reducible assumption | with_reducible exact L8 (by with_reducible assumption) | exact decide_eq_true (by omega) | exact decide_eq_false (by omega) | omega), (by first | with_reducible assumption | with_reducible exact L8 (by with_reducible assumption) | exact decide_eq_true (by omega) | exact decide_eq_false (by omega) | omega), (modN_lt _), (by first | with_reducible assumption | with_reducible exact L8 (by with_reducible assumption) | exact decide_eq_true (by omega) | exact decide_eq_false (by omega) | omega), (by first | with_reducible assumption | with_reducible exact L8 (by with_reducible assumption) | exact decide_eq_true (by omega) | exact decide_eq_false (by omega) | omega), (by first | with_reducible assumption | with_reducible exact L8 (by with_reducible assumption) | exact decide_eq_true (by omega) | exact decide_eq_false (by omega) | omega), (by first | with_reducible assumption | with_reducible exact L8 (by with_reducible assumption) | exact decide_eq_true (by omega) | exact decide_eq_false (by omega) | omega), (modN_lt _), (addM_lt (modN_pos _)), (addM_lt (modN_pos _)), (good_fac (by decide)), (L8 (addM_lt (modN_pos _))), (L8 (addM_lt (modN_pos _))), (modN_lt _), (by first | with_reducible assumption | with_reducible exact L8 (by with_reducible assumption) | exact decide_eq_true (by omega) | exact decide_eq_false (by omega) | omega), twE_lt, (good_fac (by decide)), (by first | with_reducible assumption | with_reducible exact L8 (by with_reducible assumption) | exact decide_eq_true (by omega) | exact decide_eq_false (by omega) | omega), (L8 twE_lt), (modN_lt _), (mmN_lt (modN_pos _)), (by first | with_reducible assumption | with_reducible exact L8 (by with_reducible assumption) | exact decide_eq_true (by omega) | exact decide_eq_false (by omega) | omega), (good_fac (by decide)), (L8 (mmN_lt (modN_pos _))), (by first | with_reducible assumption | with_reducible exact L8 (by with_reducible assumption) | exact decide_eq_true (by omega) | exact decide_eq_false (by omega) | omega), (modN_lt _), (by first | with_reducible assumption | with_reducible exact L8 (by with_reducible assumption) | exact decide_eq_true (by omega) | exact decide_eq_false (by omega) | omega), (by first | with_reducible assumption | with_reducible exact L8 (by with_reducible assumption) | exact decide_eq_true (by omega) | exact decide_eq_false (by omega) | omega), (by first | with_reducible assumption | with_reducible exact L8 (by with_reducible assumption) | exact decide_eq_true (by omega) | exact decide_eq_false (by omega) | omega), (by first | with_reducible assumption | with_reducible exact L8 (by with_reducible assumption) | exact decide_eq_true (by omega) | exact decide_eq_false (by omega) | omega), (modN_lt _), (addM_lt (modN_pos _)), (by first | with_reducible assumption | with_reducible exact L8 (by with_reducible assumption) | exact decide_eq_true (by omega) | exact decide_eq_false (by omega) | omega), (good_fac (by decide)), (L8 (addM_lt (modN_pos _))), (by first | with_reducible assumption | with_reducible exact L8 (by with_reducible assumption) | exact decide_eq_true (by omega) | exact decide_eq_false (by omega) | omega), (modN_lt _), (mmN_lt (modN_pos _)), (mmN_lt (modN_pos _)), (L8 (mmN_lt (modN_pos _))), (L8 (mmN_lt (modN_pos _))), (modN_lt _), (mmN_lt (modN_pos _)), (mmN_lt (modN_pos _)), (L8 (mmN_lt (modN_pos _))), (L8 (mmN_lt (modN_pos _))), (modN_lt _), (mmN_lt (modN_pos _)), (mmN_lt (modN_pos _)), (L8 (mmN_lt (modN_pos _))), (L8 (mmN_lt (modN_pos _))), (modN_lt _), (mmN_lt (modN_pos _)), (mmN_lt (modN_pos _)), (L8 (mmN_lt (modN_pos _))), (L8 (mmN_lt (modN_pos _))), (modN_lt _), (subM_lt (modN_pos _)), (subM_lt (modN_pos _)), (good_fac (by decide)), (L8 (subM_lt (modN_pos _))), (L8 (subM_lt (modN_pos _))), (modN_lt _), (addM_lt (modN_pos _)), (addM_lt (modN_pos _)), (good_fac (by decide)), (L8 (addM_lt (modN_pos _))), (L8 (addM_lt (modN_pos _))), (modN_lt _), (subM_lt (modN_pos _)), (addM_lt (modN_pos _)), (good_fac (by decide)), (L8 (subM_lt (modN_pos _))), (L8 (addM_lt (modN_pos _))), (modN_lt _), (subM_lt (modN_pos _)), (addM_lt (modN_pos _)), (good_fac (by decide)), (L8 (subM_lt (modN_pos _))), (L8 (addM_lt (modN_pos _))), trivial⟩ rfl rfl
theorem ed79 (p : E4) (q : E4) : callR (mkE L9a noS) 1000 93 [rg0, N8 twE, e4V p, e4V q] [] =
    some ([okR (modN 0) (facR (limb (modN 0) 0)) (r2N (modN 0)), p.2 < modN 0, p.1 < modN 0, p.2 < 4294967296 ^ 8, p.1 < 4294967296 ^ 8, okR (modN 0) (facR (limb (modN 0) 0)) (r2N (modN 0)), q.2 < modN 0, q.1 < modN 0, q.2 < 4294967296 ^ 8, q.1 < 4294967296 ^ 8, okR (modN 0) (facR (limb (modN 0) 0)) (r2N (modN 0)), subM (modN 0) p.2 p.1 < modN 0, subM (modN 0) q.2 q.1 < modN 0, subM (modN 0) p.2 p.1 < 4294967296 ^ 8, subM (modN 0) q.2 q.1 < 4294967296 ^ 8, okR (modN 0) (facR (limb (modN 0) 0)) (r2N (modN 0)), p.2 < modN 0, p.1 < modN 0, p.2 < 4294967296 ^ 8, p.1 < 4294967296 ^ 8, okR (modN 0) (facR (limb (modN 0) 0)) (r2N (modN 0)), q.2 < modN 0, q.1 < modN 0, q.2 < 4294967296 ^ 8, q.1 < 4294967296 ^ 8, okR (modN 0) (facR (limb (modN 0) 0)) (r2N (modN 0)), addM (modN 0) p.2 p.1 < modN 0, addM (modN 0) q.2 q.1 < modN 0, addM (modN 0) p.2 p.1 < 4294967296 ^ 8, addM (modN 0) q.2 q.1 < 4294967296 ^ 8, okR (modN 0) (facR (limb (modN 0) 0)) (r2N (modN 0)), p.4 < modN 0, twE < modN 0, p.4 < 4294967296 ^ 8, twE < 4294967296 ^ 8, okR (modN 0) (facR (limb (modN 0) 0)) (r2N (modN 0)), mmN (modN 0) p.4 twE < modN 0, q.4 < modN 0, mmN (modN 0) p.4 twE < 4294967296 ^ 8, q.4 < 4294967296 ^ 8, okR (modN 0) (facR (limb (modN 0) 0)) (r2N (modN 0)), p.3 < modN 0, p.3 < modN 0, p.3 < 4294967296 ^ 8, p.3 < 4294967296 ^ 8, okR (modN 0) (facR (limb (modN 0) 0)) (r2N (modN 0)), addM (modN 0) p.3 p.3 < modN 0, q.3 < modN 0, addM (modN 0) p.3 p.3 < 4294967296 ^ 8, q.3 < 4294967296 ^ 8, okR (modN 0) (facR (limb (modN 0) 0)) (r2N (modN 0)), mmN (modN 0) (addM (modN 0) p.2 p.1) (addM (modN 0) q.2 q.1) < modN 0, mmN (modN 0) (subM (modN 0) p.2 p.1) (subM (modN 0) q.2 q.1) < modN 0, mmN (modN 0) (addM (modN 0) p.2 p.1) (addM (modN 0) q.2 q.1) < 4294967296 ^ 8, mmN (modN 0) (subM (modN 0) p.2 p.1) (subM (modN 0) q.2 q.1) < 4294967296 ^ 8, okR (modN 0) (facR (limb (modN 0) 0)) (r2N (modN 0)), mmN (modN 0) (addM (modN 0) p.3 p.3) q.3 < modN 0, mmN (modN 0) (mmN (modN 0) p.4 twE) q.4 < modN 0, mmN (modN 0) (addM (modN 0) p.3 p.3) q.3 < 4294967296 ^ 8, mmN (modN 0) (mmN (modN 0) p.4 twE) q.4 < 4294967296 ^ 8, okR (modN 0) (facR (limb (modN 0) 0)) (r2N (modN 0)), mmN (modN 0) (addM (modN 0) p.3 p.3) q.3 < modN 0, mmN (modN 0) (mmN (modN 0) p.4 twE) q.4 < modN 0, mmN (modN 0) (addM (modN 0) p.3 p.3) q.3 < 4294967296 ^ 8, mmN (modN 0) (mmN (modN 0) p.4 twE) q.4 < 4294967296 ^ 8, okR (modN 0) (facR (limb (modN 0) 0)) (r2N (modN 0)), mmN (modN 0) (addM (modN 0) p.2 p.1) (addM (modN 0) q.2 q.1) < modN 0, mmN (modN 0) (subM (modN 0) p.2 p.1) (subM (modN 0) q.2 q.1) < modN 0, mmN (modN 0) (addM (modN 0) p.2 p.1) (addM (modN 0) q.2 q.1) < 4294967296 ^ 8, mmN (modN 0) (subM (modN 0) p.2 p.1) (subM (modN 0) q.2 q.1) < 4294967296 ^ 8, okR (modN 0) (facR (limb (modN 0) 0)) (r2N (modN 0)), subM (modN 0) (mmN (modN 0) (addM (modN 0) p.2 p.1) (addM (modN 0) q.2 q.1)) (mmN (modN 0) (subM (modN 0) p.2 p.1) (subM (modN 0) q.2 q.1)) < modN 0, subM (modN 0) (mmN (modN 0) (addM (modN 0) p.3 p.3) q.3) (mmN (modN 0) (mmN (modN 0) p.4 twE) q.4) < modN 0, subM (modN 0) (mmN (modN 0) (addM (modN 0) p.2 p.1) (addM (modN 0) q.2 q.1)) (mmN (modN 0) (subM (modN 0) p.2 p.1) (subM (modN 0) q.2 q.1)) < 4294967296 ^ 8, subM (modN 0) (mmN (modN 0) (addM (modN 0) p.3 p.3) q.3) (mmN (modN 0) (mmN (modN 0) p.4 twE) q.4) < 4294967296 ^ 8, okR (modN 0) (facR (limb (modN 0) 0)) (r2N (modN 0)), addM (modN 0) (mmN (modN 0) (addM (modN 0) p.3 p.3) q.3) (mmN (modN 0) (mmN (modN 0) p.4 twE) q.4) < modN 0, addM (modN 0) (mmN (modN 0) (addM (modN 0) p.2 p.1) (addM (modN 0) q.2 q.1)) (mmN (modN 0) (subM (modN 0) p.2 p.1) (subM (modN 0) q.2 q.1)) < modN 0, addM (modN 0) (mmN (modN 0) (addM (modN 0) p.3 p.3) q.3) (mmN (modN 0) (mmN (modN 0) p.4 twE) q.4) < 4294967296 ^ 8, addM (modN 0) (mmN (modN 0) (addM (modN 0) p.2 p.1) (addM (modN 0) q.2 q.1)) (mmN (modN 0) (subM (modN 0) p.2 p.1) (subM (modN 0) q.2 q.1)) < 4294967296 ^ 8, okR (modN 0) (facR (limb (modN 0) 0)) (r2N (modN 0)), subM (modN 0) (mmN (modN 0) (addM (modN 0) p.3 p.3) q.3) (mmN (modN 0) (mmN (modN 0) p.4 twE) q.4) < modN 0, addM (modN 0) (mmN (modN 0) (addM (modN 0) p.3 p.3) q.3) (mmN (modN 0) (mmN (modN 0) p.4 twE) q.4) < modN 0, subM (modN 0) (mmN (modN 0) (addM (modN 0) p.3 p.3) q.3) (mmN (modN 0) (mmN (modN 0) p.4 twE) q.4) < 4294967296 ^ 8, addM (modN 0) (mmN (modN 0) (addM (modN 0) p.3 p.3) q.3) (mmN (modN 0) (mmN (modN 0) p.4 twE) q.4) < 4294967296 ^ 8, okR (modN 0) (facR (limb (modN 0) 0)) (r2N (modN 0)), subM (modN 0) (mmN (modN 0) (addM (modN 0) p.2 p.1) (addM (modN 0) q.2 q.1)) (mmN (modN 0) (subM (modN 0) p.2 p.1) (subM (modN 0) q.2 q.1)) < modN 0, addM (modN 0) (mmN (modN 0) (addM (modN 0) p.2 p.1) (addM (modN 0) q.2 q.1)) (mmN (modN 0) (subM (modN 0) p.2 p.1) (subM (modN 0) q.2 q.1)) < modN 0, subM (modN 0) (mmN (modN 0) (addM (modN 0) p.2 p.1) (addM (modN 0) q.2 q.1)) (mmN (modN 0) (subM (modN 0) p.2 p.1) (subM (modN 0) q.2 q.1)) < 4294967296 ^ 8, addM (modN 0) (mmN (modN 0) (addM (modN 0) p.2 p.1) (addM (modN 0) q.2 q.1)) (mmN (modN 0) (subM (modN 0) p.2 p.1) (subM (modN 0) q.2 q.1)) < 4294967296 ^ 8], .val (e4V (eAdd p q))) := by kernel_rfl
theorem spec79e (p q : E4) (hp : p.lt) (hq : q.lt) : Spec 93 [rg0, N8 twE, e4V p, e4V q] (.val (e4V (eAdd p q))) := by
  obtain ⟨h1, h2, h3, h4⟩ := hp
  obtain ⟨h5, h6, h7, h8⟩ := hq
  exact spec_run (envMk L9a_ok noS) rfl (ed79 p q) ⟨(okR_K (by decide)), (by first | with_reducible assumption | with_reducible exact L8 (by with_reducible assumption) | exact decide_eq_true (by omega) | exact decide_eq_false (by omega) | omega), (by first | with_reducible assumption | with_reducible exact L8 (by with_reducible assumption) | exact decide_eq_true (by omega) | exact decide_eq_false (by omega) | omega), (by first | with_reducible assumption | with_reducible exact L8 (by with_reducible assumption) | exact decide_eq_true (by omega) | exact decide_eq_false (by omega) | omega), (by first | with_reducible assumption | with_reducible exact L8 (by with_reducible assumption) | exact decide_eq_true (by omega) | exact decide_eq_false (by omega) | omega), (okR_K (by decide)), (by first | with_reducible assumption | with_reducible exact L8 (by with_reducible assumption) | exact decide_eq_true (by omega) | exact decide_eq_false (by omega) | omega), (by first | with_reducible assumption | with_reducible exact L8 (by with_reducible assumption) | exact decide_eq_true (by omega) | exact decide_eq_false (by omega) | omega), (by first | with_reducible assumption | with_reducible exact L8 (by with_reducible assumption) | exact decide_eq_true (by omega) | exact decide_eq_false (by omega) | omega), (by first | with_reducible assumption | with_reducible exact L8 (by with_reducible assumption) | exact decide_eq_true (by omega) | exact decide_eq_false (by omega) | omega), (okR_K (by decide)), (subM_lt (modN_pos _)), (subM_lt (modN_pos _)), (L8 (subM_lt (modN_pos _))), (L8 (subM_lt (modN_pos _))), (okR_K (by decide)), (by first | with_reducible assumption | with_reducible exact L8 (by with_reducible assumption) | exact decide_eq_true (by omega) | exact decide_eq_false (by omega) | omega), (by first | with_reducible assumption | with_reducible exact L8 (by with_reducible assumption) | exact decide_eq_true (by omega) | exact decide_eq_false (by omega) | omega), (by first | with_reducible assumption | with_reducible exact L8 (by with_reducible assumption) | exact decide_eq_true (by omega) | exact decide_eq_false (by omega) | omega), (by first | with_reducible assumption | with_reducible exact L8 (by with_reducible assumption) | exact decide_eq_true (by omega) | exact decide_eq_false (by omega) | omega), (okR_K (by decide)), (by first | with_reducible assumption | with_reducible exact L8 (by with_reducible assumption) | exact decide_eq_true (by omega) | exact decide_eq_false (by omega) | omega), (by first | with_reducible assumption | with_reducible exact L8 (by with_reducible assumption) | exact decide_eq_true (by omega) | exact decide_eq_false (by omega) | omega), (by first | with_reducible assumption | with_reducible exact L8 (by with_reducible assumption) | exact decide_eq_true (by omega) | exact decide_eq_false (by omega) | omega), (by first | with_reducible assumption | with_reducible exact L8 (by with_reducible assumption) | exact decide_eq_true (by omega) | exact decide_eq_false (by omega) | omega), (okR_K (by decide)), (addM_lt (modN_pos _)), (addM_lt (modN_pos _)), (L8 (addM_lt (modN_pos _))), (L8 (addM_lt (modN_pos _))), (okR_K (by decide)), (by first | with_reducible assumption | with_reducible exact L8 (by with_reducible assumption) | exact decide_eq_true (by omega) | exact decide_eq_false (by omega) | omega), twE_lt, (by first | with_reducible assumption | with_reducible exact L8 (by with_reducible assumption) | exact decide_eq_true (by omega) | exact decide_eq_false (by omega) | omega), (L8 twE_lt), (okR_K (by decide)), (mmN_lt (modN_pos _)), (by first | with_reducible assumption | with_reducible exact L8 (by with_reducible assumption) | exact decide_eq_true (by omega) | exact decide_eq_false (by omega) | omega), (L8 (mmN_lt (modN_pos _))), (by first | with_reducible assumption | with_reducible exact L8 (by with_reducible assumption) | exact decide_eq_true (by omega) | exact decide_eq_false (by omega) | omega), (okR_K (by decide)), (by first | with_reducible assumption | with_reducible exact L8 (by with_reducible assumption) | exact decide_eq_true (by omega) | exact decide_eq_false (by omega) | omega), (by first | with_reducible assumption | with_reducible exact L8 (by with_reducible assumption) | exact decide_eq_true (by omega) | exact decide_eq_false (by omega) | omega), (by first | with_reducible assumption | with_reducible exact L8 (by with_reducible assumption) | exact decide_eq_true (by omega) | exact decide_eq_false (by omega) | omega), (by first | with_reducible assumption | with_reducible exact L8 (by with_reducible assumption) | exact decide_eq_true (by omega) | exact decide_eq_false (by omega) | omega), (okR_K (by decide)), (addM_lt (modN_pos _)), (by first | with_reducible assumption | with_reducible exact L8 (by with_reducible assumption) | exact decide_eq_true (by omega) | exact decide_eq_false (by omega) | omega), (L8 (addM_lt (modN_pos _))), (by first | with_reducible assumption | with_reducible exact L8 (by with_reducible assumption) | exact decide_eq_true (by omega) | exact decide_eq_false (by omega) | omega), (okR_K (by decide)), (mmN_lt (modN_pos _)), (mmN_lt (modN_pos _)), (L8 (mmN_lt (modN_pos _))), (L8 (mmN_lt (modN_pos _))), (okR_K (by decide)), (mmN_lt (modN_pos _)), (mmN_lt (modN_pos _)), (L8 (mmN_lt (modN_pos _))), (L8 (mmN_lt (modN_pos _))), (okR_K (by decide)), (mmN_lt (modN_pos _)), (mmN_lt (modN_pos _)), (L8 (mmN_lt (modN_pos _))), (L8 (mmN_lt (modN_pos _))), (okR_K (by decide)), (mmN_lt (modN_pos _)), (mmN_lt (modN_pos _)), (L8 (mmN_lt (modN_pos _))), (L8 (mmN_lt (modN_pos _))), (okR_K (by decide)), (subM_lt (modN_pos _)), (subM_lt (modN_pos _)), (L8 (subM_lt (modN_pos _))), (L8 (subM_lt (modN_pos _))), (okR_K (by decide)), (addM_lt (modN_pos _)), (addM_lt (modN_pos _)), (L8 (addM_lt (modN_pos _))), (L8 (addM_lt (modN_pos _))), (okR_K (by decide)), (subM_lt (modN_pos _)), (addM_lt (modN_pos _)), (L8 (subM_lt (modN_pos _))), (L8 (addM_lt (modN_pos _))), (okR_K (by decide)), (subM_lt (modN_pos _)), (addM_lt (modN_pos _)), (L8 (subM_lt (modN_pos _))), (L8 (addM_lt (modN_pos _))), trivial⟩ rfl rfl
theorem ed69 (p : E4) : callR (mkE L9a noS) 1000 81 [lawV, e4V p] [] =
    some ([modN 0 < 4294967296 ^ 8, p.3 < modN 0, goodF (modN 0) (facN 0), p.3 < 4294967296 ^ 8, modN 0 < 4294967296 ^ 8, p.1 < modN 0, minvN (modN 0) p.3 < modN 0, goodF (modN 0) (facN 0), p.1 < 4294967296 ^ 8, minvN (modN 0) p.3 < 4294967296 ^ 8, modN 0 < 4294967296 ^ 8, mmN (modN 0) p.1 (minvN (modN 0) p.3) < modN 0, goodF (modN 0) (facN 0), mmN (modN 0) p.1 (minvN (modN 0) p.3) < 4294967296 ^ 8, modN 0 < 4294967296 ^ 8, p.2 < modN 0, minvN (modN 0) p.3 < modN 0, goodF (modN 0) (facN 0), p.2 < 4294967296 ^ 8, minvN (modN 0) p.3 < 4294967296 ^ 8, modN 0 < 4294967296 ^ 8, mmN (modN 0) p.2 (minvN (modN 0) p.3) < modN 0, goodF (modN 0) (facN 0), mmN (modN 0) p.2 (minvN (modN 0) p.3) < 4294967296 ^ 8], .val (P2 (eDownX p) (eDownY p))) := by kernel_rfl
theorem spec69e (p : E4) (hp : p.lt) : Spec 81 [lawV, e4V p] (.val (P2 (eDownX p) (eDownY p))) := by
  obtain ⟨h1, h2, h3, h4⟩ := hp
  exact spec_run (envMk L9a_ok noS) rfl (ed69 p) ⟨(modN_lt _), (by first | with_reducible assumption | with_reducible exact L8 (by with_reducible assumption) | exact decide_eq_true (by omega) | exact decide_eq_false (by omega) | omega), (good_fac (by decide)), (by first | with_reducible assumption | with_reducible exact L8 (by with_reducible assumption) | exact decide_eq_true (by omega) | exact decide_eq_false (by omega) | omega), (modN_lt _), (by first | with_reducible assumption | with_reducible exact L8 (by with_reducible assumption) | exact decide_eq_true (by omega) | exact decide_eq_false (by omega) | omega), (minvN_lt (modN_pos _)), (good_fac (by decide)), (by first | with_reducible assumption | with_reducible exact L8 (by with_reducible assumption) | exact decide_eq_true (by omega) | exact decide_eq_false (by omega) | omega), (L8 (minvN_lt (modN_pos _))), (modN_lt _), (mmN_lt (modN_pos _)), (good_fac (by decide)), (L8 (mmN_lt (modN_pos _))), (modN_lt _), (by first | with_reducible assumption | with_reducible exact L8 (by with_reducible assumption) | exact decide_eq_true (by omega) | exact decide_eq_false (by omega) | omega), (minvN_lt (modN_pos _)), (good_fac (by decide)), (by first | with_reducible assumption | with_reducible exact L8 (by with_reducible assumption) | exact decide_eq_true (by omega) | exact decide_eq_false (by omega) | omega), (L8 (minvN_lt (modN_pos _))), (modN_lt _), (mmN_lt (modN_pos _)), (good_fac (by decide)), (L8 (mmN_lt (modN_pos _))), trivial⟩ rfl rfl
theorem ed75 (p : E4) : callR (mkE L9a noS) 1000 66 [rg0, e4V p] [] =
    some ([2 < 4294967296, modN 0 < 4294967296 ^ 8, 2 < 4294967296 ^ 8, okR (modN 0) (facR (limb (modN 0) 0)) (r2N (modN 0)), 1 < modN 0, p.3 < modN 0, p.3 < 4294967296 ^ 8, subN (modN 0) (2) < 4294967296 ^ 8, okR (modN 0) (facR (limb (modN 0) 0)) (r2N (modN 0)), p.1 < modN 0, mpowN (modN 0) p.3 (subN (modN 0) (2)) < modN 0, p.1 < 4294967296 ^ 8, mpowN (modN 0) p.3 (subN (modN 0) (2)) < 4294967296 ^ 8, okR (modN 0) (facR (limb (modN 0) 0)) (r2N (modN 0)), mmN (modN 0) p.1 (mpowN (modN 0) p.3 (subN (modN 0) (2))) < modN 0, mmN (modN 0) p.1 (mpowN (modN 0) p.3 (subN (modN 0) (2))) < 4294967296 ^ 8, okR (modN 0) (facR (limb (modN 0) 0)) (r2N (modN 0)), p.2 < modN 0, mpowN (modN 0) p.3 (subN (modN 0) (2)) < modN 0, p.2 < 4294967296 ^ 8, mpowN (modN 0) p.3 (subN (modN 0) (2)) < 4294967296 ^ 8, okR (modN 0) (facR (limb (modN 0) 0)) (r2N (modN 0)), mmN (modN 0) p.2 (mpowN (modN 0) p.3 (subN (modN 0) (2))) < modN 0, mmN (modN 0) p.2 (mpowN (modN 0) p.3 (subN (modN 0) (2))) < 4294967296 ^ 8], .val (P2 (eDownX p) (eDownY p))) := by kernel_rfl
theorem spec75e (p : E4) (hp : p.lt) : Spec 66 [rg0, e4V p] (.val (P2 (eDownX p) (eDownY p))) := by
  obtain ⟨h1, h2, h3, h4⟩ := hp
  exact spec_run (envMk L9a_ok noS) rfl (ed75 p) ⟨lit2, (modN_lt _), lit2_8, (okR_K (by decide)), (modN_one _), (by first | with_reducible assumption | with_reducible exact L8 (by with_reducible assumption) | exact decide_eq_true (by omega) | exact decide_eq_false (by omega) | omega), (by first | with_reducible assumption | with_reducible exact L8 (by with_reducible assumption) | exact decide_eq_true (by omega) | exact decide_eq_false (by omega) | omega), (subN_lt _ _), (okR_K (by decide)), (by first | with_reducible assumption | with_reducible exact L8 (by with_reducible assumption) | exact decide_eq_true (by omega) | exact decide_eq_false (by omega) | omega), (mpowN_lt (modN_pos _)), (by first | with_reducible assumption | with_reducible exact L8 (by with_reducible assumption) | exact decide_eq_true (by omega) | exact decide_eq_false (by omega) | omega), (L8 (mpowN_lt (modN_pos _))), (okR_K (by decide)), (mmN_lt (modN_pos _)), (L8 (mmN_lt (modN_pos _))), (okR_K (by decide)), (by first | with_reducible assumption | with_reducible exact L8 (by with_reducible assumption) | exact decide_eq_true (by omega) | exact decide_eq_false (by omega) | omega), (mpowN_lt (modN_pos _)), (by first | with_reducible assumption | with_reducible exact L8 (by with_reducible assumption) | exact decide_eq_true (by omega) | exact decide_eq_false (by omega) | omega), (L8 (mpowN_lt (modN_pos _))), (okR_K (by decide)), (mmN_lt (modN_pos _)), (L8 (mmN_lt (modN_pos _))), trivial⟩ rfl rfl
end Go.Ev

namespace Go.Ev
open Go Go.Proofs Go.RowKit

noncomputable def gOf : List Val → Option (List Prop × AV)
  | [.n m, .n q, .n w, .n x, .n y] => some ([m = modN 0, q = facN 0, w = twE, x < modN 0, y < modN 0], .val (e4V (eLift x y)))
  | _ => none
noncomputable def gOfR : List Val → Option (List Prop × AV)
  | [.n m, .n q, .n w, .n x, .n y] => some ([m = modN 0, q = facR (limb (modN 0) 0), w = r2N (modN 0), x < modN 0, y < modN 0], .val (e4V (eLift x y)))
  | _ => none
noncomputable def gEAdd : List Val → Option (List Prop × AV)
  | [.n m, .n q, .n w, .n x1, .n y1, .n z1, .n t1, .n x2, .n y2, .n z2, .n t2] => some ([m = modN 0, q = facN 0, w = twE, E4.lt ⟨x1, y1, z1, t1⟩, E4.lt ⟨x2, y2, z2, t2⟩], .val (e4V (eAdd ⟨x1, y1, z1, t1⟩ ⟨x2, y2, z2, t2⟩)))
  | _ => none
noncomputable def gEAddR : List Val → Option (List Prop × AV)
  | [.n m, .n q, .n w, .n d, .n x1, .n y1, .n z1, .n t1, .n x2, .n y2, .n z2, .n t2] => some ([m = modN 0, q = facR (limb (modN 0) 0), w = r2N (modN 0), d = twE, E4.lt ⟨x1, y1, z1, t1⟩, E4.lt ⟨x2, y2, z2, t2⟩], .val (e4V (eAdd ⟨x1, y1, z1, t1⟩ ⟨x2, y2, z2, t2⟩)))
  | _ => none
noncomputable def gDown : List Val → Option (List Prop × AV)
  | [.n m, .n q, .n w, .n x1, .n y1, .n z1, .n t1] => some ([m = modN 0, q = facN 0, w = twE, E4.lt ⟨x1, y1, z1, t1⟩], .val (P2 (eDownX ⟨x1, y1, z1, t1⟩) (eDownY ⟨x1, y1, z1, t1⟩)))
  | _ => none
noncomputable def gDownR : List Val → Option (List Prop × AV)
  | [.n m, .n q, .n w, .n x1, .n y1, .n z1, .n t1] => some ([m = modN 0, q = facR (limb (modN 0) 0), w = r2N (modN 0), E4.lt ⟨x1, y1, z1, t1⟩], .val (P2 (eDownX ⟨x1, y1, z1, t1⟩) (eDownY ⟨x1, y1, z1, t1⟩)))
  | _ => none
def gTw : List Val → Option (List Prop × AV)
  | [.n m, .n q, .n w] => some ([m = modN 0, q = facR (limb (modN 0) 0), w = r2N (modN 0)], .val (N8 twE))
  | _ => none
def aLaw : Arg := .s [.n8, .u32, .n8]
def aE4 : Arg := .s [.n8, .n8, .n8, .n8]
def aPt : Arg := .s [.n8, .n8]
def aN : Arg := .s [.n8]
theorem ct72 : CTok ⟨84, fnS [aLaw, aPt] gOf⟩ := ctS (by
  intro xs ob r hb h ho
  unfold gOf at h
  split at h
  · rename_i m q w x y
    simp only [Option.some.injEq, Prod.mk.injEq] at h
    obtain ⟨rfl, rfl⟩ := h
    obtain ⟨e0, e1, e2, h1, h2, _⟩ := ho
    subst e0 e1 e2
    have hS := spec72e x y h1 h2
    exact hS
  · simp at h)
theorem ct78 : CTok ⟨69, fnS [aLaw, aPt] gOfR⟩ := ctS (by
  intro xs ob r hb h ho
  unfold gOfR at h
  split at h
  · rename_i m q w x y
    simp only [Option.some.injEq, Prod.mk.injEq] at h
    obtain ⟨rfl, rfl⟩ := h
    obtain ⟨e0, e1, e2, h1, h2, _⟩ := ho
    have hS := spec78e x y h1 h2
    unfold rg0 rgK rg at hS
    rw [← e2, ← e1, ← e0] at hS
    exact hS
  · simp at h)
theorem ct70 : CTok ⟨82, fnS [aLaw, aE4, aE4] gEAdd⟩ := ctS (by
  intro xs ob r hb h ho
  unfold gEAdd at h
  split at h
  · rename_i m q w x1 y1 z1 t1 x2 y2 z2 t2
    simp only [Option.some.injEq, Prod.mk.injEq] at h
    obtain ⟨rfl, rfl⟩ := h
    obtain ⟨e0, e1, e2, h1, h2, _⟩ := ho
    subst e0 e1 e2
    have hS := spec70e ⟨x1, y1, z1, t1⟩ ⟨x2, y2, z2, t2⟩ h1 h2
    exact hS
  · simp at h)
theorem ct79 : CTok ⟨93, fnS [aLaw, aN, aE4, aE4] gEAddR⟩ := ctS (by
  intro xs ob r hb h ho
  unfold gEAddR at h
  split at h
  · rename_i m q w d x1 y1 z1 t1 x2 y2 z2 t2
    simp only [Option.some.injEq, Prod.mk.injEq] at h
    obtain ⟨rfl, rfl⟩ := h
    obtain ⟨e0, e1, e2, e3, h1, h2, _⟩ := ho
    have hS := spec79e ⟨x1, y1, z1, t1⟩ ⟨x2, y2, z2, t2⟩ h1 h2
    unfold rg0 rgK rg at hS
    rw [← e2, ← e1, ← e0] at hS
    subst e3
    exact hS
  · simp at h)
theorem ct69 : CTok ⟨81, fnS [aLaw, aE4] gDown⟩ := ctS (by
  intro xs ob r hb h ho
  unfold gDown at h
  split at h
  · rename_i m q w x1 y1 z1 t1
    simp only [Option.some.injEq, Prod.mk.injEq] at h
    obtain ⟨rfl, rfl⟩ := h
    obtain ⟨e0, e1, e2, h1, _⟩ := ho
    subst e0 e1 e2
    have hS := spec69e ⟨x1, y1, z1, t1⟩ h1
    exact hS
  · simp at h)
theorem ct75 : CTok ⟨66, fnS [aLaw, aE4] gDownR⟩ := ctS (by
  intro xs ob r hb h ho
  unfold gDownR at h
  split at h
  · rename_i m q w x1 y1 z1 t1
    simp only [Option.some.injEq, Prod.mk.injEq] at h
    obtain ⟨rfl, rfl⟩ := h
    obtain ⟨e0, e1, e2, h1, _⟩ := ho
    have hS := spec75e ⟨x1, y1, z1, t1⟩ h1
    unfold rg0 rgK rg at hS
    rw [← e2, ← e1, ← e0] at hS
    exact hS
  · simp at h)
theorem ct77 : CTok ⟨68, fnS [aLaw] gTw⟩ := ctS (by
  intro xs ob r hb h ho
  unfold gTw at h
  split at h
  · rename_i m q w
    simp only [Option.some.injEq, Prod.mk.injEq] at h
    obtain ⟨rfl, rfl⟩ := h
    obtain ⟨e0, e1, e2, _⟩ := ho
    have hS := spec77e
    unfold rg0 rgK rg at hS
    rw [← e2, ← e1, ← e0] at hS
    exact hS
  · simp at h)
noncomputable def L10 : List CT := [⟨80, cV (.val lawV)⟩, ⟨68, fnS [aLaw] gTw⟩, ⟨84, fnS [aLaw, aPt] gOf⟩, ⟨69, fnS [aLaw, aPt] gOfR⟩, ⟨82, fnS [aLaw, aE4, aE4] gEAdd⟩, ⟨93, fnS [aLaw, aN, aE4, aE4] gEAddR⟩, ⟨81, fnS [aLaw, aE4] gDown⟩, ⟨66, fnS [aLaw, aE4] gDownR⟩] ++ L9a
theorem L10_ok : AllCT L10 := ⟨ctV spec68e, ct77, ct72, ct78, ct70, ct79, ct69, ct75, L9a_ok⟩

theorem facN_lt32 (k : Nat) : facN k < 4294967296 := by unfold facN facF; omega
theorem facR_lt32 (u : Nat) : facR u < 4294967296 := by unfold facR; omega
theorem r2N_lt {k : Nat} (hk : k < 4) : r2N (modN k) < modN k := (okR_K hk).2.2.1
noncomputable def eStep (k : Nat) (p : E4) (j : Nat) (x : E4) : E4 := bif bitB k j then eAdd (eAdd x x) p else eAdd x x
noncomputable def eTimesG (k : Nat) (p : E4) : Nat → E4 → E4
  | 0, x => x
  | j + 1, x => eTimesG k p j (eStep k p j x)
noncomputable def eTimes (k : Nat) (p : E4) : E4 := eTimesG k p (lenN k) (eLift 0 1)
theorem eStep_lt (k : Nat) (p : E4) (j : Nat) (x : E4) : (eStep k p j x).lt := by
  unfold eStep; cases bitB k j <;> exact eAdd_lt _ _
theorem eTimesG_lt (k : Nat) (p : E4) : ∀ j x, x.lt → (eTimesG k p j x).lt
  | 0, _, h => h
  | j + 1, x, _ => eTimesG_lt k p j _ (eStep_lt k p j x)
theorem eTimes_lt (k : Nat) (p : E4) : (eTimes k p).lt := eTimesG_lt k p _ _ (eLift_lt 0 1)
def T71 (i : Int) : List AV := slots 31 [(3, pV 0), (4, pV 1), (5, pV 2), (6, pV 3), (7, pV 4), (8, iV i)]
noncomputable def M71 (k : Nat) (p x : E4) : List Blk := [⟨[.num 8 (modN 0), .a (.u .u32 (facN 0)), .num 8 twE], 114, true, false, 0⟩, ⟨[.num 8 k], 31, true, false, 0⟩, ⟨[.num 8 p.x, .num 8 p.y, .num 8 p.z, .num 8 p.t], 118, true, false, 0⟩, ⟨cellsU 32 0 zF, 118, true, false, 0⟩, ⟨[.num 8 x.x, .num 8 x.y, .num 8 x.z, .num 8 x.t], 118, true, false, 0⟩]
noncomputable def S71 : FuncId → Nat → Bool := fun f t => match f with | 83 => memN t [14, 16, 18, 25] | _ => false
noncomputable def E71 : Env := mkE L10 S71
theorem envE71 : EnvOK E71 := envMk L10_ok S71
theorem wfT71 (k : Nat) (p x : E4) (i : Int) : wfS (T71 i) (M71 k p x) = true := by
  unfold wfS
  rw [show tmsWf (M71 k p x).length (T71 i) = true by show tmsWf 5 _ = true; kernel_rfl, Bool.true_and]
  kernel_rfl
theorem ed71t (k : Nat) (p : E4) (x : E4) (j : Nat) : runTo E71 1000 (Env.S E71 83) (bodyOf Tryz.prog 83 3) (T71 (↑j : Int)) (M71 k p x) [true, true] (T71 ((↑j : Int) - (1 : Int))) 5 =
    some ([decide ((0 : Int) ≤ (↑j : Int)) = true, modN 0 < 4294967296 ^ 8, facN 0 < 4294967296, twE < 4294967296 ^ 8, x.1 < 4294967296 ^ 8, x.2 < 4294967296 ^ 8, x.3 < 4294967296 ^ 8, x.4 < 4294967296 ^ 8, x.1 < 4294967296 ^ 8, x.2 < 4294967296 ^ 8, x.3 < 4294967296 ^ 8, x.4 < 4294967296 ^ 8, modN 0 = modN 0, facN 0 = facN 0, twE = twE, E4.lt x, E4.lt x, bitB k j = true, k < 4294967296 ^ 8, (0 : Int) ≤ (↑j : Int) ∧ (↑j : Int) < (256 : Int), modN 0 < 4294967296 ^ 8, facN 0 < 4294967296, twE < 4294967296 ^ 8, mmN (modN 0) (subM (modN 0) (mmN (modN 0) (addM (modN 0) x.2 x.1) (addM (modN 0) x.2 x.1)) (mmN (modN 0) (subM (modN 0) x.2 x.1) (subM (modN 0) x.2 x.1))) (subM (modN 0) (mmN (modN 0) (addM (modN 0) x.3 x.3) x.3) (mmN (modN 0) (mmN (modN 0) x.4 twE) x.4)) < 4294967296 ^ 8, mmN (modN 0) (addM (modN 0) (mmN (modN 0) (addM (modN 0) x.3 x.3) x.3) (mmN (modN 0) (mmN (modN 0) x.4 twE) x.4)) (addM (modN 0) (mmN (modN 0) (addM (modN 0) x.2 x.1) (addM (modN 0) x.2 x.1)) (mmN (modN 0) (subM (modN 0) x.2 x.1) (subM (modN 0) x.2 x.1))) < 4294967296 ^ 8, mmN (modN 0) (subM (modN 0) (mmN (modN 0) (addM (modN 0) x.3 x.3) x.3) (mmN (modN 0) (mmN (modN 0) x.4 twE) x.4)) (addM (modN 0) (mmN (modN 0) (addM (modN 0) x.3 x.3) x.3) (mmN (modN 0) (mmN (modN 0) x.4 twE) x.4)) < 4294967296 ^ 8, mmN (modN 0) (subM (modN 0) (mmN (modN 0) (addM (modN 0) x.2 x.1) (addM (modN 0) x.2 x.1)) (mmN (modN 0) (subM (modN 0) x.2 x.1) (subM (modN 0) x.2 x.1))) (addM (modN 0) (mmN (modN 0) (addM (modN 0) x.2 x.1) (addM (modN 0) x.2 x.1)) (mmN (modN 0) (subM (modN 0) x.2 x.1) (subM (modN 0) x.2 x.1))) < 4294967296 ^ 8, p.1 < 4294967296 ^ 8, p.2 < 4294967296 ^ 8, p.3 < 4294967296 ^ 8, p.4 < 4294967296 ^ 8, modN 0 = modN 0, facN 0 = facN 0, twE = twE, E4.lt (E4.mk (E4.x (eAdd (x) (x))) (E4.y (eAdd (x) (x))) (E4.z (eAdd (x) (x))) (E4.t (eAdd (x) (x)))), E4.lt p, inI ((↑j : Int) - (1 : Int))], .normal, T71 ((j : Int) - 1), M71 k p (eAdd (eAdd x x) p)) := by kernel_rfl
theorem ed71f (k : Nat) (p : E4) (x : E4) (j : Nat) : runTo E71 1000 (Env.S E71 83) (bodyOf Tryz.prog 83 3) (T71 (↑j : Int)) (M71 k p x) [true, false] (T71 ((↑j : Int) - (1 : Int))) 5 =
    some ([decide ((0 : Int) ≤ (↑j : Int)) = true, modN 0 < 4294967296 ^ 8, facN 0 < 4294967296, twE < 4294967296 ^ 8, x.1 < 4294967296 ^ 8, x.2 < 4294967296 ^ 8, x.3 < 4294967296 ^ 8, x.4 < 4294967296 ^ 8, x.1 < 4294967296 ^ 8, x.2 < 4294967296 ^ 8, x.3 < 4294967296 ^ 8, x.4 < 4294967296 ^ 8, modN 0 = modN 0, facN 0 = facN 0, twE = twE, E4.lt x, E4.lt x, bitB k j = false, k < 4294967296 ^ 8, (0 : Int) ≤ (↑j : Int) ∧ (↑j : Int) < (256 : Int), inI ((↑j : Int) - (1 : Int))], .normal, T71 ((j : Int) - 1), M71 k p (eAdd x x)) := by kernel_rfl
theorem ed71x (k : Nat) (p : E4) (x : E4) : runTo E71 1000 (Env.S E71 83) (bodyOf Tryz.prog 83 3) (T71 (-1 : Int)) (M71 k p x) [false] (T71 (-1 : Int)) 5 =
    some ([decide ((0 : Int) ≤ (-1 : Int)) = false], .exit 0, T71 (-1), M71 k p x) := by kernel_rfl
theorem loop71 {k : Nat} {p : E4} (hk : k < 4294967296 ^ 8) (hp : p.lt) : ∀ (j : Nat) (x : E4), j ≤ 256 → x.lt → GoesN Tryz.prog (bodyOf Tryz.prog 83 3) (j + 1) (.exit 0) (T71 ((j : Int) - 1)) (M71 k p x) (T71 (-1)) (M71 k p (eTimesG k p j x))
  | 0, x, _, hx => by
    obtain ⟨hx1, hx2, hx3, hx4⟩ := id hx
    obtain ⟨hp1, hp2, hp3, hp4⟩ := id hp
    exact GoesN.out (by simp) (Runs.goes envE71 ⟨[false], _, ed71x k p x, ⟨(by first | with_reducible assumption | with_reducible exact L8 (by with_reducible assumption) | exact decide_eq_true (by omega) | exact decide_eq_false (by omega) | omega), trivial⟩, wfT71 _ _ _ _⟩)
  | j + 1, x, hj, hx => by
    have ih := loop71 hk hp j (eStep k p j x) (by omega) (eStep_lt k p j x)
    have hxx := eAdd_lt x x
    obtain ⟨hx1, hx2, hx3, hx4⟩ := id hx
    obtain ⟨hp1, hp2, hp3, hp4⟩ := id hp
    obtain ⟨hq1, hq2, hq3, hq4⟩ := id hxx
    have h0 : decide (0 ≤ (j : Int)) = true := decide_eq_true (by omega)
    have hr : 0 ≤ (j : Int) ∧ (j : Int) < 256 := by omega
    have hI : inI ((j : Int) - 1) := by unfold inI; omega
    rw [show ((j + 1 : Nat) : Int) - 1 = (j : Int) by omega]
    have hs : Goes Tryz.prog (bodyOf Tryz.prog 83 3) .normal (T71 (j : Int)) (M71 k p x) (T71 ((j : Int) - 1)) (M71 k p (eStep k p j x)) := by
      unfold eStep
      cases hb : bitB k j with
      | true => exact Runs.goes envE71 ⟨_, _, ed71t k p x j, ⟨(by first | with_reducible assumption | with_reducible exact L8 (by with_reducible assumption) | exact decide_eq_true (by omega) | exact decide_eq_false (by omega) | omega), (modN_lt _), (facN_lt32 0), (L8 twE_lt), (by first | with_reducible assumption | with_reducible exact L8 (by with_reducible assumption) | exact decide_eq_true (by omega) | exact decide_eq_false (by omega) | omega), (by first | with_reducible assumption | with_reducible exact L8 (by with_reducible assumption) | exact decide_eq_true (by omega) | exact decide_eq_false (by omega) | omega), (by first | with_reducible assumption | with_reducible exact L8 (by with_reducible assumption) | exact decide_eq_true (by omega) | exact decide_eq_false (by omega) | omega), (by first | with_reducible assumption | with_reducible exact L8 (by with_reducible assumption) | exact decide_eq_true (by omega) | exact decide_eq_false (by omega) | omega), (by first | with_reducible assumption | with_reducible exact L8 (by with_reducible assumption) | exact decide_eq_true (by omega) | exact decide_eq_false (by omega) | omega), (by first | with_reducible assumption | with_reducible exact L8 (by with_reducible assumption) | exact decide_eq_true (by omega) | exact decide_eq_false (by omega) | omega), (by first | with_reducible assumption | with_reducible exact L8 (by with_reducible assumption) | exact decide_eq_true (by omega) | exact decide_eq_false (by omega) | omega), (by first | with_reducible assumption | with_reducible exact L8 (by with_reducible assumption) | exact decide_eq_true (by omega) | exact decide_eq_false (by omega) | omega), rfl, rfl, rfl, (by first | with_reducible assumption | with_reducible exact L8 (by with_reducible assumption) | exact decide_eq_true (by omega) | exact decide_eq_false (by omega) | omega), (by first | with_reducible assumption | with_reducible exact L8 (by with_reducible assumption) | exact decide_eq_true (by omega) | exact decide_eq_false (by omega) | omega), (by first | with_reducible assumption | with_reducible exact L8 (by with_reducible assumption) | exact decide_eq_true (by omega) | exact decide_eq_false (by omega) | omega), (by first | with_reducible assumption | with_reducible exact L8 (by with_reducible assumption) | exact decide_eq_true (by omega) | exact decide_eq_false (by omega) | omega), (by first | with_reducible assumption | with_reducible exact L8 (by with_reducible assumption) | exact decide_eq_true (by omega) | exact decide_eq_false (by omega) | omega), (modN_lt _), (facN_lt32 0), (L8 twE_lt), (L8 (mmN_lt (modN_pos _))), (L8 (mmN_lt (modN_pos _))), (L8 (mmN_lt (modN_pos _))), (L8 (mmN_lt (modN_pos _))), (by first | with_reducible assumption | with_reducible exact L8 (by with_reducible assumption) | exact decide_eq_true (by omega) | exact decide_eq_false (by omega) | omega), (by first | with_reducible assumption | with_reducible exact L8 (by with_reducible assumption) | exact decide_eq_true (by omega) | exact decide_eq_false (by omega) | omega), (by first | with_reducible assumption | with_reducible exact L8 (by with_reducible assumption) | exact decide_eq_true (by omega) | exact decide_eq_false (by omega) | omega), (by first | with_reducible assumption | with_reducible exact L8 (by with_reducible assumption) | exact decide_eq_true (by omega) | exact decide_eq_false (by omega) | omega), rfl, rfl, rfl, (by first | with_reducible assumption | exact eAdd_lt _ _ | exact eLift_lt _ _ | exact hxx), (by first | with_reducible assumption | with_reducible exact L8 (by with_reducible assumption) | exact decide_eq_true (by omega) | exact decide_eq_false (by omega) | omega), (by first | with_reducible assumption | with_reducible exact L8 (by with_reducible assumption) | exact decide_eq_true (by omega) | exact decide_eq_false (by omega) | omega), trivial⟩, wfT71 _ _ _ _⟩
      | false => exact Runs.goes envE71 ⟨_, _, ed71f k p x j, ⟨(by first | with_reducible assumption | with_reducible exact L8 (by with_reducible assumption) | exact decide_eq_true (by omega) | exact decide_eq_false (by omega) | omega), (modN_lt _), (facN_lt32 0), (L8 twE_lt), (by first | with_reducible assumption | with_reducible exact L8 (by with_reducible assumption) | exact decide_eq_true (by omega) | exact decide_eq_false (by omega) | omega), (by first | with_reducible assumption | with_reducible exact L8 (by with_reducible assumption) | exact decide_eq_true (by omega) | exact decide_eq_false (by omega) | omega), (by first | with_reducible assumption | with_reducible exact L8 (by with_reducible assumption) | exact decide_eq_true (by omega) | exact decide_eq_false (by omega) | omega), (by first | with_reducible assumption | with_reducible exact L8 (by with_reducible assumption) | exact decide_eq_true (by omega) | exact decide_eq_false (by omega) | omega), (by first | with_reducible assumption | with_reducible exact L8 (by with_reducible assumption) | exact decide_eq_true (by omega) | exact decide_eq_false (by omega) | omega), (by first | with_reducible assumption | with_reducible exact L8 (by with_reducible assumption) | exact decide_eq_true (by omega) | exact decide_eq_false (by omega) | omega), (by first | with_reducible assumption | with_reducible exact L8 (by with_reducible assumption) | exact decide_eq_true (by omega) | exact decide_eq_false (by omega) | omega), (by first | with_reducible assumption | with_reducible exact L8 (by with_reducible assumption) | exact decide_eq_true (by omega) | exact decide_eq_false (by omega) | omega), rfl, rfl, rfl, (by first | with_reducible assumption | with_reducible exact L8 (by with_reducible assumption) | exact decide_eq_true (by omega) | exact decide_eq_false (by omega) | omega), (by first | with_reducible assumption | with_reducible exact L8 (by with_reducible assumption) | exact decide_eq_true (by omega) | exact decide_eq_false (by omega) | omega), (by first | with_reducible assumption | with_reducible exact L8 (by with_reducible assumption) | exact decide_eq_true (by omega) | exact decide_eq_false (by omega) | omega), (by first | with_reducible assumption | with_reducible exact L8 (by with_reducible assumption) | exact decide_eq_true (by omega) | exact decide_eq_false (by omega) | omega), (by first | with_reducible assumption | with_reducible exact L8 (by with_reducible assumption) | exact decide_eq_true (by omega) | exact decide_eq_false (by omega) | omega), (by first | with_reducible assumption | with_reducible exact L8 (by with_reducible assumption) | exact decide_eq_true (by omega) | exact decide_eq_false (by omega) | omega), trivial⟩, wfT71 _ _ _ _⟩
    exact GoesN.cons (M1 := M71 k p (eStep k p j x)) rfl hs ih
noncomputable def E71x (k : Nat) (p : E4) : Env := withL E71 3 (bodyOf Tryz.prog 83 3) (sumC (T71 ((lenN k : Int) - 1)) (M71 k p (eLift 0 1)) (T71 (-1)) (M71 k p (eTimesG k p (lenN k) (eLift 0 1))) (.exit 0))
theorem envE71x {k : Nat} {p : E4} (hk : k < 4294967296 ^ 8) (hp : p.lt) : EnvOK (E71x k p) := envWithL envE71 (sumC_ok rfl (loop71 hk hp (lenN k) _ ((lenN_spec hk).2) (eLift_lt 0 1)).loop)
def T76 (i : Int) : List AV := slots 35 [(4, pV 0), (5, pV 1), (6, pV 2), (7, pV 3), (8, pV 4), (9, pV 5), (10, iV i)]
noncomputable def M76 (k : Nat) (p x : E4) : List Blk := [⟨[.num 8 (modN 0), .a (.u .u32 (facR (limb (modN 0) 0))), .num 8 (r2N (modN 0))], 68, true, false, 0⟩, ⟨[.num 8 twE], 31, true, false, 0⟩, ⟨[.num 8 k], 31, true, false, 0⟩, ⟨[.num 8 p.x, .num 8 p.y, .num 8 p.z, .num 8 p.t], 101, true, false, 0⟩, ⟨cellsU 32 0 zF, 101, true, false, 0⟩, ⟨[.num 8 x.x, .num 8 x.y, .num 8 x.z, .num 8 x.t], 101, true, false, 0⟩]
noncomputable def S76 : FuncId → Nat → Bool := fun f t => match f with | 67 => memN t [16, 18, 20, 28] | _ => false
noncomputable def E76 : Env := mkE L10 S76
theorem envE76 : EnvOK E76 := envMk L10_ok S76
theorem wfT76 (k : Nat) (p x : E4) (i : Int) : wfS (T76 i) (M76 k p x) = true := by
  unfold wfS
  rw [show tmsWf (M76 k p x).length (T76 i) = true by show tmsWf 6 _ = true; kernel_rfl, Bool.true_and]
  kernel_rfl
theorem ed76t (k : Nat) (p : E4) (x : E4) (j : Nat) : runTo E76 1000 (Env.S E76 67) (bodyOf Tryz.prog 67 3) (T76 (↑j : Int)) (M76 k p x) [true, true] (T76 ((↑j : Int) - (1 : Int))) 6 =
    some ([decide ((0 : Int) ≤ (↑j : Int)) = true, modN 0 < 4294967296 ^ 8, facR (limb (modN 0) 0) < 4294967296, r2N (modN 0) < 4294967296 ^ 8, twE < 4294967296 ^ 8, x.1 < 4294967296 ^ 8, x.2 < 4294967296 ^ 8, x.3 < 4294967296 ^ 8, x.4 < 4294967296 ^ 8, x.1 < 4294967296 ^ 8, x.2 < 4294967296 ^ 8, x.3 < 4294967296 ^ 8, x.4 < 4294967296 ^ 8, modN 0 = modN 0, facR (limb (modN 0) 0) = facR (limb (modN 0) 0), r2N (modN 0) = r2N (modN 0), twE = twE, E4.lt x, E4.lt x, bitB k j = true, (0 : Int) ≤ (↑j : Int) ∧ (↑j : Int) < (256 : Int), k < 4294967296 ^ 8, modN 0 < 4294967296 ^ 8, facR (limb (modN 0) 0) < 4294967296, r2N (modN 0) < 4294967296 ^ 8, twE < 4294967296 ^ 8, mmN (modN 0) (subM (modN 0) (mmN (modN 0) (addM (modN 0) x.2 x.1) (addM (modN 0) x.2 x.1)) (mmN (modN 0) (subM (modN 0) x.2 x.1) (subM (modN 0) x.2 x.1))) (subM (modN 0) (mmN (modN 0) (addM (modN 0) x.3 x.3) x.3) (mmN (modN 0) (mmN (modN 0) x.4 twE) x.4)) < 4294967296 ^ 8, mmN (modN 0) (addM (modN 0) (mmN (modN 0) (addM (modN 0) x.3 x.3) x.3) (mmN (modN 0) (mmN (modN 0) x.4 twE) x.4)) (addM (modN 0) (mmN (modN 0) (addM (modN 0) x.2 x.1) (addM (modN 0) x.2 x.1)) (mmN (modN 0) (subM (modN 0) x.2 x.1) (subM (modN 0) x.2 x.1))) < 4294967296 ^ 8, mmN (modN 0) (subM (modN 0) (mmN (modN 0) (addM (modN 0) x.3 x.3) x.3) (mmN (modN 0) (mmN (modN 0) x.4 twE) x.4)) (addM (modN 0) (mmN (modN 0) (addM (modN 0) x.3 x.3) x.3) (mmN (modN 0) (mmN (modN 0) x.4 twE) x.4)) < 4294967296 ^ 8, mmN (modN 0) (subM (modN 0) (mmN (modN 0) (addM (modN 0) x.2 x.1) (addM (modN 0) x.2 x.1)) (mmN (modN 0) (subM (modN 0) x.2 x.1) (subM (modN 0) x.2 x.1))) (addM (modN 0) (mmN (modN 0) (addM (modN 0) x.2 x.1) (addM (modN 0) x.2 x.1)) (mmN (modN 0) (subM (modN 0) x.2 x.1) (subM (modN 0) x.2 x.1))) < 4294967296 ^ 8, p.1 < 4294967296 ^ 8, p.2 < 4294967296 ^ 8, p.3 < 4294967296 ^ 8, p.4 < 4294967296 ^ 8, modN 0 = modN 0, facR (limb (modN 0) 0) = facR (limb (modN 0) 0), r2N (modN 0) = r2N (modN 0), twE = twE, E4.lt (E4.mk (E4.x (eAdd (x) (x))) (E4.y (eAdd (x) (x))) (E4.z (eAdd (x) (x))) (E4.t (eAdd (x) (x)))), E4.lt p, inI ((↑j : Int) - (1 : Int))], .normal, T76 ((j : Int) - 1), M76 k p (eAdd (eAdd x x) p)) := by kernel_rfl
theorem ed76f (k : Nat) (p : E4) (x : E4) (j : Nat) : runTo E76 1000 (Env.S E76 67) (bodyOf Tryz.prog 67 3) (T76 (↑j : Int)) (M76 k p x) [true, false] (T76 ((↑j : Int) - (1 : Int))) 6 =
    some ([decide ((0 : Int) ≤ (↑j : Int)) = true, modN 0 < 4294967296 ^ 8, facR (limb (modN 0) 0) < 4294967296, r2N (modN 0) < 4294967296 ^ 8, twE < 4294967296 ^ 8, x.1 < 4294967296 ^ 8, x.2 < 4294967296 ^ 8, x.3 < 4294967296 ^ 8, x.4 < 4294967296 ^ 8, x.1 < 4294967296 ^ 8, x.2 < 4294967296 ^ 8, x.3 < 4294967296 ^ 8, x.4 < 4294967296 ^ 8, modN 0 = modN 0, facR (limb (modN 0) 0) = facR (limb (modN 0) 0), r2N (modN 0) = r2N (modN 0), twE = twE, E4.lt x, E4.lt x, bitB k j = false, (0 : Int) ≤ (↑j : Int) ∧ (↑j : Int) < (256 : Int), k < 4294967296 ^ 8, inI ((↑j : Int) - (1 : Int))], .normal, T76 ((j : Int) - 1), M76 k p (eAdd x x)) := by kernel_rfl
theorem ed76x (k : Nat) (p : E4) (x : E4) : runTo E76 1000 (Env.S E76 67) (bodyOf Tryz.prog 67 3) (T76 (-1 : Int)) (M76 k p x) [false] (T76 (-1 : Int)) 6 =
    some ([decide ((0 : Int) ≤ (-1 : Int)) = false], .exit 0, T76 (-1), M76 k p x) := by kernel_rfl
theorem loop76 {k : Nat} {p : E4} (hk : k < 4294967296 ^ 8) (hp : p.lt) : ∀ (j : Nat) (x : E4), j ≤ 256 → x.lt → GoesN Tryz.prog (bodyOf Tryz.prog 67 3) (j + 1) (.exit 0) (T76 ((j : Int) - 1)) (M76 k p x) (T76 (-1)) (M76 k p (eTimesG k p j x))
  | 0, x, _, hx => by
    obtain ⟨hx1, hx2, hx3, hx4⟩ := id hx
    obtain ⟨hp1, hp2, hp3, hp4⟩ := id hp
    exact GoesN.out (by simp) (Runs.goes envE76 ⟨[false], _, ed76x k p x, ⟨(by first | with_reducible assumption | with_reducible exact L8 (by with_reducible assumption) | exact decide_eq_true (by omega) | exact decide_eq_false (by omega) | omega), trivial⟩, wfT76 _ _ _ _⟩)
  | j + 1, x, hj, hx => by
    have ih := loop76 hk hp j (eStep k p j x) (by omega) (eStep_lt k p j x)
    have hxx := eAdd_lt x x
    obtain ⟨hx1, hx2, hx3, hx4⟩ := id hx
    obtain ⟨hp1, hp2, hp3, hp4⟩ := id hp
    obtain ⟨hq1, hq2, hq3, hq4⟩ := id hxx
    have h0 : decide (0 ≤ (j : Int)) = true := decide_eq_true (by omega)
    have hr : 0 ≤ (j : Int) ∧ (j : Int) < 256 := by omega
    have hI : inI ((j : Int) - 1) := by unfold inI; omega
    rw [show ((j + 1 : Nat) : Int) - 1 = (j : Int) by omega]
    have hs : Goes Tryz.prog (bodyOf Tryz.prog 67 3) .normal (T76 (j : Int)) (M76 k p x) (T76 ((j : Int) - 1)) (M76 k p (eStep k p j x)) := by
      unfold eStep
      cases hb : bitB k j with
      | true => exact Runs.goes envE76 ⟨_, _, ed76t k p x j, ⟨(by first | with_reducible assumption | with_reducible exact L8 (by with_reducible assumption) | exact decide_eq_true (by omega) | exact decide_eq_false (by omega) | omega), (modN_lt _), (facR_lt32 _), (L8 (r2N_lt (by decide))), (L8 twE_lt), (by first | with_reducible assumption | with_reducible exact L8 (by with_reducible assumption) | exact decide_eq_true (by omega) | exact decide_eq_false (by omega) | omega), (by first | with_reducible assumption | with_reducible exact L8 (by with_reducible assumption) | exact decide_eq_true (by omega) | exact decide_eq_false (by omega) | omega), (by first | with_reducible assumption | with_reducible exact L8 (by with_reducible assumption) | exact decide_eq_true (by omega) | exact decide_eq_false (by omega) | omega), (by first | with_reducible assumption | with_reducible exact L8 (by with_reducible assumption) | exact decide_eq_true (by omega) | exact decide_eq_false (by omega) | omega), (by first | with_reducible assumption | with_reducible exact L8 (by with_reducible assumption) | exact decide_eq_true (by omega) | exact decide_eq_false (by omega) | omega), (by first | with_reducible assumption | with_reducible exact L8 (by with_reducible assumption) | exact decide_eq_true (by omega) | exact decide_eq_false (by omega) | omega), (by first | with_reducible assumption | with_reducible exact L8 (by with_reducible assumption) | exact decide_eq_true (by omega) | exact decide_eq_false (by omega) | omega), (by first | with_reducible assumption | with_reducible exact L8 (by with_reducible assumption) | exact decide_eq_true (by omega) | exact decide_eq_false (by omega) | omega), rfl, rfl, rfl, rfl, (by first | with_reducible assumption | with_reducible exact L8 (by with_reducible assumption) | exact decide_eq_true (by omega) | exact decide_eq_false (by omega) | omega), (by first | with_reducible assumption | with_reducible exact L8 (by with_reducible assumption) | exact decide_eq_true (by omega) | exact decide_eq_false (by omega) | omega), (by first | with_reducible assumption | with_reducible exact L8 (by with_reducible assumption) | exact decide_eq_true (by omega) | exact decide_eq_false (by omega) | omega), (by first | with_reducible assumption | with_reducible exact L8 (by with_reducible assumption) | exact decide_eq_true (by omega) | exact decide_eq_false (by omega) | omega), (by first | with_reducible assumption | with_reducible exact L8 (by with_reducible assumption) | exact decide_eq_true (by omega) | exact decide_eq_false (by omega) | omega), (modN_lt _), (facR_lt32 _), (L8 (r2N_lt (by decide))), (L8 twE_lt), (L8 (mmN_lt (modN_pos _))), (L8 (mmN_lt (modN_pos _))), (L8 (mmN_lt (modN_pos _))), (L8 (mmN_lt (modN_pos _))), (by first | with_reducible assumption | with_reducible exact L8 (by with_reducible assumption) | exact decide_eq_true (by omega) | exact decide_eq_false (by omega) | omega), (by first | with_reducible assumption | with_reducible exact L8 (by with_reducible assumption) | exact decide_eq_true (by omega) | exact decide_eq_false (by omega) | omega), (by first | with_reducible assumption | with_reducible exact L8 (by with_reducible assumption) | exact decide_eq_true (by omega) | exact decide_eq_false (by omega) | omega), (by first | with_reducible assumption | with_reducible exact L8 (by with_reducible assumption) | exact decide_eq_true (by omega) | exact decide_eq_false (by omega) | omega), rfl, rfl, rfl, rfl, (by first | with_reducible assumption | exact eAdd_lt _ _ | exact eLift_lt _ _ | exact hxx), (by first | with_reducible assumption | with_reducible exact L8 (by with_reducible assumption) | exact decide_eq_true (by omega) | exact decide_eq_false (by omega) | omega), (by first | with_reducible assumption | with_reducible exact L8 (by with_reducible assumption) | exact decide_eq_true (by omega) | exact decide_eq_false (by omega) | omega), trivial⟩, wfT76 _ _ _ _⟩
      | false => exact Runs.goes envE76 ⟨_, _, ed76f k p x j, ⟨(by first | with_reducible assumption | with_reducible exact L8 (by with_reducible assumption) | exact decide_eq_true (by omega) | exact decide_eq_false (by omega) | omega), (modN_lt _), (facR_lt32 _), (L8 (r2N_lt (by decide))), (L8 twE_lt), (by first | with_reducible assumption | with_reducible exact L8 (by with_reducible assumption) | exact decide_eq_true (by omega) | exact decide_eq_false (by omega) | omega), (by first | with_reducible assumption | with_reducible exact L8 (by with_reducible assumption) | exact decide_eq_true (by omega) | exact decide_eq_false (by omega) | omega), (by first | with_reducible assumption | with_reducible exact L8 (by with_reducible assumption) | exact decide_eq_true (by omega) | exact decide_eq_false (by omega) | omega), (by first | with_reducible assumption | with_reducible exact L8 (by with_reducible assumption) | exact decide_eq_true (by omega) | exact decide_eq_false (by omega) | omega), (by first | with_reducible assumption | with_reducible exact L8 (by with_reducible assumption) | exact decide_eq_true (by omega) | exact decide_eq_false (by omega) | omega), (by first | with_reducible assumption | with_reducible exact L8 (by with_reducible assumption) | exact decide_eq_true (by omega) | exact decide_eq_false (by omega) | omega), (by first | with_reducible assumption | with_reducible exact L8 (by with_reducible assumption) | exact decide_eq_true (by omega) | exact decide_eq_false (by omega) | omega), (by first | with_reducible assumption | with_reducible exact L8 (by with_reducible assumption) | exact decide_eq_true (by omega) | exact decide_eq_false (by omega) | omega), rfl, rfl, rfl, rfl, (by first | with_reducible assumption | with_reducible exact L8 (by with_reducible assumption) | exact decide_eq_true (by omega) | exact decide_eq_false (by omega) | omega), (by first | with_reducible assumption | with_reducible exact L8 (by with_reducible assumption) | exact decide_eq_true (by omega) | exact decide_eq_false (by omega) | omega), (by first | with_reducible assumption | with_reducible exact L8 (by with_reducible assumption) | exact decide_eq_true (by omega) | exact decide_eq_false (by omega) | omega), (by first | with_reducible assumption | with_reducible exact L8 (by with_reducible assumption) | exact decide_eq_true (by omega) | exact decide_eq_false (by omega) | omega), (by first | with_reducible assumption | with_reducible exact L8 (by with_reducible assumption) | exact decide_eq_true (by omega) | exact decide_eq_false (by omega) | omega), (by first | with_reducible assumption | with_reducible exact L8 (by with_reducible assumption) | exact decide_eq_true (by omega) | exact decide_eq_false (by omega) | omega), trivial⟩, wfT76 _ _ _ _⟩
    exact GoesN.cons (M1 := M76 k p (eStep k p j x)) rfl hs ih
noncomputable def E76x (k : Nat) (p : E4) : Env := withL E76 3 (bodyOf Tryz.prog 67 3) (sumC (T76 ((lenQ k 256 : Int) - 1)) (M76 k p (eLift 0 1)) (T76 (-1)) (M76 k p (eTimesG k p (lenQ k 256) (eLift 0 1))) (.exit 0))
theorem envE76x {k : Nat} {p : E4} (hk : k < 4294967296 ^ 8) (hp : p.lt) : EnvOK (E76x k p) := envWithL envE76 (sumC_ok rfl (loop76 hk hp (lenQ k 256) _ ((lenQ_spec k 256 hk).2) (eLift_lt 0 1)).loop)
theorem ed71 (k : Nat) (p : E4) : callR (E71x k p) 1000 83 [lawV, N8 k, e4V p] [] =
    some ([modN 0 < 4294967296 ^ 8, facN 0 < 4294967296, twE < 4294967296 ^ 8, 0 < 4294967296 ^ 8, 1 < 4294967296 ^ 8, modN 0 = modN 0, facN 0 = facN 0, twE = twE, 0 < modN 0, 1 < modN 0, k < 4294967296 ^ 8, inI ((↑(lenN k) : Int) - (1 : Int)), (bodyOf Tryz.prog 83 3) = (bodyOf Tryz.prog 83 3), (T71 ((lenN k : Int) - 1), M71 k p (eLift 0 1)) = (T71 ((lenN k : Int) - 1), M71 k p (eLift 0 1)), wfS (T71 ((lenN k : Int) - 1)) (M71 k p (eLift 0 1)) = true], .val (e4V (eTimesG k p (lenN k) (eLift 0 1)))) := by kernel_rfl
theorem spec71t (k : Nat) (p : E4) (hk : k < 4294967296 ^ 8) (hp : p.lt) : Spec 83 [lawV, N8 k, e4V p] (.val (e4V (eTimes k p))) := by
  obtain ⟨hp1, hp2, hp3, hp4⟩ := id hp
  have hl := (lenN_spec hk).2
  have hI : inI ((lenN k : Int) - 1) := by unfold inI; omega
  have hw := wfT71 k p (eLift 0 1) ((lenN k : Int) - 1)
  have h := spec_run (envE71x hk hp) rfl (ed71 k p) ⟨(modN_lt _), (facN_lt32 0), (L8 twE_lt), lit0_8, lit1_8, rfl, rfl, rfl, (modN_pos _), (modN_one _), (by first | with_reducible assumption | with_reducible exact L8 (by with_reducible assumption) | exact decide_eq_true (by omega) | exact decide_eq_false (by omega) | omega), (by first | with_reducible assumption | with_reducible exact L8 (by with_reducible assumption) | exact decide_eq_true (by omega) | exact decide_eq_false (by omega) | omega), rfl, rfl, (by assumption), trivial⟩ rfl rfl
  
  exact h
theorem ed76 (k : Nat) (p : E4) : callR (E76x k p) 1000 67 [rg0, N8 twE, N8 k, e4V p] [] =
    some ([modN 0 < 4294967296 ^ 8, facR (limb (modN 0) 0) < 4294967296, r2N (modN 0) < 4294967296 ^ 8, 0 < 4294967296 ^ 8, 1 < 4294967296 ^ 8, modN 0 = modN 0, facR (limb (modN 0) 0) = facR (limb (modN 0) 0), r2N (modN 0) = r2N (modN 0), 0 < modN 0, 1 < modN 0, k < 4294967296 ^ 8, inI ((↑(lenQ k 256) : Int) - (1 : Int)), (bodyOf Tryz.prog 67 3) = (bodyOf Tryz.prog 67 3), (T76 ((lenQ k 256 : Int) - 1), M76 k p (eLift 0 1)) = (T76 ((lenQ k 256 : Int) - 1), M76 k p (eLift 0 1)), wfS (T76 ((lenQ k 256 : Int) - 1)) (M76 k p (eLift 0 1)) = true], .val (e4V (eTimesG k p (lenQ k 256) (eLift 0 1)))) := by kernel_rfl
theorem spec76t (k : Nat) (p : E4) (hk : k < 4294967296 ^ 8) (hp : p.lt) : Spec 67 [rg0, N8 twE, N8 k, e4V p] (.val (e4V (eTimes k p))) := by
  obtain ⟨hp1, hp2, hp3, hp4⟩ := id hp
  have hl := (lenQ_spec k 256 hk).2
  have hI : inI ((lenQ k 256 : Int) - 1) := by unfold inI; omega
  have hw := wfT76 k p (eLift 0 1) ((lenQ k 256 : Int) - 1)
  have h := spec_run (envE76x hk hp) rfl (ed76 k p) ⟨(modN_lt _), (facR_lt32 _), (L8 (r2N_lt (by decide))), lit0_8, lit1_8, rfl, rfl, rfl, (modN_pos _), (modN_one _), (by first | with_reducible assumption | with_reducible exact L8 (by with_reducible assumption) | exact decide_eq_true (by omega) | exact decide_eq_false (by omega) | omega), (by first | with_reducible assumption | with_reducible exact L8 (by with_reducible assumption) | exact decide_eq_true (by omega) | exact decide_eq_false (by omega) | omega), rfl, rfl, (by assumption), trivial⟩ rfl rfl
  rw [lenQ_N hk] at h
  exact h
end Go.Ev

namespace Go.Ev
open Go Go.Proofs Go.RowKit

theorem subM_add {m a b : Nat} (hb : b < m) : (subM m a b + b) % m = a % m := by
  unfold subM
  rw [Nat.mod_add_mod, Nat.sub_add_cancel (by omega), Nat.add_mod_right]
theorem add_inj {m r s y : Nat} (hr : r < m) (hs : s < m) (h : (r + y) % m = (s + y) % m) : r = s := by
  have h1 : ∀ {r s : Nat}, r < m → s < m → r ≤ s → (r + y) % m = (s + y) % m → r = s := by
    intro r s _ hs hle h
    have h2 : (s + y - (r + y)) % m = 0 := Nat.sub_mod_eq_zero_of_mod_eq h.symm
    rw [show s + y - (r + y) = s - r by omega, Nat.mod_eq_of_lt (by omega)] at h2
    omega
  rcases Nat.le_total r s with hle | hle
  · exact h1 hr hs hle h
  · exact (h1 hs hr hle h.symm).symm
theorem in_mod (m a : Nat) : inN m (a % m) = inN m a := by rw [in_eq, in_eq, Nat.mod_mul_mod]
theorem in_add {m : Nat} (a b : Nat) : addM m (inN m a) (inN m b) = inN m (addM m a b) := by
  unfold addM
  rw [in_mod, in_eq, in_eq, in_eq, ← Nat.add_mod, Nat.add_mul]
theorem in_sub {m : Nat} (hm : 0 < m) {a b : Nat} (hb : b < m) : subM m (inN m a) (inN m b) = inN m (subM m a b) := by
  refine add_inj (y := inN m b) (subM_lt hm) (inN_lt hm) ?_
  rw [subM_add (inN_lt hm)]
  have h := in_add (m := m) (subM m a b) b
  unfold addM at h
  rw [h, subM_add hb, in_mod, Nat.mod_eq_of_lt (inN_lt hm)]
theorem in_mul {k : Nat} (hk : k < 4) (x y : Nat) : mmN (modN k) (inN (modN k) x) (inN (modN k) y) = inN (modN k) (mulM (modN k) x y) := mm_in (modN_lt k) (good_fac hk)

def pTw : Nat := addM (modN 0) dN dN
def pA (p q : E4) : Nat := mulM (modN 0) (subM (modN 0) p.y p.x) (subM (modN 0) q.y q.x)
def pB (p q : E4) : Nat := mulM (modN 0) (addM (modN 0) p.y p.x) (addM (modN 0) q.y q.x)
def pC (p q : E4) : Nat := mulM (modN 0) (mulM (modN 0) p.t pTw) q.t
def pD (p q : E4) : Nat := mulM (modN 0) (addM (modN 0) p.z p.z) q.z
def pE (p q : E4) : Nat := subM (modN 0) (pB p q) (pA p q)
def pF (p q : E4) : Nat := subM (modN 0) (pD p q) (pC p q)
def pG (p q : E4) : Nat := addM (modN 0) (pD p q) (pC p q)
def pH (p q : E4) : Nat := addM (modN 0) (pB p q) (pA p q)
def pAdd (p q : E4) : E4 := ⟨mulM (modN 0) (pE p q) (pF p q), mulM (modN 0) (pG p q) (pH p q), mulM (modN 0) (pF p q) (pG p q), mulM (modN 0) (pE p q) (pH p q)⟩
def pLift (x y : Nat) : E4 := ⟨x, y, 1, mulM (modN 0) x y⟩
def inE (p : E4) : E4 := ⟨inN (modN 0) p.x, inN (modN 0) p.y, inN (modN 0) p.z, inN (modN 0) p.t⟩
def pStep (k : Nat) (p : E4) (j : Nat) (x : E4) : E4 := bif bitB k j then pAdd (pAdd x x) p else pAdd x x
def pTimesG (k : Nat) (p : E4) : Nat → E4 → E4
  | 0, x => x
  | j + 1, x => pTimesG k p j (pStep k p j x)
def pTimes (k : Nat) (p : E4) : E4 := pTimesG k p (lenN k) (pLift 0 1)
theorem pAdd_lt (p q : E4) : (pAdd p q).lt := ⟨mulM_lt (modN_pos 0), mulM_lt (modN_pos 0), mulM_lt (modN_pos 0), mulM_lt (modN_pos 0)⟩
theorem pLift_lt {x y : Nat} (hx : x < modN 0) (hy : y < modN 0) : (pLift x y).lt := ⟨hx, hy, modN_one 0, mulM_lt (modN_pos 0)⟩
theorem twE_in : twE = inN (modN 0) pTw := in_add dN dN
theorem eAdd_in {p q : E4} (hp : p.lt) (hq : q.lt) : eAdd (inE p) (inE q) = inE (pAdd p q) := by
  obtain ⟨h1, h2, h3, h4⟩ := hp
  obtain ⟨h5, h6, h7, h8⟩ := hq
  have hm := modN_pos 0
  have hA : eA (inE p) (inE q) = inN (modN 0) (pA p q) := by
    simp only [eA, inE, pA]; rw [in_sub hm h1, in_sub hm h5, in_mul (by decide)]
  have hB : eB (inE p) (inE q) = inN (modN 0) (pB p q) := by
    simp only [eB, inE, pB]; rw [in_add, in_add, in_mul (by decide)]
  have hC : eC (inE p) (inE q) = inN (modN 0) (pC p q) := by
    simp only [eC, inE, pC]; rw [twE_in, in_mul (by decide), in_mul (by decide)]
  have hD : eD (inE p) (inE q) = inN (modN 0) (pD p q) := by
    simp only [eD, inE, pD]; rw [in_add, in_mul (by decide)]
  have hE : eE (inE p) (inE q) = inN (modN 0) (pE p q) := by
    unfold eE pE; rw [hA, hB, in_sub hm (show pA p q < modN 0 from mulM_lt hm)]
  have hF : eF (inE p) (inE q) = inN (modN 0) (pF p q) := by
    unfold eF pF; rw [hC, hD, in_sub hm (show pC p q < modN 0 from mulM_lt hm)]
  have hG : eG (inE p) (inE q) = inN (modN 0) (pG p q) := by
    unfold eG pG; rw [hC, hD, in_add]
  have hH : eH (inE p) (inE q) = inN (modN 0) (pH p q) := by
    unfold eH pH; rw [hA, hB, in_add]
  unfold eAdd pAdd inE
  rw [← inE, ← inE, hE, hF, hG, hH, in_mul (by decide), in_mul (by decide), in_mul (by decide), in_mul (by decide)]
theorem eLift_in (x y : Nat) : eLift x y = inE (pLift x y) := by
  unfold eLift inE pLift
  rw [in_mul (by decide)]
theorem eStep_in {k j : Nat} {p x : E4} (hp : p.lt) (hx : x.lt) : eStep k (inE p) j (inE x) = inE (pStep k p j x) := by
  unfold eStep pStep
  rw [eAdd_in hx hx, eAdd_in (pAdd_lt x x) hp]
  cases bitB k j <;> rfl
theorem pStep_lt (k : Nat) (p : E4) (j : Nat) (x : E4) : (pStep k p j x).lt := by
  unfold pStep; cases bitB k j <;> exact pAdd_lt _ _
theorem eTimesG_in {k : Nat} {p : E4} (hp : p.lt) : ∀ (j : Nat) (x : E4), x.lt → eTimesG k (inE p) j (inE x) = inE (pTimesG k p j x)
  | 0, _, _ => rfl
  | j + 1, x, hx => by
    show eTimesG k (inE p) j (eStep k (inE p) j (inE x)) = inE (pTimesG k p j (pStep k p j x))
    rw [eStep_in hp hx]
    exact eTimesG_in hp j _ (pStep_lt k p j x)
theorem pTimesG_lt (k : Nat) (p : E4) : ∀ (j : Nat) (x : E4), x.lt → (pTimesG k p j x).lt
  | 0, _, h => h
  | j + 1, x, _ => pTimesG_lt k p j _ (pStep_lt k p j x)
theorem none_lt : (pLift 0 1).lt := pLift_lt (modN_pos 0) (modN_one 0)
theorem pTimes_lt (k : Nat) (p : E4) : (pTimes k p).lt := pTimesG_lt k p _ _ none_lt
theorem eTimes_in {k : Nat} {p : E4} (hp : p.lt) : eTimes k (inE p) = inE (pTimes k p) := by
  unfold eTimes pTimes
  rw [eLift_in]
  exact eTimesG_in hp _ _ none_lt
def pInv (z : Nat) : Nat := Go.NT.pwM (modN 0) z (subN (modN 0) 2)
def pDown (p : E4) (c : Nat) : Nat := mulM (modN 0) c (pInv p.z)
theorem down_in {p : E4} (hp : p.lt) (c : Nat) : outN (modN 0) (mmN (modN 0) (inN (modN 0) c) (minvN (modN 0) (inN (modN 0) p.z))) = pDown p c := by
  unfold minvN pDown pInv
  rw [mpow_in, out_in (modN_lt 0) (good_fac (by decide)) hp.2.2.1, in_mul (by decide), out_in (modN_lt 0) (good_fac (by decide)) (mulM_lt (modN_pos 0))]
theorem eDownX_in {p : E4} (hp : p.lt) : eDownX (inE p) = pDown p p.x := down_in hp p.x
theorem eDownY_in {p : E4} (hp : p.lt) : eDownY (inE p) = pDown p p.y := down_in hp p.y

def kDown (p : E4) (c : Nat) : Nat := mulM (modN 0) c (Go.NT.powK 256 p.z (subN (modN 0) 2) (modN 0))
theorem kDown_eq (p : E4) (c : Nat) : kDown p c = pDown p c := by
  unfold kDown pDown pInv
  rw [pwM_K (by decide +kernel) (by decide +kernel)]
def pOn (x y : Nat) : Bool := decide (subM (modN 0) (mulM (modN 0) y y) (mulM (modN 0) x x) = addM (modN 0) 1 (mulM (modN 0) dN (mulM (modN 0) (mulM (modN 0) x x) (mulM (modN 0) y y))))
theorem eqE_in {x y : Nat} : eqE x y = pOn x y := by
  have hm := modN_pos 0
  unfold eqE pOn
  rw [in_mul (by decide), in_mul (by decide), in_mul (by decide), in_mul (by decide), in_add, in_sub hm (mulM_lt hm), Bool.eq_iff_iff, decide_eq_true_iff, decide_eq_true_iff]
  exact ⟨fun h => in_inj (modN_lt 0) (good_fac (by decide)) (subM_lt hm) (addM_lt hm) h, fun h => by rw [h]⟩
theorem onE_base : onE bXN bYN = true := by
  unfold onE
  rw [eqE_in]
  decide +kernel
theorem onE_none : onE 0 1 = true := by
  unfold onE
  rw [eqE_in]
  decide +kernel
end Go.Ev

namespace Go.Ev
open Go Go.Proofs Go.RowKit

theorem E4.ltx {p : E4} (h : p.lt) : p.x < 4294967296 ^ 8 := L8 h.1
theorem E4.lty {p : E4} (h : p.lt) : p.y < 4294967296 ^ 8 := L8 h.2.1
theorem E4.ltz {p : E4} (h : p.lt) : p.z < 4294967296 ^ 8 := L8 h.2.2.1
theorem E4.ltt {p : E4} (h : p.lt) : p.t < 4294967296 ^ 8 := L8 h.2.2.2
noncomputable def gETimes : List Val → Option (List Prop × AV)
  | [.n m, .n q, .n w, .n k, .n x1, .n y1, .n z1, .n t1] => some ([m = modN 0, q = facN 0, w = twE, E4.lt ⟨x1, y1, z1, t1⟩], .val (e4V (eTimes k ⟨x1, y1, z1, t1⟩)))
  | _ => none
noncomputable def gETimesR : List Val → Option (List Prop × AV)
  | [.n m, .n q, .n w, .n d, .n k, .n x1, .n y1, .n z1, .n t1] => some ([m = modN 0, q = facR (limb (modN 0) 0), w = r2N (modN 0), d = twE, E4.lt ⟨x1, y1, z1, t1⟩], .val (e4V (eTimes k ⟨x1, y1, z1, t1⟩)))
  | _ => none
theorem ct71 : CTok ⟨83, fnS [aLaw, aN, aE4] gETimes⟩ := ctS (by
  intro xs ob r hb h ho
  unfold gETimes at h
  split at h
  · rename_i m q w k x1 y1 z1 t1
    simp only [Option.some.injEq, Prod.mk.injEq] at h
    obtain ⟨rfl, rfl⟩ := h
    obtain ⟨e0, e1, e2, h1, _⟩ := ho
    obtain ⟨_, ⟨hk, _⟩, _⟩ := hb
    subst e0 e1 e2
    have hS := spec71t k ⟨x1, y1, z1, t1⟩ hk h1
    exact hS
  · simp at h)
theorem ct76 : CTok ⟨67, fnS [aLaw, aN, aN, aE4] gETimesR⟩ := ctS (by
  intro xs ob r hb h ho
  unfold gETimesR at h
  split at h
  · rename_i m q w d k x1 y1 z1 t1
    simp only [Option.some.injEq, Prod.mk.injEq] at h
    obtain ⟨rfl, rfl⟩ := h
    obtain ⟨e0, e1, e2, e3, h1, _⟩ := ho
    obtain ⟨_, _, ⟨hk, _⟩, _⟩ := hb
    have hS := spec76t k ⟨x1, y1, z1, t1⟩ hk h1
    unfold rg0 rgK rg at hS
    rw [← e2, ← e1, ← e0] at hS
    subst e3
    exact hS
  · simp at h)
noncomputable def L12 : List CT := [⟨83, fnS [aLaw, aN, aE4] gETimes⟩, ⟨67, fnS [aLaw, aN, aN, aE4] gETimesR⟩] ++ L10
theorem L12_ok : AllCT L12 := ⟨ct71, ct76, L10_ok⟩

noncomputable def sumE (px py qx qy : Nat) : E4 := eAdd (eLift px py) (eLift qx qy)
noncomputable def timE (k px py : Nat) : E4 := eTimes k (eLift px py)
noncomputable def botE (k px py m qx qy : Nat) : E4 := eAdd (eTimes k (eLift px py)) (eTimes m (eLift qx qy))
noncomputable def dwn (p : E4) : V1 := P2 (eDownX p) (eDownY p)
noncomputable def S12 : FuncId → Nat → Bool := fun f t => match f with | 46 => memN t [5] | 47 => memN t [12, 16] | _ => false
noncomputable def E12 : Env := mkE L12 S12
theorem envE12 : EnvOK E12 := envMk L12_ok S12
def noP : V1 := P2 0 0
def noC : V1 := .agg [.a (.u .u32 0), .a (.u .u32 0), .a (.u .u32 0), .a (.u .u32 0), .a (.u .u32 0), .a (.u .u32 0), .a (.u .u32 0), .a (.u .u32 0), .a (.u .u32 0), .a (.u .u32 0), .a (.u .u32 0), .a (.u .u32 0), .a (.u .u32 0), .a (.u .u32 0), .a (.u .u32 0), .a (.u .u32 0)]
theorem noC_conc (φ : Loc) : noC.conc φ = noP.conc φ := rfl
theorem ed43 (px : Nat) (py : Nat) : callR E12 1000 53 [P2 px py] [] =
    some ([(0 : Int) ≤ (0 : Int) ∧ (0 : Int) < (4 : Int), okR (modN 0) (facR (limb (modN 0) 0)) (r2N (modN 0)), 0 < modN 0, px < modN 0, 0 < 4294967296, 0 < 4294967296, 0 < 4294967296, 0 < 4294967296, 0 < 4294967296, 0 < 4294967296, 0 < 4294967296, 0 < 4294967296, px < 4294967296 ^ 8], .val (P2 (subM (modN 0) 0 px) py)) := by kernel_rfl
theorem ed30 (k : Nat) (px : Nat) (py : Nat) : callR E12 1000 35 [N8 k, P2 px py] [] =
    some ([(0 : Int) ≤ (0 : Int) ∧ (0 : Int) < (4 : Int), modN 0 < 4294967296 ^ 8, facR (limb (modN 0) 0) < 4294967296, r2N (modN 0) < 4294967296 ^ 8, modN 0 = modN 0, facR (limb (modN 0) 0) = facR (limb (modN 0) 0), r2N (modN 0) = r2N (modN 0), modN 0 < 4294967296 ^ 8, facR (limb (modN 0) 0) < 4294967296, r2N (modN 0) < 4294967296 ^ 8, px < 4294967296 ^ 8, py < 4294967296 ^ 8, modN 0 = modN 0, facR (limb (modN 0) 0) = facR (limb (modN 0) 0), r2N (modN 0) = r2N (modN 0), px < modN 0, py < modN 0, modN 0 < 4294967296 ^ 8, facR (limb (modN 0) 0) < 4294967296, r2N (modN 0) < 4294967296 ^ 8, twE < 4294967296 ^ 8, k < 4294967296 ^ 8, inN (modN 0) px < 4294967296 ^ 8, inN (modN 0) py < 4294967296 ^ 8, inN (modN 0) 1 < 4294967296 ^ 8, mmN (modN 0) (inN (modN 0) px) (inN (modN 0) py) < 4294967296 ^ 8, modN 0 = modN 0, facR (limb (modN 0) 0) = facR (limb (modN 0) 0), r2N (modN 0) = r2N (modN 0), twE = twE, E4.lt (eLift px py), modN 0 < 4294967296 ^ 8, facR (limb (modN 0) 0) < 4294967296, r2N (modN 0) < 4294967296 ^ 8, (eTimes k (eLift px py)).1 < 4294967296 ^ 8, (eTimes k (eLift px py)).2 < 4294967296 ^ 8, (eTimes k (eLift px py)).3 < 4294967296 ^ 8, (eTimes k (eLift px py)).4 < 4294967296 ^ 8, modN 0 = modN 0, facR (limb (modN 0) 0) = facR (limb (modN 0) 0), r2N (modN 0) = r2N (modN 0), E4.lt (E4.mk (E4.x (eTimes k (eLift px py))) (E4.y (eTimes k (eLift px py))) (E4.z (eTimes k (eLift px py))) (E4.t (eTimes k (eLift px py))))], .val (dwn (timE k px py))) := by kernel_rfl
theorem ed31 (k : Nat) (px : Nat) (py : Nat) (m : Nat) (qx : Nat) (qy : Nat) : callR E12 1000 52 [N8 k, P2 px py, N8 m, P2 qx qy] [] =
    some ([(0 : Int) ≤ (0 : Int) ∧ (0 : Int) < (4 : Int), modN 0 < 4294967296 ^ 8, facR (limb (modN 0) 0) < 4294967296, r2N (modN 0) < 4294967296 ^ 8, modN 0 = modN 0, facR (limb (modN 0) 0) = facR (limb (modN 0) 0), r2N (modN 0) = r2N (modN 0), modN 0 < 4294967296 ^ 8, facR (limb (modN 0) 0) < 4294967296, r2N (modN 0) < 4294967296 ^ 8, px < 4294967296 ^ 8, py < 4294967296 ^ 8, modN 0 = modN 0, facR (limb (modN 0) 0) = facR (limb (modN 0) 0), r2N (modN 0) = r2N (modN 0), px < modN 0, py < modN 0, modN 0 < 4294967296 ^ 8, facR (limb (modN 0) 0) < 4294967296, r2N (modN 0) < 4294967296 ^ 8, twE < 4294967296 ^ 8, k < 4294967296 ^ 8, inN (modN 0) px < 4294967296 ^ 8, inN (modN 0) py < 4294967296 ^ 8, inN (modN 0) 1 < 4294967296 ^ 8, mmN (modN 0) (inN (modN 0) px) (inN (modN 0) py) < 4294967296 ^ 8, modN 0 = modN 0, facR (limb (modN 0) 0) = facR (limb (modN 0) 0), r2N (modN 0) = r2N (modN 0), twE = twE, E4.lt (eLift px py), modN 0 < 4294967296 ^ 8, facR (limb (modN 0) 0) < 4294967296, r2N (modN 0) < 4294967296 ^ 8, qx < 4294967296 ^ 8, qy < 4294967296 ^ 8, modN 0 = modN 0, facR (limb (modN 0) 0) = facR (limb (modN 0) 0), r2N (modN 0) = r2N (modN 0), qx < modN 0, qy < modN 0, modN 0 < 4294967296 ^ 8, facR (limb (modN 0) 0) < 4294967296, r2N (modN 0) < 4294967296 ^ 8, twE < 4294967296 ^ 8, m < 4294967296 ^ 8, inN (modN 0) qx < 4294967296 ^ 8, inN (modN 0) qy < 4294967296 ^ 8, inN (modN 0) 1 < 4294967296 ^ 8, mmN (modN 0) (inN (modN 0) qx) (inN (modN 0) qy) < 4294967296 ^ 8, modN 0 = modN 0, facR (limb (modN 0) 0) = facR (limb (modN 0) 0), r2N (modN 0) = r2N (modN 0), twE = twE, E4.lt (eLift qx qy), modN 0 < 4294967296 ^ 8, facR (limb (modN 0) 0) < 4294967296, r2N (modN 0) < 4294967296 ^ 8, twE < 4294967296 ^ 8, (eTimes k (eLift px py)).1 < 4294967296 ^ 8, (eTimes k (eLift px py)).2 < 4294967296 ^ 8, (eTimes k (eLift px py)).3 < 4294967296 ^ 8, (eTimes k (eLift px py)).4 < 4294967296 ^ 8, (eTimes m (eLift qx qy)).1 < 4294967296 ^ 8, (eTimes m (eLift qx qy)).2 < 4294967296 ^ 8, (eTimes m (eLift qx qy)).3 < 4294967296 ^ 8, (eTimes m (eLift qx qy)).4 < 4294967296 ^ 8, modN 0 = modN 0, facR (limb (modN 0) 0) = facR (limb (modN 0) 0), r2N (modN 0) = r2N (modN 0), twE = twE, E4.lt (E4.mk (E4.x (eTimes k (eLift px py))) (E4.y (eTimes k (eLift px py))) (E4.z (eTimes k (eLift px py))) (E4.t (eTimes k (eLift px py)))), E4.lt (E4.mk (E4.x (eTimes m (eLift qx qy))) (E4.y (eTimes m (eLift qx qy))) (E4.z (eTimes m (eLift qx qy))) (E4.t (eTimes m (eLift qx qy)))), modN 0 < 4294967296 ^ 8, facR (limb (modN 0) 0) < 4294967296, r2N (modN 0) < 4294967296 ^ 8, mmN (modN 0) (subM (modN 0) (mmN (modN 0) (addM (modN 0) (eTimes k (eLift px py)).2 (eTimes k (eLift px py)).1) (addM (modN 0) (eTimes m (eLift qx qy)).2 (eTimes m (eLift qx qy)).1)) (mmN (modN 0) (subM (modN 0) (eTimes k (eLift px py)).2 (eTimes k (eLift px py)).1) (subM (modN 0) (eTimes m (eLift qx qy)).2 (eTimes m (eLift qx qy)).1))) (subM (modN 0) (mmN (modN 0) (addM (modN 0) (eTimes k (eLift px py)).3 (eTimes k (eLift px py)).3) (eTimes m (eLift qx qy)).3) (mmN (modN 0) (mmN (modN 0) (eTimes k (eLift px py)).4 twE) (eTimes m (eLift qx qy)).4)) < 4294967296 ^ 8, mmN (modN 0) (addM (modN 0) (mmN (modN 0) (addM (modN 0) (eTimes k (eLift px py)).3 (eTimes k (eLift px py)).3) (eTimes m (eLift qx qy)).3) (mmN (modN 0) (mmN (modN 0) (eTimes k (eLift px py)).4 twE) (eTimes m (eLift qx qy)).4)) (addM (modN 0) (mmN (modN 0) (addM (modN 0) (eTimes k (eLift px py)).2 (eTimes k (eLift px py)).1) (addM (modN 0) (eTimes m (eLift qx qy)).2 (eTimes m (eLift qx qy)).1)) (mmN (modN 0) (subM (modN 0) (eTimes k (eLift px py)).2 (eTimes k (eLift px py)).1) (subM (modN 0) (eTimes m (eLift qx qy)).2 (eTimes m (eLift qx qy)).1))) < 4294967296 ^ 8, mmN (modN 0) (subM (modN 0) (mmN (modN 0) (addM (modN 0) (eTimes k (eLift px py)).3 (eTimes k (eLift px py)).3) (eTimes m (eLift qx qy)).3) (mmN (modN 0) (mmN (modN 0) (eTimes k (eLift px py)).4 twE) (eTimes m (eLift qx qy)).4)) (addM (modN 0) (mmN (modN 0) (addM (modN 0) (eTimes k (eLift px py)).3 (eTimes k (eLift px py)).3) (eTimes m (eLift qx qy)).3) (mmN (modN 0) (mmN (modN 0) (eTimes k (eLift px py)).4 twE) (eTimes m (eLift qx qy)).4)) < 4294967296 ^ 8, mmN (modN 0) (subM (modN 0) (mmN (modN 0) (addM (modN 0) (eTimes k (eLift px py)).2 (eTimes k (eLift px py)).1) (addM (modN 0) (eTimes m (eLift qx qy)).2 (eTimes m (eLift qx qy)).1)) (mmN (modN 0) (subM (modN 0) (eTimes k (eLift px py)).2 (eTimes k (eLift px py)).1) (subM (modN 0) (eTimes m (eLift qx qy)).2 (eTimes m (eLift qx qy)).1))) (addM (modN 0) (mmN (modN 0) (addM (modN 0) (eTimes k (eLift px py)).2 (eTimes k (eLift px py)).1) (addM (modN 0) (eTimes m (eLift qx qy)).2 (eTimes m (eLift qx qy)).1)) (mmN (modN 0) (subM (modN 0) (eTimes k (eLift px py)).2 (eTimes k (eLift px py)).1) (subM (modN 0) (eTimes m (eLift qx qy)).2 (eTimes m (eLift qx qy)).1))) < 4294967296 ^ 8, modN 0 = modN 0, facR (limb (modN 0) 0) = facR (limb (modN 0) 0), r2N (modN 0) = r2N (modN 0), E4.lt (E4.mk (E4.x (eAdd (E4.mk (E4.x (eTimes k (eLift px py))) (E4.y (eTimes k (eLift px py))) (E4.z (eTimes k (eLift px py))) (E4.t (eTimes k (eLift px py)))) (E4.mk (E4.x (eTimes m (eLift qx qy))) (E4.y (eTimes m (eLift qx qy))) (E4.z (eTimes m (eLift qx qy))) (E4.t (eTimes m (eLift qx qy)))))) (E4.y (eAdd (E4.mk (E4.x (eTimes k (eLift px py))) (E4.y (eTimes k (eLift px py))) (E4.z (eTimes k (eLift px py))) (E4.t (eTimes k (eLift px py)))) (E4.mk (E4.x (eTimes m (eLift qx qy))) (E4.y (eTimes m (eLift qx qy))) (E4.z (eTimes m (eLift qx qy))) (E4.t (eTimes m (eLift qx qy)))))) (E4.z (eAdd (E4.mk (E4.x (eTimes k (eLift px py))) (E4.y (eTimes k (eLift px py))) (E4.z (eTimes k (eLift px py))) (E4.t (eTimes k (eLift px py)))) (E4.mk (E4.x (eTimes m (eLift qx qy))) (E4.y (eTimes m (eLift qx qy))) (E4.z (eTimes m (eLift qx qy))) (E4.t (eTimes m (eLift qx qy)))))) (E4.t (eAdd (E4.mk (E4.x (eTimes k (eLift px py))) (E4.y (eTimes k (eLift px py))) (E4.z (eTimes k (eLift px py))) (E4.t (eTimes k (eLift px py)))) (E4.mk (E4.x (eTimes m (eLift qx qy))) (E4.y (eTimes m (eLift qx qy))) (E4.z (eTimes m (eLift qx qy))) (E4.t (eTimes m (eLift qx qy)))))))], .val (dwn (botE k px py m qx qy))) := by kernel_rfl
theorem ed39t (px : Nat) (py : Nat) : callR E12 1000 46 [P2 px py] [true] =
    some ([onE px py = true, px < 4294967296 ^ 8, py < 4294967296 ^ 8, (0 : Int) ≤ (0 : Int) ∧ (0 : Int) < (4 : Int), modN 0 < 4294967296 ^ 8, 0 < modN 0, px < modN 0, 0 < 4294967296, 0 < 4294967296, 0 < 4294967296, 0 < 4294967296, 0 < 4294967296, 0 < 4294967296, 0 < 4294967296, 0 < 4294967296, px < 4294967296 ^ 8], .tup [P2 (subM (modN 0) 0 px) py, .one (.i 0)]) := by kernel_rfl
theorem ed39f (px : Nat) (py : Nat) : callR E12 1000 46 [P2 px py] [false] =
    some ([onE px py = false, px < 4294967296 ^ 8, py < 4294967296 ^ 8], .tup [noC, .one (.i 7)]) := by kernel_rfl
theorem ed28t (k : Nat) (px : Nat) (py : Nat) (m : Nat) (qx : Nat) (qy : Nat) : callR E12 1000 47 [N8 k, P2 px py, N8 m, P2 qx qy] [true, true] =
    some ([onE px py = true, px < 4294967296 ^ 8, py < 4294967296 ^ 8, onE qx qy = true, qx < 4294967296 ^ 8, qy < 4294967296 ^ 8, modN 0 < 4294967296 ^ 8, facN 0 < 4294967296, twE < 4294967296 ^ 8, px < 4294967296 ^ 8, py < 4294967296 ^ 8, modN 0 = modN 0, facN 0 = facN 0, twE = twE, px < modN 0, py < modN 0, modN 0 < 4294967296 ^ 8, facN 0 < 4294967296, twE < 4294967296 ^ 8, k < 4294967296 ^ 8, inN (modN 0) px < 4294967296 ^ 8, inN (modN 0) py < 4294967296 ^ 8, inN (modN 0) 1 < 4294967296 ^ 8, mmN (modN 0) (inN (modN 0) px) (inN (modN 0) py) < 4294967296 ^ 8, modN 0 = modN 0, facN 0 = facN 0, twE = twE, E4.lt (eLift px py), modN 0 < 4294967296 ^ 8, facN 0 < 4294967296, twE < 4294967296 ^ 8, qx < 4294967296 ^ 8, qy < 4294967296 ^ 8, modN 0 = modN 0, facN 0 = facN 0, twE = twE, qx < modN 0, qy < modN 0, modN 0 < 4294967296 ^ 8, facN 0 < 4294967296, twE < 4294967296 ^ 8, m < 4294967296 ^ 8, inN (modN 0) qx < 4294967296 ^ 8, inN (modN 0) qy < 4294967296 ^ 8, inN (modN 0) 1 < 4294967296 ^ 8, mmN (modN 0) (inN (modN 0) qx) (inN (modN 0) qy) < 4294967296 ^ 8, modN 0 = modN 0, facN 0 = facN 0, twE = twE, E4.lt (eLift qx qy), modN 0 < 4294967296 ^ 8, facN 0 < 4294967296, twE < 4294967296 ^ 8, (eTimes k (eLift px py)).1 < 4294967296 ^ 8, (eTimes k (eLift px py)).2 < 4294967296 ^ 8, (eTimes k (eLift px py)).3 < 4294967296 ^ 8, (eTimes k (eLift px py)).4 < 4294967296 ^ 8, (eTimes m (eLift qx qy)).1 < 4294967296 ^ 8, (eTimes m (eLift qx qy)).2 < 4294967296 ^ 8, (eTimes m (eLift qx qy)).3 < 4294967296 ^ 8, (eTimes m (eLift qx qy)).4 < 4294967296 ^ 8, modN 0 = modN 0, facN 0 = facN 0, twE = twE, E4.lt (E4.mk (E4.x (eTimes k (eLift px py))) (E4.y (eTimes k (eLift px py))) (E4.z (eTimes k (eLift px py))) (E4.t (eTimes k (eLift px py)))), E4.lt (E4.mk (E4.x (eTimes m (eLift qx qy))) (E4.y (eTimes m (eLift qx qy))) (E4.z (eTimes m (eLift qx qy))) (E4.t (eTimes m (eLift qx qy)))), modN 0 < 4294967296 ^ 8, facN 0 < 4294967296, twE < 4294967296 ^ 8, mmN (modN 0) (subM (modN 0) (mmN (modN 0) (addM (modN 0) (eTimes k (eLift px py)).2 (eTimes k (eLift px py)).1) (addM (modN 0) (eTimes m (eLift qx qy)).2 (eTimes m (eLift qx qy)).1)) (mmN (modN 0) (subM (modN 0) (eTimes k (eLift px py)).2 (eTimes k (eLift px py)).1) (subM (modN 0) (eTimes m (eLift qx qy)).2 (eTimes m (eLift qx qy)).1))) (subM (modN 0) (mmN (modN 0) (addM (modN 0) (eTimes k (eLift px py)).3 (eTimes k (eLift px py)).3) (eTimes m (eLift qx qy)).3) (mmN (modN 0) (mmN (modN 0) (eTimes k (eLift px py)).4 twE) (eTimes m (eLift qx qy)).4)) < 4294967296 ^ 8, mmN (modN 0) (addM (modN 0) (mmN (modN 0) (addM (modN 0) (eTimes k (eLift px py)).3 (eTimes k (eLift px py)).3) (eTimes m (eLift qx qy)).3) (mmN (modN 0) (mmN (modN 0) (eTimes k (eLift px py)).4 twE) (eTimes m (eLift qx qy)).4)) (addM (modN 0) (mmN (modN 0) (addM (modN 0) (eTimes k (eLift px py)).2 (eTimes k (eLift px py)).1) (addM (modN 0) (eTimes m (eLift qx qy)).2 (eTimes m (eLift qx qy)).1)) (mmN (modN 0) (subM (modN 0) (eTimes k (eLift px py)).2 (eTimes k (eLift px py)).1) (subM (modN 0) (eTimes m (eLift qx qy)).2 (eTimes m (eLift qx qy)).1))) < 4294967296 ^ 8, mmN (modN 0) (subM (modN 0) (mmN (modN 0) (addM (modN 0) (eTimes k (eLift px py)).3 (eTimes k (eLift px py)).3) (eTimes m (eLift qx qy)).3) (mmN (modN 0) (mmN (modN 0) (eTimes k (eLift px py)).4 twE) (eTimes m (eLift qx qy)).4)) (addM (modN 0) (mmN (modN 0) (addM (modN 0) (eTimes k (eLift px py)).3 (eTimes k (eLift px py)).3) (eTimes m (eLift qx qy)).3) (mmN (modN 0) (mmN (modN 0) (eTimes k (eLift px py)).4 twE) (eTimes m (eLift qx qy)).4)) < 4294967296 ^ 8, mmN (modN 0) (subM (modN 0) (mmN (modN 0) (addM (modN 0) (eTimes k (eLift px py)).2 (eTimes k (eLift px py)).1) (addM (modN 0) (eTimes m (eLift qx qy)).2 (eTimes m (eLift qx qy)).1)) (mmN (modN 0) (subM (modN 0) (eTimes k (eLift px py)).2 (eTimes k (eLift px py)).1) (subM (modN 0) (eTimes m (eLift qx qy)).2 (eTimes m (eLift qx qy)).1))) (addM (modN 0) (mmN (modN 0) (addM (modN 0) (eTimes k (eLift px py)).2 (eTimes k (eLift px py)).1) (addM (modN 0) (eTimes m (eLift qx qy)).2 (eTimes m (eLift qx qy)).1)) (mmN (modN 0) (subM (modN 0) (eTimes k (eLift px py)).2 (eTimes k (eLift px py)).1) (subM (modN 0) (eTimes m (eLift qx qy)).2 (eTimes m (eLift qx qy)).1))) < 4294967296 ^ 8, modN 0 = modN 0, facN 0 = facN 0, twE = twE, E4.lt (E4.mk (E4.x (eAdd (E4.mk (E4.x (eTimes k (eLift px py))) (E4.y (eTimes k (eLift px py))) (E4.z (eTimes k (eLift px py))) (E4.t (eTimes k (eLift px py)))) (E4.mk (E4.x (eTimes m (eLift qx qy))) (E4.y (eTimes m (eLift qx qy))) (E4.z (eTimes m (eLift qx qy))) (E4.t (eTimes m (eLift qx qy)))))) (E4.y (eAdd (E4.mk (E4.x (eTimes k (eLift px py))) (E4.y (eTimes k (eLift px py))) (E4.z (eTimes k (eLift px py))) (E4.t (eTimes k (eLift px py)))) (E4.mk (E4.x (eTimes m (eLift qx qy))) (E4.y (eTimes m (eLift qx qy))) (E4.z (eTimes m (eLift qx qy))) (E4.t (eTimes m (eLift qx qy)))))) (E4.z (eAdd (E4.mk (E4.x (eTimes k (eLift px py))) (E4.y (eTimes k (eLift px py))) (E4.z (eTimes k (eLift px py))) (E4.t (eTimes k (eLift px py)))) (E4.mk (E4.x (eTimes m (eLift qx qy))) (E4.y (eTimes m (eLift qx qy))) (E4.z (eTimes m (eLift qx qy))) (E4.t (eTimes m (eLift qx qy)))))) (E4.t (eAdd (E4.mk (E4.x (eTimes k (eLift px py))) (E4.y (eTimes k (eLift px py))) (E4.z (eTimes k (eLift px py))) (E4.t (eTimes k (eLift px py)))) (E4.mk (E4.x (eTimes m (eLift qx qy))) (E4.y (eTimes m (eLift qx qy))) (E4.z (eTimes m (eLift qx qy))) (E4.t (eTimes m (eLift qx qy)))))))], .tup [dwn (botE k px py m qx qy), .one (.i 0)]) := by kernel_rfl
theorem spec43e {px py : Nat} (hp : onE px py = true) : Spec 53 [P2 px py] (.val (P2 (subM (modN 0) 0 px) py)) := by
  obtain ⟨h1, h2⟩ := onE_lt hp
  exact spec_run envE12 rfl (ed43 px py) ⟨(by decide), (okR_K (by decide)), (modN_pos _), (by first | with_reducible assumption | with_reducible exact L8 (by with_reducible assumption) | exact decide_eq_true (by omega) | exact decide_eq_false (by omega) | omega), lit0, lit0, lit0, lit0, lit0, lit0, lit0, lit0, (by first | with_reducible assumption | with_reducible exact L8 (by with_reducible assumption) | exact decide_eq_true (by omega) | exact decide_eq_false (by omega) | omega), trivial⟩ rfl rfl
theorem spec30e {k px py : Nat} (hk : k < 4294967296 ^ 8) (hp : onE px py = true) : Spec 35 [N8 k, P2 px py] (.val (dwn (timE k px py))) := by
  obtain ⟨h1, h2⟩ := onE_lt hp
  exact spec_run envE12 rfl (ed30 k px py) ⟨(by decide), (modN_lt _), (facR_lt32 _), (L8 (r2N_lt (by decide))), rfl, rfl, rfl, (modN_lt _), (facR_lt32 _), (L8 (r2N_lt (by decide))), (by first | with_reducible assumption | with_reducible exact L8 (by with_reducible assumption) | exact decide_eq_true (by omega) | exact decide_eq_false (by omega) | omega), (by first | with_reducible assumption | with_reducible exact L8 (by with_reducible assumption) | exact decide_eq_true (by omega) | exact decide_eq_false (by omega) | omega), rfl, rfl, rfl, (by first | with_reducible assumption | with_reducible exact L8 (by with_reducible assumption) | exact decide_eq_true (by omega) | exact decide_eq_false (by omega) | omega), (by first | with_reducible assumption | with_reducible exact L8 (by with_reducible assumption) | exact decide_eq_true (by omega) | exact decide_eq_false (by omega) | omega), (modN_lt _), (facR_lt32 _), (L8 (r2N_lt (by decide))), (L8 twE_lt), (by first | with_reducible assumption | with_reducible exact L8 (by with_reducible assumption) | exact decide_eq_true (by omega) | exact decide_eq_false (by omega) | omega), (L8 (inN_lt (modN_pos _))), (L8 (inN_lt (modN_pos _))), (L8 (inN_lt (modN_pos _))), (L8 (mmN_lt (modN_pos _))), rfl, rfl, rfl, rfl, (by first | with_reducible assumption | exact eAdd_lt _ _ | exact eLift_lt _ _ | exact eTimes_lt _ _ | exact hxx), (modN_lt _), (facR_lt32 _), (L8 (r2N_lt (by decide))), (by first | with_reducible exact E4.ltx (eTimes_lt _ _) | with_reducible exact E4.lty (eTimes_lt _ _) | with_reducible exact E4.ltz (eTimes_lt _ _) | with_reducible exact E4.ltt (eTimes_lt _ _)), (by first | with_reducible exact E4.ltx (eTimes_lt _ _) | with_reducible exact E4.lty (eTimes_lt _ _) | with_reducible exact E4.ltz (eTimes_lt _ _) | with_reducible exact E4.ltt (eTimes_lt _ _)), (by first | with_reducible exact E4.ltx (eTimes_lt _ _) | with_reducible exact E4.lty (eTimes_lt _ _) | with_reducible exact E4.ltz (eTimes_lt _ _) | with_reducible exact E4.ltt (eTimes_lt _ _)), (by first | with_reducible exact E4.ltx (eTimes_lt _ _) | with_reducible exact E4.lty (eTimes_lt _ _) | with_reducible exact E4.ltz (eTimes_lt _ _) | with_reducible exact E4.ltt (eTimes_lt _ _)), rfl, rfl, rfl, (by first | with_reducible assumption | exact eAdd_lt _ _ | exact eLift_lt _ _ | exact eTimes_lt _ _ | exact hxx), trivial⟩ rfl rfl
theorem spec31e {k px py m qx qy : Nat} (hk : k < 4294967296 ^ 8) (hm : m < 4294967296 ^ 8) (hp : onE px py = true) (hq : onE qx qy = true) : Spec 52 [N8 k, P2 px py, N8 m, P2 qx qy] (.val (dwn (botE k px py m qx qy))) := by
  obtain ⟨h1, h2⟩ := onE_lt hp
  obtain ⟨h3, h4⟩ := onE_lt hq
  exact spec_run envE12 rfl (ed31 k px py m qx qy) ⟨(by decide), (modN_lt _), (facR_lt32 _), (L8 (r2N_lt (by decide))), rfl, rfl, rfl, (modN_lt _), (facR_lt32 _), (L8 (r2N_lt (by decide))), (by first | with_reducible assumption | with_reducible exact L8 (by with_reducible assumption) | exact decide_eq_true (by omega) | exact decide_eq_false (by omega) | omega), (by first | with_reducible assumption | with_reducible exact L8 (by with_reducible assumption) | exact decide_eq_true (by omega) | exact decide_eq_false (by omega) | omega), rfl, rfl, rfl, (by first | with_reducible assumption | with_reducible exact L8 (by with_reducible assumption) | exact decide_eq_true (by omega) | exact decide_eq_false (by omega) | omega), (by first | with_reducible assumption | with_reducible exact L8 (by with_reducible assumption) | exact decide_eq_true (by omega) | exact decide_eq_false (by omega) | omega), (modN_lt _), (facR_lt32 _), (L8 (r2N_lt (by decide))), (L8 twE_lt), (by first | with_reducible assumption | with_reducible exact L8 (by with_reducible assumption) | exact decide_eq_true (by omega) | exact decide_eq_false (by omega) | omega), (L8 (inN_lt (modN_pos _))), (L8 (inN_lt (modN_pos _))), (L8 (inN_lt (modN_pos _))), (L8 (mmN_lt (modN_pos _))), rfl, rfl, rfl, rfl, (by first | with_reducible assumption | exact eAdd_lt _ _ | exact eLift_lt _ _ | exact eTimes_lt _ _ | exact hxx), (modN_lt _), (facR_lt32 _), (L8 (r2N_lt (by decide))), (by first | with_reducible assumption | with_reducible exact L8 (by with_reducible assumption) | exact decide_eq_true (by omega) | exact decide_eq_false (by omega) | omega), (by first | with_reducible assumption | with_reducible exact L8 (by with_reducible assumption) | exact decide_eq_true (by omega) | exact decide_eq_false (by omega) | omega), rfl, rfl, rfl, (by first | with_reducible assumption | with_reducible exact L8 (by with_reducible assumption) | exact decide_eq_true (by omega) | exact decide_eq_false (by omega) | omega), (by first | with_reducible assumption | with_reducible exact L8 (by with_reducible assumption) | exact decide_eq_true (by omega) | exact decide_eq_false (by omega) | omega), (modN_lt _), (facR_lt32 _), (L8 (r2N_lt (by decide))), (L8 twE_lt), (by first | with_reducible assumption | with_reducible exact L8 (by with_reducible assumption) | exact decide_eq_true (by omega) | exact decide_eq_false (by omega) | omega), (L8 (inN_lt (modN_pos _))), (L8 (inN_lt (modN_pos _))), (L8 (inN_lt (modN_pos _))), (L8 (mmN_lt (modN_pos _))), rfl, rfl, rfl, rfl, (by first | with_reducible assumption | exact eAdd_lt _ _ | exact eLift_lt _ _ | exact eTimes_lt _ _ | exact hxx), (modN_lt _), (facR_lt32 _), (L8 (r2N_lt (by decide))), (L8 twE_lt), (by first | with_reducible exact E4.ltx (eTimes_lt _ _) | with_reducible exact E4.lty (eTimes_lt _ _) | with_reducible exact E4.ltz (eTimes_lt _ _) | with_reducible exact E4.ltt (eTimes_lt _ _)), (by first | with_reducible exact E4.ltx (eTimes_lt _ _) | with_reducible exact E4.lty (eTimes_lt _ _) | with_reducible exact E4.ltz (eTimes_lt _ _) | with_reducible exact E4.ltt (eTimes_lt _ _)), (by first | with_reducible exact E4.ltx (eTimes_lt _ _) | with_reducible exact E4.lty (eTimes_lt _ _) | with_reducible exact E4.ltz (eTimes_lt _ _) | with_reducible exact E4.ltt (eTimes_lt _ _)), (by first | with_reducible exact E4.ltx (eTimes_lt _ _) | with_reducible exact E4.lty (eTimes_lt _ _) | with_reducible exact E4.ltz (eTimes_lt _ _) | with_reducible exact E4.ltt (eTimes_lt _ _)), (by first | with_reducible exact E4.ltx (eTimes_lt _ _) | with_reducible exact E4.lty (eTimes_lt _ _) | with_reducible exact E4.ltz (eTimes_lt _ _) | with_reducible exact E4.ltt (eTimes_lt _ _)), (by first | with_reducible exact E4.ltx (eTimes_lt _ _) | with_reducible exact E4.lty (eTimes_lt _ _) | with_reducible exact E4.ltz (eTimes_lt _ _) | with_reducible exact E4.ltt (eTimes_lt _ _)), (by first | with_reducible exact E4.ltx (eTimes_lt _ _) | with_reducible exact E4.lty (eTimes_lt _ _) | with_reducible exact E4.ltz (eTimes_lt _ _) | with_reducible exact E4.ltt (eTimes_lt _ _)), (by first | with_reducible exact E4.ltx (eTimes_lt _ _) | with_reducible exact E4.lty (eTimes_lt _ _) | with_reducible exact E4.ltz (eTimes_lt _ _) | with_reducible exact E4.ltt (eTimes_lt _ _)), rfl, rfl, rfl, rfl, (by first | with_reducible assumption | exact eAdd_lt _ _ | exact eLift_lt _ _ | exact eTimes_lt _ _ | exact hxx), (by first | with_reducible assumption | exact eAdd_lt _ _ | exact eLift_lt _ _ | exact eTimes_lt _ _ | exact hxx), (modN_lt _), (facR_lt32 _), (L8 (r2N_lt (by decide))), (L8 (mmN_lt (modN_pos _))), (L8 (mmN_lt (modN_pos _))), (L8 (mmN_lt (modN_pos _))), (L8 (mmN_lt (modN_pos _))), rfl, rfl, rfl, (by first | with_reducible assumption | exact eAdd_lt _ _ | exact eLift_lt _ _ | exact eTimes_lt _ _ | exact hxx), trivial⟩ rfl rfl
noncomputable def g39V (u : Bool) : List Val → Option (List Prop × AV)
  | [.n px, .n py] => some ([onE px py = u], .tup [bif u then P2 (subM (modN 0) 0 px) py else noP, .one (.i (bif u then 0 else 7))])
  | _ => none
theorem ct39V (u : Bool) : CTok ⟨46, fnS [aPt] (g39V u)⟩ := ctS (by
  intro xs ob r hb h ho
  unfold g39V at h
  split at h
  · rename_i px py
    simp only [Option.some.injEq, Prod.mk.injEq] at h
    obtain ⟨rfl, rfl⟩ := h
    obtain ⟨⟨b1, b2, _⟩, _⟩ := hb
    obtain ⟨hu, _⟩ := ho
    cases u with
    | false => exact (spec_run envE12 rfl (ed39f px py) ⟨(by first | with_reducible assumption | with_reducible exact L8 (by with_reducible assumption) | exact decide_eq_true (by omega) | exact decide_eq_false (by omega) | omega), (by first | with_reducible assumption | with_reducible exact L8 (by with_reducible assumption) | exact decide_eq_true (by omega) | exact decide_eq_false (by omega) | omega), (by first | with_reducible assumption | with_reducible exact L8 (by with_reducible assumption) | exact decide_eq_true (by omega) | exact decide_eq_false (by omega) | omega), trivial⟩ rfl rfl).congr (fun _ => rfl) (fun _ => by simp only [AV.conc, List.map_cons, List.map_nil, noC_conc, cond_false])
    | true =>
      obtain ⟨h1, h2⟩ := onE_lt hu
      exact spec_run envE12 rfl (ed39t px py) ⟨(by first | with_reducible assumption | with_reducible exact L8 (by with_reducible assumption) | exact decide_eq_true (by omega) | exact decide_eq_false (by omega) | omega), (by first | with_reducible assumption | with_reducible exact L8 (by with_reducible assumption) | exact decide_eq_true (by omega) | exact decide_eq_false (by omega) | omega), (by first | with_reducible assumption | with_reducible exact L8 (by with_reducible assumption) | exact decide_eq_true (by omega) | exact decide_eq_false (by omega) | omega), (by decide), (modN_lt _), (modN_pos _), (by first | with_reducible assumption | with_reducible exact L8 (by with_reducible assumption) | exact decide_eq_true (by omega) | exact decide_eq_false (by omega) | omega), lit0, lit0, lit0, lit0, lit0, lit0, lit0, lit0, (by first | with_reducible assumption | with_reducible exact L8 (by with_reducible assumption) | exact decide_eq_true (by omega) | exact decide_eq_false (by omega) | omega), trivial⟩ rfl rfl
  · simp at h)
noncomputable def g43R : List Val → Option (List Prop × AV)
  | [.n px, .n py] => some ([onE px py = true], .val (P2 (subM (modN 0) 0 px) py))
  | _ => none
theorem ct43R : CTok ⟨53, fnS [aPt] g43R⟩ := ctS (by
  intro xs ob r hb h ho
  unfold g43R at h
  split at h
  · rename_i px py
    simp only [Option.some.injEq, Prod.mk.injEq] at h
    obtain ⟨rfl, rfl⟩ := h
    obtain _ := hb
    exact spec43e ho.1
  · simp at h)
end Go.Ev

namespace Go.Ev
open Go Go.Proofs Go.RowKit

end Go.Ev

