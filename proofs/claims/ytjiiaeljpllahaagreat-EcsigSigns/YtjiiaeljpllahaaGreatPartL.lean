/- Roots, and points of the curve: what the functions on them come to -/
import Derived.Test.YtjiiaeljpllahaaGreatPartK
namespace Go.Ev
open Go Go.Proofs Go.RowKit

theorem tb_min : ∀ n, n < 256 → tb n = 0 ∨ 2 ^ (tb n - 1) ≤ n := by decide +kernel
theorem tb_zero : ∀ n, n < 256 → (tb n = 0 ↔ n = 0) := by decide +kernel
theorem min_shift {x q c : Nat} (h : q = 0 ∨ 2 ^ (q - 1) ≤ x / 2 ^ c) (h0 : q = 0 → x / 2 ^ c = 0) (hx : 0 < x / 2 ^ c) : 2 ^ (c + q - 1) ≤ x := by
  rcases h with h | h
  · have := h0 h; omega
  · have hq : 0 < q := by
      rcases Nat.eq_zero_or_pos q with h' | h'
      · have := h0 h'; omega
      · exact h'
    rw [show c + q - 1 = (q - 1) + c by omega, Nat.pow_add]
    exact Nat.le_trans (Nat.mul_le_mul_right _ h) (Nat.div_mul_le_self _ _)
theorem len32_min {x : Nat} (hx : x < 4294967296) : len32 x = 0 ∨ 2 ^ (len32 x - 1) ≤ x := by
  by_cases h1 : 65536 ≤ x
  · by_cases h2 : 256 ≤ x / 65536
    · have hl : len32 x = 24 + tb (x / 65536 / 256 % 256) := by simp only [len32, decide_eq_true h1, decide_eq_true h2, cond_true]
      have hn : x / 65536 / 256 % 256 < 256 := by omega
      have he : x / 65536 / 256 % 256 = x / 2 ^ 24 := by omega
      right; rw [hl]
      exact min_shift (by have := tb_min _ hn; rwa [he] at this ⊢) (by intro h; have := (tb_zero _ hn).1 h; omega) (by omega)
    · have hl : len32 x = 16 + tb (x / 65536 % 256) := by simp only [len32, decide_eq_true h1, decide_eq_false h2, cond_true, cond_false]
      have hn : x / 65536 % 256 < 256 := by omega
      have he : x / 65536 % 256 = x / 2 ^ 16 := by omega
      right; rw [hl]
      exact min_shift (by have := tb_min _ hn; rwa [he] at this ⊢) (by intro h; have := (tb_zero _ hn).1 h; omega) (by omega)
  · by_cases h2 : 256 ≤ x
    · have hl : len32 x = 8 + tb (x / 256 % 256) := by simp only [len32, decide_eq_false h1, decide_eq_true h2, cond_true, cond_false]
      have hn : x / 256 % 256 < 256 := by omega
      have he : x / 256 % 256 = x / 2 ^ 8 := by omega
      right; rw [hl]
      exact min_shift (by have := tb_min _ hn; rwa [he] at this ⊢) (by intro h; have := (tb_zero _ hn).1 h; omega) (by omega)
    · have hl : len32 x = tb (x % 256) := by simp only [len32, decide_eq_false h1, decide_eq_false h2, cond_false]
      have hn : x % 256 < 256 := by omega
      have := tb_min _ hn
      rw [hl]
      rw [show x % 256 = x by omega] at *
      exact this
theorem len32_zero {x : Nat} (hx : x < 4294967296) (h : len32 x = 0) : x = 0 := by
  have := (spec91 x hx).2.1
  rw [h] at this; omega
theorem lenU_min {a : Nat → Nat} (ha : ∀ i, a i < 4294967296) : ∀ n, lenU a n = 0 ∨ 2 ^ (lenU a n - 1) ≤ valU n 0 a
  | 0 => .inl rfl
  | j + 1 => by
    simp only [lenU]
    rw [valU_snoc, Nat.zero_add]
    split
    · rename_i h; have := of_decide_eq_true h; rw [this, Nat.mul_zero, Nat.add_zero]; exact lenU_min ha j
    · rename_i h
      have h0 := of_decide_eq_false h
      right
      rcases len32_min (ha j) with h1 | h1
      · exact absurd (len32_zero (ha j) h1) h0
      · have hp : 0 < len32 (a j) := by
          rcases Nat.eq_zero_or_pos (len32 (a j)) with h2 | h2
          · exact absurd (len32_zero (ha j) h2) h0
          · exact h2
        rw [show 32 * j + len32 (a j) - 1 = 32 * j + (len32 (a j) - 1) by omega, Nat.pow_add, two_pow_mul]
        exact Nat.le_trans (Nat.mul_le_mul_left _ h1) (Nat.le_add_left _ _)
theorem lenQ_min (a : Nat) : ∀ n, lenQ a n = 0 ∨ 2 ^ (lenQ a n - 1) ≤ a
  | 0 => .inl rfl
  | n + 1 => by
    rw [lenQ]
    cases hb : bitB a n with
    | true =>
      right
      have h0 : bitN a n = 1 := of_decide_eq_true hb
      unfold bitN at h0
      show 2 ^ (n + 1 - 1) ≤ a
      rw [Nat.add_sub_cancel]
      apply Nat.le_of_not_lt
      intro h
      rw [Nat.div_eq_of_lt h] at h0
      exact absurd h0 (by decide)
    | false => exact lenQ_min a n
theorem len_uniq {a L M : Nat} (h1 : a < 2 ^ L) (h2 : L = 0 ∨ 2 ^ (L - 1) ≤ a) (h3 : a < 2 ^ M) (h4 : M = 0 ∨ 2 ^ (M - 1) ≤ a) : L = M := by
  have key : ∀ {L M : Nat}, (L = 0 ∨ 2 ^ (L - 1) ≤ a) → a < 2 ^ M → L ≤ M := by
    intro L M h2 h3
    rcases h2 with h2 | h2
    · omega
    · have := (Nat.pow_lt_pow_iff_right (a := 2) (by decide)).1 (Nat.lt_of_le_of_lt h2 h3)
      omega
  exact Nat.le_antisymm (key h2 h3) (key h4 h1)
theorem lenQ_N {a : Nat} (ha : a < 4294967296 ^ 8) : lenQ a 256 = lenN a := by
  have h1 := lenQ_spec a 256 (by rw [show (2 : Nat) ^ 256 = 4294967296 ^ 8 by decide]; exact ha)
  have h2 := lenU_min (limb_lt a) 8
  rw [valU_num a 8 ha] at h2
  exact len_uniq h1.1 (lenQ_min a 256) (lenN_spec ha).1 h2
end Go.Ev

namespace Go.Ev
open Go Go.Proofs Go.RowKit

theorem subM_add {m a b : Nat} (hb : b < m) : (subM m a b + b) % m = a % m := by
  unfold subM
  rw [Nat.mod_add_mod, Nat.sub_add_cancel (by omega), Nat.add_mod_right]
theorem add_inj {m r s y : Nat} (hr : r < m) (hs : s < m) (h : (r + y) % m = (s + y) % m) : r = s := by
  have h1 : ∀ {r s : Nat}, r < m → s < m → r ≤ s → (r + y) % m = (s + y) % m → r = s := by
    intro r s _ hs hle h
    have h2 : (s + y - (r + y)) % m = 0 := Nat.sub_mod_eq_zero_of_mod_eq h.symm
    rw [show s + y - (r + y) = s - r by omega, Nat.mod_eq_of_lt (by omega)] at h2
    omega
  rcases Nat.le_total r s with hle | hle
  · exact h1 hr hs hle h
  · exact (h1 hs hr hle h.symm).symm
theorem in_mod (m a : Nat) : inN m (a % m) = inN m a := by rw [in_eq, in_eq, Nat.mod_mul_mod]
theorem in_add {m : Nat} (a b : Nat) : addM m (inN m a) (inN m b) = inN m (addM m a b) := by
  unfold addM
  rw [in_mod, in_eq, in_eq, in_eq, ← Nat.add_mod, Nat.add_mul]
theorem in_sub {m : Nat} (hm : 0 < m) {a b : Nat} (hb : b < m) : subM m (inN m a) (inN m b) = inN m (subM m a b) := by
  refine add_inj (y := inN m b) (subM_lt hm) (inN_lt hm) ?_
  rw [subM_add (inN_lt hm)]
  have h := in_add (m := m) (subM m a b) b
  unfold addM at h
  rw [h, subM_add hb, in_mod, Nat.mod_eq_of_lt (inN_lt hm)]
theorem in_mul {k : Nat} (hk : k < 4) (x y : Nat) : mmN (modN k) (inN (modN k) x) (inN (modN k) y) = inN (modN k) (mulM (modN k) x y) := mm_in (modN_lt k) (good_fac hk)
theorem facN_lt32 (k : Nat) : facN k < 4294967296 := by unfold facN facF; omega
theorem facR_lt32 (u : Nat) : facR u < 4294967296 := by unfold facR; omega
theorem r2N_lt {k : Nat} (hk : k < 4) : r2N (modN k) < modN k := (okR_K hk).2.2.1
def cV (v : AV) : List V1 → Option (List Prop × AV) := fun vs => match vs with | [] => some ([], v) | _ => none
theorem ctV {f : FuncId} {v : AV} (h : Spec f [] v) : CTok ⟨f, cV v⟩ := by
  intro vs ob r hv ho
  simp only [cV] at hv
  split at hv
  · simp only [Option.some.injEq, Prod.mk.injEq] at hv
    obtain ⟨rfl, rfl⟩ := hv
    exact h
  · simp at hv
def aN : Arg := .s [.n8]
def aLaw : Arg := .s [.n8, .u32, .n8]
end Go.Ev

