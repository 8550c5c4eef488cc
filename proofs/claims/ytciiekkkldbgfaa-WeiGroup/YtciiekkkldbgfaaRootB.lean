/- How a law goes through the rows of a slice, and numbers by their plain values -/
import Derived.Test.YtciiekkkldbgfaaRoot
import Derived.Test.YtciiekkkldbgfaaEvB
import Derived.Test.YtciiekkkldbgfaaRows
namespace Go.Ev
open Go Go.Proofs Go.RowKit

theorem rowB_free (c : Cells) (sh : List SK) (m : Nat) (e : TypeId) : Free (rowB c sh m e) := rowB_fr c sh m e
noncomputable def mkF (L : List CT) (fm : FuncId → List V1 → List (Option Blk) → Option (List Prop × AV)) (S : FuncId → Nat → Bool) : Env := { E0 with fn := lookC L, fm := fm, S := S }
theorem envMkF {L : List CT} (hL : AllCT L) {fm : FuncId → List V1 → List (Option Blk) → Option (List Prop × AV)}
    (hfm : ∀ f vs mem ob r, fm f vs (blks mem vs) = some (ob, r) → All ob → ∀ w0 φ w, MRel w0 φ mem w → Calls Try.prog f (vs.map (V1.conc φ)).toArray w fun e w' => e = .returned (r.conc φ) ∧ Below w.heap.size w w')
    (S : FuncId → Nat → Bool) : EnvOK (mkF L fm S) :=
  ⟨mixed, fun _ _ _ _ h ho => lookC_spec hL h ho, hfm, fun _ _ _ h => by simp [mkF, E0] at h⟩
noncomputable def withL (E : Env) (k : Nat) (y : Code) (f : List AV → List Blk → List Bool → CoR) : Env := { E with lp := fun j => match Nat.beq j k with | true => some (y, f) | false => none }
theorem envWithL {E : Env} (hE : EnvOK E) {k : Nat} {y : Code} {f : List AV → List Blk → List Bool → CoR} (h : SumOK E.P (.loop y) f) : EnvOK (withL E k y f) := envEL1 hE h
theorem pwM_K {p a e : Nat} (hp : p < 2 ^ 256) (he : e < p) : Go.NT.powK 256 a e p = Go.NT.pwM p a e := by unfold Go.NT.pwM; exact Go.NT.powK_256 hp he
def bT : List V1 → Option (List Prop × AV) := fun vs => match vs with | [] => some ([], bV true) | _ => none
theorem ctT {f : FuncId} (h : Spec f [] (bV true)) : CTok ⟨f, bT⟩ := by
  intro vs ob r hv ho
  simp only [bT] at hv
  split at hv
  · simp only [Option.some.injEq, Prod.mk.injEq] at hv
    obtain ⟨rfl, rfl⟩ := hv
    exact h
  · simp at hv
theorem u4 : Try.prog.underlying 4 = some .bool := by kernel_rfl
theorem laid : laidOutB Try.prog = true := by kernel_rfl
theorem own : ownKnob Try.prog.godebug = none := by kernel_rfl
def sV' (len cap : Nat) : AV := .val (.one (.sl 0 0 len cap))
theorem lit0 : 0 < 4294967296 := by decide
theorem lit0_8 : 0 < 4294967296 ^ 8 := by decide
theorem lit1 : 1 < 4294967296 := by decide
theorem lit1_8 : 1 < 4294967296 ^ 8 := by decide
theorem lit2 : 2 < 4294967296 := by decide
theorem lit2_8 : 2 < 4294967296 ^ 8 := by decide
theorem lit3 : 3 < 4294967296 := by decide
theorem lit3_8 : 3 < 4294967296 ^ 8 := by decide
theorem lit4 : 4 < 4294967296 := by decide
theorem lit4_8 : 4 < 4294967296 ^ 8 := by decide
theorem joinN_lt0 {a : Nat} (h : a < 4294967296 ^ 8) : joinN a 0 < 4294967296 ^ 16 := by unfold joinN; omega
abbrev redA (k a : Nat) : Nat := remN (joinN a 0) (modN k)
end Go.Ev

namespace Go.Ev
open Go Go.Proofs Go.RowKit

/-! how many bits: both ways of counting them come to the same -/
theorem tb_min : ∀ n, n < 256 → tb n = 0 ∨ 2 ^ (tb n - 1) ≤ n := by decide +kernel
theorem tb_zero : ∀ n, n < 256 → (tb n = 0 ↔ n = 0) := by decide +kernel
theorem min_shift {x q c : Nat} (h : q = 0 ∨ 2 ^ (q - 1) ≤ x / 2 ^ c) (h0 : q = 0 → x / 2 ^ c = 0) (hx : 0 < x / 2 ^ c) : 2 ^ (c + q - 1) ≤ x := by
  rcases h with h | h
  · have := h0 h; omega
  · have hq : 0 < q := by
      rcases Nat.eq_zero_or_pos q with h' | h'
      · have := h0 h'; omega
      · exact h'
    rw [show c + q - 1 = (q - 1) + c by omega, Nat.pow_add]
    exact Nat.le_trans (Nat.mul_le_mul_right _ h) (Nat.div_mul_le_self _ _)
theorem len32_min {x : Nat} (hx : x < 4294967296) : len32 x = 0 ∨ 2 ^ (len32 x - 1) ≤ x := by
  by_cases h1 : 65536 ≤ x
  · by_cases h2 : 256 ≤ x / 65536
    · have hl : len32 x = 24 + tb (x / 65536 / 256 % 256) := by simp only [len32, decide_eq_true h1, decide_eq_true h2, cond_true]
      have hn : x / 65536 / 256 % 256 < 256 := by omega
      have he : x / 65536 / 256 % 256 = x / 2 ^ 24 := by omega
      right; rw [hl]
      exact min_shift (by have := tb_min _ hn; rwa [he] at this ⊢) (by intro h; have := (tb_zero _ hn).1 h; omega) (by omega)
    · have hl : len32 x = 16 + tb (x / 65536 % 256) := by simp only [len32, decide_eq_true h1, decide_eq_false h2, cond_true, cond_false]
      have hn : x / 65536 % 256 < 256 := by omega
      have he : x / 65536 % 256 = x / 2 ^ 16 := by omega
      right; rw [hl]
      exact min_shift (by have := tb_min _ hn; rwa [he] at this ⊢) (by intro h; have := (tb_zero _ hn).1 h; omega) (by omega)
  · by_cases h2 : 256 ≤ x
    · have hl : len32 x = 8 + tb (x / 256 % 256) := by simp only [len32, decide_eq_false h1, decide_eq_true h2, cond_true, cond_false]
      have hn : x / 256 % 256 < 256 := by omega
      have he : x / 256 % 256 = x / 2 ^ 8 := by omega
      right; rw [hl]
      exact min_shift (by have := tb_min _ hn; rwa [he] at this ⊢) (by intro h; have := (tb_zero _ hn).1 h; omega) (by omega)
    · have hl : len32 x = tb (x % 256) := by simp only [len32, decide_eq_false h1, decide_eq_false h2, cond_false]
      have hn : x % 256 < 256 := by omega
      have := tb_min _ hn
      rw [hl]
      rw [show x % 256 = x by omega] at *
      exact this
theorem len32_zero {x : Nat} (hx : x < 4294967296) (h : len32 x = 0) : x = 0 := by
  have := (spec91 x hx).2.1
  rw [h] at this; omega
theorem lenU_min {a : Nat → Nat} (ha : ∀ i, a i < 4294967296) : ∀ n, lenU a n = 0 ∨ 2 ^ (lenU a n - 1) ≤ valU n 0 a
  | 0 => .inl rfl
  | j + 1 => by
    simp only [lenU]
    rw [valU_snoc, Nat.zero_add]
    split
    · rename_i h; have := of_decide_eq_true h; rw [this, Nat.mul_zero, Nat.add_zero]; exact lenU_min ha j
    · rename_i h
      have h0 := of_decide_eq_false h
      right
      rcases len32_min (ha j) with h1 | h1
      · exact absurd (len32_zero (ha j) h1) h0
      · have hp : 0 < len32 (a j) := by
          rcases Nat.eq_zero_or_pos (len32 (a j)) with h2 | h2
          · exact absurd (len32_zero (ha j) h2) h0
          · exact h2
        rw [show 32 * j + len32 (a j) - 1 = 32 * j + (len32 (a j) - 1) by omega, Nat.pow_add, two_pow_mul]
        exact Nat.le_trans (Nat.mul_le_mul_left _ h1) (Nat.le_add_left _ _)
theorem lenQ_min (a : Nat) : ∀ n, lenQ a n = 0 ∨ 2 ^ (lenQ a n - 1) ≤ a
  | 0 => .inl rfl
  | n + 1 => by
    rw [lenQ]
    cases hb : bitB a n with
    | true =>
      right
      have h0 : bitN a n = 1 := of_decide_eq_true hb
      unfold bitN at h0
      show 2 ^ (n + 1 - 1) ≤ a
      rw [Nat.add_sub_cancel]
      apply Nat.le_of_not_lt
      intro h
      rw [Nat.div_eq_of_lt h] at h0
      exact absurd h0 (by decide)
    | false => exact lenQ_min a n
theorem len_uniq {a L M : Nat} (h1 : a < 2 ^ L) (h2 : L = 0 ∨ 2 ^ (L - 1) ≤ a) (h3 : a < 2 ^ M) (h4 : M = 0 ∨ 2 ^ (M - 1) ≤ a) : L = M := by
  have key : ∀ {L M : Nat}, (L = 0 ∨ 2 ^ (L - 1) ≤ a) → a < 2 ^ M → L ≤ M := by
    intro L M h2 h3
    rcases h2 with h2 | h2
    · omega
    · have := (Nat.pow_lt_pow_iff_right (a := 2) (by decide)).1 (Nat.lt_of_le_of_lt h2 h3)
      omega
  exact Nat.le_antisymm (key h2 h3) (key h4 h1)
theorem lenQ_N {a : Nat} (ha : a < 4294967296 ^ 8) : lenQ a 256 = lenN a := by
  have h1 := lenQ_spec a 256 (by rw [show (2 : Nat) ^ 256 = 4294967296 ^ 8 by decide]; exact ha)
  have h2 := lenU_min (limb_lt a) 8
  rw [valU_num a 8 ha] at h2
  exact len_uniq h1.1 (lenQ_min a 256) (lenN_spec ha).1 h2
end Go.Ev

namespace Go.Ev
open Go Go.Proofs Go.RowKit

/-! the law with plain numbers -/
theorem subM_add {m a b : Nat} (hb : b < m) : (subM m a b + b) % m = a % m := by
  unfold subM
  rw [Nat.mod_add_mod, Nat.sub_add_cancel (by omega), Nat.add_mod_right]
theorem add_inj {m r s y : Nat} (hr : r < m) (hs : s < m) (h : (r + y) % m = (s + y) % m) : r = s := by
  have h1 : ∀ {r s : Nat}, r < m → s < m → r ≤ s → (r + y) % m = (s + y) % m → r = s := by
    intro r s _ hs hle h
    have h2 : (s + y - (r + y)) % m = 0 := Nat.sub_mod_eq_zero_of_mod_eq h.symm
    rw [show s + y - (r + y) = s - r by omega, Nat.mod_eq_of_lt (by omega)] at h2
    omega
  rcases Nat.le_total r s with hle | hle
  · exact h1 hr hs hle h
  · exact (h1 hs hr hle h.symm).symm
theorem in_mod (m a : Nat) : inN m (a % m) = inN m a := by rw [in_eq, in_eq, Nat.mod_mul_mod]
theorem in_add {m : Nat} (a b : Nat) : addM m (inN m a) (inN m b) = inN m (addM m a b) := by
  unfold addM
  rw [in_mod, in_eq, in_eq, in_eq, ← Nat.add_mod, Nat.add_mul]
theorem in_sub {m : Nat} (hm : 0 < m) {a b : Nat} (hb : b < m) : subM m (inN m a) (inN m b) = inN m (subM m a b) := by
  refine add_inj (y := inN m b) (subM_lt hm) (inN_lt hm) ?_
  rw [subM_add (inN_lt hm)]
  have h := in_add (m := m) (subM m a b) b
  unfold addM at h
  rw [h, subM_add hb, in_mod, Nat.mod_eq_of_lt (inN_lt hm)]
theorem in_mul {k : Nat} (hk : k < 4) (x y : Nat) : mmN (modN k) (inN (modN k) x) (inN (modN k) y) = inN (modN k) (mulM (modN k) x y) := mm_in (modN_lt k) (good_fac hk)
theorem facN_lt32 (k : Nat) : facN k < 4294967296 := by unfold facN facF; omega
theorem facR_lt32 (u : Nat) : facR u < 4294967296 := by unfold facR; omega
theorem r2N_lt {k : Nat} (hk : k < 4) : r2N (modN k) < modN k := (okR_K hk).2.2.1
def cV (v : AV) : List V1 → Option (List Prop × AV) := fun vs => match vs with | [] => some ([], v) | _ => none
theorem ctV {f : FuncId} {v : AV} (h : Spec f [] v) : CTok ⟨f, cV v⟩ := by
  intro vs ob r hv ho
  simp only [cV] at hv
  split at hv
  · simp only [Option.some.injEq, Prod.mk.injEq] at hv
    obtain ⟨rfl, rfl⟩ := hv
    exact h
  · simp at hv
theorem len_one : lenN 1 = 1 := by decide +kernel
def aN : Arg := .s [.n8]
def aLaw : Arg := .s [.n8, .u32, .n8]
end Go.Ev

namespace Go.Ev
open Go Go.Proofs Go.RowKit

/-! the same but for multiples of m -/
def Cz (m : Nat) (a b : Int) : Prop := (m : Int) ∣ a - b
section
variable {m : Nat} {a b c d : Int}
theorem Cz.refl (m : Nat) (a : Int) : Cz m a a := by unfold Cz; rw [Int.sub_self]; exact Int.dvd_zero _
theorem Cz.of_eq (h : a = b) : Cz m a b := by subst h; exact Cz.refl m a
theorem Cz.lc1 {u v : Int} (h : Cz m u v) (k : Int) (e : a - b = k * (u - v)) : Cz m a b := by
  unfold Cz at *; rw [e]; exact Int.dvd_mul_of_dvd_right h
theorem Cz.lc2 {u v u' v' : Int} (h : Cz m u v) (h' : Cz m u' v') (k k' : Int) (e : a - b = k * (u - v) + k' * (u' - v')) : Cz m a b := by
  unfold Cz at *; rw [e]; exact Int.dvd_add (Int.dvd_mul_of_dvd_right h) (Int.dvd_mul_of_dvd_right h')
theorem Cz.lc3 {u v u' v' u2 v2 : Int} (h : Cz m u v) (h' : Cz m u' v') (h2 : Cz m u2 v2) (k k' k2 : Int) (e : a - b = k * (u - v) + k' * (u' - v') + k2 * (u2 - v2)) : Cz m a b := by
  unfold Cz at *; rw [e]; exact Int.dvd_add (Int.dvd_add (Int.dvd_mul_of_dvd_right h) (Int.dvd_mul_of_dvd_right h')) (Int.dvd_mul_of_dvd_right h2)
theorem Cz.lc4 {u v u' v' u2 v2 u3 v3 : Int} (h : Cz m u v) (h' : Cz m u' v') (h2 : Cz m u2 v2) (h3 : Cz m u3 v3) (k k' k2 k3 : Int) (e : a - b = k * (u - v) + k' * (u' - v') + k2 * (u2 - v2) + k3 * (u3 - v3)) : Cz m a b := by
  unfold Cz at *; rw [e]; exact Int.dvd_add (Int.dvd_add (Int.dvd_add (Int.dvd_mul_of_dvd_right h) (Int.dvd_mul_of_dvd_right h')) (Int.dvd_mul_of_dvd_right h2)) (Int.dvd_mul_of_dvd_right h3)
theorem Cz.symm (h : Cz m a b) : Cz m b a := h.lc1 (-1) (by omega)
theorem Cz.trans (h : Cz m a b) (h' : Cz m b c) : Cz m a c := h.lc2 h' 1 1 (by omega)
theorem Cz.add (h : Cz m a b) (h' : Cz m c d) : Cz m (a + c) (b + d) := h.lc2 h' 1 1 (by omega)
theorem Cz.sub (h : Cz m a b) (h' : Cz m c d) : Cz m (a - c) (b - d) := h.lc2 h' 1 (-1) (by omega)
theorem Cz.mul (h : Cz m a b) (h' : Cz m c d) : Cz m (a * c) (b * d) := h.lc2 h' c b (by grind)
theorem Cz.nat {x y : Nat} (hx : x < m) (hy : y < m) (h : Cz m x y) : x = y := by
  unfold Cz at h
  obtain ⟨k, hk⟩ := h
  rcases Int.lt_trichotomy k 0 with h0 | h0 | h0
  · have : (m : Int) * k ≤ (m : Int) * (-1) := Int.mul_le_mul_of_nonneg_left (by omega) (by omega)
    omega
  · subst h0; omega
  · have : (m : Int) * 1 ≤ (m : Int) * k := Int.mul_le_mul_of_nonneg_left (by omega) (by omega)
    omega
theorem cz_mod (x : Nat) : Cz m ((x % m : Nat) : Int) x := by
  unfold Cz
  refine ⟨-((x / m : Nat) : Int), ?_⟩
  have := Nat.mod_add_div x m
  have h2 : ((x % m : Nat) : Int) + (m : Int) * ((x / m : Nat) : Int) = x := by exact_mod_cast this
  rw [Int.mul_neg]; omega
theorem cz_mul (x y : Nat) : Cz m (mulM m x y) ((x : Int) * y) := by
  have := cz_mod (m := m) (x * y)
  unfold mulM; rwa [Int.natCast_mul] at this
theorem cz_add (x y : Nat) : Cz m (addM m x y) ((x : Int) + y) := by
  have := cz_mod (m := m) (x + y)
  unfold addM; rwa [Int.natCast_add] at this
theorem cz_sub {x y : Nat} (hy : y < m) : Cz m (subM m x y) ((x : Int) - y) := by
  have := cz_mod (m := m) (x + m - y)
  unfold subM
  refine this.trans ⟨1, ?_⟩
  omega
theorem cz_zero_iff {x : Nat} : Cz m x 0 ↔ x % m = 0 := by
  unfold Cz
  rw [Int.sub_zero]
  constructor
  · intro h; exact Nat.mod_eq_zero_of_dvd (by exact_mod_cast h)
  · intro h; exact_mod_cast Nat.dvd_of_mod_eq_zero h
/-- the number below m. -/
def czN (m : Nat) (z : Int) : Nat := (z % (m : Int)).toNat
theorem czN_cz (hm : 0 < m) (z : Int) : Cz m (czN m z) z := by
  unfold Cz czN
  rw [Int.toNat_of_nonneg (Int.emod_nonneg _ (by omega))]
  refine ⟨-(z / (m : Int)), ?_⟩
  have := Int.emod_add_mul_ediv z (m : Int)
  rw [Int.mul_neg]; omega
theorem cz_euclid (hp : Go.NT.Pr m) (h : Cz m (a * b) 0) : Cz m a 0 ∨ Cz m b 0 := by
  have hm : 0 < m := by have := hp.1; omega
  have ha := czN_cz hm a
  have hb := czN_cz hm b
  have h1 : Cz m ((czN m a : Int) * (czN m b : Int)) 0 := (ha.mul hb).trans h
  have h2 : (czN m a * czN m b) % m = 0 := cz_zero_iff.1 (by rwa [Int.natCast_mul])
  rcases Go.NT.zero_of_mul hp h2 with h3 | h3
  · exact .inl (ha.symm.trans (cz_zero_iff.2 h3))
  · exact .inr (hb.symm.trans (cz_zero_iff.2 h3))
theorem cz_cancel (hp : Go.NT.Pr m) (h : Cz m (a * b) (a * c)) (ha : ¬ Cz m a 0) : Cz m b c := by
  rcases cz_euclid hp (a := a) (b := b - c) (h.lc1 1 (by grind)) with h1 | h1
  · exact absurd h1 ha
  · exact h1.lc1 1 (by omega)
end
theorem prK {k : Nat} (hk : k < 4) : Go.NT.Pr (modN k) := by rw [modN_P]; exact Go.NT.primeK hk
/-- what is not nothing has an inverse. -/
def invP (k z : Nat) : Nat := Go.NT.pwM (modN k) z (subN (modN k) 2)
theorem subN_2 (k : Nat) : subN (modN k) 2 = modN k - 2 := by
  have := modN_two k
  have := modN_lt k
  unfold subN; omega
theorem inv_cz {k z : Nat} (hk : k < 4) (hz : z < modN k) (h0 : ¬ Cz (modN k) z 0) : Cz (modN k) ((z : Int) * invP k z) 1 := by
  have hz0 : 0 < z := by
    rcases Nat.eq_zero_or_pos z with h | h
    · subst h; exact absurd (Cz.refl _ _) h0
    · exact h
  have h1 := Go.NT.inv_mul hk hz0 (by rwa [modN_P] at hz)
  rw [← modN_P] at h1
  have h2 : (z * invP k z) % modN k = 1 % modN k := by
    unfold invP Go.NT.pwM
    rw [subN_2, Nat.mul_mod_mod, h1, Nat.mod_eq_of_lt (modN_one k)]
  have h3 := cz_mod (m := modN k) (z * invP k z)
  rw [h2] at h3
  have h4 := cz_mod (m := modN k) 1
  have := h3.symm.trans h4
  rwa [Int.natCast_mul] at this
theorem inv_zero (k : Nat) : invP k 0 = 0 := by
  unfold invP Go.NT.pwM
  rw [subN_2, Nat.zero_pow (by have := modN_two k; omega), Nat.zero_mod]
end Go.Ev

