/- The points of the curve are a group; Roots, and points of the curve: what the functions on them come to -/
import Derived.Test.YtgkelmendkdocaaGreatPartO
import Derived.Test.YtgkelmendkdocaaGreatPartL
namespace Go.Ev
open Go Go.Proofs Go.RowKit

def Cz (m : Nat) (a b : Int) : Prop := (m : Int) ∣ a - b
section
variable {m : Nat} {a b c d : Int}
theorem Cz.refl (m : Nat) (a : Int) : Cz m a a := by unfold Cz; rw [Int.sub_self]; exact Int.dvd_zero _
theorem Cz.of_eq (h : a = b) : Cz m a b := by subst h; exact Cz.refl m a
theorem Cz.lc1 {u v : Int} (h : Cz m u v) (k : Int) (e : a - b = k * (u - v)) : Cz m a b := by
  unfold Cz at *; rw [e]; exact Int.dvd_mul_of_dvd_right h
theorem Cz.lc2 {u v u' v' : Int} (h : Cz m u v) (h' : Cz m u' v') (k k' : Int) (e : a - b = k * (u - v) + k' * (u' - v')) : Cz m a b := by
  unfold Cz at *; rw [e]; exact Int.dvd_add (Int.dvd_mul_of_dvd_right h) (Int.dvd_mul_of_dvd_right h')
theorem Cz.lc3 {u v u' v' u2 v2 : Int} (h : Cz m u v) (h' : Cz m u' v') (h2 : Cz m u2 v2) (k k' k2 : Int) (e : a - b = k * (u - v) + k' * (u' - v') + k2 * (u2 - v2)) : Cz m a b := by
  unfold Cz at *; rw [e]; exact Int.dvd_add (Int.dvd_add (Int.dvd_mul_of_dvd_right h) (Int.dvd_mul_of_dvd_right h')) (Int.dvd_mul_of_dvd_right h2)
theorem Cz.lc4 {u v u' v' u2 v2 u3 v3 : Int} (h : Cz m u v) (h' : Cz m u' v') (h2 : Cz m u2 v2) (h3 : Cz m u3 v3) (k k' k2 k3 : Int) (e : a - b = k * (u - v) + k' * (u' - v') + k2 * (u2 - v2) + k3 * (u3 - v3)) : Cz m a b := by
  unfold Cz at *; rw [e]; exact Int.dvd_add (Int.dvd_add (Int.dvd_add (Int.dvd_mul_of_dvd_right h) (Int.dvd_mul_of_dvd_right h')) (Int.dvd_mul_of_dvd_right h2)) (Int.dvd_mul_of_dvd_right h3)
theorem Cz.symm (h : Cz m a b) : Cz m b a := h.lc1 (-1) (by omega)
theorem Cz.trans (h : Cz m a b) (h' : Cz m b c) : Cz m a c := h.lc2 h' 1 1 (by omega)
theorem Cz.add (h : Cz m a b) (h' : Cz m c d) : Cz m (a + c) (b + d) := h.lc2 h' 1 1 (by omega)
theorem Cz.sub (h : Cz m a b) (h' : Cz m c d) : Cz m (a - c) (b - d) := h.lc2 h' 1 (-1) (by omega)
theorem Cz.mul (h : Cz m a b) (h' : Cz m c d) : Cz m (a * c) (b * d) := h.lc2 h' c b (by grind)
theorem Cz.nat {x y : Nat} (hx : x < m) (hy : y < m) (h : Cz m x y) : x = y := by
  unfold Cz at h
  obtain ⟨k, hk⟩ := h
  rcases Int.lt_trichotomy k 0 with h0 | h0 | h0
  · have : (m : Int) * k ≤ (m : Int) * (-1) := Int.mul_le_mul_of_nonneg_left (by omega) (by omega)
    omega
  · subst h0; omega
  · have : (m : Int) * 1 ≤ (m : Int) * k := Int.mul_le_mul_of_nonneg_left (by omega) (by omega)
    omega
theorem cz_mod (x : Nat) : Cz m ((x % m : Nat) : Int) x := by
  unfold Cz
  refine ⟨-((x / m : Nat) : Int), ?_⟩
  have := Nat.mod_add_div x m
  have h2 : ((x % m : Nat) : Int) + (m : Int) * ((x / m : Nat) : Int) = x := by exact_mod_cast this
  rw [Int.mul_neg]; omega
theorem cz_mul (x y : Nat) : Cz m (mulM m x y) ((x : Int) * y) := by
  have := cz_mod (m := m) (x * y)
  unfold mulM; rwa [Int.natCast_mul] at this
theorem cz_add (x y : Nat) : Cz m (addM m x y) ((x : Int) + y) := by
  have := cz_mod (m := m) (x + y)
  unfold addM; rwa [Int.natCast_add] at this
theorem cz_sub {x y : Nat} (hy : y < m) : Cz m (subM m x y) ((x : Int) - y) := by
  have := cz_mod (m := m) (x + m - y)
  unfold subM
  refine this.trans ⟨1, ?_⟩
  omega
theorem cz_zero_iff {x : Nat} : Cz m x 0 ↔ x % m = 0 := by
  unfold Cz
  rw [Int.sub_zero]
  constructor
  · intro h; exact Nat.mod_eq_zero_of_dvd (by exact_mod_cast h)
  · intro h; exact_mod_cast Nat.dvd_of_mod_eq_zero h
def czN (m : Nat) (z : Int) : Nat := (z % (m : Int)).toNat
theorem czN_cz (hm : 0 < m) (z : Int) : Cz m (czN m z) z := by
  unfold Cz czN
  rw [Int.toNat_of_nonneg (Int.emod_nonneg _ (by omega))]
  refine ⟨-(z / (m : Int)), ?_⟩
  have := Int.emod_add_mul_ediv z (m : Int)
  rw [Int.mul_neg]; omega
theorem cz_euclid (hp : Go.NT.Pr m) (h : Cz m (a * b) 0) : Cz m a 0 ∨ Cz m b 0 := by
  have hm : 0 < m := by have := hp.1; omega
  have ha := czN_cz hm a
  have hb := czN_cz hm b
  have h1 : Cz m ((czN m a : Int) * (czN m b : Int)) 0 := (ha.mul hb).trans h
  have h2 : (czN m a * czN m b) % m = 0 := cz_zero_iff.1 (by rwa [Int.natCast_mul])
  rcases Go.NT.zero_of_mul hp h2 with h3 | h3
  · exact .inl (ha.symm.trans (cz_zero_iff.2 h3))
  · exact .inr (hb.symm.trans (cz_zero_iff.2 h3))
theorem cz_cancel (hp : Go.NT.Pr m) (h : Cz m (a * b) (a * c)) (ha : ¬ Cz m a 0) : Cz m b c := by
  rcases cz_euclid hp (a := a) (b := b - c) (h.lc1 1 (by grind)) with h1 | h1
  · exact absurd h1 ha
  · exact h1.lc1 1 (by omega)
end
theorem prK {k : Nat} (hk : k < 4) : Go.NT.Pr (modN k) := by rw [modN_P]; exact Go.NT.primeK hk
def invP (k z : Nat) : Nat := Go.NT.pwM (modN k) z (subN (modN k) 2)
theorem subN_2 (k : Nat) : subN (modN k) 2 = modN k - 2 := by
  have := modN_two k
  have := modN_lt k
  unfold subN; omega
theorem inv_cz {k z : Nat} (hk : k < 4) (hz : z < modN k) (h0 : ¬ Cz (modN k) z 0) : Cz (modN k) ((z : Int) * invP k z) 1 := by
  have hz0 : 0 < z := by
    rcases Nat.eq_zero_or_pos z with h | h
    · subst h; exact absurd (Cz.refl _ _) h0
    · exact h
  have h1 := Go.NT.inv_mul hk hz0 (by rwa [modN_P] at hz)
  rw [← modN_P] at h1
  have h2 : (z * invP k z) % modN k = 1 % modN k := by
    unfold invP Go.NT.pwM
    rw [subN_2, Nat.mul_mod_mod, h1, Nat.mod_eq_of_lt (modN_one k)]
  have h3 := cz_mod (m := modN k) (z * invP k z)
  rw [h2] at h3
  have h4 := cz_mod (m := modN k) 1
  have := h3.symm.trans h4
  rwa [Int.natCast_mul] at this
end Go.Ev

namespace Go.Ev
open Go Go.Proofs Go.RowKit

theorem rt_K {p e f a : Nat} (hp : p < 2 ^ 256) (he : e < p) (hf : f < p) : Go.NT.rt p e f a = if Go.NT.powK 256 a e p * Go.NT.powK 256 a e p % p = a then Go.NT.powK 256 a e p else Go.NT.powK 256 a e p * Go.NT.powK 256 2 f p % p := by
  unfold Go.NT.rt
  rw [pwM_K hp he, pwM_K hp hf]
def candK (p c : Nat) : Nat := if Go.NT.powK 256 c ((p + 3) / 8) p * Go.NT.powK 256 c ((p + 3) / 8) p % p = c then Go.NT.powK 256 c ((p + 3) / 8) p else Go.NT.powK 256 c ((p + 3) / 8) p * Go.NT.powK 256 2 (p / 4) p % p
theorem cand_K (c : Nat) : Go.NT.candN 0 c = candK (Go.NT.modP 0) c := by
  rw [Go.NT.candN_0]
  exact rt_K (by decide +kernel) (by decide +kernel) (by decide +kernel)
def sqK (p c : Nat) : Bool := decide (candK p c * candK p c % p = c)
theorem sq_K (c : Nat) : Go.NT.isSq 0 c = sqK (Go.NT.modP 0) c := by
  unfold Go.NT.isSq sqK
  rw [cand_K]
theorem notSq : Go.NT.isSq 0 (modN 0 - dN) = false := by
  rw [sq_K]
  decide +kernel
abbrev C0 (a b : Int) : Prop := Cz (modN 0) a b
theorem pr0 : Go.NT.Pr (modN 0) := prK (by decide)
theorem nsq {s t : Int} (h : C0 (t * t) (-(dN : Int) * (s * s))) : C0 s 0 := by
  have hm := modN_pos 0
  have hs := czN_cz hm s
  have ht := czN_cz hm t
  have hsl : czN (modN 0) s < modN 0 := by
    unfold czN
    have := Int.emod_lt_of_pos s (show (0 : Int) < (modN 0 : Int) by omega)
    have := Int.emod_nonneg s (show ((modN 0 : Nat) : Int) ≠ 0 by omega)
    omega
  generalize czN (modN 0) s = s' at *
  generalize czN (modN 0) t = t' at *
  rcases Nat.eq_zero_or_pos s' with h0 | h0
  · subst h0; exact hs.symm
  · exfalso
    have h1 : C0 ((t' * t' : Nat) : Int) (((modN 0 - dN) * (s' * s' % modN 0) : Nat) : Int) := by
      have e1 := cz_mod (m := modN 0) (s' * s')
      have e2 : ((modN 0 - dN : Nat) : Int) = (modN 0 : Int) - dN := by have := dN_lt; omega
      rw [Int.natCast_mul, Int.natCast_mul, e2]
      rw [Int.natCast_mul] at e1
      have a1 : C0 ((t' : Int) * t') (t * t) := ht.mul ht
      have a2 : C0 ((s' : Int) * s') (s * s) := hs.mul hs
      have a3 : C0 (modN 0 : Int) 0 := by unfold C0 Cz; exact ⟨1, by omega⟩
      have a4 : C0 (((modN 0 : Nat) : Int) - dN) (-(dN : Int)) := a3.lc1 1 (by omega)
      exact (a1.trans h).trans (a4.mul (e1.trans a2)).symm
    have h2 : t' * t' % modN 0 = (modN 0 - dN) * (s' * s' % modN 0) % modN 0 := by
      have b1 := cz_mod (m := modN 0) (t' * t')
      have b2 := cz_mod (m := modN 0) ((modN 0 - dN) * (s' * s' % modN 0))
      exact Cz.nat (Nat.mod_lt _ hm) (Nat.mod_lt _ hm) ((b1.trans h1).trans b2.symm)
    have h3 : Go.NT.isSq 0 ((modN 0 - dN) * (s' * s' % modN 0) % modN 0) = true := Go.NT.isSq_of (r := t') (by decide) (by rw [← modN_P]; exact h2)
    have hd : modN 0 - dN < modN 0 := by
      have : 0 < dN := by decide
      omega
    rw [modN_P] at hsl hd
    have h4 := Go.NT.isSq_mul (k := 0) (by decide) h0 hsl hd
    rw [modN_P] at h3
    rw [h4, ← modN_P, notSq] at h3
    exact absurd h3 (by decide)

def iN : Nat := Go.NT.powK 256 2 (Go.NT.modP 0 / 4) (Go.NT.modP 0)
theorem i_sq : C0 ((iN : Int) * iN) (-1) := by
  have h : iN * iN % modN 0 = modN 0 - 1 := by decide +kernel
  have h1 := cz_mod (m := modN 0) (iN * iN)
  rw [h, Int.natCast_mul] at h1
  refine h1.symm.trans ⟨1, ?_⟩
  have := modN_pos 0
  omega

def On (x y : Int) : Prop := C0 (y * y - x * x) (1 + (dN : Int) * (x * x) * (y * y))
theorem one_ne : ¬ C0 1 0 := by
  intro h
  have := Cz.nat (m := modN 0) (x := 1) (y := 0) (modN_one 0) (modN_pos 0) h
  exact absurd this (by decide)
theorem two_ne : ¬ C0 2 0 := by
  intro h
  have := Cz.nat (m := modN 0) (x := 2) (y := 0) (modN_two 0) (modN_pos 0) h
  exact absurd this (by decide)
theorem mul_ne {a b : Int} (ha : ¬ C0 a 0) (hb : ¬ C0 b 0) : ¬ C0 (a * b) 0 := fun h => by
  rcases cz_euclid pr0 h with h | h
  · exact ha h
  · exact hb h
theorem complete {x1 y1 x2 y2 : Int} (h1 : On x1 y1) (h2 : On x2 y2) (he : C0 ((dN : Int) * x1 * x2 * y1 * y2 * ((dN : Int) * x1 * x2 * y1 * y2)) 1) : False := by
  have hi := i_sq
  generalize (iN : Int) = i at *
  unfold On at h1 h2
  have hxy : ¬ C0 (x1 * y1) 0 := fun h => one_ne (he.symm.trans (h.lc1 (dN * x2 * y2 * (dN * x1 * x2 * y1 * y2)) (by grind)))
  have hy2 : ¬ C0 y2 0 := fun h => one_ne (he.symm.trans (h.lc1 (dN * x1 * x2 * y1 * (dN * x1 * x2 * y1 * y2)) (by grind)))
  have hi0 : ¬ C0 i 0 := fun h => one_ne ((hi.symm.lc1 1 (by omega) : C0 (-1) (i * i)).lc2 h (-1) (-i) (by grind))
  have key : ∀ s : Int, s = 1 ∨ s = -1 → C0 (i * (x1 * y1) * (i * x2 + s * y2)) 0 := by
    intro s hs
    have hss : s * s = 1 := by rcases hs with rfl | rfl <;> rfl
    refine nsq (t := i * x1 + s * ((dN : Int) * x1 * x2 * y1 * y2) * y1) ?_
    generalize (dN : Int) = D at *
    refine Cz.lc4 h1 h2 he hi 1 (-D * (x1 * x1) * (y1 * y1)) (y1 * y1 - 1) (x1 * x1 + D * (x1 * x1) * (y1 * y1) * ((i * x2 + s * y2) * (i * x2 + s * y2) - x2 * x2)) ?_
    rcases hs with rfl | rfl <;> grind
  have ha := key 1 (.inl rfl)
  have hb := key (-1) (.inr rfl)
  have hn := mul_ne hi0 hxy
  have ha' : C0 (i * x2 + 1 * y2) 0 := by
    rcases cz_euclid pr0 ha with h | h
    · exact absurd h hn
    · exact h
  have hb' : C0 (i * x2 + -1 * y2) 0 := by
    rcases cz_euclid pr0 hb with h | h
    · exact absurd h hn
    · exact h
  exact mul_ne two_ne hy2 (ha'.lc2 hb' 1 (-1) (by omega))
end Go.Ev

namespace Go.Ev
def cqx1 (d x1 y1 x2 y2 x3 y3 : Int) : Int := -(d*d)*x1*(x2*x2*x2*x2)*(x3*x3)*(y2*y2*y2)*y3 - (d*d)*x1*(x2*x2*x2)*x3*(y2*y2*y2*y2)*(y3*y3) + (d*d)*(x2*x2*x2*x2)*x3*y1*(y2*y2*y2)*(y3*y3) + (d*d)*(x2*x2*x2)*(x3*x3)*y1*(y2*y2*y2*y2)*y3 - d*x1*(x2*x2*x2*x2)*(x3*x3)*y2*y3 - d*x1*(x2*x2*x2)*(x3*x3*x3)*(y2*y2) - d*x1*(x2*x2*x2)*x3*(y2*y2) + d*x1*(x2*x2)*(y2*y2*y2)*(y3*y3*y3) - d*x1*(x2*x2)*(y2*y2*y2)*y3 + d*x1*x2*x3*(y2*y2*y2*y2)*(y3*y3) + d*(x2*x2*x2*x2)*x3*y1*y2*(y3*y3) + d*(x2*x2*x2)*y1*(y2*y2)*(y3*y3*y3) - d*(x2*x2*x2)*y1*(y2*y2)*y3 - d*(x2*x2)*(x3*x3*x3)*y1*(y2*y2*y2) - d*(x2*x2)*x3*y1*(y2*y2*y2) - d*x2*(x3*x3)*y1*(y2*y2*y2*y2)*y3
def cqx2 (d x1 y1 x2 y2 x3 y3 : Int) : Int := (d*d)*(x1*x1)*(x2*x2)*(x3*x3*x3)*y1*y2*(y3*y3) - (d*d)*(x1*x1)*x2*(x3*x3)*y1*(y2*y2)*(y3*y3*y3) - (d*d)*x1*(x2*x2)*(x3*x3)*(y1*y1)*y2*(y3*y3*y3) + (d*d)*x1*x2*(x3*x3*x3)*(y1*y1)*(y2*y2)*(y3*y3) + d*(x1*x1*x1)*(x2*x2)*(x3*x3)*y2*y3 + d*(x1*x1*x1)*x2*(x3*x3*x3)*(y3*y3) + d*(x1*x1*x1)*x2*x3*(y2*y2)*(y3*y3) + d*(x1*x1*x1)*(x3*x3)*y2*(y3*y3*y3) - d*(x1*x1)*(x2*x2)*x3*y1*y2*(y3*y3) - d*(x1*x1)*x2*(x3*x3)*y1*(y2*y2)*y3 + d*(x1*x1)*x2*(x3*x3)*y1*(y3*y3*y3) + d*(x1*x1)*(x3*x3*x3)*y1*y2*(y3*y3) - d*x1*(x2*x2)*(x3*x3)*(y1*y1)*y2*y3 + d*x1*(x2*x2)*(x3*x3)*y2*y3 - d*x1*x2*(x3*x3*x3)*(y1*y1)*(y3*y3) + d*x1*x2*(x3*x3*x3)*(y3*y3) - d*x1*x2*x3*(y1*y1)*(y2*y2)*(y3*y3) + d*x1*x2*x3*(y2*y2)*(y3*y3) - d*x1*(x3*x3)*(y1*y1)*y2*(y3*y3*y3) + d*x1*(x3*x3)*y2*(y3*y3*y3) + d*(x2*x2)*x3*(y1*y1*y1)*y2*(y3*y3) - d*(x2*x2)*x3*y1*y2*(y3*y3) + d*x2*(x3*x3)*(y1*y1*y1)*(y2*y2)*y3 - d*x2*(x3*x3)*(y1*y1*y1)*(y3*y3*y3) - d*x2*(x3*x3)*y1*(y2*y2)*y3 + d*x2*(x3*x3)*y1*(y3*y3*y3) - d*(x3*x3*x3)*(y1*y1*y1)*y2*(y3*y3) + d*(x3*x3*x3)*y1*y2*(y3*y3) + (x1*x1*x1)*x2*(x3*x3*x3) - (x1*x1*x1)*x2*x3*(y3*y3) + (x1*x1*x1)*x2*x3 + (x1*x1*x1)*(x3*x3)*y2*y3 - (x1*x1*x1)*y2*(y3*y3*y3) + (x1*x1*x1)*y2*y3 + (x1*x1)*x2*(x3*x3)*y1*y3 - (x1*x1)*x2*y1*(y3*y3*y3) + (x1*x1)*x2*y1*y3 + (x1*x1)*(x3*x3*x3)*y1*y2 - (x1*x1)*x3*y1*y2*(y3*y3) + (x1*x1)*x3*y1*y2 - x1*x2*(x3*x3*x3)*(y1*y1) + x1*x2*(x3*x3*x3) + x1*x2*x3*(y1*y1)*(y3*y3) - x1*x2*x3*(y1*y1) - x1*x2*x3*(y3*y3) + x1*x2*x3 - x1*(x3*x3)*(y1*y1)*y2*y3 + x1*(x3*x3)*y2*y3 + x1*(y1*y1)*y2*(y3*y3*y3) - x1*(y1*y1)*y2*y3 - x1*y2*(y3*y3*y3) + x1*y2*y3 - x2*(x3*x3)*(y1*y1*y1)*y3 + x2*(x3*x3)*y1*y3 + x2*(y1*y1*y1)*(y3*y3*y3) - x2*(y1*y1*y1)*y3 - x2*y1*(y3*y3*y3) + x2*y1*y3 - (x3*x3*x3)*(y1*y1*y1)*y2 + (x3*x3*x3)*y1*y2 + x3*(y1*y1*y1)*y2*(y3*y3) - x3*(y1*y1*y1)*y2 - x3*y1*y2*(y3*y3) + x3*y1*y2
def cqx3 (d x1 y1 x2 y2 x3 y3 : Int) : Int := -d*(x1*x1)*(x2*x2)*x3*y1*y2 + d*(x1*x1)*x2*y1*(y2*y2)*y3 + d*x1*(x2*x2)*(y1*y1)*y2*y3 - d*x1*x2*x3*(y1*y1)*(y2*y2) - (x1*x1*x1)*(x2*x2*x2)*x3 - (x1*x1*x1)*(x2*x2)*y2*y3 + (x1*x1*x1)*x2*x3*(y2*y2) - (x1*x1*x1)*x2*x3 + (x1*x1*x1)*(y2*y2*y2)*y3 - (x1*x1*x1)*y2*y3 - (x1*x1)*(x2*x2*x2)*y1*y3 - (x1*x1)*(x2*x2)*x3*y1*y2 + (x1*x1)*x2*y1*(y2*y2)*y3 - (x1*x1)*x2*y1*y3 + (x1*x1)*x3*y1*(y2*y2*y2) - (x1*x1)*x3*y1*y2 + x1*(x2*x2*x2)*x3*(y1*y1) - x1*(x2*x2*x2)*x3 + x1*(x2*x2)*(y1*y1)*y2*y3 - x1*(x2*x2)*y2*y3 - x1*x2*x3*(y1*y1)*(y2*y2) + x1*x2*x3*(y1*y1) + x1*x2*x3*(y2*y2) - x1*x2*x3 - x1*(y1*y1)*(y2*y2*y2)*y3 + x1*(y1*y1)*y2*y3 + x1*(y2*y2*y2)*y3 - x1*y2*y3 + (x2*x2*x2)*(y1*y1*y1)*y3 - (x2*x2*x2)*y1*y3 + (x2*x2)*x3*(y1*y1*y1)*y2 - (x2*x2)*x3*y1*y2 - x2*(y1*y1*y1)*(y2*y2)*y3 + x2*(y1*y1*y1)*y3 + x2*y1*(y2*y2)*y3 - x2*y1*y3 - x3*(y1*y1*y1)*(y2*y2*y2) + x3*(y1*y1*y1)*y2 + x3*y1*(y2*y2*y2) - x3*y1*y2
theorem cert_x (d x1 y1 x2 y2 x3 y3 : Int) : ((x1*y2+x2*y1)*(1-d*x1*x2*y1*y2)*y3+(y1*y2+x1*x2)*(1+d*x1*x2*y1*y2)*x3)*((1+d*x2*x3*y2*y3)*(1-d*x2*x3*y2*y3)+d*(x2*y3+x3*y2)*(y2*y3+x2*x3)*x1*y1)-(x1*(y2*y3+x2*x3)*(1+d*x2*x3*y2*y3)+y1*(x2*y3+x3*y2)*(1-d*x2*x3*y2*y3))*((1+d*x1*x2*y1*y2)*(1-d*x1*x2*y1*y2)+d*(x1*y2+x2*y1)*(y1*y2+x1*x2)*x3*y3) = cqx1 d x1 y1 x2 y2 x3 y3 * ((y1*y1 - x1*x1) - (1 + d*(x1*x1)*(y1*y1))) + cqx2 d x1 y1 x2 y2 x3 y3 * ((y2*y2 - x2*x2) - (1 + d*(x2*x2)*(y2*y2))) + cqx3 d x1 y1 x2 y2 x3 y3 * ((y3*y3 - x3*x3) - (1 + d*(x3*x3)*(y3*y3))) := by
  unfold cqx1 cqx2 cqx3
  grind
def cqy1 (d x1 y1 x2 y2 x3 y3 : Int) : Int := (d*d)*x1*(x2*x2*x2*x2)*x3*(y2*y2*y2)*(y3*y3) + (d*d)*x1*(x2*x2*x2)*(x3*x3)*(y2*y2*y2*y2)*y3 - (d*d)*(x2*x2*x2*x2)*(x3*x3)*y1*(y2*y2*y2)*y3 - (d*d)*(x2*x2*x2)*x3*y1*(y2*y2*y2*y2)*(y3*y3) + d*x1*(x2*x2*x2*x2)*x3*y2*(y3*y3) + d*x1*(x2*x2*x2)*(y2*y2)*(y3*y3*y3) - d*x1*(x2*x2*x2)*(y2*y2)*y3 - d*x1*(x2*x2)*(x3*x3*x3)*(y2*y2*y2) - d*x1*(x2*x2)*x3*(y2*y2*y2) - d*x1*x2*(x3*x3)*(y2*y2*y2*y2)*y3 - d*(x2*x2*x2*x2)*(x3*x3)*y1*y2*y3 - d*(x2*x2*x2)*(x3*x3*x3)*y1*(y2*y2) - d*(x2*x2*x2)*x3*y1*(y2*y2) + d*(x2*x2)*y1*(y2*y2*y2)*(y3*y3*y3) - d*(x2*x2)*y1*(y2*y2*y2)*y3 + d*x2*x3*y1*(y2*y2*y2*y2)*(y3*y3)
def cqy2 (d x1 y1 x2 y2 x3 y3 : Int) : Int := (d*d)*(x1*x1)*(x2*x2)*(x3*x3)*y1*y2*(y3*y3*y3) - (d*d)*(x1*x1)*x2*(x3*x3*x3)*y1*(y2*y2)*(y3*y3) - (d*d)*x1*(x2*x2)*(x3*x3*x3)*(y1*y1)*y2*(y3*y3) + (d*d)*x1*x2*(x3*x3)*(y1*y1)*(y2*y2)*(y3*y3*y3) - d*(x1*x1*x1)*(x2*x2)*x3*y2*(y3*y3) - d*(x1*x1*x1)*x2*(x3*x3)*(y2*y2)*y3 + d*(x1*x1*x1)*x2*(x3*x3)*(y3*y3*y3) + d*(x1*x1*x1)*(x3*x3*x3)*y2*(y3*y3) + d*(x1*x1)*(x2*x2)*(x3*x3)*y1*y2*y3 + d*(x1*x1)*x2*(x3*x3*x3)*y1*(y3*y3) + d*(x1*x1)*x2*x3*y1*(y2*y2)*(y3*y3) + d*(x1*x1)*(x3*x3)*y1*y2*(y3*y3*y3) + d*x1*(x2*x2)*x3*(y1*y1)*y2*(y3*y3) - d*x1*(x2*x2)*x3*y2*(y3*y3) + d*x1*x2*(x3*x3)*(y1*y1)*(y2*y2)*y3 - d*x1*x2*(x3*x3)*(y1*y1)*(y3*y3*y3) - d*x1*x2*(x3*x3)*(y2*y2)*y3 + d*x1*x2*(x3*x3)*(y3*y3*y3) - d*x1*(x3*x3*x3)*(y1*y1)*y2*(y3*y3) + d*x1*(x3*x3*x3)*y2*(y3*y3) - d*(x2*x2)*(x3*x3)*(y1*y1*y1)*y2*y3 + d*(x2*x2)*(x3*x3)*y1*y2*y3 - d*x2*(x3*x3*x3)*(y1*y1*y1)*(y3*y3) + d*x2*(x3*x3*x3)*y1*(y3*y3) - d*x2*x3*(y1*y1*y1)*(y2*y2)*(y3*y3) + d*x2*x3*y1*(y2*y2)*(y3*y3) - d*(x3*x3)*(y1*y1*y1)*y2*(y3*y3*y3) + d*(x3*x3)*y1*y2*(y3*y3*y3) + (x1*x1*x1)*x2*(x3*x3)*y3 - (x1*x1*x1)*x2*(y3*y3*y3) + (x1*x1*x1)*x2*y3 + (x1*x1*x1)*(x3*x3*x3)*y2 - (x1*x1*x1)*x3*y2*(y3*y3) + (x1*x1*x1)*x3*y2 + (x1*x1)*x2*(x3*x3*x3)*y1 - (x1*x1)*x2*x3*y1*(y3*y3) + (x1*x1)*x2*x3*y1 + (x1*x1)*(x3*x3)*y1*y2*y3 - (x1*x1)*y1*y2*(y3*y3*y3) + (x1*x1)*y1*y2*y3 - x1*x2*(x3*x3)*(y1*y1)*y3 + x1*x2*(x3*x3)*y3 + x1*x2*(y1*y1)*(y3*y3*y3) - x1*x2*(y1*y1)*y3 - x1*x2*(y3*y3*y3) + x1*x2*y3 - x1*(x3*x3*x3)*(y1*y1)*y2 + x1*(x3*x3*x3)*y2 + x1*x3*(y1*y1)*y2*(y3*y3) - x1*x3*(y1*y1)*y2 - x1*x3*y2*(y3*y3) + x1*x3*y2 - x2*(x3*x3*x3)*(y1*y1*y1) + x2*(x3*x3*x3)*y1 + x2*x3*(y1*y1*y1)*(y3*y3) - x2*x3*(y1*y1*y1) - x2*x3*y1*(y3*y3) + x2*x3*y1 - (x3*x3)*(y1*y1*y1)*y2*y3 + (x3*x3)*y1*y2*y3 + (y1*y1*y1)*y2*(y3*y3*y3) - (y1*y1*y1)*y2*y3 - y1*y2*(y3*y3*y3) + y1*y2*y3
def cqy3 (d x1 y1 x2 y2 x3 y3 : Int) : Int := -d*(x1*x1)*(x2*x2)*y1*y2*y3 + d*(x1*x1)*x2*x3*y1*(y2*y2) + d*x1*(x2*x2)*x3*(y1*y1)*y2 - d*x1*x2*(y1*y1)*(y2*y2)*y3 - (x1*x1*x1)*(x2*x2*x2)*y3 - (x1*x1*x1)*(x2*x2)*x3*y2 + (x1*x1*x1)*x2*(y2*y2)*y3 - (x1*x1*x1)*x2*y3 + (x1*x1*x1)*x3*(y2*y2*y2) - (x1*x1*x1)*x3*y2 - (x1*x1)*(x2*x2*x2)*x3*y1 - (x1*x1)*(x2*x2)*y1*y2*y3 + (x1*x1)*x2*x3*y1*(y2*y2) - (x1*x1)*x2*x3*y1 + (x1*x1)*y1*(y2*y2*y2)*y3 - (x1*x1)*y1*y2*y3 + x1*(x2*x2*x2)*(y1*y1)*y3 - x1*(x2*x2*x2)*y3 + x1*(x2*x2)*x3*(y1*y1)*y2 - x1*(x2*x2)*x3*y2 - x1*x2*(y1*y1)*(y2*y2)*y3 + x1*x2*(y1*y1)*y3 + x1*x2*(y2*y2)*y3 - x1*x2*y3 - x1*x3*(y1*y1)*(y2*y2*y2) + x1*x3*(y1*y1)*y2 + x1*x3*(y2*y2*y2) - x1*x3*y2 + (x2*x2*x2)*x3*(y1*y1*y1) - (x2*x2*x2)*x3*y1 + (x2*x2)*(y1*y1*y1)*y2*y3 - (x2*x2)*y1*y2*y3 - x2*x3*(y1*y1*y1)*(y2*y2) + x2*x3*(y1*y1*y1) + x2*x3*y1*(y2*y2) - x2*x3*y1 - (y1*y1*y1)*(y2*y2*y2)*y3 + (y1*y1*y1)*y2*y3 + y1*(y2*y2*y2)*y3 - y1*y2*y3
theorem cert_y (d x1 y1 x2 y2 x3 y3 : Int) : ((y1*y2+x1*x2)*(1+d*x1*x2*y1*y2)*y3+(x1*y2+x2*y1)*(1-d*x1*x2*y1*y2)*x3)*((1+d*x2*x3*y2*y3)*(1-d*x2*x3*y2*y3)-d*(x2*y3+x3*y2)*(y2*y3+x2*x3)*x1*y1)-(y1*(y2*y3+x2*x3)*(1+d*x2*x3*y2*y3)+x1*(x2*y3+x3*y2)*(1-d*x2*x3*y2*y3))*((1+d*x1*x2*y1*y2)*(1-d*x1*x2*y1*y2)-d*(x1*y2+x2*y1)*(y1*y2+x1*x2)*x3*y3) = cqy1 d x1 y1 x2 y2 x3 y3 * ((y1*y1 - x1*x1) - (1 + d*(x1*x1)*(y1*y1))) + cqy2 d x1 y1 x2 y2 x3 y3 * ((y2*y2 - x2*x2) - (1 + d*(x2*x2)*(y2*y2))) + cqy3 d x1 y1 x2 y2 x3 y3 * ((y3*y3 - x3*x3) - (1 + d*(x3*x3)*(y3*y3))) := by
  unfold cqy1 cqy2 cqy3
  grind
def cc1 (d x1 y1 x2 y2 : Int) : Int := (d*d*d)*(x1*x1)*(x2*x2*x2*x2)*(y1*y1)*(y2*y2*y2*y2) - (d*d)*(x1*x1)*(x2*x2*x2*x2)*(y2*y2*y2*y2) + (d*d)*(x2*x2*x2*x2)*(y1*y1)*(y2*y2*y2*y2) - (d*d)*(x2*x2*x2*x2)*(y2*y2*y2*y2) - d*(x1*x1)*(x2*x2*x2*x2)*(y2*y2) + d*(x1*x1)*(x2*x2)*(y2*y2*y2*y2) + d*(x2*x2*x2*x2)*(y1*y1)*(y2*y2) - 2*d*(x2*x2*x2*x2)*(y2*y2*y2*y2) - d*(x2*x2)*(y1*y1)*(y2*y2*y2*y2) - 2*d*(x2*x2)*(y2*y2) - 2*(x2*x2*x2*x2)*(y2*y2) + (x2*x2*x2*x2) + 2*(x2*x2)*(y2*y2*y2*y2) - 4*(x2*x2)*(y2*y2) + (y2*y2*y2*y2)
def cc2 (d x1 y1 x2 y2 : Int) : Int := d*(x1*x1*x1*x1)*(x2*x2)*(y2*y2) + 2*d*(x1*x1)*(x2*x2)*(y2*y2) + d*(x2*x2)*(y1*y1*y1*y1)*(y2*y2) - 2*d*(x2*x2)*(y1*y1)*(y2*y2) + d*(x2*x2)*(y2*y2) + 2*(x1*x1)*(x2*x2)*(y2*y2) - (x1*x1)*(x2*x2) + (x1*x1)*(y2*y2) - 2*(x2*x2)*(y1*y1)*(y2*y2) + (x2*x2)*(y1*y1) + 2*(x2*x2)*(y2*y2) - (x2*x2) - (y1*y1)*(y2*y2) + (y2*y2) + 1
theorem cert_c (d x1 y1 x2 y2 : Int) : ((y1*y2+x1*x2)*(1+d*x1*x2*y1*y2))*((y1*y2+x1*x2)*(1+d*x1*x2*y1*y2)) - ((x1*y2+x2*y1)*(1-d*x1*x2*y1*y2))*((x1*y2+x2*y1)*(1-d*x1*x2*y1*y2)) - (((1+d*x1*x2*y1*y2)*(1-d*x1*x2*y1*y2))*((1+d*x1*x2*y1*y2)*(1-d*x1*x2*y1*y2)) + d*((x1*y2+x2*y1)*(x1*y2+x2*y1))*((y1*y2+x1*x2)*(y1*y2+x1*x2))) = cc1 d x1 y1 x2 y2 * ((y1*y1 - x1*x1) - (1 + d*(x1*x1)*(y1*y1))) + cc2 d x1 y1 x2 y2 * ((y2*y2 - x2*x2) - (1 + d*(x2*x2)*(y2*y2))) := by
  unfold cc1 cc2
  grind
end Go.Ev

namespace Go.Ev
open Go Go.Proofs Go.RowKit

theorem cD : C0 pTw (2 * (dN : Int)) := (cz_add dN dN).trans (Cz.of_eq (by grind))
theorem cB (p q : E4) : C0 (pB p q) (((p.y : Int) + p.x) * ((q.y : Int) + q.x)) := (cz_mul _ _).trans ((cz_add _ _).mul (cz_add _ _))
theorem cC (p q : E4) : C0 (pC p q) (2 * (dN : Int) * p.t * q.t) := (cz_mul _ _).trans ((((cz_mul _ _).trans ((Cz.refl _ _).mul cD)).mul (Cz.refl _ _)).trans (Cz.of_eq (by grind)))
theorem cDD (p q : E4) : C0 (pD p q) (2 * (p.z : Int) * q.z) := (cz_mul _ _).trans (((cz_add _ _).mul (Cz.refl _ _)).trans (Cz.of_eq (by grind)))
theorem cF (p q : E4) : C0 (pF p q) (2 * ((p.z : Int) * q.z - dN * p.t * q.t)) := (cz_sub (show pC p q < modN 0 from mulM_lt (modN_pos 0))).trans (((cDD p q).sub (cC p q)).trans (Cz.of_eq (by grind)))
theorem cG (p q : E4) : C0 (pG p q) (2 * ((p.z : Int) * q.z + dN * p.t * q.t)) := (cz_add _ _).trans (((cDD p q).add (cC p q)).trans (Cz.of_eq (by grind)))
theorem c3z (p q : E4) : C0 (pAdd p q).z (2 * ((p.z : Int) * q.z - dN * p.t * q.t) * (2 * ((p.z : Int) * q.z + dN * p.t * q.t))) := (cz_mul _ _).trans ((cF p q).mul (cG p q))
section
variable {p q : E4} (hp : p.lt) (hq : q.lt)
include hp hq
theorem cA : C0 (pA p q) (((p.y : Int) - p.x) * ((q.y : Int) - q.x)) := (cz_mul _ _).trans ((cz_sub hp.1).mul (cz_sub hq.1))
theorem cE : C0 (pE p q) (2 * ((p.x : Int) * q.y + p.y * q.x)) := (cz_sub (show pA p q < modN 0 from mulM_lt (modN_pos 0))).trans (((cB p q).sub (cA hp hq)).trans (Cz.of_eq (by grind)))
theorem cH : C0 (pH p q) (2 * ((p.y : Int) * q.y + p.x * q.x)) := (cz_add _ _).trans (((cB p q).add (cA hp hq)).trans (Cz.of_eq (by grind)))
theorem c3x : C0 (pAdd p q).x (2 * ((p.x : Int) * q.y + p.y * q.x) * (2 * ((p.z : Int) * q.z - dN * p.t * q.t))) := (cz_mul _ _).trans ((cE hp hq).mul (cF p q))
theorem c3y : C0 (pAdd p q).y (2 * ((p.z : Int) * q.z + dN * p.t * q.t) * (2 * ((p.y : Int) * q.y + p.x * q.x))) := (cz_mul _ _).trans ((cG p q).mul (cH hp hq))
theorem c3t : C0 (pAdd p q).t (2 * ((p.x : Int) * q.y + p.y * q.x) * (2 * ((p.y : Int) * q.y + p.x * q.x))) := (cz_mul _ _).trans ((cE hp hq).mul (cH hp hq))
end

def Rep (P : E4) (x y : Int) : Prop := P.lt ∧ ¬ C0 P.z 0 ∧ C0 P.x (x * P.z) ∧ C0 P.y (y * P.z) ∧ C0 P.t (x * y * P.z)
def eI (x1 y1 x2 y2 : Int) : Int := (dN : Int) * x1 * x2 * y1 * y2
theorem plus_ne {x1 y1 x2 y2 : Int} (h1 : On x1 y1) (h2 : On x2 y2) : ¬ C0 (1 + eI x1 y1 x2 y2) 0 := fun h => complete h1 h2 (by
  unfold eI at h
  exact h.lc1 ((dN : Int) * x1 * x2 * y1 * y2 - 1) (by grind))
theorem minus_ne {x1 y1 x2 y2 : Int} (h1 : On x1 y1) (h2 : On x2 y2) : ¬ C0 (1 - eI x1 y1 x2 y2) 0 := fun h => complete h1 h2 (by
  unfold eI at h
  exact h.lc1 (-((dN : Int) * x1 * x2 * y1 * y2) - 1) (by grind))
def IsSum (x1 y1 x2 y2 x3 y3 : Int) : Prop := C0 (x3 * (1 + eI x1 y1 x2 y2)) (x1 * y2 + x2 * y1) ∧ C0 (y3 * (1 - eI x1 y1 x2 y2)) (y1 * y2 + x1 * x2)
theorem rep_add {p q : E4} {x1 y1 x2 y2 x3 y3 : Int} (hp : Rep p x1 y1) (hq : Rep q x2 y2) (h1 : On x1 y1) (h2 : On x2 y2) (hs : IsSum x1 y1 x2 y2 x3 y3) : Rep (pAdd p q) x3 y3 := by
  obtain ⟨pl, pz, px, py, pt⟩ := hp
  obtain ⟨ql, qz, qx, qy, qt⟩ := hq
  obtain ⟨s1, s2⟩ := hs
  have hplus := plus_ne h1 h2
  have hminus := minus_ne h1 h2
  have cx := c3x pl ql
  have cy := c3y pl ql
  have cz := c3z p q
  have ct := c3t pl ql
  have tt : C0 ((p.t : Int) * q.t) (x1 * y1 * p.z * (x2 * y2 * q.z)) := pt.mul qt
  have xy : C0 ((p.x : Int) * q.y + p.y * q.x) (x1 * p.z * (y2 * q.z) + y1 * p.z * (x2 * q.z)) := (px.mul qy).add (py.mul qx)
  have yy : C0 ((p.y : Int) * q.y + p.x * q.x) (y1 * p.z * (y2 * q.z) + x1 * p.z * (x2 * q.z)) := (py.mul qy).add (px.mul qx)
  have f : C0 ((p.z : Int) * q.z - dN * p.t * q.t) (p.z * q.z * (1 - eI x1 y1 x2 y2)) := tt.lc1 (-(dN : Int)) (by unfold eI; grind)
  have g : C0 ((p.z : Int) * q.z + dN * p.t * q.t) (p.z * q.z * (1 + eI x1 y1 x2 y2)) := tt.lc1 (dN : Int) (by unfold eI; grind)
  have hz : C0 ((pAdd p q).z : Int) (2 * (p.z * q.z * (1 - eI x1 y1 x2 y2)) * (2 * (p.z * q.z * (1 + eI x1 y1 x2 y2)))) := cz.trans (((Cz.refl _ 2).mul f).mul ((Cz.refl _ 2).mul g))
  have hx : C0 ((pAdd p q).x : Int) (2 * (x1 * p.z * (y2 * q.z) + y1 * p.z * (x2 * q.z)) * (2 * (p.z * q.z * (1 - eI x1 y1 x2 y2)))) := cx.trans (((Cz.refl _ 2).mul xy).mul ((Cz.refl _ 2).mul f))
  have hy : C0 ((pAdd p q).y : Int) (2 * (p.z * q.z * (1 + eI x1 y1 x2 y2)) * (2 * (y1 * p.z * (y2 * q.z) + x1 * p.z * (x2 * q.z)))) := cy.trans (((Cz.refl _ 2).mul g).mul ((Cz.refl _ 2).mul yy))
  have ht : C0 ((pAdd p q).t : Int) (2 * (x1 * p.z * (y2 * q.z) + y1 * p.z * (x2 * q.z)) * (2 * (y1 * p.z * (y2 * q.z) + x1 * p.z * (x2 * q.z)))) := ct.trans (((Cz.refl _ 2).mul xy).mul ((Cz.refl _ 2).mul yy))
  refine ⟨pAdd_lt p q, fun h => mul_ne (mul_ne two_ne (mul_ne (mul_ne pz qz) hminus)) (mul_ne two_ne (mul_ne (mul_ne pz qz) hplus)) (hz.symm.trans h), ?_, ?_, ?_⟩
  · refine hx.trans (Cz.trans ?_ ((Cz.refl _ x3).mul hz).symm)
    exact s1.lc1 (-(4 * (p.z * q.z) * (p.z * q.z) * (1 - eI x1 y1 x2 y2))) (by generalize eI x1 y1 x2 y2 = e; grind)
  · refine hy.trans (Cz.trans ?_ ((Cz.refl _ y3).mul hz).symm)
    exact s2.lc1 (-(4 * (p.z * q.z) * (p.z * q.z) * (1 + eI x1 y1 x2 y2))) (by generalize eI x1 y1 x2 y2 = e; grind)
  · refine ht.trans (Cz.trans ?_ ((Cz.refl _ (x3 * y3)).mul hz).symm)
    exact s1.lc2 s2 (-(4 * (p.z * q.z) * (p.z * q.z) * (y1 * y2 + x1 * x2))) (-(4 * (p.z * q.z) * (p.z * q.z) * (x3 * (1 + eI x1 y1 x2 y2)))) (by generalize eI x1 y1 x2 y2 = e; grind)
theorem sum_uniq {x1 y1 x2 y2 x3 y3 x4 y4 : Int} (h1 : On x1 y1) (h2 : On x2 y2) (hs : IsSum x1 y1 x2 y2 x3 y3) (ht : IsSum x1 y1 x2 y2 x4 y4) : C0 x3 x4 ∧ C0 y3 y4 := by
  refine ⟨cz_cancel pr0 (a := 1 + eI x1 y1 x2 y2) ?_ (plus_ne h1 h2), cz_cancel pr0 (a := 1 - eI x1 y1 x2 y2) ?_ (minus_ne h1 h2)⟩
  · exact hs.1.lc2 ht.1 1 (-1) (by grind)
  · exact hs.2.lc2 ht.2 1 (-1) (by grind)
theorem sum_on {x1 y1 x2 y2 x3 y3 : Int} (h1 : On x1 y1) (h2 : On x2 y2) (hs : IsSum x1 y1 x2 y2 x3 y3) : On x3 y3 := by
  have hplus := plus_ne h1 h2
  have hminus := minus_ne h1 h2
  have hBD := mul_ne hplus hminus
  obtain ⟨s1, s2⟩ := hs
  have hc := cert_c (dN : Int) x1 y1 x2 y2
  unfold On at *
  refine cz_cancel pr0 (a := ((1 + eI x1 y1 x2 y2) * (1 - eI x1 y1 x2 y2)) * ((1 + eI x1 y1 x2 y2) * (1 - eI x1 y1 x2 y2))) ?_ (mul_ne hBD hBD)
  have a1 : C0 (x3 * (1 + eI x1 y1 x2 y2) * (x3 * (1 + eI x1 y1 x2 y2))) ((x1 * y2 + x2 * y1) * (x1 * y2 + x2 * y1)) := s1.mul s1
  have a2 : C0 (y3 * (1 - eI x1 y1 x2 y2) * (y3 * (1 - eI x1 y1 x2 y2))) ((y1 * y2 + x1 * x2) * (y1 * y2 + x1 * x2)) := s2.mul s2
  have a3 := a1.mul a2
  have key : C0 (((y1*y2+x1*x2)*(1+eI x1 y1 x2 y2))*((y1*y2+x1*x2)*(1+eI x1 y1 x2 y2)) - ((x1*y2+x2*y1)*(1-eI x1 y1 x2 y2))*((x1*y2+x2*y1)*(1-eI x1 y1 x2 y2))) (((1+eI x1 y1 x2 y2)*(1-eI x1 y1 x2 y2))*((1+eI x1 y1 x2 y2)*(1-eI x1 y1 x2 y2)) + dN*((x1*y2+x2*y1)*(x1*y2+x2*y1))*((y1*y2+x1*x2)*(y1*y2+x1*x2))) :=
    h1.lc2 h2 (cc1 dN x1 y1 x2 y2) (cc2 dN x1 y1 x2 y2) (by unfold eI; exact hc)
  generalize eI x1 y1 x2 y2 = e at *
  exact key.lc4 a1 a2 a3 1 (-((1 - e) * (1 - e))) ((1 + e) * (1 + e)) (-(dN : Int)) (by grind)
theorem half_x {m : Nat} {B D A C ax ay x3 y3 bx d : Int} (a1 : Cz m (ax * B) A) (a2 : Cz m (ay * D) C) (e1 : Cz m (bx * (1 + d * ax * x3 * ay * y3)) (ax * y3 + x3 * ay)) :
    Cz m (bx * (B * D + d * A * C * x3 * y3)) (A * D * y3 + C * B * x3) ∧ Cz m (B * D * (1 + d * ax * x3 * ay * y3)) (B * D + d * A * C * x3 * y3) := by
  have aa := a1.mul a2
  exact ⟨e1.lc4 aa a1 a2 (B * D) (-(bx * d * x3 * y3)) (D * y3) (x3 * B) (by grind), aa.lc1 (d * x3 * y3) (by grind)⟩
theorem half_y {m : Nat} {B D A C ax ay x3 y3 bx d : Int} (a1 : Cz m (ax * B) A) (a2 : Cz m (ay * D) C) (e1 : Cz m (bx * (1 - d * ax * x3 * ay * y3)) (ay * y3 + ax * x3)) :
    Cz m (bx * (B * D - d * A * C * x3 * y3)) (C * B * y3 + A * D * x3) ∧ Cz m (B * D * (1 - d * ax * x3 * ay * y3)) (B * D - d * A * C * x3 * y3) := by
  have aa := a1.mul a2
  exact ⟨e1.lc4 aa a1 a2 (B * D) (bx * d * x3 * y3) (D * x3) (y3 * B) (by grind), aa.lc1 (-(d * x3 * y3)) (by grind)⟩
theorem sum_assoc {x1 y1 x2 y2 x3 y3 ax ay bx bY cx cy dx dy : Int} (h1 : On x1 y1) (h2 : On x2 y2) (h3 : On x3 y3) (ha : IsSum x1 y1 x2 y2 ax ay) (hb : IsSum ax ay x3 y3 bx bY) (hc : IsSum x2 y2 x3 y3 cx cy) (hd : IsSum x1 y1 cx cy dx dy) : C0 bx dx ∧ C0 bY dy := by
  have oa := sum_on h1 h2 ha
  have oc := sum_on h2 h3 hc
  have k1 := cert_x (dN : Int) x1 y1 x2 y2 x3 y3
  have k2 := cert_y (dN : Int) x1 y1 x2 y2 x3 y3
  have n12 := mul_ne (plus_ne h1 h2) (minus_ne h1 h2)
  have n23 := mul_ne (plus_ne h2 h3) (minus_ne h2 h3)
  have ba3p := plus_ne oa h3
  have ba3m := minus_ne oa h3
  have b1cp := plus_ne h1 oc
  have b1cm := minus_ne h1 oc
  obtain ⟨a1, a2⟩ := ha
  obtain ⟨c1, c2⟩ := hc
  obtain ⟨e1, e2⟩ := hb
  obtain ⟨f1, f2⟩ := hd
  unfold eI at ba3p ba3m b1cp b1cm e1 e2 f1 f2
  obtain ⟨l1, l2⟩ := half_x a1 a2 e1
  obtain ⟨r1, r2⟩ := half_x (d := (dN : Int)) (x3 := x1) (y3 := y1) (bx := dx) c1 c2 (f1.lc1 1 (by grind))
  obtain ⟨l3, l4⟩ := half_y a1 a2 e2
  obtain ⟨r3, r4⟩ := half_y (d := (dN : Int)) (x3 := x1) (y3 := y1) (bx := dy) c1 c2 (f2.lc1 1 (by grind))
  have key1 := h1.lc3 h2 h3 _ _ _ k1
  have key2 := h1.lc3 h2 h3 _ _ _ k2
  have nl1 : ¬ C0 _ 0 := fun h => mul_ne n12 ba3p (l2.trans h)
  have nr1 : ¬ C0 _ 0 := fun h => mul_ne n23 b1cp ((Cz.of_eq (by grind)).trans (r2.trans h))
  have nl3 : ¬ C0 _ 0 := fun h => mul_ne n12 ba3m (l4.trans h)
  have nr3 : ¬ C0 _ 0 := fun h => mul_ne n23 b1cm ((Cz.of_eq (by grind)).trans (r4.trans h))
  unfold eI at l1 r1 l3 r3 nl1 nr1 nl3 nr3
  constructor
  · refine cz_cancel pr0 ?_ (mul_ne nl1 nr1)
    generalize (1 + (dN : Int) * x1 * x2 * y1 * y2) = B at *
    generalize (1 - (dN : Int) * x1 * x2 * y1 * y2) = D at *
    generalize (1 + (dN : Int) * x2 * x3 * y2 * y3) = B' at *
    generalize (1 - (dN : Int) * x2 * x3 * y2 * y3) = D' at *
    generalize x1 * y2 + x2 * y1 = A at *
    generalize y1 * y2 + x1 * x2 = C at *
    generalize x2 * y3 + x3 * y2 = A' at *
    generalize y2 * y3 + x2 * x3 = C' at *
    exact key1.lc3 l1 r1 1 (B' * D' + dN * A' * C' * x1 * y1) (-(B * D + dN * A * C * x3 * y3)) (by grind)
  · refine cz_cancel pr0 ?_ (mul_ne nl3 nr3)
    generalize (1 + (dN : Int) * x1 * x2 * y1 * y2) = B at *
    generalize (1 - (dN : Int) * x1 * x2 * y1 * y2) = D at *
    generalize (1 + (dN : Int) * x2 * x3 * y2 * y3) = B' at *
    generalize (1 - (dN : Int) * x2 * x3 * y2 * y3) = D' at *
    generalize x1 * y2 + x2 * y1 = A at *
    generalize y1 * y2 + x1 * x2 = C at *
    generalize x2 * y3 + x3 * y2 = A' at *
    generalize y2 * y3 + x2 * x3 = C' at *
    exact key2.lc3 l3 r3 1 (B' * D' - dN * A' * C' * x1 * y1) (-(B * D - dN * A * C * x3 * y3)) (by grind)
end Go.Ev

namespace Go.Ev
open Go Go.Proofs Go.RowKit

theorem onE_iff {x y : Nat} : onE x y = true ↔ x < modN 0 ∧ y < modN 0 ∧ On x y := by
  have hm := modN_pos 0
  have h1 : C0 (subM (modN 0) (mulM (modN 0) y y) (mulM (modN 0) x x)) ((y : Int) * y - x * x) := (cz_sub (mulM_lt hm)).trans ((cz_mul y y).sub (cz_mul x x))
  have h2 : C0 (addM (modN 0) 1 (mulM (modN 0) dN (mulM (modN 0) (mulM (modN 0) x x) (mulM (modN 0) y y)))) (1 + (dN : Int) * (x * x) * (y * y)) :=
    (cz_add _ _).trans (((Cz.refl _ 1).add ((cz_mul _ _).trans ((Cz.refl _ _).mul ((cz_mul _ _).trans ((cz_mul x x).mul (cz_mul y y)))))).trans (Cz.of_eq (by grind)))
  unfold onE ltE
  rw [eqE_in]
  unfold pOn
  simp only [Bool.and_eq_true, decide_eq_true_iff]
  constructor
  · rintro ⟨⟨a, b⟩, c⟩
    exact ⟨a, b, h1.symm.trans ((Cz.of_eq (by rw [c])).trans h2)⟩
  · rintro ⟨a, b, c⟩
    exact ⟨⟨a, b⟩, Cz.nat (subM_lt hm) (addM_lt hm) (h1.trans (Cz.trans c h2.symm))⟩
theorem down_rep {P : E4} {x y : Nat} (h : Rep P x y) (hx : x < modN 0) (hy : y < modN 0) : eDownX (inE P) = x ∧ eDownY (inE P) = y := by
  obtain ⟨hl, hz, h1, h2, _⟩ := h
  have hi := inv_cz (k := 0) (by decide) hl.2.2.1 hz
  have hm := modN_pos 0
  have key : ∀ (c v : Nat), v < modN 0 → C0 c ((v : Int) * P.z) → pDown P c = v := by
    intro c v hv hc
    refine Cz.nat (mulM_lt hm) hv ((cz_mul _ _).trans ?_)
    show C0 ((c : Int) * invP 0 P.z) v
    exact hc.lc2 hi (invP 0 P.z) v (by grind)
  rw [eDownX_in hl, eDownY_in hl]
  exact ⟨key _ _ hx h1, key _ _ hy h2⟩
theorem rep_lift {x y : Nat} (hx : x < modN 0) (hy : y < modN 0) : Rep (pLift x y) x y := by
  refine ⟨pLift_lt hx hy, one_ne, Cz.of_eq ?_, Cz.of_eq ?_, (cz_mul x y).trans (Cz.of_eq ?_)⟩
  · show (x : Int) = x * ((1 : Nat) : Int); grind
  · show (y : Int) = y * ((1 : Nat) : Int); grind
  · show (x : Int) * y = x * y * ((1 : Nat) : Int); grind
theorem czN_lt {m : Nat} (hm : 0 < m) (z : Int) : czN m z < m := by
  unfold czN
  have := Int.emod_lt_of_pos z (show (0 : Int) < (m : Int) by omega)
  have := Int.emod_nonneg z (show (m : Int) ≠ 0 by omega)
  omega
theorem sum_ex {x1 y1 x2 y2 : Int} (h1 : On x1 y1) (h2 : On x2 y2) : ∃ x3 y3 : Nat, x3 < modN 0 ∧ y3 < modN 0 ∧ IsSum x1 y1 x2 y2 x3 y3 := by
  have hm := modN_pos 0
  have key : ∀ n d : Int, ¬ C0 d 0 → ∃ q : Nat, q < modN 0 ∧ C0 ((q : Int) * d) n := by
    intro n d hd
    have hc := czN_cz hm d
    have hi := inv_cz (k := 0) (by decide) (czN_lt hm d) (fun h => hd (hc.symm.trans h))
    refine ⟨czN (modN 0) (n * invP 0 (czN (modN 0) d)), czN_lt hm _, ?_⟩
    have hq := czN_cz hm (n * invP 0 (czN (modN 0) d))
    exact hq.lc3 hi hc d n (-(n * invP 0 (czN (modN 0) d))) (by grind)
  obtain ⟨x3, a1, a2⟩ := key (x1 * y2 + x2 * y1) _ (plus_ne h1 h2)
  obtain ⟨y3, b1, b2⟩ := key (y1 * y2 + x1 * x2) _ (minus_ne h1 h2)
  exact ⟨x3, y3, a1, b1, a2, b2⟩

abbrev Pt := Nat × Nat
def Pt.on (p : Pt) : Prop := p.1 < modN 0 ∧ p.2 < modN 0 ∧ On p.1 p.2
noncomputable def gadd (p q : Pt) : Pt := (eDownX (sumE p.1 p.2 q.1 q.2), eDownY (sumE p.1 p.2 q.1 q.2))
def gnone : Pt := (0, 1)
def gneg (p : Pt) : Pt := (subM (modN 0) 0 p.1, p.2)
theorem on_of {x y : Nat} (h : onE x y = true) : Pt.on (x, y) := onE_iff.1 h
theorem Pt.on.e {p : Pt} (h : p.on) : onE p.1 p.2 = true := onE_iff.2 h
theorem rep_sum {P Q : E4} {p q : Pt} (hp : p.on) (hq : q.on) (hP : Rep P p.1 p.2) (hQ : Rep Q q.1 q.2) : (gadd p q).on ∧ Rep (pAdd P Q) (gadd p q).1 (gadd p q).2 ∧ IsSum p.1 p.2 q.1 q.2 (gadd p q).1 (gadd p q).2 := by
  obtain ⟨x3, y3, hx, hy, hs⟩ := sum_ex hp.2.2 hq.2.2
  have h1 := rep_add (rep_lift hp.1 hp.2.1) (rep_lift hq.1 hq.2.1) hp.2.2 hq.2.2 hs
  obtain ⟨d1, d2⟩ := down_rep h1 hx hy
  have e1 : (gadd p q).1 = x3 := by
    show eDownX (sumE p.1 p.2 q.1 q.2) = x3
    unfold sumE
    rw [eLift_in, eLift_in, eAdd_in (pLift_lt hp.1 hp.2.1) (pLift_lt hq.1 hq.2.1), d1]
  have e2 : (gadd p q).2 = y3 := by
    show eDownY (sumE p.1 p.2 q.1 q.2) = y3
    unfold sumE
    rw [eLift_in, eLift_in, eAdd_in (pLift_lt hp.1 hp.2.1) (pLift_lt hq.1 hq.2.1), d2]
  have hon := sum_on hp.2.2 hq.2.2 hs
  have hr := rep_add hP hQ hp.2.2 hq.2.2 hs
  unfold Pt.on
  rw [e1, e2]
  exact ⟨⟨hx, hy, hon⟩, hr, hs⟩
theorem gadd_on {p q : Pt} (hp : p.on) (hq : q.on) : (gadd p q).on := (rep_sum hp hq (rep_lift hp.1 hp.2.1) (rep_lift hq.1 hq.2.1)).1
theorem gadd_is {p q : Pt} (hp : p.on) (hq : q.on) : IsSum p.1 p.2 q.1 q.2 (gadd p q).1 (gadd p q).2 := (rep_sum hp hq (rep_lift hp.1 hp.2.1) (rep_lift hq.1 hq.2.1)).2.2
theorem gadd_eq {p q r : Pt} (hp : p.on) (hq : q.on) (h1 : r.1 < modN 0) (h2 : r.2 < modN 0) (h : IsSum p.1 p.2 q.1 q.2 r.1 r.2) : gadd p q = r := by
  obtain ⟨a, b⟩ := sum_uniq hp.2.2 hq.2.2 (gadd_is hp hq) h
  have hg := gadd_on hp hq
  exact Prod.ext (Cz.nat hg.1 h1 a) (Cz.nat hg.2.1 h2 b)
theorem gnone_on : gnone.on := onE_iff.1 onE_none
theorem gadd_assoc {p q r : Pt} (hp : p.on) (hq : q.on) (hr : r.on) : gadd (gadd p q) r = gadd p (gadd q r) := by
  have h1 := gadd_on hp hq
  have h2 := gadd_on hq hr
  have h3 := gadd_on h1 hr
  have h4 := gadd_on hp h2
  obtain ⟨a, b⟩ := sum_assoc hp.2.2 hq.2.2 hr.2.2 (gadd_is hp hq) (gadd_is h1 hr) (gadd_is hq hr) (gadd_is hp h2)
  exact Prod.ext (Cz.nat h3.1 h4.1 a) (Cz.nat h3.2.1 h4.2.1 b)
theorem gadd_none {p : Pt} (hp : p.on) : gadd p gnone = p := by
  refine gadd_eq hp gnone_on hp.1 hp.2.1 ⟨Cz.of_eq ?_, Cz.of_eq ?_⟩
  · show (p.1 : Int) * (1 + eI p.1 p.2 ((0 : Nat) : Int) ((1 : Nat) : Int)) = p.1 * ((1 : Nat) : Int) + ((0 : Nat) : Int) * p.2
    unfold eI; grind
  · show (p.2 : Int) * (1 - eI p.1 p.2 ((0 : Nat) : Int) ((1 : Nat) : Int)) = p.2 * ((1 : Nat) : Int) + p.1 * ((0 : Nat) : Int)
    unfold eI; grind
theorem gneg_cz (p : Pt) (hp : p.on) : C0 (gneg p).1 (-(p.1 : Int)) := (cz_sub hp.1).trans (Cz.of_eq (by show ((0 : Nat) : Int) - p.1 = -p.1; omega))
theorem gneg_on {p : Pt} (hp : p.on) : (gneg p).on := by
  have h := gneg_cz p hp
  refine ⟨subM_lt (modN_pos 0), hp.2.1, ?_⟩
  have h1 := hp.2.2
  unfold On at *
  have h2 := h.mul h
  exact h1.lc2 h2 1 (-(1 + (dN : Int) * (p.2 * p.2))) (by show ((p.2 : Int) * p.2 - (gneg p).1 * (gneg p).1) - (1 + (dN : Int) * ((gneg p).1 * (gneg p).1) * (p.2 * p.2)) = _; grind)
noncomputable def nmul (p : Pt) : Nat → Pt
  | 0 => gnone
  | k + 1 => gadd (nmul p k) p
theorem nmul_on {p : Pt} (hp : p.on) : ∀ k, (nmul p k).on
  | 0 => gnone_on
  | k + 1 => gadd_on (nmul_on hp k) hp
theorem nmul_add {p : Pt} (hp : p.on) (a : Nat) : ∀ b, nmul p (a + b) = gadd (nmul p a) (nmul p b)
  | 0 => (gadd_none (nmul_on hp a)).symm
  | b + 1 => by
    show gadd (nmul p (a + b)) p = gadd (nmul p a) (gadd (nmul p b) p)
    rw [nmul_add hp a b, gadd_assoc (nmul_on hp a) (nmul_on hp b) hp]
theorem rep_step {k j : Nat} {P X : E4} {p : Pt} {a : Nat} (hp : p.on) (hP : Rep P p.1 p.2) (hX : Rep X (nmul p a).1 (nmul p a).2) :
    Rep (pStep k P j X) (nmul p (2 * a + bitN k j)).1 (nmul p (2 * a + bitN k j)).2 := by
  have h1 := (rep_sum (nmul_on hp a) (nmul_on hp a) hX hX).2.1
  rw [← nmul_add hp a a, ← Nat.two_mul] at h1
  unfold pStep bitB
  have hb := bitN_le k j
  by_cases h : bitN k j = 1
  · rw [decide_eq_true h, cond_true, h]
    exact (rep_sum (nmul_on hp (2 * a)) hp h1 hP).2.1
  · rw [decide_eq_false h, cond_false, show bitN k j = 0 by omega]
    exact h1
theorem rep_timesG {k : Nat} {P : E4} {p : Pt} (hp : p.on) (hP : Rep P p.1 p.2) : ∀ (j : Nat) (X : E4) (a : Nat), Rep X (nmul p a).1 (nmul p a).2 → a = k / 2 ^ j → Rep (pTimesG k P j X) (nmul p k).1 (nmul p k).2
  | 0, X, a, hX, ha => by
    rw [Nat.pow_zero, Nat.div_one] at ha
    subst ha; exact hX
  | j + 1, X, a, hX, ha => by
    refine rep_timesG hp hP j (pStep k P j X) (2 * a + bitN k j) (rep_step hp hP hX) ?_
    subst ha
    unfold bitN
    rw [Nat.pow_succ, ← Nat.div_div_eq_div_mul]
    omega
theorem rep_times {k : Nat} (hk : k < 4294967296 ^ 8) {P : E4} {p : Pt} (hp : p.on) (hP : Rep P p.1 p.2) : Rep (pTimes k P) (nmul p k).1 (nmul p k).2 := by
  refine rep_timesG hp hP _ _ 0 ?_ ?_
  · exact rep_lift (modN_pos 0) (modN_one 0)
  · rw [Nat.div_eq_of_lt (lenN_spec hk).1]
theorem times_eq {k x y : Nat} (hk : k < 4294967296 ^ 8) (h : onE x y = true) : eDownX (timE k x y) = (nmul (x, y) k).1 ∧ eDownY (timE k x y) = (nmul (x, y) k).2 := by
  have hp := on_of h
  have hr := rep_times hk hp (rep_lift hp.1 hp.2.1)
  have hn := nmul_on hp k
  unfold timE
  rw [eLift_in, eTimes_in (pLift_lt hp.1 hp.2.1)]
  exact down_rep hr hn.1 hn.2.1
theorem both_eq {k x y m u v : Nat} (hk : k < 4294967296 ^ 8) (hm : m < 4294967296 ^ 8) (h : onE x y = true) (h' : onE u v = true) :
    eDownX (botE k x y m u v) = (gadd (nmul (x, y) k) (nmul (u, v) m)).1 ∧ eDownY (botE k x y m u v) = (gadd (nmul (x, y) k) (nmul (u, v) m)).2 := by
  have hp := on_of h
  have hq := on_of h'
  have hr := rep_times hk hp (rep_lift hp.1 hp.2.1)
  have hr' := rep_times hm hq (rep_lift hq.1 hq.2.1)
  obtain ⟨h1, h2, _⟩ := rep_sum (nmul_on hp k) (nmul_on hq m) hr hr'
  unfold botE
  rw [eLift_in, eLift_in, eTimes_in (pLift_lt hp.1 hp.2.1), eTimes_in (pLift_lt hq.1 hq.2.1), eAdd_in (pTimes_lt k _) (pTimes_lt m _)]
  exact down_rep h2 h1.1 h1.2.1
end Go.Ev

namespace Go.Ev
open Go Go.Proofs Go.RowKit

noncomputable def nmX (k px py : Nat) : Nat := (nmul (px, py) k).1
noncomputable def nmY (k px py : Nat) : Nat := (nmul (px, py) k).2
noncomputable def boX (k px py m qx qy : Nat) : Nat := (gadd (nmul (px, py) k) (nmul (qx, qy) m)).1
noncomputable def boY (k px py m qx qy : Nat) : Nat := (gadd (nmul (px, py) k) (nmul (qx, qy) m)).2
noncomputable def gBotG : List Val → Option (List Prop × AV)
  | [.n k, .n px, .n py, .n m, .n qx, .n qy] => some ([onE px py = true, onE qx qy = true], .tup [P2 (boX k px py m qx qy) (boY k px py m qx qy), .one (.i 0)])
  | _ => none
theorem ct28G : CTok ⟨47, fnS [aN, aPt, aN, aPt] gBotG⟩ := ctS (by
  intro xs ob r hb h ho
  unfold gBotG at h
  split at h
  · rename_i k px py m qx qy
    simp only [Option.some.injEq, Prod.mk.injEq] at h
    obtain ⟨rfl, rfl⟩ := h
    obtain ⟨⟨b0, _⟩, ⟨b1, b2, _⟩, ⟨b5, _⟩, ⟨b3, b4, _⟩, _⟩ := hb
    obtain ⟨hu, hv, _⟩ := ho
    obtain ⟨h1, h2⟩ := onE_lt hu
    obtain ⟨h3, h4⟩ := onE_lt hv
    have hS := spec_run envE12 rfl (ed28t k px py m qx qy) ⟨(by first | with_reducible assumption | with_reducible exact L8 (by with_reducible assumption) | exact decide_eq_true (by omega) | exact decide_eq_false (by omega) | omega), (by first | with_reducible assumption | with_reducible exact L8 (by with_reducible assumption) | exact decide_eq_true (by omega) | exact decide_eq_false (by omega) | omega), (by first | with_reducible assumption | with_reducible exact L8 (by with_reducible assumption) | exact decide_eq_true (by omega) | exact decide_eq_false (by omega) | omega), (by first | with_reducible assumption | with_reducible exact L8 (by with_reducible assumption) | exact decide_eq_true (by omega) | exact decide_eq_false (by omega) | omega), (by first | with_reducible assumption | with_reducible exact L8 (by with_reducible assumption) | exact decide_eq_true (by omega) | exact decide_eq_false (by omega) | omega), (by first | with_reducible assumption | with_reducible exact L8 (by with_reducible assumption) | exact decide_eq_true (by omega) | exact decide_eq_false (by omega) | omega), (modN_lt _), (facN_lt32 0), (L8 twE_lt), (by first | with_reducible assumption | with_reducible exact L8 (by with_reducible assumption) | exact decide_eq_true (by omega) | exact decide_eq_false (by omega) | omega), (by first | with_reducible assumption | with_reducible exact L8 (by with_reducible assumption) | exact decide_eq_true (by omega) | exact decide_eq_false (by omega) | omega), rfl, rfl, rfl, (by first | with_reducible assumption | with_reducible exact L8 (by with_reducible assumption) | exact decide_eq_true (by omega) | exact decide_eq_false (by omega) | omega), (by first | with_reducible assumption | with_reducible exact L8 (by with_reducible assumption) | exact decide_eq_true (by omega) | exact decide_eq_false (by omega) | omega), (modN_lt _), (facN_lt32 0), (L8 twE_lt), (by first | with_reducible assumption | with_reducible exact L8 (by with_reducible assumption) | exact decide_eq_true (by omega) | exact decide_eq_false (by omega) | omega), (L8 (inN_lt (modN_pos _))), (L8 (inN_lt (modN_pos _))), (L8 (inN_lt (modN_pos _))), (L8 (mmN_lt (modN_pos _))), rfl, rfl, rfl, (by first | with_reducible assumption | exact eAdd_lt _ _ | exact eLift_lt _ _ | exact eTimes_lt _ _ | exact hxx), (modN_lt _), (facN_lt32 0), (L8 twE_lt), (by first | with_reducible assumption | with_reducible exact L8 (by with_reducible assumption) | exact decide_eq_true (by omega) | exact decide_eq_false (by omega) | omega), (by first | with_reducible assumption | with_reducible exact L8 (by with_reducible assumption) | exact decide_eq_true (by omega) | exact decide_eq_false (by omega) | omega), rfl, rfl, rfl, (by first | with_reducible assumption | with_reducible exact L8 (by with_reducible assumption) | exact decide_eq_true (by omega) | exact decide_eq_false (by omega) | omega), (by first | with_reducible assumption | with_reducible exact L8 (by with_reducible assumption) | exact decide_eq_true (by omega) | exact decide_eq_false (by omega) | omega), (modN_lt _), (facN_lt32 0), (L8 twE_lt), (by first | with_reducible assumption | with_reducible exact L8 (by with_reducible assumption) | exact decide_eq_true (by omega) | exact decide_eq_false (by omega) | omega), (L8 (inN_lt (modN_pos _))), (L8 (inN_lt (modN_pos _))), (L8 (inN_lt (modN_pos _))), (L8 (mmN_lt (modN_pos _))), rfl, rfl, rfl, (by first | with_reducible assumption | exact eAdd_lt _ _ | exact eLift_lt _ _ | exact eTimes_lt _ _ | exact hxx), (modN_lt _), (facN_lt32 0), (L8 twE_lt), (by first | with_reducible exact E4.ltx (eTimes_lt _ _) | with_reducible exact E4.lty (eTimes_lt _ _) | with_reducible exact E4.ltz (eTimes_lt _ _) | with_reducible exact E4.ltt (eTimes_lt _ _)), (by first | with_reducible exact E4.ltx (eTimes_lt _ _) | with_reducible exact E4.lty (eTimes_lt _ _) | with_reducible exact E4.ltz (eTimes_lt _ _) | with_reducible exact E4.ltt (eTimes_lt _ _)), (by first | with_reducible exact E4.ltx (eTimes_lt _ _) | with_reducible exact E4.lty (eTimes_lt _ _) | with_reducible exact E4.ltz (eTimes_lt _ _) | with_reducible exact E4.ltt (eTimes_lt _ _)), (by first | with_reducible exact E4.ltx (eTimes_lt _ _) | with_reducible exact E4.lty (eTimes_lt _ _) | with_reducible exact E4.ltz (eTimes_lt _ _) | with_reducible exact E4.ltt (eTimes_lt _ _)), (by first | with_reducible exact E4.ltx (eTimes_lt _ _) | with_reducible exact E4.lty (eTimes_lt _ _) | with_reducible exact E4.ltz (eTimes_lt _ _) | with_reducible exact E4.ltt (eTimes_lt _ _)), (by first | with_reducible exact E4.ltx (eTimes_lt _ _) | with_reducible exact E4.lty (eTimes_lt _ _) | with_reducible exact E4.ltz (eTimes_lt _ _) | with_reducible exact E4.ltt (eTimes_lt _ _)), (by first | with_reducible exact E4.ltx (eTimes_lt _ _) | with_reducible exact E4.lty (eTimes_lt _ _) | with_reducible exact E4.ltz (eTimes_lt _ _) | with_reducible exact E4.ltt (eTimes_lt _ _)), (by first | with_reducible exact E4.ltx (eTimes_lt _ _) | with_reducible exact E4.lty (eTimes_lt _ _) | with_reducible exact E4.ltz (eTimes_lt _ _) | with_reducible exact E4.ltt (eTimes_lt _ _)), rfl, rfl, rfl, (by first | with_reducible assumption | exact eAdd_lt _ _ | exact eLift_lt _ _ | exact eTimes_lt _ _ | exact hxx), (by first | with_reducible assumption | exact eAdd_lt _ _ | exact eLift_lt _ _ | exact eTimes_lt _ _ | exact hxx), (modN_lt _), (facN_lt32 0), (L8 twE_lt), (L8 (mmN_lt (modN_pos _))), (L8 (mmN_lt (modN_pos _))), (L8 (mmN_lt (modN_pos _))), (L8 (mmN_lt (modN_pos _))), rfl, rfl, rfl, (by first | with_reducible assumption | exact eAdd_lt _ _ | exact eLift_lt _ _ | exact eTimes_lt _ _ | exact hxx), trivial⟩ rfl rfl
    unfold dwn at hS
    rw [(both_eq b0 b5 hu hv).1, (both_eq b0 b5 hu hv).2] at hS
    exact hS
  · simp at h)
theorem nm_on {k px py : Nat} (h1 : onE px py = true) : onE (nmX k px py) (nmY k px py) = true := (nmul_on (on_of h1) k).e
theorem bo_on {k px py m qx qy : Nat} (h1 : onE px py = true) (h2 : onE qx qy = true) : onE (boX k px py m qx qy) (boY k px py m qx qy) = true := (gadd_on (nmul_on (on_of h1) k) (nmul_on (on_of h2) m)).e
theorem dN0 {x y : Nat} (h : onE x y = true) : x < 4294967296 ^ 8 ∧ y < 4294967296 ^ 8 := ⟨L8 (onE_lt h).1, L8 (onE_lt h).2⟩
end Go.Ev

