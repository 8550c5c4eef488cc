/- Numbers of limbs: what the functions on them come to -/
import Derived.Test.YtfcobjhnkghdjaaGreatPartG
import Derived.Test.YtfcobjhnkghdjaaGreatPartF
namespace Go.Ev
open Go Go.Proofs Go.RowKit
theorem good_fac {k : Nat} (hk : k < 4) : goodF (modN k) (facN k) := by
 match k, hk with
 | 0, _ => unfold goodF; decide +kernel
 | 1, _ => unfold goodF; decide +kernel
 | 2, _ => unfold goodF; decide +kernel
 | 3, _ => unfold goodF; decide +kernel
 | n + 4, h => exact absurd h (by omega)
theorem in_back {m q a : Nat} (hR : m < 4294967296 ^ 8) (hq : goodF m q) : mredN (inN m a) m = a % m := by
 unfold mredN inN remN joinN
 rw [Nat.zero_add]
 have h1 : Cg m (4294967296 ^ 8 * a % m * rinv m) (4294967296 ^ 8 * a * rinv m) := (Cg.mod m _).mul (Cg.refl _ _)
 have h2 : 4294967296 ^ 8 * a * rinv m = a * (4294967296 ^ 8 * rinv m) := by
  generalize (4294967296 : Nat) ^ 8 = R
  ac_rfl
 have h3 : Cg m (a * (4294967296 ^ 8 * rinv m)) (a * 1) := (Cg.refl _ _).mul (rinv_spec hR hq)
 rw [Nat.mul_one] at h3
 exact h1.trans ((Cg.of_eq h2).trans h3)
noncomputable def EFp : Env := { E0 with
 fn := fun f vs => match f with
  | 139 => fnK g39 vs
  | 126 => fnK g52 vs
  | 140 => fn2 gCmp vs
  | 127 => fn55 vs
  | 156 => fnRp mpowN vs
  | 130 => fnR1 outN vs
  | 142 => fn2 gSub vs
  | _ => none
 S := fun f t => match f with
  | 105 => memN t [17]
  | _ => false }
theorem envEFp : EnvOK EFp := by
 refine ⟨mixed, ?_, fun _ _ _ _ _ h => by simp [EFp, E0] at h, fun _ _ _ h => by simp [EFp, E0] at h, fun _ _ _ _ _ _ h => by simp [EFp, E0] at h⟩
 intro f vs ob r h ho
 simp only [EFp] at h
 split at h
 ·exact fnK_ok spec39 h ho
 ·exact fnK_ok spec52 h ho
 ·exact fn2_ok spec70 h ho
 ·exact fn55_ok h ho
 ·exact fnRp_ok spec54 h ho
 ·exact fnR1_ok spec53 h ho
 ·exact fn2_ok spec78 h ho
 ·simp at h
theorem run56 (m q a : Nat) : callR EFp 1000 129 [rV0 m q, N8 a] [] = some ([m < 4294967296 ^ 8, 2 < 4294967296, 0 < 4294967296, 0 < 4294967296, 0 < 4294967296, 0 < 4294967296, 0 < 4294967296, 0 < 4294967296, 0 < 4294967296,
  m < 4294967296 ^ 8, a < m, goodF m q, a < 4294967296 ^ 8, subN m 2 < 4294967296 ^ 8], .val (N8 (mpowN m a (subN m 2)))) := by kernel_rfl
noncomputable def minvN (m a : Nat) : Nat := mpowN m a (subN m 2)
theorem spec56 : SpecR1 129 minvN := by
 intro m q a hm ha hq
 have h0 : (0 : Nat) < 4294967296 := by decide
 have h2 : (2 : Nat) < 4294967296 := by decide
 exact spec_run envEFp rfl (run56 m q a) ⟨hm, h2, h0, h0, h0, h0, h0, h0, h0, hm, ha, hq, by omega, subN_lt _ _, trivial⟩ rfl rfl
theorem modN_two (k : Nat) : 2 < modN k := by unfold modN; split <;> decide
def adS (a b : Nat → Nat) : Nat → Nat
 | 0 => 0
 | i + 1 => ((adS a b i + a i % 18446744073709551616) % 18446744073709551616 + b i % 18446744073709551616) % 18446744073709551616 / 4294967296
def adD (a b : Nat → Nat) (i : Nat) : Nat := ((adS a b i + a i % 18446744073709551616) % 18446744073709551616 + b i % 18446744073709551616) % 18446744073709551616 % 4294967296
theorem run50 (a b : Nat → Nat) : callR E0 1000 58 [C8 a, C8 b] [] = some ([], .tup [C8 (adD a b), u32 (adS a b 8 % 4294967296)]) := by kernel_rfl
theorem adS_eq {a b : Nat → Nat} (ha : ∀ i, a i < 4294967296) (hb : ∀ i, b i < 4294967296) : ∀ i, adS a b i = addS a b i ∧ adS a b i ≤ 1
 | 0 => by simp [adS, addS]
 | i + 1 => by
  obtain ⟨h1, h2⟩ := adS_eq ha hb i
  have := ha i
  have := hb i
  simp only [adS, addS]
  omega
theorem spec50 (a b : Nat) (ha : a < 4294967296 ^ 8) (hb : b < 4294967296 ^ 8) : Spec 58 [N8 a, N8 b] (gAdd a b) := by
 have h := spec_run envE0 rfl (run50 (limb a) (limb b)) trivial rfl rfl
 obtain ⟨h1, h2⟩ := add_spec a b ha hb
 obtain ⟨h4, h3⟩ := adS_eq (limb_lt a) (limb_lt b) 8
 have h5 : valU 8 0 (adD (limb a) (limb b)) = (a + b) % 4294967296 ^ 8 := by
  rw [← h1]
  refine valU_congr 8 0 (fun i _ _ => ?_)
  have e := (adS_eq (limb_lt a) (limb_lt b) i).1
  have e2 := (adS_eq (limb_lt a) (limb_lt b) i).2
  have e3 := limb_lt a i
  have e4 := limb_lt b i
  simp only [adD, addD, ← e]
  omega
 refine h.congr (fun φ => by simp only [List.map_cons, List.map_nil, conc_C8]) (fun φ => ?_)
 simp only [gAdd, addN, addK, AV.conc, List.map_cons, List.map_nil]
 rw [conc_C8v φ (u := adD (limb a) (limb b)) (fun i _ => Nat.mod_lt _ (by decide)) h5, show adS (limb a) (limb b) 8 % 4294967296 = adS (limb a) (limb b) 8 from Nat.mod_eq_of_lt (by omega), h4, h2]
end Go.Ev

