/- Numbers of limbs: what the functions on them come to -/
import Derived.Test.YtjiiaeljpllahaaGreatPartG
import Derived.Test.YtjiiaeljpllahaaGreatPartF
namespace Go.Ev
open Go Go.Proofs Go.RowKit

theorem good_fac {k : Nat} (hk : k < 4) : goodF (modN k) (facN k) := by
  match k, hk with
  | 0, _ => unfold goodF; decide +kernel
  | 1, _ => unfold goodF; decide +kernel
  | 2, _ => unfold goodF; decide +kernel
  | 3, _ => unfold goodF; decide +kernel
  | n + 4, h => exact absurd h (by omega)

theorem in_back {m q a : Nat} (hR : m < 4294967296 ^ 8) (hq : goodF m q) : mredN (inN m a) m = a % m := by
  unfold mredN inN remN joinN
  rw [Nat.zero_add]
  have h1 : Cg m (4294967296 ^ 8 * a % m * rinv m) (4294967296 ^ 8 * a * rinv m) := (Cg.mod m _).mul (Cg.refl _ _)
  have h2 : 4294967296 ^ 8 * a * rinv m = a * (4294967296 ^ 8 * rinv m) := by
    generalize (4294967296 : Nat) ^ 8 = R
    ac_rfl
  have h3 : Cg m (a * (4294967296 ^ 8 * rinv m)) (a * 1) := (Cg.refl _ _).mul (rinv_spec hR hq)
  rw [Nat.mul_one] at h3
  exact h1.trans ((Cg.of_eq h2).trans h3)
noncomputable def EFp : Env := { E0 with
  fn := fun f vs => match f with
    | 135 => fnK g39 vs
    | 78 => fnK g52 vs
    | 138 => fn2 gCmp vs
    | 81 => fn55 vs
    | 142 => fnRp mpowN vs
    | 79 => fnR1 outN vs
    | 141 => fn2 gSub vs
    | _ => none
  S := fun f t => match f with
    | 77 => memN t [17]
    | _ => false }
theorem envEFp : EnvOK EFp := by
  refine ⟨mixed, ?_, fun _ _ _ _ _ h => by simp [EFp, E0] at h, fun _ _ _ h => by simp [EFp, E0] at h, fun _ _ _ _ _ _ h => by simp [EFp, E0] at h⟩
  intro f vs ob r h ho
  simp only [EFp] at h
  split at h
  · exact fnK_ok spec39 h ho
  · exact fnK_ok spec52 h ho
  · exact fn2_ok spec70 h ho
  · exact fn55_ok h ho
  · exact fnRp_ok spec54 h ho
  · exact fnR1_ok spec53 h ho
  · exact fn2_ok spec78 h ho
  · simp at h
theorem run56 (m q a : Nat) : callR EFp 1000 80 [rV0 m q, N8 a] [] = some ([m < 4294967296 ^ 8, 2 < 4294967296, 0 < 4294967296, 0 < 4294967296, 0 < 4294967296, 0 < 4294967296, 0 < 4294967296, 0 < 4294967296, 0 < 4294967296,
    m < 4294967296 ^ 8, a < m, goodF m q, a < 4294967296 ^ 8, subN m 2 < 4294967296 ^ 8], .val (N8 (mpowN m a (subN m 2)))) := by kernel_rfl
noncomputable def minvN (m a : Nat) : Nat := mpowN m a (subN m 2)
theorem spec56 : SpecR1 80 minvN := by
  intro m q a hm ha hq
  have h0 : (0 : Nat) < 4294967296 := by decide
  have h2 : (2 : Nat) < 4294967296 := by decide
  exact spec_run envEFp rfl (run56 m q a) ⟨hm, h2, h0, h0, h0, h0, h0, h0, h0, hm, ha, hq, by omega, subN_lt _ _, trivial⟩ rfl rfl
theorem modN_two (k : Nat) : 2 < modN k := by unfold modN; split <;> decide
def hfD (a : Nat → Nat) (i : Nat) : Nat :=
  match Nat.blt i 7 with
  | true => a i / 2 % 4294967296 ||| a (i + 1) * 2147483648 % 4294967296 % 4294967296
  | false => a i / 2
def oddB (a : Nat → Nat) : Bool := decide (a 0 % 4294967296 &&& 1 % 4294967296 = 1)
theorem run49 (a : Nat → Nat) : callR E0 1000 220 [C8 a] [] = some ([], .tup [C8 (hfD a), .one (.v (.bool (oddB a)))]) := by kernel_rfl
def hfC (a : Nat → Nat) (i : Nat) : Nat := match Nat.blt i 8 with | true => a i % 2 | false => 0
theorem or_top (x c : Nat) (hx : x < 2147483648) : x ||| c * 2147483648 = x + c * 2147483648 := by
  have := Nat.two_pow_add_eq_or_of_lt (i := 31) (b := x) hx c
  rw [show (2 : Nat) ^ 31 = 2147483648 from rfl] at this
  rw [Nat.or_comm, Nat.mul_comm, ← this, Nat.add_comm]
theorem half_sum {a : Nat → Nat} (ha : ∀ i, a i < 4294967296) : 2 * valU 8 0 (hfD a) + a 0 % 2 = valU 8 0 a ∧ ∀ i, hfD a i < 4294967296 := by
  have d : ∀ i, i < 7 → hfD a i = a i / 2 + (a (i + 1) % 2) * 2147483648 := by
    intro i hi
    unfold hfD
    rw [blt_t hi]
    simp only
    have h1 := ha i
    have h2 := ha (i + 1)
    rw [show a i / 2 % 4294967296 = a i / 2 by omega, show a (i + 1) * 2147483648 % 4294967296 % 4294967296 = (a (i + 1) % 2) * 2147483648 by omega]
    exact or_top _ _ (by omega)
  have d7 : hfD a 7 = a 7 / 2 := rfl
  refine ⟨?_, ?_⟩
  · have h := carry_sum (d := a) (t := fun i => 2 * hfD a i) (c := hfC a) 8 (fun i hi => by
      unfold hfC
      rw [blt_t hi]
      by_cases h7 : i = 7
      · subst h7
        rw [blt_f (show ¬ 7 + 1 < 8 by omega)]
        simp only [d7]
        omega
      · rw [blt_t (show i + 1 < 8 by omega)]
        simp only [d i (by omega)]
        have h2 := ha (i + 1)
        omega)
    rw [valU_mul, show hfC a 8 = 0 from rfl, show hfC a 0 = a 0 % 2 from rfl] at h
    omega
  · intro i
    unfold hfD
    split
    · exact or_lt32 (Nat.mod_lt _ (by decide)) (Nat.mod_lt _ (by decide))
    · have := ha i; omega
def gHalf (a : Nat) : AV := .tup [N8 (a / 2), .one (.v (.bool (oddB (limb a))))]
theorem spec49 (a : Nat) (ha : a < 4294967296 ^ 8) : Spec 220 [N8 a] (gHalf a) := by
  obtain ⟨h1, h2⟩ := half_sum (limb_lt a)
  rw [valU_num a 8 ha] at h1
  refine (spec_run envE0 rfl (run49 (limb a)) trivial rfl rfl).congr (fun φ => by simp only [List.map_cons, List.map_nil, conc_C8]) (fun φ => ?_)
  simp only [gHalf, AV.conc, List.map_cons, List.map_nil]
  rw [conc_C8v φ (u := hfD (limb a)) (fun i _ => h2 i) (show valU 8 0 (hfD (limb a)) = a / 2 by omega)]

def adS (a b : Nat → Nat) : Nat → Nat
  | 0 => 0
  | i + 1 => ((adS a b i + a i % 18446744073709551616) % 18446744073709551616 + b i % 18446744073709551616) % 18446744073709551616 / 4294967296
def adD (a b : Nat → Nat) (i : Nat) : Nat := ((adS a b i + a i % 18446744073709551616) % 18446744073709551616 + b i % 18446744073709551616) % 18446744073709551616 % 4294967296
theorem run50 (a b : Nat → Nat) : callR E0 1000 101 [C8 a, C8 b] [] = some ([], .tup [C8 (adD a b), u32 (adS a b 8 % 4294967296)]) := by kernel_rfl
theorem adS_eq {a b : Nat → Nat} (ha : ∀ i, a i < 4294967296) (hb : ∀ i, b i < 4294967296) : ∀ i, adS a b i = addS a b i ∧ adS a b i ≤ 1
  | 0 => by simp [adS, addS]
  | i + 1 => by
    obtain ⟨h1, h2⟩ := adS_eq ha hb i
    have := ha i
    have := hb i
    simp only [adS, addS]
    omega
theorem spec50 (a b : Nat) (ha : a < 4294967296 ^ 8) (hb : b < 4294967296 ^ 8) : Spec 101 [N8 a, N8 b] (gAdd a b) := by
  have h := spec_run envE0 rfl (run50 (limb a) (limb b)) trivial rfl rfl
  obtain ⟨h1, h2⟩ := add_spec a b ha hb
  obtain ⟨h4, h3⟩ := adS_eq (limb_lt a) (limb_lt b) 8
  have h5 : valU 8 0 (adD (limb a) (limb b)) = (a + b) % 4294967296 ^ 8 := by
    rw [← h1]
    refine valU_congr 8 0 (fun i _ _ => ?_)
    have e := (adS_eq (limb_lt a) (limb_lt b) i).1
    have e2 := (adS_eq (limb_lt a) (limb_lt b) i).2
    have e3 := limb_lt a i
    have e4 := limb_lt b i
    simp only [adD, addD, ← e]
    omega
  refine h.congr (fun φ => by simp only [List.map_cons, List.map_nil, conc_C8]) (fun φ => ?_)
  simp only [gAdd, addN, addK, AV.conc, List.map_cons, List.map_nil]
  rw [conc_C8v φ (u := adD (limb a) (limb b)) (fun i _ => Nat.mod_lt _ (by decide)) h5, show adS (limb a) (limb b) 8 % 4294967296 = adS (limb a) (limb b) 8 from Nat.mod_eq_of_lt (by omega), h4, h2]

end Go.Ev

