/- Numbers of limbs: what the functions on them come to -/
import Derived.Test.YtfcobjhnkghdjaaGreatPartD
namespace Go.Ev
open Go Go.Proofs Go.RowKit
def modN (k : Nat) : Nat :=
 match k with
 | 0 => 57896044618658097711785492504343953926634992332820282019728792003956564819949
 | 1 => 115792089210356248762697446949407573530086143415290314195533631308867097853951
 | 2 => 7237005577332262213973186563042994240857116359379907606001950938285454250989
 | _ => 115792089210356248762697446949407573529996955224135760342422259061068512044369
theorem modN_lt (k : Nat) : modN k < 4294967296 ^ 8 := by unfold modN; split <;> decide
theorem modN_pos (k : Nat) : 0 < modN k := by unfold modN; split <;> decide
def mulN (a b : Nat) : Nat := a * b
theorem mulN_lt {a b : Nat} (ha : a < 4294967296 ^ 8) (hb : b < 4294967296 ^ 8) : mulN a b < 4294967296 ^ 16 := by
 unfold mulN
 have h1 : a * b ≤ a * 4294967296 ^ 8 := Nat.mul_le_mul_left _ (Nat.le_of_lt hb)
 have h2 : a * 4294967296 ^ 8 < 4294967296 ^ 8 * 4294967296 ^ 8 := Nat.mul_lt_mul_of_pos_right ha (by decide)
 exact Nat.lt_of_le_of_lt h1 h2
def gMul (a b : Nat) : AV := .val (N16 (mulN a b))
def joinN (a b : Nat) : Nat := a + 4294967296 ^ 8 * b
def joinU (a b : Nat → Nat) (i : Nat) : Nat := match Nat.blt i 8 with | true => a i | false => b (i - 8)
theorem run47 (a b : Nat → Nat) : callR E0 1000 146 [C8 a, C8 b] [] = some ([], .val (C16 (joinU a b))) := by kernel_rfl
theorem joinU_conc (φ : Loc) (a b : Nat) (ha : a < 4294967296 ^ 8) (hb : b < 4294967296 ^ 8) : (C16 (joinU (limb a) (limb b))).conc φ = (N16 (joinN a b)).conc φ := by
 refine conc_C16v φ (fun i _ => ?_) ?_
 ·unfold joinU; split
  ·exact limb_lt _ _
  ·exact limb_lt _ _
 ·have e := valU_split (joinU (limb a) (limb b)) 8 8 0
  rw [Nat.zero_add] at e
  have e1 : valU 8 0 (joinU (limb a) (limb b)) = a := by
   rw [← valU_num a 8 ha]
   exact valU_congr 8 0 (fun i _ hi => by unfold joinU; rw [blt_t (by omega)]; rw [valU_num a 8 ha])
  have e2 : valU 8 8 (joinU (limb a) (limb b)) = b := by
   have h3 := valU_shift (joinU (limb a) (limb b)) 8 8 0
   rw [Nat.zero_add] at h3
   rw [← h3]
   have : valU 8 0 (fun i => joinU (limb a) (limb b) (i + 8)) = valU 8 0 (limb b) := valU_congr 8 0 (fun i _ hi => by unfold joinU; rw [blt_f (by omega), Nat.add_sub_cancel])
   rw [this, valU_num b 8 hb]
  rw [e1, e2] at e
  exact e
theorem spec47 (a b : Nat) (ha : a < 4294967296 ^ 8) (hb : b < 4294967296 ^ 8) : Spec 146 [N8 a, N8 b] (.val (N16 (joinN a b))) :=
 (spec_run envE0 rfl (run47 (limb a) (limb b)) trivial rfl rfl).congr (fun φ => by simp only [List.map_cons, List.map_nil, conc_C8]) (fun φ => joinU_conc φ a b ha hb)
def facS (low : Nat) : Nat → Nat
 | 0 => low
 | k + 1 => facS low k * ((2 + (4294967296 - low * facS low k % 4294967296 % 4294967296)) % 4294967296) % 4294967296
def facF (low : Nat) : Nat := (4294967296 - facS low 4 % 4294967296) % 4294967296
theorem run89 (low : Nat) : callR E0 1000 166 [u32 low] [] = some ([], .val (u32 (facF low))) := by kernel_rfl
def facN (k : Nat) : Nat := facF (limb (modN k) 0)
def rV (k : Nat) : V1 := .agg [.num 8 (modN k), .a (.u .u32 (facN k))]
noncomputable def E89 : Env := { E0 with fn := fun f vs => match f with | 166 => (match vs with | [.one (.u .u32 x)] => some ([], .val (u32 (facF x))) | _ => none) | _ => none }
theorem envE89 : EnvOK E89 := by
 refine ⟨mixed, ?_, fun _ _ _ _ _ h => by simp [E89, E0] at h, fun _ _ _ h => by simp [E89, E0] at h, fun _ _ _ _ _ _ h => by simp [E89, E0] at h⟩
 intro f vs ob r h ho
 simp only [E89] at h
 split at h
 ·split at h
  ·simp only [Option.some.injEq, Prod.mk.injEq] at h
   obtain ⟨rfl, rfl⟩ := h
   exact spec_run envE0 rfl (run89 _) trivial rfl rfl
  ·simp at h
 ·simp at h
theorem run39_0 : callR E0 1000 139 [.one (.i 0)] [] = some ([], .tup [C8 (limb (modN 0)), .one (.v (.bool true))]) := by kernel_rfl
theorem run21_0 : callR E0 1000 56 [.one (.i 0)] [] = some ([], .val (C8 (limb (modN 0)))) := by kernel_rfl
theorem run52_0 : callR E89 1000 126 [.one (.i 0)] [] = some ([], .val (.agg (cellsU 8 0 (limb (modN 0)) ++ [.a (.u .u32 (facN 0))]))) := by kernel_rfl
theorem run39_1 : callR E0 1000 139 [.one (.i 1)] [] = some ([], .tup [C8 (limb (modN 1)), .one (.v (.bool true))]) := by kernel_rfl
theorem run21_1 : callR E0 1000 56 [.one (.i 1)] [] = some ([], .val (C8 (limb (modN 1)))) := by kernel_rfl
theorem run52_1 : callR E89 1000 126 [.one (.i 1)] [] = some ([], .val (.agg (cellsU 8 0 (limb (modN 1)) ++ [.a (.u .u32 (facN 1))]))) := by kernel_rfl
theorem run39_2 : callR E0 1000 139 [.one (.i 2)] [] = some ([], .tup [C8 (limb (modN 2)), .one (.v (.bool true))]) := by kernel_rfl
theorem run21_2 : callR E0 1000 56 [.one (.i 2)] [] = some ([], .val (C8 (limb (modN 2)))) := by kernel_rfl
theorem run52_2 : callR E89 1000 126 [.one (.i 2)] [] = some ([], .val (.agg (cellsU 8 0 (limb (modN 2)) ++ [.a (.u .u32 (facN 2))]))) := by kernel_rfl
theorem run39_3 : callR E0 1000 139 [.one (.i 3)] [] = some ([], .tup [C8 (limb (modN 3)), .one (.v (.bool true))]) := by kernel_rfl
theorem run21_3 : callR E0 1000 56 [.one (.i 3)] [] = some ([], .val (C8 (limb (modN 3)))) := by kernel_rfl
theorem run52_3 : callR E89 1000 126 [.one (.i 3)] [] = some ([], .val (.agg (cellsU 8 0 (limb (modN 3)) ++ [.a (.u .u32 (facN 3))]))) := by kernel_rfl
end Go.Ev

namespace Go.Ev
open Go Go.Proofs Go.RowKit
def fnK (g : Nat → AV) (vs : List V1) : Option (List Prop × AV) :=
 match vs with
 | [.one (.i z)] => some ([0 ≤ z ∧ z < 4], g z.toNat)
 | _ => none
theorem fnK_ok {f : FuncId} {g : Nat → AV} (hg : ∀ k : Nat, k < 4 → Spec f [.one (.i (k : Int))] (g k)) {vs : List V1} {ob : List Prop} {r : AV} (h : fnK g vs = some (ob, r)) (ho : All ob) : Spec f vs r := by
 unfold fnK at h
 split at h
 ·rename_i z
  simp only [Option.some.injEq, Prod.mk.injEq] at h
  obtain ⟨rfl, rfl⟩ := h
  obtain ⟨n, rfl⟩ : ∃ n : Nat, z = (n : Int) := ⟨z.toNat, by have := ho.1; omega⟩
  exact hg n (by have := ho.1; omega)
 ·simp at h
def g39 (k : Nat) : AV := .tup [N8 (modN k), .one (.v (.bool true))]
def g21 (k : Nat) : AV := .val (N8 (modN k))
def g52 (k : Nat) : AV := .val (rV k)
theorem spec39 (k : Nat) (hk : k < 4) : Spec 139 [.one (.i (k : Int))] (g39 k) := by
 have h : Spec 139 [.one (.i (k : Int))] (.tup [C8 (limb (modN k)), .one (.v (.bool true))]) := by
  match k, hk with
  | 0, _ => exact spec_run envE0 rfl run39_0 trivial rfl rfl
  | 1, _ => exact spec_run envE0 rfl run39_1 trivial rfl rfl
  | 2, _ => exact spec_run envE0 rfl run39_2 trivial rfl rfl
  | 3, _ => exact spec_run envE0 rfl run39_3 trivial rfl rfl
  | n + 4, h => exact absurd h (by omega)
 exact h.congr (fun _ => rfl) (fun φ => by simp only [g39, AV.conc, List.map_cons, List.map_nil, conc_C8])
theorem spec21 (k : Nat) (hk : k < 4) : Spec 56 [.one (.i (k : Int))] (g21 k) := by
 have h : Spec 56 [.one (.i (k : Int))] (.val (C8 (limb (modN k)))) := by
  match k, hk with
  | 0, _ => exact spec_run envE0 rfl run21_0 trivial rfl rfl
  | 1, _ => exact spec_run envE0 rfl run21_1 trivial rfl rfl
  | 2, _ => exact spec_run envE0 rfl run21_2 trivial rfl rfl
  | 3, _ => exact spec_run envE0 rfl run21_3 trivial rfl rfl
  | n + 4, h => exact absurd h (by omega)
 exact h.congr (fun _ => rfl) (fun φ => by simp only [g21, AV.conc, conc_C8])
theorem spec52 (k : Nat) (hk : k < 4) : Spec 126 [.one (.i (k : Int))] (g52 k) := by
 have h : Spec 126 [.one (.i (k : Int))] (.val (.agg (cellsU 8 0 (limb (modN k)) ++ [.a (.u .u32 (facN k))]))) := by
  match k, hk with
  | 0, _ => exact spec_run envE89 rfl run52_0 trivial rfl rfl
  | 1, _ => exact spec_run envE89 rfl run52_1 trivial rfl rfl
  | 2, _ => exact spec_run envE89 rfl run52_2 trivial rfl rfl
  | 3, _ => exact spec_run envE89 rfl run52_3 trivial rfl rfl
  | n + 4, h => exact absurd h (by omega)
 exact h.congr (fun _ => rfl) (fun φ => by
  simp only [g52, rV, AV.conc, V1.conc, concs_append]
  rw [show ([.num 8 (modN k), .a (.u .u32 (facN k))] : List Piece) = [.num 8 (modN k)] ++ [.a (.u .u32 (facN k))] from rfl, concs_append, concs_num])
noncomputable def ER : Env := { E0 with fn := fun f vs => match f with | 167 => fnDiv gDiv vs | 56 => fnK g21 vs | 146 => fn2 (fun a b => .val (N16 (joinN a b))) vs | _ => none }
theorem envER : EnvOK ER := by
 refine ⟨mixed, ?_, fun _ _ _ _ _ h => by simp [ER, E0] at h, fun _ _ _ h => by simp [ER, E0] at h, fun _ _ _ _ _ _ h => by simp [ER, E0] at h⟩
 intro f vs ob r h ho
 simp only [ER] at h
 split at h
 ·exact fnDiv_ok spec69 h ho
 ·exact fnK_ok spec21 h ho
 ·exact fn2_ok spec47 h ho
 ·simp at h
theorem run48 (V m : Nat) : callR ER 1000 154 [N16 V, N8 m] [] = some ([V < 4294967296 ^ 16, 0 < m, m < 4294967296 ^ 8], .tup [N8 (remN V m), .one (.i 0)]) := by kernel_rfl
theorem spec48 (V m : Nat) (hV : V < 4294967296 ^ 16) (hR : m < 4294967296 ^ 8) (hm : 0 < m) : Spec 154 [N16 V, N8 m] (.tup [N8 (remN V m), .one (.i 0)]) :=
 spec_run envER rfl (run48 V m) ⟨hV, hm, hR, trivial⟩ rfl rfl
end Go.Ev

namespace Go.Ev
open Go Go.Proofs Go.RowKit
noncomputable def EP : Env := { E0 with
 fn := fun f vs => match f with
  | 159 => fn2 gMul vs
  | 154 => fnDiv (fun V m => .tup [N8 (remN V m), .one (.i 0)]) vs
  | 141 => fn2 gAdd vs
  | 142 => fn2 gSub vs
  | 143 => fn85 vs
  | _ => none
 S := fun f t => match f with
  | 107 => memN t [27, 30]
  | 163 => memN t [27]
  | _ => false }
theorem envEP : EnvOK EP := by
 refine ⟨mixed, ?_, fun _ _ _ _ _ h => by simp [EP, E0] at h, fun _ _ _ h => by simp [EP, E0] at h, fun _ _ _ _ _ _ h => by simp [EP, E0] at h⟩
 intro f vs ob r h ho
 simp only [EP] at h
 split at h
 ·exact fn2_ok (fun a b ha hb => spec92 a b ha hb) h ho
 ·exact fnDiv_ok spec48 h ho
 ·exact fn2_ok spec84 h ho
 ·exact fn2_ok spec78 h ho
 ·exact fn85_ok h ho
 ·simp at h
def rV0 (m f : Nat) : V1 := .agg [.num 8 m, .a (.u .u32 f)]
theorem run65a (m f a b : Nat) : callR EP 1000 107 [rV0 m f, N8 a, N8 b] [true] = some ([a < 4294967296 ^ 8, b < 4294967296 ^ 8, addN a b < 4294967296 ^ 8, m < 4294967296 ^ 8, decide (addK a b = 1) = true,
  addN a b < 4294967296 ^ 8, subN (addN a b) m < 4294967296 ^ 8], .val (N8 (subN (addN a b) m))) := by kernel_rfl
theorem run65b (m f a b : Nat) : callR EP 1000 107 [rV0 m f, N8 a, N8 b] [false, true] = some ([a < 4294967296 ^ 8, b < 4294967296 ^ 8, addN a b < 4294967296 ^ 8, m < 4294967296 ^ 8, decide (addK a b = 1) = false, decide (subK (addN a b) m = 0) = true,
  addN a b < 4294967296 ^ 8, subN (addN a b) m < 4294967296 ^ 8], .val (N8 (subN (addN a b) m))) := by kernel_rfl
theorem run65n (m f a b : Nat) : callR EP 1000 107 [rV0 m f, N8 a, N8 b] [false, false] = some ([a < 4294967296 ^ 8, b < 4294967296 ^ 8, addN a b < 4294967296 ^ 8, m < 4294967296 ^ 8, decide (addK a b = 1) = false, decide (subK (addN a b) m = 0) = false,
  addN a b < 4294967296 ^ 8, subN (addN a b) m < 4294967296 ^ 8], .val (N8 (addN a b))) := by kernel_rfl
theorem run68a (m f a b : Nat) : callR EP 1000 163 [rV0 m f, N8 a, N8 b] [true] = some ([a < 4294967296 ^ 8, b < 4294967296 ^ 8, subN a b < 4294967296 ^ 8, m < 4294967296 ^ 8, decide (subK a b = 1) = true,
  subN a b < 4294967296 ^ 8, addN (subN a b) m < 4294967296 ^ 8], .val (N8 (addN (subN a b) m))) := by kernel_rfl
theorem run68n (m f a b : Nat) : callR EP 1000 163 [rV0 m f, N8 a, N8 b] [false] = some ([a < 4294967296 ^ 8, b < 4294967296 ^ 8, subN a b < 4294967296 ^ 8, m < 4294967296 ^ 8, decide (subK a b = 1) = false,
  subN a b < 4294967296 ^ 8, addN (subN a b) m < 4294967296 ^ 8], .val (N8 (subN a b))) := by kernel_rfl
def mulM (m a b : Nat) : Nat := a * b % m
def addM (m a b : Nat) : Nat := (a + b) % m
def subM (m a b : Nat) : Nat := (a + m - b) % m
theorem addN_lt (a b : Nat) : addN a b < 4294967296 ^ 8 := Nat.mod_lt _ (by decide)
theorem subN_lt (a b : Nat) : subN a b < 4294967296 ^ 8 := Nat.mod_lt _ (by decide)
def SpecR (f : FuncId) (g : Nat → Nat → Nat → Nat) : Prop := ∀ m q a b, m < 4294967296 ^ 8 → a < m → b < m → Spec f [rV0 m q, N8 a, N8 b] (.val (N8 (g m a b)))
theorem spec65 : SpecR 107 addM := by
 intro m q a b hm ha hb
 have h1 : a < 4294967296 ^ 8 := by omega
 have h2 : b < 4294967296 ^ 8 := by omega
 by_cases hK : addK a b = 1
 ·have e : subN (addN a b) m = addM m a b := by
   unfold addK at hK
   unfold subN addN addM
   rw [Nat.mod_eq_sub_mod (show a + b ≥ m by omega), Nat.mod_eq_of_lt (show a + b - m < m by omega)]
   omega
  have := spec_run envEP rfl (run65a m q a b) ⟨h1, h2, addN_lt _ _, hm, decide_eq_true hK, addN_lt _ _, subN_lt _ _, trivial⟩ rfl rfl
  rwa [e] at this
 ·have hs : a + b < 4294967296 ^ 8 := by unfold addK at hK; omega
  have ha2 : addN a b = a + b := Nat.mod_eq_of_lt hs
  by_cases hc : a + b < m
  ·have e : addN a b = addM m a b := by unfold addM; rw [ha2, Nat.mod_eq_of_lt hc]
   have hk : ¬ subK (addN a b) m = 0 := by rw [ha2]; unfold subK; rw [if_pos hc]; omega
   have := spec_run envEP rfl (run65n m q a b) ⟨h1, h2, addN_lt _ _, hm, decide_eq_false hK, decide_eq_false hk, addN_lt _ _, subN_lt _ _, trivial⟩ rfl rfl
   rwa [e] at this
  ·have e : subN (addN a b) m = addM m a b := by
    unfold addM
    rw [ha2, Nat.mod_eq_sub_mod (show a + b ≥ m by omega), Nat.mod_eq_of_lt (show a + b - m < m by omega)]
    unfold subN; omega
   have hk : subK (addN a b) m = 0 := by rw [ha2]; unfold subK; rw [if_neg hc]
   have := spec_run envEP rfl (run65b m q a b) ⟨h1, h2, addN_lt _ _, hm, decide_eq_false hK, decide_eq_true hk, addN_lt _ _, subN_lt _ _, trivial⟩ rfl rfl
   rwa [e] at this
theorem spec68 : SpecR 163 subM := by
 intro m q a b hm ha hb
 have h1 : a < 4294967296 ^ 8 := by omega
 have h2 : b < 4294967296 ^ 8 := by omega
 by_cases hc : a < b
 ·have e : addN (subN a b) m = subM m a b := by
   unfold addN subN subM
   rw [Nat.mod_eq_of_lt (show a + m - b < m by omega)]; omega
  have hk : subK a b = 1 := by unfold subK; rw [if_pos hc]
  have := spec_run envEP rfl (run68a m q a b) ⟨h1, h2, subN_lt _ _, hm, decide_eq_true hk, subN_lt _ _, addN_lt _ _, trivial⟩ rfl rfl
  rwa [e] at this
 ·have e : subN a b = subM m a b := by
   unfold subN subM
   rw [Nat.mod_eq_sub_mod (show a + m - b ≥ m by omega), Nat.mod_eq_of_lt (show a + m - b - m < m by omega)]; omega
  have hk : ¬ subK a b = 1 := by unfold subK; rw [if_neg hc]; omega
  have := spec_run envEP rfl (run68n m q a b) ⟨h1, h2, subN_lt _ _, hm, decide_eq_false hk, subN_lt _ _, addN_lt _ _, trivial⟩ rfl rfl
  rwa [e] at this
def fnR (g : Nat → Nat → Nat → Nat) (vs : List V1) : Option (List Prop × AV) :=
 match vs with
 | [.agg [.num 8 m, .a (.u .u32 _)], x, y] => match numP 8 x, numP 8 y with
  | some (o, a), some (o', b) => some ((m < 4294967296 ^ 8) :: (a < m) :: (b < m) :: (o ++ o'), .val (N8 (g m a b)))
  | _, _ => none
 | _ => none
theorem fnR_ok {f : FuncId} {g : Nat → Nat → Nat → Nat} (hg : SpecR f g) {vs : List V1} {ob : List Prop} {r : AV} (h : fnR g vs = some (ob, r)) (ho : All ob) : Spec f vs r := by
 unfold fnR at h
 split at h
 ·rename_i m q x y
  split at h
  ·rename_i o a o' b hx hy
   simp only [Option.some.injEq, Prod.mk.injEq] at h
   obtain ⟨rfl, rfl⟩ := h
   obtain ⟨h0, h1, h2, h3⟩ := ho
   rw [All_append] at h3
   obtain ⟨_, h4⟩ := numP_spec hx h3.1
   obtain ⟨_, h5⟩ := numP_spec hy h3.2
   exact (hg m q a b h0 h1 h2).congr (fun φ => by simp only [List.map_cons, List.map_nil]; rw [← h4 φ, ← h5 φ]; rfl) (fun _ => rfl)
  ·simp at h
 ·simp at h
def kV (k : Nat) : V1 := .one (.i (k : Int))
end Go.Ev

namespace Go.Ev
open Go Go.Proofs Go.RowKit
end Go.Ev

