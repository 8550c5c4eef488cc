/- Bytes of numbers and of points -/
import Derived.Test.YtgkelmendkdocaaGreatPartL
import Derived.Test.YtgkelmendkdocaaGreatPartC
namespace Go.Ev
open Go Go.Proofs Go.RowKit
def fLit : List V1 → Option (List Prop × AV) := fn1 fun a => .val (sS (strOf (leB 32 a)))
theorem ctLit110 : CTok ⟨33, fLit⟩ := fun _ _ _ h ho => fn1_ok (fun a _ => spec110s a) h ho
theorem ctLit83 : CTok ⟨22, fLit⟩ := fun _ _ _ h ho => fn1_ok (fun a _ => spec83s a) h ho
noncomputable def EOf : Env := mkE [⟨33, fLit⟩, ⟨22, fLit⟩] noS
theorem envEOf : EnvOK EOf := envMk (L := [⟨33, fLit⟩, ⟨22, fLit⟩]) ⟨ctLit110, ctLit83, trivial⟩ _
def put7 (y t : Nat) : Nat := (y % 4294967296 + 4294967296 * (y / 4294967296 % 4294967296 + 4294967296 * (y / 4294967296 / 4294967296 % 4294967296 + 4294967296 * (y / 4294967296 / 4294967296 / 4294967296 % 4294967296 + 4294967296 * (y / 4294967296 / 4294967296 / 4294967296 / 4294967296 % 4294967296 + 4294967296 * (y / 4294967296 / 4294967296 / 4294967296 / 4294967296 / 4294967296 % 4294967296 + 4294967296 * (y / 4294967296 / 4294967296 / 4294967296 / 4294967296 / 4294967296 / 4294967296 % 4294967296 + 4294967296 * (t + 4294967296 * 0))))))))
def top7 (y : Nat) : Nat := y / 4294967296 / 4294967296 / 4294967296 / 4294967296 / 4294967296 / 4294967296 / 4294967296 % 4294967296
theorem put7_eq (y t : Nat) : put7 y t = y % 26959946667150639794667015087019630673637144422540572481103610249216 + 26959946667150639794667015087019630673637144422540572481103610249216 * t := by
  have hv : valU 7 0 (limb y) = y % 26959946667150639794667015087019630673637144422540572481103610249216 := by
    rw [valU_limb, Nat.pow_zero, Nat.div_one]
  have e : put7 y t = valU 7 0 (limb y) + 26959946667150639794667015087019630673637144422540572481103610249216 * t := by
    unfold put7
    simp only [Nat.div_div_eq_div_mul, valU, limb, Nat.zero_add, Nat.reduceAdd, Nat.pow_zero, Nat.div_one, Nat.pow_one, Nat.reducePow, Nat.reduceMul]
    generalize y / 6277101735386680763835789423207666416102355444464034512896 % 4294967296 = d6
    generalize y / 1461501637330902918203684832716283019655932542976 % 4294967296 = d5
    generalize y / 340282366920938463463374607431768211456 % 4294967296 = d4
    generalize y / 79228162514264337593543950336 % 4294967296 = d3
    generalize y / 18446744073709551616 % 4294967296 = d2
    generalize y / 4294967296 % 4294967296 = d1
    generalize y % 4294967296 = d0
    omega
  rw [e, hv]
theorem top7_eq (y : Nat) (h : y < 4294967296 ^ 8) : top7 y = y / 26959946667150639794667015087019630673637144422540572481103610249216 ∧ y = y % 26959946667150639794667015087019630673637144422540572481103610249216 + 26959946667150639794667015087019630673637144422540572481103610249216 * top7 y := by
  have hq : y / 26959946667150639794667015087019630673637144422540572481103610249216 = y / 4294967296 / 4294967296 / 4294967296 / 4294967296 / 4294967296 / 4294967296 / 4294967296 := by simp only [Nat.div_div_eq_div_mul, Nat.reduceMul]
  have hm := Nat.div_add_mod y 26959946667150639794667015087019630673637144422540572481103610249216
  have hlt : y / 26959946667150639794667015087019630673637144422540572481103610249216 < 4294967296 := Nat.div_lt_of_lt_mul (by clear hq; omega)
  have : top7 y = y / 26959946667150639794667015087019630673637144422540572481103610249216 := by unfold top7; rw [← hq, Nat.mod_eq_of_lt hlt]
  clear hq
  exact ⟨this, by rw [this]; omega⟩
def tpk (x y : Nat) : Nat := top7 y % 4294967296 ||| (x % 4294967296 % 4294967296 &&& 1 % 4294967296) * 2 ^ 31 % 4294967296 % 4294967296
def packB (x y : Nat) : ByteArray := strOf (leB 32 (y + 57896044618658097711785492504343953926634992332820282019728792003956564819968 * (x % 2)))
theorem and1W (x : Nat) : x % 4294967296 % 4294967296 &&& 1 % 4294967296 = x % 2 := by
  rw [show (1 % 4294967296 : Nat) = 2 ^ 1 - 1 from rfl, Nat.and_two_pow_sub_one_eq_mod]; omega
theorem tpk_eq (x y : Nat) (h : y < 57896044618658097711785492504343953926634992332820282019728792003956564819968) : put7 y (tpk x y) = y + 57896044618658097711785492504343953926634992332820282019728792003956564819968 * (x % 2) := by
  obtain ⟨h1, h2⟩ := top7_eq y (by omega)
  have hlt : top7 y < 2 ^ 31 := by omega
  have hx : x % 2 < 2 := Nat.mod_lt _ (by decide)
  have : tpk x y = top7 y + x % 2 * 2 ^ 31 := by
    unfold tpk
    rw [and1W, Nat.mod_eq_of_lt (show top7 y < 4294967296 by omega), Nat.mod_eq_of_lt (show x % 2 * 2 ^ 31 < 4294967296 by omega), Nat.mod_eq_of_lt (show x % 2 * 2 ^ 31 < 4294967296 by omega)]
    exact orSh (k := 31) _ hlt
  rw [put7_eq, this]
  omega
theorem tpk_lt (x y : Nat) : tpk x y < 4294967296 := or_lt32 (Nat.mod_lt _ (by decide)) (Nat.mod_lt _ (by decide))
theorem mdW (x : Nat) : x % 4294967296 < 4294967296 := Nat.mod_lt _ (by decide)
theorem r82 (x : Nat) (y : Nat) : callR EOf 1000 49 [P2 x y] [] =
    some ([y % 4294967296 < 4294967296, y / 4294967296 % 4294967296 < 4294967296, y / 4294967296 / 4294967296 % 4294967296 < 4294967296, y / 4294967296 / 4294967296 / 4294967296 % 4294967296 < 4294967296, y / 4294967296 / 4294967296 / 4294967296 / 4294967296 % 4294967296 < 4294967296, y / 4294967296 / 4294967296 / 4294967296 / 4294967296 / 4294967296 % 4294967296 < 4294967296, y / 4294967296 / 4294967296 / 4294967296 / 4294967296 / 4294967296 / 4294967296 % 4294967296 < 4294967296, y / 4294967296 / 4294967296 / 4294967296 / 4294967296 / 4294967296 / 4294967296 / 4294967296 % 4294967296 % 4294967296 ||| (x % 4294967296 % 4294967296 &&& 1 % 4294967296) * 2147483648 % 4294967296 % 4294967296 < 4294967296], .val (sS (strOf (leB 32 (put7 y (tpk x y)))))) := by kernel_rfl
theorem spec82s (x y : Nat) (h : y < 57896044618658097711785492504343953926634992332820282019728792003956564819968) : Spec 49 [P2 x y] (.val (sS (packB x y))) := by
  have := spec_run envEOf rfl (r82 x y) ⟨mdW _, mdW _, mdW _, mdW _, mdW _, mdW _, mdW _, tpk_lt x y, trivial⟩ rfl rfl
  rw [tpk_eq x y h] at this
  exact this
def byU (n : Nat) : Nat := (UInt8.ofNat n).toNat
def pkL (x y : Nat) : List Nat := (List.range 31).map (fun j => byU (y / 256 ^ j % 256)) ++ [byU (y / 256 ^ 31 % 256) % 256 ||| (x % 4294967296 % 4294967296 &&& 1 % 4294967296) % 256 * 2 ^ 7 % 256 % 256]
theorem r48 (x y : Nat) : callR EOf 1000 25 [P2 x y] [] = some ([y < 4294967296 ^ 8], .val (sS (strOf (pkL x y)))) := by kernel_rfl
theorem byU_eq (n : Nat) : byU (n % 256) = n % 256 := by unfold byU; simp
theorem pkL_eq (x y : Nat) (h : y < 57896044618658097711785492504343953926634992332820282019728792003956564819968) : pkL x y = leB 32 (y + 57896044618658097711785492504343953926634992332820282019728792003956564819968 * (x % 2)) := by
  have hx : x % 2 < 2 := Nat.mod_lt _ (by decide)
  unfold pkL leB
  have e31 : List.range 32 = List.range 31 ++ [31] := rfl
  rw [e31, List.map_append]
  congr 1
  · refine List.map_congr_left fun j hj => ?_
    have hj : j < 31 := by simpa using hj
    rw [byU_eq]
    have e : 57896044618658097711785492504343953926634992332820282019728792003956564819968 * (x % 2) = 256 ^ j * (256 * (256 ^ (30 - j) * (128 * (x % 2)))) := by
      rw [← Nat.mul_assoc, ← Nat.mul_assoc, ← Nat.pow_succ, ← Nat.pow_add, show j + 1 + (30 - j) = 31 by omega, ← Nat.mul_assoc]
    rw [e, Nat.add_mul_div_left _ _ (Nat.pow_pos (by decide))]
    omega
  · simp only [List.map_cons, List.map_nil, List.cons.injEq, and_true]
    rw [byU_eq, and1W]
    have hz : y / 256 ^ 31 < 128 := Nat.div_lt_of_lt_mul (by omega)
    have e : 57896044618658097711785492504343953926634992332820282019728792003956564819968 * (x % 2) = 256 ^ 31 * (128 * (x % 2)) := by rw [← Nat.mul_assoc]
    rw [e, Nat.add_mul_div_left _ _ (by decide)]
    generalize y / 256 ^ 31 = z at *
    rw [Nat.mod_eq_of_lt (show z % 256 < 256 by omega), Nat.mod_eq_of_lt (show z < 256 by omega), Nat.mod_eq_of_lt (show x % 2 < 256 by omega), Nat.mod_eq_of_lt (show x % 2 * 2 ^ 7 < 256 by omega), Nat.mod_eq_of_lt (show x % 2 * 2 ^ 7 < 256 by omega)]
    rw [orSh (k := 7) (x % 2) (show z < 2 ^ 7 by omega)]
    omega
theorem spec48s (x y : Nat) (h : y < 57896044618658097711785492504343953926634992332820282019728792003956564819968) : Spec 25 [P2 x y] (.val (sS (packB x y))) := by
  have := spec_run envEOf rfl (r48 x y) ⟨by omega, trivial⟩ rfl rfl
  rw [pkL_eq x y h] at this
  exact this
end Go.Ev

namespace Go.Ev
open Go Go.Proofs Go.RowKit
noncomputable def yyE (y : Nat) : Nat := mmN (modN 0) (inN (modN 0) y) (inN (modN 0) y)
noncomputable def bwE (y : Nat) : Nat := addM (modN 0) (inN (modN 0) 1) (mmN (modN 0) (inN (modN 0) dN) (yyE y))
noncomputable def uE (y : Nat) : Nat := outN (modN 0) (mmN (modN 0) (subM (modN 0) (yyE y) (inN (modN 0) 1)) (minvN (modN 0) (bwE y)))
noncomputable def L86 : List CT := ⟨115, cV (.val (N8 dN))⟩ :: L4
theorem L86_ok : AllCT L86 := ⟨ctV spec101d, L4_ok⟩
theorem r86 (y : Nat) : callR (mkE L86 noS) 1000 76 [N8 y] [] =
    some ([(0 : Int) ≤ (0 : Int) ∧ (0 : Int) < (4 : Int), modN 0 < 4294967296 ^ 8, 0 < modN 0, 1 < 4294967296, 0 < 4294967296, 0 < 4294967296, 0 < 4294967296, 0 < 4294967296, 0 < 4294967296, 0 < 4294967296, 0 < 4294967296, modN 0 < 4294967296 ^ 8, 0 < modN 0, y < 4294967296 ^ 8, modN 0 < 4294967296 ^ 8, inN (modN 0) y < modN 0, inN (modN 0) y < modN 0, goodF (modN 0) (facN 0), inN (modN 0) y < 4294967296 ^ 8, inN (modN 0) y < 4294967296 ^ 8, modN 0 < 4294967296 ^ 8, 0 < modN 0, dN < 4294967296 ^ 8, modN 0 < 4294967296 ^ 8, inN (modN 0) dN < modN 0, mmN (modN 0) (inN (modN 0) y) (inN (modN 0) y) < modN 0, goodF (modN 0) (facN 0), inN (modN 0) dN < 4294967296 ^ 8, mmN (modN 0) (inN (modN 0) y) (inN (modN 0) y) < 4294967296 ^ 8, modN 0 < 4294967296 ^ 8, inN (modN 0) 1 < modN 0, mmN (modN 0) (inN (modN 0) dN) (mmN (modN 0) (inN (modN 0) y) (inN (modN 0) y)) < modN 0, inN (modN 0) 1 < 4294967296 ^ 8, mmN (modN 0) (inN (modN 0) dN) (mmN (modN 0) (inN (modN 0) y) (inN (modN 0) y)) < 4294967296 ^ 8, modN 0 < 4294967296 ^ 8, mmN (modN 0) (inN (modN 0) y) (inN (modN 0) y) < modN 0, inN (modN 0) 1 < modN 0, mmN (modN 0) (inN (modN 0) y) (inN (modN 0) y) < 4294967296 ^ 8, inN (modN 0) 1 < 4294967296 ^ 8, modN 0 < 4294967296 ^ 8, addM (modN 0) (inN (modN 0) 1) (mmN (modN 0) (inN (modN 0) dN) (mmN (modN 0) (inN (modN 0) y) (inN (modN 0) y))) < modN 0, goodF (modN 0) (facN 0), addM (modN 0) (inN (modN 0) 1) (mmN (modN 0) (inN (modN 0) dN) (mmN (modN 0) (inN (modN 0) y) (inN (modN 0) y))) < 4294967296 ^ 8, modN 0 < 4294967296 ^ 8, subM (modN 0) (mmN (modN 0) (inN (modN 0) y) (inN (modN 0) y)) (inN (modN 0) 1) < modN 0, minvN (modN 0) (addM (modN 0) (inN (modN 0) 1) (mmN (modN 0) (inN (modN 0) dN) (mmN (modN 0) (inN (modN 0) y) (inN (modN 0) y)))) < modN 0, goodF (modN 0) (facN 0), subM (modN 0) (mmN (modN 0) (inN (modN 0) y) (inN (modN 0) y)) (inN (modN 0) 1) < 4294967296 ^ 8, minvN (modN 0) (addM (modN 0) (inN (modN 0) 1) (mmN (modN 0) (inN (modN 0) dN) (mmN (modN 0) (inN (modN 0) y) (inN (modN 0) y)))) < 4294967296 ^ 8, modN 0 < 4294967296 ^ 8, mmN (modN 0) (subM (modN 0) (mmN (modN 0) (inN (modN 0) y) (inN (modN 0) y)) (inN (modN 0) 1)) (minvN (modN 0) (addM (modN 0) (inN (modN 0) 1) (mmN (modN 0) (inN (modN 0) dN) (mmN (modN 0) (inN (modN 0) y) (inN (modN 0) y))))) < modN 0, goodF (modN 0) (facN 0), mmN (modN 0) (subM (modN 0) (mmN (modN 0) (inN (modN 0) y) (inN (modN 0) y)) (inN (modN 0) 1)) (minvN (modN 0) (addM (modN 0) (inN (modN 0) 1) (mmN (modN 0) (inN (modN 0) dN) (mmN (modN 0) (inN (modN 0) y) (inN (modN 0) y))))) < 4294967296 ^ 8, outN (modN 0) (mmN (modN 0) (subM (modN 0) (mmN (modN 0) (inN (modN 0) y) (inN (modN 0) y)) (inN (modN 0) 1)) (minvN (modN 0) (addM (modN 0) (inN (modN 0) 1) (mmN (modN 0) (inN (modN 0) dN) (mmN (modN 0) (inN (modN 0) y) (inN (modN 0) y)))))) < 4294967296 ^ 8, (0 : Int) ≤ (0 : Int) ∧ (0 : Int) < (2 : Int), outN (modN 0) (mmN (modN 0) (subM (modN 0) (mmN (modN 0) (inN (modN 0) y) (inN (modN 0) y)) (inN (modN 0) 1)) (minvN (modN 0) (addM (modN 0) (inN (modN 0) 1) (mmN (modN 0) (inN (modN 0) dN) (mmN (modN 0) (inN (modN 0) y) (inN (modN 0) y)))))) < modN 0], .tup [N8 (evC 0 (uE y)), .one (.v (.bool (sqB 0 (uE y))))]) := by kernel_rfl
theorem spec86u (y : Nat) (h : y < modN 0) : Spec 76 [N8 y] (.tup [N8 (evC 0 (uE y)), .one (.v (.bool (sqB 0 (uE y))))]) := by
  have hy8 := L8 h
  exact spec_run (envMk L86_ok noS) rfl (r86 y) ⟨(by decide), (modN_lt _), (modN_pos _), lit1, lit0, lit0, lit0, lit0, lit0, lit0, lit0, (modN_lt _), (modN_pos _), (by first | with_reducible assumption | with_reducible exact L8 (by with_reducible assumption) | exact decide_eq_true (by omega) | exact decide_eq_false (by omega) | omega), (modN_lt _), (inN_lt (modN_pos _)), (inN_lt (modN_pos _)), (good_fac (by decide)), (L8 (inN_lt (modN_pos _))), (L8 (inN_lt (modN_pos _))), (modN_lt _), (modN_pos _), (L8 dN_lt), (modN_lt _), (inN_lt (modN_pos _)), (mmN_lt (modN_pos _)), (good_fac (by decide)), (L8 (inN_lt (modN_pos _))), (L8 (mmN_lt (modN_pos _))), (modN_lt _), (inN_lt (modN_pos _)), (mmN_lt (modN_pos _)), (L8 (inN_lt (modN_pos _))), (L8 (mmN_lt (modN_pos _))), (modN_lt _), (mmN_lt (modN_pos _)), (inN_lt (modN_pos _)), (L8 (mmN_lt (modN_pos _))), (L8 (inN_lt (modN_pos _))), (modN_lt _), (addM_lt (modN_pos _)), (good_fac (by decide)), (L8 (addM_lt (modN_pos _))), (modN_lt _), (subM_lt (modN_pos _)), (minvN_lt (modN_pos _)), (good_fac (by decide)), (L8 (subM_lt (modN_pos _))), (L8 (minvN_lt (modN_pos _))), (modN_lt _), (mmN_lt (modN_pos _)), (good_fac (by decide)), (L8 (mmN_lt (modN_pos _))), (L8 (outN_lt (modN_pos _))), (by decide), (outN_lt (modN_pos _)), trivial⟩ rfl rfl
end Go.Ev

namespace Go.Ev
open Go Go.Proofs Go.RowKit
noncomputable def E84 : Env := { E0 with S := fun f t => match f with | 43 => memN t [7] | _ => false }
theorem envE84 : EnvOK E84 := ⟨mixed, envE0.fns, envE0.fms, envE0.lps, envE0.fbs⟩
theorem r84n (s : ByteArray) : callR E84 1000 43 [sS s] [true] = some ([(!decide ((s.size : Int) = 32)) = true], .tup [C8 zF, .one (.i 1)]) := by kernel_rfl
def fn84y (vs : List V1) : Option (List Prop × AV) := match vs with | [.one (.v (.string s))] => some ([s.size = 32], .tup [N8 (leS s), .one (.i 0)]) | _ => none
def fn84n (vs : List V1) : Option (List Prop × AV) := match vs with | [.one (.v (.string s))] => some ([s.size ≠ 32], .tup [N8 0, .one (.i 1)]) | _ => none
def fn87s (vs : List V1) : Option (List Prop × AV) := match vs with | [.one (.v (.string s))] => some ([s.size = 32], .val (N8 (leS s))) | _ => none
theorem ct84y : CTok ⟨43, fn84y⟩ := by
  intro vs ob r h ho
  simp only [fn84y] at h
  split at h
  · simp only [Option.some.injEq, Prod.mk.injEq] at h
    obtain ⟨rfl, rfl⟩ := h
    exact spec84s _ ho.1
  · simp at h
theorem ct84n : CTok ⟨43, fn84n⟩ := by
  intro vs ob r h ho
  simp only [fn84n] at h
  split at h
  · rename_i s
    simp only [Option.some.injEq, Prod.mk.injEq] at h
    obtain ⟨rfl, rfl⟩ := h
    have h1 := ho.1
    refine (spec_run envE84 rfl (r84n s) ⟨by simp; omega, trivial⟩ rfl rfl).congr (fun _ => rfl) (fun φ => ?_)
    simp only [AV.conc, List.map_cons, List.map_nil, conc_zF]
  · simp at h
theorem ct87s : CTok ⟨19, fn87s⟩ := by
  intro vs ob r h ho
  simp only [fn87s] at h
  split at h
  · simp only [Option.some.injEq, Prod.mk.injEq] at h
    obtain ⟨rfl, rfl⟩ := h
    exact spec87s _ ho.1
  · simp at h
def fn1q (q : Nat → List Prop) (g : Nat → AV) (vs : List V1) : Option (List Prop × AV) :=
  match vs with
  | [x] => match numP 8 x with
    | some (o, a) => some (o ++ q a, g a)
    | _ => none
  | _ => none
theorem fn1q_ok {f : FuncId} {q : Nat → List Prop} {g : Nat → AV} (hg : ∀ a, a < 4294967296 ^ 8 → All (q a) → Spec f [N8 a] (g a)) : CTok ⟨f, fn1q q g⟩ := by
  intro vs ob r h ho
  simp only [fn1q] at h
  split at h
  · rename_i x
    split at h
    · rename_i o a hx
      simp only [Option.some.injEq, Prod.mk.injEq] at h
      obtain ⟨rfl, rfl⟩ := h
      rw [All_append] at ho
      obtain ⟨h1, h2⟩ := numP_spec hx ho.1
      exact (hg a h1 ho.2).congr (fun φ => by simp only [List.map_cons, List.map_nil]; rw [← h2 φ]; rfl) (fun _ => rfl)
    · simp at h
  · simp at h
noncomputable def fn86 : List V1 → Option (List Prop × AV) := fn1q (fun y => [y < modN 0]) (fun y => .tup [N8 (evC 0 (uE y)), .one (.v (.bool (sqB 0 (uE y))))])
theorem ct86 : CTok ⟨76, fn86⟩ := fn1q_ok fun y _ h => spec86u y h.1
noncomputable def S50 : FuncId → Nat → Bool := fun f t => match f with | 45 => memN t [20, 26, 33, 43] | _ => false
noncomputable def L50 : List CT := ⟨43, fn84y⟩ :: ⟨76, fn86⟩ :: L4
theorem L50_ok : AllCT L50 := ⟨ct84y, ct86, L4_ok⟩
noncomputable def L50n : List CT := ⟨43, fn84n⟩ :: L4
theorem L50n_ok : AllCT L50n := ⟨ct84n, L4_ok⟩
def lowT (Y : Nat) : Nat := top7 Y % 4294967296 &&& 2147483647
def ycs (Y t : Nat) : List Piece := [.a (.u .u32 (Y % 4294967296)), .a (.u .u32 (Y / 4294967296 % 4294967296)), .a (.u .u32 (Y / 4294967296 / 4294967296 % 4294967296)), .a (.u .u32 (Y / 4294967296 / 4294967296 / 4294967296 % 4294967296)), .a (.u .u32 (Y / 4294967296 / 4294967296 / 4294967296 / 4294967296 % 4294967296)), .a (.u .u32 (Y / 4294967296 / 4294967296 / 4294967296 / 4294967296 / 4294967296 % 4294967296)), .a (.u .u32 (Y / 4294967296 / 4294967296 / 4294967296 / 4294967296 / 4294967296 / 4294967296 % 4294967296)), .a (.u .u32 t)]
def ptC (X : Nat) (Y : Nat) : V1 := .agg (.num 8 X :: ycs Y (lowT Y))
theorem r50n (s : ByteArray) : callR (mkE L50n S50) 1000 45 [sS s] [] = some ([s.size ≠ 32], .tup [C16 zF, .one (.i 1)]) := by kernel_rfl
end Go.Ev

namespace Go.Ev
open Go Go.Proofs Go.RowKit
noncomputable def yU (s : ByteArray) : Nat := put7 (leS s) (lowT (leS s))
def oddU (s : ByteArray) : Bool := decide (leS s / 57896044618658097711785492504343953926634992332820282019728792003956564819968 = 1)
noncomputable def evU (s : ByteArray) : Nat := evC 0 (uE (yU s))
noncomputable def sqU (s : ByteArray) : Bool := sqB 0 (uE (yU s))
noncomputable def unpE (s : ByteArray) : Int := bif decide (s.size = 32) then (bif decide (yU s < modN 0) then (bif sqU s then (bif oddU s && decide (evU s = 0) then 6 else 0) else 7) else 6) else 1
noncomputable def unpX (s : ByteArray) : Nat := bif decide (unpE s = 0) then (bif oddU s then subM (modN 0) 0 (evU s) else evU s) else 0
noncomputable def unpY (s : ByteArray) : Nat := bif decide (unpE s = 0) then yU s else 0
theorem lowT_eq (Y : Nat) : lowT Y = top7 Y % 2147483648 := by
  unfold lowT
  rw [show (2147483647 : Nat) = 2 ^ 31 - 1 from rfl, Nat.and_two_pow_sub_one_eq_mod]
  have : top7 Y < 4294967296 := Nat.mod_lt _ (by decide)
  rw [Nat.mod_eq_of_lt this]
theorem lowT_lt (Y : Nat) : lowT Y < 4294967296 := by rw [lowT_eq]; omega
theorem yU_eq (s : ByteArray) (h : s.size = 32) : yU s = leS s % 57896044618658097711785492504343953926634992332820282019728792003956564819968 := by
  have hl := leS_lt s
  rw [h] at hl
  obtain ⟨h1, h2⟩ := top7_eq (leS s) (by omega)
  unfold yU
  rw [put7_eq, lowT_eq]
  generalize top7 (leS s) = t at *
  have hm : leS s % 26959946667150639794667015087019630673637144422540572481103610249216 < 26959946667150639794667015087019630673637144422540572481103610249216 := Nat.mod_lt _ (by decide)
  have hd := Nat.div_add_mod (leS s) 26959946667150639794667015087019630673637144422540572481103610249216
  omega
theorem and31 (x : Nat) (h : x < 4294967296) : (!decide (x % 4294967296 &&& 2147483648 % 4294967296 = 0)) = decide (x / 2147483648 = 1) := by
  rw [Nat.mod_eq_of_lt h, show (2147483648 % 4294967296 : Nat) = 2 ^ 31 from rfl]
  have ha : x &&& 2 ^ 31 = 2147483648 * (x / 2147483648 % 2) := by
    apply Nat.eq_of_testBit_eq
    intro i
    rw [Nat.testBit_and, Nat.testBit_two_pow, show (2147483648 : Nat) = 2 ^ 31 from rfl, Nat.testBit_two_pow_mul]
    by_cases hi : 31 = i
    · subst hi
      simp [Nat.testBit_eq_decide_div_mod_eq]
    · rw [decide_eq_false hi, Bool.and_false]
      by_cases h2 : 31 ≤ i
      · have : 1 ≤ i - 31 := by omega
        have hl : x / 2 ^ 31 % 2 < 2 ^ (i - 31) := Nat.lt_of_lt_of_le (Nat.mod_lt _ (by decide)) (Nat.le_trans (by decide : 2 ≤ 2 ^ 1) (Nat.pow_le_pow_right (by decide) this))
        rw [Nat.testBit_lt_two_pow hl, Bool.and_false]
      · simp [h2]
  rw [ha]
  by_cases h1 : x / 2147483648 = 1
  · rw [h1]; rfl
  · have h0 : x / 2147483648 = 0 := by omega
    simp [h0]
theorem odd_eq (s : ByteArray) (h : s.size = 32) : (!decide (top7 (leS s) % 4294967296 &&& 2147483648 % 4294967296 = 0)) = oddU s := by
  have hl := leS_lt s
  rw [h] at hl
  obtain ⟨h1, h2⟩ := top7_eq (leS s) (by omega)
  rw [and31 (top7 (leS s)) (Nat.mod_lt _ (by decide))]
  unfold oddU
  rw [h1, Nat.div_div_eq_div_mul]
theorem u50a (s : ByteArray) : callR (mkE L50 S50) 1000 45 [sS s] [true, false] =
  some ([s.size = 32, (!decide (top7 (leS s) % 4294967296 &&& 2147483648 % 4294967296 = 0)) = true, ok1 0 (yU s) = false, leS s % 4294967296 < 4294967296, leS s / 4294967296 % 4294967296 < 4294967296, leS s / 4294967296 / 4294967296 % 4294967296 < 4294967296, leS s / 4294967296 / 4294967296 / 4294967296 % 4294967296 < 4294967296, leS s / 4294967296 / 4294967296 / 4294967296 / 4294967296 % 4294967296 < 4294967296, leS s / 4294967296 / 4294967296 / 4294967296 / 4294967296 / 4294967296 % 4294967296 < 4294967296, leS s / 4294967296 / 4294967296 / 4294967296 / 4294967296 / 4294967296 / 4294967296 % 4294967296 < 4294967296, lowT (leS s) < 4294967296], .tup [C16 zF, .one (.i 6)]) := by kernel_rfl
theorem u50b (s : ByteArray) : callR (mkE L50 S50) 1000 45 [sS s] [false, false] =
  some ([s.size = 32, (!decide (top7 (leS s) % 4294967296 &&& 2147483648 % 4294967296 = 0)) = false, ok1 0 (yU s) = false, leS s % 4294967296 < 4294967296, leS s / 4294967296 % 4294967296 < 4294967296, leS s / 4294967296 / 4294967296 % 4294967296 < 4294967296, leS s / 4294967296 / 4294967296 / 4294967296 % 4294967296 < 4294967296, leS s / 4294967296 / 4294967296 / 4294967296 / 4294967296 % 4294967296 < 4294967296, leS s / 4294967296 / 4294967296 / 4294967296 / 4294967296 / 4294967296 % 4294967296 < 4294967296, leS s / 4294967296 / 4294967296 / 4294967296 / 4294967296 / 4294967296 / 4294967296 % 4294967296 < 4294967296, lowT (leS s) < 4294967296], .tup [C16 zF, .one (.i 6)]) := by kernel_rfl
theorem u50c (s : ByteArray) : callR (mkE L50 S50) 1000 45 [sS s] [true, true, false] =
  some ([s.size = 32, (!decide (top7 (leS s) % 4294967296 &&& 2147483648 % 4294967296 = 0)) = true, ok1 0 (yU s) = true, leS s % 4294967296 < 4294967296, leS s / 4294967296 % 4294967296 < 4294967296, leS s / 4294967296 / 4294967296 % 4294967296 < 4294967296, leS s / 4294967296 / 4294967296 / 4294967296 % 4294967296 < 4294967296, leS s / 4294967296 / 4294967296 / 4294967296 / 4294967296 % 4294967296 < 4294967296, leS s / 4294967296 / 4294967296 / 4294967296 / 4294967296 / 4294967296 % 4294967296 < 4294967296, leS s / 4294967296 / 4294967296 / 4294967296 / 4294967296 / 4294967296 / 4294967296 % 4294967296 < 4294967296, lowT (leS s) < 4294967296, leS s % 4294967296 < 4294967296, leS s / 4294967296 % 4294967296 < 4294967296, leS s / 4294967296 / 4294967296 % 4294967296 < 4294967296, leS s / 4294967296 / 4294967296 / 4294967296 % 4294967296 < 4294967296, leS s / 4294967296 / 4294967296 / 4294967296 / 4294967296 % 4294967296 < 4294967296, leS s / 4294967296 / 4294967296 / 4294967296 / 4294967296 / 4294967296 % 4294967296 < 4294967296, leS s / 4294967296 / 4294967296 / 4294967296 / 4294967296 / 4294967296 / 4294967296 % 4294967296 < 4294967296, lowT (leS s) < 4294967296, yU s < modN 0, sqU s = false], .tup [C16 zF, .one (.i 7)]) := by kernel_rfl
theorem u50d (s : ByteArray) : callR (mkE L50 S50) 1000 45 [sS s] [false, true, false] =
  some ([s.size = 32, (!decide (top7 (leS s) % 4294967296 &&& 2147483648 % 4294967296 = 0)) = false, ok1 0 (yU s) = true, leS s % 4294967296 < 4294967296, leS s / 4294967296 % 4294967296 < 4294967296, leS s / 4294967296 / 4294967296 % 4294967296 < 4294967296, leS s / 4294967296 / 4294967296 / 4294967296 % 4294967296 < 4294967296, leS s / 4294967296 / 4294967296 / 4294967296 / 4294967296 % 4294967296 < 4294967296, leS s / 4294967296 / 4294967296 / 4294967296 / 4294967296 / 4294967296 % 4294967296 < 4294967296, leS s / 4294967296 / 4294967296 / 4294967296 / 4294967296 / 4294967296 / 4294967296 % 4294967296 < 4294967296, lowT (leS s) < 4294967296, leS s % 4294967296 < 4294967296, leS s / 4294967296 % 4294967296 < 4294967296, leS s / 4294967296 / 4294967296 % 4294967296 < 4294967296, leS s / 4294967296 / 4294967296 / 4294967296 % 4294967296 < 4294967296, leS s / 4294967296 / 4294967296 / 4294967296 / 4294967296 % 4294967296 < 4294967296, leS s / 4294967296 / 4294967296 / 4294967296 / 4294967296 / 4294967296 % 4294967296 < 4294967296, leS s / 4294967296 / 4294967296 / 4294967296 / 4294967296 / 4294967296 / 4294967296 % 4294967296 < 4294967296, lowT (leS s) < 4294967296, yU s < modN 0, sqU s = false], .tup [C16 zF, .one (.i 7)]) := by kernel_rfl
theorem u50e (s : ByteArray) : callR (mkE L50 S50) 1000 45 [sS s] [true, true, true, true] =
  some ([s.size = 32, (!decide (top7 (leS s) % 4294967296 &&& 2147483648 % 4294967296 = 0)) = true, ok1 0 (yU s) = true, leS s % 4294967296 < 4294967296, leS s / 4294967296 % 4294967296 < 4294967296, leS s / 4294967296 / 4294967296 % 4294967296 < 4294967296, leS s / 4294967296 / 4294967296 / 4294967296 % 4294967296 < 4294967296, leS s / 4294967296 / 4294967296 / 4294967296 / 4294967296 % 4294967296 < 4294967296, leS s / 4294967296 / 4294967296 / 4294967296 / 4294967296 / 4294967296 % 4294967296 < 4294967296, leS s / 4294967296 / 4294967296 / 4294967296 / 4294967296 / 4294967296 / 4294967296 % 4294967296 < 4294967296, lowT (leS s) < 4294967296, leS s % 4294967296 < 4294967296, leS s / 4294967296 % 4294967296 < 4294967296, leS s / 4294967296 / 4294967296 % 4294967296 < 4294967296, leS s / 4294967296 / 4294967296 / 4294967296 % 4294967296 < 4294967296, leS s / 4294967296 / 4294967296 / 4294967296 / 4294967296 % 4294967296 < 4294967296, leS s / 4294967296 / 4294967296 / 4294967296 / 4294967296 / 4294967296 % 4294967296 < 4294967296, leS s / 4294967296 / 4294967296 / 4294967296 / 4294967296 / 4294967296 / 4294967296 % 4294967296 < 4294967296, lowT (leS s) < 4294967296, yU s < modN 0, sqU s = true, isZ (evU s) = true], .tup [C16 zF, .one (.i 6)]) := by kernel_rfl
theorem u50f (s : ByteArray) : callR (mkE L50 S50) 1000 45 [sS s] [true, true, true, false] =
  some ([s.size = 32, (!decide (top7 (leS s) % 4294967296 &&& 2147483648 % 4294967296 = 0)) = true, ok1 0 (yU s) = true, leS s % 4294967296 < 4294967296, leS s / 4294967296 % 4294967296 < 4294967296, leS s / 4294967296 / 4294967296 % 4294967296 < 4294967296, leS s / 4294967296 / 4294967296 / 4294967296 % 4294967296 < 4294967296, leS s / 4294967296 / 4294967296 / 4294967296 / 4294967296 % 4294967296 < 4294967296, leS s / 4294967296 / 4294967296 / 4294967296 / 4294967296 / 4294967296 % 4294967296 < 4294967296, leS s / 4294967296 / 4294967296 / 4294967296 / 4294967296 / 4294967296 / 4294967296 % 4294967296 < 4294967296, lowT (leS s) < 4294967296, leS s % 4294967296 < 4294967296, leS s / 4294967296 % 4294967296 < 4294967296, leS s / 4294967296 / 4294967296 % 4294967296 < 4294967296, leS s / 4294967296 / 4294967296 / 4294967296 % 4294967296 < 4294967296, leS s / 4294967296 / 4294967296 / 4294967296 / 4294967296 % 4294967296 < 4294967296, leS s / 4294967296 / 4294967296 / 4294967296 / 4294967296 / 4294967296 % 4294967296 < 4294967296, leS s / 4294967296 / 4294967296 / 4294967296 / 4294967296 / 4294967296 / 4294967296 % 4294967296 < 4294967296, lowT (leS s) < 4294967296, yU s < modN 0, sqU s = true, isZ (evU s) = false, (0 : Int) ≤ 0 ∧ (0 : Int) < 4, modN 0 < 4294967296 ^ 8, 0 < modN 0, evU s < modN 0, 0 < 4294967296, 0 < 4294967296, 0 < 4294967296, 0 < 4294967296, 0 < 4294967296, 0 < 4294967296, 0 < 4294967296, 0 < 4294967296, evU s < 4294967296 ^ 8], .tup [ptC (subM (modN 0) 0 (evU s)) (leS s), .one (.i 0)]) := by kernel_rfl
theorem u50g (s : ByteArray) : callR (mkE L50 S50) 1000 45 [sS s] [false, true, true] =
  some ([s.size = 32, (!decide (top7 (leS s) % 4294967296 &&& 2147483648 % 4294967296 = 0)) = false, ok1 0 (yU s) = true, leS s % 4294967296 < 4294967296, leS s / 4294967296 % 4294967296 < 4294967296, leS s / 4294967296 / 4294967296 % 4294967296 < 4294967296, leS s / 4294967296 / 4294967296 / 4294967296 % 4294967296 < 4294967296, leS s / 4294967296 / 4294967296 / 4294967296 / 4294967296 % 4294967296 < 4294967296, leS s / 4294967296 / 4294967296 / 4294967296 / 4294967296 / 4294967296 % 4294967296 < 4294967296, leS s / 4294967296 / 4294967296 / 4294967296 / 4294967296 / 4294967296 / 4294967296 % 4294967296 < 4294967296, lowT (leS s) < 4294967296, leS s % 4294967296 < 4294967296, leS s / 4294967296 % 4294967296 < 4294967296, leS s / 4294967296 / 4294967296 % 4294967296 < 4294967296, leS s / 4294967296 / 4294967296 / 4294967296 % 4294967296 < 4294967296, leS s / 4294967296 / 4294967296 / 4294967296 / 4294967296 % 4294967296 < 4294967296, leS s / 4294967296 / 4294967296 / 4294967296 / 4294967296 / 4294967296 % 4294967296 < 4294967296, leS s / 4294967296 / 4294967296 / 4294967296 / 4294967296 / 4294967296 / 4294967296 % 4294967296 < 4294967296, lowT (leS s) < 4294967296, yU s < modN 0, sqU s = true], .tup [ptC (evU s) (leS s), .one (.i 0)]) := by kernel_rfl
end Go.Ev

namespace Go.Ev
open Go Go.Proofs Go.RowKit
theorem ycs_conc (φ : Loc) (Y : Nat) : concs φ (ycs Y (lowT Y)) = concs φ [.num 8 (put7 Y (lowT Y))] := by
  have h := valP_spec 8 (ycs Y (lowT Y)) (o := [Y % 4294967296 < 4294967296, Y / 4294967296 % 4294967296 < 4294967296, Y / 4294967296 / 4294967296 % 4294967296 < 4294967296, Y / 4294967296 / 4294967296 / 4294967296 % 4294967296 < 4294967296, Y / 4294967296 / 4294967296 / 4294967296 / 4294967296 % 4294967296 < 4294967296, Y / 4294967296 / 4294967296 / 4294967296 / 4294967296 / 4294967296 % 4294967296 < 4294967296, Y / 4294967296 / 4294967296 / 4294967296 / 4294967296 / 4294967296 / 4294967296 % 4294967296 < 4294967296, lowT (Y) < 4294967296]) (x := put7 Y (lowT Y)) rfl ⟨mdW _, mdW _, mdW _, mdW _, mdW _, mdW _, mdW _, lowT_lt _, trivial⟩
  rw [h.2 φ]
  simp [concs, Piece.conc]
theorem ptC_conc (φ : Loc) (X : Nat) (s : ByteArray) : (ptC X (leS s)).conc φ = (P2 X (yU s)).conc φ := by
  have e : concs φ ([.num 8 X] ++ ycs (leS s) (lowT (leS s))) = concs φ ([.num 8 X] ++ [.num 8 (yU s)]) := by
    rw [concs_append, ycs_conc, concs_append]; rfl
  exact congrArg (fun l => Value.agg (List.toArray l)) e
theorem c16_conc (φ : Loc) : (C16 zF).conc φ = (P2 0 0).conc φ := by
  have e : concs φ (cellsU 8 0 zF ++ cellsU 8 0 zF) = concs φ ([.num 8 0] ++ [.num 8 0]) := by
    rw [concs_append, ← limb_zero, ← concs_num, concs_append]
  exact congrArg (fun l => Value.agg (List.toArray l)) e
theorem isZ_iff (x : Nat) (h : x < 4294967296 ^ 8) : isZ x = decide (x = 0) := isZ_eq h
theorem res_conc (φ : Loc) (X : Nat) (s : ByteArray) : (AV.tup [ptC X (leS s), .one (.i 0)]).conc φ = (AV.tup [P2 X (yU s), .one (.i 0)]).conc φ := by
  simp only [AV.conc, List.map_cons, List.map_nil, ptC_conc]
theorem err_conc (φ : Loc) (z : Int) : (AV.tup [C16 zF, .one (.i z)]).conc φ = (AV.tup [P2 0 0, .one (.i z)]).conc φ := by
  simp only [AV.conc, List.map_cons, List.map_nil, c16_conc]
theorem unp_err (s : ByteArray) {z : Int} (h : unpE s = z) (h0 : z ≠ 0) : unpX s = 0 ∧ unpY s = 0 := by
  have hd : decide (unpE s = 0) = false := decide_eq_false (by rw [h]; exact h0)
  constructor
  · unfold unpX; rw [hd, cond_false]
  · unfold unpY; rw [hd, cond_false]
theorem unp_ok (s : ByteArray) (h : unpE s = 0) : unpX s = (bif oddU s then subM (modN 0) 0 (evU s) else evU s) ∧ unpY s = yU s := by
  have hd : decide (unpE s = 0) = true := decide_eq_true h
  constructor
  · unfold unpX; rw [hd, cond_true]
  · unfold unpY; rw [hd, cond_true]
theorem ok1_d (x : Nat) : ok1 0 x = decide (x < modN 0) := ok1_0
theorem spec50u (s : ByteArray) : Spec 45 [sS s] (.tup [P2 (unpX s) (unpY s), .one (.i (unpE s))]) := by
  have hE0 : ∀ {z : Int}, unpE s = z → z ≠ 0 → unpX s = 0 ∧ unpY s = 0 := fun h h0 => unp_err s h h0
  by_cases h : s.size = 32
  · have ho := odd_eq s h
    by_cases hy : yU s < modN 0
    · have hy' : ok1 0 (yU s) = true := by rw [ok1_d]; exact decide_eq_true hy
      have hev : evU s < modN 0 := evC_lt (by decide)
      cases hs : sqU s with
      | false =>
        have e : unpE s = 7 := by unfold unpE; rw [decide_eq_true h, decide_eq_true hy, hs]; rfl
        obtain ⟨e1, e2⟩ := hE0 e (by decide)
        rw [e, e1, e2]
        cases hod : oddU s with
        | true => exact (spec_run (envMk L50_ok S50) rfl (u50c s) ⟨h, by rw [ho, hod], hy', mdW _, mdW _, mdW _, mdW _, mdW _, mdW _, mdW _, lowT_lt _, mdW _, mdW _, mdW _, mdW _, mdW _, mdW _, mdW _, lowT_lt _, hy, hs, trivial⟩ rfl rfl).congr (fun _ => rfl) (fun φ => err_conc φ 7)
        | false => exact (spec_run (envMk L50_ok S50) rfl (u50d s) ⟨h, by rw [ho, hod], hy', mdW _, mdW _, mdW _, mdW _, mdW _, mdW _, mdW _, lowT_lt _, mdW _, mdW _, mdW _, mdW _, mdW _, mdW _, mdW _, lowT_lt _, hy, hs, trivial⟩ rfl rfl).congr (fun _ => rfl) (fun φ => err_conc φ 7)
      | true =>
        cases hod : oddU s with
        | true =>
          by_cases hz : evU s = 0
          · have e : unpE s = 6 := by unfold unpE; rw [decide_eq_true h, decide_eq_true hy, hs, hod, decide_eq_true hz]; rfl
            obtain ⟨e1, e2⟩ := hE0 e (by decide)
            rw [e, e1, e2]
            exact (spec_run (envMk L50_ok S50) rfl (u50e s) ⟨h, by rw [ho, hod], hy', mdW _, mdW _, mdW _, mdW _, mdW _, mdW _, mdW _, lowT_lt _, mdW _, mdW _, mdW _, mdW _, mdW _, mdW _, mdW _, lowT_lt _, hy, hs, by rw [isZ_iff _ (L8 hev)]; exact decide_eq_true hz, trivial⟩ rfl rfl).congr (fun _ => rfl) (fun φ => err_conc φ 6)
          · have e : unpE s = 0 := by unfold unpE; rw [decide_eq_true h, decide_eq_true hy, hs, hod, decide_eq_false hz]; rfl
            obtain ⟨e1, e2⟩ := unp_ok s e
            rw [e, e1, e2, hod, cond_true]
            exact (spec_run (envMk L50_ok S50) rfl (u50f s) ⟨h, by rw [ho, hod], hy', mdW _, mdW _, mdW _, mdW _, mdW _, mdW _, mdW _, lowT_lt _, mdW _, mdW _, mdW _, mdW _, mdW _, mdW _, mdW _, lowT_lt _, hy, hs, by rw [isZ_iff _ (L8 hev)]; exact decide_eq_false hz, by decide, modN_lt _, modN_pos _, hev, by decide, by decide, by decide, by decide, by decide, by decide, by decide, by decide, L8 hev, trivial⟩ rfl rfl).congr (fun _ => rfl) (fun φ => res_conc φ _ s)
        | false =>
          have e : unpE s = 0 := by unfold unpE; rw [decide_eq_true h, decide_eq_true hy, hs, hod]; rfl
          obtain ⟨e1, e2⟩ := unp_ok s e
          rw [e, e1, e2, hod, cond_false]
          exact (spec_run (envMk L50_ok S50) rfl (u50g s) ⟨h, by rw [ho, hod], hy', mdW _, mdW _, mdW _, mdW _, mdW _, mdW _, mdW _, lowT_lt _, mdW _, mdW _, mdW _, mdW _, mdW _, mdW _, mdW _, lowT_lt _, hy, hs, trivial⟩ rfl rfl).congr (fun _ => rfl) (fun φ => res_conc φ _ s)
    · have hy' : ok1 0 (yU s) = false := by rw [ok1_d]; exact decide_eq_false hy
      have e : unpE s = 6 := by unfold unpE; rw [decide_eq_true h, decide_eq_false hy]; rfl
      obtain ⟨e1, e2⟩ := hE0 e (by decide)
      rw [e, e1, e2]
      cases hod : oddU s with
      | true => exact (spec_run (envMk L50_ok S50) rfl (u50a s) ⟨h, by rw [ho, hod], hy', mdW _, mdW _, mdW _, mdW _, mdW _, mdW _, mdW _, lowT_lt _, trivial⟩ rfl rfl).congr (fun _ => rfl) (fun φ => err_conc φ 6)
      | false => exact (spec_run (envMk L50_ok S50) rfl (u50b s) ⟨h, by rw [ho, hod], hy', mdW _, mdW _, mdW _, mdW _, mdW _, mdW _, mdW _, lowT_lt _, trivial⟩ rfl rfl).congr (fun _ => rfl) (fun φ => err_conc φ 6)
  · have e : unpE s = 1 := by unfold unpE; rw [decide_eq_false h]; rfl
    obtain ⟨e1, e2⟩ := hE0 e (by decide)
    rw [e, e1, e2]
    exact (spec_run (envMk L50n_ok S50) rfl (r50n s) ⟨h, trivial⟩ rfl rfl).congr (fun _ => rfl) (fun φ => err_conc φ 1)
end Go.Ev

namespace Go.Ev
open Go Go.Proofs Go.RowKit
def gRf0 : List Val → Option (List Prop × AV)
  | [.z z, .n a] => some ([z = 0, a < modN 0], .tup [N8 (bif sqB 0 a then evC 0 a else 0), .one (.v (.bool (sqB 0 a)))])
  | _ => none
theorem ct23u : CTok ⟨92, fnS [.z, .s [.n8]] gRf0⟩ := ctS (by
  intro xs ob r hb h ho
  unfold gRf0 at h
  split at h
  · simp only [Option.some.injEq, Prod.mk.injEq] at h
    obtain ⟨rfl, rfl⟩ := h
    obtain ⟨rfl, ha, _⟩ := ho
    exact spec23_0 _ ha
  · simp at h)
noncomputable def L51 : List CT := ⟨19, fn87s⟩ :: ⟨88, cV (.val (N8 dN))⟩ :: ⟨92, fnS [.z, .s [.n8]] gRf0⟩ :: L4
theorem L51_ok : AllCT L51 := ⟨ct87s, ctV spec73d, ct23u, L4_ok⟩
noncomputable def S51 : FuncId → Nat → Bool := fun f t => match f with | 51 => memN t [17, 24, 78, 84] | 50 => memN t [21] | _ => false
noncomputable def bwE' (y : Nat) : Nat := addM (modN 0) (mmN (modN 0) (inN (modN 0) dN) (yyE y)) (inN (modN 0) 1)
noncomputable def uE' (y : Nat) : Nat := outN (modN 0) (mmN (modN 0) (subM (modN 0) (yyE y) (inN (modN 0) 1)) (minvN (modN 0) (bwE' y)))
noncomputable def i1E : Nat := inN (modN 0) 1
noncomputable def iDE : Nat := inN (modN 0) dN
noncomputable def iyE (y : Nat) : Nat := inN (modN 0) y
noncomputable def dyE (y : Nat) : Nat := mmN (modN 0) iDE (yyE y)
noncomputable def vE' (y : Nat) : Nat := mpowN (modN 0) (bwE' y) (subN (modN 0) 2)
noncomputable def difE (y : Nat) : Nat := subM (modN 0) (yyE y) i1E
noncomputable def prdE (y : Nat) : Nat := mmN (modN 0) (difE y) (vE' y)
noncomputable def evS (y : Nat) : Nat := bif sqB 0 (uE' y) then evC 0 (uE' y) else 0
noncomputable def sq' (y : Nat) : Bool := sqB 0 (uE' y)
theorem r51n (s : ByteArray) : callR (mkE L51 S51) 1000 51 [sS s] [true] = some ([(!decide ((s.size : Int) = 32)) = true], .tup [C16 zF, .one (.i 1)]) := by kernel_rfl
theorem r51at (s : ByteArray) : callR (mkE L51 S51) 1000 51 [sS s] [false, true, false] =
  some ([(!decide ((s.size : Int) = 32)) = false, s.size = 32, decide (top7 (leS s) / 2147483648 = 1) = true, (0 : Int) ≤ 0 ∧ (0 : Int) < 4, decide (yU s < modN 0) = false, leS s % 4294967296 < 4294967296, leS s / 4294967296 % 4294967296 < 4294967296, leS s / 4294967296 / 4294967296 % 4294967296 < 4294967296, leS s / 4294967296 / 4294967296 / 4294967296 % 4294967296 < 4294967296, leS s / 4294967296 / 4294967296 / 4294967296 / 4294967296 % 4294967296 < 4294967296, leS s / 4294967296 / 4294967296 / 4294967296 / 4294967296 / 4294967296 % 4294967296 < 4294967296, leS s / 4294967296 / 4294967296 / 4294967296 / 4294967296 / 4294967296 / 4294967296 % 4294967296 < 4294967296, lowT (leS s) < 4294967296, modN 0 < 4294967296 ^ 8], .tup [C16 zF, .one (.i 6)]) := by kernel_rfl
theorem r51af (s : ByteArray) : callR (mkE L51 S51) 1000 51 [sS s] [false, false, false] =
  some ([(!decide ((s.size : Int) = 32)) = false, s.size = 32, decide (top7 (leS s) / 2147483648 = 1) = false, (0 : Int) ≤ 0 ∧ (0 : Int) < 4, decide (yU s < modN 0) = false, leS s % 4294967296 < 4294967296, leS s / 4294967296 % 4294967296 < 4294967296, leS s / 4294967296 / 4294967296 % 4294967296 < 4294967296, leS s / 4294967296 / 4294967296 / 4294967296 % 4294967296 < 4294967296, leS s / 4294967296 / 4294967296 / 4294967296 / 4294967296 % 4294967296 < 4294967296, leS s / 4294967296 / 4294967296 / 4294967296 / 4294967296 / 4294967296 % 4294967296 < 4294967296, leS s / 4294967296 / 4294967296 / 4294967296 / 4294967296 / 4294967296 / 4294967296 % 4294967296 < 4294967296, lowT (leS s) < 4294967296, modN 0 < 4294967296 ^ 8], .tup [C16 zF, .one (.i 6)]) := by kernel_rfl
theorem r51bt (s : ByteArray) : callR (mkE L51 S51) 1000 51 [sS s] [false, true, true, false] =
  some ([(!decide ((s.size : Int) = 32)) = false, s.size = 32, decide (top7 (leS s) / 2147483648 = 1) = true, (0 : Int) ≤ 0 ∧ (0 : Int) < 4, decide (yU s < modN 0) = true, leS s % 4294967296 < 4294967296, leS s / 4294967296 % 4294967296 < 4294967296, leS s / 4294967296 / 4294967296 % 4294967296 < 4294967296, leS s / 4294967296 / 4294967296 / 4294967296 % 4294967296 < 4294967296, leS s / 4294967296 / 4294967296 / 4294967296 / 4294967296 % 4294967296 < 4294967296, leS s / 4294967296 / 4294967296 / 4294967296 / 4294967296 / 4294967296 % 4294967296 < 4294967296, leS s / 4294967296 / 4294967296 / 4294967296 / 4294967296 / 4294967296 / 4294967296 % 4294967296 < 4294967296, lowT (leS s) < 4294967296, modN 0 < 4294967296 ^ 8, (0 : Int) ≤ 0 ∧ (0 : Int) < 4, 1 < 4294967296, okR (modN 0) (facR (limb (modN 0) 0)) (r2N (modN 0)), 1 < modN 0, 1 < 4294967296 ^ 8, okR (modN 0) (facR (limb (modN 0) 0)) (r2N (modN 0)), yU s < modN 0, leS s % 4294967296 < 4294967296, leS s / 4294967296 % 4294967296 < 4294967296, leS s / 4294967296 / 4294967296 % 4294967296 < 4294967296, leS s / 4294967296 / 4294967296 / 4294967296 % 4294967296 < 4294967296, leS s / 4294967296 / 4294967296 / 4294967296 / 4294967296 % 4294967296 < 4294967296, leS s / 4294967296 / 4294967296 / 4294967296 / 4294967296 / 4294967296 % 4294967296 < 4294967296, leS s / 4294967296 / 4294967296 / 4294967296 / 4294967296 / 4294967296 / 4294967296 % 4294967296 < 4294967296, lowT (leS s) < 4294967296, okR (modN 0) (facR (limb (modN 0) 0)) (r2N (modN 0)), yU s < modN 0, leS s % 4294967296 < 4294967296, leS s / 4294967296 % 4294967296 < 4294967296, leS s / 4294967296 / 4294967296 % 4294967296 < 4294967296, leS s / 4294967296 / 4294967296 / 4294967296 % 4294967296 < 4294967296, leS s / 4294967296 / 4294967296 / 4294967296 / 4294967296 % 4294967296 < 4294967296, leS s / 4294967296 / 4294967296 / 4294967296 / 4294967296 / 4294967296 % 4294967296 < 4294967296, leS s / 4294967296 / 4294967296 / 4294967296 / 4294967296 / 4294967296 / 4294967296 % 4294967296 < 4294967296, lowT (leS s) < 4294967296, okR (modN 0) (facR (limb (modN 0) 0)) (r2N (modN 0)), iyE (yU s) < modN 0, iyE (yU s) < modN 0, iyE (yU s) < 4294967296 ^ 8, iyE (yU s) < 4294967296 ^ 8, okR (modN 0) (facR (limb (modN 0) 0)) (r2N (modN 0)), dN < modN 0, dN < 4294967296 ^ 8, okR (modN 0) (facR (limb (modN 0) 0)) (r2N (modN 0)), iDE < modN 0, yyE (yU s) < modN 0, iDE < 4294967296 ^ 8, yyE (yU s) < 4294967296 ^ 8, okR (modN 0) (facR (limb (modN 0) 0)) (r2N (modN 0)), dyE (yU s) < modN 0, i1E < modN 0, dyE (yU s) < 4294967296 ^ 8, i1E < 4294967296 ^ 8, 2 < 4294967296, modN 0 < 4294967296 ^ 8, 2 < 4294967296 ^ 8, okR (modN 0) (facR (limb (modN 0) 0)) (r2N (modN 0)), yyE (yU s) < modN 0, i1E < modN 0, yyE (yU s) < 4294967296 ^ 8, i1E < 4294967296 ^ 8, okR (modN 0) (facR (limb (modN 0) 0)) (r2N (modN 0)), 1 < modN 0, bwE' (yU s) < modN 0, bwE' (yU s) < 4294967296 ^ 8, subN (modN 0) 2 < 4294967296 ^ 8, okR (modN 0) (facR (limb (modN 0) 0)) (r2N (modN 0)), difE (yU s) < modN 0, vE' (yU s) < modN 0, difE (yU s) < 4294967296 ^ 8, vE' (yU s) < 4294967296 ^ 8, okR (modN 0) (facR (limb (modN 0) 0)) (r2N (modN 0)), prdE (yU s) < modN 0, prdE (yU s) < 4294967296 ^ 8, uE' (yU s) < 4294967296 ^ 8, (0 : Int) = 0, uE' (yU s) < modN 0, sq' (yU s) = false], .tup [C16 zF, .one (.i 7)]) := by kernel_rfl
theorem r51bf (s : ByteArray) : callR (mkE L51 S51) 1000 51 [sS s] [false, false, true, false] =
  some ([(!decide ((s.size : Int) = 32)) = false, s.size = 32, decide (top7 (leS s) / 2147483648 = 1) = false, (0 : Int) ≤ 0 ∧ (0 : Int) < 4, decide (yU s < modN 0) = true, leS s % 4294967296 < 4294967296, leS s / 4294967296 % 4294967296 < 4294967296, leS s / 4294967296 / 4294967296 % 4294967296 < 4294967296, leS s / 4294967296 / 4294967296 / 4294967296 % 4294967296 < 4294967296, leS s / 4294967296 / 4294967296 / 4294967296 / 4294967296 % 4294967296 < 4294967296, leS s / 4294967296 / 4294967296 / 4294967296 / 4294967296 / 4294967296 % 4294967296 < 4294967296, leS s / 4294967296 / 4294967296 / 4294967296 / 4294967296 / 4294967296 / 4294967296 % 4294967296 < 4294967296, lowT (leS s) < 4294967296, modN 0 < 4294967296 ^ 8, (0 : Int) ≤ 0 ∧ (0 : Int) < 4, 1 < 4294967296, okR (modN 0) (facR (limb (modN 0) 0)) (r2N (modN 0)), 1 < modN 0, 1 < 4294967296 ^ 8, okR (modN 0) (facR (limb (modN 0) 0)) (r2N (modN 0)), yU s < modN 0, leS s % 4294967296 < 4294967296, leS s / 4294967296 % 4294967296 < 4294967296, leS s / 4294967296 / 4294967296 % 4294967296 < 4294967296, leS s / 4294967296 / 4294967296 / 4294967296 % 4294967296 < 4294967296, leS s / 4294967296 / 4294967296 / 4294967296 / 4294967296 % 4294967296 < 4294967296, leS s / 4294967296 / 4294967296 / 4294967296 / 4294967296 / 4294967296 % 4294967296 < 4294967296, leS s / 4294967296 / 4294967296 / 4294967296 / 4294967296 / 4294967296 / 4294967296 % 4294967296 < 4294967296, lowT (leS s) < 4294967296, okR (modN 0) (facR (limb (modN 0) 0)) (r2N (modN 0)), yU s < modN 0, leS s % 4294967296 < 4294967296, leS s / 4294967296 % 4294967296 < 4294967296, leS s / 4294967296 / 4294967296 % 4294967296 < 4294967296, leS s / 4294967296 / 4294967296 / 4294967296 % 4294967296 < 4294967296, leS s / 4294967296 / 4294967296 / 4294967296 / 4294967296 % 4294967296 < 4294967296, leS s / 4294967296 / 4294967296 / 4294967296 / 4294967296 / 4294967296 % 4294967296 < 4294967296, leS s / 4294967296 / 4294967296 / 4294967296 / 4294967296 / 4294967296 / 4294967296 % 4294967296 < 4294967296, lowT (leS s) < 4294967296, okR (modN 0) (facR (limb (modN 0) 0)) (r2N (modN 0)), iyE (yU s) < modN 0, iyE (yU s) < modN 0, iyE (yU s) < 4294967296 ^ 8, iyE (yU s) < 4294967296 ^ 8, okR (modN 0) (facR (limb (modN 0) 0)) (r2N (modN 0)), dN < modN 0, dN < 4294967296 ^ 8, okR (modN 0) (facR (limb (modN 0) 0)) (r2N (modN 0)), iDE < modN 0, yyE (yU s) < modN 0, iDE < 4294967296 ^ 8, yyE (yU s) < 4294967296 ^ 8, okR (modN 0) (facR (limb (modN 0) 0)) (r2N (modN 0)), dyE (yU s) < modN 0, i1E < modN 0, dyE (yU s) < 4294967296 ^ 8, i1E < 4294967296 ^ 8, 2 < 4294967296, modN 0 < 4294967296 ^ 8, 2 < 4294967296 ^ 8, okR (modN 0) (facR (limb (modN 0) 0)) (r2N (modN 0)), yyE (yU s) < modN 0, i1E < modN 0, yyE (yU s) < 4294967296 ^ 8, i1E < 4294967296 ^ 8, okR (modN 0) (facR (limb (modN 0) 0)) (r2N (modN 0)), 1 < modN 0, bwE' (yU s) < modN 0, bwE' (yU s) < 4294967296 ^ 8, subN (modN 0) 2 < 4294967296 ^ 8, okR (modN 0) (facR (limb (modN 0) 0)) (r2N (modN 0)), difE (yU s) < modN 0, vE' (yU s) < modN 0, difE (yU s) < 4294967296 ^ 8, vE' (yU s) < 4294967296 ^ 8, okR (modN 0) (facR (limb (modN 0) 0)) (r2N (modN 0)), prdE (yU s) < modN 0, prdE (yU s) < 4294967296 ^ 8, uE' (yU s) < 4294967296 ^ 8, (0 : Int) = 0, uE' (yU s) < modN 0, sq' (yU s) = false], .tup [C16 zF, .one (.i 7)]) := by kernel_rfl
theorem r51ct (s : ByteArray) : callR (mkE L51 S51) 1000 51 [sS s] [false, true, true, true, true] =
  some ([(!decide ((s.size : Int) = 32)) = false, s.size = 32, decide (top7 (leS s) / 2147483648 = 1) = true, (0 : Int) ≤ 0 ∧ (0 : Int) < 4, decide (yU s < modN 0) = true, leS s % 4294967296 < 4294967296, leS s / 4294967296 % 4294967296 < 4294967296, leS s / 4294967296 / 4294967296 % 4294967296 < 4294967296, leS s / 4294967296 / 4294967296 / 4294967296 % 4294967296 < 4294967296, leS s / 4294967296 / 4294967296 / 4294967296 / 4294967296 % 4294967296 < 4294967296, leS s / 4294967296 / 4294967296 / 4294967296 / 4294967296 / 4294967296 % 4294967296 < 4294967296, leS s / 4294967296 / 4294967296 / 4294967296 / 4294967296 / 4294967296 / 4294967296 % 4294967296 < 4294967296, lowT (leS s) < 4294967296, modN 0 < 4294967296 ^ 8, (0 : Int) ≤ 0 ∧ (0 : Int) < 4, 1 < 4294967296, okR (modN 0) (facR (limb (modN 0) 0)) (r2N (modN 0)), 1 < modN 0, 1 < 4294967296 ^ 8, okR (modN 0) (facR (limb (modN 0) 0)) (r2N (modN 0)), yU s < modN 0, leS s % 4294967296 < 4294967296, leS s / 4294967296 % 4294967296 < 4294967296, leS s / 4294967296 / 4294967296 % 4294967296 < 4294967296, leS s / 4294967296 / 4294967296 / 4294967296 % 4294967296 < 4294967296, leS s / 4294967296 / 4294967296 / 4294967296 / 4294967296 % 4294967296 < 4294967296, leS s / 4294967296 / 4294967296 / 4294967296 / 4294967296 / 4294967296 % 4294967296 < 4294967296, leS s / 4294967296 / 4294967296 / 4294967296 / 4294967296 / 4294967296 / 4294967296 % 4294967296 < 4294967296, lowT (leS s) < 4294967296, okR (modN 0) (facR (limb (modN 0) 0)) (r2N (modN 0)), yU s < modN 0, leS s % 4294967296 < 4294967296, leS s / 4294967296 % 4294967296 < 4294967296, leS s / 4294967296 / 4294967296 % 4294967296 < 4294967296, leS s / 4294967296 / 4294967296 / 4294967296 % 4294967296 < 4294967296, leS s / 4294967296 / 4294967296 / 4294967296 / 4294967296 % 4294967296 < 4294967296, leS s / 4294967296 / 4294967296 / 4294967296 / 4294967296 / 4294967296 % 4294967296 < 4294967296, leS s / 4294967296 / 4294967296 / 4294967296 / 4294967296 / 4294967296 / 4294967296 % 4294967296 < 4294967296, lowT (leS s) < 4294967296, okR (modN 0) (facR (limb (modN 0) 0)) (r2N (modN 0)), iyE (yU s) < modN 0, iyE (yU s) < modN 0, iyE (yU s) < 4294967296 ^ 8, iyE (yU s) < 4294967296 ^ 8, okR (modN 0) (facR (limb (modN 0) 0)) (r2N (modN 0)), dN < modN 0, dN < 4294967296 ^ 8, okR (modN 0) (facR (limb (modN 0) 0)) (r2N (modN 0)), iDE < modN 0, yyE (yU s) < modN 0, iDE < 4294967296 ^ 8, yyE (yU s) < 4294967296 ^ 8, okR (modN 0) (facR (limb (modN 0) 0)) (r2N (modN 0)), dyE (yU s) < modN 0, i1E < modN 0, dyE (yU s) < 4294967296 ^ 8, i1E < 4294967296 ^ 8, 2 < 4294967296, modN 0 < 4294967296 ^ 8, 2 < 4294967296 ^ 8, okR (modN 0) (facR (limb (modN 0) 0)) (r2N (modN 0)), yyE (yU s) < modN 0, i1E < modN 0, yyE (yU s) < 4294967296 ^ 8, i1E < 4294967296 ^ 8, okR (modN 0) (facR (limb (modN 0) 0)) (r2N (modN 0)), 1 < modN 0, bwE' (yU s) < modN 0, bwE' (yU s) < 4294967296 ^ 8, subN (modN 0) 2 < 4294967296 ^ 8, okR (modN 0) (facR (limb (modN 0) 0)) (r2N (modN 0)), difE (yU s) < modN 0, vE' (yU s) < modN 0, difE (yU s) < 4294967296 ^ 8, vE' (yU s) < 4294967296 ^ 8, okR (modN 0) (facR (limb (modN 0) 0)) (r2N (modN 0)), prdE (yU s) < modN 0, prdE (yU s) < 4294967296 ^ 8, uE' (yU s) < 4294967296 ^ 8, (0 : Int) = 0, uE' (yU s) < modN 0, sq' (yU s) = true, isZ (evS (yU s)) = true], .tup [C16 zF, .one (.i 6)]) := by kernel_rfl
theorem r51cf (s : ByteArray) : callR (mkE L51 S51) 1000 51 [sS s] [false, false, true, true, true] =
  some ([(!decide ((s.size : Int) = 32)) = false, s.size = 32, decide (top7 (leS s) / 2147483648 = 1) = false, (0 : Int) ≤ 0 ∧ (0 : Int) < 4, decide (yU s < modN 0) = true, leS s % 4294967296 < 4294967296, leS s / 4294967296 % 4294967296 < 4294967296, leS s / 4294967296 / 4294967296 % 4294967296 < 4294967296, leS s / 4294967296 / 4294967296 / 4294967296 % 4294967296 < 4294967296, leS s / 4294967296 / 4294967296 / 4294967296 / 4294967296 % 4294967296 < 4294967296, leS s / 4294967296 / 4294967296 / 4294967296 / 4294967296 / 4294967296 % 4294967296 < 4294967296, leS s / 4294967296 / 4294967296 / 4294967296 / 4294967296 / 4294967296 / 4294967296 % 4294967296 < 4294967296, lowT (leS s) < 4294967296, modN 0 < 4294967296 ^ 8, (0 : Int) ≤ 0 ∧ (0 : Int) < 4, 1 < 4294967296, okR (modN 0) (facR (limb (modN 0) 0)) (r2N (modN 0)), 1 < modN 0, 1 < 4294967296 ^ 8, okR (modN 0) (facR (limb (modN 0) 0)) (r2N (modN 0)), yU s < modN 0, leS s % 4294967296 < 4294967296, leS s / 4294967296 % 4294967296 < 4294967296, leS s / 4294967296 / 4294967296 % 4294967296 < 4294967296, leS s / 4294967296 / 4294967296 / 4294967296 % 4294967296 < 4294967296, leS s / 4294967296 / 4294967296 / 4294967296 / 4294967296 % 4294967296 < 4294967296, leS s / 4294967296 / 4294967296 / 4294967296 / 4294967296 / 4294967296 % 4294967296 < 4294967296, leS s / 4294967296 / 4294967296 / 4294967296 / 4294967296 / 4294967296 / 4294967296 % 4294967296 < 4294967296, lowT (leS s) < 4294967296, okR (modN 0) (facR (limb (modN 0) 0)) (r2N (modN 0)), yU s < modN 0, leS s % 4294967296 < 4294967296, leS s / 4294967296 % 4294967296 < 4294967296, leS s / 4294967296 / 4294967296 % 4294967296 < 4294967296, leS s / 4294967296 / 4294967296 / 4294967296 % 4294967296 < 4294967296, leS s / 4294967296 / 4294967296 / 4294967296 / 4294967296 % 4294967296 < 4294967296, leS s / 4294967296 / 4294967296 / 4294967296 / 4294967296 / 4294967296 % 4294967296 < 4294967296, leS s / 4294967296 / 4294967296 / 4294967296 / 4294967296 / 4294967296 / 4294967296 % 4294967296 < 4294967296, lowT (leS s) < 4294967296, okR (modN 0) (facR (limb (modN 0) 0)) (r2N (modN 0)), iyE (yU s) < modN 0, iyE (yU s) < modN 0, iyE (yU s) < 4294967296 ^ 8, iyE (yU s) < 4294967296 ^ 8, okR (modN 0) (facR (limb (modN 0) 0)) (r2N (modN 0)), dN < modN 0, dN < 4294967296 ^ 8, okR (modN 0) (facR (limb (modN 0) 0)) (r2N (modN 0)), iDE < modN 0, yyE (yU s) < modN 0, iDE < 4294967296 ^ 8, yyE (yU s) < 4294967296 ^ 8, okR (modN 0) (facR (limb (modN 0) 0)) (r2N (modN 0)), dyE (yU s) < modN 0, i1E < modN 0, dyE (yU s) < 4294967296 ^ 8, i1E < 4294967296 ^ 8, 2 < 4294967296, modN 0 < 4294967296 ^ 8, 2 < 4294967296 ^ 8, okR (modN 0) (facR (limb (modN 0) 0)) (r2N (modN 0)), yyE (yU s) < modN 0, i1E < modN 0, yyE (yU s) < 4294967296 ^ 8, i1E < 4294967296 ^ 8, okR (modN 0) (facR (limb (modN 0) 0)) (r2N (modN 0)), 1 < modN 0, bwE' (yU s) < modN 0, bwE' (yU s) < 4294967296 ^ 8, subN (modN 0) 2 < 4294967296 ^ 8, okR (modN 0) (facR (limb (modN 0) 0)) (r2N (modN 0)), difE (yU s) < modN 0, vE' (yU s) < modN 0, difE (yU s) < 4294967296 ^ 8, vE' (yU s) < 4294967296 ^ 8, okR (modN 0) (facR (limb (modN 0) 0)) (r2N (modN 0)), prdE (yU s) < modN 0, prdE (yU s) < 4294967296 ^ 8, uE' (yU s) < 4294967296 ^ 8, (0 : Int) = 0, uE' (yU s) < modN 0, sq' (yU s) = true, isZ (evS (yU s)) = true], .tup [ptC (evS (yU s)) (leS s), .one (.i 0)]) := by kernel_rfl
theorem r51dt (s : ByteArray) : callR (mkE L51 S51) 1000 51 [sS s] [false, true, true, true, false] =
  some ([(!decide ((s.size : Int) = 32)) = false, s.size = 32, decide (top7 (leS s) / 2147483648 = 1) = true, (0 : Int) ≤ 0 ∧ (0 : Int) < 4, decide (yU s < modN 0) = true, leS s % 4294967296 < 4294967296, leS s / 4294967296 % 4294967296 < 4294967296, leS s / 4294967296 / 4294967296 % 4294967296 < 4294967296, leS s / 4294967296 / 4294967296 / 4294967296 % 4294967296 < 4294967296, leS s / 4294967296 / 4294967296 / 4294967296 / 4294967296 % 4294967296 < 4294967296, leS s / 4294967296 / 4294967296 / 4294967296 / 4294967296 / 4294967296 % 4294967296 < 4294967296, leS s / 4294967296 / 4294967296 / 4294967296 / 4294967296 / 4294967296 / 4294967296 % 4294967296 < 4294967296, lowT (leS s) < 4294967296, modN 0 < 4294967296 ^ 8, (0 : Int) ≤ 0 ∧ (0 : Int) < 4, 1 < 4294967296, okR (modN 0) (facR (limb (modN 0) 0)) (r2N (modN 0)), 1 < modN 0, 1 < 4294967296 ^ 8, okR (modN 0) (facR (limb (modN 0) 0)) (r2N (modN 0)), yU s < modN 0, leS s % 4294967296 < 4294967296, leS s / 4294967296 % 4294967296 < 4294967296, leS s / 4294967296 / 4294967296 % 4294967296 < 4294967296, leS s / 4294967296 / 4294967296 / 4294967296 % 4294967296 < 4294967296, leS s / 4294967296 / 4294967296 / 4294967296 / 4294967296 % 4294967296 < 4294967296, leS s / 4294967296 / 4294967296 / 4294967296 / 4294967296 / 4294967296 % 4294967296 < 4294967296, leS s / 4294967296 / 4294967296 / 4294967296 / 4294967296 / 4294967296 / 4294967296 % 4294967296 < 4294967296, lowT (leS s) < 4294967296, okR (modN 0) (facR (limb (modN 0) 0)) (r2N (modN 0)), yU s < modN 0, leS s % 4294967296 < 4294967296, leS s / 4294967296 % 4294967296 < 4294967296, leS s / 4294967296 / 4294967296 % 4294967296 < 4294967296, leS s / 4294967296 / 4294967296 / 4294967296 % 4294967296 < 4294967296, leS s / 4294967296 / 4294967296 / 4294967296 / 4294967296 % 4294967296 < 4294967296, leS s / 4294967296 / 4294967296 / 4294967296 / 4294967296 / 4294967296 % 4294967296 < 4294967296, leS s / 4294967296 / 4294967296 / 4294967296 / 4294967296 / 4294967296 / 4294967296 % 4294967296 < 4294967296, lowT (leS s) < 4294967296, okR (modN 0) (facR (limb (modN 0) 0)) (r2N (modN 0)), iyE (yU s) < modN 0, iyE (yU s) < modN 0, iyE (yU s) < 4294967296 ^ 8, iyE (yU s) < 4294967296 ^ 8, okR (modN 0) (facR (limb (modN 0) 0)) (r2N (modN 0)), dN < modN 0, dN < 4294967296 ^ 8, okR (modN 0) (facR (limb (modN 0) 0)) (r2N (modN 0)), iDE < modN 0, yyE (yU s) < modN 0, iDE < 4294967296 ^ 8, yyE (yU s) < 4294967296 ^ 8, okR (modN 0) (facR (limb (modN 0) 0)) (r2N (modN 0)), dyE (yU s) < modN 0, i1E < modN 0, dyE (yU s) < 4294967296 ^ 8, i1E < 4294967296 ^ 8, 2 < 4294967296, modN 0 < 4294967296 ^ 8, 2 < 4294967296 ^ 8, okR (modN 0) (facR (limb (modN 0) 0)) (r2N (modN 0)), yyE (yU s) < modN 0, i1E < modN 0, yyE (yU s) < 4294967296 ^ 8, i1E < 4294967296 ^ 8, okR (modN 0) (facR (limb (modN 0) 0)) (r2N (modN 0)), 1 < modN 0, bwE' (yU s) < modN 0, bwE' (yU s) < 4294967296 ^ 8, subN (modN 0) 2 < 4294967296 ^ 8, okR (modN 0) (facR (limb (modN 0) 0)) (r2N (modN 0)), difE (yU s) < modN 0, vE' (yU s) < modN 0, difE (yU s) < 4294967296 ^ 8, vE' (yU s) < 4294967296 ^ 8, okR (modN 0) (facR (limb (modN 0) 0)) (r2N (modN 0)), prdE (yU s) < modN 0, prdE (yU s) < 4294967296 ^ 8, uE' (yU s) < 4294967296 ^ 8, (0 : Int) = 0, uE' (yU s) < modN 0, sq' (yU s) = true, isZ (evS (yU s)) = false, modN 0 < 4294967296 ^ 8, evS (yU s) < 4294967296 ^ 8], .tup [ptC (subN (modN 0) (evS (yU s))) (leS s), .one (.i 0)]) := by kernel_rfl
theorem r51df (s : ByteArray) : callR (mkE L51 S51) 1000 51 [sS s] [false, false, true, true, false] =
  some ([(!decide ((s.size : Int) = 32)) = false, s.size = 32, decide (top7 (leS s) / 2147483648 = 1) = false, (0 : Int) ≤ 0 ∧ (0 : Int) < 4, decide (yU s < modN 0) = true, leS s % 4294967296 < 4294967296, leS s / 4294967296 % 4294967296 < 4294967296, leS s / 4294967296 / 4294967296 % 4294967296 < 4294967296, leS s / 4294967296 / 4294967296 / 4294967296 % 4294967296 < 4294967296, leS s / 4294967296 / 4294967296 / 4294967296 / 4294967296 % 4294967296 < 4294967296, leS s / 4294967296 / 4294967296 / 4294967296 / 4294967296 / 4294967296 % 4294967296 < 4294967296, leS s / 4294967296 / 4294967296 / 4294967296 / 4294967296 / 4294967296 / 4294967296 % 4294967296 < 4294967296, lowT (leS s) < 4294967296, modN 0 < 4294967296 ^ 8, (0 : Int) ≤ 0 ∧ (0 : Int) < 4, 1 < 4294967296, okR (modN 0) (facR (limb (modN 0) 0)) (r2N (modN 0)), 1 < modN 0, 1 < 4294967296 ^ 8, okR (modN 0) (facR (limb (modN 0) 0)) (r2N (modN 0)), yU s < modN 0, leS s % 4294967296 < 4294967296, leS s / 4294967296 % 4294967296 < 4294967296, leS s / 4294967296 / 4294967296 % 4294967296 < 4294967296, leS s / 4294967296 / 4294967296 / 4294967296 % 4294967296 < 4294967296, leS s / 4294967296 / 4294967296 / 4294967296 / 4294967296 % 4294967296 < 4294967296, leS s / 4294967296 / 4294967296 / 4294967296 / 4294967296 / 4294967296 % 4294967296 < 4294967296, leS s / 4294967296 / 4294967296 / 4294967296 / 4294967296 / 4294967296 / 4294967296 % 4294967296 < 4294967296, lowT (leS s) < 4294967296, okR (modN 0) (facR (limb (modN 0) 0)) (r2N (modN 0)), yU s < modN 0, leS s % 4294967296 < 4294967296, leS s / 4294967296 % 4294967296 < 4294967296, leS s / 4294967296 / 4294967296 % 4294967296 < 4294967296, leS s / 4294967296 / 4294967296 / 4294967296 % 4294967296 < 4294967296, leS s / 4294967296 / 4294967296 / 4294967296 / 4294967296 % 4294967296 < 4294967296, leS s / 4294967296 / 4294967296 / 4294967296 / 4294967296 / 4294967296 % 4294967296 < 4294967296, leS s / 4294967296 / 4294967296 / 4294967296 / 4294967296 / 4294967296 / 4294967296 % 4294967296 < 4294967296, lowT (leS s) < 4294967296, okR (modN 0) (facR (limb (modN 0) 0)) (r2N (modN 0)), iyE (yU s) < modN 0, iyE (yU s) < modN 0, iyE (yU s) < 4294967296 ^ 8, iyE (yU s) < 4294967296 ^ 8, okR (modN 0) (facR (limb (modN 0) 0)) (r2N (modN 0)), dN < modN 0, dN < 4294967296 ^ 8, okR (modN 0) (facR (limb (modN 0) 0)) (r2N (modN 0)), iDE < modN 0, yyE (yU s) < modN 0, iDE < 4294967296 ^ 8, yyE (yU s) < 4294967296 ^ 8, okR (modN 0) (facR (limb (modN 0) 0)) (r2N (modN 0)), dyE (yU s) < modN 0, i1E < modN 0, dyE (yU s) < 4294967296 ^ 8, i1E < 4294967296 ^ 8, 2 < 4294967296, modN 0 < 4294967296 ^ 8, 2 < 4294967296 ^ 8, okR (modN 0) (facR (limb (modN 0) 0)) (r2N (modN 0)), yyE (yU s) < modN 0, i1E < modN 0, yyE (yU s) < 4294967296 ^ 8, i1E < 4294967296 ^ 8, okR (modN 0) (facR (limb (modN 0) 0)) (r2N (modN 0)), 1 < modN 0, bwE' (yU s) < modN 0, bwE' (yU s) < 4294967296 ^ 8, subN (modN 0) 2 < 4294967296 ^ 8, okR (modN 0) (facR (limb (modN 0) 0)) (r2N (modN 0)), difE (yU s) < modN 0, vE' (yU s) < modN 0, difE (yU s) < 4294967296 ^ 8, vE' (yU s) < 4294967296 ^ 8, okR (modN 0) (facR (limb (modN 0) 0)) (r2N (modN 0)), prdE (yU s) < modN 0, prdE (yU s) < 4294967296 ^ 8, uE' (yU s) < 4294967296 ^ 8, (0 : Int) = 0, uE' (yU s) < modN 0, sq' (yU s) = true, isZ (evS (yU s)) = false], .tup [ptC (evS (yU s)) (leS s), .one (.i 0)]) := by kernel_rfl
end Go.Ev

namespace Go.Ev
open Go Go.Proofs Go.RowKit
theorem uE_eq (y : Nat) : uE' y = uE y := by
  unfold uE' uE bwE' bwE addM
  rw [Nat.add_comm]
theorem evS_t {s : ByteArray} (h : sqU s = true) : evS (yU s) = evU s := by
  have h' : sqB 0 (uE (yU s)) = true := h
  unfold evS; rw [uE_eq, h', cond_true]; rfl
theorem odd'_eq (s : ByteArray) (h : s.size = 32) : decide (top7 (leS s) / 2147483648 = 1) = oddU s := by
  have hl := leS_lt s
  rw [h] at hl
  obtain ⟨h1, h2⟩ := top7_eq (leS s) (by omega)
  unfold oddU
  rw [h1, Nat.div_div_eq_div_mul]
theorem neg_eq {a : Nat} (h0 : a ≠ 0) (h : a < modN 0) : subN (modN 0) a = subM (modN 0) 0 a := by
  have hm := modN_lt 0
  unfold subN subM
  rw [show modN 0 + 4294967296 ^ 8 - a = (modN 0 - a) + 4294967296 ^ 8 by omega, Nat.add_mod_right, Nat.mod_eq_of_lt (by omega), Nat.mod_eq_of_lt (by omega)]
  omega
theorem spec51u (s : ByteArray) : Spec 51 [sS s] (.tup [P2 (unpX s) (unpY s), .one (.i (unpE s))]) := by
  have hE0 : ∀ {z : Int}, unpE s = z → z ≠ 0 → unpX s = 0 ∧ unpY s = 0 := fun h h0 => unp_err s h h0
  by_cases h : s.size = 32
  · have ho := odd'_eq s h
    by_cases hy : yU s < modN 0
    · have hy' : decide (yU s < modN 0) = true := decide_eq_true hy
      have hev : evU s < modN 0 := evC_lt (by decide)
      have hq : sq' (yU s) = sqU s := by unfold sq' sqU; rw [uE_eq]
      cases hs : sqU s with
      | false =>
        have e : unpE s = 7 := by unfold unpE; rw [decide_eq_true h, hy', hs]; rfl
        obtain ⟨e1, e2⟩ := hE0 e (by decide)
        rw [e, e1, e2]
        cases hod : oddU s with
        | true => exact (spec_run (envMk L51_ok S51) rfl (r51bt s) ⟨by rw [decide_eq_true (show (s.size : Int) = 32 by omega)]; rfl, h, by rw [ho, hod], by decide, hy', mdW _, mdW _, mdW _, mdW _, mdW _, mdW _, mdW _, lowT_lt _, modN_lt 0, by decide, by decide, okR_K (k := 0) (by decide), modN_one 0, by decide, okR_K (k := 0) (by decide), hy, mdW _, mdW _, mdW _, mdW _, mdW _, mdW _, mdW _, lowT_lt _, okR_K (k := 0) (by decide), hy, mdW _, mdW _, mdW _, mdW _, mdW _, mdW _, mdW _, lowT_lt _, okR_K (k := 0) (by decide), inN_lt (modN_pos 0), inN_lt (modN_pos 0), L8 (inN_lt (modN_pos 0)), L8 (inN_lt (modN_pos 0)), okR_K (k := 0) (by decide), dN_lt, L8 dN_lt, okR_K (k := 0) (by decide), inN_lt (modN_pos 0), mmN_lt (modN_pos 0), L8 (inN_lt (modN_pos 0)), L8 (mmN_lt (modN_pos 0)), okR_K (k := 0) (by decide), mmN_lt (modN_pos 0), inN_lt (modN_pos 0), L8 (mmN_lt (modN_pos 0)), L8 (inN_lt (modN_pos 0)), by decide, modN_lt 0, by decide, okR_K (k := 0) (by decide), mmN_lt (modN_pos 0), inN_lt (modN_pos 0), L8 (mmN_lt (modN_pos 0)), L8 (inN_lt (modN_pos 0)), okR_K (k := 0) (by decide), modN_one 0, addM_lt (modN_pos 0), L8 (addM_lt (modN_pos 0)), subN_lt _ _, okR_K (k := 0) (by decide), subM_lt (modN_pos 0), mpowN_lt (modN_pos 0), L8 (subM_lt (modN_pos 0)), L8 (mpowN_lt (modN_pos 0)), okR_K (k := 0) (by decide), mmN_lt (modN_pos 0), L8 (mmN_lt (modN_pos 0)), L8 (outN_lt (modN_pos 0)), rfl, outN_lt (modN_pos 0), by rw [hq, hs], trivial⟩ rfl rfl).congr (fun _ => rfl) (fun φ => err_conc φ 7)
        | false => exact (spec_run (envMk L51_ok S51) rfl (r51bf s) ⟨by rw [decide_eq_true (show (s.size : Int) = 32 by omega)]; rfl, h, by rw [ho, hod], by decide, hy', mdW _, mdW _, mdW _, mdW _, mdW _, mdW _, mdW _, lowT_lt _, modN_lt 0, by decide, by decide, okR_K (k := 0) (by decide), modN_one 0, by decide, okR_K (k := 0) (by decide), hy, mdW _, mdW _, mdW _, mdW _, mdW _, mdW _, mdW _, lowT_lt _, okR_K (k := 0) (by decide), hy, mdW _, mdW _, mdW _, mdW _, mdW _, mdW _, mdW _, lowT_lt _, okR_K (k := 0) (by decide), inN_lt (modN_pos 0), inN_lt (modN_pos 0), L8 (inN_lt (modN_pos 0)), L8 (inN_lt (modN_pos 0)), okR_K (k := 0) (by decide), dN_lt, L8 dN_lt, okR_K (k := 0) (by decide), inN_lt (modN_pos 0), mmN_lt (modN_pos 0), L8 (inN_lt (modN_pos 0)), L8 (mmN_lt (modN_pos 0)), okR_K (k := 0) (by decide), mmN_lt (modN_pos 0), inN_lt (modN_pos 0), L8 (mmN_lt (modN_pos 0)), L8 (inN_lt (modN_pos 0)), by decide, modN_lt 0, by decide, okR_K (k := 0) (by decide), mmN_lt (modN_pos 0), inN_lt (modN_pos 0), L8 (mmN_lt (modN_pos 0)), L8 (inN_lt (modN_pos 0)), okR_K (k := 0) (by decide), modN_one 0, addM_lt (modN_pos 0), L8 (addM_lt (modN_pos 0)), subN_lt _ _, okR_K (k := 0) (by decide), subM_lt (modN_pos 0), mpowN_lt (modN_pos 0), L8 (subM_lt (modN_pos 0)), L8 (mpowN_lt (modN_pos 0)), okR_K (k := 0) (by decide), mmN_lt (modN_pos 0), L8 (mmN_lt (modN_pos 0)), L8 (outN_lt (modN_pos 0)), rfl, outN_lt (modN_pos 0), by rw [hq, hs], trivial⟩ rfl rfl).congr (fun _ => rfl) (fun φ => err_conc φ 7)
      | true =>
        have hevs := evS_t hs
        cases hod : oddU s with
        | true =>
          by_cases hz : evU s = 0
          · have e : unpE s = 6 := by unfold unpE; rw [decide_eq_true h, hy', hs, hod, decide_eq_true hz]; rfl
            obtain ⟨e1, e2⟩ := hE0 e (by decide)
            rw [e, e1, e2]
            exact (spec_run (envMk L51_ok S51) rfl (r51ct s) ⟨by rw [decide_eq_true (show (s.size : Int) = 32 by omega)]; rfl, h, by rw [ho, hod], by decide, hy', mdW _, mdW _, mdW _, mdW _, mdW _, mdW _, mdW _, lowT_lt _, modN_lt 0, by decide, by decide, okR_K (k := 0) (by decide), modN_one 0, by decide, okR_K (k := 0) (by decide), hy, mdW _, mdW _, mdW _, mdW _, mdW _, mdW _, mdW _, lowT_lt _, okR_K (k := 0) (by decide), hy, mdW _, mdW _, mdW _, mdW _, mdW _, mdW _, mdW _, lowT_lt _, okR_K (k := 0) (by decide), inN_lt (modN_pos 0), inN_lt (modN_pos 0), L8 (inN_lt (modN_pos 0)), L8 (inN_lt (modN_pos 0)), okR_K (k := 0) (by decide), dN_lt, L8 dN_lt, okR_K (k := 0) (by decide), inN_lt (modN_pos 0), mmN_lt (modN_pos 0), L8 (inN_lt (modN_pos 0)), L8 (mmN_lt (modN_pos 0)), okR_K (k := 0) (by decide), mmN_lt (modN_pos 0), inN_lt (modN_pos 0), L8 (mmN_lt (modN_pos 0)), L8 (inN_lt (modN_pos 0)), by decide, modN_lt 0, by decide, okR_K (k := 0) (by decide), mmN_lt (modN_pos 0), inN_lt (modN_pos 0), L8 (mmN_lt (modN_pos 0)), L8 (inN_lt (modN_pos 0)), okR_K (k := 0) (by decide), modN_one 0, addM_lt (modN_pos 0), L8 (addM_lt (modN_pos 0)), subN_lt _ _, okR_K (k := 0) (by decide), subM_lt (modN_pos 0), mpowN_lt (modN_pos 0), L8 (subM_lt (modN_pos 0)), L8 (mpowN_lt (modN_pos 0)), okR_K (k := 0) (by decide), mmN_lt (modN_pos 0), L8 (mmN_lt (modN_pos 0)), L8 (outN_lt (modN_pos 0)), rfl, outN_lt (modN_pos 0), by rw [hq, hs], by rw [hevs, isZ_iff _ (L8 hev)]; exact decide_eq_true hz, trivial⟩ rfl rfl).congr (fun _ => rfl) (fun φ => err_conc φ 6)
          · have e : unpE s = 0 := by unfold unpE; rw [decide_eq_true h, hy', hs, hod, decide_eq_false hz]; rfl
            obtain ⟨e1, e2⟩ := unp_ok s e
            rw [e, e1, e2, hod, cond_true, ← neg_eq hz hev]
            have := (spec_run (envMk L51_ok S51) rfl (r51dt s) ⟨by rw [decide_eq_true (show (s.size : Int) = 32 by omega)]; rfl, h, by rw [ho, hod], by decide, hy', mdW _, mdW _, mdW _, mdW _, mdW _, mdW _, mdW _, lowT_lt _, modN_lt 0, by decide, by decide, okR_K (k := 0) (by decide), modN_one 0, by decide, okR_K (k := 0) (by decide), hy, mdW _, mdW _, mdW _, mdW _, mdW _, mdW _, mdW _, lowT_lt _, okR_K (k := 0) (by decide), hy, mdW _, mdW _, mdW _, mdW _, mdW _, mdW _, mdW _, lowT_lt _, okR_K (k := 0) (by decide), inN_lt (modN_pos 0), inN_lt (modN_pos 0), L8 (inN_lt (modN_pos 0)), L8 (inN_lt (modN_pos 0)), okR_K (k := 0) (by decide), dN_lt, L8 dN_lt, okR_K (k := 0) (by decide), inN_lt (modN_pos 0), mmN_lt (modN_pos 0), L8 (inN_lt (modN_pos 0)), L8 (mmN_lt (modN_pos 0)), okR_K (k := 0) (by decide), mmN_lt (modN_pos 0), inN_lt (modN_pos 0), L8 (mmN_lt (modN_pos 0)), L8 (inN_lt (modN_pos 0)), by decide, modN_lt 0, by decide, okR_K (k := 0) (by decide), mmN_lt (modN_pos 0), inN_lt (modN_pos 0), L8 (mmN_lt (modN_pos 0)), L8 (inN_lt (modN_pos 0)), okR_K (k := 0) (by decide), modN_one 0, addM_lt (modN_pos 0), L8 (addM_lt (modN_pos 0)), subN_lt _ _, okR_K (k := 0) (by decide), subM_lt (modN_pos 0), mpowN_lt (modN_pos 0), L8 (subM_lt (modN_pos 0)), L8 (mpowN_lt (modN_pos 0)), okR_K (k := 0) (by decide), mmN_lt (modN_pos 0), L8 (mmN_lt (modN_pos 0)), L8 (outN_lt (modN_pos 0)), rfl, outN_lt (modN_pos 0), by rw [hq, hs], by rw [hevs, isZ_iff _ (L8 hev)]; exact decide_eq_false hz, modN_lt 0, by rw [hevs]; exact L8 hev, trivial⟩ rfl rfl).congr (fun _ => rfl) (fun φ => res_conc φ _ s)
            rw [hevs] at this
            exact this
        | false =>
          have e : unpE s = 0 := by unfold unpE; rw [decide_eq_true h, hy', hs, hod]; rfl
          obtain ⟨e1, e2⟩ := unp_ok s e
          rw [e, e1, e2, hod, cond_false]
          rw [← hevs]
          by_cases hz : evU s = 0
          · exact (spec_run (envMk L51_ok S51) rfl (r51cf s) ⟨by rw [decide_eq_true (show (s.size : Int) = 32 by omega)]; rfl, h, by rw [ho, hod], by decide, hy', mdW _, mdW _, mdW _, mdW _, mdW _, mdW _, mdW _, lowT_lt _, modN_lt 0, by decide, by decide, okR_K (k := 0) (by decide), modN_one 0, by decide, okR_K (k := 0) (by decide), hy, mdW _, mdW _, mdW _, mdW _, mdW _, mdW _, mdW _, lowT_lt _, okR_K (k := 0) (by decide), hy, mdW _, mdW _, mdW _, mdW _, mdW _, mdW _, mdW _, lowT_lt _, okR_K (k := 0) (by decide), inN_lt (modN_pos 0), inN_lt (modN_pos 0), L8 (inN_lt (modN_pos 0)), L8 (inN_lt (modN_pos 0)), okR_K (k := 0) (by decide), dN_lt, L8 dN_lt, okR_K (k := 0) (by decide), inN_lt (modN_pos 0), mmN_lt (modN_pos 0), L8 (inN_lt (modN_pos 0)), L8 (mmN_lt (modN_pos 0)), okR_K (k := 0) (by decide), mmN_lt (modN_pos 0), inN_lt (modN_pos 0), L8 (mmN_lt (modN_pos 0)), L8 (inN_lt (modN_pos 0)), by decide, modN_lt 0, by decide, okR_K (k := 0) (by decide), mmN_lt (modN_pos 0), inN_lt (modN_pos 0), L8 (mmN_lt (modN_pos 0)), L8 (inN_lt (modN_pos 0)), okR_K (k := 0) (by decide), modN_one 0, addM_lt (modN_pos 0), L8 (addM_lt (modN_pos 0)), subN_lt _ _, okR_K (k := 0) (by decide), subM_lt (modN_pos 0), mpowN_lt (modN_pos 0), L8 (subM_lt (modN_pos 0)), L8 (mpowN_lt (modN_pos 0)), okR_K (k := 0) (by decide), mmN_lt (modN_pos 0), L8 (mmN_lt (modN_pos 0)), L8 (outN_lt (modN_pos 0)), rfl, outN_lt (modN_pos 0), by rw [hq, hs], by rw [hevs, isZ_iff _ (L8 hev)]; exact decide_eq_true hz, trivial⟩ rfl rfl).congr (fun _ => rfl) (fun φ => res_conc φ _ s)
          · exact (spec_run (envMk L51_ok S51) rfl (r51df s) ⟨by rw [decide_eq_true (show (s.size : Int) = 32 by omega)]; rfl, h, by rw [ho, hod], by decide, hy', mdW _, mdW _, mdW _, mdW _, mdW _, mdW _, mdW _, lowT_lt _, modN_lt 0, by decide, by decide, okR_K (k := 0) (by decide), modN_one 0, by decide, okR_K (k := 0) (by decide), hy, mdW _, mdW _, mdW _, mdW _, mdW _, mdW _, mdW _, lowT_lt _, okR_K (k := 0) (by decide), hy, mdW _, mdW _, mdW _, mdW _, mdW _, mdW _, mdW _, lowT_lt _, okR_K (k := 0) (by decide), inN_lt (modN_pos 0), inN_lt (modN_pos 0), L8 (inN_lt (modN_pos 0)), L8 (inN_lt (modN_pos 0)), okR_K (k := 0) (by decide), dN_lt, L8 dN_lt, okR_K (k := 0) (by decide), inN_lt (modN_pos 0), mmN_lt (modN_pos 0), L8 (inN_lt (modN_pos 0)), L8 (mmN_lt (modN_pos 0)), okR_K (k := 0) (by decide), mmN_lt (modN_pos 0), inN_lt (modN_pos 0), L8 (mmN_lt (modN_pos 0)), L8 (inN_lt (modN_pos 0)), by decide, modN_lt 0, by decide, okR_K (k := 0) (by decide), mmN_lt (modN_pos 0), inN_lt (modN_pos 0), L8 (mmN_lt (modN_pos 0)), L8 (inN_lt (modN_pos 0)), okR_K (k := 0) (by decide), modN_one 0, addM_lt (modN_pos 0), L8 (addM_lt (modN_pos 0)), subN_lt _ _, okR_K (k := 0) (by decide), subM_lt (modN_pos 0), mpowN_lt (modN_pos 0), L8 (subM_lt (modN_pos 0)), L8 (mpowN_lt (modN_pos 0)), okR_K (k := 0) (by decide), mmN_lt (modN_pos 0), L8 (mmN_lt (modN_pos 0)), L8 (outN_lt (modN_pos 0)), rfl, outN_lt (modN_pos 0), by rw [hq, hs], by rw [hevs, isZ_iff _ (L8 hev)]; exact decide_eq_false hz, trivial⟩ rfl rfl).congr (fun _ => rfl) (fun φ => res_conc φ _ s)
    · have hy' : decide (yU s < modN 0) = false := decide_eq_false hy
      have e : unpE s = 6 := by unfold unpE; rw [decide_eq_true h, hy']; rfl
      obtain ⟨e1, e2⟩ := hE0 e (by decide)
      rw [e, e1, e2]
      cases hod : oddU s with
      | true => exact (spec_run (envMk L51_ok S51) rfl (r51at s) ⟨by rw [decide_eq_true (show (s.size : Int) = 32 by omega)]; rfl, h, by rw [ho, hod], by decide, hy', mdW _, mdW _, mdW _, mdW _, mdW _, mdW _, mdW _, lowT_lt _, modN_lt 0, trivial⟩ rfl rfl).congr (fun _ => rfl) (fun φ => err_conc φ 6)
      | false => exact (spec_run (envMk L51_ok S51) rfl (r51af s) ⟨by rw [decide_eq_true (show (s.size : Int) = 32 by omega)]; rfl, h, by rw [ho, hod], by decide, hy', mdW _, mdW _, mdW _, mdW _, mdW _, mdW _, mdW _, lowT_lt _, modN_lt 0, trivial⟩ rfl rfl).congr (fun _ => rfl) (fun φ => err_conc φ 6)
  · have e : unpE s = 1 := by unfold unpE; rw [decide_eq_false h]; rfl
    obtain ⟨e1, e2⟩ := hE0 e (by decide)
    rw [e, e1, e2]
    exact (spec_run (envMk L51_ok S51) rfl (r51n s) ⟨by rw [decide_eq_false (show ¬ (s.size : Int) = 32 by omega)]; rfl, trivial⟩ rfl rfl).congr (fun _ => rfl) (fun φ => err_conc φ 1)
end Go.Ev

namespace Go.Ev
open Go Go.Proofs Go.RowKit
noncomputable def gP82 : List Val → Option (List Prop × AV)
  | [.n x, .n y] => some ([onE x y = true], .val (sS (packB x y)))
  | _ => none
theorem mod0_lt : modN 0 < 57896044618658097711785492504343953926634992332820282019728792003956564819968 := by decide +kernel
theorem ct82p : CTok ⟨49, fnS [.s [.n8, .n8]] gP82⟩ := ctS (by
  intro xs ob r hb h ho
  unfold gP82 at h
  split at h
  · simp only [Option.some.injEq, Prod.mk.injEq] at h
    obtain ⟨rfl, rfl⟩ := h
    exact spec82s _ _ (Nat.lt_trans (onE_lt ho.1).2 mod0_lt)
  · simp at h)
theorem ct48p : CTok ⟨25, fnS [.s [.n8, .n8]] gP82⟩ := ctS (by
  intro xs ob r hb h ho
  unfold gP82 at h
  split at h
  · simp only [Option.some.injEq, Prod.mk.injEq] at h
    obtain ⟨rfl, rfl⟩ := h
    exact spec48s _ _ (Nat.lt_trans (onE_lt ho.1).2 mod0_lt)
  · simp at h)
noncomputable def fnUnp (vs : List V1) : Option (List Prop × AV) := match vs with | [.one (.v (.string s))] => some ([], .tup [P2 (unpX s) (unpY s), .one (.i (unpE s))]) | _ => none
theorem ct50u : CTok ⟨45, fnUnp⟩ := by
  intro vs ob r h ho
  simp only [fnUnp] at h
  split at h
  · simp only [Option.some.injEq, Prod.mk.injEq] at h
    obtain ⟨_, rfl⟩ := h
    exact spec50u _
  · simp at h
theorem ct51u : CTok ⟨51, fnUnp⟩ := by
  intro vs ob r h ho
  simp only [fnUnp] at h
  split at h
  · simp only [Option.some.injEq, Prod.mk.injEq] at h
    obtain ⟨_, rfl⟩ := h
    exact spec51u _
  · simp at h
noncomputable def LPk : List CT := ⟨25, fnS [.s [.n8, .n8]] gP82⟩ :: ⟨45, fnUnp⟩ :: ⟨51, fnUnp⟩ :: L9a
theorem LPk_ok : AllCT LPk := ⟨ct48p, ct50u, ct51u, L9a_ok⟩
end Go.Ev

