/- Keyed sums, nodes, and the law, of every input; Bytes of numbers and of points -/
import Derived.Test.YtfcobjhnkghdjaaGreatPartO
import Derived.Test.YtfcobjhnkghdjaaGreatPartN
import Derived.Test.YtfcobjhnkghdjaaGreatPartJ
namespace Go.Ev.H5
open Go Go.Proofs Go.RowKit
def bB (l : List Nat) : Blk := ⟨[.arr .u8 l], 5, true, false, 0⟩
def u8V (x : Nat) : AV := .val (.one (.u .u8 x))
def slV (n : Nat) : AV := .val (.one (.sl 0 0 n n))
noncomputable def S86 : FuncId → Nat → Bool := fun f t => match f with | 86 => memN t [2000010, 2000013, 2000022, 4000025, 2000028, 21, 25, 17, 26] | 52 => memN t [2000010, 13, 19, 21, 24, 25, 4000025, 30, 2000031, 34, 4000034, 15, 2000036] | _ => false
noncomputable def E86 : Env := { E0 with S := S86 }
theorem envE86 : EnvOK E86 := ⟨mixed, envE0.fns, envE0.fms, envE0.lps, envE0.fbs⟩
def T86 (x : Nat) (i : Int) : List AV := slots 29 [(2, u8V x), (7, slV 128), (15, iV 128), (16, iV i)]
def T52 (k : ByteArray) (x : Nat) (i : Int) : List AV := slots 37 [(0, .val (sS k)), (1, iV 128), (2, u8V x), (7, slV 128), (8, iV i)]
end Go.Ev.H5

namespace Go.Ev.H5
open Go Go.Proofs Go.RowKit
set_option maxRecDepth 100000
def xr (a x : Nat) : Nat := a % 256 ^^^ x % 256
theorem t86 (x i : Nat) (l : List Nat) : runTo E86 1000 (E86.S 86) (bodyOf Tryz.prog 86 4) (T86 x (i : Int)) [bB l] [true] (T86 x ((i : Int) + 1)) 1 =
  some ([decide ((i : Int) < 128) = true, (0 : Int) ≤ (i : Int) ∧ (i : Int) < ((128 : Nat) : Int), 0 + i * 1 < l.length, (0 : Int) ≤ (i : Int) ∧ (i : Int) < ((128 : Nat) : Int), 0 + i * 1 < l.length, inI ((i : Int) + 1)], .normal, T86 x ((i : Int) + 1), [bB (l.set (0 + i * 1) (xr (l.getD (0 + i * 1) 0) x))]) := by kernel_rfl
theorem x86 (x i : Nat) (l : List Nat) : runTo E86 1000 (E86.S 86) (bodyOf Tryz.prog 86 4) (T86 x (i : Int)) [bB l] [false] (T86 x (i : Int)) 1 =
  some ([decide ((i : Int) < 128) = false], .exit 0, T86 x (i : Int), [bB l]) := by kernel_rfl
def kb (k : ByteArray) (j : Nat) : Nat := (k.data.getD j 0).toNat
theorem t52a (k : ByteArray) (x i : Nat) (l : List Nat) : runTo E86 1000 (E86.S 52) (bodyOf Tryz.prog 52 3) (T52 k x (i : Int)) [bB l] [true, true] (T52 k x ((i : Int) + 1)) 1 =
  some ([decide ((i : Int) < 128) = true, decide ((i : Int) < (k.size : Int)) = true, (0 : Int) ≤ (i : Int) ∧ (i : Int) < (k.size : Int), (0 : Int) ≤ (i : Int) ∧ (i : Int) < ((128 : Nat) : Int), 0 + i * 1 < l.length, (0 : Int) ≤ (i : Int) ∧ (i : Int) < ((128 : Nat) : Int), 0 + i * 1 < (l.set (0 + i * 1) (kb k i)).length, (0 : Int) ≤ (i : Int) ∧ (i : Int) < ((128 : Nat) : Int), 0 + i * 1 < (l.set (0 + i * 1) (kb k i)).length, inI ((i : Int) + 1)], .normal, T52 k x ((i : Int) + 1), [bB ((l.set (0 + i * 1) (kb k i)).set (0 + i * 1) (xr ((l.set (0 + i * 1) (kb k i)).getD (0 + i * 1) 0) x))]) := by kernel_rfl
theorem t52b (k : ByteArray) (x i : Nat) (l : List Nat) : runTo E86 1000 (E86.S 52) (bodyOf Tryz.prog 52 3) (T52 k x (i : Int)) [bB l] [true, false] (T52 k x ((i : Int) + 1)) 1 =
  some ([decide ((i : Int) < 128) = true, decide ((i : Int) < (k.size : Int)) = false, (0 : Int) ≤ (i : Int) ∧ (i : Int) < ((128 : Nat) : Int), 0 + i * 1 < l.length, (0 : Int) ≤ (i : Int) ∧ (i : Int) < ((128 : Nat) : Int), 0 + i * 1 < l.length, inI ((i : Int) + 1)], .normal, T52 k x ((i : Int) + 1), [bB (l.set (0 + i * 1) (xr (l.getD (0 + i * 1) 0) x))]) := by kernel_rfl
theorem x52 (k : ByteArray) (x i : Nat) (l : List Nat) : runTo E86 1000 (E86.S 52) (bodyOf Tryz.prog 52 3) (T52 k x (i : Int)) [bB l] [false] (T52 k x (i : Int)) 1 =
  some ([decide ((i : Int) < 128) = false], .exit 0, T52 k x (i : Int), [bB l]) := by kernel_rfl
noncomputable def E86L (x : Nat) (l0 l1 : List Nat) : Env := addLp E86 4 (bodyOf Tryz.prog 86 4) (sumC (T86 x 0) [bB l0] (T86 x 128) [bB l1] (.exit 0))
noncomputable def E52L (k : ByteArray) (x : Nat) (l0 l1 : List Nat) : Env := addLp E86 3 (bodyOf Tryz.prog 52 3) (sumC (T52 k x 0) [bB l0] (T52 k x 128) [bB l1] (.exit 0))
def rep0 : List Nat := List.replicate 128 0
theorem r86 (x : Nat) (k : ByteArray) (l0 l1 : List Nat) : callR (E86L x l0 l1) 1000 86 [sS k, .one (.i 128), .one (.u .u8 x)] [] =
  some ([(0 : Int) ≤ 128 ∧ (128 : Int) = 128 ∧ (128 : Int) ≤ 140737488355328, 0 = 0 ∧ 128 = rep0.length ∧ k.size ≤ 128, bodyOf Tryz.prog 86 4 = bodyOf Tryz.prog 86 4, (T86 x 0, [bB (numsB k ++ List.drop k.size rep0)]) = (T86 x 0, [bB l0]), wfS (T86 x 0) [bB l0] = true, 0 = 0 ∧ 128 = l1.length], .val (sS (strOf l1))) := by kernel_rfl
theorem r52 (x : Nat) (k : ByteArray) (l0 l1 : List Nat) : callR (E52L k x l0 l1) 1000 52 [sS k, .one (.i 128), .one (.u .u8 x)] [] =
  some ([(0 : Int) ≤ 128 ∧ (128 : Int) = 128 ∧ (128 : Int) ≤ 140737488355328, bodyOf Tryz.prog 52 3 = bodyOf Tryz.prog 52 3, (T52 k x 0, [bB rep0]) = (T52 k x 0, [bB l0]), wfS (T52 k x 0) [bB l0] = true, 0 = 0 ∧ 128 = l1.length], .val (sS (strOf l1))) := by kernel_rfl
def tab (f : Nat → Nat) : List Nat := (List.range 128).map f
theorem tab_len (f : Nat → Nat) : (tab f).length = 128 := by simp [tab]
theorem tab_get (f : Nat → Nat) {i : Nat} (h : i < 128) : (tab f).getD i 0 = f i := by
 unfold tab
 rw [List.getD_eq_getElem?_getD, List.getElem?_map, List.getElem?_range h]; rfl
theorem tab_ext {f g : Nat → Nat} (h : ∀ i, i < 128 → f i = g i) : tab f = tab g := List.map_congr_left fun i hi => h i (List.mem_range.1 hi)
theorem tab_set (f : Nat → Nat) (i v : Nat) : (tab f).set i v = tab fun j => if j = i then v else f j := by
 apply List.ext_getElem?
 intro j
 unfold tab
 rw [List.getElem?_set]
 by_cases hj : j < 128
 ·rw [List.getElem?_map, List.getElem?_map, List.getElem?_range hj]
  by_cases e : i = j
  ·subst e; simp [hj]
  ·simp [e, Ne.symm e]
 ·rw [List.getElem?_eq_none (by simp; omega), List.getElem?_eq_none (by simp; omega)]
  split
  ·split
   ·rename_i h1 h2; rw [List.length_map, List.length_range] at h2; omega
   ·rfl
  ·rfl
theorem tab_of {l : List Nat} {f : Nat → Nat} (hl : l.length = 128) (h : ∀ i, i < 128 → l.getD i 0 = f i) : l = tab f := by
 apply List.ext_getElem?
 intro j
 unfold tab
 by_cases hj : j < 128
 ·rw [List.getElem?_map, List.getElem?_range hj, Option.map_some, ← h j hj, List.getD_eq_getElem?_getD, List.getElem?_eq_getElem (by omega)]; rfl
 ·rw [List.getElem?_eq_none (by omega), List.getElem?_eq_none (by simp; omega)]
def padS (k : ByteArray) (x : Nat) : ByteArray := strOf (tab fun j => xr (kb k j) x)
theorem padS_size (k : ByteArray) (x : Nat) : (padS k x).size = 128 := by unfold padS; rw [strOf_size, tab_len]
theorem kb_out {k : ByteArray} {j : Nat} (h : k.size ≤ j) : kb k j = 0 := by
 unfold kb
 rw [Array.getD, dif_neg (by show ¬ j < k.size; omega)]; rfl
theorem numsB_get (k : ByteArray) (j : Nat) : (numsB k).getD j 0 = kb k j := by
 unfold numsB kb
 rw [List.getD_eq_getElem?_getD, List.getElem?_map]
 by_cases h : j < k.data.size
 ·rw [Array.getElem?_toList, Array.getElem?_eq_getElem h]; simp only [Array.getD, dif_pos h]; rfl
 ·rw [Array.getElem?_toList, Array.getElem?_eq_none (by omega)]; simp only [Array.getD, dif_neg h]; rfl
theorem init86 {k : ByteArray} (h : k.size ≤ 128) : numsB k ++ List.drop k.size rep0 = tab (kb k) := by
 have hn : (numsB k).length = k.size := numsB_len k
 have hr : rep0.length = 128 := List.length_replicate
 refine tab_of (by rw [List.length_append, hn, List.length_drop, hr]; omega) fun i hi => ?_
 rw [List.getD_eq_getElem?_getD]
 by_cases hj : i < k.size
 ·rw [List.getElem?_append_left (by omega), ← List.getD_eq_getElem?_getD, numsB_get]
 ·rw [List.getElem?_append_right (by omega), hn, kb_out (by omega), List.getElem?_drop]
  unfold rep0
  rw [List.getElem?_replicate]
  split <;> rfl
theorem init52 : rep0 = tab fun _ => 0 := by
 refine tab_of List.length_replicate fun i hi => ?_
 unfold rep0
 rw [List.getD_eq_getElem?_getD, List.getElem?_replicate, if_pos hi]; rfl
theorem bB_free (l : List Nat) : ∀ b ∈ [bB l], Free b := by
 intro b hb
 simp only [List.mem_cons, List.not_mem_nil, or_false] at hb
 subst hb; exact fun _ => rfl
theorem wf86 (x : Nat) (i : Int) (l : List Nat) : wfS (T86 x i) [bB l] = true := wfS_of (bB_free l) (by show tmsWf 1 _ = true; kernel_rfl)
theorem wf52 (k : ByteArray) (x : Nat) (i : Int) (l : List Nat) : wfS (T52 k x i) [bB l] = true := wfS_of (bB_free l) (by show tmsWf 1 _ = true; kernel_rfl)
theorem step86 (x i : Nat) (l : List Nat) (hl : l.length = 128) (hi : i < 128) : Goes Tryz.prog (bodyOf Tryz.prog 86 4) .normal (T86 x (i : Int)) [bB l] (T86 x ((i : Int) + 1)) [bB (l.set (0 + i * 1) (xr (l.getD (0 + i * 1) 0) x))] :=
 Runs.goes envE86 ⟨_, _, t86 x i l, ⟨decide_eq_true (by omega), by omega, by omega, by omega, by omega, by unfold inI; omega, trivial⟩, wf86 _ _ _⟩
theorem out86 (x : Nat) (l : List Nat) : Goes Tryz.prog (bodyOf Tryz.prog 86 4) (.exit 0) (T86 x ((128 : Nat) : Int)) [bB l] (T86 x ((128 : Nat) : Int)) [bB l] :=
 Runs.goes envE86 ⟨_, _, x86 x 128 l, ⟨by decide, trivial⟩, wf86 _ _ _⟩
theorem step52a (k : ByteArray) (x i : Nat) (l : List Nat) (hl : l.length = 128) (hi : i < 128) (hk : i < k.size) : Goes Tryz.prog (bodyOf Tryz.prog 52 3) .normal (T52 k x (i : Int)) [bB l] (T52 k x ((i : Int) + 1)) [bB ((l.set (0 + i * 1) (kb k i)).set (0 + i * 1) (xr ((l.set (0 + i * 1) (kb k i)).getD (0 + i * 1) 0) x))] :=
 Runs.goes envE86 ⟨_, _, t52a k x i l, ⟨decide_eq_true (by omega), decide_eq_true (by omega), by omega, by omega, by omega, by omega, by rw [List.length_set]; omega, by omega, by rw [List.length_set]; omega, by unfold inI; omega, trivial⟩, wf52 _ _ _ _⟩
theorem step52b (k : ByteArray) (x i : Nat) (l : List Nat) (hl : l.length = 128) (hi : i < 128) (hk : k.size ≤ i) : Goes Tryz.prog (bodyOf Tryz.prog 52 3) .normal (T52 k x (i : Int)) [bB l] (T52 k x ((i : Int) + 1)) [bB (l.set (0 + i * 1) (xr (l.getD (0 + i * 1) 0) x))] :=
 Runs.goes envE86 ⟨_, _, t52b k x i l, ⟨decide_eq_true (by omega), decide_eq_false (by omega), by omega, by omega, by omega, by omega, by unfold inI; omega, trivial⟩, wf52 _ _ _ _⟩
theorem out52 (k : ByteArray) (x : Nat) (l : List Nat) : Goes Tryz.prog (bodyOf Tryz.prog 52 3) (.exit 0) (T52 k x ((128 : Nat) : Int)) [bB l] (T52 k x ((128 : Nat) : Int)) [bB l] :=
 Runs.goes envE86 ⟨_, _, x52 k x 128 l, ⟨by decide, trivial⟩, wf52 _ _ _ _⟩
theorem loop86 (k : ByteArray) (x : Nat) : Goes Tryz.prog (.loop (bodyOf Tryz.prog 86 4)) (.exit 0) (T86 x ((0 : Nat) : Int)) [bB (tab (kb k))] (T86 x ((128 : Nat) : Int)) [bB (tab fun j => xr (kb k j) x)] := by
 have e0 : tab (kb k) = tab fun j => if j < 0 then xr (kb k j) x else kb k j := tab_ext fun i _ => by simp
 have e1 : (tab fun j => xr (kb k j) x) = tab fun j => if j < 128 then xr (kb k j) x else kb k j := tab_ext fun i hi => by simp [hi]
 rw [e0, e1]
 refine loop_goes (N := 128) (k := 1) (T := fun i => T86 x (i : Int)) (M := fun i => [bB (tab fun j => if j < i then xr (kb k j) x else kb k j)]) (by simp) (fun _ _ => rfl) (fun i hi => ?_) ?_
 ·have h := step86 x i (tab fun j => if j < i then xr (kb k j) x else kb k j) (tab_len _) hi
  rw [show 0 + i * 1 = i by omega, tab_get _ hi, tab_set, if_neg (Nat.lt_irrefl i)] at h
  have e : (tab fun j => if j = i then xr (kb k i) x else if j < i then xr (kb k j) x else kb k j) = tab fun j => if j < i + 1 then xr (kb k j) x else kb k j := tab_ext fun j _ => by
   by_cases h1 : j = i
   ·subst h1; simp
   ·by_cases h2 : j < i
    ·simp [h1, h2, show j < i + 1 by omega]
    ·simp [h1, h2, show ¬ j < i + 1 by omega]
  rw [e] at h
  exact h
 ·exact out86 x _
theorem loop52 (k : ByteArray) (x : Nat) : Goes Tryz.prog (.loop (bodyOf Tryz.prog 52 3)) (.exit 0) (T52 k x ((0 : Nat) : Int)) [bB rep0] (T52 k x ((128 : Nat) : Int)) [bB (tab fun j => xr (kb k j) x)] := by
 have e0 : rep0 = tab fun j => if j < 0 then xr (kb k j) x else 0 := by rw [init52]; exact tab_ext fun i _ => by simp
 have e1 : (tab fun j => xr (kb k j) x) = tab fun j => if j < 128 then xr (kb k j) x else 0 := tab_ext fun i hi => by simp [hi]
 rw [e0, e1]
 refine loop_goes (N := 128) (k := 1) (T := fun i => T52 k x (i : Int)) (M := fun i => [bB (tab fun j => if j < i then xr (kb k j) x else 0)]) (by simp) (fun _ _ => rfl) (fun i hi => ?_) ?_
 ·have e : (tab fun j => if j = i then xr (kb k i) x else if j < i then xr (kb k j) x else 0) = tab fun j => if j < i + 1 then xr (kb k j) x else 0 := tab_ext fun j _ => by
   by_cases h1 : j = i
   ·subst h1; simp
   ·by_cases h2 : j < i
    ·simp [h1, h2, show j < i + 1 by omega]
    ·simp [h1, h2, show ¬ j < i + 1 by omega]
  by_cases hk : i < k.size
  ·have h := step52a k x i (tab fun j => if j < i then xr (kb k j) x else 0) (tab_len _) hi hk
   rw [show 0 + i * 1 = i by omega, tab_set, tab_set, tab_get _ hi, if_pos rfl] at h
   have e2 : (tab fun j => if j = i then xr (kb k i) x else if j = i then kb k i else if j < i then xr (kb k j) x else 0) = tab fun j => if j = i then xr (kb k i) x else if j < i then xr (kb k j) x else 0 := tab_ext fun j _ => by
    by_cases h1 : j = i <;> simp [h1]
   rw [e2, e] at h
   exact h
  ·have h := step52b k x i (tab fun j => if j < i then xr (kb k j) x else 0) (tab_len _) hi (by omega)
   rw [show 0 + i * 1 = i by omega, tab_get _ hi, tab_set, if_neg (Nat.lt_irrefl i)] at h
   have e3 : xr 0 x = xr (kb k i) x := by rw [kb_out (by omega)]
   rw [e3, e] at h
   exact h
 ·exact out52 k x _
theorem spec86 (k : ByteArray) (x : Nat) (h : k.size ≤ 128) : Spec 86 [sS k, .one (.i 128), .one (.u .u8 x)] (.val (sS (padS k x))) := by
 have hE : EnvOK (E86L x (tab (kb k)) (tab fun j => xr (kb k j) x)) := envAddLp envE86 (sumC_ok rfl (loop86 k x))
 exact spec_run hE rfl (r86 x k _ _) ⟨by omega, ⟨rfl, List.length_replicate.symm, h⟩, rfl, by rw [init86 h], wf86 _ _ _, ⟨rfl, (tab_len _).symm⟩, trivial⟩ rfl rfl
theorem spec52 (k : ByteArray) (x : Nat) : Spec 52 [sS k, .one (.i 128), .one (.u .u8 x)] (.val (sS (padS k x))) := by
 have hE : EnvOK (E52L k x rep0 (tab fun j => xr (kb k j) x)) := envAddLp envE86 (sumC_ok rfl (loop52 k x))
 exact spec_run hE rfl (r52 x k _ _) ⟨by omega, rfl, rfl, wf52 _ _ _ _, ⟨rfl, (tab_len _).symm⟩, trivial⟩ rfl rfl
def fnPad (vs : List V1) : Option (List Prop × AV) := match vs with | [.one (.v (.string k)), .one (.i z), .one (.u .u8 x)] => some ([z = 128, k.size ≤ 128], .val (sS (padS k x))) | _ => none
theorem ct86 : CTok ⟨86, fnPad⟩ := by
 intro vs ob r h ho
 simp only [fnPad] at h
 split at h
 ·simp only [Option.some.injEq, Prod.mk.injEq] at h
  obtain ⟨rfl, rfl⟩ := h
  obtain ⟨rfl, h2, _⟩ := ho
  exact spec86 _ _ h2
 ·simp at h
theorem ct52 : CTok ⟨52, fnPad⟩ := by
 intro vs ob r h ho
 simp only [fnPad] at h
 split at h
 ·simp only [Option.some.injEq, Prod.mk.injEq] at h
  obtain ⟨rfl, rfl⟩ := h
  obtain ⟨rfl, _, _⟩ := ho
  exact spec52 _ _
 ·simp at h
noncomputable def hmac (k s : ByteArray) : ByteArray := sum5 (padS k 92 ++ sum5 (padS k 54 ++ s))
noncomputable def LHm : List CT := [⟨86, fnPad⟩, ⟨52, fnPad⟩, ⟨61, fnS5⟩, ⟨51, fnS5⟩]
theorem LHm_ok : AllCT LHm := ⟨ct86, ct52, ct54, ct34, trivial⟩
noncomputable def SHm : FuncId → Nat → Bool := fun f t => match f with | 60 => memN t [12, 25, 27] | 31 => memN t [7, 15, 17] | _ => false
end Go.Ev.H5

namespace Go.Ev
open Go Go.Proofs Go.RowKit
def fBg : List V1 → Option (List Prop × AV) := fn1 fun a => .val (sS (bgS a))
theorem ct59b : CTok ⟨74, fBg⟩ := fun _ _ _ h ho => fn1_ok (fun a h => spec59s a h) h ho
theorem ct60b : CTok ⟨36, fBg⟩ := fun _ _ _ h ho => fn1_ok (fun a _ => spec60s a) h ho
noncomputable def LBx : List CT := ⟨74, fBg⟩ :: ⟨36, fBg⟩ :: L3a
theorem LBx_ok : AllCT LBx := ⟨ct59b, ct60b, L3a_ok⟩
noncomputable def SPk : FuncId → Nat → Bool := fun f t => match f with | 64 => memN t [14, 2000010] | 48 => memN t [14, 2000010] | _ => false
def packW (x y : Nat) : ByteArray := strOf [2 + y % 2] ++ bgS x
def hdA (y : Nat) : Nat := (2 + (y % 4294967296 % 4294967296 &&& 1 % 4294967296) % 256) % 256
def hdB (y : Nat) : Nat := (2 + (y % 4294967296 % 4294967296 &&& 1 % 4294967296)) % 4294967296 % 256
theorem and1W (x : Nat) : x % 4294967296 % 4294967296 &&& 1 % 4294967296 = x % 2 := by
 rw [show (1 % 4294967296 : Nat) = 2 ^ 1 - 1 from rfl, Nat.and_two_pow_sub_one_eq_mod]; omega
theorem hdA_eq (y : Nat) : hdA y = 2 + y % 2 := by unfold hdA; rw [and1W]; omega
theorem hdB_eq (y : Nat) : hdB y = 2 + y % 2 := by unfold hdB; rw [and1W]; omega
theorem r58 (x y : Nat) (i : Bool) : callR (mkE LBx SPk) 1000 64 [P3 x y i] [] = some ([x < 4294967296 ^ 8, (strOf [hdA y]).size + (bgS x).size ≤ 9223372036854775807], .val (sS (strOf [hdA y] ++ bgS x))) := by kernel_rfl
theorem r32 (x y : Nat) (i : Bool) : callR (mkE LBx SPk) 1000 48 [P3 x y i] [] = some ([x < 4294967296 ^ 8, (strOf [hdB y]).size + (bgS x).size ≤ 9223372036854775807], .val (sS (strOf [hdB y] ++ bgS x))) := by kernel_rfl
theorem bgS_size (x : Nat) : (bgS x).size = 32 := by unfold bgS; rw [revS_size, leB_size]
theorem one_size (n : Nat) : (strOf [n]).size = 1 := by rw [strOf_size]; rfl
theorem spec58s (x y : Nat) (i : Bool) (hx : x < 4294967296 ^ 8) : Spec 64 [P3 x y i] (.val (sS (packW x y))) := by
 have := spec_run (envMk LBx_ok SPk) rfl (r58 x y i) ⟨hx, by rw [one_size, bgS_size]; decide, trivial⟩ rfl rfl
 rw [hdA_eq] at this
 exact this
theorem spec32s (x y : Nat) (i : Bool) (hx : x < 4294967296 ^ 8) : Spec 48 [P3 x y i] (.val (sS (packW x y))) := by
 have := spec_run (envMk LBx_ok SPk) rfl (r32 x y i) ⟨hx, by rw [one_size, bgS_size]; decide, trivial⟩ rfl rfl
 rw [hdB_eq] at this
 exact this
def gOf58 : List Val → Option (List Prop × AV)
 | [.n x, .n y, .b i] => some ([], .val (sS (packW x y)))
 | _ => none
theorem ct58s : CTok ⟨64, fnS [aSp] gOf58⟩ := ctS (by
 intro xs ob r hb h ho
 unfold gOf58 at h
 split at h
 ·simp only [Option.some.injEq, Prod.mk.injEq] at h
  obtain ⟨rfl, rfl⟩ := h
  obtain ⟨⟨h1, h2, _⟩, _⟩ := hb
  exact spec58s _ _ _ h1
 ·simp at h)
theorem ct32s : CTok ⟨48, fnS [aSp] gOf58⟩ := ctS (by
 intro xs ob r hb h ho
 unfold gOf58 at h
 split at h
 ·simp only [Option.some.injEq, Prod.mk.injEq] at h
  obtain ⟨rfl, rfl⟩ := h
  obtain ⟨⟨h1, h2, _⟩, _⟩ := hb
  exact spec32s _ _ _ h1
 ·simp at h)
end Go.Ev

namespace Go.Ev
open Go Go.Proofs Go.RowKit
end Go.Ev

namespace Go.Ev
open Go Go.Proofs Go.RowKit
end Go.Ev

namespace Go.Ev
open Go Go.Proofs Go.RowKit
def fBe61 (vs : List V1) : Option (List Prop × AV) := match vs with | [.one (.v (.string s))] => some ([s.size = 32], .tup [N8 (beS s), .one (.i 0)]) | _ => none
theorem ct61b : CTok ⟨71, fBe61⟩ := by
 intro vs ob r h ho
 simp only [fBe61] at h
 split at h
 ·simp only [Option.some.injEq, Prod.mk.injEq] at h
  obtain ⟨rfl, rfl⟩ := h
  exact spec61s _ ho.1
 ·simp at h
def fBe64 (vs : List V1) : Option (List Prop × AV) := match vs with | [.one (.v (.string s))] => some ([s.size = 32], .val (N8 (beS s))) | _ => none
theorem ct64b : CTok ⟨32, fBe64⟩ := by
 intro vs ob r h ho
 simp only [fBe64] at h
 split at h
 ·simp only [Option.some.injEq, Prod.mk.injEq] at h
  obtain ⟨rfl, rfl⟩ := h
  exact spec64s _ ho.1
 ·simp at h
end Go.Ev

namespace Go.Ev
open Go Go.Proofs Go.RowKit
end Go.Ev

namespace Go.Ev
open Go Go.Proofs Go.RowKit
end Go.Ev

