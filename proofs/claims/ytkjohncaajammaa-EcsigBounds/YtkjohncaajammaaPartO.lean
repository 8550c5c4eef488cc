/- Bytes of numbers and of points -/
import Derived.Test.YtkjohncaajammaaPartN
import Derived.Test.YtkjohncaajammaaPartM
import Derived.Test.YtkjohncaajammaaPartJ
namespace Go.Ev
open Go Go.Proofs Go.RowKit
def revS (s : ByteArray) : ByteArray := strOf (numsB s).reverse
def bgS (x : Nat) : ByteArray := revS (strOf (leB 32 x))
def beS (s : ByteArray) : Nat := leS (revS s)
theorem revS_size (s : ByteArray) : (revS s).size = s.size := by unfold revS; rw [strOf_size, List.length_reverse, numsB_length]
theorem revS_nums (s : ByteArray) : numsB (revS s) = (numsB s).reverse := numsB_strOf _ fun b h => numsB_lt s b (List.mem_reverse.1 h)
theorem run97a (b : Nat → UInt8) : callR E0 1000 112 [sS (strB 32 b)] [] = some ([], .val (sS (strOf ((List.range 32).map fun j => (b (31 - j)).toNat)))) := by kernel_rfl
theorem rev32 (f : Nat → Nat) : ((List.range 32).map f).reverse = (List.range 32).map fun j => f (31 - j) := rfl
theorem spec97s (s : ByteArray) (h : s.size = 32) : Spec 112 [sS s] (.val (sS (revS s))) := by
  have e := strB_of h
  generalize hb : (fun i => s.data.getD i 0) = b at e
  have h := spec_run envE0 rfl (run97a b) trivial rfl rfl
  have h2 : strOf ((List.range 32).map fun j => (b (31 - j)).toNat) = revS s := by
    unfold revS
    rw [e, numsB_strB, rev32]
  rw [h2] at h
  exact h.congr (fun φ => by rw [e]) (fun φ => rfl)
def fRev (vs : List V1) : Option (List Prop × AV) := match vs with | [.one (.v (.string s))] => some ([s.size = 32], .val (sS (revS s))) | _ => none
theorem ct97s : CTok ⟨112, fRev⟩ := by
  intro vs ob r h ho
  simp only [fRev] at h
  split at h
  · simp only [Option.some.injEq, Prod.mk.injEq] at h
    obtain ⟨rfl, rfl⟩ := h
    exact spec97s _ ho.1
  · simp at h
def fOl (vs : List V1) : Option (List Prop × AV) := match vs with | [.one (.v (.string s))] => some ([s.size = 32], .tup [N8 (leS s), .one (.i 0)]) | _ => none
theorem ct99s : CTok ⟨114, fOl⟩ := by
  intro vs ob r h ho
  simp only [fOl] at h
  split at h
  · simp only [Option.some.injEq, Prod.mk.injEq] at h
    obtain ⟨rfl, rfl⟩ := h
    exact spec99s _ ho.1
  · simp at h
def fOp (vs : List V1) : Option (List Prop × AV) := match vs with | [.one (.v (.string s))] => some ([s.size = 32], .val (N8 (leS s))) | _ => none
theorem ct102s : CTok ⟨117, fOp⟩ := by
  intro vs ob r h ho
  simp only [fOp] at h
  split at h
  · simp only [Option.some.injEq, Prod.mk.injEq] at h
    obtain ⟨rfl, rfl⟩ := h
    exact spec102s _ ho.1
  · simp at h
def fLit : List V1 → Option (List Prop × AV) := fn1 fun a => .val (sS (strOf (leB 32 a)))
theorem ctLit98 : CTok ⟨113, fLit⟩ := fun _ _ _ h ho => fn1_ok (fun a _ => spec98s a) h ho
noncomputable def LBg : List CT := [⟨113, fLit⟩, ⟨112, fRev⟩, ⟨114, fOl⟩, ⟨117, fOp⟩]
theorem LBg_ok : AllCT LBg := ⟨ctLit98, ct97s, ct99s, ct102s, trivial⟩
theorem run59a (x : Nat) : callR (mkE LBg noS) 1000 68 [N8 x] [] = some ([x < 4294967296 ^ 8, (strOf (leB 32 x)).size = 32], .val (sS (bgS x))) := by kernel_rfl
theorem run60a (u : Nat → Nat) : callR E0 1000 69 [C8 u] [] = some ([], .val (sS (strOf ((List.range 32).map fun j => lbt u (31 - j))))) := by kernel_rfl
theorem run61a (s : ByteArray) : callR (mkE LBg noS) 1000 70 [sS s] [] = some ([s.size = 32, (revS s).size = 32], .tup [N8 (beS s), .one (.i 0)]) := by kernel_rfl
theorem run64a (b : Nat → UInt8) : callR (mkE LBg noS) 1000 73 [sS (strB 32 b)] [] = some ([(strOf ((List.range 32).map fun j => (b (31 - j)).toNat)).size = 32], .val (N8 (leS (strOf ((List.range 32).map fun j => (b (31 - j)).toNat))))) := by kernel_rfl
theorem leB_size (n x : Nat) : (strOf (leB n x)).size = n := by rw [strOf_size, leB_length]
theorem spec59s (x : Nat) (h : x < 4294967296 ^ 8) : Spec 68 [N8 x] (.val (sS (bgS x))) := spec_run (envMk LBg_ok noS) rfl (run59a x) ⟨h, leB_size 32 x, trivial⟩ rfl rfl
theorem spec60s (a : Nat) : Spec 69 [N8 a] (.val (sS (bgS a))) := by
  have h := spec_run envE0 rfl (run60a (limb a)) trivial rfl rfl
  have h2 : strOf ((List.range 32).map fun j => lbt (limb a) (31 - j)) = bgS a := by
    unfold bgS revS
    rw [numsB_strOf _ (leB_lt 32 a), ← lbt_leB, rev32]
  rw [h2] at h
  exact h.congr (fun φ => by simp only [List.map_cons, List.map_nil, conc_C8]) (fun φ => rfl)
theorem spec61s (s : ByteArray) (h : s.size = 32) : Spec 70 [sS s] (.tup [N8 (beS s), .one (.i 0)]) := spec_run (envMk LBg_ok noS) rfl (run61a s) ⟨h, by rw [revS_size, h], trivial⟩ rfl rfl
theorem spec64s (s : ByteArray) (h : s.size = 32) : Spec 73 [sS s] (.val (N8 (beS s))) := by
  have e := strB_of h
  generalize hb : (fun i => s.data.getD i 0) = b at e
  have h2 : strOf ((List.range 32).map fun j => (b (31 - j)).toNat) = revS s := by
    unfold revS
    rw [e, numsB_strB, rev32]
  have q := spec_run (envMk LBg_ok noS) rfl (run64a b) ⟨by rw [h2, revS_size, h], trivial⟩ rfl rfl
  rw [h2] at q
  exact q.congr (fun φ => by rw [e]) (fun φ => rfl)
end Go.Ev

namespace Go.Ev
open Go Go.Proofs Go.RowKit
def fBg : List V1 → Option (List Prop × AV) := fn1 fun a => .val (sS (bgS a))
theorem ct59b : CTok ⟨68, fBg⟩ := fun _ _ _ h ho => fn1_ok (fun a h => spec59s a h) h ho
theorem ct60b : CTok ⟨69, fBg⟩ := fun _ _ _ h ho => fn1_ok (fun a _ => spec60s a) h ho
noncomputable def LBx : List CT := ⟨68, fBg⟩ :: ⟨69, fBg⟩ :: L3a
theorem LBx_ok : AllCT LBx := ⟨ct59b, ct60b, L3a_ok⟩
noncomputable def SPk : FuncId → Nat → Bool := fun f t => match f with | 67 => memN t [14, 2000010] | 32 => memN t [6, 12, 16, 2000008] | 33 => memN t [14, 2000010] | 34 => memN t [6, 10] | 66 => memN t [5] | 31 => memN t [6] | _ => false
def packW (x y : Nat) : ByteArray := strOf [2 + y % 2] ++ bgS x
def hdA (y : Nat) : Nat := (2 + (y % 4294967296 % 4294967296 &&& 1 % 4294967296) % 256) % 256
def hdB (y : Nat) : Nat := (2 + (y % 4294967296 % 4294967296 &&& 1 % 4294967296)) % 4294967296 % 256
theorem and1W (x : Nat) : x % 4294967296 % 4294967296 &&& 1 % 4294967296 = x % 2 := by
  rw [show (1 % 4294967296 : Nat) = 2 ^ 1 - 1 from rfl, Nat.and_two_pow_sub_one_eq_mod]; omega
theorem hdA_eq (y : Nat) : hdA y = 2 + y % 2 := by unfold hdA; rw [and1W]; omega
theorem hdB_eq (y : Nat) : hdB y = 2 + y % 2 := by unfold hdB; rw [and1W]; omega
theorem r58 (x y : Nat) (i : Bool) : callR (mkE LBx SPk) 1000 67 [P3 x y i] [] = some ([x < 4294967296 ^ 8, (strOf [hdA y]).size + (bgS x).size ≤ 9223372036854775807], .val (sS (strOf [hdA y] ++ bgS x))) := by kernel_rfl
theorem r32 (x y : Nat) (i : Bool) : callR (mkE LBx SPk) 1000 33 [P3 x y i] [] = some ([x < 4294967296 ^ 8, (strOf [hdB y]).size + (bgS x).size ≤ 9223372036854775807], .val (sS (strOf [hdB y] ++ bgS x))) := by kernel_rfl
theorem bgS_size (x : Nat) : (bgS x).size = 32 := by unfold bgS; rw [revS_size, leB_size]
theorem one_size (n : Nat) : (strOf [n]).size = 1 := by rw [strOf_size]; rfl
theorem spec58s (x y : Nat) (i : Bool) (hx : x < 4294967296 ^ 8) : Spec 67 [P3 x y i] (.val (sS (packW x y))) := by
  have := spec_run (envMk LBx_ok SPk) rfl (r58 x y i) ⟨hx, by rw [one_size, bgS_size]; decide, trivial⟩ rfl rfl
  rw [hdA_eq] at this
  exact this
theorem spec32s (x y : Nat) (i : Bool) (hx : x < 4294967296 ^ 8) : Spec 33 [P3 x y i] (.val (sS (packW x y))) := by
  have := spec_run (envMk LBx_ok SPk) rfl (r32 x y i) ⟨hx, by rw [one_size, bgS_size]; decide, trivial⟩ rfl rfl
  rw [hdB_eq] at this
  exact this
def gOf58 : List Val → Option (List Prop × AV)
  | [.n x, .n y, .b i] => some ([], .val (sS (packW x y)))
  | _ => none
theorem ct58s : CTok ⟨67, fnS [aSp] gOf58⟩ := ctS (by
  intro xs ob r hb h ho
  unfold gOf58 at h
  split at h
  · simp only [Option.some.injEq, Prod.mk.injEq] at h
    obtain ⟨rfl, rfl⟩ := h
    obtain ⟨⟨h1, h2, _⟩, _⟩ := hb
    exact spec58s _ _ _ h1
  · simp at h)
theorem ct32s : CTok ⟨33, fnS [aSp] gOf58⟩ := ctS (by
  intro xs ob r hb h ho
  unfold gOf58 at h
  split at h
  · simp only [Option.some.injEq, Prod.mk.injEq] at h
    obtain ⟨rfl, rfl⟩ := h
    obtain ⟨⟨h1, h2, _⟩, _⟩ := hb
    exact spec32s _ _ _ h1
  · simp at h)
end Go.Ev

namespace Go.Ev
open Go Go.Proofs Go.RowKit
end Go.Ev

namespace Go.Ev
open Go Go.Proofs Go.RowKit
theorem out_sqI {x : Nat} : outN (modN 1) (sqI x) = sqP x := by
  rw [sqI_J, sqJ_in, out_in (modN_lt 1) (good_fac (by decide)) (sqP_lt x)]
def gSqP : List Val → Option (List Prop × AV)
  | [.n x] => some ([x < modN 1], .val (N8 (sqP x)))
  | _ => none
theorem ct68p : CTok ⟨84, fnS [aN] gSqP⟩ := ctS (by
  intro xs ob r hb h ho
  unfold gSqP at h
  split at h
  · simp only [Option.some.injEq, Prod.mk.injEq] at h
    obtain ⟨rfl, rfl⟩ := h
    have := spec68w _ ho.1
    rw [out_sqI] at this
    exact this
  · simp at h)
def rtS (x : Nat) : Bool := sqB 1 (sqP x)
def evW (x : Nat) : Nat := evC 1 (sqP x)
noncomputable def L63 : List CT := ⟨84, fnS [aN] gSqP⟩ :: ⟨116, fnS [.z, .s [.n8]] gFind⟩ :: L3a
theorem L63_ok : AllCT L63 := ⟨ct68p, ct58, L3a_ok⟩
noncomputable def S63 : FuncId → Nat → Bool := fun f t => match f with | 72 => memN t [14] | _ => false
def zSp : V1 := .agg (cellsU 16 0 zF ++ [.a (.v (.bool false))])
theorem r63t (x : Nat) (y : Nat) (i : Bool) : callR (mkE L63 S63) 1000 72 [P3 x y i, V1.one (Atom.v (Value.bool true))] [true] =
    some ([x < 4294967296 ^ 8, x < modN 1, addM (modN 1) (subM (modN 1) (mulM (modN 1) x (mulM (modN 1) x x)) (addM (modN 1) x (addM (modN 1) x x))) wBN < 4294967296 ^ 8, (0 : Int) ≤ (1 : Int) ∧ (1 : Int) < (2 : Int), addM (modN 1) (subM (modN 1) (mulM (modN 1) x (mulM (modN 1) x x)) (addM (modN 1) x (addM (modN 1) x x))) wBN < modN 1, sqB 1 (addM (modN 1) (subM (modN 1) (mulM (modN 1) x (mulM (modN 1) x x)) (addM (modN 1) x (addM (modN 1) x x))) wBN) = true, (0 : Int) ≤ (1 : Int) ∧ (1 : Int) < (4 : Int), modN 1 < 4294967296 ^ 8, 0 + 0 < modN 1, evC 1 (addM (modN 1) (subM (modN 1) (mulM (modN 1) x (mulM (modN 1) x x)) (addM (modN 1) x (addM (modN 1) x x))) wBN) < modN 1, 0 < 4294967296, 0 < 4294967296, 0 < 4294967296, 0 < 4294967296, 0 < 4294967296, 0 < 4294967296, 0 < 4294967296, 0 < 4294967296, evC 1 (addM (modN 1) (subM (modN 1) (mulM (modN 1) x (mulM (modN 1) x x)) (addM (modN 1) x (addM (modN 1) x x))) wBN) < 4294967296 ^ 8, evC 1 (addM (modN 1) (subM (modN 1) (mulM (modN 1) x (mulM (modN 1) x x)) (addM (modN 1) x (addM (modN 1) x x))) wBN) < 4294967296 ^ 8, subM (modN 1) 0 (evC 1 (addM (modN 1) (subM (modN 1) (mulM (modN 1) x (mulM (modN 1) x x)) (addM (modN 1) x (addM (modN 1) x x))) wBN)) < 4294967296 ^ 8], .tup [P3 x (subM (modN 1) 0 (evW x)) i, .one (.i 0)]) := by kernel_rfl
theorem r63f (x : Nat) (y : Nat) (i : Bool) : callR (mkE L63 S63) 1000 72 [P3 x y i, V1.one (Atom.v (Value.bool false))] [true] =
    some ([x < 4294967296 ^ 8, x < modN 1, addM (modN 1) (subM (modN 1) (mulM (modN 1) x (mulM (modN 1) x x)) (addM (modN 1) x (addM (modN 1) x x))) wBN < 4294967296 ^ 8, (0 : Int) ≤ (1 : Int) ∧ (1 : Int) < (2 : Int), addM (modN 1) (subM (modN 1) (mulM (modN 1) x (mulM (modN 1) x x)) (addM (modN 1) x (addM (modN 1) x x))) wBN < modN 1, sqB 1 (addM (modN 1) (subM (modN 1) (mulM (modN 1) x (mulM (modN 1) x x)) (addM (modN 1) x (addM (modN 1) x x))) wBN) = true, (0 : Int) ≤ (1 : Int) ∧ (1 : Int) < (4 : Int), modN 1 < 4294967296 ^ 8, 0 + 0 < modN 1, evC 1 (addM (modN 1) (subM (modN 1) (mulM (modN 1) x (mulM (modN 1) x x)) (addM (modN 1) x (addM (modN 1) x x))) wBN) < modN 1, 0 < 4294967296, 0 < 4294967296, 0 < 4294967296, 0 < 4294967296, 0 < 4294967296, 0 < 4294967296, 0 < 4294967296, 0 < 4294967296, evC 1 (addM (modN 1) (subM (modN 1) (mulM (modN 1) x (mulM (modN 1) x x)) (addM (modN 1) x (addM (modN 1) x x))) wBN) < 4294967296 ^ 8, evC 1 (addM (modN 1) (subM (modN 1) (mulM (modN 1) x (mulM (modN 1) x x)) (addM (modN 1) x (addM (modN 1) x x))) wBN) < 4294967296 ^ 8, subM (modN 1) 0 (evC 1 (addM (modN 1) (subM (modN 1) (mulM (modN 1) x (mulM (modN 1) x x)) (addM (modN 1) x (addM (modN 1) x x))) wBN)) < 4294967296 ^ 8], .tup [P3 x (evW x) i, .one (.i 0)]) := by kernel_rfl
theorem r63n (x : Nat) (y : Nat) (i : Bool) (o : Bool) : callR (mkE L63 S63) 1000 72 [P3 x y i, V1.one (Atom.v (Value.bool o))] [false] =
    some ([x < 4294967296 ^ 8, x < modN 1, addM (modN 1) (subM (modN 1) (mulM (modN 1) x (mulM (modN 1) x x)) (addM (modN 1) x (addM (modN 1) x x))) wBN < 4294967296 ^ 8, (0 : Int) ≤ (1 : Int) ∧ (1 : Int) < (2 : Int), addM (modN 1) (subM (modN 1) (mulM (modN 1) x (mulM (modN 1) x x)) (addM (modN 1) x (addM (modN 1) x x))) wBN < modN 1, sqB 1 (addM (modN 1) (subM (modN 1) (mulM (modN 1) x (mulM (modN 1) x x)) (addM (modN 1) x (addM (modN 1) x x))) wBN) = false], .tup [zSp, .one (.i 7)]) := by kernel_rfl
def fdX (x : Nat) : Nat := bif rtS x then x else 0
def fdY (x : Nat) (o : Bool) : Nat := bif rtS x then (bif o then subM (modN 1) 0 (evW x) else evW x) else 0
def fdE (x : Nat) : Int := bif rtS x then 0 else 7
theorem zSp_conc (φ : Loc) : zSp.conc φ = (P3 0 0 false).conc φ := by
  have e : concs φ (cellsU 8 0 zF ++ (cellsU 8 0 zF ++ [.a (.v (.bool false))])) = concs φ ([.num 8 0] ++ ([.num 8 0] ++ [.a (.v (.bool false))])) := by
    rw [concs_append, ← limb_zero, ← concs_num, concs_append, ← concs_num, concs_append, concs_append]
  exact congrArg (fun l => Value.agg (List.toArray l)) e
theorem zerr_conc (φ : Loc) (z : Int) : (AV.tup [zSp, .one (.i z)]).conc φ = (AV.tup [P3 0 0 false, .one (.i z)]).conc φ := by
  simp only [AV.conc, List.map_cons, List.map_nil, zSp_conc]
theorem spec63u (x y : Nat) (o : Bool) (hx : x < modN 1) : Spec 72 [P3 x y false, .one (.v (.bool o))] (.tup [P3 (fdX x) (fdY x o) false, .one (.i (fdE x))]) := by
  have hp := sqP_lt x
  have he : evC 1 (sqP x) < modN 1 := evC_lt (by decide)
  cases h : rtS x with
  | false =>
    have e1 : fdX x = 0 := by unfold fdX; rw [h, cond_false]
    have e2 : fdY x o = 0 := by unfold fdY; rw [h, cond_false]
    have e3 : fdE x = 7 := by unfold fdE; rw [h, cond_false]
    rw [e1, e2, e3]
    exact (spec_run (envMk L63_ok S63) rfl (r63n x y false o) ⟨L8 hx, hx, L8 hp, by decide, hp, h, trivial⟩ rfl rfl).congr (fun _ => rfl) (fun φ => zerr_conc φ 7)
  | true =>
    have e1 : fdX x = x := by unfold fdX; rw [h, cond_true]
    have e3 : fdE x = 0 := by unfold fdE; rw [h, cond_true]
    rw [e1, e3]
    cases o with
    | true =>
      have e2 : fdY x true = subM (modN 1) 0 (evW x) := by unfold fdY; rw [h, cond_true, cond_true]
      rw [e2]
      exact spec_run (envMk L63_ok S63) rfl (r63t x y false) ⟨L8 hx, hx, L8 hp, by decide, hp, h, by decide, modN_lt 1, modN_pos 1, he, by decide, by decide, by decide, by decide, by decide, by decide, by decide, by decide, L8 he, L8 he, L8 (subM_lt (modN_pos 1)), trivial⟩ rfl rfl
    | false =>
      have e2 : fdY x false = evW x := by unfold fdY; rw [h, cond_true, cond_false]
      rw [e2]
      exact spec_run (envMk L63_ok S63) rfl (r63f x y false) ⟨L8 hx, hx, L8 hp, by decide, hp, h, by decide, modN_lt 1, modN_pos 1, he, by decide, by decide, by decide, by decide, by decide, by decide, by decide, by decide, L8 he, L8 he, L8 (subM_lt (modN_pos 1)), trivial⟩ rfl rfl
def gFd : List Val → Option (List Prop × AV)
  | [.n x, .n _, .b i, .b o] => some ([x < modN 1, i = false], .tup [P3 (fdX x) (fdY x o) false, .one (.i (fdE x))])
  | _ => none
theorem ct63u : CTok ⟨72, fnS [aSp, .b] gFd⟩ := ctS (by
  intro xs ob r hb h ho
  unfold gFd at h
  split at h
  · simp only [Option.some.injEq, Prod.mk.injEq] at h
    obtain ⟨rfl, rfl⟩ := h
    obtain ⟨hx, rfl, _⟩ := ho
    exact spec63u _ _ _ hx
  · simp at h)
end Go.Ev

namespace Go.Ev
open Go Go.Proofs Go.RowKit
def fBe61 (vs : List V1) : Option (List Prop × AV) := match vs with | [.one (.v (.string s))] => some ([s.size = 32], .tup [N8 (beS s), .one (.i 0)]) | _ => none
theorem ct61b : CTok ⟨70, fBe61⟩ := by
  intro vs ob r h ho
  simp only [fBe61] at h
  split at h
  · simp only [Option.some.injEq, Prod.mk.injEq] at h
    obtain ⟨rfl, rfl⟩ := h
    exact spec61s _ ho.1
  · simp at h
def fBe64 (vs : List V1) : Option (List Prop × AV) := match vs with | [.one (.v (.string s))] => some ([s.size = 32], .val (N8 (beS s))) | _ => none
theorem ct64b : CTok ⟨73, fBe64⟩ := by
  intro vs ob r h ho
  simp only [fBe64] at h
  split at h
  · simp only [Option.some.injEq, Prod.mk.injEq] at h
    obtain ⟨rfl, rfl⟩ := h
    exact spec64s _ ho.1
  · simp at h
noncomputable def L35 : List CT := ⟨72, fnS [aSp, .b] gFd⟩ :: ⟨70, fBe61⟩ :: L63
theorem L35_ok : AllCT L35 := ⟨ct63u, ct61b, L63_ok⟩
noncomputable def S35 : FuncId → Nat → Bool := fun f t => match f with | 36 => memN t [11, 15, 20, 26, 27, 30, 31, 35, 38, 43, 44, 49, 54, 63, 66, 67, 72] | _ => false
def k0 (s : ByteArray) : Nat := (s.data.getD 0 0).toNat
def bx (s : ByteArray) : Nat := beS (s.extract 1 33)
def yb (s : ByteArray) : Nat := beS (s.extract 33 s.size)
theorem r35a (s : ByteArray) : callR (mkE L35 S35) 1000 36 [sS s] [true, true] =
  some ([(!decide ((s.size : Int) = 33)) = true, (!decide ((s.size : Int) = 65)) = true], .tup [zSp, .one (.i 1)]) := by kernel_rfl
theorem r35c2 (s : ByteArray) : callR (mkE L35 S35) 1000 36 [sS s] [false, true, false, false] =
  some ([(!decide ((s.size : Int) = 33)) = false, (0 : Int) ≤ 33 ∧ (33 : Int) ≤ (s.size : Int), (0 : Int) ≤ 1 ∧ (1 : Int) ≤ ((33 : Nat) : Int), (s.extract 1 33).size = 32, (0 : Int) ≤ 0 ∧ (0 : Int) < (s.size : Int), decide (k0 s = 2) = true, decide ((s.size : Int) = 65) = false, ok1 1 (bx s) = false, (bx s) < 4294967296 ^ 8], .tup [zSp, .one (.i 6)]) := by kernel_rfl
theorem r35d2 (s : ByteArray) : callR (mkE L35 S35) 1000 36 [sS s] [false, true, false, true, true, true, false] =
  some ([(!decide ((s.size : Int) = 33)) = false, (0 : Int) ≤ 33 ∧ (33 : Int) ≤ (s.size : Int), (0 : Int) ≤ 1 ∧ (1 : Int) ≤ ((33 : Nat) : Int), (s.extract 1 33).size = 32, (0 : Int) ≤ 0 ∧ (0 : Int) < (s.size : Int), decide (k0 s = 2) = true, decide ((s.size : Int) = 65) = false, ok1 1 (bx s) = true, (bx s) < 4294967296 ^ 8, ok1 1 0 = true, 0 < 4294967296, 0 < 4294967296, 0 < 4294967296, 0 < 4294967296, 0 < 4294967296, 0 < 4294967296, 0 < 4294967296, 0 < 4294967296, decide ((s.size : Int) = 33) = true, (0 : Int) ≤ 0 ∧ (0 : Int) < (s.size : Int), decide (2 < k0 s) = false, (bx s) < 4294967296 ^ 8, 0 < 4294967296, 0 < 4294967296, 0 < 4294967296, 0 < 4294967296, 0 < 4294967296, 0 < 4294967296, 0 < 4294967296, 0 < 4294967296, bx s < modN 1, false = false], .tup [P3 (fdX (bx s)) (fdY (bx s) false) false, .one (.i (fdE (bx s)))]) := by kernel_rfl
theorem r35c3 (s : ByteArray) : callR (mkE L35 S35) 1000 36 [sS s] [false, false, true, false, false] =
  some ([(!decide ((s.size : Int) = 33)) = false, (0 : Int) ≤ 33 ∧ (33 : Int) ≤ (s.size : Int), (0 : Int) ≤ 1 ∧ (1 : Int) ≤ ((33 : Nat) : Int), (s.extract 1 33).size = 32, (0 : Int) ≤ 0 ∧ (0 : Int) < (s.size : Int), decide (k0 s = 2) = false, (0 : Int) ≤ 0 ∧ (0 : Int) < (s.size : Int), decide (k0 s = 3) = true, decide ((s.size : Int) = 65) = false, ok1 1 (bx s) = false, (bx s) < 4294967296 ^ 8], .tup [zSp, .one (.i 6)]) := by kernel_rfl
theorem r35d3 (s : ByteArray) : callR (mkE L35 S35) 1000 36 [sS s] [false, false, true, false, true, true, true, true] =
  some ([(!decide ((s.size : Int) = 33)) = false, (0 : Int) ≤ 33 ∧ (33 : Int) ≤ (s.size : Int), (0 : Int) ≤ 1 ∧ (1 : Int) ≤ ((33 : Nat) : Int), (s.extract 1 33).size = 32, (0 : Int) ≤ 0 ∧ (0 : Int) < (s.size : Int), decide (k0 s = 2) = false, (0 : Int) ≤ 0 ∧ (0 : Int) < (s.size : Int), decide (k0 s = 3) = true, decide ((s.size : Int) = 65) = false, ok1 1 (bx s) = true, (bx s) < 4294967296 ^ 8, ok1 1 0 = true, 0 < 4294967296, 0 < 4294967296, 0 < 4294967296, 0 < 4294967296, 0 < 4294967296, 0 < 4294967296, 0 < 4294967296, 0 < 4294967296, decide ((s.size : Int) = 33) = true, (0 : Int) ≤ 0 ∧ (0 : Int) < (s.size : Int), decide (2 < k0 s) = true, (bx s) < 4294967296 ^ 8, 0 < 4294967296, 0 < 4294967296, 0 < 4294967296, 0 < 4294967296, 0 < 4294967296, 0 < 4294967296, 0 < 4294967296, 0 < 4294967296, bx s < modN 1, false = false], .tup [P3 (fdX (bx s)) (fdY (bx s) true) false, .one (.i (fdE (bx s)))]) := by kernel_rfl
theorem r35b0 (s : ByteArray) : callR (mkE L35 S35) 1000 36 [sS s] [false, false, false, false] =
  some ([(!decide ((s.size : Int) = 33)) = false, (0 : Int) ≤ 33 ∧ (33 : Int) ≤ (s.size : Int), (0 : Int) ≤ 1 ∧ (1 : Int) ≤ ((33 : Nat) : Int), (s.extract 1 33).size = 32, (0 : Int) ≤ 0 ∧ (0 : Int) < (s.size : Int), decide (k0 s = 2) = false, (0 : Int) ≤ 0 ∧ (0 : Int) < (s.size : Int), decide (k0 s = 3) = false, decide ((s.size : Int) = 65) = false], .tup [zSp, .one (.i 6)]) := by kernel_rfl
theorem r35e2 (s : ByteArray) : callR (mkE L35 S35) 1000 36 [sS s] [true, false, true, true, false] =
  some ([(!decide ((s.size : Int) = 33)) = true, (!decide ((s.size : Int) = 65)) = false, (0 : Int) ≤ 33 ∧ (33 : Int) ≤ (s.size : Int), (0 : Int) ≤ 1 ∧ (1 : Int) ≤ ((33 : Nat) : Int), (s.extract 1 33).size = 32, (0 : Int) ≤ 0 ∧ (0 : Int) < (s.size : Int), decide (k0 s = 2) = true, decide ((s.size : Int) = 65) = true, (0 : Int) ≤ 33 ∧ (33 : Int) ≤ (s.size : Int), (s.extract 33 s.size).size = 32, (0 : Int) ≤ 0 ∧ (0 : Int) < (s.size : Int), decide (k0 s = 4) = false], .tup [zSp, .one (.i 6)]) := by kernel_rfl
theorem r35e3 (s : ByteArray) : callR (mkE L35 S35) 1000 36 [sS s] [true, false, false, true, true, false] =
  some ([(!decide ((s.size : Int) = 33)) = true, (!decide ((s.size : Int) = 65)) = false, (0 : Int) ≤ 33 ∧ (33 : Int) ≤ (s.size : Int), (0 : Int) ≤ 1 ∧ (1 : Int) ≤ ((33 : Nat) : Int), (s.extract 1 33).size = 32, (0 : Int) ≤ 0 ∧ (0 : Int) < (s.size : Int), decide (k0 s = 2) = false, (0 : Int) ≤ 0 ∧ (0 : Int) < (s.size : Int), decide (k0 s = 3) = true, decide ((s.size : Int) = 65) = true, (0 : Int) ≤ 33 ∧ (33 : Int) ≤ (s.size : Int), (s.extract 33 s.size).size = 32, (0 : Int) ≤ 0 ∧ (0 : Int) < (s.size : Int), decide (k0 s = 4) = false], .tup [zSp, .one (.i 6)]) := by kernel_rfl
theorem r35e0 (s : ByteArray) : callR (mkE L35 S35) 1000 36 [sS s] [true, false, false, false, true, false] =
  some ([(!decide ((s.size : Int) = 33)) = true, (!decide ((s.size : Int) = 65)) = false, (0 : Int) ≤ 33 ∧ (33 : Int) ≤ (s.size : Int), (0 : Int) ≤ 1 ∧ (1 : Int) ≤ ((33 : Nat) : Int), (s.extract 1 33).size = 32, (0 : Int) ≤ 0 ∧ (0 : Int) < (s.size : Int), decide (k0 s = 2) = false, (0 : Int) ≤ 0 ∧ (0 : Int) < (s.size : Int), decide (k0 s = 3) = false, decide ((s.size : Int) = 65) = true, (0 : Int) ≤ 33 ∧ (33 : Int) ≤ (s.size : Int), (s.extract 33 s.size).size = 32, (0 : Int) ≤ 0 ∧ (0 : Int) < (s.size : Int), decide (k0 s = 4) = false], .tup [zSp, .one (.i 6)]) := by kernel_rfl
theorem r35f (s : ByteArray) : callR (mkE L35 S35) 1000 36 [sS s] [true, false, false, false, true, true, false] =
  some ([(!decide ((s.size : Int) = 33)) = true, (!decide ((s.size : Int) = 65)) = false, (0 : Int) ≤ 33 ∧ (33 : Int) ≤ (s.size : Int), (0 : Int) ≤ 1 ∧ (1 : Int) ≤ ((33 : Nat) : Int), (s.extract 1 33).size = 32, (0 : Int) ≤ 0 ∧ (0 : Int) < (s.size : Int), decide (k0 s = 2) = false, (0 : Int) ≤ 0 ∧ (0 : Int) < (s.size : Int), decide (k0 s = 3) = false, decide ((s.size : Int) = 65) = true, (0 : Int) ≤ 33 ∧ (33 : Int) ≤ (s.size : Int), (s.extract 33 s.size).size = 32, (0 : Int) ≤ 0 ∧ (0 : Int) < (s.size : Int), decide (k0 s = 4) = true, ok1 1 (bx s) = false, (bx s) < 4294967296 ^ 8], .tup [zSp, .one (.i 6)]) := by kernel_rfl
theorem r35g (s : ByteArray) : callR (mkE L35 S35) 1000 36 [sS s] [true, false, false, false, true, true, true, false] =
  some ([(!decide ((s.size : Int) = 33)) = true, (!decide ((s.size : Int) = 65)) = false, (0 : Int) ≤ 33 ∧ (33 : Int) ≤ (s.size : Int), (0 : Int) ≤ 1 ∧ (1 : Int) ≤ ((33 : Nat) : Int), (s.extract 1 33).size = 32, (0 : Int) ≤ 0 ∧ (0 : Int) < (s.size : Int), decide (k0 s = 2) = false, (0 : Int) ≤ 0 ∧ (0 : Int) < (s.size : Int), decide (k0 s = 3) = false, decide ((s.size : Int) = 65) = true, (0 : Int) ≤ 33 ∧ (33 : Int) ≤ (s.size : Int), (s.extract 33 s.size).size = 32, (0 : Int) ≤ 0 ∧ (0 : Int) < (s.size : Int), decide (k0 s = 4) = true, ok1 1 (bx s) = true, (bx s) < 4294967296 ^ 8, ok1 1 (yb s) = false, (yb s) < 4294967296 ^ 8], .tup [zSp, .one (.i 6)]) := by kernel_rfl
theorem r35h (s : ByteArray) : callR (mkE L35 S35) 1000 36 [sS s] [true, false, false, false, true, true, true, true, false, false] =
  some ([(!decide ((s.size : Int) = 33)) = true, (!decide ((s.size : Int) = 65)) = false, (0 : Int) ≤ 33 ∧ (33 : Int) ≤ (s.size : Int), (0 : Int) ≤ 1 ∧ (1 : Int) ≤ ((33 : Nat) : Int), (s.extract 1 33).size = 32, (0 : Int) ≤ 0 ∧ (0 : Int) < (s.size : Int), decide (k0 s = 2) = false, (0 : Int) ≤ 0 ∧ (0 : Int) < (s.size : Int), decide (k0 s = 3) = false, decide ((s.size : Int) = 65) = true, (0 : Int) ≤ 33 ∧ (33 : Int) ≤ (s.size : Int), (s.extract 33 s.size).size = 32, (0 : Int) ≤ 0 ∧ (0 : Int) < (s.size : Int), decide (k0 s = 4) = true, ok1 1 (bx s) = true, (bx s) < 4294967296 ^ 8, ok1 1 (yb s) = true, (yb s) < 4294967296 ^ 8, decide ((s.size : Int) = 33) = false, onS (bx s) (yb s) false = false, (bx s) < 4294967296 ^ 8, (yb s) < 4294967296 ^ 8], .tup [zSp, .one (.i 7)]) := by kernel_rfl
theorem r35i (s : ByteArray) : callR (mkE L35 S35) 1000 36 [sS s] [true, false, false, false, true, true, true, true, false, true] =
  some ([(!decide ((s.size : Int) = 33)) = true, (!decide ((s.size : Int) = 65)) = false, (0 : Int) ≤ 33 ∧ (33 : Int) ≤ (s.size : Int), (0 : Int) ≤ 1 ∧ (1 : Int) ≤ ((33 : Nat) : Int), (s.extract 1 33).size = 32, (0 : Int) ≤ 0 ∧ (0 : Int) < (s.size : Int), decide (k0 s = 2) = false, (0 : Int) ≤ 0 ∧ (0 : Int) < (s.size : Int), decide (k0 s = 3) = false, decide ((s.size : Int) = 65) = true, (0 : Int) ≤ 33 ∧ (33 : Int) ≤ (s.size : Int), (s.extract 33 s.size).size = 32, (0 : Int) ≤ 0 ∧ (0 : Int) < (s.size : Int), decide (k0 s = 4) = true, ok1 1 (bx s) = true, (bx s) < 4294967296 ^ 8, ok1 1 (yb s) = true, (yb s) < 4294967296 ^ 8, decide ((s.size : Int) = 33) = false, onS (bx s) (yb s) false = true, (bx s) < 4294967296 ^ 8, (yb s) < 4294967296 ^ 8], .tup [P3 (bx s) (yb s) false, .one (.i 0)]) := by kernel_rfl
end Go.Ev

namespace Go.Ev
open Go Go.Proofs Go.RowKit
noncomputable def wE (s : ByteArray) : Int :=
  bif decide (s.size = 33) then (bif (decide (k0 s = 2) || decide (k0 s = 3)) && decide (bx s < modN 1) then fdE (bx s) else 6)
  else bif decide (s.size = 65) then (bif decide (k0 s = 4) && (decide (bx s < modN 1) && decide (yb s < modN 1)) then (bif onS (bx s) (yb s) false then 0 else 7) else 6)
  else 1
noncomputable def wX (s : ByteArray) : Nat := bif decide (wE s = 0) then bx s else 0
noncomputable def wY (s : ByteArray) : Nat := bif decide (wE s = 0) then (bif decide (s.size = 33) then fdY (bx s) (decide (2 < k0 s)) else yb s) else 0
theorem ok1w {x : Nat} : ok1 1 x = decide (x < modN 1) := by
  unfold ok1 lessB
  rw [show modB 1 = true from rfl, Bool.true_and]
  rfl
theorem ex_size {s : ByteArray} (h : 33 ≤ s.size) : (s.extract 1 33).size = 32 := by rw [ByteArray.size_extract]; omega
theorem ex_size2 {s : ByteArray} (h : s.size = 65) : (s.extract 33 s.size).size = 32 := by rw [ByteArray.size_extract]; omega
theorem wXY_err {s : ByteArray} (h : wE s ≠ 0) : wX s = 0 ∧ wY s = 0 := by
  have hd : decide (wE s = 0) = false := decide_eq_false h
  constructor
  · unfold wX; rw [hd, cond_false]
  · unfold wY; rw [hd, cond_false]
theorem wE_form {s : ByteArray} (h1 : s.size ≠ 33) (h2 : s.size ≠ 65) : wE s = 1 := by
  unfold wE; rw [decide_eq_false h1, decide_eq_false h2, cond_false, cond_false]
theorem wE_33 {s : ByteArray} (h : s.size = 33) : wE s = bif (decide (k0 s = 2) || decide (k0 s = 3)) && decide (bx s < modN 1) then fdE (bx s) else 6 := by
  unfold wE; rw [decide_eq_true h, cond_true]
theorem wE_65 {s : ByteArray} (h : s.size = 65) : wE s = bif decide (k0 s = 4) && (decide (bx s < modN 1) && decide (yb s < modN 1)) then (bif onS (bx s) (yb s) false then 0 else 7) else 6 := by
  unfold wE; rw [decide_eq_false (show ¬ s.size = 33 by omega), decide_eq_true h, cond_false, cond_true]
theorem res33 {s : ByteArray} (h : s.size = 33) {o : Bool} (ho : decide (2 < k0 s) = o) (he : wE s = fdE (bx s)) : wX s = fdX (bx s) ∧ wY s = fdY (bx s) o := by
  unfold wX wY
  rw [he, decide_eq_true h, cond_true, ho]
  unfold fdE fdX fdY
  cases hr : rtS (bx s) with
  | true => rw [cond_true, cond_true, decide_eq_true rfl, cond_true, cond_true, cond_true]; exact ⟨rfl, rfl⟩
  | false => rw [cond_false, cond_false, decide_eq_false (by decide), cond_false, cond_false, cond_false]; exact ⟨rfl, rfl⟩
end Go.Ev

namespace Go.Ev
open Go Go.Proofs Go.RowKit
end Go.Ev

namespace Go.Ev
open Go Go.Proofs Go.RowKit
theorem beS_lt {s : ByteArray} (h : s.size = 32) : beS s < 4294967296 ^ 8 := by
  have := leS_lt (revS s)
  rw [revS_size, h] at this
  exact Nat.lt_of_lt_of_le this (by decide)
theorem bbT {a b : Bool} {x y : Int} (ha : a = true) (hb : b = true) : (bif a && b then x else y) = x := by rw [ha, hb]; rfl
theorem spec35u (s : ByteArray) : Spec 36 [sS s] (.tup [P3 (wX s) (wY s) false, .one (.i (wE s))]) := by
  have hE0 : ∀ {z : Int}, wE s = z → z ≠ 0 → wX s = 0 ∧ wY s = 0 := fun h h0 => wXY_err (by rw [h]; exact h0)
  by_cases h : s.size = 33
  · have BX8 : bx s < 4294967296 ^ 8 := beS_lt (ex_size (by omega))
    have six : (bif (decide (k0 s = 2) || decide (k0 s = 3)) && decide (bx s < modN 1) then fdE (bx s) else 6) = (6 : Int) → Spec 36 [sS s] (.tup [P3 0 0 false, .one (.i 6)]) → Spec 36 [sS s] (.tup [P3 (wX s) (wY s) false, .one (.i (wE s))]) := by
      intro e hs
      have e := (wE_33 h).trans e
      obtain ⟨e1, e2⟩ := hE0 e (by decide)
      rw [e, e1, e2]
      exact hs
    by_cases hk : k0 s = 2
    · by_cases hx : bx s < modN 1
      · have he : wE s = fdE (bx s) := (wE_33 h).trans (bbT (by rw [decide_eq_true hk, Bool.true_or]) (decide_eq_true hx))
        obtain ⟨e1, e2⟩ := res33 h (o := false) (decide_eq_false (by omega)) he
        rw [he, e1, e2]
        exact spec_run (envMk L35_ok S35) rfl (r35d2 s) ⟨by rw [decide_eq_true (show (s.size : Int) = 33 by omega)]; rfl, by omega, by decide, ex_size (by omega), by omega, decide_eq_true hk, decide_eq_false (show ¬ (s.size : Int) = 65 by omega), by rw [ok1w]; exact decide_eq_true hx, BX8, by rw [ok1w]; exact decide_eq_true (modN_pos 1), by decide, by decide, by decide, by decide, by decide, by decide, by decide, by decide, decide_eq_true (show (s.size : Int) = 33 by omega), by omega, (decide_eq_false (by omega)), BX8, by decide, by decide, by decide, by decide, by decide, by decide, by decide, by decide, hx, rfl, trivial⟩ rfl rfl
      · exact six (by rw [decide_eq_true hk, decide_eq_false hx]; simp only [Bool.and_false, cond_false]) ((spec_run (envMk L35_ok S35) rfl (r35c2 s) ⟨by rw [decide_eq_true (show (s.size : Int) = 33 by omega)]; rfl, by omega, by decide, ex_size (by omega), by omega, decide_eq_true hk, decide_eq_false (show ¬ (s.size : Int) = 65 by omega), by rw [ok1w]; exact decide_eq_false hx, BX8, trivial⟩ rfl rfl).congr (fun _ => rfl) (fun φ => zerr_conc φ 6))
    · have hk2 := hk
      by_cases hk : k0 s = 3
      · by_cases hx : bx s < modN 1
        · have he : wE s = fdE (bx s) := (wE_33 h).trans (bbT (by rw [decide_eq_true hk, Bool.or_true]) (decide_eq_true hx))
          obtain ⟨e1, e2⟩ := res33 h (o := true) (decide_eq_true (by omega)) he
          rw [he, e1, e2]
          exact spec_run (envMk L35_ok S35) rfl (r35d3 s) ⟨by rw [decide_eq_true (show (s.size : Int) = 33 by omega)]; rfl, by omega, by decide, ex_size (by omega), by omega, decide_eq_false (by omega), by omega, decide_eq_true hk, decide_eq_false (show ¬ (s.size : Int) = 65 by omega), by rw [ok1w]; exact decide_eq_true hx, BX8, by rw [ok1w]; exact decide_eq_true (modN_pos 1), by decide, by decide, by decide, by decide, by decide, by decide, by decide, by decide, decide_eq_true (show (s.size : Int) = 33 by omega), by omega, (decide_eq_true (by omega)), BX8, by decide, by decide, by decide, by decide, by decide, by decide, by decide, by decide, hx, rfl, trivial⟩ rfl rfl
        · exact six (by rw [decide_eq_true hk, decide_eq_false hx]; simp only [Bool.and_false, cond_false]) ((spec_run (envMk L35_ok S35) rfl (r35c3 s) ⟨by rw [decide_eq_true (show (s.size : Int) = 33 by omega)]; rfl, by omega, by decide, ex_size (by omega), by omega, decide_eq_false (by omega), by omega, decide_eq_true hk, decide_eq_false (show ¬ (s.size : Int) = 65 by omega), by rw [ok1w]; exact decide_eq_false hx, BX8, trivial⟩ rfl rfl).congr (fun _ => rfl) (fun φ => zerr_conc φ 6))
      · have hk3 := hk
        exact six (by rw [decide_eq_false hk2, decide_eq_false hk3]; simp only [Bool.or_false, Bool.false_and, cond_false]) ((spec_run (envMk L35_ok S35) rfl (r35b0 s) ⟨by rw [decide_eq_true (show (s.size : Int) = 33 by omega)]; rfl, by omega, by decide, ex_size (by omega), by omega, decide_eq_false hk2, by omega, decide_eq_false hk3, decide_eq_false (show ¬ (s.size : Int) = 65 by omega), trivial⟩ rfl rfl).congr (fun _ => rfl) (fun φ => zerr_conc φ 6))
  · by_cases h6 : s.size = 65
    · have BX8 : bx s < 4294967296 ^ 8 := beS_lt (ex_size (by omega))
      have YB8 : yb s < 4294967296 ^ 8 := beS_lt (ex_size2 h6)
      have six : (bif decide (k0 s = 4) && (decide (bx s < modN 1) && decide (yb s < modN 1)) then (bif onS (bx s) (yb s) false then 0 else 7) else 6) = (6 : Int) → Spec 36 [sS s] (.tup [P3 0 0 false, .one (.i 6)]) → Spec 36 [sS s] (.tup [P3 (wX s) (wY s) false, .one (.i (wE s))]) := by
        intro e hs
        have e := (wE_65 h6).trans e
        obtain ⟨e1, e2⟩ := hE0 e (by decide)
        rw [e, e1, e2]
        exact hs
      by_cases hk4 : k0 s = 4
      · have hk2 : ¬ k0 s = 2 := by omega
        have hk3 : ¬ k0 s = 3 := by omega
        by_cases hx : bx s < modN 1
        · by_cases hyl : yb s < modN 1
          · have e0 : wE s = bif onS (bx s) (yb s) false then 0 else 7 := (wE_65 h6).trans (bbT (decide_eq_true hk4) (by rw [decide_eq_true hx, decide_eq_true hyl]; rfl))
            cases ho : onS (bx s) (yb s) false with
            | false =>
              rw [ho, cond_false] at e0
              obtain ⟨e1, e2⟩ := hE0 e0 (by decide)
              rw [e0, e1, e2]
              exact (spec_run (envMk L35_ok S35) rfl (r35h s) ⟨by rw [decide_eq_false (show ¬ (s.size : Int) = 33 by omega)]; rfl, by rw [decide_eq_true (show (s.size : Int) = 65 by omega)]; rfl, by omega, by decide, ex_size (by omega), by omega, decide_eq_false hk2, by omega, decide_eq_false hk3, decide_eq_true (show (s.size : Int) = 65 by omega), by omega, ex_size2 h6, by omega, decide_eq_true hk4, by rw [ok1w]; exact decide_eq_true hx, BX8, by rw [ok1w]; exact decide_eq_true hyl, YB8, decide_eq_false (show ¬ (s.size : Int) = 33 by omega), ho, BX8, YB8, trivial⟩ rfl rfl).congr (fun _ => rfl) (fun φ => zerr_conc φ 7)
            | true =>
              rw [ho, cond_true] at e0
              have e1 : wX s = bx s := by unfold wX; rw [decide_eq_true e0, cond_true]
              have e2 : wY s = yb s := by unfold wY; rw [decide_eq_true e0, cond_true, decide_eq_false h, cond_false]
              rw [e0, e1, e2]
              exact spec_run (envMk L35_ok S35) rfl (r35i s) ⟨by rw [decide_eq_false (show ¬ (s.size : Int) = 33 by omega)]; rfl, by rw [decide_eq_true (show (s.size : Int) = 65 by omega)]; rfl, by omega, by decide, ex_size (by omega), by omega, decide_eq_false hk2, by omega, decide_eq_false hk3, decide_eq_true (show (s.size : Int) = 65 by omega), by omega, ex_size2 h6, by omega, decide_eq_true hk4, by rw [ok1w]; exact decide_eq_true hx, BX8, by rw [ok1w]; exact decide_eq_true hyl, YB8, decide_eq_false (show ¬ (s.size : Int) = 33 by omega), ho, BX8, YB8, trivial⟩ rfl rfl
          · exact six (by rw [decide_eq_false hyl]; simp only [Bool.and_false, cond_false]) ((spec_run (envMk L35_ok S35) rfl (r35g s) ⟨by rw [decide_eq_false (show ¬ (s.size : Int) = 33 by omega)]; rfl, by rw [decide_eq_true (show (s.size : Int) = 65 by omega)]; rfl, by omega, by decide, ex_size (by omega), by omega, decide_eq_false hk2, by omega, decide_eq_false hk3, decide_eq_true (show (s.size : Int) = 65 by omega), by omega, ex_size2 h6, by omega, decide_eq_true hk4, by rw [ok1w]; exact decide_eq_true hx, BX8, by rw [ok1w]; exact decide_eq_false hyl, YB8, trivial⟩ rfl rfl).congr (fun _ => rfl) (fun φ => zerr_conc φ 6))
        · exact six (by rw [decide_eq_false hx]; simp only [Bool.and_false, Bool.false_and, cond_false]) ((spec_run (envMk L35_ok S35) rfl (r35f s) ⟨by rw [decide_eq_false (show ¬ (s.size : Int) = 33 by omega)]; rfl, by rw [decide_eq_true (show (s.size : Int) = 65 by omega)]; rfl, by omega, by decide, ex_size (by omega), by omega, decide_eq_false hk2, by omega, decide_eq_false hk3, decide_eq_true (show (s.size : Int) = 65 by omega), by omega, ex_size2 h6, by omega, decide_eq_true hk4, by rw [ok1w]; exact decide_eq_false hx, BX8, trivial⟩ rfl rfl).congr (fun _ => rfl) (fun φ => zerr_conc φ 6))
      · by_cases hk : k0 s = 2
        · exact six (by rw [decide_eq_false hk4]; simp only [Bool.false_and, cond_false]) ((spec_run (envMk L35_ok S35) rfl (r35e2 s) ⟨by rw [decide_eq_false (show ¬ (s.size : Int) = 33 by omega)]; rfl, by rw [decide_eq_true (show (s.size : Int) = 65 by omega)]; rfl, by omega, by decide, ex_size (by omega), by omega, decide_eq_true hk, decide_eq_true (show (s.size : Int) = 65 by omega), by omega, ex_size2 h6, by omega, decide_eq_false hk4, trivial⟩ rfl rfl).congr (fun _ => rfl) (fun φ => zerr_conc φ 6))
        · have hk2 := hk
          by_cases hk : k0 s = 3
          · exact six (by rw [decide_eq_false hk4]; simp only [Bool.false_and, cond_false]) ((spec_run (envMk L35_ok S35) rfl (r35e3 s) ⟨by rw [decide_eq_false (show ¬ (s.size : Int) = 33 by omega)]; rfl, by rw [decide_eq_true (show (s.size : Int) = 65 by omega)]; rfl, by omega, by decide, ex_size (by omega), by omega, decide_eq_false (by omega), by omega, decide_eq_true hk, decide_eq_true (show (s.size : Int) = 65 by omega), by omega, ex_size2 h6, by omega, decide_eq_false hk4, trivial⟩ rfl rfl).congr (fun _ => rfl) (fun φ => zerr_conc φ 6))
          · have hk3 := hk
            exact six (by rw [decide_eq_false hk4]; simp only [Bool.false_and, cond_false]) ((spec_run (envMk L35_ok S35) rfl (r35e0 s) ⟨by rw [decide_eq_false (show ¬ (s.size : Int) = 33 by omega)]; rfl, by rw [decide_eq_true (show (s.size : Int) = 65 by omega)]; rfl, by omega, by decide, ex_size (by omega), by omega, decide_eq_false hk2, by omega, decide_eq_false hk3, decide_eq_true (show (s.size : Int) = 65 by omega), by omega, ex_size2 h6, by omega, decide_eq_false hk4, trivial⟩ rfl rfl).congr (fun _ => rfl) (fun φ => zerr_conc φ 6))
    · have e := wE_form h h6
      obtain ⟨e1, e2⟩ := hE0 e (by decide)
      rw [e, e1, e2]
      exact (spec_run (envMk L35_ok S35) rfl (r35a s) ⟨by rw [decide_eq_false (show ¬ (s.size : Int) = 33 by omega)]; rfl, by rw [decide_eq_false (show ¬ (s.size : Int) = 65 by omega)]; rfl, trivial⟩ rfl rfl).congr (fun _ => rfl) (fun φ => zerr_conc φ 1)
end Go.Ev

