/- The page's block, and what fits -/
import Derived.Test.YtcllniellnhcoaaChaA
namespace Go.Ev
open Go Go.Proofs Go.RowKit

/-! the page's block -/
theorem goR (s : S16) : Goes Try.prog (.loop (bodyOf Try.prog 22 13)) (.exit 4) (TR ((0 : Nat) : Int)) [w16 s, w16 s] TRE [w16 s, w16 (itD 10 s)] := by
  refine loop_goes (N := 10) (k := 2) (T := fun k => TR (k : Int)) (M := fun k => [w16 s, w16 (itD k s)]) (by simp) (fun _ _ => by simp only [List.length_cons, List.length_nil]) (fun k hk => ?_) ?_
  · simp only [itD_succ]
    exact Runs.goes envER ⟨[true], _, ref_run s (itD k s) k, ⟨decide_eq_true (by omega), by unfold inI; omega, trivial⟩, wf2 (w16_free _) (w16_free _) (tTR _)⟩
  · exact Runs.goes envER ⟨[false], _, ref_out s (itD 10 s), ⟨decide_eq_false (by omega), trivial⟩, wf2 (w16_free _) (w16_free _) tTRE⟩
noncomputable def EL (s y : S16) : Env := addL (mkE LR fun _ _ => false) 13 (bodyOf Try.prog 22 13) (sumC (TR ((0 : Nat) : Int)) [w16 s, w16 s] TRE [w16 s, w16 y] (.exit 4))
theorem envEL (s : S16) : EnvOK (EL s (itD 10 s)) := envAddL (envMk LR_ok _) (sumC_ok (by simp only [List.length_cons, List.length_nil]) (goR s))
def bytes4r (v : Nat) : List Nat := [v / 1 % 256, v / 256 % 256, v / 65536 % 256, v / 16777216 % 256]
def outR (s x : S16) : List Nat := bytes4r (add32 x.a0 s.a0) ++ bytes4r (add32 x.a1 s.a1) ++ bytes4r (add32 x.a2 s.a2) ++ bytes4r (add32 x.a3 s.a3) ++ bytes4r (add32 x.a4 s.a4) ++ bytes4r (add32 x.a5 s.a5) ++ bytes4r (add32 x.a6 s.a6) ++ bytes4r (add32 x.a7 s.a7) ++ bytes4r (add32 x.a8 s.a8) ++ bytes4r (add32 x.a9 s.a9) ++ bytes4r (add32 x.a10 s.a10) ++ bytes4r (add32 x.a11 s.a11) ++ bytes4r (add32 x.a12 s.a12) ++ bytes4r (add32 x.a13 s.a13) ++ bytes4r (add32 x.a14 s.a14) ++ bytes4r (add32 x.a15 s.a15)
theorem outR_eq (s x : S16) : outR s x = outOf s x := by
  unfold outR outOf bytes4r bytes4
  simp only [Nat.div_one]
theorem run22 (k t : ByteArray) (n : Nat) (s x : S16) : callR (EL s x) 1000 22 [strV k, u32 n, strV t] [] =
    some ([0 + 4 ≤ k.size, 0 < 1000000, 4 + 4 ≤ k.size, 4 < 1000000, 8 + 4 ≤ k.size, 8 < 1000000, 12 + 4 ≤ k.size, 12 < 1000000, 16 + 4 ≤ k.size, 16 < 1000000, 20 + 4 ≤ k.size, 20 < 1000000, 24 + 4 ≤ k.size, 24 < 1000000, 28 + 4 ≤ k.size, 28 < 1000000, 0 + 4 ≤ t.size, 0 < 1000000, 4 + 4 ≤ t.size, 4 < 1000000, 8 + 4 ≤ t.size, 8 < 1000000, bodyOf Try.prog 22 13 = bodyOf Try.prog 22 13, (TR ((0 : Nat) : Int), [w16 (begun k n t), w16 (begun k n t)]) = (TR ((0 : Nat) : Int), [w16 s, w16 s]), wfS (TR ((0 : Nat) : Int)) [w16 s, w16 s] = true], .val (strV (strOf (outR s x)))) := by kernel_rfl
def fnBlockR (vs : List V1) : Option (List Prop × AV) :=
  match vs with
  | [.one (.v (.string k)), .one (.u .u32 n), .one (.v (.string t))] => some ([fitKN k t = true], .val (strV (blockOf k n t)))
  | _ => none
theorem fit_sz {k t : ByteArray} (h : fitKN k t = true) : k.size = 32 ∧ t.size = 12 := by
  unfold fitKN at h
  simp only [Bool.and_eq_true, decide_eq_true_iff] at h
  exact h
theorem ct22 : CTok ⟨22, fnBlockR⟩ := by
  intro vs ob r h ho
  simp only [fnBlockR] at h
  split at h
  · rename_i k n t
    simp only [Option.some.injEq, Prod.mk.injEq] at h
    obtain ⟨rfl, rfl⟩ := h
    obtain ⟨h1, h2⟩ := fit_sz ho.1
    have h := spec_run (envEL (begun k n t)) rfl (run22 k t n _ _) ⟨by omega, by omega, by omega, by omega, by omega, by omega, by omega, by omega, by omega, by omega, by omega, by omega, by omega, by omega, by omega, by omega, by omega, by omega, by omega, by omega, by omega, by omega, rfl, rfl, wf2 (w16_free _) (w16_free _) (tTR _), trivial⟩ rfl rfl
    rw [outR_eq] at h
    exact h
  · simp at h

/-! noughts, and what fits -/
def zs (n : Nat) : ByteArray := ⟨(List.replicate n 0).toArray⟩
def zV (n : Nat) : V1 := strV (zs n)
theorem run27a : callR E0 1000 27 [.one (.i 32)] [] = some ([], .val (zV 32)) := by kernel_rfl
theorem run27b : callR E0 1000 27 [.one (.i 12)] [] = some ([], .val (zV 12)) := by kernel_rfl
theorem run27c : callR E0 1000 27 [.one (.i 140)] [] = some ([], .val (zV 140)) := by kernel_rfl
def fn27 (vs : List V1) : Option (List Prop × AV) :=
  match vs with
  | [.one (.i (.ofNat z))] => some ([z = 32 ∨ z = 12 ∨ z = 140], .val (zV z))
  | _ => none
theorem ct27 : CTok ⟨27, fn27⟩ := by
  intro vs ob r h ho
  simp only [fn27] at h
  split at h
  · simp only [Option.some.injEq, Prod.mk.injEq] at h
    obtain ⟨rfl, rfl⟩ := h
    rcases ho.1 with rfl | rfl | rfl
    · exact spec_run envE0 rfl run27a trivial rfl rfl
    · exact spec_run envE0 rfl run27b trivial rfl rfl
    · exact spec_run envE0 rfl run27c trivial rfl rfl
  · simp at h
end Go.Ev

namespace Go.Ev
open Go Go.Proofs Go.RowKit

/-! what fits -/
def askV (k t x s : ByteArray) (n a b c d : Nat) : V1 := .agg [.a (.v (.string k)), .a (.v (.string t)), .a (.v (.string x)), .a (.v (.string s)), .a (.u .u32 n), .a (.u .u32 a), .a (.u .u32 b), .a (.u .u32 c), .a (.u .u32 d)]
def kfit (k : ByteArray) : ByteArray := (k ++ zs 32).extract 0 32
def tfit (t : ByteArray) : ByteArray := (t ++ zs 12).extract 0 12
noncomputable def L20 : List CT := [⟨27, fn27⟩, ⟨21, fnBlock⟩, ⟨22, fnBlockR⟩] ++ LR
theorem L20_ok : AllCT L20 := ⟨ct27, ct21, ct22, LR_ok⟩
noncomputable def E20 : Env := mkE L20 fun f t => match f with | 20 => memN t [6, 7, 11, 12] | _ => false
theorem envE20 : EnvOK E20 := envMk L20_ok _
theorem run20 (k t x s : ByteArray) (n a b c d : Nat) : callR E20 1000 20 [askV k t x s n a b c d] [] =
    some ([32 = 32 ∨ 32 = 12 ∨ 32 = 140, k.size + (zs 32).size ≤ 9223372036854775807, (0 : Int) ≤ 32 ∧ (32 : Int) ≤ ((k ++ zs 32).size : Int), 12 = 32 ∨ 12 = 12 ∨ 12 = 140, t.size + (zs 12).size ≤ 9223372036854775807, (0 : Int) ≤ 12 ∧ (12 : Int) ≤ ((t ++ zs 12).size : Int)], .val (askV (kfit k) (tfit t) x s n a b c d)) := by kernel_rfl
theorem zs_size (n : Nat) : (zs n).size = n := by unfold zs ByteArray.size; simp
theorem kfit_size (k : ByteArray) : (kfit k).size = 32 := by unfold kfit; rw [ByteArray.size_extract, ByteArray.size_append, zs_size]; omega
theorem tfit_size (k : ByteArray) : (tfit k).size = 12 := by unfold tfit; rw [ByteArray.size_extract, ByteArray.size_append, zs_size]; omega
theorem fit_fit (k t : ByteArray) : fitKN (kfit k) (tfit t) = true := by unfold fitKN; rw [kfit_size, tfit_size]; rfl
def fnFit (vs : List V1) : Option (List Prop × AV) :=
  match vs with
  | [.agg [.a (.v (.string k)), .a (.v (.string t)), .a (.v (.string x)), .a (.v (.string s)), .a (.u .u32 n), .a (.u .u32 a), .a (.u .u32 b), .a (.u .u32 c), .a (.u .u32 d)]] => some ([k.size ≤ 1000000, t.size ≤ 1000000], .val (askV (kfit k) (tfit t) x s n a b c d))
  | _ => none
theorem ct20 : CTok ⟨20, fnFit⟩ := by
  intro vs ob r h ho
  simp only [fnFit] at h
  split at h
  · rename_i k t x s n a b c d
    simp only [Option.some.injEq, Prod.mk.injEq] at h
    obtain ⟨rfl, rfl⟩ := h
    obtain ⟨h1, h2, _⟩ := ho
    refine spec_run envE20 rfl (run20 k t x s n a b c d) ⟨by omega, by rw [zs_size]; omega, ⟨by omega, by rw [ByteArray.size_append, zs_size]; omega⟩, by omega, by rw [zs_size]; omega, ⟨by omega, by rw [ByteArray.size_append, zs_size]; omega⟩, trivial⟩ rfl rfl
  · simp at h

/-! sixty-four bytes -/
def s0 : S16 := ⟨1634760805, 857760878, 2036477234, 1797285236, 0, 0, 0, 0, 0, 0, 0, 0, 0, 0, 0, 0⟩
theorem run66z : callR E0 1000 66 [zV 32, u32 0, zV 12] [] = some ([], .val (.agg s0.cells)) := by kernel_rfl
def fn66z (vs : List V1) : Option (List Prop × AV) :=
  match vs with
  | [.one (.v (.string s)), .one (.u .u32 n), .one (.v (.string t))] => some ([s = zs 32, n = 0, t = zs 12], .val (.agg s0.cells))
  | _ => none
theorem ct66z : CTok ⟨66, fn66z⟩ := by
  intro vs ob r h ho
  simp only [fn66z] at h
  split at h
  · simp only [Option.some.injEq, Prod.mk.injEq] at h
    obtain ⟨rfl, rfl⟩ := h
    obtain ⟨rfl, rfl, rfl, _⟩ := ho
    exact spec_run envE0 rfl run66z trivial rfl rfl
  · simp at h
noncomputable def EW : Env := addL (mkE ([⟨27, fn27⟩, ⟨66, fn66z⟩] ++ LQ) fun _ _ => false) 4 (bodyOf Try.prog 45 4) sumB
theorem envEW : EnvOK EW := envAddL (envMk (show AllCT ([⟨27, fn27⟩, ⟨66, fn66z⟩] ++ LQ) from ⟨ct27, ct66z, LQ_ok⟩) _) sumB_ok
theorem run24 : callR EW 1000 24 [] [] = some ([32 = 32 ∨ 32 = 12 ∨ 32 = 140, 12 = 32 ∨ 12 = 12 ∨ 12 = 140, zs 32 = zs 32, (0 : Nat) = 0, zs 12 = zs 12, bodyOf Try.prog 45 4 = bodyOf Try.prog 45 4,
    (TB ((0 : Nat) : Int), [w16 s0, w16 s0]) = (TB ((0 : Nat) : Int), [w16 s0, w16 s0]), wfS (TB ((0 : Nat) : Int)) [w16 s0, w16 s0] = true], bV true) := by kernel_rfl
theorem spec24 : Spec 24 [] (bV true) := spec_run envEW rfl run24 ⟨by omega, by omega, rfl, rfl, rfl, rfl, rfl, wf2 (w16_free _) (w16_free _) (tTB _), trivial⟩ rfl rfl
theorem run23 (z : Int) : callR E0 1000 23 [.one (.i z)] [] = some ([], iV z) := by kernel_rfl
def fnNum (vs : List V1) : Option (List Prop × AV) :=
  match vs with
  | [.one (.i z)] => some ([], iV z)
  | _ => none
theorem ct23 : CTok ⟨23, fnNum⟩ := by
  intro vs ob r h ho
  simp only [fnNum] at h
  split at h
  · simp only [Option.some.injEq, Prod.mk.injEq] at h
    obtain ⟨_, rfl⟩ := h
    exact spec_run envE0 rfl (run23 _) trivial rfl rfl
  · simp at h
end Go.Ev

