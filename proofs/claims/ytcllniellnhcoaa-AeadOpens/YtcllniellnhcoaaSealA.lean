/- What is sealed and opened, the program's and the page's -/
import Derived.Test.YtcllniellnhcoaaPolB
namespace Go.Ev
open Go Go.Proofs Go.RowKit
/-! what may be sealed; noughts behind a text; eight bytes of a length; two tags -/
noncomputable def EA1 : Env := mkE [] (fun f t => match f with | 61 => memN t [7, 11] | 71 => memN t [2000008, 2000009, 10] | _ => false)
theorem envEA1 : EnvOK EA1 := envMk (L := []) trivial _
theorem r61a (k t : ByteArray) : callR EA1 1000 61 [strV k, strV t] [true, true] = some ([decide ((k.size : Int) = 32) = true, decide ((t.size : Int) = 12) = true], bV true) := by kernel_rfl
theorem r61b (k t : ByteArray) : callR EA1 1000 61 [strV k, strV t] [true, false] = some ([decide ((k.size : Int) = 32) = true, decide ((t.size : Int) = 12) = false], bV false) := by kernel_rfl
theorem r61c (k t : ByteArray) : callR EA1 1000 61 [strV k, strV t] [false] = some ([decide ((k.size : Int) = 32) = false], bV false) := by kernel_rfl
def fn61 (vs : List V1) : Option (List Prop × AV) :=
  match vs with
  | [.one (.v (.string k)), .one (.v (.string t))] => some ([], bV (fitKN k t))
  | _ => none
theorem ct61 : CTok ⟨61, fn61⟩ := by
  intro vs ob r h ho
  simp only [fn61] at h
  split at h
  · rename_i k t
    simp only [Option.some.injEq, Prod.mk.injEq] at h
    obtain ⟨rfl, rfl⟩ := h
    by_cases hk : k.size = 32
    · by_cases ht : t.size = 12
      · rw [show fitKN k t = true by simp [fitKN, hk, ht]]
        exact spec_run envEA1 rfl (r61a k t) ⟨decide_eq_true (by omega), decide_eq_true (by omega), trivial⟩ rfl rfl
      · rw [show fitKN k t = false by simp [fitKN, ht]]
        exact spec_run envEA1 rfl (r61b k t) ⟨decide_eq_true (by omega), decide_eq_false (by omega), trivial⟩ rfl rfl
    · rw [show fitKN k t = false by simp [fitKN, hk]]
      exact spec_run envEA1 rfl (r61c k t) ⟨decide_eq_false (by omega), trivial⟩ rfl rfl
  · simp at h
def padN (n : Nat) : Nat := (16 - n % 16) % 16
def pad16 (s : ByteArray) : ByteArray := s ++ zs (padN s.size)
theorem pad16_size (s : ByteArray) : (pad16 s).size = s.size + padN s.size := by unfold pad16; rw [ByteArray.size_append, zs_size]
theorem padN_lt (n : Nat) : padN n < 16 := Nat.mod_lt _ (by decide)
def e71 (n : Int) : Int := IntKind.i64.wrap ((BitVec.ofInt 64 (IntKind.i64.wrap (0 - n)) &&& BitVec.ofInt 64 15).toNat : Nat)
theorem e71_eq (n : Nat) (h : n ≤ 1000000) : e71 (n : Int) = ((padN n : Nat) : Int) := by
  unfold e71 padN
  rw [wrap64_inI (show inI (0 - (n : Int)) by unfold inI; omega), BitVec.toNat_and, BitVec.toNat_ofInt, BitVec.toNat_ofInt]
  have e15 : ((15 : Int) % ((2 ^ 64 : Nat) : Int)).toNat = 2 ^ 4 - 1 := by decide
  rw [e15, Nat.and_two_pow_sub_one_eq_mod]
  have : ((0 - (n : Int)) % ((2 ^ 64 : Nat) : Int)).toNat % 2 ^ 4 = (16 - n % 16) % 16 := by
    simp only [Nat.reducePow]; omega
  rw [this]
  exact wrap64_inI (by unfold inI; omega)
theorem r71 (s : ByteArray) : callR EA1 1000 71 [strV s] [] =
  some ([(0 : Int) ≤ e71 (s.size : Int) ∧ e71 (s.size : Int) = e71 (s.size : Int) ∧ e71 (s.size : Int) ≤ 140737488355328, 0 = 0 ∧ (e71 (s.size : Int)).toNat = (List.replicate (e71 (s.size : Int)).toNat 0).length, s.size + (strOf (List.replicate (e71 (s.size : Int)).toNat 0)).size ≤ 9223372036854775807],
    .val (strV (s ++ strOf (List.replicate (e71 (s.size : Int)).toNat 0)))) := by kernel_rfl
theorem spec71 (s : ByteArray) (h : s.size ≤ 1000000) : Spec 71 [strV s] (.val (strV (pad16 s))) := by
  have e := e71_eq s.size h
  have hl := padN_lt s.size
  have h3 : (e71 (s.size : Int)).toNat = padN s.size := by rw [e]; omega
  have hr := spec_run envEA1 rfl (r71 s) ⟨⟨by rw [e]; omega, rfl, by rw [e]; omega⟩, ⟨rfl, by rw [List.length_replicate]⟩, by rw [strOf_size, List.length_replicate, h3]; omega, trivial⟩ rfl rfl
  rw [h3, strOf_zs] at hr
  exact hr
theorem ct71 : CTok ⟨71, fnS1 (fun s => [s.size ≤ 1000000]) fun s => .val (strV (pad16 s))⟩ := fnS1_ok fun s h => spec71 s h.1
def fn27z (vs : List V1) : Option (List Prop × AV) :=
  match vs with
  | [.one (.i z)] => some ([0 ≤ z ∧ z ≤ 1000000], .val (zV z.toNat))
  | _ => none
theorem ct27z : CTok ⟨27, fn27z⟩ := by
  intro vs ob r h ho
  simp only [fn27z] at h
  split at h
  · rename_i z
    simp only [Option.some.injEq, Prod.mk.injEq] at h
    obtain ⟨rfl, rfl⟩ := h
    obtain ⟨⟨h1, h2⟩, _⟩ := ho
    obtain ⟨n, rfl⟩ := Int.eq_ofNat_of_zero_le h1
    exact ct27n _ _ _ rfl ⟨by omega, trivial⟩
  · simp at h
noncomputable def EA2 : Env := mkE [⟨27, fn27z⟩] (fun f t => match f with | 63 => memN t [7, 10] | _ => false)
theorem envEA2 : EnvOK EA2 := envMk (L := [⟨27, fn27z⟩]) ⟨ct27z, trivial⟩ _
def e63 (n : Int) : Int := (16 - n.tmod 16).tmod 16
theorem e63_eq (n : Nat) : e63 (n : Int) = ((padN n : Nat) : Int) := by
  unfold e63 padN
  rw [show (n : Int).tmod 16 = ((n % 16 : Nat) : Int) from rfl, show (16 : Int) - ((n % 16 : Nat) : Int) = ((16 - n % 16 : Nat) : Int) by omega]
  rfl
theorem r63 (s : ByteArray) : callR EA2 1000 63 [strV s] [] = some ([inI (16 - (s.size : Int).tmod 16), 0 ≤ e63 (s.size : Int) ∧ e63 (s.size : Int) ≤ 1000000, s.size + (zs (e63 (s.size : Int)).toNat).size ≤ 9223372036854775807], .val (strV (s ++ zs (e63 (s.size : Int)).toNat))) := by kernel_rfl
theorem spec63 (s : ByteArray) (h : s.size ≤ 1000000) : Spec 63 [strV s] (.val (strV (pad16 s))) := by
  have e := e63_eq s.size
  have hl := padN_lt s.size
  have h3 : (e63 (s.size : Int)).toNat = padN s.size := by rw [e]; omega
  have hr := spec_run envEA2 rfl (r63 s) ⟨by rw [show (s.size : Int).tmod 16 = ((s.size % 16 : Nat) : Int) from rfl]; unfold inI; omega, by rw [e]; omega, by rw [zs_size, h3]; omega, trivial⟩ rfl rfl
  rw [h3] at hr
  exact hr
theorem ct63 : CTok ⟨63, fnS1 (fun s => [s.size ≤ 1000000]) fun s => .val (strV (pad16 s))⟩ := fnS1_ok fun s h => spec63 s h.1
def ei8 (z : Int) : List Nat := (List.range 8).map fun i => (z.fdiv (2 ^ (min (8 * i) 64)) % 256).toNat
def eightB (n : Nat) : ByteArray := strOf (ei8 (n : Int))
theorem eightB_size (n : Nat) : (eightB n).size = 8 := by unfold eightB; rw [strOf_size]; rfl
theorem r64 (z : Int) : callR E0 1000 64 [.one (.i z)] [] = some ([], .val (strV (strOf (ei8 z)))) := by kernel_rfl
theorem r72 (z : Int) : callR E0 1000 72 [.one (.i z)] [] = some ([], .val (strV (strOf (ei8 z)))) := by kernel_rfl
def fn64 (vs : List V1) : Option (List Prop × AV) :=
  match vs with
  | [.one (.i z)] => some ([], .val (strV (strOf (ei8 z))))
  | _ => none
theorem ct64 : CTok ⟨64, fn64⟩ := by
  intro vs ob r h ho
  simp only [fn64] at h
  split at h
  · simp only [Option.some.injEq, Prod.mk.injEq] at h
    obtain ⟨rfl, rfl⟩ := h
    exact spec_run envE0 rfl (r64 _) trivial rfl rfl
  · simp at h
theorem ct72 : CTok ⟨72, fn64⟩ := by
  intro vs ob r h ho
  simp only [fn64] at h
  split at h
  · simp only [Option.some.injEq, Prod.mk.injEq] at h
    obtain ⟨rfl, rfl⟩ := h
    exact spec_run envE0 rfl (r72 _) trivial rfl rfl
  · simp at h
def orx (acc x y : Nat) : Nat := acc % 256 ||| (x % 256 ^^^ y % 256) % 256
def oc (a b : Nat → UInt8) : Nat → Nat
  | 0 => 0
  | i + 1 => orx (oc a b i) (a i).toNat (b i).toNat
theorem r65 (a b : Nat → UInt8) : callR E0 1000 65 [strV (strB 16 a), strV (strB 16 b)] [] = some ([], bV (decide (oc a b 16 = 0))) := by kernel_rfl
theorem xor_zero (x y : Nat) : x ^^^ y = 0 ↔ x = y := by
  constructor
  · intro h
    have h2 : (x ^^^ y) ^^^ y = y := by rw [h, Nat.zero_xor]
    rwa [Nat.xor_assoc, Nat.xor_self, Nat.xor_zero] at h2
  · rintro rfl; exact Nat.xor_self x
theorem orx_zero (acc x y : Nat) (ha : acc < 256) (hx : x < 256) (hy : y < 256) : (orx acc x y = 0 ↔ acc = 0 ∧ x = y) ∧ orx acc x y < 256 := by
  have hxy : x ^^^ y < 2 ^ 8 := Nat.xor_lt_two_pow hx hy
  unfold orx
  rw [Nat.mod_eq_of_lt ha, Nat.mod_eq_of_lt hx, Nat.mod_eq_of_lt hy, Nat.mod_eq_of_lt (show x ^^^ y < 256 from hxy)]
  refine ⟨?_, Nat.or_lt_two_pow (n := 8) ha hxy⟩
  rw [Nat.or_eq_zero_iff, xor_zero]
theorem oc_zero (a b : Nat → UInt8) : ∀ n, oc a b n < 256 ∧ (oc a b n = 0 ↔ ∀ i, i < n → a i = b i)
  | 0 => ⟨by show 0 < 256; decide, by simp [oc]⟩
  | n + 1 => by
    obtain ⟨h1, h2⟩ := oc_zero a b n
    obtain ⟨h3, h4⟩ := orx_zero (oc a b n) (a n).toNat (b n).toNat h1 (UInt8.toNat_lt _) (UInt8.toNat_lt _)
    refine ⟨h4, ?_⟩
    show orx (oc a b n) (a n).toNat (b n).toNat = 0 ↔ _
    rw [h3, h2]
    constructor
    · rintro ⟨h5, h6⟩ i hi
      rcases Nat.lt_or_ge i n with h | h
      · exact h5 i h
      · have : i = n := by omega
        subst this; exact UInt8.toNat_inj.1 h6
    · intro h
      exact ⟨fun i hi => h i (by omega), by rw [h n (by omega)]⟩
/-- are two texts the same? -/
def sameB (a b : ByteArray) : Bool := a.toList == b.toList
theorem sameB_iff (a b : ByteArray) : sameB a b = true ↔ a = b := by
  unfold sameB
  rw [ByteArray.toList_eq, ByteArray.toList_eq, beq_iff_eq]
  constructor
  · intro h; exact ByteArray.ext (Array.ext' h)
  · rintro rfl; rfl
theorem spec65 (x y : ByteArray) (hx : x.size = 16) (hy : y.size = 16) : Spec 65 [strV x, strV y] (bV (sameB x y)) := by
  have ex := strB_of hx
  have ey := strB_of hy
  have hs := (oc_zero (fun i => x.data.getD i 0) (fun i => y.data.getD i 0) 16).2
  have e : decide (oc (fun i => x.data.getD i 0) (fun i => y.data.getD i 0) 16 = 0) = sameB x y := by
    rw [Bool.eq_iff_iff, decide_eq_true_iff, sameB_iff, hs]
    constructor
    · intro h
      rw [ex, ey]
      unfold strB
      congr 2
      apply List.map_congr_left
      intro i hi
      exact h i (by simpa using hi)
    · rintro rfl i _; rfl
  have := spec_run envE0 rfl (r65 (fun i => x.data.getD i 0) (fun i => y.data.getD i 0)) trivial rfl rfl
  rw [← ex, ← ey, e] at this
  exact this
def fn65 (vs : List V1) : Option (List Prop × AV) :=
  match vs with
  | [.one (.v (.string x)), .one (.v (.string y))] => some ([x.size = 16, y.size = 16], bV (sameB x y))
  | _ => none
theorem ct65 : CTok ⟨65, fn65⟩ := by
  intro vs ob r h ho
  simp only [fn65] at h
  split at h
  · rename_i x y
    simp only [Option.some.injEq, Prod.mk.injEq] at h
    obtain ⟨rfl, rfl⟩ := h
    exact spec65 x y ho.1 ho.2.1
  · simp at h
end Go.Ev

namespace Go.Ev
open Go Go.Proofs Go.RowKit
def fn21v (vs : List V1) : Option (List Prop × AV) :=
  match vs with
  | [.one (.v (.string k)), .one (.u .u32 n), .one (.v (.string t))] => some ([fitKN k t = true], .tup [strV (blockOf k n t), .one (.i 0)])
  | _ => none
theorem ct21v : CTok ⟨21, fn21v⟩ := by
  intro vs ob r h ho
  simp only [fn21v] at h
  split at h
  · rename_i k n t
    simp only [Option.some.injEq, Prod.mk.injEq] at h
    obtain ⟨rfl, rfl⟩ := h
    have := ct21 [.one (.v (.string k)), .one (.u .u32 n), .one (.v (.string t))] [] (.tup [strV (bif fitKN k t then blockOf k n t else ⟨#[]⟩), .one (.i (bif fitKN k t then 0 else 1))]) rfl trivial
    rwa [ho.1, cond_true, cond_true] at this
  · simp at h
def fn28v (vs : List V1) : Option (List Prop × AV) :=
  match vs with
  | [.one (.v (.string k)), .one (.v (.string s))] => some ([k.size = 32, s.size ≤ 8256], .tup [strV (tagB k s), .one (.i 0)])
  | _ => none
theorem ct28v : CTok ⟨28, fn28v⟩ := by
  intro vs ob r h ho
  simp only [fn28v] at h
  split at h
  · rename_i k s
    simp only [Option.some.injEq, Prod.mk.injEq] at h
    obtain ⟨rfl, rfl⟩ := h
    exact spec28 k s ho.1 ho.2.1
  · simp at h
def fn25v (vs : List V1) : Option (List Prop × AV) :=
  match vs with
  | [.one (.v (.string k)), .one (.u .u32 n), .one (.v (.string t)), .one (.v (.string s))] => some ([fitKN k t = true, s.size ≤ 4096], .tup [strV (streamOf k n t s), .one (.i 0)])
  | _ => none
theorem ct25v : CTok ⟨25, fn25v⟩ := by
  intro vs ob r h ho
  simp only [fn25v] at h
  split at h
  · rename_i k n t s
    simp only [Option.some.injEq, Prod.mk.injEq] at h
    obtain ⟨rfl, rfl⟩ := h
    have := ct25 [.one (.v (.string k)), .one (.u .u32 n), .one (.v (.string t)), .one (.v (.string s))] [] (.tup [strV (strmB k n t s), .one (.i (strmE k t s))]) rfl trivial
    unfold strmB strmE at this
    rwa [ho.1, decide_eq_true ho.2.1, cond_true, cond_true, cond_true, cond_true] at this
  · simp at h
theorem streamOf_size (k : ByteArray) (n : Nat) (t s : ByteArray) : (streamOf k n t s).size = s.size := by unfold streamOf; rw [strOf_size, xorP_length, numsB_length]
theorem gx_gx (x y : Nat) (hx : x < 256) : gx (gx x y) y = x := by
  have hxy : x % 256 ^^^ y % 256 < 2 ^ 8 := Nat.xor_lt_two_pow (Nat.mod_lt _ (by decide)) (Nat.mod_lt _ (by decide))
  unfold gx
  rw [Nat.mod_eq_of_lt (show x % 256 ^^^ y % 256 < 256 from hxy), Nat.xor_assoc, Nat.xor_self, Nat.xor_zero, Nat.mod_eq_of_lt hx]
theorem gx_lt (x y : Nat) : gx x y < 256 := Nat.xor_lt_two_pow (n := 8) (Nat.mod_lt _ (by decide)) (Nat.mod_lt _ (by decide))
/-- there and back. -/
theorem streamOf_twice (k : ByteArray) (n : Nat) (t s : ByteArray) : streamOf k n t (streamOf k n t s) = s := by
  have hl : (numsB s).length = s.size := numsB_length s
  have hlt : ∀ b ∈ xorP (kb k n t) s.size (numsB s), b < 256 := by
    intro b hb
    obtain ⟨i, hi, rfl⟩ := List.getElem_of_mem hb
    have hi' : i < (numsB s).length := by rw [xorP_length] at hi; exact hi
    rw [xorP_get _ _ _ i hi', if_pos (by omega)]
    exact gx_lt _ _
  have e : numsB (streamOf k n t s) = xorP (kb k n t) s.size (numsB s) := numsB_strOf _ hlt
  have e0 : streamOf k n t (streamOf k n t s) = strOf (xorP (kb k n t) (streamOf k n t s).size (numsB (streamOf k n t s))) := rfl
  rw [e0, streamOf_size, e]
  have : xorP (kb k n t) s.size (xorP (kb k n t) s.size (numsB s)) = numsB s := by
    apply List.ext_getElem (by rw [xorP_length, xorP_length])
    intro i h1 h2
    rw [xorP_get _ _ _ i (by rw [xorP_length]; exact h2), if_pos (by omega), xorP_get _ _ _ i h2, if_pos (by omega)]
    exact gx_gx _ _ (numsB_lt s _ (List.getElem_mem h2))
  rw [this, strOf_numsB]
def macS (ad c : ByteArray) : ByteArray := pad16 ad ++ pad16 c ++ eightB ad.size ++ eightB c.size
theorem macS_size (ad c : ByteArray) : (macS ad c).size = (pad16 ad).size + (pad16 c).size + 16 := by unfold macS; rw [ByteArray.size_append, ByteArray.size_append, ByteArray.size_append, eightB_size, eightB_size]
def tagOf (k t ad c : ByteArray) : ByteArray := tagB ((blockOf k 0 t).extract 0 32) (macS ad c)
theorem tagOf_size (k t ad c : ByteArray) : (tagOf k t ad c).size = 16 := tagB_size _ _
theorem blk32 (k t : ByteArray) : ((blockOf k 0 t).extract 0 32).size = 32 := by rw [ByteArray.size_extract, blockOf_size]; rfl
noncomputable def E62 : Env := mkE [⟨21, fn21v⟩, ⟨28, fn28v⟩, ⟨71, fnS1 (fun s => [s.size ≤ 1000000]) fun s => .val (strV (pad16 s))⟩, ⟨72, fn64⟩] (fun f t => match f with | 62 => memN t [21, 26, 30, 34] | _ => false)
theorem envE62 : EnvOK E62 := envMk (L := [⟨21, fn21v⟩, ⟨28, fn28v⟩, ⟨71, fnS1 (fun s => [s.size ≤ 1000000]) fun s => .val (strV (pad16 s))⟩, ⟨72, fn64⟩]) ⟨ct21v, ct28v, ct71, ct72, trivial⟩ _
theorem r62 (k : ByteArray) (t : ByteArray) (ad : ByteArray) (c : ByteArray) : callR E62 1000 62 [strV k, strV t, strV ad, strV c] [] =
    some ([fitKN k t = true, (0 : Int) ≤ (32 : Int) ∧ (32 : Int) ≤ (↑(ByteArray.size (blockOf k (0) t)) : Int), ByteArray.size ad ≤ 1000000, ByteArray.size c ≤ 1000000, ByteArray.size (pad16 ad) + ByteArray.size (pad16 c) ≤ 9223372036854775807, ByteArray.size (pad16 ad ++ pad16 c) + ByteArray.size (strOf (ei8 (↑(ByteArray.size ad) : Int))) ≤ 9223372036854775807, ByteArray.size (pad16 ad ++ pad16 c ++ strOf (ei8 (↑(ByteArray.size ad) : Int))) + ByteArray.size (strOf (ei8 (↑(ByteArray.size c) : Int))) ≤ 9223372036854775807, ByteArray.size (ByteArray.extract (blockOf k 0 t) 0 32) = 32, ByteArray.size (pad16 ad ++ pad16 c ++ strOf (ei8 (↑(ByteArray.size ad) : Int)) ++ strOf (ei8 (↑(ByteArray.size c) : Int))) ≤ 8256], .val (strV (tagOf k t ad c))) := by kernel_rfl
noncomputable def E36 : Env := mkE [⟨26, fnStreamR⟩, ⟨22, fnBlockR⟩, ⟨63, fnS1 (fun s => [s.size ≤ 1000000]) fun s => .val (strV (pad16 s))⟩, ⟨64, fn64⟩, ⟨30, fn30⟩] (fun f t => match f with | 36 => memN t [18, 23, 27, 31, 33] | _ => false)
theorem envE36 : EnvOK E36 := envMk (L := [⟨26, fnStreamR⟩, ⟨22, fnBlockR⟩, ⟨63, fnS1 (fun s => [s.size ≤ 1000000]) fun s => .val (strV (pad16 s))⟩, ⟨64, fn64⟩, ⟨30, fn30⟩]) ⟨ct26, ct22, ct63, ct64, ct30, trivial⟩ _
def sealB (k t ad s : ByteArray) : ByteArray := streamOf k 1 t s ++ tagOf k t ad (streamOf k 1 t s)
theorem sealB_size (k t ad s : ByteArray) : (sealB k t ad s).size = s.size + 16 := by unfold sealB; rw [ByteArray.size_append, streamOf_size, tagOf_size]
theorem r36 (k : ByteArray) (t : ByteArray) (ad : ByteArray) (s : ByteArray) : callR E36 1000 36 [strV k, strV t, strV ad, strV s] [] =
    some ([fitKN k t = true, ByteArray.size s ≤ 1000000, fitKN k t = true, (0 : Int) ≤ (32 : Int) ∧ (32 : Int) ≤ (↑(ByteArray.size (blockOf k (0) t)) : Int), ByteArray.size ad ≤ 1000000, ByteArray.size (streamOf k 1 t s) ≤ 1000000, ByteArray.size (pad16 ad) + ByteArray.size (pad16 (streamOf k 1 t s)) ≤ 9223372036854775807, ByteArray.size (pad16 ad ++ pad16 (streamOf k 1 t s)) + ByteArray.size (strOf (ei8 (↑(ByteArray.size ad) : Int))) ≤ 9223372036854775807, ByteArray.size (pad16 ad ++ pad16 (streamOf k 1 t s) ++ strOf (ei8 (↑(ByteArray.size ad) : Int))) + ByteArray.size (strOf (ei8 (↑(ByteArray.size (streamOf k (1) t s)) : Int))) ≤ 9223372036854775807, ByteArray.size (ByteArray.extract (blockOf k 0 t) 0 32) = 32, ByteArray.size (streamOf k 1 t s) + ByteArray.size (tagB (ByteArray.extract (blockOf k 0 t) 0 32) (pad16 ad ++ pad16 (streamOf k 1 t s) ++ strOf (ei8 (↑(ByteArray.size ad) : Int)) ++ strOf (ei8 (↑(ByteArray.size (streamOf k (1) t s)) : Int)))) ≤ 9223372036854775807], .val (strV (sealB k t ad s))) := by kernel_rfl
theorem b64 (k t : ByteArray) (n : Nat) : (0 : Int) ≤ 32 ∧ (32 : Int) ≤ ((blockOf k n t).size : Int) := by rw [blockOf_size]; omega
theorem spec62 (k t ad c : ByteArray) (hf : fitKN k t = true) (ha : ad.size ≤ 4096) (hc : c.size ≤ 4096) : Spec 62 [strV k, strV t, strV ad, strV c] (.val (strV (tagOf k t ad c))) := by
  have h1 := pad16_size ad
  have h2 := pad16_size c
  have h3 := padN_lt ad.size
  have h4 := padN_lt c.size
  have q1 := eightB_size ad.size
  have q2 := eightB_size c.size
  unfold eightB at q1 q2
  exact spec_run envE62 rfl (r62 k t ad c) ⟨hf, b64 _ _ _, by omega, by omega, by omega, by rw [ByteArray.size_append, q1]; omega, by rw [ByteArray.size_append, ByteArray.size_append, q1, q2]; omega, blk32 _ _, by rw [ByteArray.size_append, ByteArray.size_append, ByteArray.size_append, q1, q2]; omega, trivial⟩ rfl rfl
def fn62 (vs : List V1) : Option (List Prop × AV) :=
  match vs with
  | [.one (.v (.string k)), .one (.v (.string t)), .one (.v (.string ad)), .one (.v (.string c))] => some ([fitKN k t = true, ad.size ≤ 4096, c.size ≤ 4096], .val (strV (tagOf k t ad c)))
  | _ => none
theorem ct62 : CTok ⟨62, fn62⟩ := by
  intro vs ob r h ho
  simp only [fn62] at h
  split at h
  · simp only [Option.some.injEq, Prod.mk.injEq] at h
    obtain ⟨rfl, rfl⟩ := h
    exact spec62 _ _ _ _ ho.1 ho.2.1 ho.2.2.1
  · simp at h
theorem spec36 (k t ad s : ByteArray) (hf : fitKN k t = true) (ha : ad.size ≤ 100000) (hs : s.size ≤ 100000) : Spec 36 [strV k, strV t, strV ad, strV s] (.val (strV (sealB k t ad s))) := by
  have h1 := pad16_size ad
  have h2 := pad16_size (streamOf k 1 t s)
  have h3 := padN_lt ad.size
  have h4 := padN_lt (streamOf k 1 t s).size
  have h5 := streamOf_size k 1 t s
  have q1 := eightB_size ad.size
  have q2 := eightB_size (streamOf k 1 t s).size
  unfold eightB at q1 q2
  exact spec_run envE36 rfl (r36 k t ad s) ⟨hf, by omega, hf, b64 _ _ _, by omega, by omega, by omega, by rw [ByteArray.size_append, q1]; omega, by rw [ByteArray.size_append, ByteArray.size_append, q1, q2]; omega, blk32 _ _, by rw [tagB_size]; omega, trivial⟩ rfl rfl
def fn36 (vs : List V1) : Option (List Prop × AV) :=
  match vs with
  | [.one (.v (.string k)), .one (.v (.string t)), .one (.v (.string ad)), .one (.v (.string s))] => some ([fitKN k t = true, ad.size ≤ 100000, s.size ≤ 100000], .val (strV (sealB k t ad s)))
  | _ => none
theorem ct36 : CTok ⟨36, fn36⟩ := by
  intro vs ob r h ho
  simp only [fn36] at h
  split at h
  · simp only [Option.some.injEq, Prod.mk.injEq] at h
    obtain ⟨rfl, rfl⟩ := h
    exact spec36 _ _ _ _ ho.1 ho.2.1 ho.2.2.1
  · simp at h
/-! may it be sealed; sealed -/
def limOk (m : Nat) (ad s : ByteArray) : Bool := decide (ad.size ≤ 4096) && decide (s.size ≤ m)
def sealE (k t ad s : ByteArray) : Int := bif fitKN k t then (bif limOk 4096 ad s then 0 else 2) else 1
def sealR (k t ad s : ByteArray) : ByteArray := bif fitKN k t then (bif limOk 4096 ad s then sealB k t ad s else ⟨#[]⟩) else ⟨#[]⟩
noncomputable def E34 : Env := mkE [⟨61, fn61⟩, ⟨25, fn25v⟩, ⟨62, fn62⟩] (fun f t => match f with | 34 => memN t [15, 20, 24, 39] | 35 => memN t [11, 15, 19, 23] | _ => false)
theorem envE34 : EnvOK E34 := envMk (L := [⟨61, fn61⟩, ⟨25, fn25v⟩, ⟨62, fn62⟩]) ⟨ct61, ct25v, ct62, trivial⟩ _
theorem r34a (k : ByteArray) (t : ByteArray) (ad : ByteArray) (s : ByteArray) : callR E34 1000 34 [strV k, strV t, strV ad, strV s] [false] =
    some ([fitKN k t = false], .tup [strV ⟨#[]⟩, .one (.i 1)]) := by kernel_rfl
theorem r34b (k : ByteArray) (t : ByteArray) (ad : ByteArray) (s : ByteArray) : callR E34 1000 34 [strV k, strV t, strV ad, strV s] [true, true] =
    some ([fitKN k t = true, decide ((4096 : Int) < (↑(ByteArray.size ad) : Int)) = true], .tup [strV ⟨#[]⟩, .one (.i 2)]) := by kernel_rfl
theorem r34c (k : ByteArray) (t : ByteArray) (ad : ByteArray) (s : ByteArray) : callR E34 1000 34 [strV k, strV t, strV ad, strV s] [true, false, true] =
    some ([fitKN k t = true, decide ((4096 : Int) < (↑(ByteArray.size ad) : Int)) = false, decide ((4096 : Int) < (↑(ByteArray.size s) : Int)) = true], .tup [strV ⟨#[]⟩, .one (.i 2)]) := by kernel_rfl
theorem r34d (k : ByteArray) (t : ByteArray) (ad : ByteArray) (s : ByteArray) : callR E34 1000 34 [strV k, strV t, strV ad, strV s] [true, false, false] =
    some ([fitKN k t = true, decide ((4096 : Int) < (↑(ByteArray.size ad) : Int)) = false, decide ((4096 : Int) < (↑(ByteArray.size s) : Int)) = false, fitKN k t = true, ByteArray.size s ≤ 4096, fitKN k t = true, ByteArray.size ad ≤ 4096, ByteArray.size (streamOf k 1 t s) ≤ 4096, ByteArray.size (streamOf k 1 t s) + ByteArray.size (tagOf k t ad (streamOf k 1 t s)) ≤ 9223372036854775807], .tup [strV (sealB k t ad s), .one (.i 0)]) := by kernel_rfl
theorem r35a (k : ByteArray) (t : ByteArray) (ad : ByteArray) (s : ByteArray) : callR E34 1000 35 [strV k, strV t, strV ad, strV s] [true] =
    some ([(!decide ((↑(ByteArray.size k) : Int) = (32 : Int))) = true], iV 1) := by kernel_rfl
theorem r35b (k : ByteArray) (t : ByteArray) (ad : ByteArray) (s : ByteArray) : callR E34 1000 35 [strV k, strV t, strV ad, strV s] [false, true] =
    some ([(!decide ((↑(ByteArray.size k) : Int) = (32 : Int))) = false, (!decide ((↑(ByteArray.size t) : Int) = (12 : Int))) = true], iV 1) := by kernel_rfl
theorem r35c (k : ByteArray) (t : ByteArray) (ad : ByteArray) (s : ByteArray) : callR E34 1000 35 [strV k, strV t, strV ad, strV s] [false, false, true] =
    some ([(!decide ((↑(ByteArray.size k) : Int) = (32 : Int))) = false, (!decide ((↑(ByteArray.size t) : Int) = (12 : Int))) = false, decide ((4096 : Int) < (↑(ByteArray.size ad) : Int)) = true], iV 2) := by kernel_rfl
theorem r35d (k : ByteArray) (t : ByteArray) (ad : ByteArray) (s : ByteArray) : callR E34 1000 35 [strV k, strV t, strV ad, strV s] [false, false, false, true] =
    some ([(!decide ((↑(ByteArray.size k) : Int) = (32 : Int))) = false, (!decide ((↑(ByteArray.size t) : Int) = (12 : Int))) = false, decide ((4096 : Int) < (↑(ByteArray.size ad) : Int)) = false, decide ((4096 : Int) < (↑(ByteArray.size s) : Int)) = true], iV 2) := by kernel_rfl
theorem r35e (k : ByteArray) (t : ByteArray) (ad : ByteArray) (s : ByteArray) : callR E34 1000 35 [strV k, strV t, strV ad, strV s] [false, false, false, false] =
    some ([(!decide ((↑(ByteArray.size k) : Int) = (32 : Int))) = false, (!decide ((↑(ByteArray.size t) : Int) = (12 : Int))) = false, decide ((4096 : Int) < (↑(ByteArray.size ad) : Int)) = false, decide ((4096 : Int) < (↑(ByteArray.size s) : Int)) = false], iV 0) := by kernel_rfl
end Go.Ev

namespace Go.Ev
open Go Go.Proofs Go.RowKit
theorem limOk_t {m : Nat} {ad s : ByteArray} (h1 : ad.size ≤ 4096) (h2 : s.size ≤ m) : limOk m ad s = true := by unfold limOk; rw [decide_eq_true h1, decide_eq_true h2]; rfl
theorem limOk_a {m : Nat} {ad s : ByteArray} (h1 : ¬ ad.size ≤ 4096) : limOk m ad s = false := by unfold limOk; rw [decide_eq_false h1]; rfl
theorem limOk_s {m : Nat} {ad s : ByteArray} (h1 : ¬ s.size ≤ m) : limOk m ad s = false := by unfold limOk; rw [decide_eq_false h1, Bool.and_false]
theorem fit_n1 {k t : ByteArray} (h : k.size ≠ 32) : fitKN k t = false := by simp [fitKN, h]
theorem fit_n2 {k t : ByteArray} (h : t.size ≠ 12) : fitKN k t = false := by simp [fitKN, h]
theorem fit_y {k t : ByteArray} (h : k.size = 32) (h2 : t.size = 12) : fitKN k t = true := by simp [fitKN, h, h2]
def fn34 (vs : List V1) : Option (List Prop × AV) :=
  match vs with
  | [.one (.v (.string k)), .one (.v (.string t)), .one (.v (.string ad)), .one (.v (.string s))] => some ([], .tup [strV (sealR k t ad s), .one (.i (sealE k t ad s))])
  | _ => none
theorem ct34 : CTok ⟨34, fn34⟩ := by
  intro vs ob r h ho
  simp only [fn34] at h
  split at h
  · rename_i k t ad s
    simp only [Option.some.injEq, Prod.mk.injEq] at h
    obtain ⟨rfl, rfl⟩ := h
    unfold sealR sealE
    cases hf : fitKN k t
    · rw [cond_false, cond_false]
      exact spec_run envE34 rfl (r34a k t ad s) ⟨hf, trivial⟩ rfl rfl
    · rw [cond_true, cond_true]
      by_cases ha : ad.size ≤ 4096
      · by_cases hs : s.size ≤ 4096
        · rw [limOk_t ha hs, cond_true, cond_true]
          have h5 := streamOf_size k 1 t s
          exact spec_run envE34 rfl (r34d k t ad s) ⟨hf, decide_eq_false (by omega), decide_eq_false (by omega), hf, hs, hf, ha, by omega, by rw [tagOf_size]; omega, trivial⟩ rfl rfl
        · rw [limOk_s hs, cond_false, cond_false]
          exact spec_run envE34 rfl (r34c k t ad s) ⟨hf, decide_eq_false (by omega), decide_eq_true (by omega), trivial⟩ rfl rfl
      · rw [limOk_a ha, cond_false, cond_false]
        exact spec_run envE34 rfl (r34b k t ad s) ⟨hf, decide_eq_true (by omega), trivial⟩ rfl rfl
  · simp at h
def fn35 (vs : List V1) : Option (List Prop × AV) :=
  match vs with
  | [.one (.v (.string k)), .one (.v (.string t)), .one (.v (.string ad)), .one (.v (.string s))] => some ([], .val (.one (.i (sealE k t ad s))))
  | _ => none
theorem neq_t {x y : Int} (h : x ≠ y) : (!decide (x = y)) = true := by simp [h]
theorem neq_f {x y : Int} (h : x = y) : (!decide (x = y)) = false := by simp [h]
theorem ct35 : CTok ⟨35, fn35⟩ := by
  intro vs ob r h ho
  simp only [fn35] at h
  split at h
  · rename_i k t ad s
    simp only [Option.some.injEq, Prod.mk.injEq] at h
    obtain ⟨rfl, rfl⟩ := h
    unfold sealE
    by_cases hk : k.size = 32
    · by_cases ht : t.size = 12
      · rw [fit_y hk ht, cond_true]
        by_cases ha : ad.size ≤ 4096
        · by_cases hs : s.size ≤ 4096
          · rw [limOk_t ha hs, cond_true]
            exact spec_run envE34 rfl (r35e k t ad s) ⟨neq_f (by omega), neq_f (by omega), decide_eq_false (by omega), decide_eq_false (by omega), trivial⟩ rfl rfl
          · rw [limOk_s hs, cond_false]
            exact spec_run envE34 rfl (r35d k t ad s) ⟨neq_f (by omega), neq_f (by omega), decide_eq_false (by omega), decide_eq_true (by omega), trivial⟩ rfl rfl
        · rw [limOk_a ha, cond_false]
          exact spec_run envE34 rfl (r35c k t ad s) ⟨neq_f (by omega), neq_f (by omega), decide_eq_true (by omega), trivial⟩ rfl rfl
      · rw [fit_n2 ht, cond_false]
        exact spec_run envE34 rfl (r35b k t ad s) ⟨neq_f (by omega), neq_t (by omega), trivial⟩ rfl rfl
    · rw [fit_n1 hk, cond_false]
      exact spec_run envE34 rfl (r35a k t ad s) ⟨neq_t (by omega), trivial⟩ rfl rfl
  · simp at h
/-! opened -/
def bodyC (c : ByteArray) : ByteArray := c.extract 0 ((c.size : Int) - 16).toNat
def tailC (c : ByteArray) : ByteArray := c.extract ((c.size : Int) - 16).toNat c.size
def openOk (k t ad c : ByteArray) : Bool := sameB (tagOf k t ad (bodyC c)) (tailC c)
def openE (k t ad c : ByteArray) : Int := bif fitKN k t then (bif limOk 4112 ad c then (bif decide (c.size < 16) then 1 else (bif openOk k t ad c then 0 else 8)) else 2) else 1
def openR (k t ad c : ByteArray) : ByteArray := bif fitKN k t then (bif limOk 4112 ad c then (bif decide (c.size < 16) then ⟨#[]⟩ else (bif openOk k t ad c then streamOf k 1 t (bodyC c) else ⟨#[]⟩)) else ⟨#[]⟩) else ⟨#[]⟩
theorem body_tail (c : ByteArray) : bodyC c ++ tailC c = c := by
  unfold bodyC tailC
  rw [ByteArray.extract_append_extract]
  apply ByteArray.ext
  rw [ByteArray.data_extract]
  have h : max ((c.size : Int) - 16).toNat c.size = c.data.size := by show _ = c.size; omega
  simp [h]
theorem bodyC_size (c : ByteArray) : (bodyC c).size = c.size - 16 := by unfold bodyC; rw [ByteArray.size_extract]; omega
theorem tailC_size (c : ByteArray) (h : ¬ c.size < 16) : (tailC c).size = 16 := by unfold tailC; rw [ByteArray.size_extract]; omega
theorem sameB_append (b x y : ByteArray) : sameB (b ++ x) (b ++ y) = sameB x y := by
  rw [Bool.eq_iff_iff, sameB_iff, sameB_iff]
  constructor
  · intro h
    have := congrArg (fun z : ByteArray => z.data.toList) h
    simp only [ByteArray.data_append, Array.toList_append, List.append_cancel_left_eq] at this
    exact ByteArray.ext (Array.ext' this)
  · rintro rfl; rfl
theorem sealB_open (k t ad c : ByteArray) : sameB (sealB k t ad (streamOf k 1 t (bodyC c))) c = openOk k t ad c := by
  unfold sealB openOk
  rw [streamOf_twice]
  conv => lhs; rhs; rw [← body_tail c]
  exact sameB_append _ _ _
noncomputable def E38 : Env := mkE [⟨61, fn61⟩, ⟨25, fn25v⟩, ⟨62, fn62⟩, ⟨65, fn65⟩, ⟨26, fnStreamR⟩, ⟨36, fn36⟩] (fun f t => match f with | 38 => memN t [16, 21, 25, 30, 34, 35, 39, 40, 47] | 39 => memN t [13, 17, 21, 25, 29, 35, 36, 44] | _ => false)
theorem envE38 : EnvOK E38 := envMk (L := [⟨61, fn61⟩, ⟨25, fn25v⟩, ⟨62, fn62⟩, ⟨65, fn65⟩, ⟨26, fnStreamR⟩, ⟨36, fn36⟩]) ⟨ct61, ct25v, ct62, ct65, ct26, ct36, trivial⟩ _
theorem r38a (k : ByteArray) (t : ByteArray) (ad : ByteArray) (c : ByteArray) : callR E38 1000 38 [strV k, strV t, strV ad, strV c] [false] =
    some ([fitKN k t = false], .tup [strV ⟨#[]⟩, .one (.i 1)]) := by kernel_rfl
theorem r38b (k : ByteArray) (t : ByteArray) (ad : ByteArray) (c : ByteArray) : callR E38 1000 38 [strV k, strV t, strV ad, strV c] [true, true] =
    some ([fitKN k t = true, decide ((4096 : Int) < (↑(ByteArray.size ad) : Int)) = true], .tup [strV ⟨#[]⟩, .one (.i 2)]) := by kernel_rfl
theorem r38c (k : ByteArray) (t : ByteArray) (ad : ByteArray) (c : ByteArray) : callR E38 1000 38 [strV k, strV t, strV ad, strV c] [true, false, true] =
    some ([fitKN k t = true, decide ((4096 : Int) < (↑(ByteArray.size ad) : Int)) = false, decide ((4112 : Int) < (↑(ByteArray.size c) : Int)) = true], .tup [strV ⟨#[]⟩, .one (.i 2)]) := by kernel_rfl
theorem r38d (k : ByteArray) (t : ByteArray) (ad : ByteArray) (c : ByteArray) : callR E38 1000 38 [strV k, strV t, strV ad, strV c] [true, false, false, true] =
    some ([fitKN k t = true, decide ((4096 : Int) < (↑(ByteArray.size ad) : Int)) = false, decide ((4112 : Int) < (↑(ByteArray.size c) : Int)) = false, decide ((↑(ByteArray.size c) : Int) < (16 : Int)) = true], .tup [strV ⟨#[]⟩, .one (.i 1)]) := by kernel_rfl
theorem r38e (k : ByteArray) (t : ByteArray) (ad : ByteArray) (c : ByteArray) : callR E38 1000 38 [strV k, strV t, strV ad, strV c] [true, false, false, false, false] =
    some ([fitKN k t = true, decide ((4096 : Int) < (↑(ByteArray.size ad) : Int)) = false, decide ((4112 : Int) < (↑(ByteArray.size c) : Int)) = false, decide ((↑(ByteArray.size c) : Int) < (16 : Int)) = false, inI ((↑(ByteArray.size c) : Int) - (16 : Int)), (0 : Int) ≤ (↑(ByteArray.size c) : Int) - (16 : Int) ∧ (↑(ByteArray.size c) : Int) - (16 : Int) ≤ (↑(ByteArray.size c) : Int), inI ((↑(ByteArray.size c) : Int) - (16 : Int)), (0 : Int) ≤ (↑(ByteArray.size c) : Int) - (16 : Int) ∧ (↑(ByteArray.size c) : Int) - (16 : Int) ≤ (↑(ByteArray.size c) : Int), fitKN k t = true, ByteArray.size ad ≤ 4096, ByteArray.size (ByteArray.extract c 0 (Int.toNat ((↑(ByteArray.size c) : Int) - (16 : Int)))) ≤ 4096, (ByteArray.toList (tagOf k t ad (ByteArray.extract c 0 (Int.toNat ((↑(ByteArray.size c) : Int) - (16 : Int))))) == ByteArray.toList (ByteArray.extract c (Int.toNat ((↑(ByteArray.size c) : Int) - (16 : Int))) (ByteArray.size c))) = false, ByteArray.size (tagOf k t ad (ByteArray.extract c 0 (Int.toNat ((↑(ByteArray.size c) : Int) - (16 : Int))))) = 16, ByteArray.size (ByteArray.extract c (Int.toNat ((↑(ByteArray.size c) : Int) - (16 : Int))) (ByteArray.size c)) = 16], .tup [strV ⟨#[]⟩, .one (.i 8)]) := by kernel_rfl
theorem r38f (k : ByteArray) (t : ByteArray) (ad : ByteArray) (c : ByteArray) : callR E38 1000 38 [strV k, strV t, strV ad, strV c] [true, false, false, false, true] =
    some ([fitKN k t = true, decide ((4096 : Int) < (↑(ByteArray.size ad) : Int)) = false, decide ((4112 : Int) < (↑(ByteArray.size c) : Int)) = false, decide ((↑(ByteArray.size c) : Int) < (16 : Int)) = false, inI ((↑(ByteArray.size c) : Int) - (16 : Int)), (0 : Int) ≤ (↑(ByteArray.size c) : Int) - (16 : Int) ∧ (↑(ByteArray.size c) : Int) - (16 : Int) ≤ (↑(ByteArray.size c) : Int), inI ((↑(ByteArray.size c) : Int) - (16 : Int)), (0 : Int) ≤ (↑(ByteArray.size c) : Int) - (16 : Int) ∧ (↑(ByteArray.size c) : Int) - (16 : Int) ≤ (↑(ByteArray.size c) : Int), fitKN k t = true, ByteArray.size ad ≤ 4096, ByteArray.size (ByteArray.extract c 0 (Int.toNat ((↑(ByteArray.size c) : Int) - (16 : Int)))) ≤ 4096, (ByteArray.toList (tagOf k t ad (ByteArray.extract c 0 (Int.toNat ((↑(ByteArray.size c) : Int) - (16 : Int))))) == ByteArray.toList (ByteArray.extract c (Int.toNat ((↑(ByteArray.size c) : Int) - (16 : Int))) (ByteArray.size c))) = true, ByteArray.size (tagOf k t ad (ByteArray.extract c 0 (Int.toNat ((↑(ByteArray.size c) : Int) - (16 : Int))))) = 16, ByteArray.size (ByteArray.extract c (Int.toNat ((↑(ByteArray.size c) : Int) - (16 : Int))) (ByteArray.size c)) = 16, fitKN k t = true, ByteArray.size (ByteArray.extract c 0 (Int.toNat ((↑(ByteArray.size c) : Int) - (16 : Int)))) ≤ 4096], .tup [strV (streamOf k 1 t (bodyC c)), .one (.i 0)]) := by kernel_rfl
theorem r39a (k : ByteArray) (t : ByteArray) (ad : ByteArray) (c : ByteArray) : callR E38 1000 39 [strV k, strV t, strV ad, strV c] [true] =
    some ([(!decide ((↑(ByteArray.size k) : Int) = (32 : Int))) = true], .tup [strV ⟨#[]⟩, .one (.i 1)]) := by kernel_rfl
theorem r39b (k : ByteArray) (t : ByteArray) (ad : ByteArray) (c : ByteArray) : callR E38 1000 39 [strV k, strV t, strV ad, strV c] [false, true] =
    some ([(!decide ((↑(ByteArray.size k) : Int) = (32 : Int))) = false, (!decide ((↑(ByteArray.size t) : Int) = (12 : Int))) = true], .tup [strV ⟨#[]⟩, .one (.i 1)]) := by kernel_rfl
theorem r39c (k : ByteArray) (t : ByteArray) (ad : ByteArray) (c : ByteArray) : callR E38 1000 39 [strV k, strV t, strV ad, strV c] [false, false, true] =
    some ([(!decide ((↑(ByteArray.size k) : Int) = (32 : Int))) = false, (!decide ((↑(ByteArray.size t) : Int) = (12 : Int))) = false, decide ((4096 : Int) < (↑(ByteArray.size ad) : Int)) = true], .tup [strV ⟨#[]⟩, .one (.i 2)]) := by kernel_rfl
theorem r39d (k : ByteArray) (t : ByteArray) (ad : ByteArray) (c : ByteArray) : callR E38 1000 39 [strV k, strV t, strV ad, strV c] [false, false, false, true] =
    some ([(!decide ((↑(ByteArray.size k) : Int) = (32 : Int))) = false, (!decide ((↑(ByteArray.size t) : Int) = (12 : Int))) = false, decide ((4096 : Int) < (↑(ByteArray.size ad) : Int)) = false, decide ((4112 : Int) < (↑(ByteArray.size c) : Int)) = true], .tup [strV ⟨#[]⟩, .one (.i 2)]) := by kernel_rfl
theorem r39e (k : ByteArray) (t : ByteArray) (ad : ByteArray) (c : ByteArray) : callR E38 1000 39 [strV k, strV t, strV ad, strV c] [false, false, false, false, true] =
    some ([(!decide ((↑(ByteArray.size k) : Int) = (32 : Int))) = false, (!decide ((↑(ByteArray.size t) : Int) = (12 : Int))) = false, decide ((4096 : Int) < (↑(ByteArray.size ad) : Int)) = false, decide ((4112 : Int) < (↑(ByteArray.size c) : Int)) = false, decide ((↑(ByteArray.size c) : Int) < (16 : Int)) = true], .tup [strV ⟨#[]⟩, .one (.i 1)]) := by kernel_rfl
theorem r39f (k : ByteArray) (t : ByteArray) (ad : ByteArray) (c : ByteArray) : callR E38 1000 39 [strV k, strV t, strV ad, strV c] [false, false, false, false, false, true] =
    some ([(!decide ((↑(ByteArray.size k) : Int) = (32 : Int))) = false, (!decide ((↑(ByteArray.size t) : Int) = (12 : Int))) = false, decide ((4096 : Int) < (↑(ByteArray.size ad) : Int)) = false, decide ((4112 : Int) < (↑(ByteArray.size c) : Int)) = false, decide ((↑(ByteArray.size c) : Int) < (16 : Int)) = false, inI ((↑(ByteArray.size c) : Int) - (16 : Int)), (0 : Int) ≤ (↑(ByteArray.size c) : Int) - (16 : Int) ∧ (↑(ByteArray.size c) : Int) - (16 : Int) ≤ (↑(ByteArray.size c) : Int), fitKN k t = true, ByteArray.size (ByteArray.extract c 0 (Int.toNat ((↑(ByteArray.size c) : Int) - (16 : Int)))) ≤ 1000000, fitKN k t = true, ByteArray.size ad ≤ 100000, ByteArray.size (streamOf k 1 t (ByteArray.extract c 0 (Int.toNat ((↑(ByteArray.size c) : Int) - (16 : Int))))) ≤ 100000, (!ByteArray.toList (sealB k t ad (streamOf k (1) t (ByteArray.extract c 0 (Int.toNat ((↑(ByteArray.size c) : Int) - (16 : Int)))))) == ByteArray.toList c) = true], .tup [strV ⟨#[]⟩, .one (.i 8)]) := by kernel_rfl
theorem r39g (k : ByteArray) (t : ByteArray) (ad : ByteArray) (c : ByteArray) : callR E38 1000 39 [strV k, strV t, strV ad, strV c] [false, false, false, false, false, false] =
    some ([(!decide ((↑(ByteArray.size k) : Int) = (32 : Int))) = false, (!decide ((↑(ByteArray.size t) : Int) = (12 : Int))) = false, decide ((4096 : Int) < (↑(ByteArray.size ad) : Int)) = false, decide ((4112 : Int) < (↑(ByteArray.size c) : Int)) = false, decide ((↑(ByteArray.size c) : Int) < (16 : Int)) = false, inI ((↑(ByteArray.size c) : Int) - (16 : Int)), (0 : Int) ≤ (↑(ByteArray.size c) : Int) - (16 : Int) ∧ (↑(ByteArray.size c) : Int) - (16 : Int) ≤ (↑(ByteArray.size c) : Int), fitKN k t = true, ByteArray.size (ByteArray.extract c 0 (Int.toNat ((↑(ByteArray.size c) : Int) - (16 : Int)))) ≤ 1000000, fitKN k t = true, ByteArray.size ad ≤ 100000, ByteArray.size (streamOf k 1 t (ByteArray.extract c 0 (Int.toNat ((↑(ByteArray.size c) : Int) - (16 : Int))))) ≤ 100000, (!ByteArray.toList (sealB k t ad (streamOf k (1) t (ByteArray.extract c 0 (Int.toNat ((↑(ByteArray.size c) : Int) - (16 : Int)))))) == ByteArray.toList c) = false], .tup [strV (streamOf k 1 t (bodyC c)), .one (.i 0)]) := by kernel_rfl
end Go.Ev

namespace Go.Ev
open Go Go.Proofs Go.RowKit
def fn38 (vs : List V1) : Option (List Prop × AV) :=
  match vs with
  | [.one (.v (.string k)), .one (.v (.string t)), .one (.v (.string ad)), .one (.v (.string c))] => some ([], .tup [strV (openR k t ad c), .one (.i (openE k t ad c))])
  | _ => none
theorem ct38 : CTok ⟨38, fn38⟩ := by
  intro vs ob r h ho
  simp only [fn38] at h
  split at h
  · rename_i k t ad c
    simp only [Option.some.injEq, Prod.mk.injEq] at h
    obtain ⟨rfl, rfl⟩ := h
    unfold openR openE
    cases hf : fitKN k t
    · rw [cond_false, cond_false]
      exact spec_run envE38 rfl (r38a k t ad c) ⟨hf, trivial⟩ rfl rfl
    · rw [cond_true, cond_true]
      by_cases ha : ad.size ≤ 4096
      · by_cases hc : c.size ≤ 4112
        · rw [limOk_t ha hc, cond_true, cond_true]
          by_cases h16 : c.size < 16
          · rw [decide_eq_true h16, cond_true, cond_true]
            exact spec_run envE38 rfl (r38d k t ad c) ⟨hf, decide_eq_false (by omega), decide_eq_false (by omega), decide_eq_true (by omega), trivial⟩ rfl rfl
          · rw [decide_eq_false h16, cond_false, cond_false]
            have hb : (bodyC c).size ≤ 4096 := by rw [bodyC_size]; omega
            have o1 : inI ((c.size : Int) - 16) := by unfold inI; omega
            have o2 : (0 : Int) ≤ (c.size : Int) - 16 ∧ (c.size : Int) - 16 ≤ (c.size : Int) := by omega
            cases hok : openOk k t ad c
            · rw [cond_false, cond_false]
              exact spec_run envE38 rfl (r38e k t ad c) ⟨hf, decide_eq_false (by omega), decide_eq_false (by omega), decide_eq_false (by omega), o1, o2, o1, o2, hf, ha, hb, hok, tagOf_size _ _ _ _, tailC_size c h16, trivial⟩ rfl rfl
            · rw [cond_true, cond_true]
              exact spec_run envE38 rfl (r38f k t ad c) ⟨hf, decide_eq_false (by omega), decide_eq_false (by omega), decide_eq_false (by omega), o1, o2, o1, o2, hf, ha, hb, hok, tagOf_size _ _ _ _, tailC_size c h16, hf, hb, trivial⟩ rfl rfl
        · rw [limOk_s hc, cond_false, cond_false]
          exact spec_run envE38 rfl (r38c k t ad c) ⟨hf, decide_eq_false (by omega), decide_eq_true (by omega), trivial⟩ rfl rfl
      · rw [limOk_a ha, cond_false, cond_false]
        exact spec_run envE38 rfl (r38b k t ad c) ⟨hf, decide_eq_true (by omega), trivial⟩ rfl rfl
  · simp at h
theorem ct39 : CTok ⟨39, fn38⟩ := by
  intro vs ob r h ho
  simp only [fn38] at h
  split at h
  · rename_i k t ad c
    simp only [Option.some.injEq, Prod.mk.injEq] at h
    obtain ⟨rfl, rfl⟩ := h
    unfold openR openE
    by_cases hk : k.size = 32
    · by_cases ht : t.size = 12
      · have hf := fit_y hk ht
        rw [hf, cond_true, cond_true]
        have n1 : (!decide ((k.size : Int) = 32)) = false := neq_f (by omega)
        have n2 : (!decide ((t.size : Int) = 12)) = false := neq_f (by omega)
        by_cases ha : ad.size ≤ 4096
        · by_cases hc : c.size ≤ 4112
          · rw [limOk_t ha hc, cond_true, cond_true]
            by_cases h16 : c.size < 16
            · rw [decide_eq_true h16, cond_true, cond_true]
              exact spec_run envE38 rfl (r39e k t ad c) ⟨n1, n2, decide_eq_false (by omega), decide_eq_false (by omega), decide_eq_true (by omega), trivial⟩ rfl rfl
            · rw [decide_eq_false h16, cond_false, cond_false]
              have hb : (bodyC c).size ≤ 1000000 := by rw [bodyC_size]; omega
              have hs : (streamOf k 1 t (bodyC c)).size ≤ 100000 := by rw [streamOf_size, bodyC_size]; omega
              have o1 : inI ((c.size : Int) - 16) := by unfold inI; omega
              have o2 : (0 : Int) ≤ (c.size : Int) - 16 ∧ (c.size : Int) - 16 ≤ (c.size : Int) := by omega
              have hsame := sealB_open k t ad c
              cases hok : openOk k t ad c
              · rw [cond_false, cond_false]
                rw [hok] at hsame
                exact spec_run envE38 rfl (r39f k t ad c) ⟨n1, n2, decide_eq_false (by omega), decide_eq_false (by omega), decide_eq_false (by omega), o1, o2, hf, hb, hf, by omega, hs, congrArg (!·) hsame, trivial⟩ rfl rfl
              · rw [cond_true, cond_true]
                rw [hok] at hsame
                exact spec_run envE38 rfl (r39g k t ad c) ⟨n1, n2, decide_eq_false (by omega), decide_eq_false (by omega), decide_eq_false (by omega), o1, o2, hf, hb, hf, by omega, hs, congrArg (!·) hsame, trivial⟩ rfl rfl
          · rw [limOk_s hc, cond_false, cond_false]
            exact spec_run envE38 rfl (r39d k t ad c) ⟨n1, n2, decide_eq_false (by omega), decide_eq_true (by omega), trivial⟩ rfl rfl
        · rw [limOk_a ha, cond_false, cond_false]
          exact spec_run envE38 rfl (r39c k t ad c) ⟨n1, n2, decide_eq_true (by omega), trivial⟩ rfl rfl
      · rw [fit_n2 ht, cond_false, cond_false]
        exact spec_run envE38 rfl (r39b k t ad c) ⟨neq_f (by omega), neq_t (by omega), trivial⟩ rfl rfl
    · rw [fit_n1 hk, cond_false, cond_false]
      exact spec_run envE38 rfl (r39a k t ad c) ⟨neq_t (by omega), trivial⟩ rfl rfl
  · simp at h
theorem run37 (z : Int) : callR E0 1000 37 [.one (.i z)] [] = some ([], .val (.one (.i z))) := by kernel_rfl
theorem ct37 : CTok ⟨37, fnNum⟩ := by
  intro vs ob r h ho
  simp only [fnNum] at h
  split at h
  · simp only [Option.some.injEq, Prod.mk.injEq] at h
    obtain ⟨rfl, rfl⟩ := h
    exact spec_run envE0 rfl (run37 _) trivial rfl rfl
  · simp at h
/-- what is sealed opens. -/
theorem open_seal (k t ad s : ByteArray) (hf : fitKN k t = true) (ha : ad.size ≤ 4096) (hs : s.size ≤ 4096) : openE k t ad (sealB k t ad s) = 0 ∧ openR k t ad (sealB k t ad s) = s := by
  have hz := sealB_size k t ad s
  have hb : bodyC (sealB k t ad s) = streamOf k 1 t s := by
    unfold bodyC sealB
    rw [ByteArray.size_append, streamOf_size, tagOf_size]
    apply ByteArray.ext
    rw [ByteArray.data_extract, ByteArray.data_append]
    have hsz : (streamOf k 1 t s).data.size = s.size := streamOf_size k 1 t s
    rw [show ((s.size + 16 : Nat) : Int) - 16 = ((s.size : Nat) : Int) by omega, Int.toNat_natCast, ← hsz]
    simp
  have hok : openOk k t ad (sealB k t ad s) = true := by
    have := sealB_open k t ad (sealB k t ad s)
    rw [hb, streamOf_twice] at this
    rw [← this, sameB_iff]
  unfold openE openR
  rw [hf, limOk_t ha (by omega), decide_eq_false (by omega), hok, hb, streamOf_twice]
  exact ⟨rfl, rfl⟩
/-! the program is the one that is asked for -/
noncomputable def EW17 : Env := mkE [⟨27, fn27n⟩, ⟨34, fn34⟩, ⟨37, fnNum⟩, ⟨38, fn38⟩] (fun g t => match g with | 40 => memN t [20, 24, 28, 33] | _ => false)
theorem envEW17 : EnvOK EW17 := envMk (L := [⟨27, fn27n⟩, ⟨34, fn34⟩, ⟨37, fnNum⟩, ⟨38, fn38⟩]) ⟨ct27n, ct34, ct37, ct38, trivial⟩ _
def aS : ByteArray := ⟨#[97]⟩
def bcS : ByteArray := ⟨#[98, 99]⟩
def wSeal : ByteArray := sealR (zs 32) (zs 12) aS bcS
theorem run40 : callR EW17 1000 40 [] [true, true, true, true] = some ([32 ≤ 1000000, 12 ≤ 1000000, 32 ≤ 1000000, 12 ≤ 1000000, decide (sealE (zs 32) (zs 12) aS bcS = 0) = true, decide (openE (zs 32) (zs 12) aS wSeal = 0) = true, ((openR (zs 32) (zs 12) aS wSeal).toList == bcS.toList) = true, decide ((wSeal.size : Int) = 18) = true], bV true) := by kernel_rfl
theorem zfit : fitKN (zs 32) (zs 12) = true := fit_y (zs_size _) (zs_size _)
theorem seal_ok {k t ad s : ByteArray} (hf : fitKN k t = true) (ha : ad.size ≤ 4096) (hs : s.size ≤ 4096) : sealE k t ad s = 0 ∧ sealR k t ad s = sealB k t ad s := by
  unfold sealE sealR
  rw [hf, limOk_t ha hs]
  exact ⟨rfl, rfl⟩
theorem spec40 : Spec 40 [] (bV true) := by
  obtain ⟨h1, h2⟩ := seal_ok zfit (show aS.size ≤ 4096 by decide) (show bcS.size ≤ 4096 by decide)
  obtain ⟨h3, h4⟩ := open_seal (zs 32) (zs 12) aS bcS zfit (by decide) (by decide)
  refine spec_run envEW17 rfl run40 ⟨by omega, by omega, by omega, by omega, by rw [h1]; rfl, ?_, ?_, ?_, trivial⟩ rfl rfl
  · unfold wSeal; rw [h2, h3]; rfl
  · unfold wSeal; rw [h2, h4]; simp
  · unfold wSeal; rw [h2, sealB_size]; rfl
end Go.Ev

