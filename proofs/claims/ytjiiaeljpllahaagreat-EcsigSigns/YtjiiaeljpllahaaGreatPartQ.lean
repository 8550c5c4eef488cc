/- Bytes of numbers and of points; SHA-512: the program and the page come to one sum -/
import Derived.Test.YtjiiaeljpllahaaGreatPartP
import Derived.Test.YtjiiaeljpllahaaGreatPartN
import Derived.Test.YtjiiaeljpllahaaGreatPartM
namespace Go.Ev
open Go Go.Proofs Go.RowKit
def revS (s : ByteArray) : ByteArray := strOf (numsB s).reverse
def bgS (x : Nat) : ByteArray := revS (strOf (leB 32 x))
def beS (s : ByteArray) : Nat := leS (revS s)
theorem revS_size (s : ByteArray) : (revS s).size = s.size := by unfold revS; rw [strOf_size, List.length_reverse, numsB_length]
theorem run97a (b : Nat → UInt8) : callR E0 1000 85 [sS (strB 32 b)] [] = some ([], .val (sS (strOf ((List.range 32).map fun j => (b (31 - j)).toNat)))) := by kernel_rfl
theorem rev32 (f : Nat → Nat) : ((List.range 32).map f).reverse = (List.range 32).map fun j => f (31 - j) := rfl
theorem spec97s (s : ByteArray) (h : s.size = 32) : Spec 85 [sS s] (.val (sS (revS s))) := by
  have e := strB_of h
  generalize hb : (fun i => s.data.getD i 0) = b at e
  have h := spec_run envE0 rfl (run97a b) trivial rfl rfl
  have h2 : strOf ((List.range 32).map fun j => (b (31 - j)).toNat) = revS s := by
    unfold revS
    rw [e, numsB_strB, rev32]
  rw [h2] at h
  exact h.congr (fun φ => by rw [e]) (fun φ => rfl)
def fRev (vs : List V1) : Option (List Prop × AV) := match vs with | [.one (.v (.string s))] => some ([s.size = 32], .val (sS (revS s))) | _ => none
theorem ct97s : CTok ⟨85, fRev⟩ := by
  intro vs ob r h ho
  simp only [fRev] at h
  split at h
  · simp only [Option.some.injEq, Prod.mk.injEq] at h
    obtain ⟨rfl, rfl⟩ := h
    exact spec97s _ ho.1
  · simp at h
def fOl (vs : List V1) : Option (List Prop × AV) := match vs with | [.one (.v (.string s))] => some ([s.size = 32], .tup [N8 (leS s), .one (.i 0)]) | _ => none
theorem ct99s : CTok ⟨114, fOl⟩ := by
  intro vs ob r h ho
  simp only [fOl] at h
  split at h
  · simp only [Option.some.injEq, Prod.mk.injEq] at h
    obtain ⟨rfl, rfl⟩ := h
    exact spec99s _ ho.1
  · simp at h
def fOp (vs : List V1) : Option (List Prop × AV) := match vs with | [.one (.v (.string s))] => some ([s.size = 32], .val (N8 (leS s))) | _ => none
theorem ct102s : CTok ⟨87, fOp⟩ := by
  intro vs ob r h ho
  simp only [fOp] at h
  split at h
  · simp only [Option.some.injEq, Prod.mk.injEq] at h
    obtain ⟨rfl, rfl⟩ := h
    exact spec102s _ ho.1
  · simp at h
def fLit : List V1 → Option (List Prop × AV) := fn1 fun a => .val (sS (strOf (leB 32 a)))
theorem ctLit98 : CTok ⟨86, fLit⟩ := fun _ _ _ h ho => fn1_ok (fun a _ => spec98s a) h ho
noncomputable def LBg : List CT := [⟨86, fLit⟩, ⟨85, fRev⟩, ⟨114, fOl⟩, ⟨87, fOp⟩]
theorem LBg_ok : AllCT LBg := ⟨ctLit98, ct97s, ct99s, ct102s, trivial⟩
theorem run59a (x : Nat) : callR (mkE LBg noS) 1000 40 [N8 x] [] = some ([x < 4294967296 ^ 8, (strOf (leB 32 x)).size = 32], .val (sS (bgS x))) := by kernel_rfl
theorem run60a (u : Nat → Nat) : callR E0 1000 8 [C8 u] [] = some ([], .val (sS (strOf ((List.range 32).map fun j => lbt u (31 - j))))) := by kernel_rfl
theorem run61a (s : ByteArray) : callR (mkE LBg noS) 1000 64 [sS s] [] = some ([s.size = 32, (revS s).size = 32], .tup [N8 (beS s), .one (.i 0)]) := by kernel_rfl
theorem run64a (b : Nat → UInt8) : callR (mkE LBg noS) 1000 41 [sS (strB 32 b)] [] = some ([(strOf ((List.range 32).map fun j => (b (31 - j)).toNat)).size = 32], .val (N8 (leS (strOf ((List.range 32).map fun j => (b (31 - j)).toNat))))) := by kernel_rfl
theorem leB_size (n x : Nat) : (strOf (leB n x)).size = n := by rw [strOf_size, leB_length]
theorem spec59s (x : Nat) (h : x < 4294967296 ^ 8) : Spec 40 [N8 x] (.val (sS (bgS x))) := spec_run (envMk LBg_ok noS) rfl (run59a x) ⟨h, leB_size 32 x, trivial⟩ rfl rfl
theorem spec60s (a : Nat) : Spec 8 [N8 a] (.val (sS (bgS a))) := by
  have h := spec_run envE0 rfl (run60a (limb a)) trivial rfl rfl
  have h2 : strOf ((List.range 32).map fun j => lbt (limb a) (31 - j)) = bgS a := by
    unfold bgS revS
    rw [numsB_strOf _ (leB_lt 32 a), ← lbt_leB, rev32]
  rw [h2] at h
  exact h.congr (fun φ => by simp only [List.map_cons, List.map_nil, conc_C8]) (fun φ => rfl)
theorem spec61s (s : ByteArray) (h : s.size = 32) : Spec 64 [sS s] (.tup [N8 (beS s), .one (.i 0)]) := spec_run (envMk LBg_ok noS) rfl (run61a s) ⟨h, by rw [revS_size, h], trivial⟩ rfl rfl
theorem spec64s (s : ByteArray) (h : s.size = 32) : Spec 41 [sS s] (.val (N8 (beS s))) := by
  have e := strB_of h
  generalize hb : (fun i => s.data.getD i 0) = b at e
  have h2 : strOf ((List.range 32).map fun j => (b (31 - j)).toNat) = revS s := by
    unfold revS
    rw [e, numsB_strB, rev32]
  have q := spec_run (envMk LBg_ok noS) rfl (run64a b) ⟨by rw [h2, revS_size, h], trivial⟩ rfl rfl
  rw [h2] at q
  exact q.congr (fun φ => by rw [e]) (fun φ => rfl)
end Go.Ev

namespace Go.Ev.H5
open Go Go.Proofs Go.RowKit
def zs (n : Nat) : ByteArray := strOf (List.replicate n 0)
theorem zs_size (n : Nat) : (zs n).size = n := by unfold zs; rw [strOf_size, List.length_replicate]
noncomputable def E21 : Env := { E0 with S := fun f t => match f with | 7 => memN t [2000004, 2000005] | _ => false }
theorem envE21 : EnvOK E21 := ⟨mixed, envE0.fns, envE0.fms, envE0.lps, envE0.fbs⟩
theorem run21n (z : Int) : callR E21 1000 7 [.one (.i z)] [] = some ([0 ≤ z ∧ z = z ∧ z ≤ 140737488355328, 0 = 0 ∧ z.toNat = (List.replicate z.toNat 0).length], .val (sS (zs z.toNat))) := by kernel_rfl
def fnZs (vs : List V1) : Option (List Prop × AV) :=
  match vs with
  | [.one (.i z)] => some ([0 ≤ z ∧ z ≤ 1000000], .val (sS (zs z.toNat)))
  | _ => none
theorem ct21z : CTok ⟨7, fnZs⟩ := by
  intro vs ob r h ho
  simp only [fnZs] at h
  split at h
  · rename_i z
    simp only [Option.some.injEq, Prod.mk.injEq] at h
    obtain ⟨rfl, rfl⟩ := h
    have h1 := ho.1
    exact spec_run envE21 rfl (run21n z) ⟨by omega, ⟨rfl, by simp⟩, trivial⟩ rfl rfl
  · simp at h
def bytesW (x : Nat) : List Nat := [x / 2 ^ 56 % 256, x / 2 ^ 48 % 256, x / 2 ^ 40 % 256, x / 2 ^ 32 % 256, x / 2 ^ 24 % 256, x / 2 ^ 16 % 256, x / 2 ^ 8 % 256, x / 2 ^ 0 % 256]
def s8 (x : Nat) : Nat := x / 2 ^ 8
theorem run63 (x : Nat) : callR E0 1000 23 [u64 x] [] = some ([], .val (sS (strOf [s8 (s8 (s8 (s8 (s8 (s8 (s8 x)))))) % 256, s8 (s8 (s8 (s8 (s8 (s8 x))))) % 256, s8 (s8 (s8 (s8 (s8 x)))) % 256, s8 (s8 (s8 (s8 x))) % 256, s8 (s8 (s8 x)) % 256, s8 (s8 x) % 256, s8 x % 256, x % 256]))) := by kernel_rfl
theorem s8_list (x : Nat) : [s8 (s8 (s8 (s8 (s8 (s8 (s8 x)))))) % 256, s8 (s8 (s8 (s8 (s8 (s8 x))))) % 256, s8 (s8 (s8 (s8 (s8 x)))) % 256, s8 (s8 (s8 (s8 x))) % 256, s8 (s8 (s8 x)) % 256, s8 (s8 x) % 256, s8 x % 256, x % 256] = bytesW x := by
  unfold s8 bytesW
  simp only [Nat.div_div_eq_div_mul, ← Nat.pow_add, Nat.reduceAdd, Nat.pow_zero, Nat.div_one]
def eightS (x : Nat) : ByteArray := strOf (bytesW x)
theorem spec63 (x : Nat) : Spec 23 [u64 x] (.val (sS (eightS x))) := by
  have h := spec_run envE0 rfl (run63 x) trivial rfl rfl
  rw [s8_list] at h
  exact h
def fn63e (vs : List V1) : Option (List Prop × AV) :=
  match vs with
  | [.one (.u .u64 x)] => some ([], .val (sS (eightS x)))
  | _ => none
theorem ct63e : CTok ⟨23, fn63e⟩ := by
  intro vs ob r h _
  simp only [fn63e] at h
  split at h
  · simp only [Option.some.injEq, Prod.mk.injEq] at h
    obtain ⟨_, rfl⟩ := h
    exact spec63 _
  · simp at h
end Go.Ev.H5

namespace Go.Ev.H5
open Go Go.Proofs Go.RowKit
def kB : Blk := ⟨cells64 80 0 shaK, 50, true, false, 0⟩
end Go.Ev.H5

namespace Go.Ev.H5
open Go Go.Proofs Go.RowKit
def x80 : ByteArray := ⟨#[128]⟩
def lenW (n : Nat) : Nat := 8 * ((n : Int) % 18446744073709551616).toNat % M64
theorem eightS_size (x : Nat) : (eightS x).size = 8 := by unfold eightS; rw [strOf_size]; rfl
theorem x80_size : x80.size = 1 := rfl
theorem e0_size : (⟨#[]⟩ : ByteArray).size = 0 := rfl
end Go.Ev.H5

namespace Go.Ev.H5
open Go Go.Proofs Go.RowKit
def sumG (T0 : List AV) (M0 : List Blk) (TF : List AV) (MF : List Blk) (ex : Ex) : List AV → List Blk → List Bool → CoR := fun tm mem c =>
  some ([(fitT T0 tm, mem) = (T0, M0), wfS T0 M0 = true], c, ex, TF, MF)
theorem sumG_ok {P : Program} {y : Code} {T0 TF : List AV} {M0 MF : List Blk} {ex : Ex} (hl : M0.length ≤ MF.length) (h : Goes P (.loop y) ex T0 M0 TF MF) : SumOK P (.loop y) (sumG T0 M0 TF MF ex) := by
  intro tm mem c ob c' ex' tm' mem' hf ho w0 φ a w hr Q hQ
  simp only [sumG, Option.some.injEq, Prod.mk.injEq] at hf
  obtain ⟨rfl, rfl, rfl, rfl, rfl⟩ := hf
  obtain ⟨h1, h2, _⟩ := ho
  obtain ⟨h1, rfl⟩ := h1
  refine h w0 φ a w (hr.fit (fits_of (by rw [h1, List.take_length]) h2)) Q ?_
  intro φ' a' w' hag hr'
  exact hQ φ' a' w' hag hl hr'
def slX (b n : Nat) : AV := .val (.one (.sx b n))
def dB (l : List Nat) : Blk := ⟨[.arr .u8 l], 5, false, false, 1⟩
def aB (l : List Nat) : Blk := ⟨[.arr .u8 l], 5, true, false, 1⟩
def oB (x : Nat) : Blk := ⟨[.a (.u .u8 x)], 5, true, false, 0⟩
end Go.Ev.H5

namespace Go.Ev.H5
open Go Go.Proofs Go.RowKit
theorem free3 (s : ByteArray) (l : List Nat) : ∀ b ∈ [dB (numsB s), oB 128, aB l], Free b := by
  intro b hb
  simp only [List.mem_cons, List.not_mem_nil, or_false] at hb
  rcases hb with rfl | rfl | rfl <;> exact fun _ => rfl
theorem free5 (s : ByteArray) (l : List Nat) : ∀ b ∈ [dB (numsB s), oB 128, dB l, oB 0, aB (l ++ [0])], Free b := by
  intro b hb
  simp only [List.mem_cons, List.not_mem_nil, or_false] at hb
  rcases hb with rfl | rfl | rfl | rfl | rfl <;> exact fun _ => rfl
theorem free4 (s : ByteArray) (l : List Nat) : ∀ b ∈ [dB (numsB s), oB 128, dB [], aB l], Free b := by
  intro b hb
  simp only [List.mem_cons, List.not_mem_nil, or_false] at hb
  rcases hb with rfl | rfl | rfl | rfl <;> exact fun _ => rfl
end Go.Ev.H5

namespace Go.Ev.H5
open Go Go.Proofs Go.RowKit
def lenU64 (n : Nat) : Nat := ((n : Int) % 18446744073709551616).toNat
theorem numsB_len (s : ByteArray) : (numsB s).length = s.size := by simp [numsB]
theorem strOf_append (a b : List Nat) : strOf (a ++ b) = strOf a ++ strOf b := by
  apply ByteArray.ext
  rw [ByteArray.data_append]
  unfold strOf
  simp
end Go.Ev.H5

namespace Go.Ev.H5
open Go Go.Proofs Go.RowKit
theorem toList_inj {a b : ByteArray} (h : a.toList = b.toList) : a = b := by
  rw [ByteArray.toList_eq, ByteArray.toList_eq] at h
  exact ByteArray.ext (Array.ext' h)
theorem ne_empty {F : ByteArray} (h : 0 < F.size) : (!(F.toList == (⟨#[]⟩ : ByteArray).toList)) = true := by
  rw [Bool.not_eq_true', beq_eq_false_iff_ne]
  intro e
  rw [toList_inj e] at h
  exact absurd h (by decide)
theorem size_zero {F : ByteArray} (h : F.size = 0) : F = ⟨#[]⟩ := by
  apply ByteArray.ext
  exact Array.eq_empty_of_size_eq_zero h
theorem is_empty {F : ByteArray} (h : F.size = 0) : (!(F.toList == (⟨#[]⟩ : ByteArray).toList)) = false := by
  rw [size_zero h]; simp
theorem cut_cut (F : ByteArray) (a b c : Nat) (h : a + c ≤ F.size) : (F.extract a F.size).extract b c = F.extract (a + b) (a + c) := by
  apply ByteArray.ext
  rw [ByteArray.data_extract, ByteArray.data_extract, ByteArray.data_extract]
  rw [Array.extract_extract]
  congr 1
  have : F.data.size = F.size := rfl
  omega
theorem cut_all (F : ByteArray) : F.extract 0 F.size = F := by
  apply ByteArray.ext
  rw [ByteArray.data_extract]
  have : F.data.size = F.size := rfl
  rw [← this, Array.extract_size]
theorem e0_append (s : ByteArray) : (⟨#[]⟩ : ByteArray) ++ s = s := by apply ByteArray.ext; rw [ByteArray.data_append]; simp
end Go.Ev.H5

