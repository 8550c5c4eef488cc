/- The law AeadOpens holds of every argument, without a condition -/
import Derived.Test.YtcllniellnhcoaaSealB
import Derived.JoinedOf
import Derived.SizedLaws
namespace Go.Ev
open Go Go.Proofs Go.RowKit
/-! a bit of what was sealed is turned -/
noncomputable def E41 : Env := { E0 with S := fun f t => match f with | 41 => memN t [9] | _ => false }
theorem envE41 : EnvOK E41 := ⟨mixed, envE0.fns, envE0.fms, envE0.lps, envE0.fbs⟩
theorem r41 (z : Int) : callR E41 1000 41 [.one (.i z), .one (.i 8)] [] = some ([((8 : Int) % 18446744073709551616).toNat ≠ 0], .val (.one (.i (IntKind.i64.wrap (((z % 18446744073709551616).toNat % ((8 : Int) % 18446744073709551616).toNat : Nat) : Int))))) := by kernel_rfl
def fn41 (vs : List V1) : Option (List Prop × AV) :=
  match vs with
  | [.one (.i z), .one (.i b)] => some ([0 ≤ z ∧ z < 4611686018427387904, b = 8], .val (.one (.i (z % 8))))
  | _ => none
theorem ct41 : CTok ⟨41, fn41⟩ := by
  intro vs ob r h ho
  simp only [fn41] at h
  split at h
  · rename_i z b
    simp only [Option.some.injEq, Prod.mk.injEq] at h
    obtain ⟨rfl, rfl⟩ := h
    obtain ⟨⟨h1, h2⟩, rfl, _⟩ := ho
    have := spec_run envE41 rfl (r41 z) ⟨by decide, trivial⟩ rfl rfl
    have e8 : ((8 : Int) % 18446744073709551616).toNat = 8 := by decide
    rw [e8, show ((z % 18446744073709551616).toNat % 8 : Nat) = (z % 8).toNat by omega, wrap64_inI (show inI (((z % 8).toNat : Nat) : Int) by unfold inI; omega), Int.toNat_of_nonneg (by omega)] at this
    exact this
  · simp at h
noncomputable def S12 : FuncId → Nat → Bool := fun f t => match f with | 12 => memN t [18, 21, 27, 2000028, 44, 58, 63, 71, 72, 24, 75, 2000079, 83, 85, 89, 91, 92, 2000093, 96, 98, 100, 4000100, 2000109, 115, 118, 77] | 17 => memN t [47] | _ => false
noncomputable def E12 (c : Cells) : Env := mkE (⟨41, fn41⟩ :: LA c) S12
theorem envE12 (c : Cells) : EnvOK (E12 c) := envMk (show AllCT (⟨41, fn41⟩ :: LA c) from ⟨ct41, LA_ok c⟩) _
def bX (x : Nat → ByteArray) (n : Nat → Nat) : Blk := ⟨askP x n, 38, true, false, 0⟩
theorem bX_free (x : Nat → ByteArray) (n : Nat → Nat) : Free (bX x n) := fun _ => rfl
def TV (C : ByteArray) (len cap : Nat) (i k : Int) : List AV := slots 123 [(0, sV' len cap), (2, bV false), (3, iV i), (4, pV 1), (5, .val (strV C)), (9, iV k)]
def MV (c : Cells) (m : Nat) (x : Nat → ByteArray) (n : Nat → Nat) : List Blk := [rowB c shC m 38, bX x n]
theorem tTV (C : ByteArray) (len cap : Nat) (i k : Int) : tmsWf 2 (TV C len cap i k) = true := by kernel_rfl
theorem wfTV (c : Cells) (m : Nat) (x : Nat → ByteArray) (n : Nat → Nat) (C : ByteArray) (len cap : Nat) (i k : Int) : wfS (TV C len cap i k) (MV c m x n) = true := wfS_of (by
  intro b hb
  simp only [MV, List.mem_cons, List.not_mem_nil, or_false] at hb
  rcases hb with rfl | rfl
  · exact rowB_free _ _ _ _
  · exact bX_free _ _) (tTV C len cap i k)
def pos (C : ByteArray) (k : Nat) : Nat := 0 + ((C.size : Int) - 1 - (k : Int)).toNat * 1
def tb (i k : Nat) : Nat := 1 * 2 ^ (min (((k : Int) + (i : Int)) % 8).toNat 8) % 256
def flL (C : ByteArray) (i k : Nat) : List Nat := (numsB C).set (pos C k) ((numsB C).getD (pos C k) 0 % 256 ^^^ tb i k % 256)
def flC (C : ByteArray) (i k : Nat) : ByteArray := strOf (flL C i k)
theorem sVa (c : Cells) (m len cap i k : Nat) (x : Nat → ByteArray) (n : Nat → Nat) (C : ByteArray) : runTo (E12 c) 1000 ((E12 c).S 12) (bodyOf Try.prog 12 13) (TV C len cap (i : Int) (k : Int)) (MV c m x n) [true, false, false] (TV C len cap (i : Int) ((k : Int) + 1)) 2 =
  some ([decide ((k : Int) < 16) = true, inI ((C.size : Int) - 1), inI ((C.size : Int) - 1 - (k : Int)), inI ((C.size : Int) - 1), inI ((C.size : Int) - 1 - (k : Int)), (0 : Int) ≤ (C.size : Int) - 1 - (k : Int) ∧ (C.size : Int) - 1 - (k : Int) < (C.size : Int), pos C k < (numsB C).length, inI ((k : Int) + (i : Int)), (0 : Int) ≤ (k : Int) + (i : Int) ∧ (k : Int) + (i : Int) < 4611686018427387904, (8 : Int) = 8, (0 : Int) ≤ ((k : Int) + (i : Int)) % 8, (0 : Int) ≤ (C.size : Int) - 1 - (k : Int) ∧ (C.size : Int) - 1 - (k : Int) < (C.size : Int), pos C k < (numsB C).length, 0 = 0 ∧ C.size = (flL C i k).length,
    (!decide (openE (x 0) (x 1) (x 2) (flC C i k) = 8)) = false, (!((openR (x 0) (x 1) (x 2) (flC C i k)).toList == (⟨#[]⟩ : ByteArray).toList)) = false, inI ((k : Int) + 1)], .normal, TV C len cap (i : Int) ((k : Int) + 1), MV c m x n) := by kernel_rfl
theorem sVx (c : Cells) (m len cap i k : Nat) (x : Nat → ByteArray) (n : Nat → Nat) (C : ByteArray) : runTo (E12 c) 1000 ((E12 c).S 12) (bodyOf Try.prog 12 13) (TV C len cap (i : Int) (k : Int)) (MV c m x n) [false] (TV C len cap (i : Int) (k : Int)) 2 =
  some ([decide ((k : Int) < 16) = false], .exit 2, TV C len cap (i : Int) (k : Int), MV c m x n) := by kernel_rfl
theorem tb_pos (i k : Nat) : tb i k % 256 ≠ 0 := by
  unfold tb
  have h : (((k : Int) + (i : Int)) % 8).toNat < 8 := by omega
  rw [Nat.min_eq_left (by omega), Nat.one_mul]
  generalize (((k : Int) + (i : Int)) % 8).toNat = w at h
  match w, h with
  | 0, _ => decide
  | 1, _ => decide
  | 2, _ => decide
  | 3, _ => decide
  | 4, _ => decide
  | 5, _ => decide
  | 6, _ => decide
  | 7, _ => decide
theorem flL_lt (C : ByteArray) (i k : Nat) : ∀ b ∈ flL C i k, b < 256 := by
  intro b hb
  rcases List.mem_or_eq_of_mem_set hb with h | h
  · exact numsB_lt C b h
  · rw [h]
    exact Nat.xor_lt_two_pow (n := 8) (Nat.mod_lt _ (by decide)) (Nat.mod_lt _ (by decide))
theorem flC_size (C : ByteArray) (i k : Nat) : (flC C i k).size = C.size := by unfold flC flL; rw [strOf_size, List.length_set, numsB_length]
theorem flC_ne (C : ByteArray) (i k : Nat) (hp : pos C k < (numsB C).length) : flC C i k ≠ C := by
  intro h
  have h2 : numsB (flC C i k) = numsB C := by rw [h]
  unfold flC at h2
  rw [numsB_strOf _ (flL_lt C i k)] at h2
  have h3 : (flL C i k)[pos C k]? = (numsB C)[pos C k]? := by rw [h2]
  unfold flL at h3
  rw [List.getElem?_set_self hp, List.getElem?_eq_getElem hp, List.getD_eq_getElem?_getD, List.getElem?_eq_getElem hp, Option.getD_some] at h3
  simp only [Option.some.injEq] at h3
  have hlt := numsB_lt C _ (List.getElem_mem hp)
  rw [Nat.mod_eq_of_lt hlt] at h3
  generalize (numsB C)[pos C k] = a at h3
  have h4 : a ^^^ (a ^^^ tb i k % 256) = 0 := by rw [h3]; exact Nat.xor_self a
  rw [← Nat.xor_assoc, Nat.xor_self, Nat.zero_xor] at h4
  exact tb_pos i k h4
theorem take_set (l : List Nat) (v : Nat) : ∀ (m j : Nat), m ≤ j → (l.set j v).take m = l.take m := by
  intro m j h
  apply List.ext_getElem?
  intro q
  rw [List.getElem?_take, List.getElem?_take]
  split
  · rw [List.getElem?_set_ne (by omega)]
  · rfl
theorem flC_body (C : ByteArray) (i k : Nat) (hk : k < 16) (hC : 16 ≤ C.size) : bodyC (flC C i k) = bodyC C := by
  have e : C = strOf (numsB C) := (strOf_numsB C).symm
  unfold bodyC
  rw [flC_size]
  conv => rhs; rw [e]
  unfold flC
  rw [strOf_take, strOf_take]
  congr 1
  have hz : (strOf (numsB C)).size = C.size := by rw [← e]
  rw [hz]
  unfold flL
  exact take_set _ _ _ _ (by unfold pos; omega)
/-- with a bit turned it does not open. -/
theorem open_turned (k t ad s : ByteArray) (i j : Nat) (hj : j < 16) (hf : fitKN k t = true) (ha : ad.size ≤ 4096) (hs : s.size ≤ 4096) :
    openE k t ad (flC (sealB k t ad s) i j) = 8 ∧ openR k t ad (flC (sealB k t ad s) i j) = ⟨#[]⟩ := by
  have hz := sealB_size k t ad s
  generalize hC : sealB k t ad s = C at *
  have hbody := flC_body C i j hj (by omega)
  have hok : openOk k t ad C = true := by
    have h := sealB_open k t ad C
    have hb : bodyC C = streamOf k 1 t s := by
      rw [← hC]
      unfold bodyC sealB
      rw [ByteArray.size_append, streamOf_size, tagOf_size]
      apply ByteArray.ext
      rw [ByteArray.data_extract, ByteArray.data_append]
      have hsz : (streamOf k 1 t s).data.size = s.size := streamOf_size k 1 t s
      rw [show ((s.size + 16 : Nat) : Int) - 16 = ((s.size : Nat) : Int) by omega, Int.toNat_natCast, ← hsz]
      simp
    rw [hb, streamOf_twice, hC] at h
    rw [← h, sameB_iff]
  have hno : openOk k t ad (flC C i j) = false := by
    rw [Bool.eq_false_iff]
    intro h
    unfold openOk at h hok
    rw [hbody] at h
    rw [sameB_iff] at h hok
    refine flC_ne C i j (by rw [numsB_length]; unfold pos; omega) ?_
    rw [← body_tail (flC C i j), hbody, ← h, hok, body_tail]
  unfold openE openR
  rw [hf, limOk_t ha (by rw [flC_size]; omega), decide_eq_false (by rw [flC_size]; omega), hno]
  exact ⟨rfl, rfl⟩
theorem lVloop (c : Cells) (m len cap i : Nat) (x : Nat → ByteArray) (n : Nat → Nat) (C : ByteArray) (hC : C = sealB (x 0) (x 1) (x 2) (x 3)) (hf : fitKN (x 0) (x 1) = true) (ha : (x 2).size ≤ 4096) (hs : (x 3).size ≤ 4096) (hi : i < 6) :
    Goes Try.prog (.loop (bodyOf Try.prog 12 13)) (.exit 2) (TV C len cap (i : Int) ((0 : Nat) : Int)) (MV c m x n) (TV C len cap (i : Int) ((16 : Nat) : Int)) (MV c m x n) := by
  refine loop_goes (N := 16) (k := 2) (T := fun k => TV C len cap (i : Int) (k : Int)) (M := fun _ => MV c m x n) (by simp) (fun _ _ => rfl) (fun k hk => ?_) ?_
  · have hz : C.size = (x 3).size + 16 := by rw [hC, sealB_size]
    obtain ⟨h1, h2⟩ := open_turned (x 0) (x 1) (x 2) (x 3) i k hk hf ha hs
    rw [← hC] at h1 h2
    have o1 : inI ((C.size : Int) - 1) := by unfold inI; omega
    have o2 : inI ((C.size : Int) - 1 - (k : Int)) := by unfold inI; omega
    have o3 : (0 : Int) ≤ (C.size : Int) - 1 - (k : Int) ∧ (C.size : Int) - 1 - (k : Int) < (C.size : Int) := by omega
    have o4 : pos C k < (numsB C).length := by rw [numsB_length]; unfold pos; omega
    have o5 : C.size = (flL C i k).length := by unfold flL; rw [List.length_set, numsB_length]
    exact Runs.goes (envE12 c) ⟨_, _, sVa c m len cap i k x n C, ⟨decide_eq_true (by omega), o1, o2, o1, o2, o3, o4, by unfold inI; omega, by omega, rfl, by omega, o3, o4, ⟨rfl, o5⟩, neq_f h1, by rw [h2]; exact neq_ss _, by unfold inI; omega, trivial⟩, wfTV _ _ _ _ _ _ _ _ _⟩
  · exact Runs.goes (envE12 c) ⟨_, _, sVx c m len cap i 16 x n C, ⟨decide_eq_false (by omega), trivial⟩, wfTV _ _ _ _ _ _ _ _ _⟩
end Go.Ev

namespace Go.Ev
open Go Go.Proofs Go.RowKit
def T12 (len cap : Nat) (i : Int) : List AV := slots 123 [(0, sV' len cap), (2, bV false), (3, iV i)]
theorem wfT12 (c : Cells) (m len cap : Nat) (i : Int) : wfS (T12 len cap i) (MC c m) = true := wfC c m (by kernel_rfl)
noncomputable def EV12 (c : Cells) (len cap i : Nat) : Env := addL (E12 c) 13 (bodyOf Try.prog 12 13) (sumC (TV (sealR (kfit (sA c (0 + i * 9))) (tfit (sA c (0 + i * 9 + 1))) (sA c (0 + i * 9 + 1 + 1)) (sA c (0 + i * 9 + 1 + 1 + 1))) len cap (i : Int) ((0 : Nat) : Int)) (MV c len (xA c i) (nB c i)) (TV (sealR (kfit (sA c (0 + i * 9))) (tfit (sA c (0 + i * 9 + 1))) (sA c (0 + i * 9 + 1 + 1)) (sA c (0 + i * 9 + 1 + 1 + 1))) len cap (i : Int) ((16 : Nat) : Int)) (MV c len (xA c i) (nB c i)) (.exit 2))
theorem s12y (c : Cells) (len cap i : Nat) : runTo (EV12 c len cap i) 1000 ((EV12 c len cap i).S 12) (bodyOf Try.prog 12 4) (T12 len cap (i : Int)) (MC c len) [true, true, false, false, false, false] (T12 len cap ((i : Int) + 1)) 1 =
  some ([decide ((i : Int) < (len : Int)) = true, decide ((i : Int) < 6) = true, (0 : Int) ≤ (i : Int) ∧ (i : Int) < (len : Int), LoadsAs Try.prog 38 (rowPs c shC len 0) (0 + i * 9) (.agg (fldPs c shC (0 + i * 9))), (sA c (0 + i * 9)).size ≤ 1000000, (sA c (0 + i * 9 + 1)).size ≤ 1000000, (!decide (sealE (kfit (sA c (0 + i * 9))) (tfit (sA c (0 + i * 9 + 1))) (sA c (0 + i * 9 + 1 + 1)) (sA c (0 + i * 9 + 1 + 1 + 1)) = 0)) = false, (!decide (openE (kfit (sA c (0 + i * 9))) (tfit (sA c (0 + i * 9 + 1))) (sA c (0 + i * 9 + 1 + 1)) (sealR (kfit (sA c (0 + i * 9))) (tfit (sA c (0 + i * 9 + 1))) (sA c (0 + i * 9 + 1 + 1)) (sA c (0 + i * 9 + 1 + 1 + 1))) = 0)) = false, (!((openR (kfit (sA c (0 + i * 9))) (tfit (sA c (0 + i * 9 + 1))) (sA c (0 + i * 9 + 1 + 1)) (sealR (kfit (sA c (0 + i * 9))) (tfit (sA c (0 + i * 9 + 1))) (sA c (0 + i * 9 + 1 + 1)) (sA c (0 + i * 9 + 1 + 1 + 1)))).toList == (sA c (0 + i * 9 + 1 + 1 + 1)).toList)) = false, inI (((sA c (0 + i * 9 + 1 + 1 + 1)).size : Int) + 16), (!decide (((sealR (kfit (sA c (0 + i * 9))) (tfit (sA c (0 + i * 9 + 1))) (sA c (0 + i * 9 + 1 + 1)) (sA c (0 + i * 9 + 1 + 1 + 1))).size : Int) = ((sA c (0 + i * 9 + 1 + 1 + 1)).size : Int) + 16)) = false, bodyOf Try.prog 12 13 = bodyOf Try.prog 12 13, ((TV (sealR (kfit (sA c (0 + i * 9))) (tfit (sA c (0 + i * 9 + 1))) (sA c (0 + i * 9 + 1 + 1)) (sA c (0 + i * 9 + 1 + 1 + 1))) len cap (i : Int) ((0 : Nat) : Int)), (MV c len (xA c i) (nB c i))) = ((TV (sealR (kfit (sA c (0 + i * 9))) (tfit (sA c (0 + i * 9 + 1))) (sA c (0 + i * 9 + 1 + 1)) (sA c (0 + i * 9 + 1 + 1 + 1))) len cap (i : Int) ((0 : Nat) : Int)), (MV c len (xA c i) (nB c i))), wfS (TV (sealR (kfit (sA c (0 + i * 9))) (tfit (sA c (0 + i * 9 + 1))) (sA c (0 + i * 9 + 1 + 1)) (sA c (0 + i * 9 + 1 + 1 + 1))) len cap (i : Int) ((0 : Nat) : Int)) (MV c len (xA c i) (nB c i)) = true, inI ((i : Int) + 1)], .normal, T12 len cap ((i : Int) + 1), MC c len) := by kernel_rfl
theorem s12n (c : Cells) (len cap i : Nat) : runTo (E12 c) 1000 ((E12 c).S 12) (bodyOf Try.prog 12 4) (T12 len cap (i : Int)) (MC c len) [true, true, true] (T12 len cap ((i : Int) + 1)) 1 =
  some ([decide ((i : Int) < (len : Int)) = true, decide ((i : Int) < 6) = true, (0 : Int) ≤ (i : Int) ∧ (i : Int) < (len : Int), LoadsAs Try.prog 38 (rowPs c shC len 0) (0 + i * 9) (.agg (fldPs c shC (0 + i * 9))), (sA c (0 + i * 9)).size ≤ 1000000, (sA c (0 + i * 9 + 1)).size ≤ 1000000, (!decide (sealE (kfit (sA c (0 + i * 9))) (tfit (sA c (0 + i * 9 + 1))) (sA c (0 + i * 9 + 1 + 1)) (sA c (0 + i * 9 + 1 + 1 + 1)) = 0)) = true, inI ((i : Int) + 1)], .normal, T12 len cap ((i : Int) + 1), MC c len) := by kernel_rfl
theorem s12o (c : Cells) (len cap i : Nat) : runTo (E12 c) 1000 ((E12 c).S 12) (bodyOf Try.prog 12 4) (T12 len cap (i : Int)) (MC c len) [false] (T12 len cap (i : Int)) 1 = some ([decide ((i : Int) < (len : Int)) = false], .exit 0, T12 len cap (i : Int), MC c len) := by kernel_rfl
theorem s12p (c : Cells) (len cap i : Nat) : runTo (E12 c) 1000 ((E12 c).S 12) (bodyOf Try.prog 12 4) (T12 len cap (i : Int)) (MC c len) [true, false] (T12 len cap (i : Int)) 1 = some ([decide ((i : Int) < (len : Int)) = true, decide ((i : Int) < 6) = false], .exit 0, T12 len cap (i : Int), MC c len) := by kernel_rfl
theorem l12loop (c : Cells) (len cap : Nat) (hs : ∀ j, j < len → (sA c (0 + j * 9 + 0)).size ≤ 9000 ∧ (sA c (0 + j * 9 + 1)).size ≤ 9000) : Goes Try.prog (.loop (bodyOf Try.prog 12 4)) (.exit 0) (T12 len cap ((0 : Nat) : Int)) (MC c len) (T12 len cap ((min len 6 : Nat) : Int)) (MC c len) := by
  refine loop_goes (N := min len 6) (k := 1) (T := fun i => T12 len cap (i : Int)) (M := fun _ => MC c len) (by simp) (fun _ _ => rfl) (fun i hi => ?_) ?_
  · obtain ⟨h1, h2⟩ := hs i (by omega)
    have h1' : (sA c (0 + i * 9)).size ≤ 9000 := h1
    have b1 : (0 : Int) ≤ (i : Int) ∧ (i : Int) < (len : Int) := by omega
    have hi' : i < len := by omega
    by_cases h : sealE (kfit (sA c (0 + i * 9))) (tfit (sA c (0 + i * 9 + 1))) (sA c (0 + i * 9 + 1 + 1)) (sA c (0 + i * 9 + 1 + 1 + 1)) = 0
    · obtain ⟨q1, q2, q3, q4⟩ := seal_y h
      obtain ⟨q5, q6⟩ := open_seal (kfit (sA c (0 + i * 9))) (tfit (sA c (0 + i * 9 + 1))) (sA c (0 + i * 9 + 1 + 1)) (sA c (0 + i * 9 + 1 + 1 + 1)) q1 q2 q3
      have hz := sealB_size (kfit (sA c (0 + i * 9))) (tfit (sA c (0 + i * 9 + 1))) (sA c (0 + i * 9 + 1 + 1)) (sA c (0 + i * 9 + 1 + 1 + 1))
      rw [← q4] at q5 q6 hz
      have hE : EnvOK (EV12 c len cap i) := envAddL (envE12 c) (sumC_ok rfl (lVloop c len len cap i (xA c i) (nB c i) (sealR (kfit (sA c (0 + i * 9))) (tfit (sA c (0 + i * 9 + 1))) (sA c (0 + i * 9 + 1 + 1)) (sA c (0 + i * 9 + 1 + 1 + 1))) q4 q1 q2 q3 (by omega)))
      exact Runs.goes hE ⟨_, _, s12y c len cap i, ⟨decide_eq_true (by omega), decide_eq_true (by omega), b1, ld38 hi', by omega, by omega, neq_f h, neq_f q5, by rw [q6]; exact neq_ss _, by unfold inI; omega, neq_f (by omega), rfl, rfl, wfTV _ _ _ _ _ _ _ _ _, by unfold inI; omega, trivial⟩, wfT12 _ _ _ _ _⟩
    · exact Runs.goes (envE12 c) ⟨_, _, s12n c len cap i, ⟨decide_eq_true (by omega), decide_eq_true (by omega), b1, ld38 hi', by omega, by omega, neq_t h, by unfold inI; omega, trivial⟩, wfT12 _ _ _ _ _⟩
  · by_cases h : len ≤ 6
    · rw [show min len 6 = len by omega]
      exact Runs.goes (envE12 c) ⟨_, _, s12o c len cap len, ⟨decide_eq_false (by omega), trivial⟩, wfT12 _ _ _ _ _⟩
    · rw [show min len 6 = 6 by omega]
      exact Runs.goes (envE12 c) ⟨_, _, s12p c len cap 6, ⟨decide_eq_true (by omega), decide_eq_false (by omega), trivial⟩, wfT12 _ _ _ _ _⟩
end Go.Ev

namespace Go.Ev
open Go Go.Proofs Go.RowKit

noncomputable def EH12 (c : Cells) (len cap : Nat) : Env := addL (E12 c) 3 (bodyOf Try.prog 17 3) (sumH c len cap)
theorem envEH12 (c : Cells) (len cap : Nat) (hB : ∀ j, j < len * 9 → (sA c j).size ≤ BB) (hl : len ≤ maxLen) : EnvOK (EH12 c len cap) := envAddL (envE12 c) (sumH_ok c len cap hB hl)
noncomputable def EE12 (c : Cells) (len cap : Nat) : Env := addL (EH12 c len cap) 4 (bodyOf Try.prog 12 4) (sumC (T12 len cap ((0 : Nat) : Int)) (MC c len) (T12 len cap ((min len 6 : Nat) : Int)) (MC c len) (.exit 0))
theorem envEE12 (c : Cells) (len cap : Nat) (hB : ∀ j, j < len * 9 → (sA c j).size ≤ BB) (hl : len ≤ maxLen) (hs : ∀ j, j < len → (sA c (0 + j * 9 + 0)).size ≤ 9000 ∧ (sA c (0 + j * 9 + 1)).size ≤ 9000) : EnvOK (EE12 c len cap) := envAddL (envEH12 c len cap hB hl) (sumC_ok rfl (l12loop c len cap hs))
theorem l12hv (c : Cells) (len : Nat) (cap : Nat) : dropM (callBy (EH12 c len cap) (evalC (EH12 c len cap) 1000) 12 [V1.one (Atom.sl 0 0 len cap)] [rowB c shC len 38] [true]) =
    some ([bodyOf Try.prog 17 3 = bodyOf Try.prog 17 3, (TH len cap (len : Int) ((0 : Nat) : Int), MC c len) = (TH len cap (len : Int) ((0 : Nat) : Int), MC c len), wfS (TH len cap (len : Int) ((0 : Nat) : Int)) (MC c len) = true, decide ((9000 : Int) < hv c len 0 (len : Int)) = true], bV true) := by kernel_rfl
theorem l12ok (c : Cells) (len : Nat) (cap : Nat) : dropM (callBy (EE12 c len cap) (evalC (EE12 c len cap) 1000) 12 [V1.one (Atom.sl 0 0 len cap)] [rowB c shC len 38] [false]) =
    some ([bodyOf Try.prog 17 3 = bodyOf Try.prog 17 3, (TH len cap (len : Int) ((0 : Nat) : Int), MC c len) = (TH len cap (len : Int) ((0 : Nat) : Int), MC c len), wfS (TH len cap (len : Int) ((0 : Nat) : Int)) (MC c len) = true, decide ((9000 : Int) < hv c len 0 (len : Int)) = false, bodyOf Try.prog 12 4 = bodyOf Try.prog 12 4, (T12 len cap ((0 : Nat) : Int), MC c len) = (T12 len cap ((0 : Nat) : Int), MC c len), wfS (T12 len cap ((0 : Nat) : Int)) (MC c len) = true], bV true) := by kernel_rfl
theorem l12nil (c : Cells) : dropM (callBy (E12 c) (evalC (E12 c) 1000) 12 [V1.one (Atom.v (Value.slice none 0 0))] [] [false, false]) =
    some ([decide ((9000 : Int) < ((0 : Nat) : Int)) = false, decide ((0 : Int) < ((0 : Nat) : Int)) = false], bV true) := by kernel_rfl
theorem l12nilc (w : World) : Calls Try.prog 12 #[.slice none 0 0] w (Trues w) :=
  law_nilD (envE12 c0) (l12nil c0) ⟨by decide, by decide, trivial⟩ w
set_option maxRecDepth 100000 in
theorem law12 {H : Type} {enc : TypeId × Value → H} {r : Reach} {W : World} {base : Nat} {v : Value} {d : DataW H} {ps : List MemPlace} (hval : Value.okWide Try.prog W r base 23 v) (h : DataW.Trod enc Try.prog W 0 (fun _ => true) true 23 v d ps) (hwt : ∀ n ∈ d.weights Try.prog 23, n ≤ BB) :
    Calls Try.prog 12 #[v] W (Trues W) := by
  refine rows_calls_sized shC (B := BB) (Q := Trues) u23 k38 s38 l12nilc ?_ hval h hwt
  intro c len cap hlc hcap ho hB w φ hmr
  have hl : len ≤ maxLen := by omega
  have hB' : ∀ j, j < len * 9 → (sA c j).size ≤ BB := hB
  by_cases hh : 9000 < hv c len 0 (len : Int)
  · exact law_runD (envEH12 c len cap hB' hl) (l12hv c len cap) ⟨rfl, rfl, wfTH _ _ _ _ _ _, decide_eq_true hh, trivial⟩ hmr
  · have hs := (hv_small c len 0 (len : Int) (by omega) (by omega)).2
    refine law_runD (envEE12 c len cap hB' hl ?_) (l12ok c len cap) ⟨rfl, rfl, wfTH _ _ _ _ _ _, decide_eq_false hh, rfl, rfl, wfT12 _ _ _ _ _, trivial⟩ hmr
    intro j hj
    obtain ⟨h1, h2, h3, h4⟩ := hs j (Nat.zero_le _) (by omega)
    exact ⟨h1, h2⟩
end Go.Ev

namespace Go.Proofs.Ytcllniellnhcoaa.Laws
open Go Go.Ev Go.RowKit Go.ChangeShapes Go.WideShapes Go.ChangeAt

set_option maxRecDepth 100000 in
theorem lifted12 (os : Os) (started : os.Started) (H : Type) (enc : TypeId × Value → H) :
    ReturnsInHanded {} Try.checked os 12 .any (Rows.aeadOpensSpec.pre6 enc Try.prog Try.f12 Rows.aeadOpensRow.domain false) (Rows.aeadOpensSpec.post enc Try.prog Try.f12 false true false false) := by
  refine returnsInHanded_of_change_sized (C := Try.checked) own started (by kernel_rfl) Try.func12
    (ChangeSpec.witness6 (enc := enc) (C := Try.checked) false ⟨#[], #[.slice none 0 0], []⟩ 8 (by kernel_rfl) (by kernel_rfl) (by kernel_rfl) (by kernel_rfl)) ?_
  intro W base args ds gs before hval0 hW _ hsz0 _
  have hsz : (DataW.weightsEach Try.prog (Try.f12.params.toList ++ Rows.aeadOpensSpec.plain.varTypes Try.prog) (ds ++ gs)).all (· ≤ reachBytes) = true := hsz0
  clear hsz0
  have hval : ∀ (j : Nat) t v, Try.f12.params[j]? = some t → args[j]? = some v → Value.okWide Try.prog W .any base t v := hval0
  have hW' := hW
  obtain ⟨p, q, hA0, hV, hbef, hfz, hnd⟩ := hW
  have hp : Try.f12.params = #[23] := by kernel_rfl
  have hA : DataW.TrodAll enc Try.prog W 0 (fun _ => true) true Try.f12.params.toList args.toList ds p := hA0
  rw [hp] at hA hval
  obtain ⟨v0, d0, rfl, rfl, h0⟩ := trodAll_one hA
  obtain ⟨rfl, rfl⟩ := trodVars_none hV
  refine (law12 (hval 0 23 v0 rfl rfl) h0 (fun n hn => by simpa using List.all_eq_true.1 hsz n (DataW.weights_mem_each (j := 0) (t := 23) (by rw [hp]; rfl) rfl n hn))).mono ?_
  rintro e W' ⟨rfl, hb⟩
  exact ⟨_, rfl, post_true (tb := 4) rfl hp (by kernel_rfl) u4 laid rd23 row23 rfl rfl hW' hb⟩

theorem holds12 : Rows.AeadOpensSaid :=
  OpenClaim.holds_of_wide 12 Try.f12 rfl rfl rfl rfl rfl rfl rfl ⟨rfl, rfl, rfl, rfl, rfl⟩ rfl rfl rfl rfl rfl (by kernel_rfl) Try.func12 (by kernel_rfl)
    (of_decide_eq_true (by kernel_rfl)) (by unfold Func.isWrapper; first | (rw [if_pos (by decide +kernel)]; kernel_rfl) | (rw [if_neg (by decide +kernel)]; exact ⟨rfl, rfl⟩))
    (fun os started H enc _ => lifted12 os started H enc)

end Go.Proofs.Ytcllniellnhcoaa.Laws

namespace Go.Proofs.Ytcllniellnhcoaa
open Go
theorem aeadOpens_holds : Rows.AeadOpensSaid := Laws.holds12
end Go.Proofs.Ytcllniellnhcoaa

