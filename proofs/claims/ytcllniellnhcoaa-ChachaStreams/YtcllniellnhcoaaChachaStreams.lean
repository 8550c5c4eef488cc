/- The law ChachaStreams holds of every argument, without a condition -/
import Derived.Test.YtcllniellnhcoaaChaD
import Derived.JoinedOf
import Derived.SizedLaws
namespace Go.Ev
open Go Go.Proofs Go.RowKit

/-! streams: the law -/
noncomputable def LS (c : Cells) : List CT := [⟨25, fnStream⟩, ⟨26, fnStreamR⟩] ++ LB c
theorem LS_ok (c : Cells) : AllCT (LS c) := ⟨ct25, ct26, LB_ok c⟩
noncomputable def S7 : FuncId → Nat → Bool := fun f t => match f with | 7 => memN t [18, 21, 24, 27, 31, 36, 66, 71, 76, 89, 93, 104, 2000028, 2000032, 2000037] | 17 => memN t [47] | _ => false
noncomputable def E7 (c : Cells) : Env := mkE (LS c) S7
theorem envE7 (c : Cells) : EnvOK (E7 c) := envMk (LS_ok c) _
def T7 (len cap : Nat) (i : Int) : List AV := slots 108 [(0, sV' len cap), (2, bV false), (3, iV i)]
theorem wfT7 (c : Cells) (m len cap : Nat) (i : Int) : wfS (T7 len cap i) (MC c m) = true := wfC c m (by kernel_rfl)
theorem e_ok {k t s : ByteArray} (h : fitKN k t = true) (hs : decide (s.size ≤ 4096) = true) : (!decide (strmE k t s = 0)) = false := by unfold strmE; rw [h, hs]; rfl
theorem e_lim {k t s : ByteArray} (h : fitKN k t = true) (hs : decide (s.size ≤ 4096) = false) : (!decide (strmE k t s = 2)) = false := by unfold strmE; rw [h, hs]; rfl
theorem e_form {k t s : ByteArray} (h : fitKN k t = false) : (!decide (strmE k t s = 1)) = false := by unfold strmE; rw [h]; rfl
theorem b_ok {k t s : ByteArray} {n : Nat} (h : fitKN k t = true) (hs : decide (s.size ≤ 4096) = true) : (!((strmB k n t s).toList == (streamOf k n t s).toList)) = false := by unfold strmB; rw [h, hs, cond_true, cond_true]; simp
theorem b_lim {k t s : ByteArray} {n : Nat} (h : fitKN k t = true) (hs : decide (s.size ≤ 4096) = false) : (!((strmB k n t s).toList == (⟨#[]⟩ : ByteArray).toList)) = false := by unfold strmB; rw [h, hs, cond_true, cond_false]; simp
theorem b_form {k t s : ByteArray} {n : Nat} (h : fitKN k t = false) : (!((strmB k n t s).toList == (⟨#[]⟩ : ByteArray).toList)) = false := by unfold strmB; rw [h, cond_false]; simp
theorem s7y0 (c : Cells) (len cap i : Nat) : runTo (E7 c) 1000 ((E7 c).S 7) (bodyOf Try.prog 7 4) (T7 len cap (i : Int)) (MC c len) [true, true, true, true, true, false, false, true, true, true, false, false, true, true, true, false, false] (T7 len cap ((i : Int) + 1)) 1 =
    some ([decide ((i : Int) < (len : Int)) = true, decide ((i : Int) < 8) = true, (0 : Int) ≤ (i : Int) ∧ (i : Int) < (len : Int), LoadsAs Try.prog 38 (rowPs c shC len 0) (0 + i * 9) (.agg (fldPs c shC (0 + i * 9))), (0 : Int) ≤ (i : Int) ∧ (i : Int) < (len : Int), LoadsAs Try.prog 38 (rowPs c shC len 0) (0 + i * 9) (.agg (fldPs c shC (0 + i * 9))), (sA c (0 + i * 9)).size ≤ 1000000, (sA c (0 + i * 9 + 1)).size ≤ 1000000, (0 : Int) ≤ (i : Int) ∧ (i : Int) < (len : Int), LoadsAs Try.prog 38 (rowPs c shC len 0) (0 + i * 9) (.agg (fldPs c shC (0 + i * 9))), (sA c (0 + i * 9)).size ≤ 1000000, (sA c (0 + i * 9 + 1)).size ≤ 1000000, decide (((sA c (0 + i * 9)).size : Int) = 32) = true, decide (((sA c (0 + i * 9 + 1)).size : Int) = 12) = true, decide (((sA c (0 + i * 9 + 1 + 1 + 1)).size : Int) ≤ 4096) = true, fitKN (sA c (0 + i * 9)) (sA c (0 + i * 9 + 1)) = true, (sA c (0 + i * 9 + 1 + 1 + 1)).size ≤ 1000000, (!decide (strmE (sA c (0 + i * 9)) (sA c (0 + i * 9 + 1)) (sA c (0 + i * 9 + 1 + 1 + 1)) = 0)) = false, (!((strmB (sA c (0 + i * 9)) (nU c (0 + i * 9 + 1 + 1 + 1 + 1)) (sA c (0 + i * 9 + 1)) (sA c (0 + i * 9 + 1 + 1 + 1))).toList == (streamOf (sA c (0 + i * 9)) (nU c (0 + i * 9 + 1 + 1 + 1 + 1)) (sA c (0 + i * 9 + 1)) (sA c (0 + i * 9 + 1 + 1 + 1))).toList)) = false, decide (((kfit (sA c (0 + i * 9))).size : Int) = 32) = true, decide (((tfit (sA c (0 + i * 9 + 1))).size : Int) = 12) = true, decide (((sA c (0 + i * 9 + 1 + 1 + 1)).size : Int) ≤ 4096) = true, fitKN (kfit (sA c (0 + i * 9))) (tfit (sA c (0 + i * 9 + 1))) = true, (sA c (0 + i * 9 + 1 + 1 + 1)).size ≤ 1000000, (!decide (strmE (kfit (sA c (0 + i * 9))) (tfit (sA c (0 + i * 9 + 1))) (sA c (0 + i * 9 + 1 + 1 + 1)) = 0)) = false, (!((strmB (kfit (sA c (0 + i * 9))) (nU c (0 + i * 9 + 1 + 1 + 1 + 1)) (tfit (sA c (0 + i * 9 + 1))) (sA c (0 + i * 9 + 1 + 1 + 1))).toList == (streamOf (kfit (sA c (0 + i * 9))) (nU c (0 + i * 9 + 1 + 1 + 1 + 1)) (tfit (sA c (0 + i * 9 + 1))) (sA c (0 + i * 9 + 1 + 1 + 1))).toList)) = false, decide (((kfit (sA c (0 + i * 9))).size : Int) = 32) = true, decide (((tfit (sA c (0 + i * 9 + 1))).size : Int) = 12) = true, decide (((sA c (0 + i * 9 + 1 + 1 + 1)).size : Int) ≤ 4096) = true, fitKN (kfit (sA c (0 + i * 9))) (tfit (sA c (0 + i * 9 + 1))) = true, (sA c (0 + i * 9 + 1 + 1 + 1)).size ≤ 1000000, (!decide (strmE (kfit (sA c (0 + i * 9))) (tfit (sA c (0 + i * 9 + 1))) (sA c (0 + i * 9 + 1 + 1 + 1)) = 0)) = false, (!((strmB (kfit (sA c (0 + i * 9))) 4294967295 (tfit (sA c (0 + i * 9 + 1))) (sA c (0 + i * 9 + 1 + 1 + 1))).toList == (streamOf (kfit (sA c (0 + i * 9))) 4294967295 (tfit (sA c (0 + i * 9 + 1))) (sA c (0 + i * 9 + 1 + 1 + 1))).toList)) = false, inI ((i : Int) + 1)], .normal, T7 len cap ((i : Int) + 1), MC c len) := by kernel_rfl
theorem s7y1 (c : Cells) (len cap i : Nat) : runTo (E7 c) 1000 ((E7 c).S 7) (bodyOf Try.prog 7 4) (T7 len cap (i : Int)) (MC c len) [true, true, true, true, false, false, false, true, true, false, false, false, true, true, false, false, false] (T7 len cap ((i : Int) + 1)) 1 =
    some ([decide ((i : Int) < (len : Int)) = true, decide ((i : Int) < 8) = true, (0 : Int) ≤ (i : Int) ∧ (i : Int) < (len : Int), LoadsAs Try.prog 38 (rowPs c shC len 0) (0 + i * 9) (.agg (fldPs c shC (0 + i * 9))), (0 : Int) ≤ (i : Int) ∧ (i : Int) < (len : Int), LoadsAs Try.prog 38 (rowPs c shC len 0) (0 + i * 9) (.agg (fldPs c shC (0 + i * 9))), (sA c (0 + i * 9)).size ≤ 1000000, (sA c (0 + i * 9 + 1)).size ≤ 1000000, (0 : Int) ≤ (i : Int) ∧ (i : Int) < (len : Int), LoadsAs Try.prog 38 (rowPs c shC len 0) (0 + i * 9) (.agg (fldPs c shC (0 + i * 9))), (sA c (0 + i * 9)).size ≤ 1000000, (sA c (0 + i * 9 + 1)).size ≤ 1000000, decide (((sA c (0 + i * 9)).size : Int) = 32) = true, decide (((sA c (0 + i * 9 + 1)).size : Int) = 12) = true, decide (((sA c (0 + i * 9 + 1 + 1 + 1)).size : Int) ≤ 4096) = false, (!decide (strmE (sA c (0 + i * 9)) (sA c (0 + i * 9 + 1)) (sA c (0 + i * 9 + 1 + 1 + 1)) = 2)) = false, (!((strmB (sA c (0 + i * 9)) (nU c (0 + i * 9 + 1 + 1 + 1 + 1)) (sA c (0 + i * 9 + 1)) (sA c (0 + i * 9 + 1 + 1 + 1))).toList == (⟨#[]⟩ : ByteArray).toList)) = false, decide (((kfit (sA c (0 + i * 9))).size : Int) = 32) = true, decide (((tfit (sA c (0 + i * 9 + 1))).size : Int) = 12) = true, decide (((sA c (0 + i * 9 + 1 + 1 + 1)).size : Int) ≤ 4096) = false, (!decide (strmE (kfit (sA c (0 + i * 9))) (tfit (sA c (0 + i * 9 + 1))) (sA c (0 + i * 9 + 1 + 1 + 1)) = 2)) = false, (!((strmB (kfit (sA c (0 + i * 9))) (nU c (0 + i * 9 + 1 + 1 + 1 + 1)) (tfit (sA c (0 + i * 9 + 1))) (sA c (0 + i * 9 + 1 + 1 + 1))).toList == (⟨#[]⟩ : ByteArray).toList)) = false, decide (((kfit (sA c (0 + i * 9))).size : Int) = 32) = true, decide (((tfit (sA c (0 + i * 9 + 1))).size : Int) = 12) = true, decide (((sA c (0 + i * 9 + 1 + 1 + 1)).size : Int) ≤ 4096) = false, (!decide (strmE (kfit (sA c (0 + i * 9))) (tfit (sA c (0 + i * 9 + 1))) (sA c (0 + i * 9 + 1 + 1 + 1)) = 2)) = false, (!((strmB (kfit (sA c (0 + i * 9))) 4294967295 (tfit (sA c (0 + i * 9 + 1))) (sA c (0 + i * 9 + 1 + 1 + 1))).toList == (⟨#[]⟩ : ByteArray).toList)) = false, inI ((i : Int) + 1)], .normal, T7 len cap ((i : Int) + 1), MC c len) := by kernel_rfl
theorem s7b0 (c : Cells) (len cap i : Nat) : runTo (E7 c) 1000 ((E7 c).S 7) (bodyOf Try.prog 7 4) (T7 len cap (i : Int)) (MC c len) [true, true, true, false, false, false, true, true, true, false, false, true, true, true, false, false] (T7 len cap ((i : Int) + 1)) 1 =
    some ([decide ((i : Int) < (len : Int)) = true, decide ((i : Int) < 8) = true, (0 : Int) ≤ (i : Int) ∧ (i : Int) < (len : Int), LoadsAs Try.prog 38 (rowPs c shC len 0) (0 + i * 9) (.agg (fldPs c shC (0 + i * 9))), (0 : Int) ≤ (i : Int) ∧ (i : Int) < (len : Int), LoadsAs Try.prog 38 (rowPs c shC len 0) (0 + i * 9) (.agg (fldPs c shC (0 + i * 9))), (sA c (0 + i * 9)).size ≤ 1000000, (sA c (0 + i * 9 + 1)).size ≤ 1000000, (0 : Int) ≤ (i : Int) ∧ (i : Int) < (len : Int), LoadsAs Try.prog 38 (rowPs c shC len 0) (0 + i * 9) (.agg (fldPs c shC (0 + i * 9))), (sA c (0 + i * 9)).size ≤ 1000000, (sA c (0 + i * 9 + 1)).size ≤ 1000000, decide (((sA c (0 + i * 9)).size : Int) = 32) = true, decide (((sA c (0 + i * 9 + 1)).size : Int) = 12) = false, (!decide (strmE (sA c (0 + i * 9)) (sA c (0 + i * 9 + 1)) (sA c (0 + i * 9 + 1 + 1 + 1)) = 1)) = false, (!((strmB (sA c (0 + i * 9)) (nU c (0 + i * 9 + 1 + 1 + 1 + 1)) (sA c (0 + i * 9 + 1)) (sA c (0 + i * 9 + 1 + 1 + 1))).toList == (⟨#[]⟩ : ByteArray).toList)) = false, decide (((kfit (sA c (0 + i * 9))).size : Int) = 32) = true, decide (((tfit (sA c (0 + i * 9 + 1))).size : Int) = 12) = true, decide (((sA c (0 + i * 9 + 1 + 1 + 1)).size : Int) ≤ 4096) = true, fitKN (kfit (sA c (0 + i * 9))) (tfit (sA c (0 + i * 9 + 1))) = true, (sA c (0 + i * 9 + 1 + 1 + 1)).size ≤ 1000000, (!decide (strmE (kfit (sA c (0 + i * 9))) (tfit (sA c (0 + i * 9 + 1))) (sA c (0 + i * 9 + 1 + 1 + 1)) = 0)) = false, (!((strmB (kfit (sA c (0 + i * 9))) (nU c (0 + i * 9 + 1 + 1 + 1 + 1)) (tfit (sA c (0 + i * 9 + 1))) (sA c (0 + i * 9 + 1 + 1 + 1))).toList == (streamOf (kfit (sA c (0 + i * 9))) (nU c (0 + i * 9 + 1 + 1 + 1 + 1)) (tfit (sA c (0 + i * 9 + 1))) (sA c (0 + i * 9 + 1 + 1 + 1))).toList)) = false, decide (((kfit (sA c (0 + i * 9))).size : Int) = 32) = true, decide (((tfit (sA c (0 + i * 9 + 1))).size : Int) = 12) = true, decide (((sA c (0 + i * 9 + 1 + 1 + 1)).size : Int) ≤ 4096) = true, fitKN (kfit (sA c (0 + i * 9))) (tfit (sA c (0 + i * 9 + 1))) = true, (sA c (0 + i * 9 + 1 + 1 + 1)).size ≤ 1000000, (!decide (strmE (kfit (sA c (0 + i * 9))) (tfit (sA c (0 + i * 9 + 1))) (sA c (0 + i * 9 + 1 + 1 + 1)) = 0)) = false, (!((strmB (kfit (sA c (0 + i * 9))) 4294967295 (tfit (sA c (0 + i * 9 + 1))) (sA c (0 + i * 9 + 1 + 1 + 1))).toList == (streamOf (kfit (sA c (0 + i * 9))) 4294967295 (tfit (sA c (0 + i * 9 + 1))) (sA c (0 + i * 9 + 1 + 1 + 1))).toList)) = false, inI ((i : Int) + 1)], .normal, T7 len cap ((i : Int) + 1), MC c len) := by kernel_rfl
theorem s7b1 (c : Cells) (len cap i : Nat) : runTo (E7 c) 1000 ((E7 c).S 7) (bodyOf Try.prog 7 4) (T7 len cap (i : Int)) (MC c len) [true, true, true, false, false, false, true, true, false, false, false, true, true, false, false, false] (T7 len cap ((i : Int) + 1)) 1 =
    some ([decide ((i : Int) < (len : Int)) = true, decide ((i : Int) < 8) = true, (0 : Int) ≤ (i : Int) ∧ (i : Int) < (len : Int), LoadsAs Try.prog 38 (rowPs c shC len 0) (0 + i * 9) (.agg (fldPs c shC (0 + i * 9))), (0 : Int) ≤ (i : Int) ∧ (i : Int) < (len : Int), LoadsAs Try.prog 38 (rowPs c shC len 0) (0 + i * 9) (.agg (fldPs c shC (0 + i * 9))), (sA c (0 + i * 9)).size ≤ 1000000, (sA c (0 + i * 9 + 1)).size ≤ 1000000, (0 : Int) ≤ (i : Int) ∧ (i : Int) < (len : Int), LoadsAs Try.prog 38 (rowPs c shC len 0) (0 + i * 9) (.agg (fldPs c shC (0 + i * 9))), (sA c (0 + i * 9)).size ≤ 1000000, (sA c (0 + i * 9 + 1)).size ≤ 1000000, decide (((sA c (0 + i * 9)).size : Int) = 32) = true, decide (((sA c (0 + i * 9 + 1)).size : Int) = 12) = false, (!decide (strmE (sA c (0 + i * 9)) (sA c (0 + i * 9 + 1)) (sA c (0 + i * 9 + 1 + 1 + 1)) = 1)) = false, (!((strmB (sA c (0 + i * 9)) (nU c (0 + i * 9 + 1 + 1 + 1 + 1)) (sA c (0 + i * 9 + 1)) (sA c (0 + i * 9 + 1 + 1 + 1))).toList == (⟨#[]⟩ : ByteArray).toList)) = false, decide (((kfit (sA c (0 + i * 9))).size : Int) = 32) = true, decide (((tfit (sA c (0 + i * 9 + 1))).size : Int) = 12) = true, decide (((sA c (0 + i * 9 + 1 + 1 + 1)).size : Int) ≤ 4096) = false, (!decide (strmE (kfit (sA c (0 + i * 9))) (tfit (sA c (0 + i * 9 + 1))) (sA c (0 + i * 9 + 1 + 1 + 1)) = 2)) = false, (!((strmB (kfit (sA c (0 + i * 9))) (nU c (0 + i * 9 + 1 + 1 + 1 + 1)) (tfit (sA c (0 + i * 9 + 1))) (sA c (0 + i * 9 + 1 + 1 + 1))).toList == (⟨#[]⟩ : ByteArray).toList)) = false, decide (((kfit (sA c (0 + i * 9))).size : Int) = 32) = true, decide (((tfit (sA c (0 + i * 9 + 1))).size : Int) = 12) = true, decide (((sA c (0 + i * 9 + 1 + 1 + 1)).size : Int) ≤ 4096) = false, (!decide (strmE (kfit (sA c (0 + i * 9))) (tfit (sA c (0 + i * 9 + 1))) (sA c (0 + i * 9 + 1 + 1 + 1)) = 2)) = false, (!((strmB (kfit (sA c (0 + i * 9))) 4294967295 (tfit (sA c (0 + i * 9 + 1))) (sA c (0 + i * 9 + 1 + 1 + 1))).toList == (⟨#[]⟩ : ByteArray).toList)) = false, inI ((i : Int) + 1)], .normal, T7 len cap ((i : Int) + 1), MC c len) := by kernel_rfl
theorem s7n0 (c : Cells) (len cap i : Nat) : runTo (E7 c) 1000 ((E7 c).S 7) (bodyOf Try.prog 7 4) (T7 len cap (i : Int)) (MC c len) [true, true, false, false, false, true, true, true, false, false, true, true, true, false, false] (T7 len cap ((i : Int) + 1)) 1 =
    some ([decide ((i : Int) < (len : Int)) = true, decide ((i : Int) < 8) = true, (0 : Int) ≤ (i : Int) ∧ (i : Int) < (len : Int), LoadsAs Try.prog 38 (rowPs c shC len 0) (0 + i * 9) (.agg (fldPs c shC (0 + i * 9))), (0 : Int) ≤ (i : Int) ∧ (i : Int) < (len : Int), LoadsAs Try.prog 38 (rowPs c shC len 0) (0 + i * 9) (.agg (fldPs c shC (0 + i * 9))), (sA c (0 + i * 9)).size ≤ 1000000, (sA c (0 + i * 9 + 1)).size ≤ 1000000, (0 : Int) ≤ (i : Int) ∧ (i : Int) < (len : Int), LoadsAs Try.prog 38 (rowPs c shC len 0) (0 + i * 9) (.agg (fldPs c shC (0 + i * 9))), (sA c (0 + i * 9)).size ≤ 1000000, (sA c (0 + i * 9 + 1)).size ≤ 1000000, decide (((sA c (0 + i * 9)).size : Int) = 32) = false, (!decide (strmE (sA c (0 + i * 9)) (sA c (0 + i * 9 + 1)) (sA c (0 + i * 9 + 1 + 1 + 1)) = 1)) = false, (!((strmB (sA c (0 + i * 9)) (nU c (0 + i * 9 + 1 + 1 + 1 + 1)) (sA c (0 + i * 9 + 1)) (sA c (0 + i * 9 + 1 + 1 + 1))).toList == (⟨#[]⟩ : ByteArray).toList)) = false, decide (((kfit (sA c (0 + i * 9))).size : Int) = 32) = true, decide (((tfit (sA c (0 + i * 9 + 1))).size : Int) = 12) = true, decide (((sA c (0 + i * 9 + 1 + 1 + 1)).size : Int) ≤ 4096) = true, fitKN (kfit (sA c (0 + i * 9))) (tfit (sA c (0 + i * 9 + 1))) = true, (sA c (0 + i * 9 + 1 + 1 + 1)).size ≤ 1000000, (!decide (strmE (kfit (sA c (0 + i * 9))) (tfit (sA c (0 + i * 9 + 1))) (sA c (0 + i * 9 + 1 + 1 + 1)) = 0)) = false, (!((strmB (kfit (sA c (0 + i * 9))) (nU c (0 + i * 9 + 1 + 1 + 1 + 1)) (tfit (sA c (0 + i * 9 + 1))) (sA c (0 + i * 9 + 1 + 1 + 1))).toList == (streamOf (kfit (sA c (0 + i * 9))) (nU c (0 + i * 9 + 1 + 1 + 1 + 1)) (tfit (sA c (0 + i * 9 + 1))) (sA c (0 + i * 9 + 1 + 1 + 1))).toList)) = false, decide (((kfit (sA c (0 + i * 9))).size : Int) = 32) = true, decide (((tfit (sA c (0 + i * 9 + 1))).size : Int) = 12) = true, decide (((sA c (0 + i * 9 + 1 + 1 + 1)).size : Int) ≤ 4096) = true, fitKN (kfit (sA c (0 + i * 9))) (tfit (sA c (0 + i * 9 + 1))) = true, (sA c (0 + i * 9 + 1 + 1 + 1)).size ≤ 1000000, (!decide (strmE (kfit (sA c (0 + i * 9))) (tfit (sA c (0 + i * 9 + 1))) (sA c (0 + i * 9 + 1 + 1 + 1)) = 0)) = false, (!((strmB (kfit (sA c (0 + i * 9))) 4294967295 (tfit (sA c (0 + i * 9 + 1))) (sA c (0 + i * 9 + 1 + 1 + 1))).toList == (streamOf (kfit (sA c (0 + i * 9))) 4294967295 (tfit (sA c (0 + i * 9 + 1))) (sA c (0 + i * 9 + 1 + 1 + 1))).toList)) = false, inI ((i : Int) + 1)], .normal, T7 len cap ((i : Int) + 1), MC c len) := by kernel_rfl
theorem s7n1 (c : Cells) (len cap i : Nat) : runTo (E7 c) 1000 ((E7 c).S 7) (bodyOf Try.prog 7 4) (T7 len cap (i : Int)) (MC c len) [true, true, false, false, false, true, true, false, false, false, true, true, false, false, false] (T7 len cap ((i : Int) + 1)) 1 =
    some ([decide ((i : Int) < (len : Int)) = true, decide ((i : Int) < 8) = true, (0 : Int) ≤ (i : Int) ∧ (i : Int) < (len : Int), LoadsAs Try.prog 38 (rowPs c shC len 0) (0 + i * 9) (.agg (fldPs c shC (0 + i * 9))), (0 : Int) ≤ (i : Int) ∧ (i : Int) < (len : Int), LoadsAs Try.prog 38 (rowPs c shC len 0) (0 + i * 9) (.agg (fldPs c shC (0 + i * 9))), (sA c (0 + i * 9)).size ≤ 1000000, (sA c (0 + i * 9 + 1)).size ≤ 1000000, (0 : Int) ≤ (i : Int) ∧ (i : Int) < (len : Int), LoadsAs Try.prog 38 (rowPs c shC len 0) (0 + i * 9) (.agg (fldPs c shC (0 + i * 9))), (sA c (0 + i * 9)).size ≤ 1000000, (sA c (0 + i * 9 + 1)).size ≤ 1000000, decide (((sA c (0 + i * 9)).size : Int) = 32) = false, (!decide (strmE (sA c (0 + i * 9)) (sA c (0 + i * 9 + 1)) (sA c (0 + i * 9 + 1 + 1 + 1)) = 1)) = false, (!((strmB (sA c (0 + i * 9)) (nU c (0 + i * 9 + 1 + 1 + 1 + 1)) (sA c (0 + i * 9 + 1)) (sA c (0 + i * 9 + 1 + 1 + 1))).toList == (⟨#[]⟩ : ByteArray).toList)) = false, decide (((kfit (sA c (0 + i * 9))).size : Int) = 32) = true, decide (((tfit (sA c (0 + i * 9 + 1))).size : Int) = 12) = true, decide (((sA c (0 + i * 9 + 1 + 1 + 1)).size : Int) ≤ 4096) = false, (!decide (strmE (kfit (sA c (0 + i * 9))) (tfit (sA c (0 + i * 9 + 1))) (sA c (0 + i * 9 + 1 + 1 + 1)) = 2)) = false, (!((strmB (kfit (sA c (0 + i * 9))) (nU c (0 + i * 9 + 1 + 1 + 1 + 1)) (tfit (sA c (0 + i * 9 + 1))) (sA c (0 + i * 9 + 1 + 1 + 1))).toList == (⟨#[]⟩ : ByteArray).toList)) = false, decide (((kfit (sA c (0 + i * 9))).size : Int) = 32) = true, decide (((tfit (sA c (0 + i * 9 + 1))).size : Int) = 12) = true, decide (((sA c (0 + i * 9 + 1 + 1 + 1)).size : Int) ≤ 4096) = false, (!decide (strmE (kfit (sA c (0 + i * 9))) (tfit (sA c (0 + i * 9 + 1))) (sA c (0 + i * 9 + 1 + 1 + 1)) = 2)) = false, (!((strmB (kfit (sA c (0 + i * 9))) 4294967295 (tfit (sA c (0 + i * 9 + 1))) (sA c (0 + i * 9 + 1 + 1 + 1))).toList == (⟨#[]⟩ : ByteArray).toList)) = false, inI ((i : Int) + 1)], .normal, T7 len cap ((i : Int) + 1), MC c len) := by kernel_rfl
theorem l7s (c : Cells) {len cap i : Nat} (hi : i < len) (h8' : i < 8) (hk : (sA c (0 + i * 9)).size ≤ 1000000) (hn : (sA c (0 + i * 9 + 1)).size ≤ 1000000) (hx2 : (sA c (0 + i * 9 + 1 + 1 + 1)).size ≤ 1000000) : Goes Try.prog (bodyOf Try.prog 7 4) .normal (T7 len cap (i : Int)) (MC c len) (T7 len cap ((i : Int) + 1)) (MC c len) := by
  have hll : decide ((i : Int) < (len : Int)) = true := decide_eq_true (by omega)
  have h8 : decide ((i : Int) < 8) = true := decide_eq_true (by omega)
  have hii : (0 : Int) ≤ (i : Int) ∧ (i : Int) < (len : Int) := by omega
  have hI : inI ((i : Int) + 1) := by unfold inI; omega
  have h32 : decide (((kfit (sA c (0 + i * 9))).size : Int) = 32) = true := decide_eq_true (by rw [kfit_size]; rfl)
  have h12 : decide (((tfit (sA c (0 + i * 9 + 1))).size : Int) = 12) = true := decide_eq_true (by rw [tfit_size]; rfl)
  by_cases hs : (sA c (0 + i * 9 + 1 + 1 + 1)).size ≤ 4096
  · have hx1 : decide ((sA c (0 + i * 9 + 1 + 1 + 1)).size ≤ 4096) = true := decide_eq_true (by omega)
    have hx : decide (((sA c (0 + i * 9 + 1 + 1 + 1)).size : Int) ≤ 4096) = true := decide_eq_true (by omega)
    by_cases h1 : (sA c (0 + i * 9)).size = 32
    · have d1 : decide (((sA c (0 + i * 9)).size : Int) = 32) = true := decide_eq_true (by omega)
      by_cases h2 : (sA c (0 + i * 9 + 1)).size = 12
      · have d2 : decide (((sA c (0 + i * 9 + 1)).size : Int) = 12) = true := decide_eq_true (by omega)
        have hf : fitKN (sA c (0 + i * 9)) (sA c (0 + i * 9 + 1)) = true := by unfold fitKN; rw [h1, h2]; rfl
        exact Runs.goes (envE7 c) ⟨_, _, s7y0 c len cap i, ⟨hll, h8, hii, ld38 hi, hii, ld38 hi, hk, hn, hii, ld38 hi, hk, hn, d1, d2, hx, hf, hx2, e_ok hf hx1, b_ok hf hx1, h32, h12, hx, (fit_fit _ _), hx2, e_ok (fit_fit _ _) hx1, b_ok (fit_fit _ _) hx1, h32, h12, hx, (fit_fit _ _), hx2, e_ok (fit_fit _ _) hx1, b_ok (fit_fit _ _) hx1, hI, trivial⟩, wfT7 _ _ _ _ _⟩
      · have d2 : decide (((sA c (0 + i * 9 + 1)).size : Int) = 12) = false := decide_eq_false (by omega)
        have hf : fitKN (sA c (0 + i * 9)) (sA c (0 + i * 9 + 1)) = false := by unfold fitKN; rw [decide_eq_false h2, Bool.and_false]
        exact Runs.goes (envE7 c) ⟨_, _, s7b0 c len cap i, ⟨hll, h8, hii, ld38 hi, hii, ld38 hi, hk, hn, hii, ld38 hi, hk, hn, d1, d2, e_form hf, b_form hf, h32, h12, hx, (fit_fit _ _), hx2, e_ok (fit_fit _ _) hx1, b_ok (fit_fit _ _) hx1, h32, h12, hx, (fit_fit _ _), hx2, e_ok (fit_fit _ _) hx1, b_ok (fit_fit _ _) hx1, hI, trivial⟩, wfT7 _ _ _ _ _⟩
    · have d1 : decide (((sA c (0 + i * 9)).size : Int) = 32) = false := decide_eq_false (by omega)
      have hf : fitKN (sA c (0 + i * 9)) (sA c (0 + i * 9 + 1)) = false := by unfold fitKN; rw [decide_eq_false h1, Bool.false_and]
      exact Runs.goes (envE7 c) ⟨_, _, s7n0 c len cap i, ⟨hll, h8, hii, ld38 hi, hii, ld38 hi, hk, hn, hii, ld38 hi, hk, hn, d1, e_form hf, b_form hf, h32, h12, hx, (fit_fit _ _), hx2, e_ok (fit_fit _ _) hx1, b_ok (fit_fit _ _) hx1, h32, h12, hx, (fit_fit _ _), hx2, e_ok (fit_fit _ _) hx1, b_ok (fit_fit _ _) hx1, hI, trivial⟩, wfT7 _ _ _ _ _⟩
  · have hx1 : decide ((sA c (0 + i * 9 + 1 + 1 + 1)).size ≤ 4096) = false := decide_eq_false (by omega)
    have hx : decide (((sA c (0 + i * 9 + 1 + 1 + 1)).size : Int) ≤ 4096) = false := decide_eq_false (by omega)
    by_cases h1 : (sA c (0 + i * 9)).size = 32
    · have d1 : decide (((sA c (0 + i * 9)).size : Int) = 32) = true := decide_eq_true (by omega)
      by_cases h2 : (sA c (0 + i * 9 + 1)).size = 12
      · have d2 : decide (((sA c (0 + i * 9 + 1)).size : Int) = 12) = true := decide_eq_true (by omega)
        have hf : fitKN (sA c (0 + i * 9)) (sA c (0 + i * 9 + 1)) = true := by unfold fitKN; rw [h1, h2]; rfl
        exact Runs.goes (envE7 c) ⟨_, _, s7y1 c len cap i, ⟨hll, h8, hii, ld38 hi, hii, ld38 hi, hk, hn, hii, ld38 hi, hk, hn, d1, d2, hx, e_lim hf hx1, b_lim hf hx1, h32, h12, hx, e_lim (fit_fit _ _) hx1, b_lim (fit_fit _ _) hx1, h32, h12, hx, e_lim (fit_fit _ _) hx1, b_lim (fit_fit _ _) hx1, hI, trivial⟩, wfT7 _ _ _ _ _⟩
      · have d2 : decide (((sA c (0 + i * 9 + 1)).size : Int) = 12) = false := decide_eq_false (by omega)
        have hf : fitKN (sA c (0 + i * 9)) (sA c (0 + i * 9 + 1)) = false := by unfold fitKN; rw [decide_eq_false h2, Bool.and_false]
        exact Runs.goes (envE7 c) ⟨_, _, s7b1 c len cap i, ⟨hll, h8, hii, ld38 hi, hii, ld38 hi, hk, hn, hii, ld38 hi, hk, hn, d1, d2, e_form hf, b_form hf, h32, h12, hx, e_lim (fit_fit _ _) hx1, b_lim (fit_fit _ _) hx1, h32, h12, hx, e_lim (fit_fit _ _) hx1, b_lim (fit_fit _ _) hx1, hI, trivial⟩, wfT7 _ _ _ _ _⟩
    · have d1 : decide (((sA c (0 + i * 9)).size : Int) = 32) = false := decide_eq_false (by omega)
      have hf : fitKN (sA c (0 + i * 9)) (sA c (0 + i * 9 + 1)) = false := by unfold fitKN; rw [decide_eq_false h1, Bool.false_and]
      exact Runs.goes (envE7 c) ⟨_, _, s7n1 c len cap i, ⟨hll, h8, hii, ld38 hi, hii, ld38 hi, hk, hn, hii, ld38 hi, hk, hn, d1, e_form hf, b_form hf, h32, h12, hx, e_lim (fit_fit _ _) hx1, b_lim (fit_fit _ _) hx1, h32, h12, hx, e_lim (fit_fit _ _) hx1, b_lim (fit_fit _ _) hx1, hI, trivial⟩, wfT7 _ _ _ _ _⟩
theorem s7o (c : Cells) (len : Nat) (cap : Nat) (i : Nat) : runTo (E7 c) 1000 (Env.S (E7 c) 7) (bodyOf Try.prog 7 4) (T7 len cap (↑i : Int)) (MC c len) [false] (T7 len cap (↑i : Int)) 1 =
    some ([decide ((↑i : Int) < (↑len : Int)) = false], .exit 0, T7 len cap (i : Int), MC c len) := by kernel_rfl
theorem s7p (c : Cells) (len : Nat) (cap : Nat) (i : Nat) : runTo (E7 c) 1000 (Env.S (E7 c) 7) (bodyOf Try.prog 7 4) (T7 len cap (↑i : Int)) (MC c len) [true, false] (T7 len cap (↑i : Int)) 1 =
    some ([decide ((↑i : Int) < (↑len : Int)) = true, decide ((↑i : Int) < (8 : Int)) = false], .exit 0, T7 len cap (i : Int), MC c len) := by kernel_rfl
theorem l7loop (c : Cells) (len cap : Nat) (hs : ∀ j, j < len → (sA c (0 + j * 9 + 0)).size ≤ 9000 ∧ (sA c (0 + j * 9 + 1)).size ≤ 9000 ∧ (sA c (0 + j * 9 + 3)).size ≤ 9000) : Goes Try.prog (.loop (bodyOf Try.prog 7 4)) (.exit 0) (T7 len cap ((0 : Nat) : Int)) (MC c len) (T7 len cap ((min len 8 : Nat) : Int)) (MC c len) := by
  refine loop_goes (N := min len 8) (k := 1) (T := fun i => T7 len cap (i : Int)) (M := fun _ => MC c len) (by simp) (fun _ _ => rfl) (fun i hi => ?_) ?_
  · obtain ⟨h1, h2, h3⟩ := hs i (by omega)
    have h1' : (sA c (0 + i * 9)).size ≤ 9000 := h1
    have h3' : (sA c (0 + i * 9 + 1 + 1 + 1)).size ≤ 9000 := h3
    exact l7s c (by omega) (by omega) (by omega) (by omega) (by omega)
  · by_cases h : len ≤ 8
    · rw [show min len 8 = len by omega]
      exact Runs.goes (envE7 c) ⟨_, _, s7o c len cap len, ⟨decide_eq_false (by omega), trivial⟩, wfT7 _ _ _ _ _⟩
    · rw [show min len 8 = 8 by omega]
      exact Runs.goes (envE7 c) ⟨_, _, s7p c len cap 8, ⟨decide_eq_true (by omega), decide_eq_false (by omega), trivial⟩, wfT7 _ _ _ _ _⟩
end Go.Ev

namespace Go.Ev
open Go Go.Proofs Go.RowKit

/-! noughts, as many as are wanted -/
noncomputable def E27 : Env := { E0 with S := fun f t => match f with | 27 => memN t [2000004, 2000005] | _ => false }
theorem envE27 : EnvOK E27 := ⟨mixed, envE0.fns, envE0.fms, envE0.lps, envE0.fbs⟩
theorem run27n (n : Nat) : callR E27 1000 27 [.one (.i (n : Int))] [] = some ([(0 : Int) ≤ (n : Int) ∧ (n : Int) = (n : Int) ∧ (n : Int) ≤ 140737488355328, 0 = 0 ∧ n = (List.replicate n 0).length], .val (strV (strOf (List.replicate n 0)))) := by kernel_rfl
theorem strOf_zs (n : Nat) : strOf (List.replicate n 0) = zs n := by
  unfold strOf zs
  rw [List.map_replicate]; rfl
def fn27n (vs : List V1) : Option (List Prop × AV) :=
  match vs with
  | [.one (.i (.ofNat n))] => some ([n ≤ 1000000], .val (zV n))
  | _ => none
theorem ct27n : CTok ⟨27, fn27n⟩ := by
  intro vs ob r h ho
  simp only [fn27n] at h
  split at h
  · rename_i n
    simp only [Option.some.injEq, Prod.mk.injEq] at h
    obtain ⟨rfl, rfl⟩ := h
    have h1 := ho.1
    unfold zV
    rw [← strOf_zs]
    exact spec_run envE27 rfl (run27n n) ⟨by omega, ⟨rfl, by simp⟩, trivial⟩ rfl rfl
  · simp at h
end Go.Ev

namespace Go.Ev
open Go Go.Proofs Go.RowKit

noncomputable def E7n (c : Cells) : Env := mkE (⟨27, fn27n⟩ :: LS c) S7
theorem envE7n (c : Cells) : EnvOK (E7n c) := envMk (show AllCT (⟨27, fn27n⟩ :: LS c) from ⟨ct27n, LS_ok c⟩) _
theorem lim7 : decide (strmE (zs 32) (zs 12) (zs 4097) = (2 : Int)) = true := by
  have : strmE (zs 32) (zs 12) (zs 4097) = 2 := by unfold strmE fitKN; rw [zs_size, zs_size, zs_size]; rfl
  rw [this]; rfl
end Go.Ev

namespace Go.Ev
open Go Go.Proofs Go.RowKit

noncomputable def EH7 (c : Cells) (len cap : Nat) : Env := addL (E7n c) 3 (bodyOf Try.prog 17 3) (sumH c len cap)
theorem envEH7 (c : Cells) (len cap : Nat) (hB : ∀ j, j < len * 9 → (sA c j).size ≤ BB) (hl : len ≤ maxLen) : EnvOK (EH7 c len cap) := envAddL (envE7n c) (sumH_ok c len cap hB hl)
noncomputable def EE7 (c : Cells) (len cap : Nat) : Env := addL (EH7 c len cap) 4 (bodyOf Try.prog 7 4) (sumC (T7 len cap ((0 : Nat) : Int)) (MC c len) (T7 len cap ((min len 8 : Nat) : Int)) (MC c len) (.exit 0))
theorem envEE7 (c : Cells) (len cap : Nat) (hB : ∀ j, j < len * 9 → (sA c j).size ≤ BB) (hl : len ≤ maxLen) (hs : ∀ j, j < len → (sA c (0 + j * 9 + 0)).size ≤ 9000 ∧ (sA c (0 + j * 9 + 1)).size ≤ 9000 ∧ (sA c (0 + j * 9 + 3)).size ≤ 9000) : EnvOK (EE7 c len cap) := envAddL (envEH7 c len cap hB hl) (sumC_ok rfl (l7loop c len cap hs))
theorem l7hv (c : Cells) (len : Nat) (cap : Nat) : dropM (callBy (EH7 c len cap) (evalC (EH7 c len cap) 1000) 7 [V1.one (Atom.sl 0 0 len cap)] [rowB c shC len 38] [true]) =
    some ([bodyOf Try.prog 17 3 = bodyOf Try.prog 17 3, (TH len cap (len : Int) ((0 : Nat) : Int), MC c len) = (TH len cap (len : Int) ((0 : Nat) : Int), MC c len), wfS (TH len cap (len : Int) ((0 : Nat) : Int)) (MC c len) = true, decide ((9000 : Int) < hv c len 0 (len : Int)) = true], bV true) := by kernel_rfl
theorem l7ok (c : Cells) (len : Nat) (cap : Nat) : dropM (callBy (EE7 c len cap) (evalC (EE7 c len cap) 1000) 7 [V1.one (Atom.sl 0 0 len cap)] [rowB c shC len 38] [false, true]) =
    some ([bodyOf Try.prog 17 3 = bodyOf Try.prog 17 3, (TH len cap (len : Int) ((0 : Nat) : Int), MC c len) = (TH len cap (len : Int) ((0 : Nat) : Int), MC c len), wfS (TH len cap (len : Int) ((0 : Nat) : Int)) (MC c len) = true, decide ((9000 : Int) < hv c len 0 (len : Int)) = false, bodyOf Try.prog 7 4 = bodyOf Try.prog 7 4, (T7 len cap ((0 : Nat) : Int), MC c len) = (T7 len cap ((0 : Nat) : Int), MC c len), wfS (T7 len cap ((0 : Nat) : Int)) (MC c len) = true, 32 ≤ 1000000, 12 ≤ 1000000, 4097 ≤ 1000000, decide (strmE (zs 32) (zs 12) (zs 4097) = (2 : Int)) = true], bV true) := by kernel_rfl
theorem l7nil (c : Cells) : dropM (callBy (E7n c) (evalC (E7n c) 1000) 7 [V1.one (Atom.v (Value.slice none 0 0))] [] [false, false, true]) =
    some ([decide ((9000 : Int) < ((0 : Nat) : Int)) = false, decide ((0 : Int) < ((0 : Nat) : Int)) = false, 32 ≤ 1000000, 12 ≤ 1000000, 4097 ≤ 1000000, decide (strmE (zs 32) (zs 12) (zs 4097) = (2 : Int)) = true], bV true) := by kernel_rfl
theorem l7nilc (w : World) : Calls Try.prog 7 #[.slice none 0 0] w (Trues w) :=
  law_nilD (envE7n c0) (l7nil c0) ⟨by decide, by decide, by omega, by omega, by omega, lim7, trivial⟩ w
set_option maxRecDepth 100000 in
theorem law7 {H : Type} {enc : TypeId × Value → H} {r : Reach} {W : World} {base : Nat} {v : Value} {d : DataW H} {ps : List MemPlace} (hval : Value.okWide Try.prog W r base 23 v) (h : DataW.Trod enc Try.prog W 0 (fun _ => true) true 23 v d ps) (hwt : ∀ n ∈ d.weights Try.prog 23, n ≤ BB) :
    Calls Try.prog 7 #[v] W (Trues W) := by
  refine rows_calls_sized shC (B := BB) (Q := Trues) u23 k38 s38 l7nilc ?_ hval h hwt
  intro c len cap hlc hcap ho hB w φ hmr
  have hl : len ≤ maxLen := by omega
  have hB' : ∀ j, j < len * 9 → (sA c j).size ≤ BB := hB
  by_cases hh : 9000 < hv c len 0 (len : Int)
  · exact law_runD (envEH7 c len cap hB' hl) (l7hv c len cap) ⟨rfl, rfl, wfTH _ _ _ _ _ _, decide_eq_true hh, trivial⟩ hmr
  · have hs := (hv_small c len 0 (len : Int) (by omega) (by omega)).2
    refine law_runD (envEE7 c len cap hB' hl ?_) (l7ok c len cap) ⟨rfl, rfl, wfTH _ _ _ _ _ _, decide_eq_false hh, rfl, rfl, wfT7 _ _ _ _ _, by omega, by omega, by omega, lim7, trivial⟩ hmr
    intro j hj
    obtain ⟨h1, h2, h3, h4⟩ := hs j (Nat.zero_le _) (by omega)
    exact ⟨h1, h2, h4⟩
end Go.Ev

namespace Go.Proofs.Ytcllniellnhcoaa.Laws
open Go Go.Ev Go.RowKit Go.ChangeShapes Go.WideShapes Go.ChangeAt

set_option maxRecDepth 100000 in
theorem lifted7 (os : Os) (started : os.Started) (H : Type) (enc : TypeId × Value → H) :
    ReturnsInHanded {} Try.checked os 7 .any (Rows.chachaStreamsSpec.pre6 enc Try.prog Try.f7 Rows.chachaStreamsRow.domain false) (Rows.chachaStreamsSpec.post enc Try.prog Try.f7 false true false false) := by
  refine returnsInHanded_of_change_sized (C := Try.checked) own started (by kernel_rfl) Try.func7
    (ChangeSpec.witness6 (enc := enc) (C := Try.checked) false ⟨#[], #[.slice none 0 0], []⟩ 8 (by kernel_rfl) (by kernel_rfl) (by kernel_rfl) (by kernel_rfl)) ?_
  intro W base args ds gs before hval0 hW _ hsz0 _
  have hsz : (DataW.weightsEach Try.prog (Try.f7.params.toList ++ Rows.chachaStreamsSpec.plain.varTypes Try.prog) (ds ++ gs)).all (· ≤ reachBytes) = true := hsz0
  clear hsz0
  have hval : ∀ (j : Nat) t v, Try.f7.params[j]? = some t → args[j]? = some v → Value.okWide Try.prog W .any base t v := hval0
  have hW' := hW
  obtain ⟨p, q, hA0, hV, hbef, hfz, hnd⟩ := hW
  have hp : Try.f7.params = #[23] := by kernel_rfl
  have hA : DataW.TrodAll enc Try.prog W 0 (fun _ => true) true Try.f7.params.toList args.toList ds p := hA0
  rw [hp] at hA hval
  obtain ⟨v0, d0, rfl, rfl, h0⟩ := trodAll_one hA
  obtain ⟨rfl, rfl⟩ := trodVars_none hV
  refine (law7 (hval 0 23 v0 rfl rfl) h0 (fun n hn => by simpa using List.all_eq_true.1 hsz n (DataW.weights_mem_each (j := 0) (t := 23) (by rw [hp]; rfl) rfl n hn))).mono ?_
  rintro e W' ⟨rfl, hb⟩
  exact ⟨_, rfl, post_true (tb := 4) rfl hp (by kernel_rfl) u4 laid rd23 row23 rfl rfl hW' hb⟩

theorem holds7 : Rows.ChachaStreamsSaid :=
  OpenClaim.holds_of_wide 7 Try.f7 rfl rfl rfl rfl rfl rfl rfl ⟨rfl, rfl, rfl, rfl, rfl⟩ rfl rfl rfl rfl rfl (by kernel_rfl) Try.func7 (by kernel_rfl)
    (of_decide_eq_true (by kernel_rfl)) (by unfold Func.isWrapper; first | (rw [if_pos (by decide +kernel)]; kernel_rfl) | (rw [if_neg (by decide +kernel)]; exact ⟨rfl, rfl⟩))
    (fun os started H enc _ => lifted7 os started H enc)

end Go.Proofs.Ytcllniellnhcoaa.Laws

namespace Go.Proofs.Ytcllniellnhcoaa
open Go
theorem chachaStreams_holds : Rows.ChachaStreamsSaid := Laws.holds7
end Go.Proofs.Ytcllniellnhcoaa

