/- Ed25519: what the program and the page come to, and the law; The points of the curve are a group -/
import Derived.Test.YtgdaenfdialhoaaPartQ
import Derived.Test.YtgdaenfdialhoaaPartP
import Derived.Test.YtgdaenfdialhoaaPartM
namespace Go.Ev.H5
open Go Go.Proofs Go.RowKit
theorem r9y (s : ByteArray) : callR E11 1000 47 [sS s] [false] =
    some ([(!decide ((↑(ByteArray.size s) : Int) = (32 : Int))) = false, ByteArray.size s ≤ 100000000000000], .tup [N8 (exK s), sS (exR s), .one (.i 0)]) := by kernel_rfl
theorem r9n (s : ByteArray) : callR E11 1000 47 [sS s] [true] =
    some ([(!decide ((↑(ByteArray.size s) : Int) = (32 : Int))) = true], AV.tup [V1.agg [Piece.a (Atom.u IntKind.u32 0), Piece.a (Atom.u IntKind.u32 0), Piece.a (Atom.u IntKind.u32 0), Piece.a (Atom.u IntKind.u32 0), Piece.a (Atom.u IntKind.u32 0), Piece.a (Atom.u IntKind.u32 0), Piece.a (Atom.u IntKind.u32 0), Piece.a (Atom.u IntKind.u32 0)], V1.one (Atom.v (Value.string (ByteArray.mk (Array.mk [])))), V1.one (Atom.i (Int.ofNat 1))]) := by kernel_rfl
theorem r10y (s : ByteArray) : callR E11 1000 51 [sS s] [false] =
    some ([(!decide ((↑(ByteArray.size s) : Int) = (32 : Int))) = false, ByteArray.size s ≤ 100000000000000, exK s < 4294967296 ^ 8], .tup [sS (pubB (exK s)), .one (.i 0)]) := by kernel_rfl
theorem r10n (s : ByteArray) : callR E11 1000 51 [sS s] [true] =
    some ([(!decide ((↑(ByteArray.size s) : Int) = (32 : Int))) = true], .tup [sS e0, .one (.i 1)]) := by kernel_rfl
theorem r11y (s : ByteArray) (m : ByteArray) : callR E11 1000 52 [sS s, sS m] [false, false] =
    some ([(!decide ((↑(ByteArray.size s) : Int) = (32 : Int))) = false, decide ((4096 : Int) < (↑(ByteArray.size m) : Int)) = false, ByteArray.size s ≤ 100000000000000, ByteArray.size (exR s) + ByteArray.size m ≤ 9223372036854775807, ByteArray.size (exR s ++ m) ≤ 100000000000000, scN (exR s ++ m) < 4294967296 ^ 8, exK s < 4294967296 ^ 8, ByteArray.size (pubB (scN (exR s ++ m))) + ByteArray.size (pubB (exK s)) ≤ 9223372036854775807, ByteArray.size (pubB (scN (exR s ++ m)) ++ pubB (exK s)) + ByteArray.size m ≤ 9223372036854775807, ByteArray.size (pubB (scN (exR s ++ m)) ++ pubB (exK s) ++ m) ≤ 100000000000000, exK s < 4294967296 ^ 8, (2 : Int) = (2 : Int), joinN (exK s) 0 < 4294967296 ^ 16, (2 : Int) = (2 : Int), scN (pubB (scN (exR s ++ m)) ++ pubB (exK s) ++ m) < modN 2, remN (joinN (exK s) 0) (modN 2) < modN 2, scN (pubB (scN (exR s ++ m)) ++ pubB (exK s) ++ m) < 4294967296 ^ 8, remN (joinN (exK s) 0) (modN 2) < 4294967296 ^ 8, (2 : Int) = (2 : Int), scN (exR s ++ m) < modN 2, mulM (modN 2) (scN (pubB (scN (exR s ++ m)) ++ pubB (exK s) ++ m)) (remN (joinN (exK s) 0) (modN 2)) < modN 2, scN (exR s ++ m) < 4294967296 ^ 8, mulM (modN 2) (scN (pubB (scN (exR s ++ m)) ++ pubB (exK s) ++ m)) (remN (joinN (exK s) 0) (modN 2)) < 4294967296 ^ 8, addM (modN 2) (scN (exR s ++ m)) (mulM (modN 2) (scN (pubB (scN (exR s ++ m)) ++ pubB (exK s) ++ m)) (remN (joinN (exK s) 0) (modN 2))) < 4294967296 ^ 8, ByteArray.size (pubB (scN (exR s ++ m))) + ByteArray.size (strOf (leB 32 (addM (modN 2) (scN (exR s ++ m)) (mulM (modN 2) (scN (pubB (scN (exR s ++ m)) ++ pubB (exK s) ++ m)) (remN (joinN (exK s) 0) (modN 2)))))) ≤ 9223372036854775807], .tup [sS (signB s m), .one (.i 0)]) := by kernel_rfl
theorem r11n (s : ByteArray) (m : ByteArray) : callR E11 1000 52 [sS s, sS m] [true] =
    some ([(!decide ((↑(ByteArray.size s) : Int) = (32 : Int))) = true], .tup [sS e0, .one (.i 1)]) := by kernel_rfl
theorem r11l (s : ByteArray) (m : ByteArray) : callR E11 1000 52 [sS s, sS m] [false, true] =
    some ([(!decide ((↑(ByteArray.size s) : Int) = (32 : Int))) = false, decide ((4096 : Int) < (↑(ByteArray.size m) : Int)) = true], .tup [sS e0, .one (.i 2)]) := by kernel_rfl
theorem scN_lt (s : ByteArray) : scN s < modN 2 := remN_lt (modN_pos 2)
theorem exK_lt (s : ByteArray) : exK s < 4294967296 ^ 8 := expN_lt _
theorem packB_size (x y : Nat) : (packB x y).size = 32 := by unfold packB; rw [strOf_size, leB_length]
theorem exR_size (s : ByteArray) : (exR s).size = 32 := hiS_size (sum5_size s)
theorem is32 {s : ByteArray} (h : s.size = 32) : (!decide ((s.size : Int) = 32)) = false := by rw [decide_eq_true (by omega)]; rfl
theorem no32 {s : ByteArray} (h : s.size ≠ 32) : (!decide ((s.size : Int) = 32)) = true := by rw [decide_eq_false (by omega)]; rfl
noncomputable def expE (s : ByteArray) : Int := bif decide (s.size = 32) then 0 else 1
noncomputable def expKz (s : ByteArray) : Nat := bif decide (s.size = 32) then exK s else 0
noncomputable def expRz (s : ByteArray) : ByteArray := bif decide (s.size = 32) then exR s else e0
noncomputable def pubZ (s : ByteArray) : ByteArray := bif decide (s.size = 32) then pubB (exK s) else e0
noncomputable def sigE (s m : ByteArray) : Int := bif decide (s.size = 32) then (bif decide (m.size ≤ 4096) then 0 else 2) else 1
noncomputable def sigZ (s m : ByteArray) : ByteArray := bif decide (s.size = 32) then (bif decide (m.size ≤ 4096) then signB s m else e0) else e0
theorem spec9 (s : ByteArray) : Spec 47 [sS s] (.tup [N8 (expKz s), sS (expRz s), .one (.i (expE s))]) := by
  unfold expKz expRz expE
  by_cases h : s.size = 32
  · rw [decide_eq_true h]
    rw [cond_true, cond_true, cond_true]
    have hs : s.size ≤ 100000000000000 := by omega
    have h32 := is32 h
    have hk := exK_lt s
    exact spec_run envE11 rfl (r9y s) ⟨h32, (by first | with_reducible assumption | with_reducible exact scN_lt _ | with_reducible exact L8 (scN_lt _) | with_reducible exact mlN_lt _ | with_reducible exact L8 (mlN_lt _) | with_reducible exact mulM_lt (modN_pos 2) | with_reducible exact L8 (mulM_lt (modN_pos 2)) | with_reducible exact L8 (addM_lt (modN_pos 2)) | with_reducible exact rem2_lt _ | with_reducible exact L8 (rem2_lt _) | with_reducible exact exK_lt _ | with_reducible exact joinN_lt0 (exK_lt _) | with_reducible exact onE_base | with_reducible exact nm_on onE_base | with_reducible exact (nm_lt _).1 | with_reducible exact (nm_lt _).2 | with_reducible exact sum5_size _ | with_reducible exact lit0 | (simp only [ByteArray.size_append, pubB_size, packB_size, exR_size, strOf_size, leB_length]; omega) | exact decide_eq_true (by omega) | exact decide_eq_false (by omega) | omega), trivial⟩ rfl rfl
  · rw [decide_eq_false h]
    rw [cond_false, cond_false, cond_false]
    have hn32 := no32 h
    exact (spec_run envE11 rfl (r9n s) ⟨hn32, trivial⟩ rfl rfl).congr (fun _ => rfl) (fun _ => rfl)
theorem spec10 (s : ByteArray) : Spec 51 [sS s] (.tup [sS (pubZ s), .one (.i (expE s))]) := by
  unfold pubZ expE
  by_cases h : s.size = 32
  · rw [decide_eq_true h]
    rw [cond_true, cond_true]
    have hs : s.size ≤ 100000000000000 := by omega
    have h32 := is32 h
    have hk := exK_lt s
    exact spec_run envE11 rfl (r10y s) ⟨h32, (by first | with_reducible assumption | with_reducible exact scN_lt _ | with_reducible exact L8 (scN_lt _) | with_reducible exact mlN_lt _ | with_reducible exact L8 (mlN_lt _) | with_reducible exact mulM_lt (modN_pos 2) | with_reducible exact L8 (mulM_lt (modN_pos 2)) | with_reducible exact L8 (addM_lt (modN_pos 2)) | with_reducible exact rem2_lt _ | with_reducible exact L8 (rem2_lt _) | with_reducible exact exK_lt _ | with_reducible exact joinN_lt0 (exK_lt _) | with_reducible exact onE_base | with_reducible exact nm_on onE_base | with_reducible exact (nm_lt _).1 | with_reducible exact (nm_lt _).2 | with_reducible exact sum5_size _ | with_reducible exact lit0 | (simp only [ByteArray.size_append, pubB_size, packB_size, exR_size, strOf_size, leB_length]; omega) | exact decide_eq_true (by omega) | exact decide_eq_false (by omega) | omega), (by first | with_reducible assumption | with_reducible exact scN_lt _ | with_reducible exact L8 (scN_lt _) | with_reducible exact mlN_lt _ | with_reducible exact L8 (mlN_lt _) | with_reducible exact mulM_lt (modN_pos 2) | with_reducible exact L8 (mulM_lt (modN_pos 2)) | with_reducible exact L8 (addM_lt (modN_pos 2)) | with_reducible exact rem2_lt _ | with_reducible exact L8 (rem2_lt _) | with_reducible exact exK_lt _ | with_reducible exact joinN_lt0 (exK_lt _) | with_reducible exact onE_base | with_reducible exact nm_on onE_base | with_reducible exact (nm_lt _).1 | with_reducible exact (nm_lt _).2 | with_reducible exact sum5_size _ | with_reducible exact lit0 | (simp only [ByteArray.size_append, pubB_size, packB_size, exR_size, strOf_size, leB_length]; omega) | exact decide_eq_true (by omega) | exact decide_eq_false (by omega) | omega), trivial⟩ rfl rfl
  · rw [decide_eq_false h]
    rw [cond_false, cond_false]
    have hn32 := no32 h
    exact spec_run envE11 rfl (r10n s) ⟨hn32, trivial⟩ rfl rfl
theorem spec11 (s m : ByteArray) : Spec 52 [sS s, sS m] (.tup [sS (sigZ s m), .one (.i (sigE s m))]) := by
  unfold sigZ sigE
  by_cases h : s.size = 32
  · rw [decide_eq_true h]
    rw [cond_true, cond_true]
    have hs : s.size ≤ 100000000000000 := by omega
    have h32 := is32 h
    have hk := exK_lt s
    by_cases h' : m.size ≤ 4096
    · rw [decide_eq_true h']
      rw [cond_true, cond_true]
      have hm : decide ((4096 : Int) < (m.size : Int)) = false := decide_eq_false (by omega)
      exact spec_run envE11 rfl (r11y s m) ⟨h32, hm, (by first | with_reducible assumption | with_reducible exact scN_lt _ | with_reducible exact L8 (scN_lt _) | with_reducible exact mlN_lt _ | with_reducible exact L8 (mlN_lt _) | with_reducible exact mulM_lt (modN_pos 2) | with_reducible exact L8 (mulM_lt (modN_pos 2)) | with_reducible exact L8 (addM_lt (modN_pos 2)) | with_reducible exact rem2_lt _ | with_reducible exact L8 (rem2_lt _) | with_reducible exact exK_lt _ | with_reducible exact joinN_lt0 (exK_lt _) | with_reducible exact onE_base | with_reducible exact nm_on onE_base | with_reducible exact (nm_lt _).1 | with_reducible exact (nm_lt _).2 | with_reducible exact sum5_size _ | with_reducible exact lit0 | (simp only [ByteArray.size_append, pubB_size, packB_size, exR_size, strOf_size, leB_length]; omega) | exact decide_eq_true (by omega) | exact decide_eq_false (by omega) | omega), (by first | with_reducible assumption | with_reducible exact scN_lt _ | with_reducible exact L8 (scN_lt _) | with_reducible exact mlN_lt _ | with_reducible exact L8 (mlN_lt _) | with_reducible exact mulM_lt (modN_pos 2) | with_reducible exact L8 (mulM_lt (modN_pos 2)) | with_reducible exact L8 (addM_lt (modN_pos 2)) | with_reducible exact rem2_lt _ | with_reducible exact L8 (rem2_lt _) | with_reducible exact exK_lt _ | with_reducible exact joinN_lt0 (exK_lt _) | with_reducible exact onE_base | with_reducible exact nm_on onE_base | with_reducible exact (nm_lt _).1 | with_reducible exact (nm_lt _).2 | with_reducible exact sum5_size _ | with_reducible exact lit0 | (simp only [ByteArray.size_append, pubB_size, packB_size, exR_size, strOf_size, leB_length]; omega) | exact decide_eq_true (by omega) | exact decide_eq_false (by omega) | omega), (by first | with_reducible assumption | with_reducible exact scN_lt _ | with_reducible exact L8 (scN_lt _) | with_reducible exact mlN_lt _ | with_reducible exact L8 (mlN_lt _) | with_reducible exact mulM_lt (modN_pos 2) | with_reducible exact L8 (mulM_lt (modN_pos 2)) | with_reducible exact L8 (addM_lt (modN_pos 2)) | with_reducible exact rem2_lt _ | with_reducible exact L8 (rem2_lt _) | with_reducible exact exK_lt _ | with_reducible exact joinN_lt0 (exK_lt _) | with_reducible exact onE_base | with_reducible exact nm_on onE_base | with_reducible exact (nm_lt _).1 | with_reducible exact (nm_lt _).2 | with_reducible exact sum5_size _ | with_reducible exact lit0 | (simp only [ByteArray.size_append, pubB_size, packB_size, exR_size, strOf_size, leB_length]; omega) | exact decide_eq_true (by omega) | exact decide_eq_false (by omega) | omega), (by first | with_reducible assumption | with_reducible exact scN_lt _ | with_reducible exact L8 (scN_lt _) | with_reducible exact mlN_lt _ | with_reducible exact L8 (mlN_lt _) | with_reducible exact mulM_lt (modN_pos 2) | with_reducible exact L8 (mulM_lt (modN_pos 2)) | with_reducible exact L8 (addM_lt (modN_pos 2)) | with_reducible exact rem2_lt _ | with_reducible exact L8 (rem2_lt _) | with_reducible exact exK_lt _ | with_reducible exact joinN_lt0 (exK_lt _) | with_reducible exact onE_base | with_reducible exact nm_on onE_base | with_reducible exact (nm_lt _).1 | with_reducible exact (nm_lt _).2 | with_reducible exact sum5_size _ | with_reducible exact lit0 | (simp only [ByteArray.size_append, pubB_size, packB_size, exR_size, strOf_size, leB_length]; omega) | exact decide_eq_true (by omega) | exact decide_eq_false (by omega) | omega), (by first | with_reducible assumption | with_reducible exact scN_lt _ | with_reducible exact L8 (scN_lt _) | with_reducible exact mlN_lt _ | with_reducible exact L8 (mlN_lt _) | with_reducible exact mulM_lt (modN_pos 2) | with_reducible exact L8 (mulM_lt (modN_pos 2)) | with_reducible exact L8 (addM_lt (modN_pos 2)) | with_reducible exact rem2_lt _ | with_reducible exact L8 (rem2_lt _) | with_reducible exact exK_lt _ | with_reducible exact joinN_lt0 (exK_lt _) | with_reducible exact onE_base | with_reducible exact nm_on onE_base | with_reducible exact (nm_lt _).1 | with_reducible exact (nm_lt _).2 | with_reducible exact sum5_size _ | with_reducible exact lit0 | (simp only [ByteArray.size_append, pubB_size, packB_size, exR_size, strOf_size, leB_length]; omega) | exact decide_eq_true (by omega) | exact decide_eq_false (by omega) | omega), (by first | with_reducible assumption | with_reducible exact scN_lt _ | with_reducible exact L8 (scN_lt _) | with_reducible exact mlN_lt _ | with_reducible exact L8 (mlN_lt _) | with_reducible exact mulM_lt (modN_pos 2) | with_reducible exact L8 (mulM_lt (modN_pos 2)) | with_reducible exact L8 (addM_lt (modN_pos 2)) | with_reducible exact rem2_lt _ | with_reducible exact L8 (rem2_lt _) | with_reducible exact exK_lt _ | with_reducible exact joinN_lt0 (exK_lt _) | with_reducible exact onE_base | with_reducible exact nm_on onE_base | with_reducible exact (nm_lt _).1 | with_reducible exact (nm_lt _).2 | with_reducible exact sum5_size _ | with_reducible exact lit0 | (simp only [ByteArray.size_append, pubB_size, packB_size, exR_size, strOf_size, leB_length]; omega) | exact decide_eq_true (by omega) | exact decide_eq_false (by omega) | omega), (by first | with_reducible assumption | with_reducible exact scN_lt _ | with_reducible exact L8 (scN_lt _) | with_reducible exact mlN_lt _ | with_reducible exact L8 (mlN_lt _) | with_reducible exact mulM_lt (modN_pos 2) | with_reducible exact L8 (mulM_lt (modN_pos 2)) | with_reducible exact L8 (addM_lt (modN_pos 2)) | with_reducible exact rem2_lt _ | with_reducible exact L8 (rem2_lt _) | with_reducible exact exK_lt _ | with_reducible exact joinN_lt0 (exK_lt _) | with_reducible exact onE_base | with_reducible exact nm_on onE_base | with_reducible exact (nm_lt _).1 | with_reducible exact (nm_lt _).2 | with_reducible exact sum5_size _ | with_reducible exact lit0 | (simp only [ByteArray.size_append, pubB_size, packB_size, exR_size, strOf_size, leB_length]; omega) | exact decide_eq_true (by omega) | exact decide_eq_false (by omega) | omega), (by first | with_reducible assumption | with_reducible exact scN_lt _ | with_reducible exact L8 (scN_lt _) | with_reducible exact mlN_lt _ | with_reducible exact L8 (mlN_lt _) | with_reducible exact mulM_lt (modN_pos 2) | with_reducible exact L8 (mulM_lt (modN_pos 2)) | with_reducible exact L8 (addM_lt (modN_pos 2)) | with_reducible exact rem2_lt _ | with_reducible exact L8 (rem2_lt _) | with_reducible exact exK_lt _ | with_reducible exact joinN_lt0 (exK_lt _) | with_reducible exact onE_base | with_reducible exact nm_on onE_base | with_reducible exact (nm_lt _).1 | with_reducible exact (nm_lt _).2 | with_reducible exact sum5_size _ | with_reducible exact lit0 | (simp only [ByteArray.size_append, pubB_size, packB_size, exR_size, strOf_size, leB_length]; omega) | exact decide_eq_true (by omega) | exact decide_eq_false (by omega) | omega), (by first | with_reducible assumption | with_reducible exact scN_lt _ | with_reducible exact L8 (scN_lt _) | with_reducible exact mlN_lt _ | with_reducible exact L8 (mlN_lt _) | with_reducible exact mulM_lt (modN_pos 2) | with_reducible exact L8 (mulM_lt (modN_pos 2)) | with_reducible exact L8 (addM_lt (modN_pos 2)) | with_reducible exact rem2_lt _ | with_reducible exact L8 (rem2_lt _) | with_reducible exact exK_lt _ | with_reducible exact joinN_lt0 (exK_lt _) | with_reducible exact onE_base | with_reducible exact nm_on onE_base | with_reducible exact (nm_lt _).1 | with_reducible exact (nm_lt _).2 | with_reducible exact sum5_size _ | with_reducible exact lit0 | (simp only [ByteArray.size_append, pubB_size, packB_size, exR_size, strOf_size, leB_length]; omega) | exact decide_eq_true (by omega) | exact decide_eq_false (by omega) | omega), rfl, (joinN_lt0 (by with_reducible assumption)), rfl, (by first | with_reducible assumption | with_reducible exact scN_lt _ | with_reducible exact L8 (scN_lt _) | with_reducible exact mlN_lt _ | with_reducible exact L8 (mlN_lt _) | with_reducible exact mulM_lt (modN_pos 2) | with_reducible exact L8 (mulM_lt (modN_pos 2)) | with_reducible exact L8 (addM_lt (modN_pos 2)) | with_reducible exact rem2_lt _ | with_reducible exact L8 (rem2_lt _) | with_reducible exact exK_lt _ | with_reducible exact joinN_lt0 (exK_lt _) | with_reducible exact onE_base | with_reducible exact nm_on onE_base | with_reducible exact (nm_lt _).1 | with_reducible exact (nm_lt _).2 | with_reducible exact sum5_size _ | with_reducible exact lit0 | (simp only [ByteArray.size_append, pubB_size, packB_size, exR_size, strOf_size, leB_length]; omega) | exact decide_eq_true (by omega) | exact decide_eq_false (by omega) | omega), (remN_lt (modN_pos _)), (by first | with_reducible assumption | with_reducible exact scN_lt _ | with_reducible exact L8 (scN_lt _) | with_reducible exact mlN_lt _ | with_reducible exact L8 (mlN_lt _) | with_reducible exact mulM_lt (modN_pos 2) | with_reducible exact L8 (mulM_lt (modN_pos 2)) | with_reducible exact L8 (addM_lt (modN_pos 2)) | with_reducible exact rem2_lt _ | with_reducible exact L8 (rem2_lt _) | with_reducible exact exK_lt _ | with_reducible exact joinN_lt0 (exK_lt _) | with_reducible exact onE_base | with_reducible exact nm_on onE_base | with_reducible exact (nm_lt _).1 | with_reducible exact (nm_lt _).2 | with_reducible exact sum5_size _ | with_reducible exact lit0 | (simp only [ByteArray.size_append, pubB_size, packB_size, exR_size, strOf_size, leB_length]; omega) | exact decide_eq_true (by omega) | exact decide_eq_false (by omega) | omega), (L8 (remN_lt (modN_pos _))), rfl, (by first | with_reducible assumption | with_reducible exact scN_lt _ | with_reducible exact L8 (scN_lt _) | with_reducible exact mlN_lt _ | with_reducible exact L8 (mlN_lt _) | with_reducible exact mulM_lt (modN_pos 2) | with_reducible exact L8 (mulM_lt (modN_pos 2)) | with_reducible exact L8 (addM_lt (modN_pos 2)) | with_reducible exact rem2_lt _ | with_reducible exact L8 (rem2_lt _) | with_reducible exact exK_lt _ | with_reducible exact joinN_lt0 (exK_lt _) | with_reducible exact onE_base | with_reducible exact nm_on onE_base | with_reducible exact (nm_lt _).1 | with_reducible exact (nm_lt _).2 | with_reducible exact sum5_size _ | with_reducible exact lit0 | (simp only [ByteArray.size_append, pubB_size, packB_size, exR_size, strOf_size, leB_length]; omega) | exact decide_eq_true (by omega) | exact decide_eq_false (by omega) | omega), (mulM_lt (modN_pos _)), (by first | with_reducible assumption | with_reducible exact scN_lt _ | with_reducible exact L8 (scN_lt _) | with_reducible exact mlN_lt _ | with_reducible exact L8 (mlN_lt _) | with_reducible exact mulM_lt (modN_pos 2) | with_reducible exact L8 (mulM_lt (modN_pos 2)) | with_reducible exact L8 (addM_lt (modN_pos 2)) | with_reducible exact rem2_lt _ | with_reducible exact L8 (rem2_lt _) | with_reducible exact exK_lt _ | with_reducible exact joinN_lt0 (exK_lt _) | with_reducible exact onE_base | with_reducible exact nm_on onE_base | with_reducible exact (nm_lt _).1 | with_reducible exact (nm_lt _).2 | with_reducible exact sum5_size _ | with_reducible exact lit0 | (simp only [ByteArray.size_append, pubB_size, packB_size, exR_size, strOf_size, leB_length]; omega) | exact decide_eq_true (by omega) | exact decide_eq_false (by omega) | omega), (L8 (mulM_lt (modN_pos _))), (L8 (addM_lt (modN_pos _))), (by first | with_reducible assumption | with_reducible exact scN_lt _ | with_reducible exact L8 (scN_lt _) | with_reducible exact mlN_lt _ | with_reducible exact L8 (mlN_lt _) | with_reducible exact mulM_lt (modN_pos 2) | with_reducible exact L8 (mulM_lt (modN_pos 2)) | with_reducible exact L8 (addM_lt (modN_pos 2)) | with_reducible exact rem2_lt _ | with_reducible exact L8 (rem2_lt _) | with_reducible exact exK_lt _ | with_reducible exact joinN_lt0 (exK_lt _) | with_reducible exact onE_base | with_reducible exact nm_on onE_base | with_reducible exact (nm_lt _).1 | with_reducible exact (nm_lt _).2 | with_reducible exact sum5_size _ | with_reducible exact lit0 | (simp only [ByteArray.size_append, pubB_size, packB_size, exR_size, strOf_size, leB_length]; omega) | exact decide_eq_true (by omega) | exact decide_eq_false (by omega) | omega), trivial⟩ rfl rfl
    · rw [decide_eq_false h']
      rw [cond_false, cond_false]
      have hnm : decide ((4096 : Int) < (m.size : Int)) = true := decide_eq_true (by omega)
      exact spec_run envE11 rfl (r11l s m) ⟨h32, hnm, trivial⟩ rfl rfl
  · rw [decide_eq_false h]
    rw [cond_false, cond_false]
    have hn32 := no32 h
    exact spec_run envE11 rfl (r11n s m) ⟨hn32, trivial⟩ rfl rfl
end Go.Ev.H5

namespace Go.Ev
open Go Go.Proofs Go.RowKit
theorem len_L : lenN (modN 2) = 253 := by decide +kernel
def fN {α : Type} (x : Nat) (f : Nat → α) : α := match x with | 0 => f 0 | n + 1 => f (n + 1)
theorem fN_eq {α : Type} (x : Nat) (f : Nat → α) : fN x f = f x := by unfold fN; split <;> rfl
def fE {α : Type} (p : E4) (f : E4 → α) : α := fN p.x fun x => fN p.y fun y => fN p.z fun z => fN p.t fun t => f ⟨x, y, z, t⟩
theorem fE_eq {α : Type} (p : E4) (f : E4 → α) : fE p f = f p := by unfold fE; simp only [fN_eq]
def pTimesF {α : Type} (k : Nat) (p : E4) (f : E4 → α) : Nat → E4 → α
  | 0, x => f x
  | j + 1, x => fE (pAdd x x) fun d => bif bitB k j then fE (pAdd d p) fun e => pTimesF k p f j e else pTimesF k p f j d
theorem pTimesF_eq {α : Type} (k : Nat) (p : E4) (f : E4 → α) : ∀ j x, pTimesF k p f j x = f (pTimesG k p j x)
  | 0, _ => rfl
  | j + 1, x => by
    unfold pTimesF pTimesG pStep
    simp only [fE_eq]
    cases bitB k j with
    | true => simp only [cond_true]; exact pTimesF_eq k p f j _
    | false => simp only [cond_false]; exact pTimesF_eq k p f j _
theorem ord : (pTimesF (modN 2) (pLift bXN bYN) (fun q => decide (q.x = 0) && decide (q.y = q.z) && decide (q.z ≠ 0)) 253 (pLift 0 1)) = true := by decide +kernel
theorem nm_order : nmX (modN 2) bXN bYN = 0 ∧ nmY (modN 2) bXN bYN = 1 := by
  have h := ord
  rw [pTimesF_eq] at h
  have hl := pLift_lt bXN_lt bYN_lt
  have hp := on_of onE_base
  have hr := rep_times (modN_lt 2) hp (rep_lift hp.1 hp.2.1)
  have hn := nmul_on hp (modN 2)
  unfold pTimes at hr
  rw [len_L] at hr
  simp only [Bool.and_eq_true, decide_eq_true_iff] at h
  obtain ⟨⟨h1, h2⟩, h3⟩ := h
  obtain ⟨_, hz, hx, hy, _⟩ := hr
  show (nmul (bXN, bYN) (modN 2)).1 = 0 ∧ (nmul (bXN, bYN) (modN 2)).2 = 1
  have hx' : (pTimesG (modN 2) (pLift bXN bYN) 253 (pLift 0 1)).x = 0 := h1
  have hy' : (pTimesG (modN 2) (pLift bXN bYN) 253 (pLift 0 1)).y = (pTimesG (modN 2) (pLift bXN bYN) 253 (pLift 0 1)).z := h2
  generalize pTimesG (modN 2) (pLift bXN bYN) 253 (pLift 0 1) = Q at *
  generalize nmul (bXN, bYN) (modN 2) = r at *
  change C0 Q.x (r.1 * Q.z) at hx
  change C0 Q.y (r.2 * Q.z) at hy
  rw [hx'] at hx
  rw [hy'] at hy
  constructor
  · refine Cz.nat hn.1 (modN_pos 0) (cz_cancel pr0 (a := Q.z) ?_ hz)
    exact hx.lc1 (-1) (by grind)
  · refine Cz.nat hn.2.1 (modN_one 0) (cz_cancel pr0 (a := Q.z) ?_ hz)
    exact hy.lc1 (-1) (by grind)
end Go.Ev

namespace Go.Ev.H5
open Go Go.Proofs Go.RowKit
def kL : List Nat := [0, 0, 0, 0, 0, 0, 0, 0, 0, 0, 0, 0, 0, 0, 0, 0, 0, 0, 0, 0, 0, 0, 0, 0, 0, 0, 0, 0, 0, 0, 0, 0, 128, 0, 0, 0, 0, 0, 0, 0, 0, 0, 0, 0, 0, 0, 0, 0, 0, 0, 0, 0, 0, 0, 0, 0, 0, 0, 0, 0, 0, 0, 0, 0, 0, 0, 0, 0, 0, 0, 0, 0, 0, 0, 0, 0, 0, 0, 0, 0, 0, 0, 0, 0, 0, 0, 0, 0, 0, 0, 0, 0, 0, 0, 0, 0, 0, 0, 0, 0, 0, 0, 0, 0, 0, 0, 0, 0, 0, 0, 0, 0, 0, 0, 0, 0, 0, 0, 0, 0, 0, 0, 0, 0, 0, 0, 1, 0]
def kW : List Nat := [0, 0, 0, 0, 9223372036854775808, 0, 0, 0, 0, 0, 0, 0, 0, 0, 0, 256, 0, 9007199254743044, 0, 4719772426664165376, 9223372036854775808, 361985685131002114, 144132780261900548, 8648063572759674900, 1173187702963572776, 126768607751657609, 13944307785744826688, 2667488058145767452, 2023559755096263684, 3076264096972779889, 1827872124046622896, 8310353164642315215, 12136906272933825081, 15545001212044488457, 14814700502097700868, 12285100419639919475, 9670082501097730335, 5518604699939968887, 9476093506087548489, 9796596215299450625, 5958344982377384288, 12265343076877762427, 12165219924428479518, 1325243823695169124, 11281310535319608749, 1034882804047488912, 1535714187706151253, 649279741799497956, 17459309777971477598, 5500650830056389434, 16562679484493522125, 13945535446963880796, 15567785657537865457, 14580602548817413697, 8635629319549429025, 14777824508854947588, 16911204817919595455, 13700561142527922852, 2574132088199195008, 10308614111758391576, 10852703017310842740, 16082347588028971208, 2184371991873687222, 12033888635545163341, 10419660119830469926, 8585216435925201857, 14386434745505789993, 7139669067458878980, 16562904965169700491, 18303181280394127650, 7589255923654424011, 10370349966052406001, 9383377643078173111, 7113417478183963821, 9287236787583809989, 7025827219752386637, 2720506219950445715, 11463598587821378836, 11074598858778813994, 3215546073741905920]
def kA : List Nat := [11912009170470909681, 4354685564936845355, 13503953896175478587, 7640891576956012808, 10758372976291012085, 11115036946241619673, 4126266364255868068, 5343641584730768695, 11168902456601489605, 1302396440103629798, 15200776334310210592, 17208046804368280137, 8492703388701907715, 7755397839558790253, 7030135620985194732, 2312015059832132880, 16523165081541911161, 5830777752747395166, 10783373218667509365, 4479050482935558316, 11702245667014225582, 3280029084718757303, 7259474283948259824, 12603740802078081619, 1537361645710774433, 2396587261501461511, 15578081726648313859, 5464896530425090686, 8079588423635971269, 8590249264134269809, 7463697391145966002, 3706265178671430226, 3525803993081217942, 7047087411074569085, 5664254687711525247, 14726941729103868001, 7020929409684525903, 8461667706126069220, 379464524265310633, 15549802313875602274, 17263284987263657958, 14638953785217629854, 18014955160550453689, 6109844019387451280, 3934753730757518807, 11221941365251729549, 12170060852399267806, 15552401992348485791, 7917789096369028140, 5980717885382567603, 2164993625293247554, 6484337866056519823, 4514939707137230467, 15645523297110002428, 16447334635902428014, 17023595609519142724, 6401030026082633268, 14333128423172872232, 2340657871528695503, 17181778841757954467, 8316550594923792609, 16525350475053332148, 16732118037317178048, 10477334923476079977, 1675981542843284747, 18002758202473554379, 18349958183428923895, 14263519478537648808, 2518871767924734864, 10167427158072057591, 6453938761489340098, 15156157019208777747, 17406653508796741912, 1570791217848826313, 14488324544568235627, 13060178779355539256, 18328841029446720343, 18170168180967726918, 3931110873737423470, 5567541349902180190, 5776266022435338917, 2037463206167937637, 13818184367001344771, 16590354316283047806]
def kE : List Nat := [6620516959819538809, 2270897969802886507, 11170449401992604703, 5840696475078001361, 17827673622936100753, 9932265545342369336, 4897852136903073097, 16523341605267860574, 627079433320757529, 14806635048689895951, 15174314027989733557, 9272832003298536862, 16034440948875958624, 13502761422932650927, 2096611521171684090, 13672406949288936619, 16941445236327295330, 18281535139762694881, 2421145553396808227, 851941326718768001, 17300981003431507799, 16714166088777974375, 7521305024183279694, 2439087024015677111, 3061020130476478910, 18327999007697665139, 5182447908206143290, 4489227580986569443, 963291311694375013, 8078194955157153449, 10553505094661485635, 10628536666645987242, 13287781554297122783, 13566656608276548562, 13874964982419472308, 5173953181071844509, 5615751895262237939, 4941752670844118600, 16203679033354392874, 14712077907107959277, 16337914719854201846, 6531442153746177128, 14194663295104695616, 4534933068400390657, 7262160739443047838, 5752790583666708941, 4863095209128836662, 8352703515361797755, 337867160903401868, 10992113497116646001, 16909216741560437109, 11893120751304626942, 1125160240832120182, 3626739556018553871, 14023129358220355687, 11177193476556092421, 15308037697050920686, 15298117696424949212, 6818534125984460103, 15841754175645970547, 5658120392235887474, 15136793916924334787, 3774921253118411700, 4564036060695640955, 825740300549928085, 4891636288461320038, 12384616198518925361, 3806274531594431357, 10885499170187179968, 14923328952548945946, 7469784290968133967, 14829823243297303650, 2125308069535244253, 8272582750246839156, 10039812137888914178, 8486314926255750478, 6817047941946052733, 1142590970254049387, 6248892937991631189, 3003314452009162791, 2551491534185647194, 16194014959973738944, 11114007369083713373, 13356607129400399863]
def lst (i : Nat) : List Nat := kW.take i ++ List.replicate (80 - i) 0
def lstOk (i : Nat) : Bool := (lst i).set i (bif decide (i < 16) then word8 (strOf kL) (8 * i) else schP (lst i) i) == lst (i + 1)
def allN (f : Nat → Bool) : Nat → Bool
  | 0 => true
  | n + 1 => f n && allN f n
theorem allN_at {f : Nat → Bool} : ∀ {n : Nat}, allN f n = true → ∀ i, i < n → f i = true
  | 0, _, _, hi => absurd hi (Nat.not_lt_zero _)
  | n + 1, h, i, hi => by
    simp only [allN, Bool.and_eq_true] at h
    by_cases e : i = n
    · rw [e]; exact h.1
    · exact allN_at h.2 i (by omega)
theorem lst_ok : allN lstOk 80 = true := by decide +kernel
theorem lst_zero : lst 0 = List.replicate 80 0 := by decide +kernel
theorem sch_lst : ∀ i, i ≤ 80 → schL (strOf kL) i = lst i
  | 0, _ => lst_zero.symm
  | i + 1, h => by
    rw [schL, sch_lst i (by omega)]
    have := allN_at lst_ok i (by omega)
    exact eq_of_beq this
theorem sch_kW (i : Nat) (hi : i < 80) : schW (strOf kL) i = kW.getD i 0 := by
  unfold schW
  rw [sch_lst 80 (Nat.le_refl _)]
  have e : lst 80 = kW := by decide +kernel
  rw [e]
def stt (i : Nat) : W8 := ⟨kA.getD (i + 3) 0, kA.getD (i + 2) 0, kA.getD (i + 1) 0, kA.getD i 0, kE.getD (i + 3) 0, kE.getD (i + 2) 0, kE.getD (i + 1) 0, kE.getD i 0⟩
def sameW (x y : W8) : Bool := Nat.beq x.a y.a && Nat.beq x.b y.b && Nat.beq x.c y.c && Nat.beq x.d y.d && Nat.beq x.e y.e && Nat.beq x.f y.f && Nat.beq x.g y.g && Nat.beq x.h y.h
theorem sameW_eq {x y : W8} (h : sameW x y = true) : x = y := by
  cases x; cases y
  simp only [sameW, Bool.and_eq_true, Nat.beq_eq] at h
  obtain ⟨⟨⟨⟨⟨⟨⟨h1, h2⟩, h3⟩, h4⟩, h5⟩, h6⟩, h7⟩, h8⟩ := h
  subst h1 h2 h3 h4 h5 h6 h7 h8
  rfl
def fW {α : Type} (x : W8) (f : W8 → α) : α := fN x.a fun a => fN x.b fun b => fN x.c fun c => fN x.d fun d => fN x.e fun e => fN x.f fun p => fN x.g fun g => fN x.h fun h => f ⟨a, b, c, d, e, p, g, h⟩
theorem fW_eq {α : Type} (x : W8) (f : W8 → α) : fW x f = f x := by unfold fW; simp only [fN_eq]
def sttOk (i : Nat) : Bool := fW (stt i) fun v => fN (shaK i) fun k => fN (kW.getD i 0) fun w => sameW (rnd v k w) (stt (i + 1))
theorem stt_ok : allN sttOk 80 = true := by decide +kernel
theorem stt_zero : stt 0 = h0W := sameW_eq (by decide +kernel)
theorem vR_stt : ∀ i, i ≤ 80 → vR (schW (strOf kL)) h0W i = stt i
  | 0, _ => stt_zero.symm
  | i + 1, h => by
    rw [vR, vR_stt i (by omega), sch_kW i (by omega)]
    have := allN_at stt_ok i (by omega)
    unfold sttOk at this
    rw [fW_eq, fN_eq, fN_eq] at this
    exact sameW_eq this
def kOut : W8 := ⟨5784501819529508998, 8875394189467271742, 6392148771104782992, 17688275192906248598, 750559530768849608, 3837712697366766460, 18168856067073835, 9172008494005186003⟩
theorem kOut_eq : sameW (addW h0W (stt 80)) kOut = true := by decide +kernel
theorem blk_k : blk5 h0W (strOf kL) = kOut := by
  unfold blk5 vE
  exact (congrArg (addW h0W) (vR_stt 80 (Nat.le_refl _))).trans (sameW_eq kOut_eq)
theorem fill_k : fillQ (zs 32) = strOf kL := by
  rw [← fill_eq (zs 32) (by rw [zs_size]; decide), zs_size]
  have e : numsB (zs 32) = List.replicate 32 0 := numsB_strOf _ (by decide)
  have e2 : ((List.replicate 32 0 ++ [128]) ++ List.replicate (padZ 32).toNat 0) ++ fillT 32 = kL := by decide +kernel
  rw [e, e2]
theorem sum_k : sum5 (zs 32) = strOf (bytesW kOut.a ++ bytesW kOut.b ++ bytesW kOut.c ++ bytesW kOut.d ++ bytesW kOut.e ++ bytesW kOut.f ++ bytesW kOut.g ++ bytesW kOut.h) := by
  unfold sum5
  rw [fill_k, zs_size, show nBl 32 = 1 from rfl, hst, hst, show 128 * 0 = 0 from rfl, Nat.zero_add]
  have hz : (strOf kL).size = 128 := by rw [strOf_size]; decide +kernel
  have e : (strOf kL).extract 0 128 = strOf kL := by
    conv => lhs; rw [← hz]
    exact cut_all _
  rw [e, blk_k, ← outP_eq]
  rfl
def kDig : List Nat := (bytesW kOut.a ++ bytesW kOut.b ++ bytesW kOut.c ++ bytesW kOut.d ++ bytesW kOut.e ++ bytesW kOut.f ++ bytesW kOut.g ++ bytesW kOut.h).take 32
def k0N : Nat := 39325648866980652792715009169219496062012184734522019333892538943312776480336
theorem k0_reckoned : expN (leN kDig) = k0N := by decide +kernel
theorem kDig_lt : ∀ b ∈ kDig, b < 256 := by decide +kernel
theorem exK_k : exK (zs 32) = k0N := by
  unfold exK loS
  rw [sum_k, strOf_take]
  show expN (leS (strOf kDig)) = k0N
  unfold leS
  rw [numsB_strOf _ kDig_lt]
  exact k0_reckoned
def pkX : Nat := 9639205628789703341510410801487549615560488670885798085067615194958049462616
def pkY : Nat := 18930617471878267742194159801949745215346600387277955685031939302387136031291
theorem k0_lt : k0N < 4294967296 ^ 8 := by decide +kernel
theorem len_k0 : lenN k0N = 255 := by decide +kernel
theorem k0_times : (pTimesF k0N (pLift bXN bYN) (fun q => decide (kDown q q.x = pkX) && decide (kDown q q.y = pkY)) 255 (pLift 0 1)) = true := by decide +kernel
theorem nm_k0 : nmX k0N bXN bYN = pkX ∧ nmY k0N bXN bYN = pkY := by
  have h := k0_times
  rw [pTimesF_eq] at h
  simp only [Bool.and_eq_true, decide_eq_true_iff] at h
  obtain ⟨h1, h2⟩ := h
  have hl := pLift_lt bXN_lt bYN_lt
  obtain ⟨e1, e2⟩ := times_eq k0_lt onE_base
  have e0 : pTimes k0N (pLift bXN bYN) = pTimesG k0N (pLift bXN bYN) 255 (pLift 0 1) := by unfold pTimes; rw [len_k0]
  unfold timE at e1 e2
  rw [eLift_in, eTimes_in hl] at e1 e2
  rw [eDownX_in (pTimes_lt _ _), ← kDown_eq, e0, h1] at e1
  rw [eDownY_in (pTimes_lt _ _), ← kDown_eq, e0, h2] at e2
  exact ⟨e1.symm, e2.symm⟩
def pk4 : ByteArray := ⟨#[59, 106, 39, 188]⟩
theorem pk_begins : (pubB (exK (zs 32))).extract 0 4 = pk4 := by
  rw [exK_k]
  unfold pubB
  rw [nm_k0.1, nm_k0.2]
  unfold packB
  rw [strOf_take, leB_take _ _ _ (by decide)]
  have e : leB 4 (pkY + 57896044618658097711785492504343953926634992332820282019728792003956564819968 * (pkX % 2)) = [59, 106, 39, 188] := by decide +kernel
  rw [e]
  rfl
end Go.Ev.H5

namespace Go.Ev.H5
open Go Go.Proofs Go.RowKit
noncomputable def fn10w (vs : List V1) : Option (List Prop × AV) :=
  match vs with
  | [.one (.v (.string s))] => some ([s.size = 32], .tup [sS (pubB (exK s)), .one (.i 0)])
  | _ => none
theorem ct10w : CTok ⟨51, fn10w⟩ := by
  intro vs ob r h ho
  simp only [fn10w] at h
  split at h
  · rename_i s
    simp only [Option.some.injEq, Prod.mk.injEq] at h
    obtain ⟨rfl, rfl⟩ := h
    have hh := ho.1
    have h1 := spec10 s
    unfold pubZ expE at h1
    rw [decide_eq_true hh, cond_true, cond_true] at h1
    exact h1
  · simp at h
theorem ct15 : CTok ⟨49, fnS [.z] gNum⟩ := ctNum spec24n
noncomputable def L16 : List CT := ⟨51, fn10w⟩ :: ⟨91, fnZs⟩ :: ⟨49, fnS [.z] gNum⟩ :: []
theorem L16_ok : AllCT L16 := ⟨ct10w, ct21z, ct15, trivial⟩
noncomputable def S16 : FuncId → Nat → Bool := fun f t => match f with | 50 => memN t [14, 18, 19] | _ => false
theorem r16 : callR (mkE L16 S16) 1000 50 [] [true, true] =
    some ([(0 : Int) ≤ 32 ∧ (32 : Int) ≤ 1000000, (zs 32).size = 32, decide (((pubB (exK (zs 32))).size : Int) = 32) = true, (0 : Int) ≤ 4 ∧ (4 : Int) ≤ ((pubB (exK (zs 32))).size : Int), (((pubB (exK (zs 32))).extract 0 4).toList == pk4.toList) = true], bV true) := by kernel_rfl
theorem spec16 : Spec 50 [] (bV true) := by
  have hz := pubB_size (exK (zs 32))
  refine spec_run (envMk L16_ok S16) rfl r16 ⟨by omega, zs_size 32, decide_eq_true (by rw [hz]; rfl), by rw [hz]; omega, ?_, trivial⟩ rfl rfl
  rw [pk_begins]; simp
def askV (k t x s : ByteArray) (n a b c d : Nat) : V1 := .agg [.a (.v (.string k)), .a (.v (.string t)), .a (.v (.string x)), .a (.v (.string s)), .a (.u .u32 n), .a (.u .u32 a), .a (.u .u32 b), .a (.u .u32 c), .a (.u .u32 d)]
noncomputable def kfit (k : ByteArray) : ByteArray := (k ++ zs 32).extract 0 32
noncomputable def tfit (t : ByteArray) : ByteArray := (t ++ zs 12).extract 0 12
noncomputable def S8f : FuncId → Nat → Bool := fun f t => match f with | 46 => memN t [6, 7, 11, 12] | _ => false
theorem L8f_ok : AllCT [⟨91, fnZs⟩] := ⟨ct21z, trivial⟩
theorem run20 (k t x s : ByteArray) (n a b c d : Nat) : callR (mkE [⟨91, fnZs⟩] S8f) 1000 46 [askV k t x s n a b c d] [] =
    some ([(0 : Int) ≤ 32 ∧ (32 : Int) ≤ 1000000, k.size + (zs 32).size ≤ 9223372036854775807, (0 : Int) ≤ 32 ∧ (32 : Int) ≤ ((k ++ zs 32).size : Int), (0 : Int) ≤ 12 ∧ (12 : Int) ≤ 1000000, t.size + (zs 12).size ≤ 9223372036854775807, (0 : Int) ≤ 12 ∧ (12 : Int) ≤ ((t ++ zs 12).size : Int)], .val (askV (kfit k) (tfit t) x s n a b c d)) := by kernel_rfl
theorem kfit_size (k : ByteArray) : (kfit k).size = 32 := by unfold kfit; rw [ByteArray.size_extract, ByteArray.size_append, zs_size]; omega
noncomputable def fnFit (vs : List V1) : Option (List Prop × AV) :=
  match vs with
  | [.agg [.a (.v (.string k)), .a (.v (.string t)), .a (.v (.string x)), .a (.v (.string s)), .a (.u .u32 n), .a (.u .u32 a), .a (.u .u32 b), .a (.u .u32 c), .a (.u .u32 d)]] => some ([k.size ≤ 1000000, t.size ≤ 1000000], .val (askV (kfit k) (tfit t) x s n a b c d))
  | _ => none
theorem ct8 : CTok ⟨46, fnFit⟩ := by
  intro vs ob r h ho
  simp only [fnFit] at h
  split at h
  · rename_i k t x s n a b c d
    simp only [Option.some.injEq, Prod.mk.injEq] at h
    obtain ⟨rfl, rfl⟩ := h
    obtain ⟨h1, h2, _⟩ := ho
    exact spec_run (envMk L8f_ok S8f) rfl (run20 k t x s n a b c d) ⟨by omega, by rw [zs_size]; omega, ⟨by omega, by rw [ByteArray.size_append, zs_size]; omega⟩, by omega, by rw [zs_size]; omega, ⟨by omega, by rw [ByteArray.size_append, zs_size]; omega⟩, trivial⟩ rfl rfl
  · simp at h
end Go.Ev.H5

namespace Go.Ev
open Go Go.Proofs Go.RowKit
def zE (y : Nat) : Nat := addM (modN 0) 1 (mulM (modN 0) dN (mulM (modN 0) y y))
def nuE (y : Nat) : Nat := subM (modN 0) (mulM (modN 0) y y) 1
theorem zE_cz (y : Nat) : C0 (zE y) (1 + (dN : Int) * (y * y)) :=
  (cz_add _ _).trans (((Cz.refl _ 1).add ((cz_mul _ _).trans ((Cz.refl _ _).mul (cz_mul y y)))).trans (Cz.of_eq rfl))
theorem nuE_cz (y : Nat) : C0 (nuE y) ((y : Int) * y - 1) := (cz_sub (modN_one 0)).trans ((cz_mul y y).sub (Cz.refl _ 1))
theorem zE_ne (y : Int) : ¬ C0 (1 + (dN : Int) * (y * y)) 0 := by
  intro h
  have hy : C0 y 0 := nsq (s := y) (t := 1) (h.lc1 1 (by grind))
  exact one_ne (h.lc2 hy 1 (-((dN : Int) * y)) (by grind))
theorem zE_lt (y : Nat) : zE y < modN 0 := addM_lt (modN_pos 0)
theorem uE_down (y : Nat) : uE y = pDown ⟨0, 0, zE y, 0⟩ (nuE y) := by
  have h := down_in (p := ⟨0, 0, zE y, 0⟩) ⟨modN_pos 0, modN_pos 0, zE_lt y, modN_pos 0⟩ (nuE y)
  rw [← h]
  have e1 : yyE y = inN (modN 0) (mulM (modN 0) y y) := in_mul (by decide) y y
  have e2 : bwE y = inN (modN 0) (zE y) := by
    unfold bwE zE
    rw [e1, in_mul (by decide) dN (mulM (modN 0) y y), in_add 1 (mulM (modN 0) dN (mulM (modN 0) y y))]
  unfold uE
  rw [e1, e2, in_sub (modN_pos 0) (modN_one 0)]
  rfl
theorem uE_cz (y : Nat) : C0 ((uE y : Int) * (1 + (dN : Int) * (y * y))) ((y : Int) * y - 1) := by
  have hz := zE_cz y
  have hc := nuE_cz y
  have hi := inv_cz (k := 0) (by decide) (zE_lt y) (fun h => zE_ne y (hz.symm.trans h))
  have hu : C0 (uE y) ((nuE y : Int) * invP 0 (zE y)) := by
    rw [uE_down]
    exact cz_mul _ _
  exact hu.lc4 hz hc hi (1 + (dN : Int) * (y * y)) (-((nuE y : Int) * invP 0 (zE y))) 1 (nuE y) (by grind)
theorem uE_on {x y : Nat} (h : On x y) : C0 ((x : Int) * x) (uE y) := by
  have hu := uE_cz y
  unfold On at h
  refine (cz_cancel pr0 (a := 1 + (dN : Int) * (y * y)) (hu.lc2 h 1 1 ?_) (zE_ne y)).symm
  grind
theorem on_uE {x y : Nat} (h : C0 ((x : Int) * x) (uE y)) : On x y := by
  have hu := uE_cz y
  unfold On
  exact hu.lc2 h (-1) (-(1 + (dN : Int) * (y * y))) (by grind)
theorem modN0_odd : modN 0 % 2 = 1 := by decide +kernel
theorem ev_even (a : Nat) : evC 0 a % 2 = 0 := Go.NT.evenN_even modN0_odd (by rw [modN_P]; exact Go.NT.candN_lt (by decide))
theorem ev_sq {a : Nat} (h : sqB 0 a = true) : evC 0 a * evC 0 a % modN 0 = a := by
  unfold evC
  rw [Go.NT.evenN_sq (by rw [modN_P]; exact Go.NT.candN_lt (by decide))]
  exact (isSq_iff 0 a).1 h
theorem ev_of {x a : Nat} (hx : x < modN 0) (h : x * x % modN 0 = a) : sqB 0 a = true ∧ evC 0 a = if x % 2 = 1 then modN 0 - x else x := by
  have hs : sqB 0 a = true := Go.NT.isSq_of (r := x) (by decide) (by rw [← modN_P]; exact h)
  refine ⟨hs, ?_⟩
  have he := ev_even a
  have hl : evC 0 a < modN 0 := evC_lt (by decide)
  have hq : evC 0 a * evC 0 a % modN 0 = x * x % modN 0 := by rw [ev_sq hs, h]
  have hm := modN0_odd
  have h0 : ∀ z : Nat, z < 2 * modN 0 → z % modN 0 = 0 → z = 0 ∨ z = modN 0 := by
    intro z hz h0
    rcases Nat.lt_or_ge z (modN 0) with h | h
    · rw [Nat.mod_eq_of_lt h] at h0; exact .inl h0
    · right
      have := Nat.mod_eq_sub_mod h
      rw [this, Nat.mod_eq_of_lt (by omega)] at h0
      omega
  rcases Go.NT.sq_eq pr0 hl hx hq with h1 | h1
  · split <;> omega
  · rcases h0 _ (by omega) h1 with h2 | h2 <;> split <;> omega
theorem leB_succ (n x : Nat) : leB (n + 1) x = x % 256 :: leB n (x / 256) := by
  unfold leB
  rw [List.range_succ_eq_map, List.map_cons, List.map_map]
  rw [Nat.pow_zero, Nat.div_one]
  congr 1
  refine List.map_congr_left fun j _ => ?_
  show x / 256 ^ (j + 1) % 256 = x / 256 / 256 ^ j % 256
  rw [Nat.pow_succ, Nat.mul_comm, Nat.div_div_eq_div_mul]
theorem leN_leB : ∀ (n x : Nat), leN (leB n x) = x % 256 ^ n
  | 0, x => by simp [leB, leN, Nat.mod_one]
  | n + 1, x => by
    rw [leB_succ]
    show x % 256 + 256 * leN (leB n (x / 256)) = _
    rw [leN_leB n, Nat.pow_succ, Nat.mul_comm (256 ^ n), Nat.mod_mul]
theorem leB_leN : ∀ l : List Nat, (∀ b ∈ l, b < 256) → leB l.length (leN l) = l
  | [], _ => rfl
  | b :: l, h => by
    have hb := h b (List.mem_cons_self ..)
    have ih := leB_leN l fun x hx => h x (List.mem_cons_of_mem _ hx)
    show leB (l.length + 1) (b + 256 * leN l) = b :: l
    rw [leB_succ, show (b + 256 * leN l) % 256 = b by omega, show (b + 256 * leN l) / 256 = leN l by omega, ih]
theorem leS_leB {x : Nat} (h : x < 256 ^ 32) : leS (strOf (leB 32 x)) = x := by
  unfold leS
  rw [numsB_strOf _ (leB_lt 32 x), leN_leB, Nat.mod_eq_of_lt h]
theorem strOf_leS {s : ByteArray} (h : s.size = 32) : strOf (leB 32 (leS s)) = s := by
  have := leB_leN (numsB s) (numsB_lt s)
  rw [numsB_length, h] at this
  unfold leS
  rw [this, strOf_numsB]
end Go.Ev

namespace Go.Ev
open Go Go.Proofs Go.RowKit
theorem sq_uE {x y : Nat} (h : On x y) : x * x % modN 0 = uE y := by
  refine Cz.nat (Nat.mod_lt _ (modN_pos 0)) (uE_lt y) ?_
  have h1 := cz_mod (m := modN 0) (x * x)
  rw [Int.natCast_mul] at h1
  exact h1.trans (uE_on h)
theorem subM0 {x : Nat} (h0 : x ≠ 0) (hx : x < modN 0) : subM (modN 0) 0 x = modN 0 - x := by
  unfold subM
  rw [Nat.mod_eq_of_lt (by omega), Nat.zero_add]
theorem unp_of {s : ByteArray} {x y o : Nat} (hon : onE x y = true) (hs : s.size = 32) (hl : leS s = y + 57896044618658097711785492504343953926634992332820282019728792003956564819968 * o) (ho : o < 2) :
    unpE s = (if o = 1 ∧ x = 0 then 6 else 0) ∧ (unpE s = 0 → unpX s = (if o = x % 2 then x else subM (modN 0) 0 x) ∧ unpY s = y) := by
  obtain ⟨hx, hy, hO⟩ := onE_iff.1 hon
  have hM := mod0_lt
  have hyU : yU s = y := by rw [yU_eq s hs, hl]; omega
  have hodd : oddU s = decide (o = 1) := by
    unfold oddU
    rw [hl]
    congr 1
    rw [show (y + 57896044618658097711785492504343953926634992332820282019728792003956564819968 * o) / 57896044618658097711785492504343953926634992332820282019728792003956564819968 = o by omega]
  obtain ⟨h1, h2⟩ := ev_of hx (sq_uE hO)
  have hsq : sqU s = true := by unfold sqU; rw [hyU]; exact h1
  have hev : evU s = if x % 2 = 1 then modN 0 - x else x := by unfold evU; rw [hyU]; exact h2
  have hodd2 := modN0_odd
  have hE : unpE s = bif decide (o = 1) && decide (evU s = 0) then 6 else 0 := by
    unfold unpE
    rw [decide_eq_true hs, hyU, decide_eq_true hy, hsq, hodd]; rfl
  have hev0 : evU s = 0 ↔ x = 0 := by
    rw [hev]; split <;> omega
  constructor
  · rw [hE]
    by_cases hc : o = 1 ∧ x = 0
    · rw [if_pos hc, decide_eq_true hc.1, decide_eq_true (hev0.2 hc.2)]; rfl
    · rw [if_neg hc]
      by_cases h3 : o = 1
      · have h4 : ¬ evU s = 0 := fun h => hc ⟨h3, hev0.1 h⟩
        rw [decide_eq_true h3, decide_eq_false h4]; rfl
      · rw [decide_eq_false h3]; rfl
  · intro h0
    obtain ⟨e1, e2⟩ := unp_ok s h0
    rw [e1, e2, hodd, hyU]
    refine ⟨?_, rfl⟩
    have hnc : ¬ (o = 1 ∧ x = 0) := by
      rintro ⟨h3, h4⟩
      rw [hE, decide_eq_true h3, decide_eq_true (hev0.2 h4)] at h0
      cases h0
    by_cases h3 : o = 1
    · have hx0 : x ≠ 0 := fun h => hnc ⟨h3, h⟩
      rw [decide_eq_true h3, cond_true, hev]
      by_cases hp : x % 2 = 1
      · rw [if_pos hp, if_pos (by omega), subM0 (by omega) (by omega)]; omega
      · rw [if_neg hp, if_neg (by omega)]
    · rw [decide_eq_false h3, cond_false, hev]
      by_cases hp : x % 2 = 1
      · rw [if_pos hp, if_neg (by omega), subM0 (by omega) hx]
      · rw [if_neg hp, if_pos (by omega)]
theorem five : ∀ b1 b2 b3 b4 b5 : Bool, (bif b1 then (bif b2 then (bif b3 then (bif b4 && b5 then 6 else 0) else 7) else 6) else 1 : Int) = 0 → b1 = true ∧ b2 = true ∧ b3 = true ∧ (b4 && b5) = false := by decide
theorem unpE_zero {s : ByteArray} (h : unpE s = 0) : s.size = 32 ∧ yU s < modN 0 ∧ sqU s = true ∧ (oddU s = true → evU s ≠ 0) := by
  unfold unpE at h
  obtain ⟨h1, h2, h3, h4⟩ := five _ _ _ _ _ h
  refine ⟨of_decide_eq_true h1, of_decide_eq_true h2, h3, fun ho h0 => ?_⟩
  rw [ho, Bool.true_and] at h4
  exact of_decide_eq_false h4 h0
theorem root_unp {s : ByteArray} (h : unpE s = 0) : unpX s < modN 0 ∧ unpX s % 2 = (if oddU s = true then 1 else 0) ∧ unpX s * unpX s % modN 0 = uE (yU s) := by
  have hodd2 := modN0_odd
  obtain ⟨hs, hy, hsq, hnz⟩ := unpE_zero h
  obtain ⟨e1, e2⟩ := unp_ok s h
  have hev : evU s < modN 0 := evC_lt (by decide)
  have hee : evU s % 2 = 0 := ev_even _
  have hq : evU s * evU s % modN 0 = uE (yU s) := ev_sq hsq
  rw [e1]
  generalize evU s = ev at *
  generalize uE (yU s) = u at *
  generalize hM : modN 0 = M at *
  cases ho : oddU s with
  | false => 
    rw [cond_false, if_neg (by decide)]
    exact ⟨hev, hee, hq⟩
  | true =>
    have h0 := hnz ho
    have e0 : subM M 0 ev = M - ev := by rw [← hM]; exact subM0 h0 (by rw [hM]; exact hev)
    rw [cond_true, e0, if_pos rfl]
    exact ⟨by omega, by omega, by rw [Go.NT.neg_sq (by omega)]; exact hq⟩
theorem on_unp {s : ByteArray} (h : unpE s = 0) : onE (unpX s) (yU s) = true := by
  obtain ⟨hs, hy, hsq, hnz⟩ := unpE_zero h
  obtain ⟨hXl, hXp, hXq⟩ := root_unp h
  refine onE_iff.2 ⟨hXl, hy, on_uE ?_⟩
  have h1 := cz_mod (m := modN 0) (unpX s * unpX s)
  rw [Int.natCast_mul, hXq] at h1
  exact h1.symm
theorem pack_unp {s : ByteArray} (h : unpE s = 0) : onE (unpX s) (unpY s) = true ∧ packB (unpX s) (unpY s) = s := by
  obtain ⟨hs, hy, hsq, hnz⟩ := unpE_zero h
  obtain ⟨hXl, hXp, hXq⟩ := root_unp h
  have hon := on_unp h
  obtain ⟨e1, e2⟩ := unp_ok s h
  rw [e2]
  refine ⟨hon, ?_⟩
  have hl := leS_lt s
  rw [hs] at hl
  have hyU := yU_eq s hs
  unfold packB
  have hd : leS s / 57896044618658097711785492504343953926634992332820282019728792003956564819968 = unpX s % 2 := by
    rw [hXp]
    cases ho : oddU s with
    | true => unfold oddU at ho; rw [if_pos rfl]; exact of_decide_eq_true ho
    | false =>
      unfold oddU at ho
      have := of_decide_eq_false ho
      rw [if_neg (by decide)]; omega
  rw [← hd, hyU, show leS s % 57896044618658097711785492504343953926634992332820282019728792003956564819968 + 57896044618658097711785492504343953926634992332820282019728792003956564819968 * (leS s / 57896044618658097711785492504343953926634992332820282019728792003956564819968) = leS s by omega]
  exact strOf_leS hs
theorem unp_pack {x y : Nat} (hon : onE x y = true) : (packB x y).size = 32 ∧ unpE (packB x y) = 0 ∧ unpX (packB x y) = x ∧ unpY (packB x y) = y := by
  obtain ⟨hx, hy⟩ := onE_lt hon
  have hM := mod0_lt
  have hs : (packB x y).size = 32 := by unfold packB; rw [strOf_size, leB_length]
  have hl : leS (packB x y) = y + 57896044618658097711785492504343953926634992332820282019728792003956564819968 * (x % 2) := leS_leB (by omega)
  obtain ⟨h1, h2⟩ := unp_of hon hs hl (by omega)
  have h0 : unpE (packB x y) = 0 := by rw [h1, if_neg (by omega)]
  obtain ⟨h3, h4⟩ := h2 h0
  rw [if_pos rfl] at h3
  exact ⟨hs, h0, h3, h4⟩
end Go.Ev

namespace Go.Ev.H5
open Go Go.Proofs Go.RowKit
noncomputable def vrS (s : ByteArray) : Nat := leS (hiS s)
noncomputable def vrK (p m s : ByteArray) : Nat := scN ((loS s ++ p) ++ m)
noncomputable def vrB (p m s : ByteArray) : ByteArray := packB (boX (vrS s) bXN bYN (vrK p m s) (subM (modN 0) 0 (unpX p)) (unpY p)) (boY (vrS s) bXN bYN (vrK p m s) (subM (modN 0) 0 (unpX p)) (unpY p))
noncomputable def verE (p m s : ByteArray) : Int := bif decide (p.size = 32) && decide (s.size = 64) then (bif decide (m.size ≤ 4096) then (bif decide (vrS s < modN 2) then unpE p else 6) else 2) else 1
noncomputable def verB (p m s : ByteArray) : Bool := decide (verE p m s = 0) && ((vrB p m s).toList == (loS s).toList)
noncomputable def S23 : FuncId → Nat → Bool := fun f t => match f with | 53 => memN t [18, 22, 27, 30, 36, 43, 46, 48, 50, 68, 69] | 17 => memN t [21] | _ => false
noncomputable def E23 : Env := mkE LS S23
theorem envE23 : EnvOK E23 := envMk LS_ok S23
end Go.Ev.H5

namespace Go.Ev.H5
open Go Go.Proofs Go.RowKit
theorem r23a (p : ByteArray) (m : ByteArray) (s : ByteArray) : callR E23 1000 53 [sS p, sS m, sS s] [true] =
    some ([(!decide ((↑(ByteArray.size p) : Int) = (32 : Int))) = true], .tup [.one (.v (.bool false)), .one (.i 1)]) := by kernel_rfl
theorem r23b (p : ByteArray) (m : ByteArray) (s : ByteArray) : callR E23 1000 53 [sS p, sS m, sS s] [false, true] =
    some ([(!decide ((↑(ByteArray.size p) : Int) = (32 : Int))) = false, (!decide ((↑(ByteArray.size s) : Int) = (64 : Int))) = true], .tup [.one (.v (.bool false)), .one (.i 1)]) := by kernel_rfl
theorem r23c (p : ByteArray) (m : ByteArray) (s : ByteArray) : callR E23 1000 53 [sS p, sS m, sS s] [false, false, true] =
    some ([(!decide ((↑(ByteArray.size p) : Int) = (32 : Int))) = false, (!decide ((↑(ByteArray.size s) : Int) = (64 : Int))) = false, decide ((4096 : Int) < (↑(ByteArray.size m) : Int)) = true], .tup [.one (.v (.bool false)), .one (.i 2)]) := by kernel_rfl
theorem r23d (p : ByteArray) (m : ByteArray) (s : ByteArray) : callR E23 1000 53 [sS p, sS m, sS s] [false, false, false, true] =
    some ([(!decide ((↑(ByteArray.size p) : Int) = (32 : Int))) = false, (!decide ((↑(ByteArray.size s) : Int) = (64 : Int))) = false, decide ((4096 : Int) < (↑(ByteArray.size m) : Int)) = false, (0 : Int) ≤ (32 : Int) ∧ (32 : Int) ≤ (↑(ByteArray.size s) : Int), ByteArray.size (ByteArray.extract s 32 (ByteArray.size s)) = 32, leS (ByteArray.extract s 32 (ByteArray.size s)) < 4294967296 ^ 8, (!ok1 (2 : Int) (leS (ByteArray.extract s 32 (ByteArray.size s)))) = true], .tup [.one (.v (.bool false)), .one (.i 6)]) := by kernel_rfl
theorem r23e (p : ByteArray) (m : ByteArray) (s : ByteArray) : callR E23 1000 53 [sS p, sS m, sS s] [false, false, false, false, true] =
    some ([(!decide ((↑(ByteArray.size p) : Int) = (32 : Int))) = false, (!decide ((↑(ByteArray.size s) : Int) = (64 : Int))) = false, decide ((4096 : Int) < (↑(ByteArray.size m) : Int)) = false, (0 : Int) ≤ (32 : Int) ∧ (32 : Int) ≤ (↑(ByteArray.size s) : Int), ByteArray.size (ByteArray.extract s 32 (ByteArray.size s)) = 32, leS (ByteArray.extract s 32 (ByteArray.size s)) < 4294967296 ^ 8, (!ok1 (2 : Int) (leS (ByteArray.extract s 32 (ByteArray.size s)))) = false, (!decide (unpE p = (0 : Int))) = true], .tup [.one (.v (.bool false)), .one (.i (unpE p))]) := by kernel_rfl
theorem r23t (p : ByteArray) (m : ByteArray) (s : ByteArray) : callR E23 1000 53 [sS p, sS m, sS s] [false, false, false, false, false, true] =
    some ([(!decide ((↑(ByteArray.size p) : Int) = (32 : Int))) = false, (!decide ((↑(ByteArray.size s) : Int) = (64 : Int))) = false, decide ((4096 : Int) < (↑(ByteArray.size m) : Int)) = false, (0 : Int) ≤ (32 : Int) ∧ (32 : Int) ≤ (↑(ByteArray.size s) : Int), ByteArray.size (ByteArray.extract s 32 (ByteArray.size s)) = 32, leS (ByteArray.extract s 32 (ByteArray.size s)) < 4294967296 ^ 8, (!ok1 (2 : Int) (leS (ByteArray.extract s 32 (ByteArray.size s)))) = false, (!decide (unpE p = (0 : Int))) = false, (0 : Int) ≤ (32 : Int) ∧ (32 : Int) ≤ (↑(ByteArray.size s) : Int), ByteArray.size (ByteArray.extract s 0 32) + ByteArray.size p ≤ 9223372036854775807, ByteArray.size (ByteArray.extract s 0 32 ++ p) + ByteArray.size m ≤ 9223372036854775807, ByteArray.size (ByteArray.extract s 0 32 ++ p ++ m) ≤ 100000000000000, unpX p < 4294967296 ^ 8, unpY p < 4294967296 ^ 8, onE (unpX p) (unpY p) = true, leS (ByteArray.extract s 32 (ByteArray.size s)) < 4294967296 ^ 8, bXN < 4294967296 ^ 8, bYN < 4294967296 ^ 8, scN (ByteArray.extract s 0 32 ++ p ++ m) < 4294967296 ^ 8, subM (modN 0) 0 (unpX p) < 4294967296 ^ 8, unpY p < 4294967296 ^ 8, onE bXN bYN = true, onE (subM (modN 0) 0 (unpX p)) (unpY p) = true, boX (leS (ByteArray.extract s 32 (ByteArray.size s))) bXN bYN (scN (ByteArray.extract s 0 32 ++ p ++ m)) (subM (modN 0) 0 (unpX p)) (unpY p) < 4294967296 ^ 8, boY (leS (ByteArray.extract s 32 (ByteArray.size s))) bXN bYN (scN (ByteArray.extract s 0 32 ++ p ++ m)) (subM (modN 0) 0 (unpX p)) (unpY p) < 4294967296 ^ 8, onE (boX (leS (ByteArray.extract s 32 (ByteArray.size s))) bXN bYN (scN (ByteArray.extract s 0 32 ++ p ++ m)) (subM (modN 0) 0 (unpX p)) (unpY p)) (boY (leS (ByteArray.extract s 32 (ByteArray.size s))) bXN bYN (scN (ByteArray.extract s 0 32 ++ p ++ m)) (subM (modN 0) 0 (unpX p)) (unpY p)) = true, (0 : Int) ≤ (32 : Int) ∧ (32 : Int) ≤ (↑(ByteArray.size s) : Int), (ByteArray.toList (packB (boX (leS (ByteArray.extract s 32 (ByteArray.size s))) bXN bYN (scN (ByteArray.extract s 0 32 ++ p ++ m)) (subM (modN 0) 0 (unpX p)) (unpY p)) (boY (leS (ByteArray.extract s 32 (ByteArray.size s))) bXN bYN (scN (ByteArray.extract s 0 32 ++ p ++ m)) (subM (modN 0) 0 (unpX p)) (unpY p))) == ByteArray.toList (ByteArray.extract s 0 32)) = true], .tup [.one (.v (.bool true)), .one (.i 0)]) := by kernel_rfl
theorem r23f (p : ByteArray) (m : ByteArray) (s : ByteArray) : callR E23 1000 53 [sS p, sS m, sS s] [false, false, false, false, false, false] =
    some ([(!decide ((↑(ByteArray.size p) : Int) = (32 : Int))) = false, (!decide ((↑(ByteArray.size s) : Int) = (64 : Int))) = false, decide ((4096 : Int) < (↑(ByteArray.size m) : Int)) = false, (0 : Int) ≤ (32 : Int) ∧ (32 : Int) ≤ (↑(ByteArray.size s) : Int), ByteArray.size (ByteArray.extract s 32 (ByteArray.size s)) = 32, leS (ByteArray.extract s 32 (ByteArray.size s)) < 4294967296 ^ 8, (!ok1 (2 : Int) (leS (ByteArray.extract s 32 (ByteArray.size s)))) = false, (!decide (unpE p = (0 : Int))) = false, (0 : Int) ≤ (32 : Int) ∧ (32 : Int) ≤ (↑(ByteArray.size s) : Int), ByteArray.size (ByteArray.extract s 0 32) + ByteArray.size p ≤ 9223372036854775807, ByteArray.size (ByteArray.extract s 0 32 ++ p) + ByteArray.size m ≤ 9223372036854775807, ByteArray.size (ByteArray.extract s 0 32 ++ p ++ m) ≤ 100000000000000, unpX p < 4294967296 ^ 8, unpY p < 4294967296 ^ 8, onE (unpX p) (unpY p) = true, leS (ByteArray.extract s 32 (ByteArray.size s)) < 4294967296 ^ 8, bXN < 4294967296 ^ 8, bYN < 4294967296 ^ 8, scN (ByteArray.extract s 0 32 ++ p ++ m) < 4294967296 ^ 8, subM (modN 0) 0 (unpX p) < 4294967296 ^ 8, unpY p < 4294967296 ^ 8, onE bXN bYN = true, onE (subM (modN 0) 0 (unpX p)) (unpY p) = true, boX (leS (ByteArray.extract s 32 (ByteArray.size s))) bXN bYN (scN (ByteArray.extract s 0 32 ++ p ++ m)) (subM (modN 0) 0 (unpX p)) (unpY p) < 4294967296 ^ 8, boY (leS (ByteArray.extract s 32 (ByteArray.size s))) bXN bYN (scN (ByteArray.extract s 0 32 ++ p ++ m)) (subM (modN 0) 0 (unpX p)) (unpY p) < 4294967296 ^ 8, onE (boX (leS (ByteArray.extract s 32 (ByteArray.size s))) bXN bYN (scN (ByteArray.extract s 0 32 ++ p ++ m)) (subM (modN 0) 0 (unpX p)) (unpY p)) (boY (leS (ByteArray.extract s 32 (ByteArray.size s))) bXN bYN (scN (ByteArray.extract s 0 32 ++ p ++ m)) (subM (modN 0) 0 (unpX p)) (unpY p)) = true, (0 : Int) ≤ (32 : Int) ∧ (32 : Int) ≤ (↑(ByteArray.size s) : Int), (ByteArray.toList (packB (boX (leS (ByteArray.extract s 32 (ByteArray.size s))) bXN bYN (scN (ByteArray.extract s 0 32 ++ p ++ m)) (subM (modN 0) 0 (unpX p)) (unpY p)) (boY (leS (ByteArray.extract s 32 (ByteArray.size s))) bXN bYN (scN (ByteArray.extract s 0 32 ++ p ++ m)) (subM (modN 0) 0 (unpX p)) (unpY p))) == ByteArray.toList (ByteArray.extract s 0 32)) = false], .tup [.one (.v (.bool false)), .one (.i 0)]) := by kernel_rfl
theorem neg_onE {x y : Nat} (h : onE x y = true) : onE (subM (modN 0) 0 x) y = true := (gneg_on (on_of h)).e
theorem bo_l {k x y m : Nat} (h : onE x y = true) : boX k bXN bYN m x y < 4294967296 ^ 8 ∧ boY k bXN bYN m x y < 4294967296 ^ 8 := dN0 (bo_on onE_base h)
theorem is64 {s : ByteArray} (h : s.size = 64) : (!decide ((s.size : Int) = 64)) = false := by rw [decide_eq_true (by omega)]; rfl
theorem no64 {s : ByteArray} (h : s.size ≠ 64) : (!decide ((s.size : Int) = 64)) = true := by rw [decide_eq_false (by omega)]; rfl
theorem ok1n {a : Nat} (h : ¬ a < modN 2) : (!ok1 2 a) = true := by
  have : ok1 2 a = false := by
    unfold ok1 lessB
    rw [show (2 : Int).toNat = 2 from rfl, decide_eq_false h, Bool.and_false]
  rw [this]; rfl
theorem spec23g (p m s : ByteArray) : Spec 53 [sS p, sS m, sS s] (.tup [.one (.v (.bool (verB p m s))), .one (.i (verE p m s))]) := by
  by_cases e1 : p.size = 32
  · have hp := is32 e1
    by_cases e2 : s.size = 64
    · have hs := is64 e2
      have h3s : (0 : Int) ≤ 32 ∧ (32 : Int) ≤ (s.size : Int) := by omega
      have hz1 : (s.extract 0 32).size = 32 := loS_size e2
      have hz2 : (s.extract 32 s.size).size = 32 := hiS_size e2
      have hl8 : leS (s.extract 32 s.size) < 4294967296 ^ 8 := leS_lt8 hz2
      by_cases e3 : m.size ≤ 4096
      · have hm : decide ((4096 : Int) < (m.size : Int)) = false := decide_eq_false (by omega)
        by_cases e4 : vrS s < modN 2
        · have hv1 : (!ok1 2 (leS (s.extract 32 s.size))) = false := ok12 e4
          by_cases e5 : unpE p = 0
          · have hu : (!decide (unpE p = 0)) = false := by rw [e5]; rfl
            obtain ⟨hon, _⟩ := pack_unp e5
            obtain ⟨hx8, hy8⟩ := dN0 hon
            have hE : verE p m s = 0 := by unfold verE; rw [decide_eq_true e1, decide_eq_true e2, Bool.and_self, cond_true, decide_eq_true e3, cond_true, decide_eq_true e4, cond_true, e5]
            have hB : verB p m s = ((vrB p m s).toList == (loS s).toList) := by unfold verB; rw [hE]; rfl
            rw [hE]
            cases hf : ((vrB p m s).toList == (loS s).toList) with
            | true =>
              have hfin : ((vrB p m s).toList == (loS s).toList) = true := hf
              rw [hB, hf]
              exact spec_run envE23 rfl (r23t p m s) ⟨hp, hs, hm, h3s, hz2, hl8, hv1, hu, h3s, (by simp only [ByteArray.size_append, hz1]; omega), (by simp only [ByteArray.size_append, hz1]; omega), (by simp only [ByteArray.size_append, hz1]; omega), hx8, hy8, hon, hl8, (L8 bXN_lt), (L8 bYN_lt), (by first | with_reducible assumption | with_reducible exact scN_lt _ | with_reducible exact L8 (scN_lt _) | with_reducible exact mlN_lt _ | with_reducible exact L8 (mlN_lt _) | with_reducible exact mulM_lt (modN_pos 2) | with_reducible exact L8 (mulM_lt (modN_pos 2)) | with_reducible exact L8 (addM_lt (modN_pos 2)) | with_reducible exact rem2_lt _ | with_reducible exact L8 (rem2_lt _) | with_reducible exact exK_lt _ | with_reducible exact joinN_lt0 (exK_lt _) | with_reducible exact onE_base | with_reducible exact nm_on onE_base | with_reducible exact (nm_lt _).1 | with_reducible exact (nm_lt _).2 | with_reducible exact sum5_size _ | with_reducible exact lit0 | (simp only [ByteArray.size_append, pubB_size, packB_size, exR_size, strOf_size, leB_length]; omega) | exact decide_eq_true (by omega) | exact decide_eq_false (by omega) | omega), (L8 (subM_lt (modN_pos _))), hy8, onE_base, (neg_onE hon), (bo_l (neg_onE hon)).1, (bo_l (neg_onE hon)).2, (bo_on onE_base (neg_onE hon)), h3s, hfin, trivial⟩ rfl rfl
            | false =>
              have hfin : ((vrB p m s).toList == (loS s).toList) = false := hf
              rw [hB, hf]
              exact spec_run envE23 rfl (r23f p m s) ⟨hp, hs, hm, h3s, hz2, hl8, hv1, hu, h3s, (by simp only [ByteArray.size_append, hz1]; omega), (by simp only [ByteArray.size_append, hz1]; omega), (by simp only [ByteArray.size_append, hz1]; omega), hx8, hy8, hon, hl8, (L8 bXN_lt), (L8 bYN_lt), (by first | with_reducible assumption | with_reducible exact scN_lt _ | with_reducible exact L8 (scN_lt _) | with_reducible exact mlN_lt _ | with_reducible exact L8 (mlN_lt _) | with_reducible exact mulM_lt (modN_pos 2) | with_reducible exact L8 (mulM_lt (modN_pos 2)) | with_reducible exact L8 (addM_lt (modN_pos 2)) | with_reducible exact rem2_lt _ | with_reducible exact L8 (rem2_lt _) | with_reducible exact exK_lt _ | with_reducible exact joinN_lt0 (exK_lt _) | with_reducible exact onE_base | with_reducible exact nm_on onE_base | with_reducible exact (nm_lt _).1 | with_reducible exact (nm_lt _).2 | with_reducible exact sum5_size _ | with_reducible exact lit0 | (simp only [ByteArray.size_append, pubB_size, packB_size, exR_size, strOf_size, leB_length]; omega) | exact decide_eq_true (by omega) | exact decide_eq_false (by omega) | omega), (L8 (subM_lt (modN_pos _))), hy8, onE_base, (neg_onE hon), (bo_l (neg_onE hon)).1, (bo_l (neg_onE hon)).2, (bo_on onE_base (neg_onE hon)), h3s, hfin, trivial⟩ rfl rfl
          · have hu : (!decide (unpE p = 0)) = true := by rw [decide_eq_false e5]; rfl
            have hE : verE p m s = unpE p := by unfold verE; rw [decide_eq_true e1, decide_eq_true e2, Bool.and_self, cond_true, decide_eq_true e3, cond_true, decide_eq_true e4, cond_true]
            have hB : verB p m s = false := by unfold verB; rw [hE, decide_eq_false e5, Bool.false_and]
            rw [hE, hB]
            exact spec_run envE23 rfl (r23e p m s) ⟨hp, hs, hm, h3s, hz2, hl8, hv1, hu, trivial⟩ rfl rfl
        · have hv1 : (!ok1 2 (leS (s.extract 32 s.size))) = true := ok1n e4
          have hE : verE p m s = 6 := by unfold verE; rw [decide_eq_true e1, decide_eq_true e2, Bool.and_self, cond_true, decide_eq_true e3, cond_true, decide_eq_false e4, cond_false]
          have hB : verB p m s = false := by unfold verB; rw [hE]; rfl
          rw [hE, hB]
          exact spec_run envE23 rfl (r23d p m s) ⟨hp, hs, hm, h3s, hz2, hl8, hv1, trivial⟩ rfl rfl
      · have hnm : decide ((4096 : Int) < (m.size : Int)) = true := decide_eq_true (by omega)
        have hE : verE p m s = 2 := by unfold verE; rw [decide_eq_true e1, decide_eq_true e2, Bool.and_self, cond_true, decide_eq_false e3, cond_false]
        have hB : verB p m s = false := by unfold verB; rw [hE]; rfl
        rw [hE, hB]
        exact spec_run envE23 rfl (r23c p m s) ⟨hp, hs, hnm, trivial⟩ rfl rfl
    · have hns := no64 e2
      have hE : verE p m s = 1 := by unfold verE; rw [decide_eq_false e2, Bool.and_false, cond_false]
      have hB : verB p m s = false := by unfold verB; rw [hE]; rfl
      rw [hE, hB]
      exact spec_run envE23 rfl (r23b p m s) ⟨hp, hns, trivial⟩ rfl rfl
  · have hnp := no32 e1
    have hE : verE p m s = 1 := by unfold verE; rw [decide_eq_false e1, Bool.false_and, cond_false]
    have hB : verB p m s = false := by unfold verB; rw [hE]; rfl
    rw [hE, hB]
    exact spec_run envE23 rfl (r23a p m s) ⟨hnp, trivial⟩ rfl rfl
end Go.Ev.H5

