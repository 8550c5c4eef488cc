/- Ed25519: what the program and the page come to, and the law -/
import Derived.Test.YtfcobjhnkghdjaaGreatPartN
import Derived.Test.YtfcobjhnkghdjaaGreatPartL
namespace Go.Ev.H5.Ed
open Go Go.Proofs Go.RowKit
def fnRem (vs : List V1) : Option (List Prop × AV) :=
 match vs with
 | [x, y] => match numP 16 x, numP 8 y with
  | some (o, a), some (o', b) => some ((0 < b) :: (o ++ o'), .tup [N8 (remN a b), .one (.i 0)])
  | _, _ => none
 | _ => none
theorem ctRem : CTok ⟨154, fnRem⟩ := by
 intro vs ob r h ho
 simp only [fnRem] at h
 split at h
 ·split at h
  ·rename_i o a o' b hx hy
   simp only [Option.some.injEq, Prod.mk.injEq] at h
   obtain ⟨rfl, rfl⟩ := h
   obtain ⟨h0, ho⟩ := ho
   rw [All_append] at ho
   obtain ⟨h1, h2⟩ := numP_spec hx ho.1
   obtain ⟨h3, h4⟩ := numP_spec hy ho.2
   exact (spec48 a b h1 h3 h0).congr (fun φ => by simp only [List.map_cons, List.map_nil]; rw [← h2 φ, ← h4 φ]; rfl) (fun _ => rfl)
  ·simp at h
 ·simp at h
noncomputable def LN : List CT := ⟨154, fnRem⟩ :: ⟨159, fn2 fun a b => .val (N16 (a * b))⟩ :: ⟨155, fn2 fun a b => .val (N16 (joinN a b))⟩ :: ⟨158, fn1 fun a => .val (N16 (joinN a 0))⟩ :: LPk
theorem LN_ok : AllCT LN := ⟨ctRem, fun _ _ _ h ho => fn2_ok spec92 h ho, fun _ _ _ h ho => fn2_ok spec77 h ho, fun _ _ _ h ho => fn1_ok spec73 h ho, LPk_ok⟩
noncomputable def LF : List CT := LN
theorem LF_ok : AllCT LF := LN_ok
end Go.Ev.H5.Ed

namespace Go.Ev.H5.Ed
open Go Go.Proofs Go.RowKit
theorem r55 (k : Nat) (px : Nat) (py : Nat) : callR E12 1000 93 [N8 k, P2 px py] [] =
  some ([modN 0 < 4294967296 ^ 8, facN 0 < 4294967296, twE < 4294967296 ^ 8, px < 4294967296 ^ 8, py < 4294967296 ^ 8, modN 0 = modN 0, facN 0 = facN 0, twE = twE, px < modN 0, py < modN 0, modN 0 < 4294967296 ^ 8, facN 0 < 4294967296, twE < 4294967296 ^ 8, k < 4294967296 ^ 8, inN (modN 0) px < 4294967296 ^ 8, inN (modN 0) py < 4294967296 ^ 8, inN (modN 0) 1 < 4294967296 ^ 8, mmN (modN 0) (inN (modN 0) px) (inN (modN 0) py) < 4294967296 ^ 8, modN 0 = modN 0, facN 0 = facN 0, twE = twE, E4.lt (eLift px py), modN 0 < 4294967296 ^ 8, facN 0 < 4294967296, twE < 4294967296 ^ 8, (eTimes k (eLift px py)).1 < 4294967296 ^ 8, (eTimes k (eLift px py)).2 < 4294967296 ^ 8, (eTimes k (eLift px py)).3 < 4294967296 ^ 8, (eTimes k (eLift px py)).4 < 4294967296 ^ 8, modN 0 = modN 0, facN 0 = facN 0, twE = twE, E4.lt (E4.mk (E4.x (eTimes k (eLift px py))) (E4.y (eTimes k (eLift px py))) (E4.z (eTimes k (eLift px py))) (E4.t (eTimes k (eLift px py))))], .val (dwn (timE k px py))) := by kernel_rfl
noncomputable def gMul : List Val → Option (List Prop × AV)
 | [.n k, .n px, .n py] => some ([onE px py = true], .val (P2 (nmX k px py) (nmY k px py)))
 | _ => none
theorem ct55 : CTok ⟨93, fnS [aN, aPt] gMul⟩ := ctS (by
 intro xs ob r hb h ho
 unfold gMul at h
 split at h
 ·rename_i k px py
  simp only [Option.some.injEq, Prod.mk.injEq] at h
  obtain ⟨rfl, rfl⟩ := h
  obtain ⟨⟨b0, _⟩, ⟨b1, b2, _⟩, _⟩ := hb
  obtain ⟨hu, _⟩ := ho
  obtain ⟨h1, h2⟩ := onE_lt hu
  have hS := spec_run envE12 rfl (r55 k px py) ⟨(modN_lt _), (facN_lt32 0), (L8 twE_lt), (by first | with_reducible assumption | with_reducible exact L8 (by with_reducible assumption) | exact decide_eq_true (by omega) | exact decide_eq_false (by omega) | omega), (by first | with_reducible assumption | with_reducible exact L8 (by with_reducible assumption) | exact decide_eq_true (by omega) | exact decide_eq_false (by omega) | omega), rfl, rfl, rfl, (by first | with_reducible assumption | with_reducible exact L8 (by with_reducible assumption) | exact decide_eq_true (by omega) | exact decide_eq_false (by omega) | omega), (by first | with_reducible assumption | with_reducible exact L8 (by with_reducible assumption) | exact decide_eq_true (by omega) | exact decide_eq_false (by omega) | omega), (modN_lt _), (facN_lt32 0), (L8 twE_lt), (by first | with_reducible assumption | with_reducible exact L8 (by with_reducible assumption) | exact decide_eq_true (by omega) | exact decide_eq_false (by omega) | omega), (L8 (inN_lt (modN_pos _))), (L8 (inN_lt (modN_pos _))), (L8 (inN_lt (modN_pos _))), (L8 (mmN_lt (modN_pos _))), rfl, rfl, rfl, (by first | with_reducible assumption | exact eAdd_lt _ _ | exact eLift_lt _ _ | exact eTimes_lt _ _ | exact hxx), (modN_lt _), (facN_lt32 0), (L8 twE_lt), (by first | with_reducible exact E4.ltx (eTimes_lt _ _) | with_reducible exact E4.lty (eTimes_lt _ _) | with_reducible exact E4.ltz (eTimes_lt _ _) | with_reducible exact E4.ltt (eTimes_lt _ _)), (by first | with_reducible exact E4.ltx (eTimes_lt _ _) | with_reducible exact E4.lty (eTimes_lt _ _) | with_reducible exact E4.ltz (eTimes_lt _ _) | with_reducible exact E4.ltt (eTimes_lt _ _)), (by first | with_reducible exact E4.ltx (eTimes_lt _ _) | with_reducible exact E4.lty (eTimes_lt _ _) | with_reducible exact E4.ltz (eTimes_lt _ _) | with_reducible exact E4.ltt (eTimes_lt _ _)), (by first | with_reducible exact E4.ltx (eTimes_lt _ _) | with_reducible exact E4.lty (eTimes_lt _ _) | with_reducible exact E4.ltz (eTimes_lt _ _) | with_reducible exact E4.ltt (eTimes_lt _ _)), rfl, rfl, rfl, (by first | with_reducible assumption | exact eAdd_lt _ _ | exact eLift_lt _ _ | exact eTimes_lt _ _ | exact hxx), trivial⟩ rfl rfl
  unfold dwn at hS
  rw [(times_eq b0 hu).1, (times_eq b0 hu).2] at hS
  exact hS
 ·simp at h)
theorem ct35 : CTok ⟨69, fnS [aN, aPt] gMul⟩ := ctS (by
 intro xs ob r hb h ho
 unfold gMul at h
 split at h
 ·rename_i k px py
  simp only [Option.some.injEq, Prod.mk.injEq] at h
  obtain ⟨rfl, rfl⟩ := h
  obtain ⟨⟨b0, _⟩, ⟨b1, b2, _⟩, _⟩ := hb
  obtain ⟨hu, _⟩ := ho
  have hS := spec30e b0 hu
  unfold dwn at hS
  rw [(times_eq b0 hu).1, (times_eq b0 hu).2] at hS
  exact hS
 ·simp at h)
noncomputable def LM : List CT := ⟨93, fnS [aN, aPt] gMul⟩ :: ⟨69, fnS [aN, aPt] gMul⟩ :: LF
theorem LM_ok : AllCT LM := ⟨ct55, ct35, LF_ok⟩
end Go.Ev.H5.Ed

namespace Go.Ev.H5.Ed
open Go Go.Proofs Go.RowKit
def lo3 (x : Nat) : Nat := x % 4294967296 &&& (4294967296 - 1 - 7 % 4294967296)
def hi2 (x : Nat) : Nat := (x % 4294967296 &&& 2147483647 % 4294967296) % 4294967296 ||| 1073741824 % 4294967296
noncomputable def LX : List CT := ⟨61, fnS5⟩ :: ⟨51, fnS5⟩ :: ⟨91, fn84y⟩ :: ⟨53, fn87s⟩ :: ⟨17, fnZs⟩ :: ⟨92, fnS [.s [.n8, .n8]] gP82⟩ :: LM
theorem LX_ok : AllCT LX := ⟨ct54, ct34, ct84y, ct87s, ct21z, ct82p, LM_ok⟩
noncomputable def S26 : FuncId → Nat → Bool := fun f t => match f with | 62 => memN t [11, 26] | 67 => memN t [9, 22] | _ => false
noncomputable def E26 : Env := mkE LX S26
theorem envE26 : EnvOK E26 := envMk LX_ok S26
end Go.Ev.H5.Ed

namespace Go.Ev.H5.Ed
open Go Go.Proofs Go.RowKit
def x26 (a : Nat) : List Piece := [.a (.u .u32 (lo3 (a % 4294967296))), .a (.u .u32 (a / 4294967296 % 4294967296)), .a (.u .u32 (a / 4294967296 / 4294967296 % 4294967296)), .a (.u .u32 (a / 4294967296 / 4294967296 / 4294967296 % 4294967296)),
 .a (.u .u32 (a / 4294967296 / 4294967296 / 4294967296 / 4294967296 % 4294967296)), .a (.u .u32 (a / 4294967296 / 4294967296 / 4294967296 / 4294967296 / 4294967296 % 4294967296)), .a (.u .u32 (a / 4294967296 / 4294967296 / 4294967296 / 4294967296 / 4294967296 / 4294967296 % 4294967296)),
 .a (.u .u32 (hi2 (a / 4294967296 / 4294967296 / 4294967296 / 4294967296 / 4294967296 / 4294967296 / 4294967296 % 4294967296)))]
def clL (a : Nat) : Nat → Nat
 | 0 => lo3 (limb a 0)
 | 7 => hi2 (limb a 7)
 | i => limb a i
theorem lo3_lt (x : Nat) : lo3 x < 4294967296 := Nat.lt_of_le_of_lt Nat.and_le_left (Nat.mod_lt _ (by decide))
theorem hi2_lt (x : Nat) : hi2 x < 4294967296 := or_lt32 (Nat.mod_lt _ (by decide)) (by decide)
theorem clL_lt (a i : Nat) : clL a i < 4294967296 := by
 unfold clL
 split
 ·exact lo3_lt _
 ·exact hi2_lt _
 ·exact limb_lt a _
def expN (a : Nat) : Nat := valU 8 0 (clL a)
theorem expN_lt (a : Nat) : expN a < 4294967296 ^ 8 := valU_lt _ 8 0 fun i _ _ => clL_lt a i
theorem x26_conc (φ : Loc) (a : Nat) : concs φ (x26 a) = concs φ [.num 8 (expN a)] := by
 unfold expN
 rw [concs_valU φ (clL a) 8 fun i _ => clL_lt a i]
 unfold x26
 simp only [Nat.div_div_eq_div_mul, cellsU, clL, limb, Nat.reduceAdd, Nat.pow_zero, Nat.div_one, Nat.pow_one, Nat.reduceMul, Nat.reducePow]
noncomputable def loS (s : ByteArray) : ByteArray := s.extract 0 32
noncomputable def hiS (s : ByteArray) : ByteArray := s.extract 32 s.size
theorem loS_size {s : ByteArray} (h : s.size = 64) : (loS s).size = 32 := by unfold loS; rw [cut_size _ _ _ (by omega)]
noncomputable def exK (s : ByteArray) : Nat := expN (leS (loS (sum5 s)))
noncomputable def exR (s : ByteArray) : ByteArray := hiS (sum5 s)
theorem r26 (s : ByteArray) : callR E26 1000 62 [sS s] [] =
  some ([s.size ≤ 100000000000000, (0 : Int) ≤ 32 ∧ (32 : Int) ≤ ((sum5 s).size : Int), (loS (sum5 s)).size = 32, (0 : Int) ≤ 32 ∧ (32 : Int) ≤ ((sum5 s).size : Int)], .tup [.agg (x26 (leS (loS (sum5 s)))), sS (exR s)]) := by kernel_rfl
theorem r12 (s : ByteArray) : callR E26 1000 67 [sS s] [] =
  some ([s.size ≤ 100000000000000, (0 : Int) ≤ 32 ∧ (32 : Int) ≤ ((sum5 s).size : Int), (loS (sum5 s)).size = 32, (0 : Int) ≤ 32 ∧ (32 : Int) ≤ ((sum5 s).size : Int)], .tup [.agg (x26 (leS (loS (sum5 s)))), sS (exR s)]) := by kernel_rfl
noncomputable def pubB (k : Nat) : ByteArray := packB (nmX k bXN bYN) (nmY k bXN bYN)
theorem r27 (k : Nat) : callR E26 1000 63 [N8 k] [] =
  some ([k < 4294967296 ^ 8, bXN < 4294967296 ^ 8, bYN < 4294967296 ^ 8, onE bXN bYN = true, nmX k bXN bYN < 4294967296 ^ 8, nmY k bXN bYN < 4294967296 ^ 8, onE (nmX k bXN bYN) (nmY k bXN bYN) = true], .val (sS (pubB k))) := by kernel_rfl
theorem ex_ok (s : ByteArray) (h : s.size ≤ 100000000000000) : Spec 62 [sS s] (.tup [N8 (exK s), sS (exR s)]) := by
 have hz := sum5_size s
 refine (spec_run envE26 rfl (r26 s) ⟨h, by omega, loS_size hz, by omega, trivial⟩ rfl rfl).congr (fun _ => rfl) (fun φ => ?_)
 simp only [AV.conc, List.map_cons, List.map_nil, V1.conc, N8, x26_conc φ, exK]
theorem ex_ok' (s : ByteArray) (h : s.size ≤ 100000000000000) : Spec 67 [sS s] (.tup [N8 (exK s), sS (exR s)]) := by
 have hz := sum5_size s
 refine (spec_run envE26 rfl (r12 s) ⟨h, by omega, loS_size hz, by omega, trivial⟩ rfl rfl).congr (fun _ => rfl) (fun φ => ?_)
 simp only [AV.conc, List.map_cons, List.map_nil, V1.conc, N8, x26_conc φ, exK]
noncomputable def fnEx (vs : List V1) : Option (List Prop × AV) :=
 match vs with
 | [.one (.v (.string s))] => some ([s.size ≤ 100000000000000], .tup [N8 (exK s), sS (exR s)])
 | _ => none
theorem ct26 : CTok ⟨62, fnEx⟩ := by
 intro vs ob r h ho
 simp only [fnEx] at h
 split at h
 ·simp only [Option.some.injEq, Prod.mk.injEq] at h
  obtain ⟨rfl, rfl⟩ := h
  exact ex_ok _ ho.1
 ·simp at h
theorem ct12 : CTok ⟨67, fnEx⟩ := by
 intro vs ob r h ho
 simp only [fnEx] at h
 split at h
 ·simp only [Option.some.injEq, Prod.mk.injEq] at h
  obtain ⟨rfl, rfl⟩ := h
  exact ex_ok' _ ho.1
 ·simp at h
theorem nm_lt (k : Nat) : nmX k bXN bYN < 4294967296 ^ 8 ∧ nmY k bXN bYN < 4294967296 ^ 8 := dN0 (nm_on onE_base)
theorem ct27 : CTok ⟨63, fn1 fun k => .val (sS (pubB k))⟩ := fun _ _ _ h ho => fn1_ok (fun k hk => spec_run envE26 rfl (r27 k) ⟨hk, L8 bXN_lt, L8 bYN_lt, onE_base, (nm_lt k).1, (nm_lt k).2, nm_on onE_base, trivial⟩ rfl rfl) h ho
noncomputable def LY : List CT := ⟨62, fnEx⟩ :: ⟨67, fnEx⟩ :: ⟨63, fn1 fun k => .val (sS (pubB k))⟩ :: LX
theorem LY_ok : AllCT LY := ⟨ct26, ct12, ct27, LX_ok⟩
end Go.Ev.H5.Ed

namespace Go.Ev.H5.Ed
open Go Go.Proofs Go.RowKit
noncomputable def S11 : FuncId → Nat → Bool := fun f t => match f with | 40 => memN t [8] | _ => false
noncomputable def LS : List CT := ⟨108, fLit⟩ :: ⟨99, fLit⟩ :: LY
theorem LS_ok : AllCT LS := ⟨ctLit110, ctLit83, LY_ok⟩
noncomputable def E11 : Env := mkE LS S11
theorem envE11 : EnvOK E11 := envMk LS_ok S11
def e0 : ByteArray := ⟨#[]⟩
end Go.Ev.H5.Ed

namespace Go.Ev.H5.Ed
open Go Go.Proofs Go.RowKit
theorem r10y (s : ByteArray) : callR E11 1000 40 [sS s] [false] =
  some ([(!decide ((↑(ByteArray.size s) : Int) = (32 : Int))) = false, ByteArray.size s ≤ 100000000000000, exK s < 4294967296 ^ 8], .tup [sS (pubB (exK s)), .one (.i 0)]) := by kernel_rfl
theorem r10n (s : ByteArray) : callR E11 1000 40 [sS s] [true] =
  some ([(!decide ((↑(ByteArray.size s) : Int) = (32 : Int))) = true], .tup [sS e0, .one (.i 1)]) := by kernel_rfl
theorem r13 (s : ByteArray) : callR E11 1000 42 [sS s] [] =
  some ([ByteArray.size s ≤ 100000000000000, exK s < 4294967296 ^ 8, bXN < 4294967296 ^ 8, bYN < 4294967296 ^ 8, onE bXN bYN = true, nmX (exK s) bXN bYN < 4294967296 ^ 8, nmY (exK s) bXN bYN < 4294967296 ^ 8, onE (nmX (exK s) bXN bYN) (nmY (exK s) bXN bYN) = true], .val (sS (pubB (exK s)))) := by kernel_rfl
theorem exK_lt (s : ByteArray) : exK s < 4294967296 ^ 8 := expN_lt _
theorem is32 {s : ByteArray} (h : s.size = 32) : (!decide ((s.size : Int) = 32)) = false := by rw [decide_eq_true (by omega)]; rfl
theorem no32 {s : ByteArray} (h : s.size ≠ 32) : (!decide ((s.size : Int) = 32)) = true := by rw [decide_eq_false (by omega)]; rfl
noncomputable def expE (s : ByteArray) : Int := bif decide (s.size = 32) then 0 else 1
noncomputable def pubZ (s : ByteArray) : ByteArray := bif decide (s.size = 32) then pubB (exK s) else e0
theorem spec10 (s : ByteArray) : Spec 40 [sS s] (.tup [sS (pubZ s), .one (.i (expE s))]) := by
 unfold pubZ expE
 by_cases h : s.size = 32
 ·rw [decide_eq_true h]
  rw [cond_true, cond_true]
  have hs : s.size ≤ 100000000000000 := by omega
  have h32 := is32 h
  have hk := exK_lt s
  exact spec_run envE11 rfl (r10y s) ⟨h32, (by first | with_reducible assumption | with_reducible exact scN_lt _ | with_reducible exact L8 (scN_lt _) | with_reducible exact mlN_lt _ | with_reducible exact L8 (mlN_lt _) | with_reducible exact mulM_lt (modN_pos 2) | with_reducible exact L8 (mulM_lt (modN_pos 2)) | with_reducible exact L8 (addM_lt (modN_pos 2)) | with_reducible exact rem2_lt _ | with_reducible exact L8 (rem2_lt _) | with_reducible exact exK_lt _ | with_reducible exact joinN_lt0 (exK_lt _) | with_reducible exact onE_base | with_reducible exact nm_on onE_base | with_reducible exact (nm_lt _).1 | with_reducible exact (nm_lt _).2 | with_reducible exact sum5_size _ | with_reducible exact lit0 | (simp only [ByteArray.size_append, pubB_size, packB_size, exR_size, strOf_size, leB_length]; omega) | exact decide_eq_true (by omega) | exact decide_eq_false (by omega) | omega), (by first | with_reducible assumption | with_reducible exact scN_lt _ | with_reducible exact L8 (scN_lt _) | with_reducible exact mlN_lt _ | with_reducible exact L8 (mlN_lt _) | with_reducible exact mulM_lt (modN_pos 2) | with_reducible exact L8 (mulM_lt (modN_pos 2)) | with_reducible exact L8 (addM_lt (modN_pos 2)) | with_reducible exact rem2_lt _ | with_reducible exact L8 (rem2_lt _) | with_reducible exact exK_lt _ | with_reducible exact joinN_lt0 (exK_lt _) | with_reducible exact onE_base | with_reducible exact nm_on onE_base | with_reducible exact (nm_lt _).1 | with_reducible exact (nm_lt _).2 | with_reducible exact sum5_size _ | with_reducible exact lit0 | (simp only [ByteArray.size_append, pubB_size, packB_size, exR_size, strOf_size, leB_length]; omega) | exact decide_eq_true (by omega) | exact decide_eq_false (by omega) | omega), trivial⟩ rfl rfl
 ·rw [decide_eq_false h]
  rw [cond_false, cond_false]
  have hn32 := no32 h
  exact spec_run envE11 rfl (r10n s) ⟨hn32, trivial⟩ rfl rfl
theorem spec13 (s : ByteArray) (hs : s.size ≤ 100000000000000) : Spec 42 [sS s] (.val (sS (pubB (exK s)))) :=
 spec_run envE11 rfl (r13 s) ⟨(by first | with_reducible assumption | with_reducible exact scN_lt _ | with_reducible exact L8 (scN_lt _) | with_reducible exact mlN_lt _ | with_reducible exact L8 (mlN_lt _) | with_reducible exact mulM_lt (modN_pos 2) | with_reducible exact L8 (mulM_lt (modN_pos 2)) | with_reducible exact L8 (addM_lt (modN_pos 2)) | with_reducible exact rem2_lt _ | with_reducible exact L8 (rem2_lt _) | with_reducible exact exK_lt _ | with_reducible exact joinN_lt0 (exK_lt _) | with_reducible exact onE_base | with_reducible exact nm_on onE_base | with_reducible exact (nm_lt _).1 | with_reducible exact (nm_lt _).2 | with_reducible exact sum5_size _ | with_reducible exact lit0 | (simp only [ByteArray.size_append, pubB_size, packB_size, exR_size, strOf_size, leB_length]; omega) | exact decide_eq_true (by omega) | exact decide_eq_false (by omega) | omega), (by first | with_reducible assumption | with_reducible exact scN_lt _ | with_reducible exact L8 (scN_lt _) | with_reducible exact mlN_lt _ | with_reducible exact L8 (mlN_lt _) | with_reducible exact mulM_lt (modN_pos 2) | with_reducible exact L8 (mulM_lt (modN_pos 2)) | with_reducible exact L8 (addM_lt (modN_pos 2)) | with_reducible exact rem2_lt _ | with_reducible exact L8 (rem2_lt _) | with_reducible exact exK_lt _ | with_reducible exact joinN_lt0 (exK_lt _) | with_reducible exact onE_base | with_reducible exact nm_on onE_base | with_reducible exact (nm_lt _).1 | with_reducible exact (nm_lt _).2 | with_reducible exact sum5_size _ | with_reducible exact lit0 | (simp only [ByteArray.size_append, pubB_size, packB_size, exR_size, strOf_size, leB_length]; omega) | exact decide_eq_true (by omega) | exact decide_eq_false (by omega) | omega), (L8 bXN_lt), (L8 bYN_lt), onE_base, (by first | with_reducible assumption | with_reducible exact scN_lt _ | with_reducible exact L8 (scN_lt _) | with_reducible exact mlN_lt _ | with_reducible exact L8 (mlN_lt _) | with_reducible exact mulM_lt (modN_pos 2) | with_reducible exact L8 (mulM_lt (modN_pos 2)) | with_reducible exact L8 (addM_lt (modN_pos 2)) | with_reducible exact rem2_lt _ | with_reducible exact L8 (rem2_lt _) | with_reducible exact exK_lt _ | with_reducible exact joinN_lt0 (exK_lt _) | with_reducible exact onE_base | with_reducible exact nm_on onE_base | with_reducible exact (nm_lt _).1 | with_reducible exact (nm_lt _).2 | with_reducible exact sum5_size _ | with_reducible exact lit0 | (simp only [ByteArray.size_append, pubB_size, packB_size, exR_size, strOf_size, leB_length]; omega) | exact decide_eq_true (by omega) | exact decide_eq_false (by omega) | omega), (by first | with_reducible assumption | with_reducible exact scN_lt _ | with_reducible exact L8 (scN_lt _) | with_reducible exact mlN_lt _ | with_reducible exact L8 (mlN_lt _) | with_reducible exact mulM_lt (modN_pos 2) | with_reducible exact L8 (mulM_lt (modN_pos 2)) | with_reducible exact L8 (addM_lt (modN_pos 2)) | with_reducible exact rem2_lt _ | with_reducible exact L8 (rem2_lt _) | with_reducible exact exK_lt _ | with_reducible exact joinN_lt0 (exK_lt _) | with_reducible exact onE_base | with_reducible exact nm_on onE_base | with_reducible exact (nm_lt _).1 | with_reducible exact (nm_lt _).2 | with_reducible exact sum5_size _ | with_reducible exact lit0 | (simp only [ByteArray.size_append, pubB_size, packB_size, exR_size, strOf_size, leB_length]; omega) | exact decide_eq_true (by omega) | exact decide_eq_false (by omega) | omega), (by first | with_reducible assumption | with_reducible exact scN_lt _ | with_reducible exact L8 (scN_lt _) | with_reducible exact mlN_lt _ | with_reducible exact L8 (mlN_lt _) | with_reducible exact mulM_lt (modN_pos 2) | with_reducible exact L8 (mulM_lt (modN_pos 2)) | with_reducible exact L8 (addM_lt (modN_pos 2)) | with_reducible exact rem2_lt _ | with_reducible exact L8 (rem2_lt _) | with_reducible exact exK_lt _ | with_reducible exact joinN_lt0 (exK_lt _) | with_reducible exact onE_base | with_reducible exact nm_on onE_base | with_reducible exact (nm_lt _).1 | with_reducible exact (nm_lt _).2 | with_reducible exact sum5_size _ | with_reducible exact lit0 | (simp only [ByteArray.size_append, pubB_size, packB_size, exR_size, strOf_size, leB_length]; omega) | exact decide_eq_true (by omega) | exact decide_eq_false (by omega) | omega), trivial⟩ rfl rfl
end Go.Ev.H5.Ed

