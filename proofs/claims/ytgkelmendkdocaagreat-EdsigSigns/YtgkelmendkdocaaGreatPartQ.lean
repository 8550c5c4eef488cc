/- Ed25519: what the program and the page come to, and the law -/
import Derived.Test.YtgkelmendkdocaaGreatPartP
import Derived.Test.YtgkelmendkdocaaGreatPartM
import Derived.Test.YtgkelmendkdocaaGreatPartO
namespace Go.Ev.H5
open Go Go.Proofs Go.RowKit
def fnRem (vs : List V1) : Option (List Prop × AV) :=
  match vs with
  | [x, y] => match numP 16 x, numP 8 y with
    | some (o, a), some (o', b) => some ((0 < b) :: (o ++ o'), .tup [N8 (remN a b), .one (.i 0)])
    | _, _ => none
  | _ => none
theorem ctRem : CTok ⟨58, fnRem⟩ := by
  intro vs ob r h ho
  simp only [fnRem] at h
  split at h
  · split at h
    · rename_i o a o' b hx hy
      simp only [Option.some.injEq, Prod.mk.injEq] at h
      obtain ⟨rfl, rfl⟩ := h
      obtain ⟨h0, ho⟩ := ho
      rw [All_append] at ho
      obtain ⟨h1, h2⟩ := numP_spec hx ho.1
      obtain ⟨h3, h4⟩ := numP_spec hy ho.2
      exact (spec48 a b h1 h3 h0).congr (fun φ => by simp only [List.map_cons, List.map_nil]; rw [← h2 φ, ← h4 φ]; rfl) (fun _ => rfl)
    · simp at h
  · simp at h
noncomputable def LN : List CT := ⟨58, fnRem⟩ :: ⟨129, fn2 fun a b => .val (N16 (a * b))⟩ :: ⟨56, fn2 fun a b => .val (N16 (joinN a b))⟩ :: ⟨30, fn1 fun a => .val (N16 (joinN a 0))⟩ :: LPk
theorem LN_ok : AllCT LN := ⟨ctRem, fun _ _ _ h ho => fn2_ok spec92 h ho, fun _ _ _ h ho => fn2_ok spec77 h ho, fun _ _ _ h ho => fn1_ok spec73 h ho, LPk_ok⟩
theorem r29 (a : Nat) : callR (mkE LN noS) 1000 29 [zV 2, N16 a] [] =
    some ([0 < modN 2, a < 4294967296 ^ 16, modN 2 < 4294967296 ^ 8], .tup [N8 (remN a (modN 2)), .one (.i 0)]) := by kernel_rfl
theorem r60 (m q a b : Nat) : callR (mkE LN noS) 1000 60 [rV0 m q, N8 a, N8 b] [] =
    some ([a < 4294967296 ^ 8, b < 4294967296 ^ 8, 0 < m, a * b < 4294967296 ^ 16, m < 4294967296 ^ 8], .val (N8 (remN (a * b) m))) := by kernel_rfl
def fn29 (vs : List V1) : Option (List Prop × AV) :=
  match vs with
  | [.one (.i z), x] => match numP 16 x with
    | some (o, a) => some ((z = 2) :: o, .tup [N8 (remN a (modN 2)), .one (.i 0)])
    | none => none
  | _ => none
theorem ct29 : CTok ⟨29, fn29⟩ := by
  intro vs ob r h ho
  simp only [fn29] at h
  split at h
  · split at h
    · rename_i o a hx
      simp only [Option.some.injEq, Prod.mk.injEq] at h
      obtain ⟨rfl, rfl⟩ := h
      obtain ⟨rfl, ho⟩ := ho
      obtain ⟨h1, h2⟩ := numP_spec hx ho
      exact (spec_run (envMk LN_ok noS) rfl (r29 a) ⟨modN_pos 2, h1, modN_lt 2, trivial⟩ rfl rfl).congr (fun φ => by simp only [List.map_cons, List.map_nil]; rw [← h2 φ]; rfl) (fun _ => rfl)
    · simp at h
  · simp at h
theorem mul16 {a b : Nat} (ha : a < 4294967296 ^ 8) (hb : b < 4294967296 ^ 8) : a * b < 4294967296 ^ 16 := by
  have := Nat.mul_lt_mul'' ha hb
  rwa [← Nat.pow_add] at this
def fn60 (vs : List V1) : Option (List Prop × AV) :=
  match vs with
  | [.agg [.num 8 m, .a (.u .u32 _)], x, y] => match numP 8 x, numP 8 y with
    | some (o, a), some (o', b) => some ((0 < m) :: (m < 4294967296 ^ 8) :: (o ++ o'), .val (N8 (remN (a * b) m)))
    | _, _ => none
  | _ => none
theorem ct60 : CTok ⟨60, fn60⟩ := by
  intro vs ob r h ho
  simp only [fn60] at h
  split at h
  · rename_i m q x y
    split at h
    · rename_i o a o' b hx hy
      simp only [Option.some.injEq, Prod.mk.injEq] at h
      obtain ⟨rfl, rfl⟩ := h
      obtain ⟨h0, hm, ho⟩ := ho
      rw [All_append] at ho
      obtain ⟨h1, h2⟩ := numP_spec hx ho.1
      obtain ⟨h3, h4⟩ := numP_spec hy ho.2
      exact (spec_run (envMk LN_ok noS) rfl (r60 m q a b) ⟨h1, h3, h0, mul16 h1 h3, hm, trivial⟩ rfl rfl).congr (fun φ => by simp only [List.map_cons, List.map_nil]; rw [← h2 φ, ← h4 φ]; rfl) (fun _ => rfl)
    · simp at h
  · simp at h
noncomputable def LF : List CT := ⟨29, fn29⟩ :: ⟨60, fn60⟩ :: LN
theorem LF_ok : AllCT LF := ⟨ct29, ct60, LN_ok⟩
noncomputable def S31 : FuncId → Nat → Bool := fun f t => match f with | 59 => memN t [13, 18] | _ => false
end Go.Ev.H5

namespace Go.Ev.H5
open Go Go.Proofs Go.RowKit
theorem r31 (a b : Nat) : callR (mkE LF S31) 1000 31 [zV 2, N8 a, N8 b] [false, false] =
    some ([a < 4294967296 ^ 8, (!ok1 2 a) = false, b < 4294967296 ^ 8, (!ok1 2 b) = false, (0 : Int) ≤ 2 ∧ (2 : Int) < 4, 0 < modN 2, modN 2 < 4294967296 ^ 8, a < 4294967296 ^ 8, b < 4294967296 ^ 8], .tup [N8 (mulM (modN 2) a b), .one (.i 0)]) := by kernel_rfl
theorem r32 (a b : Nat) : callR (mkE LF S31) 1000 32 [zV 2, N8 a, N8 b] [false, false] =
    some ([a < 4294967296 ^ 8, (!ok1 2 a) = false, b < 4294967296 ^ 8, (!ok1 2 b) = false, (0 : Int) ≤ 2 ∧ (2 : Int) < 4, modN 2 < 4294967296 ^ 8, a < modN 2, b < modN 2, a < 4294967296 ^ 8, b < 4294967296 ^ 8], .tup [N8 (addM (modN 2) a b), .one (.i 0)]) := by kernel_rfl
theorem ok12 {a : Nat} (h : a < modN 2) : (!ok1 2 a) = false := by
  have := ok1_k (k := 2) (by decide) h
  rw [show ok1 2 a = true from this]; rfl
def fnZ2 (g : Nat → Nat → Nat) (vs : List V1) : Option (List Prop × AV) :=
  match vs with
  | [.one (.i z), x, y] => match numP 8 x, numP 8 y with
    | some (o, a), some (o', b) => some ((z = 2) :: (a < modN 2) :: (b < modN 2) :: (o ++ o'), .tup [N8 (g a b), .one (.i 0)])
    | _, _ => none
  | _ => none
theorem fnZ2_ok {f : FuncId} {g : Nat → Nat → Nat} (hg : ∀ a b, a < modN 2 → b < modN 2 → Spec f [zV 2, N8 a, N8 b] (.tup [N8 (g a b), .one (.i 0)])) : CTok ⟨f, fnZ2 g⟩ := by
  intro vs ob r h ho
  simp only [fnZ2] at h
  split at h
  · split at h
    · rename_i o a o' b hx hy
      simp only [Option.some.injEq, Prod.mk.injEq] at h
      obtain ⟨rfl, rfl⟩ := h
      obtain ⟨rfl, ha, hb, ho⟩ := ho
      rw [All_append] at ho
      obtain ⟨h1, h2⟩ := numP_spec hx ho.1
      obtain ⟨h3, h4⟩ := numP_spec hy ho.2
      exact (hg a b ha hb).congr (fun φ => by simp only [List.map_cons, List.map_nil]; rw [← h2 φ, ← h4 φ]; rfl) (fun _ => rfl)
    · simp at h
  · simp at h
theorem ct31 : CTok ⟨31, fnZ2 (mulM (modN 2))⟩ := fnZ2_ok fun a b ha hb => spec_run (envMk LF_ok S31) rfl (r31 a b) ⟨L8 ha, ok12 ha, L8 hb, ok12 hb, by decide, modN_pos 2, modN_lt 2, L8 ha, L8 hb, trivial⟩ rfl rfl
theorem ct32 : CTok ⟨32, fnZ2 (addM (modN 2))⟩ := fnZ2_ok fun a b ha hb => spec_run (envMk LF_ok S31) rfl (r32 a b) ⟨L8 ha, ok12 ha, L8 hb, ok12 hb, by decide, modN_lt 2, ha, hb, L8 ha, L8 hb, trivial⟩ rfl rfl
theorem r55 (k : Nat) (px : Nat) (py : Nat) : callR E12 1000 55 [N8 k, P2 px py] [] =
    some ([modN 0 < 4294967296 ^ 8, facN 0 < 4294967296, twE < 4294967296 ^ 8, px < 4294967296 ^ 8, py < 4294967296 ^ 8, modN 0 = modN 0, facN 0 = facN 0, twE = twE, px < modN 0, py < modN 0, modN 0 < 4294967296 ^ 8, facN 0 < 4294967296, twE < 4294967296 ^ 8, k < 4294967296 ^ 8, inN (modN 0) px < 4294967296 ^ 8, inN (modN 0) py < 4294967296 ^ 8, inN (modN 0) 1 < 4294967296 ^ 8, mmN (modN 0) (inN (modN 0) px) (inN (modN 0) py) < 4294967296 ^ 8, modN 0 = modN 0, facN 0 = facN 0, twE = twE, E4.lt (eLift px py), modN 0 < 4294967296 ^ 8, facN 0 < 4294967296, twE < 4294967296 ^ 8, (eTimes k (eLift px py)).1 < 4294967296 ^ 8, (eTimes k (eLift px py)).2 < 4294967296 ^ 8, (eTimes k (eLift px py)).3 < 4294967296 ^ 8, (eTimes k (eLift px py)).4 < 4294967296 ^ 8, modN 0 = modN 0, facN 0 = facN 0, twE = twE, E4.lt (E4.mk (E4.x (eTimes k (eLift px py))) (E4.y (eTimes k (eLift px py))) (E4.z (eTimes k (eLift px py))) (E4.t (eTimes k (eLift px py))))], .val (dwn (timE k px py))) := by kernel_rfl
noncomputable def gMul : List Val → Option (List Prop × AV)
  | [.n k, .n px, .n py] => some ([onE px py = true], .val (P2 (nmX k px py) (nmY k px py)))
  | _ => none
theorem ct55 : CTok ⟨55, fnS [aN, aPt] gMul⟩ := ctS (by
  intro xs ob r hb h ho
  unfold gMul at h
  split at h
  · rename_i k px py
    simp only [Option.some.injEq, Prod.mk.injEq] at h
    obtain ⟨rfl, rfl⟩ := h
    obtain ⟨⟨b0, _⟩, ⟨b1, b2, _⟩, _⟩ := hb
    obtain ⟨hu, _⟩ := ho
    obtain ⟨h1, h2⟩ := onE_lt hu
    have hS := spec_run envE12 rfl (r55 k px py) ⟨(modN_lt _), (facN_lt32 0), (L8 twE_lt), (by first | with_reducible assumption | with_reducible exact L8 (by with_reducible assumption) | exact decide_eq_true (by omega) | exact decide_eq_false (by omega) | omega), (by first | with_reducible assumption | with_reducible exact L8 (by with_reducible assumption) | exact decide_eq_true (by omega) | exact decide_eq_false (by omega) | omega), rfl, rfl, rfl, (by first | with_reducible assumption | with_reducible exact L8 (by with_reducible assumption) | exact decide_eq_true (by omega) | exact decide_eq_false (by omega) | omega), (by first | with_reducible assumption | with_reducible exact L8 (by with_reducible assumption) | exact decide_eq_true (by omega) | exact decide_eq_false (by omega) | omega), (modN_lt _), (facN_lt32 0), (L8 twE_lt), (by first | with_reducible assumption | with_reducible exact L8 (by with_reducible assumption) | exact decide_eq_true (by omega) | exact decide_eq_false (by omega) | omega), (L8 (inN_lt (modN_pos _))), (L8 (inN_lt (modN_pos _))), (L8 (inN_lt (modN_pos _))), (L8 (mmN_lt (modN_pos _))), rfl, rfl, rfl, (by first | with_reducible assumption | exact eAdd_lt _ _ | exact eLift_lt _ _ | exact eTimes_lt _ _ | exact hxx), (modN_lt _), (facN_lt32 0), (L8 twE_lt), (by first | with_reducible exact E4.ltx (eTimes_lt _ _) | with_reducible exact E4.lty (eTimes_lt _ _) | with_reducible exact E4.ltz (eTimes_lt _ _) | with_reducible exact E4.ltt (eTimes_lt _ _)), (by first | with_reducible exact E4.ltx (eTimes_lt _ _) | with_reducible exact E4.lty (eTimes_lt _ _) | with_reducible exact E4.ltz (eTimes_lt _ _) | with_reducible exact E4.ltt (eTimes_lt _ _)), (by first | with_reducible exact E4.ltx (eTimes_lt _ _) | with_reducible exact E4.lty (eTimes_lt _ _) | with_reducible exact E4.ltz (eTimes_lt _ _) | with_reducible exact E4.ltt (eTimes_lt _ _)), (by first | with_reducible exact E4.ltx (eTimes_lt _ _) | with_reducible exact E4.lty (eTimes_lt _ _) | with_reducible exact E4.ltz (eTimes_lt _ _) | with_reducible exact E4.ltt (eTimes_lt _ _)), rfl, rfl, rfl, (by first | with_reducible assumption | exact eAdd_lt _ _ | exact eLift_lt _ _ | exact eTimes_lt _ _ | exact hxx), trivial⟩ rfl rfl
    unfold dwn at hS
    rw [(times_eq b0 hu).1, (times_eq b0 hu).2] at hS
    exact hS
  · simp at h)
theorem ct35 : CTok ⟨35, fnS [aN, aPt] gMul⟩ := ctS (by
  intro xs ob r hb h ho
  unfold gMul at h
  split at h
  · rename_i k px py
    simp only [Option.some.injEq, Prod.mk.injEq] at h
    obtain ⟨rfl, rfl⟩ := h
    obtain ⟨⟨b0, _⟩, ⟨b1, b2, _⟩, _⟩ := hb
    obtain ⟨hu, _⟩ := ho
    have hS := spec30e b0 hu
    unfold dwn at hS
    rw [(times_eq b0 hu).1, (times_eq b0 hu).2] at hS
    exact hS
  · simp at h)
noncomputable def gBot : List Val → Option (List Prop × AV)
  | [.n k, .n px, .n py, .n m, .n qx, .n qy] => some ([onE px py = true, onE qx qy = true], .val (P2 (boX k px py m qx qy) (boY k px py m qx qy)))
  | _ => none
theorem ct52 : CTok ⟨52, fnS [aN, aPt, aN, aPt] gBot⟩ := ctS (by
  intro xs ob r hb h ho
  unfold gBot at h
  split at h
  · rename_i k px py m qx qy
    simp only [Option.some.injEq, Prod.mk.injEq] at h
    obtain ⟨rfl, rfl⟩ := h
    obtain ⟨⟨b0, _⟩, ⟨b1, b2, _⟩, ⟨b5, _⟩, ⟨b3, b4, _⟩, _⟩ := hb
    obtain ⟨hu, hv, _⟩ := ho
    have hS := spec31e b0 b5 hu hv
    unfold dwn at hS
    rw [(both_eq b0 b5 hu hv).1, (both_eq b0 b5 hu hv).2] at hS
    exact hS
  · simp at h)
noncomputable def LM : List CT := ⟨55, fnS [aN, aPt] gMul⟩ :: ⟨35, fnS [aN, aPt] gMul⟩ :: ⟨52, fnS [aN, aPt, aN, aPt] gBot⟩ :: ⟨47, fnS [aN, aPt, aN, aPt] gBotG⟩ :: ⟨46, fnS [aPt] (g39V true)⟩ :: ⟨53, fnS [aPt] g43R⟩ :: ⟨31, fnZ2 (mulM (modN 2))⟩ :: ⟨32, fnZ2 (addM (modN 2))⟩ :: LF
theorem LM_ok : AllCT LM := ⟨ct55, ct35, ct52, ct28G, ct39V true, ct43R, ct31, ct32, LF_ok⟩
end Go.Ev.H5

namespace Go.Ev.H5
open Go Go.Proofs Go.RowKit
def lo3 (x : Nat) : Nat := x % 4294967296 &&& (4294967296 - 1 - 7 % 4294967296)
def hi2 (x : Nat) : Nat := (x % 4294967296 &&& 2147483647 % 4294967296) % 4294967296 ||| 1073741824 % 4294967296
noncomputable def LX : List CT := ⟨54, fnS5⟩ :: ⟨34, fnS5⟩ :: ⟨43, fn84y⟩ :: ⟨19, fn87s⟩ :: ⟨21, fnZs⟩ :: ⟨49, fnS [.s [.n8, .n8]] gP82⟩ :: LM
theorem LX_ok : AllCT LX := ⟨ct54, ct34, ct84y, ct87s, ct21z, ct82p, LM_ok⟩
noncomputable def S26 : FuncId → Nat → Bool := fun f t => match f with | 26 => memN t [11, 26] | 12 => memN t [9, 22] | 28 => memN t [14, 20] | 37 => memN t [4, 7] | _ => false
noncomputable def E26 : Env := mkE LX S26
theorem envE26 : EnvOK E26 := envMk LX_ok S26
end Go.Ev.H5

namespace Go.Ev.H5
open Go Go.Proofs Go.RowKit
def x26 (a : Nat) : List Piece := [.a (.u .u32 (lo3 (a % 4294967296))), .a (.u .u32 (a / 4294967296 % 4294967296)), .a (.u .u32 (a / 4294967296 / 4294967296 % 4294967296)), .a (.u .u32 (a / 4294967296 / 4294967296 / 4294967296 % 4294967296)),
  .a (.u .u32 (a / 4294967296 / 4294967296 / 4294967296 / 4294967296 % 4294967296)), .a (.u .u32 (a / 4294967296 / 4294967296 / 4294967296 / 4294967296 / 4294967296 % 4294967296)), .a (.u .u32 (a / 4294967296 / 4294967296 / 4294967296 / 4294967296 / 4294967296 / 4294967296 % 4294967296)),
  .a (.u .u32 (hi2 (a / 4294967296 / 4294967296 / 4294967296 / 4294967296 / 4294967296 / 4294967296 / 4294967296 % 4294967296)))]
def clL (a : Nat) : Nat → Nat
  | 0 => lo3 (limb a 0)
  | 7 => hi2 (limb a 7)
  | i => limb a i
theorem lo3_lt (x : Nat) : lo3 x < 4294967296 := Nat.lt_of_le_of_lt Nat.and_le_left (Nat.mod_lt _ (by decide))
theorem hi2_lt (x : Nat) : hi2 x < 4294967296 := or_lt32 (Nat.mod_lt _ (by decide)) (by decide)
theorem clL_lt (a i : Nat) : clL a i < 4294967296 := by
  unfold clL
  split
  · exact lo3_lt _
  · exact hi2_lt _
  · exact limb_lt a _
def expN (a : Nat) : Nat := valU 8 0 (clL a)
theorem expN_lt (a : Nat) : expN a < 4294967296 ^ 8 := valU_lt _ 8 0 fun i _ _ => clL_lt a i
theorem x26_conc (φ : Loc) (a : Nat) : concs φ (x26 a) = concs φ [.num 8 (expN a)] := by
  unfold expN
  rw [concs_valU φ (clL a) 8 fun i _ => clL_lt a i]
  unfold x26
  simp only [Nat.div_div_eq_div_mul, cellsU, clL, limb, Nat.reduceAdd, Nat.pow_zero, Nat.div_one, Nat.pow_one, Nat.reduceMul, Nat.reducePow]
noncomputable def loS (s : ByteArray) : ByteArray := s.extract 0 32
noncomputable def hiS (s : ByteArray) : ByteArray := s.extract 32 s.size
theorem loS_size {s : ByteArray} (h : s.size = 64) : (loS s).size = 32 := by unfold loS; rw [cut_size _ _ _ (by omega)]
theorem hiS_size {s : ByteArray} (h : s.size = 64) : (hiS s).size = 32 := by unfold hiS; rw [cut_size _ _ _ (by omega)]; omega
noncomputable def exK (s : ByteArray) : Nat := expN (leS (loS (sum5 s)))
noncomputable def exR (s : ByteArray) : ByteArray := hiS (sum5 s)
noncomputable def mlN (s : ByteArray) : Nat := remN (joinN (leS (loS s)) (leS (hiS s))) (modN 2)
noncomputable def scN (s : ByteArray) : Nat := mlN (sum5 s)
theorem r26 (s : ByteArray) : callR E26 1000 26 [sS s] [] =
    some ([s.size ≤ 100000000000000, (0 : Int) ≤ 32 ∧ (32 : Int) ≤ ((sum5 s).size : Int), (loS (sum5 s)).size = 32, (0 : Int) ≤ 32 ∧ (32 : Int) ≤ ((sum5 s).size : Int)], .tup [.agg (x26 (leS (loS (sum5 s)))), sS (exR s)]) := by kernel_rfl
theorem r12 (s : ByteArray) : callR E26 1000 12 [sS s] [] =
    some ([s.size ≤ 100000000000000, (0 : Int) ≤ 32 ∧ (32 : Int) ≤ ((sum5 s).size : Int), (loS (sum5 s)).size = 32, (0 : Int) ≤ 32 ∧ (32 : Int) ≤ ((sum5 s).size : Int)], .tup [.agg (x26 (leS (loS (sum5 s)))), sS (exR s)]) := by kernel_rfl
theorem r28 (s : ByteArray) : callR E26 1000 28 [sS s] [] =
    some ([s.size ≤ 100000000000000, (0 : Int) ≤ 32 ∧ (32 : Int) ≤ ((sum5 s).size : Int), (loS (sum5 s)).size = 32, (0 : Int) ≤ 32 ∧ (32 : Int) ≤ ((sum5 s).size : Int), (hiS (sum5 s)).size = 32, leS (loS (sum5 s)) < 4294967296 ^ 8, leS (hiS (sum5 s)) < 4294967296 ^ 8, (2 : Int) = 2, joinN (leS (loS (sum5 s))) (leS (hiS (sum5 s))) < 4294967296 ^ 16], .val (N8 (scN s))) := by kernel_rfl
theorem r37 (s : ByteArray) : callR E26 1000 37 [sS s] [] =
    some ([(0 : Int) ≤ 32 ∧ (32 : Int) ≤ (s.size : Int), (loS s).size = 32, (0 : Int) ≤ 32 ∧ (32 : Int) ≤ (s.size : Int), (hiS s).size = 32, leS (loS s) < 4294967296 ^ 8, leS (hiS s) < 4294967296 ^ 8, (0 : Int) ≤ 2 ∧ (2 : Int) < 4, joinN (leS (loS s)) (leS (hiS s)) < 4294967296 ^ 16], .val (N8 (mlN s))) := by kernel_rfl
noncomputable def pubB (k : Nat) : ByteArray := packB (nmX k bXN bYN) (nmY k bXN bYN)
theorem r27 (k : Nat) : callR E26 1000 27 [N8 k] [] =
    some ([k < 4294967296 ^ 8, bXN < 4294967296 ^ 8, bYN < 4294967296 ^ 8, onE bXN bYN = true, nmX k bXN bYN < 4294967296 ^ 8, nmY k bXN bYN < 4294967296 ^ 8, onE (nmX k bXN bYN) (nmY k bXN bYN) = true], .val (sS (pubB k))) := by kernel_rfl
theorem leS_lt8 {s : ByteArray} (h : s.size = 32) : leS s < 4294967296 ^ 8 := by
  have := leS_lt s
  rw [h] at this
  exact this
theorem joinN_lt16 {a b : Nat} (ha : a < 4294967296 ^ 8) (hb : b < 4294967296 ^ 8) : joinN a b < 4294967296 ^ 16 := by unfold joinN; omega
theorem ex_ok (s : ByteArray) (h : s.size ≤ 100000000000000) : Spec 26 [sS s] (.tup [N8 (exK s), sS (exR s)]) := by
  have hz := sum5_size s
  refine (spec_run envE26 rfl (r26 s) ⟨h, by omega, loS_size hz, by omega, trivial⟩ rfl rfl).congr (fun _ => rfl) (fun φ => ?_)
  simp only [AV.conc, List.map_cons, List.map_nil, V1.conc, N8, x26_conc φ, exK]
theorem ex_ok' (s : ByteArray) (h : s.size ≤ 100000000000000) : Spec 12 [sS s] (.tup [N8 (exK s), sS (exR s)]) := by
  have hz := sum5_size s
  refine (spec_run envE26 rfl (r12 s) ⟨h, by omega, loS_size hz, by omega, trivial⟩ rfl rfl).congr (fun _ => rfl) (fun φ => ?_)
  simp only [AV.conc, List.map_cons, List.map_nil, V1.conc, N8, x26_conc φ, exK]
noncomputable def fnEx (vs : List V1) : Option (List Prop × AV) :=
  match vs with
  | [.one (.v (.string s))] => some ([s.size ≤ 100000000000000], .tup [N8 (exK s), sS (exR s)])
  | _ => none
noncomputable def fnSc (vs : List V1) : Option (List Prop × AV) :=
  match vs with
  | [.one (.v (.string s))] => some ([s.size ≤ 100000000000000], .val (N8 (scN s)))
  | _ => none
noncomputable def fnMl (vs : List V1) : Option (List Prop × AV) :=
  match vs with
  | [.one (.v (.string s))] => some ([s.size = 64], .val (N8 (mlN s)))
  | _ => none
theorem ct26 : CTok ⟨26, fnEx⟩ := by
  intro vs ob r h ho
  simp only [fnEx] at h
  split at h
  · simp only [Option.some.injEq, Prod.mk.injEq] at h
    obtain ⟨rfl, rfl⟩ := h
    exact ex_ok _ ho.1
  · simp at h
theorem ct12 : CTok ⟨12, fnEx⟩ := by
  intro vs ob r h ho
  simp only [fnEx] at h
  split at h
  · simp only [Option.some.injEq, Prod.mk.injEq] at h
    obtain ⟨rfl, rfl⟩ := h
    exact ex_ok' _ ho.1
  · simp at h
theorem ct28 : CTok ⟨28, fnSc⟩ := by
  intro vs ob r h ho
  simp only [fnSc] at h
  split at h
  · rename_i s
    simp only [Option.some.injEq, Prod.mk.injEq] at h
    obtain ⟨rfl, rfl⟩ := h
    have hz := sum5_size s
    have h1 := leS_lt8 (loS_size hz)
    have h2 := leS_lt8 (hiS_size hz)
    exact spec_run envE26 rfl (r28 s) ⟨ho.1, by omega, loS_size hz, by omega, hiS_size hz, h1, h2, rfl, joinN_lt16 h1 h2, trivial⟩ rfl rfl
  · simp at h
theorem ct37 : CTok ⟨37, fnMl⟩ := by
  intro vs ob r h ho
  simp only [fnMl] at h
  split at h
  · rename_i s
    simp only [Option.some.injEq, Prod.mk.injEq] at h
    obtain ⟨rfl, rfl⟩ := h
    have hz := ho.1
    have h1 := leS_lt8 (loS_size hz)
    have h2 := leS_lt8 (hiS_size hz)
    exact spec_run envE26 rfl (r37 s) ⟨by omega, loS_size hz, by omega, hiS_size hz, h1, h2, by decide, joinN_lt16 h1 h2, trivial⟩ rfl rfl
  · simp at h
theorem nm_lt (k : Nat) : nmX k bXN bYN < 4294967296 ^ 8 ∧ nmY k bXN bYN < 4294967296 ^ 8 := dN0 (nm_on onE_base)
theorem ct27 : CTok ⟨27, fn1 fun k => .val (sS (pubB k))⟩ := fun _ _ _ h ho => fn1_ok (fun k hk => spec_run envE26 rfl (r27 k) ⟨hk, L8 bXN_lt, L8 bYN_lt, onE_base, (nm_lt k).1, (nm_lt k).2, nm_on onE_base, trivial⟩ rfl rfl) h ho
theorem pubB_size (k : Nat) : (pubB k).size = 32 := by unfold pubB packB; rw [strOf_size, leB_length]
noncomputable def LY : List CT := ⟨26, fnEx⟩ :: ⟨12, fnEx⟩ :: ⟨28, fnSc⟩ :: ⟨37, fnMl⟩ :: ⟨27, fn1 fun k => .val (sS (pubB k))⟩ :: LX
theorem LY_ok : AllCT LY := ⟨ct26, ct12, ct28, ct37, ct27, LX_ok⟩
end Go.Ev.H5

namespace Go.Ev.H5
open Go Go.Proofs Go.RowKit
noncomputable def sgR (s m : ByteArray) : Nat := scN (exR s ++ m)
noncomputable def sgK (s m : ByteArray) : Nat := scN ((pubB (sgR s m) ++ pubB (exK s)) ++ m)
noncomputable def sgA (s : ByteArray) : Nat := remN (joinN (exK s) 0) (modN 2)
noncomputable def sgS (s m : ByteArray) : Nat := addM (modN 2) (sgR s m) (mulM (modN 2) (sgK s m) (sgA s))
noncomputable def signB (s m : ByteArray) : ByteArray := pubB (sgR s m) ++ strOf (leB 32 (sgS s m))
noncomputable def S11 : FuncId → Nat → Bool := fun f t => match f with | 9 => memN t [7] | 10 => memN t [8] | 11 => memN t [16, 20, 28, 35, 37, 60] | 14 => memN t [24, 33, 35, 52] | _ => false
noncomputable def LS : List CT := ⟨33, fLit⟩ :: ⟨22, fLit⟩ :: LY
theorem LS_ok : AllCT LS := ⟨ctLit110, ctLit83, LY_ok⟩
noncomputable def E11 : Env := mkE LS S11
theorem envE11 : EnvOK E11 := envMk LS_ok S11
def e0 : ByteArray := ⟨#[]⟩
end Go.Ev.H5

