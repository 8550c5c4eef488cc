/- What the program's law of P-256 comes to -/
import Derived.Test.YtciiekkkldbgfaaRootB
namespace Go.Ev
open Go Go.Proofs Go.RowKit

/-! the numbers that the curve has -/
def wBN : Nat := 41058363725152142129326129780047268409114441015993725554835256314039467401291
def wXN : Nat := 48439561293906451759052585252797914202762949526041747995844080717082404635286
def wYN : Nat := 36134250956749795798585127919587881956611106672985015071877198253568414405109
theorem wBN_lt : wBN < modN 1 := by decide +kernel
theorem wXN_lt : wXN < modN 1 := by decide +kernel
theorem wYN_lt : wYN < modN 1 := by decide +kernel
def P3 (x y : Nat) (i : Bool) : V1 := .agg [.num 8 x, .num 8 y, .a (.v (.bool i))]
theorem wi70 (a : Nat) : callR E0 1000 70 [] [] =
    some ([], AV.val (V1.agg [Piece.a (Atom.u IntKind.u32 668098635), Piece.a (Atom.u IntKind.u32 1003371582), Piece.a (Atom.u IntKind.u32 3428036854), Piece.a (Atom.u IntKind.u32 1696401072), Piece.a (Atom.u IntKind.u32 1989707452), Piece.a (Atom.u IntKind.u32 3018571093), Piece.a (Atom.u IntKind.u32 2855965671), Piece.a (Atom.u IntKind.u32 1522939352)])) := by kernel_rfl
theorem spec70w : Spec 70 [] (.val (N8 wBN)) := (spec_run envE0 rfl (wi70 0) trivial rfl rfl).congr (fun _ => rfl) (fun _ => by kernel_rfl)
theorem wi85 (a : Nat) : callR E0 1000 85 [] [] =
    some ([], AV.val (V1.agg [Piece.a (Atom.u IntKind.u32 668098635), Piece.a (Atom.u IntKind.u32 1003371582), Piece.a (Atom.u IntKind.u32 3428036854), Piece.a (Atom.u IntKind.u32 1696401072), Piece.a (Atom.u IntKind.u32 1989707452), Piece.a (Atom.u IntKind.u32 3018571093), Piece.a (Atom.u IntKind.u32 2855965671), Piece.a (Atom.u IntKind.u32 1522939352)])) := by kernel_rfl
theorem spec85w : Spec 85 [] (.val (N8 wBN)) := (spec_run envE0 rfl (wi85 0) trivial rfl rfl).congr (fun _ => rfl) (fun _ => by kernel_rfl)
theorem wi19 (a : Nat) : callR E0 1000 19 [] [] =
    some ([], AV.val (V1.agg [Piece.a (Atom.u IntKind.u32 3633889942), Piece.a (Atom.u IntKind.u32 4104206661), Piece.a (Atom.u IntKind.u32 770388896), Piece.a (Atom.u IntKind.u32 1996717441), Piece.a (Atom.u IntKind.u32 1671708914), Piece.a (Atom.u IntKind.u32 4173129445), Piece.a (Atom.u IntKind.u32 3777774151), Piece.a (Atom.u IntKind.u32 1796723186), Piece.a (Atom.u IntKind.u32 935285237), Piece.a (Atom.u IntKind.u32 3417718888), Piece.a (Atom.u IntKind.u32 1798397646), Piece.a (Atom.u IntKind.u32 734933847), Piece.a (Atom.u IntKind.u32 2081398294), Piece.a (Atom.u IntKind.u32 2397563722), Piece.a (Atom.u IntKind.u32 4263149467), Piece.a (Atom.u IntKind.u32 1340293858), Piece.a (Atom.v (Value.bool false))])) := by kernel_rfl
theorem spec19w : Spec 19 [] (.val (P3 wXN wYN false)) := (spec_run envE0 rfl (wi19 0) trivial rfl rfl).congr (fun _ => rfl) (fun _ => by kernel_rfl)
theorem wi28 (a : Nat) : callR E0 1000 28 [] [] =
    some ([], AV.val (V1.agg [Piece.a (Atom.u IntKind.u32 3633889942), Piece.a (Atom.u IntKind.u32 4104206661), Piece.a (Atom.u IntKind.u32 770388896), Piece.a (Atom.u IntKind.u32 1996717441), Piece.a (Atom.u IntKind.u32 1671708914), Piece.a (Atom.u IntKind.u32 4173129445), Piece.a (Atom.u IntKind.u32 3777774151), Piece.a (Atom.u IntKind.u32 1796723186), Piece.a (Atom.u IntKind.u32 935285237), Piece.a (Atom.u IntKind.u32 3417718888), Piece.a (Atom.u IntKind.u32 1798397646), Piece.a (Atom.u IntKind.u32 734933847), Piece.a (Atom.u IntKind.u32 2081398294), Piece.a (Atom.u IntKind.u32 2397563722), Piece.a (Atom.u IntKind.u32 4263149467), Piece.a (Atom.u IntKind.u32 1340293858), Piece.a (Atom.v (Value.bool false))])) := by kernel_rfl
theorem spec28w : Spec 28 [] (.val (P3 wXN wYN false)) := (spec_run envE0 rfl (wi28 0) trivial rfl rfl).congr (fun _ => rfl) (fun _ => by kernel_rfl)
noncomputable def L8a : List CT := [⟨70, cV (.val (N8 wBN))⟩, ⟨85, cV (.val (N8 wBN))⟩, ⟨19, cV (.val (P3 wXN wYN false))⟩, ⟨28, cV (.val (P3 wXN wYN false))⟩, ⟨62, fnS [.z, .s [.n8]] gFis⟩] ++ L0
theorem L8a_ok : AllCT L8a := ⟨ctV spec70w, ctV spec85w, ctV spec19w, ctV spec28w, ct85, L0_ok⟩
def rg1 : V1 := rgK 1
noncomputable def wBi : Nat := inN (modN 1) wBN
noncomputable def sqI (x : Nat) : Nat := addM (modN 1) (subM (modN 1) (mmN (modN 1) (mmN (modN 1) (inN (modN 1) x) (inN (modN 1) x)) (inN (modN 1) x)) (addM (modN 1) (addM (modN 1) (inN (modN 1) x) (inN (modN 1) x)) (inN (modN 1) x))) (inN (modN 1) wBN)
theorem wi68 (x : Nat) : callR (mkE L8a noS) 1000 68 [N8 x] [] =
    some ([(0 : Int) ≤ (1 : Int) ∧ (1 : Int) < (4 : Int), modN 1 < 4294967296 ^ 8, 0 < modN 1, x < 4294967296 ^ 8, modN 1 < 4294967296 ^ 8, inN (modN 1) x < modN 1, inN (modN 1) x < modN 1, inN (modN 1) x < 4294967296 ^ 8, inN (modN 1) x < 4294967296 ^ 8, modN 1 < 4294967296 ^ 8, addM (modN 1) (inN (modN 1) x) (inN (modN 1) x) < modN 1, inN (modN 1) x < modN 1, addM (modN 1) (inN (modN 1) x) (inN (modN 1) x) < 4294967296 ^ 8, inN (modN 1) x < 4294967296 ^ 8, modN 1 < 4294967296 ^ 8, inN (modN 1) x < modN 1, inN (modN 1) x < modN 1, goodF (modN 1) (facN 1), inN (modN 1) x < 4294967296 ^ 8, inN (modN 1) x < 4294967296 ^ 8, modN 1 < 4294967296 ^ 8, mmN (modN 1) (inN (modN 1) x) (inN (modN 1) x) < modN 1, inN (modN 1) x < modN 1, goodF (modN 1) (facN 1), mmN (modN 1) (inN (modN 1) x) (inN (modN 1) x) < 4294967296 ^ 8, inN (modN 1) x < 4294967296 ^ 8, modN 1 < 4294967296 ^ 8, mmN (modN 1) (mmN (modN 1) (inN (modN 1) x) (inN (modN 1) x)) (inN (modN 1) x) < modN 1, addM (modN 1) (addM (modN 1) (inN (modN 1) x) (inN (modN 1) x)) (inN (modN 1) x) < modN 1, mmN (modN 1) (mmN (modN 1) (inN (modN 1) x) (inN (modN 1) x)) (inN (modN 1) x) < 4294967296 ^ 8, addM (modN 1) (addM (modN 1) (inN (modN 1) x) (inN (modN 1) x)) (inN (modN 1) x) < 4294967296 ^ 8, modN 1 < 4294967296 ^ 8, 0 < modN 1, wBN < 4294967296 ^ 8, modN 1 < 4294967296 ^ 8, subM (modN 1) (mmN (modN 1) (mmN (modN 1) (inN (modN 1) x) (inN (modN 1) x)) (inN (modN 1) x)) (addM (modN 1) (addM (modN 1) (inN (modN 1) x) (inN (modN 1) x)) (inN (modN 1) x)) < modN 1, inN (modN 1) wBN < modN 1, subM (modN 1) (mmN (modN 1) (mmN (modN 1) (inN (modN 1) x) (inN (modN 1) x)) (inN (modN 1) x)) (addM (modN 1) (addM (modN 1) (inN (modN 1) x) (inN (modN 1) x)) (inN (modN 1) x)) < 4294967296 ^ 8, inN (modN 1) wBN < 4294967296 ^ 8, modN 1 < 4294967296 ^ 8, addM (modN 1) (subM (modN 1) (mmN (modN 1) (mmN (modN 1) (inN (modN 1) x) (inN (modN 1) x)) (inN (modN 1) x)) (addM (modN 1) (addM (modN 1) (inN (modN 1) x) (inN (modN 1) x)) (inN (modN 1) x))) (inN (modN 1) wBN) < modN 1, goodF (modN 1) (facN 1), addM (modN 1) (subM (modN 1) (mmN (modN 1) (mmN (modN 1) (inN (modN 1) x) (inN (modN 1) x)) (inN (modN 1) x)) (addM (modN 1) (addM (modN 1) (inN (modN 1) x) (inN (modN 1) x)) (inN (modN 1) x))) (inN (modN 1) wBN) < 4294967296 ^ 8], .val (N8 (outN (modN 1) (sqI x)))) := by kernel_rfl
theorem spec68w (x : Nat) (hx : x < modN 1) : Spec 68 [N8 x] (.val (N8 (outN (modN 1) (sqI x)))) := by
  have h0 := wBN_lt
  exact spec_run (envMk L8a_ok noS) rfl (wi68 x) ⟨(by decide), (modN_lt _), (modN_pos _), (by first | with_reducible assumption | with_reducible exact L8 (by with_reducible assumption) | exact decide_eq_true (by omega) | exact decide_eq_false (by omega) | omega), (modN_lt _), (inN_lt (modN_pos _)), (inN_lt (modN_pos _)), (L8 (inN_lt (modN_pos _))), (L8 (inN_lt (modN_pos _))), (modN_lt _), (addM_lt (modN_pos _)), (inN_lt (modN_pos _)), (L8 (addM_lt (modN_pos _))), (L8 (inN_lt (modN_pos _))), (modN_lt _), (inN_lt (modN_pos _)), (inN_lt (modN_pos _)), (good_fac (by decide)), (L8 (inN_lt (modN_pos _))), (L8 (inN_lt (modN_pos _))), (modN_lt _), (mmN_lt (modN_pos _)), (inN_lt (modN_pos _)), (good_fac (by decide)), (L8 (mmN_lt (modN_pos _))), (L8 (inN_lt (modN_pos _))), (modN_lt _), (mmN_lt (modN_pos _)), (addM_lt (modN_pos _)), (L8 (mmN_lt (modN_pos _))), (L8 (addM_lt (modN_pos _))), (modN_lt _), (modN_pos _), (by first | with_reducible assumption | with_reducible exact L8 (by with_reducible assumption) | exact decide_eq_true (by omega) | exact decide_eq_false (by omega) | omega), (modN_lt _), (subM_lt (modN_pos _)), (inN_lt (modN_pos _)), (L8 (subM_lt (modN_pos _))), (L8 (inN_lt (modN_pos _))), (modN_lt _), (addM_lt (modN_pos _)), (good_fac (by decide)), (L8 (addM_lt (modN_pos _))), trivial⟩ rfl rfl
end Go.Ev

namespace Go.Ev
open Go Go.Proofs Go.RowKit

/-! is it a spot? -/
theorem ok1_1 {x : Nat} : ok1 1 x = decide (x < modN 1) := by
  unfold ok1 lessB; rfl
def gRem (V m : Nat) : AV := .tup [N8 (remN V m), .one (.i 0)]
noncomputable def L67 : List CT := [⟨105, fnDiv gRem⟩, ⟨106, fn2 (fun a b => .val (N16 (a * b)))⟩] ++ L8a
theorem L67_ok : AllCT L67 := ⟨fun _ _ _ h ho => fnDiv_ok spec48 h ho, fun _ _ _ h ho => fn2_ok spec92 h ho, L8a_ok⟩
theorem mul16 {a b : Nat} (ha : a < 4294967296 ^ 8) (hb : b < 4294967296 ^ 8) : a * b < 4294967296 ^ 16 := by
  rw [show (4294967296 : Nat) ^ 16 = 4294967296 ^ 8 * 4294967296 ^ 8 by rw [← Nat.pow_add]]
  exact Nat.mul_lt_mul'' ha hb
theorem wi67 (m : Nat) (a : Nat) (b : Nat) : callR (mkE L67 noS) 1000 67 [N8 m, N8 a, N8 b] [] =
    some ([a < 4294967296 ^ 8, b < 4294967296 ^ 8, a * b < 4294967296 ^ 16, 0 < m, m < 4294967296 ^ 8], .val (N8 (remN (a * b) m))) := by kernel_rfl
theorem spec67w (m a b : Nat) (hm : m < 4294967296 ^ 8) (h0 : 0 < m) (ha : a < 4294967296 ^ 8) (hb : b < 4294967296 ^ 8) : Spec 67 [N8 m, N8 a, N8 b] (.val (N8 (remN (a * b) m))) := by
  have h16 := mul16 ha hb
  exact spec_run (envMk L67_ok noS) rfl (wi67 m a b) ⟨(by first | with_reducible assumption | with_reducible exact L8 (by with_reducible assumption) | exact decide_eq_true (by omega) | exact decide_eq_false (by omega) | omega), (by first | with_reducible assumption | with_reducible exact L8 (by with_reducible assumption) | exact decide_eq_true (by omega) | exact decide_eq_false (by omega) | omega), (by first | with_reducible assumption | with_reducible exact L8 (by with_reducible assumption) | exact decide_eq_true (by omega) | exact decide_eq_false (by omega) | omega), (by first | with_reducible assumption | with_reducible exact L8 (by with_reducible assumption) | exact decide_eq_true (by omega) | exact decide_eq_false (by omega) | omega), (by first | with_reducible assumption | with_reducible exact L8 (by with_reducible assumption) | exact decide_eq_true (by omega) | exact decide_eq_false (by omega) | omega), trivial⟩ rfl rfl
def gPr : List Val → Option (List Prop × AV)
  | [.n m, .n a, .n b] => some ([0 < m], .val (N8 (remN (a * b) m)))
  | _ => none
theorem ct67w : CTok ⟨67, fnS [aN, aN, aN] gPr⟩ := ctS (by
  intro xs ob r hb h ho
  unfold gPr at h
  split at h
  · rename_i m a b
    simp only [Option.some.injEq, Prod.mk.injEq] at h
    obtain ⟨rfl, rfl⟩ := h
    obtain ⟨⟨h1, _⟩, ⟨h2, _⟩, ⟨h3, _⟩, _⟩ := hb
    exact spec67w m a b h1 ho.1 h2 h3
  · simp at h)
noncomputable def gSq : List Val → Option (List Prop × AV)
  | [.n x] => some ([x < modN 1], .val (N8 (outN (modN 1) (sqI x))))
  | _ => none
theorem ct68w : CTok ⟨68, fnS [aN] gSq⟩ := ctS (by
  intro xs ob r hb h ho
  unfold gSq at h
  split at h
  · rename_i x
    simp only [Option.some.injEq, Prod.mk.injEq] at h
    obtain ⟨rfl, rfl⟩ := h
    exact spec68w x ho.1
  · simp at h)
noncomputable def sqJ (x : Nat) : Nat := addM (modN 1) (subM (modN 1) (mmN (modN 1) x (mmN (modN 1) x x)) (addM (modN 1) x (addM (modN 1) x x))) (inN (modN 1) wBN)
theorem wi49 (x : Nat) : callR (mkE L8a noS) 1000 49 [rg1, N8 x] [] =
    some ([okR (modN 1) (facR (limb (modN 1) 0)) (r2N (modN 1)), x < modN 1, x < modN 1, x < 4294967296 ^ 8, x < 4294967296 ^ 8, okR (modN 1) (facR (limb (modN 1) 0)) (r2N (modN 1)), x < modN 1, addM (modN 1) x x < modN 1, x < 4294967296 ^ 8, addM (modN 1) x x < 4294967296 ^ 8, okR (modN 1) (facR (limb (modN 1) 0)) (r2N (modN 1)), x < modN 1, x < modN 1, x < 4294967296 ^ 8, x < 4294967296 ^ 8, okR (modN 1) (facR (limb (modN 1) 0)) (r2N (modN 1)), x < modN 1, mmN (modN 1) x x < modN 1, x < 4294967296 ^ 8, mmN (modN 1) x x < 4294967296 ^ 8, okR (modN 1) (facR (limb (modN 1) 0)) (r2N (modN 1)), mmN (modN 1) x (mmN (modN 1) x x) < modN 1, addM (modN 1) x (addM (modN 1) x x) < modN 1, mmN (modN 1) x (mmN (modN 1) x x) < 4294967296 ^ 8, addM (modN 1) x (addM (modN 1) x x) < 4294967296 ^ 8, okR (modN 1) (facR (limb (modN 1) 0)) (r2N (modN 1)), wBN < modN 1, wBN < 4294967296 ^ 8, okR (modN 1) (facR (limb (modN 1) 0)) (r2N (modN 1)), subM (modN 1) (mmN (modN 1) x (mmN (modN 1) x x)) (addM (modN 1) x (addM (modN 1) x x)) < modN 1, inN (modN 1) wBN < modN 1, subM (modN 1) (mmN (modN 1) x (mmN (modN 1) x x)) (addM (modN 1) x (addM (modN 1) x x)) < 4294967296 ^ 8, inN (modN 1) wBN < 4294967296 ^ 8], .val (N8 (sqJ x))) := by kernel_rfl
theorem spec49w (x : Nat) (hx : x < modN 1) : Spec 49 [rg1, N8 x] (.val (N8 (sqJ x))) := by
  have h0 := wBN_lt
  exact spec_run (envMk L8a_ok noS) rfl (wi49 x) ⟨(okR_K (by decide)), (by first | with_reducible assumption | with_reducible exact L8 (by with_reducible assumption) | exact decide_eq_true (by omega) | exact decide_eq_false (by omega) | omega), (by first | with_reducible assumption | with_reducible exact L8 (by with_reducible assumption) | exact decide_eq_true (by omega) | exact decide_eq_false (by omega) | omega), (by first | with_reducible assumption | with_reducible exact L8 (by with_reducible assumption) | exact decide_eq_true (by omega) | exact decide_eq_false (by omega) | omega), (by first | with_reducible assumption | with_reducible exact L8 (by with_reducible assumption) | exact decide_eq_true (by omega) | exact decide_eq_false (by omega) | omega), (okR_K (by decide)), (by first | with_reducible assumption | with_reducible exact L8 (by with_reducible assumption) | exact decide_eq_true (by omega) | exact decide_eq_false (by omega) | omega), (addM_lt (modN_pos _)), (by first | with_reducible assumption | with_reducible exact L8 (by with_reducible assumption) | exact decide_eq_true (by omega) | exact decide_eq_false (by omega) | omega), (L8 (addM_lt (modN_pos _))), (okR_K (by decide)), (by first | with_reducible assumption | with_reducible exact L8 (by with_reducible assumption) | exact decide_eq_true (by omega) | exact decide_eq_false (by omega) | omega), (by first | with_reducible assumption | with_reducible exact L8 (by with_reducible assumption) | exact decide_eq_true (by omega) | exact decide_eq_false (by omega) | omega), (by first | with_reducible assumption | with_reducible exact L8 (by with_reducible assumption) | exact decide_eq_true (by omega) | exact decide_eq_false (by omega) | omega), (by first | with_reducible assumption | with_reducible exact L8 (by with_reducible assumption) | exact decide_eq_true (by omega) | exact decide_eq_false (by omega) | omega), (okR_K (by decide)), (by first | with_reducible assumption | with_reducible exact L8 (by with_reducible assumption) | exact decide_eq_true (by omega) | exact decide_eq_false (by omega) | omega), (mmN_lt (modN_pos _)), (by first | with_reducible assumption | with_reducible exact L8 (by with_reducible assumption) | exact decide_eq_true (by omega) | exact decide_eq_false (by omega) | omega), (L8 (mmN_lt (modN_pos _))), (okR_K (by decide)), (mmN_lt (modN_pos _)), (addM_lt (modN_pos _)), (L8 (mmN_lt (modN_pos _))), (L8 (addM_lt (modN_pos _))), (okR_K (by decide)), (by first | with_reducible assumption | with_reducible exact L8 (by with_reducible assumption) | exact decide_eq_true (by omega) | exact decide_eq_false (by omega) | omega), (by first | with_reducible assumption | with_reducible exact L8 (by with_reducible assumption) | exact decide_eq_true (by omega) | exact decide_eq_false (by omega) | omega), (okR_K (by decide)), (subM_lt (modN_pos _)), (inN_lt (modN_pos _)), (L8 (subM_lt (modN_pos _))), (L8 (inN_lt (modN_pos _))), trivial⟩ rfl rfl
noncomputable def gRight : List Val → Option (List Prop × AV)
  | [.n m, .n q, .n w, .n x] => some ([m = modN 1, q = facR (limb (modN 1) 0), w = r2N (modN 1), x < modN 1], .val (N8 (sqJ x)))
  | _ => none
theorem ct49w : CTok ⟨49, fnS [aLaw, aN] gRight⟩ := ctS (by
  intro xs ob r hb h ho
  unfold gRight at h
  split at h
  · rename_i m q w x
    simp only [Option.some.injEq, Prod.mk.injEq] at h
    obtain ⟨rfl, rfl⟩ := h
    obtain ⟨e0, e1, e2, h1, _⟩ := ho
    have hS := spec49w x h1
    unfold rg1 rgK rg at hS
    rw [← e2, ← e1, ← e0] at hS
    exact hS
  · simp at h)
noncomputable def L2a : List CT := [⟨67, fnS [aN, aN, aN] gPr⟩, ⟨68, fnS [aN] gSq⟩, ⟨49, fnS [aLaw, aN] gRight⟩] ++ L8a
theorem L2a_ok : AllCT L2a := ⟨ct67w, ct68w, ct49w, L8a_ok⟩
def isI (x y : Nat) : Bool := match eqF [.num 8 x, .num 8 y, .a (.v (.bool true))] (cellsU 16 0 zF ++ [.a (.v (.bool true))]) with | some b => b | none => true
theorem isI_eq {x y : Nat} (hx : x < 4294967296 ^ 8) (hy : y < 4294967296 ^ 8) : isI x y = (decide (x = 0) && decide (y = 0)) := by
  have h1 : ∃ b, eqF [.num 8 x, .num 8 y, .a (.v (.bool true))] (cellsU 16 0 zF ++ [.a (.v (.bool true))]) = some b := ⟨_, rfl⟩
  obtain ⟨b, hb⟩ := h1
  have h2 := eqF_spec (φ := fun _ => (0, 0, 0)) _ _ hb
  have h3 : eqF [.num 8 x, .num 8 y, .a (.v (.bool true))] [.num 8 0, .num 8 0, .a (.v (.bool true))] = some (decide (x % 4294967296 ^ 8 = 0 % 4294967296 ^ 8) && (decide (y % 4294967296 ^ 8 = 0 % 4294967296 ^ 8) && (true == true && true))) := rfl
  have h4 := eqF_spec (φ := fun _ => (0, 0, 0)) _ _ h3
  rw [show concs (fun _ => ((0 : Nat), (0 : Nat), (0 : Nat))) [.num 8 0, .num 8 0, .a (.v (.bool true))] = concs (fun _ => ((0 : Nat), (0 : Nat), (0 : Nat))) (cellsU 16 0 zF ++ [.a (.v (.bool true))]) by kernel_rfl] at h4
  rw [h4] at h2
  unfold isI
  rw [hb]
  simp only
  rw [← h2, Nat.mod_eq_of_lt hx, Nat.mod_eq_of_lt hy]
  simp
noncomputable def S38 : FuncId → Nat → Bool := fun f t => match f with | 38 => memN t [11, 16] | _ => false
noncomputable def S14 : FuncId → Nat → Bool := fun f t => match f with | 45 => memN t [21] | _ => false
def ltW (x y : Nat) : Bool := decide (x < modN 1) && decide (y < modN 1)
noncomputable def eqW (x y : Nat) : Bool := decide (mmN (modN 1) (inN (modN 1) y) (inN (modN 1) y) = sqJ (inN (modN 1) x))
noncomputable def onS (x y : Nat) (i : Bool) : Bool := bif i then (decide (x = 0) && decide (y = 0)) else (ltW x y && eqW x y)
theorem sqI_J (x : Nat) : sqI x = sqJ (inN (modN 1) x) := by
  unfold sqI sqJ addM mmN mredN mulN
  rw [Nat.mul_comm (inN (modN 1) x) (_ % _), Nat.add_mod_mod, Nat.mod_add_mod]
  rw [show inN (modN 1) x + inN (modN 1) x + inN (modN 1) x = inN (modN 1) x + (inN (modN 1) x + inN (modN 1) x) by omega]
end Go.Ev

namespace Go.Ev
open Go Go.Proofs Go.RowKit

theorem wi38i (x : Nat) (y : Nat) : callR (mkE L2a S38) 1000 38 [P3 x y true] [] =
    some ([], bV (isI x y)) := by kernel_rfl
theorem wi38y (x : Nat) (y : Nat) : callR (mkE L2a S38) 1000 38 [P3 x y false] [true, true] =
    some ([ok1 (1 : Int) x = true, x < 4294967296 ^ 8, ok1 (1 : Int) y = true, y < 4294967296 ^ 8, (0 : Int) ≤ (1 : Int) ∧ (1 : Int) < (4 : Int), modN 1 < 4294967296 ^ 8, y < 4294967296 ^ 8, y < 4294967296 ^ 8, 0 < modN 1, x < 4294967296 ^ 8, x < modN 1], bV (decide (remN (y * y) (modN 1) % 4294967296 ^ 8 = outN (modN 1) (sqI x) % 4294967296 ^ 8) && true)) := by kernel_rfl
theorem wi38n (x : Nat) (y : Nat) : callR (mkE L2a S38) 1000 38 [P3 x y false] [true, false] =
    some ([ok1 (1 : Int) x = true, x < 4294967296 ^ 8, ok1 (1 : Int) y = false, y < 4294967296 ^ 8], bV false) := by kernel_rfl
theorem wi38m (x : Nat) (y : Nat) : callR (mkE L2a S38) 1000 38 [P3 x y false] [false] =
    some ([ok1 (1 : Int) x = false, x < 4294967296 ^ 8], bV false) := by kernel_rfl
theorem wi14i (x : Nat) (y : Nat) : callR (mkE L2a S14) 1000 14 [P3 x y true] [] =
    some ([], bV (isI x y)) := by kernel_rfl
theorem wi14y (x : Nat) (y : Nat) : callR (mkE L2a S14) 1000 14 [P3 x y false] [true, true] =
    some ([(0 : Int) ≤ (1 : Int) ∧ (1 : Int) < (4 : Int), decide (x < modN 1) = true, x < 4294967296 ^ 8, modN 1 < 4294967296 ^ 8, (0 : Int) ≤ (1 : Int) ∧ (1 : Int) < (4 : Int), decide (y < modN 1) = true, y < 4294967296 ^ 8, modN 1 < 4294967296 ^ 8, (0 : Int) ≤ (1 : Int) ∧ (1 : Int) < (4 : Int), okR (modN 1) (facR (limb (modN 1) 0)) (r2N (modN 1)), y < modN 1, y < 4294967296 ^ 8, okR (modN 1) (facR (limb (modN 1) 0)) (r2N (modN 1)), inN (modN 1) y < modN 1, inN (modN 1) y < modN 1, inN (modN 1) y < 4294967296 ^ 8, inN (modN 1) y < 4294967296 ^ 8, okR (modN 1) (facR (limb (modN 1) 0)) (r2N (modN 1)), x < modN 1, x < 4294967296 ^ 8, modN 1 < 4294967296 ^ 8, facR (limb (modN 1) 0) < 4294967296, r2N (modN 1) < 4294967296 ^ 8, inN (modN 1) x < 4294967296 ^ 8, modN 1 = modN 1, facR (limb (modN 1) 0) = facR (limb (modN 1) 0), r2N (modN 1) = r2N (modN 1), inN (modN 1) x < modN 1], bV (decide (mmN (modN 1) (inN (modN 1) y) (inN (modN 1) y) % 4294967296 ^ 8 = sqJ (inN (modN 1) x) % 4294967296 ^ 8) && true)) := by kernel_rfl
theorem wi14n (x : Nat) (y : Nat) : callR (mkE L2a S14) 1000 14 [P3 x y false] [true, false] =
    some ([(0 : Int) ≤ (1 : Int) ∧ (1 : Int) < (4 : Int), decide (x < modN 1) = true, x < 4294967296 ^ 8, modN 1 < 4294967296 ^ 8, (0 : Int) ≤ (1 : Int) ∧ (1 : Int) < (4 : Int), decide (y < modN 1) = false, y < 4294967296 ^ 8, modN 1 < 4294967296 ^ 8], bV false) := by kernel_rfl
theorem wi14m (x : Nat) (y : Nat) : callR (mkE L2a S14) 1000 14 [P3 x y false] [false] =
    some ([(0 : Int) ≤ (1 : Int) ∧ (1 : Int) < (4 : Int), decide (x < modN 1) = false, x < 4294967296 ^ 8, modN 1 < 4294967296 ^ 8], bV false) := by kernel_rfl
def sqP (x : Nat) : Nat := addM (modN 1) (subM (modN 1) (mulM (modN 1) x (mulM (modN 1) x x)) (addM (modN 1) x (addM (modN 1) x x))) wBN
theorem sqP_lt (x : Nat) : sqP x < modN 1 := addM_lt (modN_pos 1)
theorem sqJ_in (x : Nat) : sqJ (inN (modN 1) x) = inN (modN 1) (sqP x) := by
  unfold sqJ sqP
  rw [in_mul (by decide), in_mul (by decide), in_add, in_add, in_sub (modN_pos 1) (addM_lt (modN_pos 1)), in_add]
theorem eqW_in {x y : Nat} : eqW x y = decide (mulM (modN 1) y y = sqP x) := by
  unfold eqW
  rw [sqJ_in, in_mul (by decide), Bool.eq_iff_iff, decide_eq_true_iff, decide_eq_true_iff]
  exact ⟨fun h => in_inj (modN_lt 1) (good_fac (by decide)) (mulM_lt (modN_pos 1)) (sqP_lt x) h, fun h => by rw [h]⟩
theorem spec38w (x y : Nat) (i : Bool) (hx : x < 4294967296 ^ 8) (hy : y < 4294967296 ^ 8) : Spec 38 [P3 x y i] (bV (onS x y i)) := by
  have h0 := wBN_lt
  unfold onS
  cases i with
  | true =>
    rw [cond_true, ← isI_eq hx hy]
    exact spec_run (envMk L2a_ok S38) rfl (wi38i x y) trivial rfl rfl
  | false =>
  rw [cond_false]
  unfold ltW
  cases h1 : decide (x < modN 1) with
  | false =>
    have h1' : ok1 1 x = false := by rw [ok1_1]; exact h1
    rw [Bool.false_and, Bool.false_and]
    exact spec_run (envMk L2a_ok S38) rfl (wi38m x y) ⟨(by first | with_reducible assumption | with_reducible exact L8 (by with_reducible assumption) | exact decide_eq_true (by omega) | exact decide_eq_false (by omega) | omega), (by first | with_reducible assumption | with_reducible exact L8 (by with_reducible assumption) | exact decide_eq_true (by omega) | exact decide_eq_false (by omega) | omega), trivial⟩ rfl rfl
  | true =>
    have h1' : ok1 1 x = true := by rw [ok1_1]; exact h1
    cases h2 : decide (y < modN 1) with
    | false =>
      have h2' : ok1 1 y = false := by rw [ok1_1]; exact h2
      rw [Bool.and_false, Bool.false_and]
      exact spec_run (envMk L2a_ok S38) rfl (wi38n x y) ⟨(by first | with_reducible assumption | with_reducible exact L8 (by with_reducible assumption) | exact decide_eq_true (by omega) | exact decide_eq_false (by omega) | omega), (by first | with_reducible assumption | with_reducible exact L8 (by with_reducible assumption) | exact decide_eq_true (by omega) | exact decide_eq_false (by omega) | omega), (by first | with_reducible assumption | with_reducible exact L8 (by with_reducible assumption) | exact decide_eq_true (by omega) | exact decide_eq_false (by omega) | omega), (by first | with_reducible assumption | with_reducible exact L8 (by with_reducible assumption) | exact decide_eq_true (by omega) | exact decide_eq_false (by omega) | omega), trivial⟩ rfl rfl
    | true =>
      have h2' : ok1 1 y = true := by rw [ok1_1]; exact h2
      have hx' := of_decide_eq_true h1
      have hy' := of_decide_eq_true h2
      have hp := modN_pos 1
      have hm8 := modN_lt 1
      rw [Bool.and_true, Bool.true_and]
      have h := spec_run (envMk L2a_ok S38) rfl (wi38y x y) ⟨(by first | with_reducible assumption | with_reducible exact L8 (by with_reducible assumption) | exact decide_eq_true (by omega) | exact decide_eq_false (by omega) | omega), (by first | with_reducible assumption | with_reducible exact L8 (by with_reducible assumption) | exact decide_eq_true (by omega) | exact decide_eq_false (by omega) | omega), (by first | with_reducible assumption | with_reducible exact L8 (by with_reducible assumption) | exact decide_eq_true (by omega) | exact decide_eq_false (by omega) | omega), (by first | with_reducible assumption | with_reducible exact L8 (by with_reducible assumption) | exact decide_eq_true (by omega) | exact decide_eq_false (by omega) | omega), (by decide), (modN_lt _), (by first | with_reducible assumption | with_reducible exact L8 (by with_reducible assumption) | exact decide_eq_true (by omega) | exact decide_eq_false (by omega) | omega), (by first | with_reducible assumption | with_reducible exact L8 (by with_reducible assumption) | exact decide_eq_true (by omega) | exact decide_eq_false (by omega) | omega), (modN_pos _), (by first | with_reducible assumption | with_reducible exact L8 (by with_reducible assumption) | exact decide_eq_true (by omega) | exact decide_eq_false (by omega) | omega), (by first | with_reducible assumption | with_reducible exact L8 (by with_reducible assumption) | exact decide_eq_true (by omega) | exact decide_eq_false (by omega) | omega), trivial⟩ rfl rfl
      have e1 : remN (y * y) (modN 1) = mulM (modN 1) y y := rfl
      have e2 : outN (modN 1) (sqI x) = sqP x := by rw [sqI_J, sqJ_in, out_in (modN_lt 1) (good_fac (by decide)) (sqP_lt x)]
      rw [e1, e2, same_b (L8 (mulM_lt hp)) (L8 (sqP_lt x))] at h
      rw [eqW_in]
      exact h
theorem spec14w (x y : Nat) (i : Bool) (hx : x < 4294967296 ^ 8) (hy : y < 4294967296 ^ 8) : Spec 14 [P3 x y i] (bV (onS x y i)) := by
  have h0 := wBN_lt
  unfold onS
  cases i with
  | true =>
    rw [cond_true, ← isI_eq hx hy]
    exact spec_run (envMk L2a_ok S14) rfl (wi14i x y) trivial rfl rfl
  | false =>
  rw [cond_false]
  unfold ltW
  cases h1 : decide (x < modN 1) with
  | false =>
    have h1' : lessB 1 x = false := h1
    rw [Bool.false_and, Bool.false_and]
    exact spec_run (envMk L2a_ok S14) rfl (wi14m x y) ⟨(by decide), (by first | with_reducible assumption | with_reducible exact L8 (by with_reducible assumption) | exact decide_eq_true (by omega) | exact decide_eq_false (by omega) | omega), (by first | with_reducible assumption | with_reducible exact L8 (by with_reducible assumption) | exact decide_eq_true (by omega) | exact decide_eq_false (by omega) | omega), (modN_lt _), trivial⟩ rfl rfl
  | true =>
    have h1' : lessB 1 x = true := h1
    cases h2 : decide (y < modN 1) with
    | false =>
      have h2' : lessB 1 y = false := h2
      rw [Bool.and_false, Bool.false_and]
      exact spec_run (envMk L2a_ok S14) rfl (wi14n x y) ⟨(by decide), (by first | with_reducible assumption | with_reducible exact L8 (by with_reducible assumption) | exact decide_eq_true (by omega) | exact decide_eq_false (by omega) | omega), (by first | with_reducible assumption | with_reducible exact L8 (by with_reducible assumption) | exact decide_eq_true (by omega) | exact decide_eq_false (by omega) | omega), (modN_lt _), (by decide), (by first | with_reducible assumption | with_reducible exact L8 (by with_reducible assumption) | exact decide_eq_true (by omega) | exact decide_eq_false (by omega) | omega), (by first | with_reducible assumption | with_reducible exact L8 (by with_reducible assumption) | exact decide_eq_true (by omega) | exact decide_eq_false (by omega) | omega), (modN_lt _), trivial⟩ rfl rfl
    | true =>
      have h2' : lessB 1 y = true := h2
      have hx' := of_decide_eq_true h1
      have hy' := of_decide_eq_true h2
      have hp := modN_pos 1
      rw [Bool.and_true, Bool.true_and]
      have h := spec_run (envMk L2a_ok S14) rfl (wi14y x y) ⟨(by decide), (by first | with_reducible assumption | with_reducible exact L8 (by with_reducible assumption) | exact decide_eq_true (by omega) | exact decide_eq_false (by omega) | omega), (by first | with_reducible assumption | with_reducible exact L8 (by with_reducible assumption) | exact decide_eq_true (by omega) | exact decide_eq_false (by omega) | omega), (modN_lt _), (by decide), (by first | with_reducible assumption | with_reducible exact L8 (by with_reducible assumption) | exact decide_eq_true (by omega) | exact decide_eq_false (by omega) | omega), (by first | with_reducible assumption | with_reducible exact L8 (by with_reducible assumption) | exact decide_eq_true (by omega) | exact decide_eq_false (by omega) | omega), (modN_lt _), (by decide), (okR_K (by decide)), (by first | with_reducible assumption | with_reducible exact L8 (by with_reducible assumption) | exact decide_eq_true (by omega) | exact decide_eq_false (by omega) | omega), (by first | with_reducible assumption | with_reducible exact L8 (by with_reducible assumption) | exact decide_eq_true (by omega) | exact decide_eq_false (by omega) | omega), (okR_K (by decide)), (inN_lt (modN_pos _)), (inN_lt (modN_pos _)), (L8 (inN_lt (modN_pos _))), (L8 (inN_lt (modN_pos _))), (okR_K (by decide)), (by first | with_reducible assumption | with_reducible exact L8 (by with_reducible assumption) | exact decide_eq_true (by omega) | exact decide_eq_false (by omega) | omega), (by first | with_reducible assumption | with_reducible exact L8 (by with_reducible assumption) | exact decide_eq_true (by omega) | exact decide_eq_false (by omega) | omega), (modN_lt _), (facR_lt32 _), (L8 (r2N_lt (by decide))), (L8 (inN_lt (modN_pos _))), rfl, rfl, rfl, (inN_lt (modN_pos _)), trivial⟩ rfl rfl
      rw [same_b (L8 (mmN_lt hp)) (L8 (show sqJ (inN (modN 1) x) < modN 1 from addM_lt hp))] at h
      exact h
def gOn (b : Nat → Nat → Bool → Bool) : List Val → Option (List Prop × AV)
  | [.n x, .n y, .b i] => some ([], bV (b x y i))
  | _ => none
def aSp : Arg := .s [.n8, .n8, .b]
theorem ctOn {f : FuncId} (hf : ∀ x y i, x < 4294967296 ^ 8 → y < 4294967296 ^ 8 → Spec f [P3 x y i] (bV (onS x y i))) : CTok ⟨f, fnS [aSp] (gOn onS)⟩ := ctS (by
  intro xs ob r hb h ho
  unfold gOn at h
  split at h
  · rename_i x y i
    simp only [Option.some.injEq, Prod.mk.injEq] at h
    obtain ⟨rfl, rfl⟩ := h
    obtain ⟨⟨hx, hy, _⟩, _⟩ := hb
    exact hf x y i hx hy
  · simp at h)
noncomputable def L3a : List CT := [⟨38, fnS [aSp] (gOn onS)⟩, ⟨14, fnS [aSp] (gOn onS)⟩] ++ L2a
theorem L3a_ok : AllCT L3a := ⟨ctOn spec38w, ctOn spec14w, L2a_ok⟩
end Go.Ev

namespace Go.Ev
open Go Go.Proofs Go.RowKit

/-! the program's law, on three coordinates -/
structure J3 where
  x : Nat
  y : Nat
  z : Nat
def J3.lt (p : J3) : Prop := p.x < modN 1 ∧ p.y < modN 1 ∧ p.z < modN 1
def w3V (p : J3) : V1 := .agg [.num 8 p.x, .num 8 p.y, .num 8 p.z]
def aJ : Arg := .s [.n8, .n8, .n8]
noncomputable def lawV : V1 := .agg [.num 8 (modN 1), .a (.u .u32 (facN 1)), .num 8 wBi]
theorem wBi_lt : wBi < modN 1 := inN_lt (modN_pos 1)
noncomputable def mcr (a b c d ac bd : Nat) : Nat := subM (modN 1) (mmN (modN 1) (addM (modN 1) a b) (addM (modN 1) c d)) (addM (modN 1) ac bd)
noncomputable def mtr (a : Nat) : Nat := addM (modN 1) (addM (modN 1) a a) a
theorem mcr_lt {a b c d ac bd : Nat} : mcr a b c d ac bd < modN 1 := subM_lt (modN_pos 1)
theorem mtr_lt {a : Nat} : mtr a < modN 1 := addM_lt (modN_pos 1)
theorem wi40 (a : Nat) : callR (mkE L3a noS) 1000 40 [] [] =
    some ([(0 : Int) ≤ (1 : Int) ∧ (1 : Int) < (4 : Int), modN 1 < 4294967296 ^ 8, 0 < modN 1, wBN < 4294967296 ^ 8], .val lawV) := by kernel_rfl
theorem spec40w : Spec 40 [] (.val lawV) := by
  have h0 := wBN_lt
  exact spec_run (envMk L3a_ok noS) rfl (wi40 0) ⟨(by decide), (modN_lt _), (modN_pos _), (by first | with_reducible assumption | with_reducible exact L8 (by with_reducible assumption) | exact decide_eq_true (by omega) | exact decide_eq_false (by omega) | omega), trivial⟩ rfl rfl
noncomputable def wLift (x y : Nat) (i : Bool) : J3 := bif i then ⟨0, inN (modN 1) 1, 0⟩ else ⟨inN (modN 1) x, inN (modN 1) y, inN (modN 1) 1⟩
theorem wLift_lt (x y : Nat) (i : Bool) : (wLift x y i).lt := by
  have hp := modN_pos 1
  cases i
  · exact ⟨inN_lt hp, inN_lt hp, inN_lt hp⟩
  · exact ⟨hp, inN_lt hp, hp⟩
theorem wi44i (x : Nat) (y : Nat) : callR (mkE L3a noS) 1000 44 [lawV, P3 x y true] [] =
    some ([modN 1 < 4294967296 ^ 8, 0 < modN 1, 1 < 4294967296, 0 < 4294967296, 0 < 4294967296, 0 < 4294967296, 0 < 4294967296, 0 < 4294967296, 0 < 4294967296, 0 < 4294967296], .val (.agg (cellsU 8 0 zF ++ (.num 8 (inN (modN 1) 1) :: cellsU 8 0 zF)))) := by kernel_rfl
theorem wi44f (x : Nat) (y : Nat) : callR (mkE L3a noS) 1000 44 [lawV, P3 x y false] [] =
    some ([modN 1 < 4294967296 ^ 8, 0 < modN 1, 1 < 4294967296, 0 < 4294967296, 0 < 4294967296, 0 < 4294967296, 0 < 4294967296, 0 < 4294967296, 0 < 4294967296, 0 < 4294967296, modN 1 < 4294967296 ^ 8, 0 < modN 1, x < 4294967296 ^ 8, modN 1 < 4294967296 ^ 8, 0 < modN 1, y < 4294967296 ^ 8], .val (w3V (wLift x y false))) := by kernel_rfl
theorem spec44w (x y : Nat) (i : Bool) (h : i = true ∨ (x < modN 1 ∧ y < modN 1)) : Spec 44 [lawV, P3 x y i] (.val (w3V (wLift x y i))) := by
  have h1 := modN_one 1
  cases i with
  | true => exact (spec_run (envMk L3a_ok noS) rfl (wi44i x y) ⟨(modN_lt _), (modN_pos _), lit1, lit0, lit0, lit0, lit0, lit0, lit0, lit0, trivial⟩ rfl rfl).congr (fun _ => rfl) (fun φ => by
      simp only [AV.conc, V1.conc, w3V, wLift, cond_true, concs_append]
      rw [← limb_zero, ← concs_num φ 8 0]
      rfl)
  | false =>
    rcases h with h | ⟨hx, hy⟩
    · simp at h
    · exact spec_run (envMk L3a_ok noS) rfl (wi44f x y) ⟨(modN_lt _), (modN_pos _), lit1, lit0, lit0, lit0, lit0, lit0, lit0, lit0, (modN_lt _), (modN_pos _), (by first | with_reducible assumption | with_reducible exact L8 (by with_reducible assumption) | exact decide_eq_true (by omega) | exact decide_eq_false (by omega) | omega), (modN_lt _), (modN_pos _), (by first | with_reducible assumption | with_reducible exact L8 (by with_reducible assumption) | exact decide_eq_true (by omega) | exact decide_eq_false (by omega) | omega), trivial⟩ rfl rfl
theorem wi74 (a : Nat) (b : Nat) (c : Nat) (d : Nat) (e : Nat) (g : Nat) : callR (mkE L3a noS) 1000 74 [lawV, N8 a, N8 b, N8 c, N8 d, N8 e, N8 g] [] =
    some ([modN 1 < 4294967296 ^ 8, a < modN 1, b < modN 1, a < 4294967296 ^ 8, b < 4294967296 ^ 8, modN 1 < 4294967296 ^ 8, c < modN 1, d < modN 1, c < 4294967296 ^ 8, d < 4294967296 ^ 8, modN 1 < 4294967296 ^ 8, addM (modN 1) a b < modN 1, addM (modN 1) c d < modN 1, goodF (modN 1) (facN 1), addM (modN 1) a b < 4294967296 ^ 8, addM (modN 1) c d < 4294967296 ^ 8, modN 1 < 4294967296 ^ 8, e < modN 1, g < modN 1, e < 4294967296 ^ 8, g < 4294967296 ^ 8, modN 1 < 4294967296 ^ 8, mmN (modN 1) (addM (modN 1) a b) (addM (modN 1) c d) < modN 1, addM (modN 1) e g < modN 1, mmN (modN 1) (addM (modN 1) a b) (addM (modN 1) c d) < 4294967296 ^ 8, addM (modN 1) e g < 4294967296 ^ 8], .val (N8 (mcr a b c d e g))) := by kernel_rfl
theorem wi75 (a : Nat) : callR (mkE L3a noS) 1000 75 [lawV, N8 a] [] =
    some ([modN 1 < 4294967296 ^ 8, a < modN 1, a < modN 1, a < 4294967296 ^ 8, a < 4294967296 ^ 8, modN 1 < 4294967296 ^ 8, addM (modN 1) a a < modN 1, a < modN 1, addM (modN 1) a a < 4294967296 ^ 8, a < 4294967296 ^ 8], .val (N8 (mtr a))) := by kernel_rfl
theorem spec74w (a b c d e g : Nat) (ha : a < modN 1) (hb : b < modN 1) (hc : c < modN 1) (hd : d < modN 1) (he : e < modN 1) (hg : g < modN 1) : Spec 74 [lawV, N8 a, N8 b, N8 c, N8 d, N8 e, N8 g] (.val (N8 (mcr a b c d e g))) := spec_run (envMk L3a_ok noS) rfl (wi74 a b c d e g) ⟨(modN_lt _), (by first | with_reducible assumption | with_reducible exact L8 (by with_reducible assumption) | exact decide_eq_true (by omega) | exact decide_eq_false (by omega) | omega), (by first | with_reducible assumption | with_reducible exact L8 (by with_reducible assumption) | exact decide_eq_true (by omega) | exact decide_eq_false (by omega) | omega), (by first | with_reducible assumption | with_reducible exact L8 (by with_reducible assumption) | exact decide_eq_true (by omega) | exact decide_eq_false (by omega) | omega), (by first | with_reducible assumption | with_reducible exact L8 (by with_reducible assumption) | exact decide_eq_true (by omega) | exact decide_eq_false (by omega) | omega), (modN_lt _), (by first | with_reducible assumption | with_reducible exact L8 (by with_reducible assumption) | exact decide_eq_true (by omega) | exact decide_eq_false (by omega) | omega), (by first | with_reducible assumption | with_reducible exact L8 (by with_reducible assumption) | exact decide_eq_true (by omega) | exact decide_eq_false (by omega) | omega), (by first | with_reducible assumption | with_reducible exact L8 (by with_reducible assumption) | exact decide_eq_true (by omega) | exact decide_eq_false (by omega) | omega), (by first | with_reducible assumption | with_reducible exact L8 (by with_reducible assumption) | exact decide_eq_true (by omega) | exact decide_eq_false (by omega) | omega), (modN_lt _), (addM_lt (modN_pos _)), (addM_lt (modN_pos _)), (good_fac (by decide)), (L8 (addM_lt (modN_pos _))), (L8 (addM_lt (modN_pos _))), (modN_lt _), (by first | with_reducible assumption | with_reducible exact L8 (by with_reducible assumption) | exact decide_eq_true (by omega) | exact decide_eq_false (by omega) | omega), (by first | with_reducible assumption | with_reducible exact L8 (by with_reducible assumption) | exact decide_eq_true (by omega) | exact decide_eq_false (by omega) | omega), (by first | with_reducible assumption | with_reducible exact L8 (by with_reducible assumption) | exact decide_eq_true (by omega) | exact decide_eq_false (by omega) | omega), (by first | with_reducible assumption | with_reducible exact L8 (by with_reducible assumption) | exact decide_eq_true (by omega) | exact decide_eq_false (by omega) | omega), (modN_lt _), (mmN_lt (modN_pos _)), (addM_lt (modN_pos _)), (L8 (mmN_lt (modN_pos _))), (L8 (addM_lt (modN_pos _))), trivial⟩ rfl rfl
theorem spec75w (a : Nat) (ha : a < modN 1) : Spec 75 [lawV, N8 a] (.val (N8 (mtr a))) := spec_run (envMk L3a_ok noS) rfl (wi75 a) ⟨(modN_lt _), (by first | with_reducible assumption | with_reducible exact L8 (by with_reducible assumption) | exact decide_eq_true (by omega) | exact decide_eq_false (by omega) | omega), (by first | with_reducible assumption | with_reducible exact L8 (by with_reducible assumption) | exact decide_eq_true (by omega) | exact decide_eq_false (by omega) | omega), (by first | with_reducible assumption | with_reducible exact L8 (by with_reducible assumption) | exact decide_eq_true (by omega) | exact decide_eq_false (by omega) | omega), (by first | with_reducible assumption | with_reducible exact L8 (by with_reducible assumption) | exact decide_eq_true (by omega) | exact decide_eq_false (by omega) | omega), (modN_lt _), (addM_lt (modN_pos _)), (by first | with_reducible assumption | with_reducible exact L8 (by with_reducible assumption) | exact decide_eq_true (by omega) | exact decide_eq_false (by omega) | omega), (L8 (addM_lt (modN_pos _))), (by first | with_reducible assumption | with_reducible exact L8 (by with_reducible assumption) | exact decide_eq_true (by omega) | exact decide_eq_false (by omega) | omega), trivial⟩ rfl rfl
noncomputable def gCross : List Val → Option (List Prop × AV)
  | [.n m, .n q, .n w, .n a, .n b, .n c, .n d, .n e, .n g] => some ([m = modN 1, q = facN 1, w = wBi, a < modN 1, b < modN 1, c < modN 1, d < modN 1, e < modN 1, g < modN 1], .val (N8 (mcr a b c d e g)))
  | _ => none
noncomputable def gTri : List Val → Option (List Prop × AV)
  | [.n m, .n q, .n w, .n a] => some ([m = modN 1, q = facN 1, w = wBi, a < modN 1], .val (N8 (mtr a)))
  | _ => none
noncomputable def gOf : List Val → Option (List Prop × AV)
  | [.n m, .n q, .n w, .n x, .n y, .b i] => some ([m = modN 1, q = facN 1, w = wBi, i = true ∨ (x < modN 1 ∧ y < modN 1)], .val (w3V (wLift x y i)))
  | _ => none
theorem ct74w : CTok ⟨74, fnS [aLaw, aN, aN, aN, aN, aN, aN] gCross⟩ := ctS (by
  intro xs ob r hb h ho
  unfold gCross at h
  split at h
  · simp only [Option.some.injEq, Prod.mk.injEq] at h
    obtain ⟨rfl, rfl⟩ := h
    obtain ⟨e0, e1, e2, h1, h2, h3, h4, h5, h6, _⟩ := ho
    subst e0 e1 e2
    exact spec74w _ _ _ _ _ _ h1 h2 h3 h4 h5 h6
  · simp at h)
theorem ct75w : CTok ⟨75, fnS [aLaw, aN] gTri⟩ := ctS (by
  intro xs ob r hb h ho
  unfold gTri at h
  split at h
  · simp only [Option.some.injEq, Prod.mk.injEq] at h
    obtain ⟨rfl, rfl⟩ := h
    obtain ⟨e0, e1, e2, h1, _⟩ := ho
    subst e0 e1 e2
    exact spec75w _ h1
  · simp at h)
theorem ct44w : CTok ⟨44, fnS [aLaw, aSp] gOf⟩ := ctS (by
  intro xs ob r hb h ho
  unfold gOf at h
  split at h
  · rename_i m q w x y i
    simp only [Option.some.injEq, Prod.mk.injEq] at h
    obtain ⟨rfl, rfl⟩ := h
    obtain ⟨e0, e1, e2, h1, _⟩ := ho
    subst e0 e1 e2
    exact spec44w x y i h1
  · simp at h)
noncomputable def L4a : List CT := [⟨40, cV (.val lawV)⟩, ⟨74, fnS [aLaw, aN, aN, aN, aN, aN, aN] gCross⟩, ⟨75, fnS [aLaw, aN] gTri⟩, ⟨44, fnS [aLaw, aSp] gOf⟩] ++ L3a
theorem L4a_ok : AllCT L4a := ⟨ctV spec40w, ct74w, ct75w, ct44w, L3a_ok⟩
end Go.Ev

namespace Go.Ev
open Go Go.Proofs Go.RowKit

noncomputable def mXX (p q : J3) : Nat := mmN (modN 1) p.x q.x
noncomputable def mYY (p q : J3) : Nat := mmN (modN 1) p.y q.y
noncomputable def mZZ (p q : J3) : Nat := mmN (modN 1) p.z q.z
noncomputable def mXY (p q : J3) : Nat := mcr p.x p.y q.x q.y (mXX p q) (mYY p q)
noncomputable def mYZ (p q : J3) : Nat := mcr p.y p.z q.y q.z (mYY p q) (mZZ p q)
noncomputable def mXZ (p q : J3) : Nat := mcr p.x p.z q.x q.z (mXX p q) (mZZ p q)
noncomputable def mSi (p q : J3) : Nat := mtr (subM (modN 1) (mXZ p q) (mmN (modN 1) wBi (mZZ p q)))
noncomputable def mLe (p q : J3) : Nat := subM (modN 1) (mYY p q) (mSi p q)
noncomputable def mRi (p q : J3) : Nat := addM (modN 1) (mYY p q) (mSi p q)
noncomputable def mZ3 (p q : J3) : Nat := mtr (mZZ p q)
noncomputable def mMM (p q : J3) : Nat := mtr (subM (modN 1) (subM (modN 1) (mmN (modN 1) wBi (mXZ p q)) (mZ3 p q)) (mXX p q))
noncomputable def mNN (p q : J3) : Nat := subM (modN 1) (mtr (mXX p q)) (mZ3 p q)
noncomputable def mAdd (p q : J3) : J3 := ⟨subM (modN 1) (mmN (modN 1) (mXY p q) (mRi p q)) (mmN (modN 1) (mYZ p q) (mMM p q)), addM (modN 1) (mmN (modN 1) (mRi p q) (mLe p q)) (mmN (modN 1) (mNN p q) (mMM p q)), addM (modN 1) (mmN (modN 1) (mYZ p q) (mLe p q)) (mmN (modN 1) (mXY p q) (mNN p q))⟩
theorem mAdd_lt (p q : J3) : (mAdd p q).lt := ⟨subM_lt (modN_pos 1), addM_lt (modN_pos 1), addM_lt (modN_pos 1)⟩
theorem wi42 (p : J3) (q : J3) : callR (mkE L4a noS) 1000 42 [lawV, w3V p, w3V q] [] =
    some ([modN 1 < 4294967296 ^ 8, p.1 < modN 1, q.1 < modN 1, goodF (modN 1) (facN 1), p.1 < 4294967296 ^ 8, q.1 < 4294967296 ^ 8, modN 1 < 4294967296 ^ 8, p.2 < modN 1, q.2 < modN 1, goodF (modN 1) (facN 1), p.2 < 4294967296 ^ 8, q.2 < 4294967296 ^ 8, modN 1 < 4294967296 ^ 8, p.3 < modN 1, q.3 < modN 1, goodF (modN 1) (facN 1), p.3 < 4294967296 ^ 8, q.3 < 4294967296 ^ 8, modN 1 < 4294967296 ^ 8, facN 1 < 4294967296, wBi < 4294967296 ^ 8, p.1 < 4294967296 ^ 8, p.2 < 4294967296 ^ 8, q.1 < 4294967296 ^ 8, q.2 < 4294967296 ^ 8, mmN (modN 1) p.1 q.1 < 4294967296 ^ 8, mmN (modN 1) p.2 q.2 < 4294967296 ^ 8, modN 1 = modN 1, facN 1 = facN 1, wBi = wBi, p.1 < modN 1, p.2 < modN 1, q.1 < modN 1, q.2 < modN 1, mmN (modN 1) p.1 q.1 < modN 1, mmN (modN 1) p.2 q.2 < modN 1, modN 1 < 4294967296 ^ 8, facN 1 < 4294967296, wBi < 4294967296 ^ 8, p.2 < 4294967296 ^ 8, p.3 < 4294967296 ^ 8, q.2 < 4294967296 ^ 8, q.3 < 4294967296 ^ 8, mmN (modN 1) p.2 q.2 < 4294967296 ^ 8, mmN (modN 1) p.3 q.3 < 4294967296 ^ 8, modN 1 = modN 1, facN 1 = facN 1, wBi = wBi, p.2 < modN 1, p.3 < modN 1, q.2 < modN 1, q.3 < modN 1, mmN (modN 1) p.2 q.2 < modN 1, mmN (modN 1) p.3 q.3 < modN 1, modN 1 < 4294967296 ^ 8, facN 1 < 4294967296, wBi < 4294967296 ^ 8, p.1 < 4294967296 ^ 8, p.3 < 4294967296 ^ 8, q.1 < 4294967296 ^ 8, q.3 < 4294967296 ^ 8, mmN (modN 1) p.1 q.1 < 4294967296 ^ 8, mmN (modN 1) p.3 q.3 < 4294967296 ^ 8, modN 1 = modN 1, facN 1 = facN 1, wBi = wBi, p.1 < modN 1, p.3 < modN 1, q.1 < modN 1, q.3 < modN 1, mmN (modN 1) p.1 q.1 < modN 1, mmN (modN 1) p.3 q.3 < modN 1, modN 1 < 4294967296 ^ 8, wBi < modN 1, mmN (modN 1) p.3 q.3 < modN 1, goodF (modN 1) (facN 1), wBi < 4294967296 ^ 8, mmN (modN 1) p.3 q.3 < 4294967296 ^ 8, modN 1 < 4294967296 ^ 8, mcr p.1 p.3 q.1 q.3 (mmN (modN 1) p.1 q.1) (mmN (modN 1) p.3 q.3) < modN 1, mmN (modN 1) wBi (mmN (modN 1) p.3 q.3) < modN 1, mcr p.1 p.3 q.1 q.3 (mmN (modN 1) p.1 q.1) (mmN (modN 1) p.3 q.3) < 4294967296 ^ 8, mmN (modN 1) wBi (mmN (modN 1) p.3 q.3) < 4294967296 ^ 8, modN 1 < 4294967296 ^ 8, facN 1 < 4294967296, wBi < 4294967296 ^ 8, subM (modN 1) (mcr p.1 p.3 q.1 q.3 (mmN (modN 1) p.1 q.1) (mmN (modN 1) p.3 q.3)) (mmN (modN 1) wBi (mmN (modN 1) p.3 q.3)) < 4294967296 ^ 8, modN 1 = modN 1, facN 1 = facN 1, wBi = wBi, subM (modN 1) (mcr p.1 p.3 q.1 q.3 (mmN (modN 1) p.1 q.1) (mmN (modN 1) p.3 q.3)) (mmN (modN 1) wBi (mmN (modN 1) p.3 q.3)) < modN 1, modN 1 < 4294967296 ^ 8, mmN (modN 1) p.2 q.2 < modN 1, mtr (subM (modN 1) (mcr p.1 p.3 q.1 q.3 (mmN (modN 1) p.1 q.1) (mmN (modN 1) p.3 q.3)) (mmN (modN 1) wBi (mmN (modN 1) p.3 q.3))) < modN 1, mmN (modN 1) p.2 q.2 < 4294967296 ^ 8, mtr (subM (modN 1) (mcr p.1 p.3 q.1 q.3 (mmN (modN 1) p.1 q.1) (mmN (modN 1) p.3 q.3)) (mmN (modN 1) wBi (mmN (modN 1) p.3 q.3))) < 4294967296 ^ 8, modN 1 < 4294967296 ^ 8, mmN (modN 1) p.2 q.2 < modN 1, mtr (subM (modN 1) (mcr p.1 p.3 q.1 q.3 (mmN (modN 1) p.1 q.1) (mmN (modN 1) p.3 q.3)) (mmN (modN 1) wBi (mmN (modN 1) p.3 q.3))) < modN 1, mmN (modN 1) p.2 q.2 < 4294967296 ^ 8, mtr (subM (modN 1) (mcr p.1 p.3 q.1 q.3 (mmN (modN 1) p.1 q.1) (mmN (modN 1) p.3 q.3)) (mmN (modN 1) wBi (mmN (modN 1) p.3 q.3))) < 4294967296 ^ 8, modN 1 < 4294967296 ^ 8, facN 1 < 4294967296, wBi < 4294967296 ^ 8, mmN (modN 1) p.3 q.3 < 4294967296 ^ 8, modN 1 = modN 1, facN 1 = facN 1, wBi = wBi, mmN (modN 1) p.3 q.3 < modN 1, modN 1 < 4294967296 ^ 8, wBi < modN 1, mcr p.1 p.3 q.1 q.3 (mmN (modN 1) p.1 q.1) (mmN (modN 1) p.3 q.3) < modN 1, goodF (modN 1) (facN 1), wBi < 4294967296 ^ 8, mcr p.1 p.3 q.1 q.3 (mmN (modN 1) p.1 q.1) (mmN (modN 1) p.3 q.3) < 4294967296 ^ 8, modN 1 < 4294967296 ^ 8, mmN (modN 1) wBi (mcr p.1 p.3 q.1 q.3 (mmN (modN 1) p.1 q.1) (mmN (modN 1) p.3 q.3)) < modN 1, mtr (mmN (modN 1) p.3 q.3) < modN 1, mmN (modN 1) wBi (mcr p.1 p.3 q.1 q.3 (mmN (modN 1) p.1 q.1) (mmN (modN 1) p.3 q.3)) < 4294967296 ^ 8, mtr (mmN (modN 1) p.3 q.3) < 4294967296 ^ 8, modN 1 < 4294967296 ^ 8, subM (modN 1) (mmN (modN 1) wBi (mcr p.1 p.3 q.1 q.3 (mmN (modN 1) p.1 q.1) (mmN (modN 1) p.3 q.3))) (mtr (mmN (modN 1) p.3 q.3)) < modN 1, mmN (modN 1) p.1 q.1 < modN 1, subM (modN 1) (mmN (modN 1) wBi (mcr p.1 p.3 q.1 q.3 (mmN (modN 1) p.1 q.1) (mmN (modN 1) p.3 q.3))) (mtr (mmN (modN 1) p.3 q.3)) < 4294967296 ^ 8, mmN (modN 1) p.1 q.1 < 4294967296 ^ 8, modN 1 < 4294967296 ^ 8, facN 1 < 4294967296, wBi < 4294967296 ^ 8, subM (modN 1) (subM (modN 1) (mmN (modN 1) wBi (mcr p.1 p.3 q.1 q.3 (mmN (modN 1) p.1 q.1) (mmN (modN 1) p.3 q.3))) (mtr (mmN (modN 1) p.3 q.3))) (mmN (modN 1) p.1 q.1) < 4294967296 ^ 8, modN 1 = modN 1, facN 1 = facN 1, wBi = wBi, subM (modN 1) (subM (modN 1) (mmN (modN 1) wBi (mcr p.1 p.3 q.1 q.3 (mmN (modN 1) p.1 q.1) (mmN (modN 1) p.3 q.3))) (mtr (mmN (modN 1) p.3 q.3))) (mmN (modN 1) p.1 q.1) < modN 1, modN 1 < 4294967296 ^ 8, facN 1 < 4294967296, wBi < 4294967296 ^ 8, mmN (modN 1) p.1 q.1 < 4294967296 ^ 8, modN 1 = modN 1, facN 1 = facN 1, wBi = wBi, mmN (modN 1) p.1 q.1 < modN 1, modN 1 < 4294967296 ^ 8, mtr (mmN (modN 1) p.1 q.1) < modN 1, mtr (mmN (modN 1) p.3 q.3) < modN 1, mtr (mmN (modN 1) p.1 q.1) < 4294967296 ^ 8, mtr (mmN (modN 1) p.3 q.3) < 4294967296 ^ 8, modN 1 < 4294967296 ^ 8, mcr p.1 p.2 q.1 q.2 (mmN (modN 1) p.1 q.1) (mmN (modN 1) p.2 q.2) < modN 1, addM (modN 1) (mmN (modN 1) p.2 q.2) (mtr (subM (modN 1) (mcr p.1 p.3 q.1 q.3 (mmN (modN 1) p.1 q.1) (mmN (modN 1) p.3 q.3)) (mmN (modN 1) wBi (mmN (modN 1) p.3 q.3)))) < modN 1, goodF (modN 1) (facN 1), mcr p.1 p.2 q.1 q.2 (mmN (modN 1) p.1 q.1) (mmN (modN 1) p.2 q.2) < 4294967296 ^ 8, addM (modN 1) (mmN (modN 1) p.2 q.2) (mtr (subM (modN 1) (mcr p.1 p.3 q.1 q.3 (mmN (modN 1) p.1 q.1) (mmN (modN 1) p.3 q.3)) (mmN (modN 1) wBi (mmN (modN 1) p.3 q.3)))) < 4294967296 ^ 8, modN 1 < 4294967296 ^ 8, mcr p.2 p.3 q.2 q.3 (mmN (modN 1) p.2 q.2) (mmN (modN 1) p.3 q.3) < modN 1, mtr (subM (modN 1) (subM (modN 1) (mmN (modN 1) wBi (mcr p.1 p.3 q.1 q.3 (mmN (modN 1) p.1 q.1) (mmN (modN 1) p.3 q.3))) (mtr (mmN (modN 1) p.3 q.3))) (mmN (modN 1) p.1 q.1)) < modN 1, goodF (modN 1) (facN 1), mcr p.2 p.3 q.2 q.3 (mmN (modN 1) p.2 q.2) (mmN (modN 1) p.3 q.3) < 4294967296 ^ 8, mtr (subM (modN 1) (subM (modN 1) (mmN (modN 1) wBi (mcr p.1 p.3 q.1 q.3 (mmN (modN 1) p.1 q.1) (mmN (modN 1) p.3 q.3))) (mtr (mmN (modN 1) p.3 q.3))) (mmN (modN 1) p.1 q.1)) < 4294967296 ^ 8, modN 1 < 4294967296 ^ 8, mmN (modN 1) (mcr p.1 p.2 q.1 q.2 (mmN (modN 1) p.1 q.1) (mmN (modN 1) p.2 q.2)) (addM (modN 1) (mmN (modN 1) p.2 q.2) (mtr (subM (modN 1) (mcr p.1 p.3 q.1 q.3 (mmN (modN 1) p.1 q.1) (mmN (modN 1) p.3 q.3)) (mmN (modN 1) wBi (mmN (modN 1) p.3 q.3))))) < modN 1, mmN (modN 1) (mcr p.2 p.3 q.2 q.3 (mmN (modN 1) p.2 q.2) (mmN (modN 1) p.3 q.3)) (mtr (subM (modN 1) (subM (modN 1) (mmN (modN 1) wBi (mcr p.1 p.3 q.1 q.3 (mmN (modN 1) p.1 q.1) (mmN (modN 1) p.3 q.3))) (mtr (mmN (modN 1) p.3 q.3))) (mmN (modN 1) p.1 q.1))) < modN 1, mmN (modN 1) (mcr p.1 p.2 q.1 q.2 (mmN (modN 1) p.1 q.1) (mmN (modN 1) p.2 q.2)) (addM (modN 1) (mmN (modN 1) p.2 q.2) (mtr (subM (modN 1) (mcr p.1 p.3 q.1 q.3 (mmN (modN 1) p.1 q.1) (mmN (modN 1) p.3 q.3)) (mmN (modN 1) wBi (mmN (modN 1) p.3 q.3))))) < 4294967296 ^ 8, mmN (modN 1) (mcr p.2 p.3 q.2 q.3 (mmN (modN 1) p.2 q.2) (mmN (modN 1) p.3 q.3)) (mtr (subM (modN 1) (subM (modN 1) (mmN (modN 1) wBi (mcr p.1 p.3 q.1 q.3 (mmN (modN 1) p.1 q.1) (mmN (modN 1) p.3 q.3))) (mtr (mmN (modN 1) p.3 q.3))) (mmN (modN 1) p.1 q.1))) < 4294967296 ^ 8, modN 1 < 4294967296 ^ 8, addM (modN 1) (mmN (modN 1) p.2 q.2) (mtr (subM (modN 1) (mcr p.1 p.3 q.1 q.3 (mmN (modN 1) p.1 q.1) (mmN (modN 1) p.3 q.3)) (mmN (modN 1) wBi (mmN (modN 1) p.3 q.3)))) < modN 1, subM (modN 1) (mmN (modN 1) p.2 q.2) (mtr (subM (modN 1) (mcr p.1 p.3 q.1 q.3 (mmN (modN 1) p.1 q.1) (mmN (modN 1) p.3 q.3)) (mmN (modN 1) wBi (mmN (modN 1) p.3 q.3)))) < modN 1, goodF (modN 1) (facN 1), addM (modN 1) (mmN (modN 1) p.2 q.2) (mtr (subM (modN 1) (mcr p.1 p.3 q.1 q.3 (mmN (modN 1) p.1 q.1) (mmN (modN 1) p.3 q.3)) (mmN (modN 1) wBi (mmN (modN 1) p.3 q.3)))) < 4294967296 ^ 8, subM (modN 1) (mmN (modN 1) p.2 q.2) (mtr (subM (modN 1) (mcr p.1 p.3 q.1 q.3 (mmN (modN 1) p.1 q.1) (mmN (modN 1) p.3 q.3)) (mmN (modN 1) wBi (mmN (modN 1) p.3 q.3)))) < 4294967296 ^ 8, modN 1 < 4294967296 ^ 8, subM (modN 1) (mtr (mmN (modN 1) p.1 q.1)) (mtr (mmN (modN 1) p.3 q.3)) < modN 1, mtr (subM (modN 1) (subM (modN 1) (mmN (modN 1) wBi (mcr p.1 p.3 q.1 q.3 (mmN (modN 1) p.1 q.1) (mmN (modN 1) p.3 q.3))) (mtr (mmN (modN 1) p.3 q.3))) (mmN (modN 1) p.1 q.1)) < modN 1, goodF (modN 1) (facN 1), subM (modN 1) (mtr (mmN (modN 1) p.1 q.1)) (mtr (mmN (modN 1) p.3 q.3)) < 4294967296 ^ 8, mtr (subM (modN 1) (subM (modN 1) (mmN (modN 1) wBi (mcr p.1 p.3 q.1 q.3 (mmN (modN 1) p.1 q.1) (mmN (modN 1) p.3 q.3))) (mtr (mmN (modN 1) p.3 q.3))) (mmN (modN 1) p.1 q.1)) < 4294967296 ^ 8, modN 1 < 4294967296 ^ 8, mmN (modN 1) (addM (modN 1) (mmN (modN 1) p.2 q.2) (mtr (subM (modN 1) (mcr p.1 p.3 q.1 q.3 (mmN (modN 1) p.1 q.1) (mmN (modN 1) p.3 q.3)) (mmN (modN 1) wBi (mmN (modN 1) p.3 q.3))))) (subM (modN 1) (mmN (modN 1) p.2 q.2) (mtr (subM (modN 1) (mcr p.1 p.3 q.1 q.3 (mmN (modN 1) p.1 q.1) (mmN (modN 1) p.3 q.3)) (mmN (modN 1) wBi (mmN (modN 1) p.3 q.3))))) < modN 1, mmN (modN 1) (subM (modN 1) (mtr (mmN (modN 1) p.1 q.1)) (mtr (mmN (modN 1) p.3 q.3))) (mtr (subM (modN 1) (subM (modN 1) (mmN (modN 1) wBi (mcr p.1 p.3 q.1 q.3 (mmN (modN 1) p.1 q.1) (mmN (modN 1) p.3 q.3))) (mtr (mmN (modN 1) p.3 q.3))) (mmN (modN 1) p.1 q.1))) < modN 1, mmN (modN 1) (addM (modN 1) (mmN (modN 1) p.2 q.2) (mtr (subM (modN 1) (mcr p.1 p.3 q.1 q.3 (mmN (modN 1) p.1 q.1) (mmN (modN 1) p.3 q.3)) (mmN (modN 1) wBi (mmN (modN 1) p.3 q.3))))) (subM (modN 1) (mmN (modN 1) p.2 q.2) (mtr (subM (modN 1) (mcr p.1 p.3 q.1 q.3 (mmN (modN 1) p.1 q.1) (mmN (modN 1) p.3 q.3)) (mmN (modN 1) wBi (mmN (modN 1) p.3 q.3))))) < 4294967296 ^ 8, mmN (modN 1) (subM (modN 1) (mtr (mmN (modN 1) p.1 q.1)) (mtr (mmN (modN 1) p.3 q.3))) (mtr (subM (modN 1) (subM (modN 1) (mmN (modN 1) wBi (mcr p.1 p.3 q.1 q.3 (mmN (modN 1) p.1 q.1) (mmN (modN 1) p.3 q.3))) (mtr (mmN (modN 1) p.3 q.3))) (mmN (modN 1) p.1 q.1))) < 4294967296 ^ 8, modN 1 < 4294967296 ^ 8, mcr p.2 p.3 q.2 q.3 (mmN (modN 1) p.2 q.2) (mmN (modN 1) p.3 q.3) < modN 1, subM (modN 1) (mmN (modN 1) p.2 q.2) (mtr (subM (modN 1) (mcr p.1 p.3 q.1 q.3 (mmN (modN 1) p.1 q.1) (mmN (modN 1) p.3 q.3)) (mmN (modN 1) wBi (mmN (modN 1) p.3 q.3)))) < modN 1, goodF (modN 1) (facN 1), mcr p.2 p.3 q.2 q.3 (mmN (modN 1) p.2 q.2) (mmN (modN 1) p.3 q.3) < 4294967296 ^ 8, subM (modN 1) (mmN (modN 1) p.2 q.2) (mtr (subM (modN 1) (mcr p.1 p.3 q.1 q.3 (mmN (modN 1) p.1 q.1) (mmN (modN 1) p.3 q.3)) (mmN (modN 1) wBi (mmN (modN 1) p.3 q.3)))) < 4294967296 ^ 8, modN 1 < 4294967296 ^ 8, mcr p.1 p.2 q.1 q.2 (mmN (modN 1) p.1 q.1) (mmN (modN 1) p.2 q.2) < modN 1, subM (modN 1) (mtr (mmN (modN 1) p.1 q.1)) (mtr (mmN (modN 1) p.3 q.3)) < modN 1, goodF (modN 1) (facN 1), mcr p.1 p.2 q.1 q.2 (mmN (modN 1) p.1 q.1) (mmN (modN 1) p.2 q.2) < 4294967296 ^ 8, subM (modN 1) (mtr (mmN (modN 1) p.1 q.1)) (mtr (mmN (modN 1) p.3 q.3)) < 4294967296 ^ 8, modN 1 < 4294967296 ^ 8, mmN (modN 1) (mcr p.2 p.3 q.2 q.3 (mmN (modN 1) p.2 q.2) (mmN (modN 1) p.3 q.3)) (subM (modN 1) (mmN (modN 1) p.2 q.2) (mtr (subM (modN 1) (mcr p.1 p.3 q.1 q.3 (mmN (modN 1) p.1 q.1) (mmN (modN 1) p.3 q.3)) (mmN (modN 1) wBi (mmN (modN 1) p.3 q.3))))) < modN 1, mmN (modN 1) (mcr p.1 p.2 q.1 q.2 (mmN (modN 1) p.1 q.1) (mmN (modN 1) p.2 q.2)) (subM (modN 1) (mtr (mmN (modN 1) p.1 q.1)) (mtr (mmN (modN 1) p.3 q.3))) < modN 1, mmN (modN 1) (mcr p.2 p.3 q.2 q.3 (mmN (modN 1) p.2 q.2) (mmN (modN 1) p.3 q.3)) (subM (modN 1) (mmN (modN 1) p.2 q.2) (mtr (subM (modN 1) (mcr p.1 p.3 q.1 q.3 (mmN (modN 1) p.1 q.1) (mmN (modN 1) p.3 q.3)) (mmN (modN 1) wBi (mmN (modN 1) p.3 q.3))))) < 4294967296 ^ 8, mmN (modN 1) (mcr p.1 p.2 q.1 q.2 (mmN (modN 1) p.1 q.1) (mmN (modN 1) p.2 q.2)) (subM (modN 1) (mtr (mmN (modN 1) p.1 q.1)) (mtr (mmN (modN 1) p.3 q.3))) < 4294967296 ^ 8], .val (w3V (mAdd p q))) := by kernel_rfl
theorem spec42w (p q : J3) (hp : p.lt) (hq : q.lt) : Spec 42 [lawV, w3V p, w3V q] (.val (w3V (mAdd p q))) := by
  obtain ⟨h1, h2, h3⟩ := hp
  obtain ⟨h5, h6, h7⟩ := hq
  have hb := wBi_lt
  exact spec_run (envMk L4a_ok noS) rfl (wi42 p q) ⟨(modN_lt _), (by first | with_reducible assumption | with_reducible exact L8 (by with_reducible assumption) | exact decide_eq_true (by omega) | exact decide_eq_false (by omega) | omega), (by first | with_reducible assumption | with_reducible exact L8 (by with_reducible assumption) | exact decide_eq_true (by omega) | exact decide_eq_false (by omega) | omega), (good_fac (by decide)), (by first | with_reducible assumption | with_reducible exact L8 (by with_reducible assumption) | exact decide_eq_true (by omega) | exact decide_eq_false (by omega) | omega), (by first | with_reducible assumption | with_reducible exact L8 (by with_reducible assumption) | exact decide_eq_true (by omega) | exact decide_eq_false (by omega) | omega), (modN_lt _), (by first | with_reducible assumption | with_reducible exact L8 (by with_reducible assumption) | exact decide_eq_true (by omega) | exact decide_eq_false (by omega) | omega), (by first | with_reducible assumption | with_reducible exact L8 (by with_reducible assumption) | exact decide_eq_true (by omega) | exact decide_eq_false (by omega) | omega), (good_fac (by decide)), (by first | with_reducible assumption | with_reducible exact L8 (by with_reducible assumption) | exact decide_eq_true (by omega) | exact decide_eq_false (by omega) | omega), (by first | with_reducible assumption | with_reducible exact L8 (by with_reducible assumption) | exact decide_eq_true (by omega) | exact decide_eq_false (by omega) | omega), (modN_lt _), (by first | with_reducible assumption | with_reducible exact L8 (by with_reducible assumption) | exact decide_eq_true (by omega) | exact decide_eq_false (by omega) | omega), (by first | with_reducible assumption | with_reducible exact L8 (by with_reducible assumption) | exact decide_eq_true (by omega) | exact decide_eq_false (by omega) | omega), (good_fac (by decide)), (by first | with_reducible assumption | with_reducible exact L8 (by with_reducible assumption) | exact decide_eq_true (by omega) | exact decide_eq_false (by omega) | omega), (by first | with_reducible assumption | with_reducible exact L8 (by with_reducible assumption) | exact decide_eq_true (by omega) | exact decide_eq_false (by omega) | omega), (modN_lt _), (facN_lt32 1), (by first | with_reducible assumption | with_reducible exact L8 (by with_reducible assumption) | exact decide_eq_true (by omega) | exact decide_eq_false (by omega) | omega), (by first | with_reducible assumption | with_reducible exact L8 (by with_reducible assumption) | exact decide_eq_true (by omega) | exact decide_eq_false (by omega) | omega), (by first | with_reducible assumption | with_reducible exact L8 (by with_reducible assumption) | exact decide_eq_true (by omega) | exact decide_eq_false (by omega) | omega), (by first | with_reducible assumption | with_reducible exact L8 (by with_reducible assumption) | exact decide_eq_true (by omega) | exact decide_eq_false (by omega) | omega), (by first | with_reducible assumption | with_reducible exact L8 (by with_reducible assumption) | exact decide_eq_true (by omega) | exact decide_eq_false (by omega) | omega), (L8 (mmN_lt (modN_pos _))), (L8 (mmN_lt (modN_pos _))), rfl, rfl, rfl, (by first | with_reducible assumption | with_reducible exact L8 (by with_reducible assumption) | exact decide_eq_true (by omega) | exact decide_eq_false (by omega) | omega), (by first | with_reducible assumption | with_reducible exact L8 (by with_reducible assumption) | exact decide_eq_true (by omega) | exact decide_eq_false (by omega) | omega), (by first | with_reducible assumption | with_reducible exact L8 (by with_reducible assumption) | exact decide_eq_true (by omega) | exact decide_eq_false (by omega) | omega), (by first | with_reducible assumption | with_reducible exact L8 (by with_reducible assumption) | exact decide_eq_true (by omega) | exact decide_eq_false (by omega) | omega), (mmN_lt (modN_pos _)), (mmN_lt (modN_pos _)), (modN_lt _), (facN_lt32 1), (by first | with_reducible assumption | with_reducible exact L8 (by with_reducible assumption) | exact decide_eq_true (by omega) | exact decide_eq_false (by omega) | omega), (by first | with_reducible assumption | with_reducible exact L8 (by with_reducible assumption) | exact decide_eq_true (by omega) | exact decide_eq_false (by omega) | omega), (by first | with_reducible assumption | with_reducible exact L8 (by with_reducible assumption) | exact decide_eq_true (by omega) | exact decide_eq_false (by omega) | omega), (by first | with_reducible assumption | with_reducible exact L8 (by with_reducible assumption) | exact decide_eq_true (by omega) | exact decide_eq_false (by omega) | omega), (by first | with_reducible assumption | with_reducible exact L8 (by with_reducible assumption) | exact decide_eq_true (by omega) | exact decide_eq_false (by omega) | omega), (L8 (mmN_lt (modN_pos _))), (L8 (mmN_lt (modN_pos _))), rfl, rfl, rfl, (by first | with_reducible assumption | with_reducible exact L8 (by with_reducible assumption) | exact decide_eq_true (by omega) | exact decide_eq_false (by omega) | omega), (by first | with_reducible assumption | with_reducible exact L8 (by with_reducible assumption) | exact decide_eq_true (by omega) | exact decide_eq_false (by omega) | omega), (by first | with_reducible assumption | with_reducible exact L8 (by with_reducible assumption) | exact decide_eq_true (by omega) | exact decide_eq_false (by omega) | omega), (by first | with_reducible assumption | with_reducible exact L8 (by with_reducible assumption) | exact decide_eq_true (by omega) | exact decide_eq_false (by omega) | omega), (mmN_lt (modN_pos _)), (mmN_lt (modN_pos _)), (modN_lt _), (facN_lt32 1), (by first | with_reducible assumption | with_reducible exact L8 (by with_reducible assumption) | exact decide_eq_true (by omega) | exact decide_eq_false (by omega) | omega), (by first | with_reducible assumption | with_reducible exact L8 (by with_reducible assumption) | exact decide_eq_true (by omega) | exact decide_eq_false (by omega) | omega), (by first | with_reducible assumption | with_reducible exact L8 (by with_reducible assumption) | exact decide_eq_true (by omega) | exact decide_eq_false (by omega) | omega), (by first | with_reducible assumption | with_reducible exact L8 (by with_reducible assumption) | exact decide_eq_true (by omega) | exact decide_eq_false (by omega) | omega), (by first | with_reducible assumption | with_reducible exact L8 (by with_reducible assumption) | exact decide_eq_true (by omega) | exact decide_eq_false (by omega) | omega), (L8 (mmN_lt (modN_pos _))), (L8 (mmN_lt (modN_pos _))), rfl, rfl, rfl, (by first | with_reducible assumption | with_reducible exact L8 (by with_reducible assumption) | exact decide_eq_true (by omega) | exact decide_eq_false (by omega) | omega), (by first | with_reducible assumption | with_reducible exact L8 (by with_reducible assumption) | exact decide_eq_true (by omega) | exact decide_eq_false (by omega) | omega), (by first | with_reducible assumption | with_reducible exact L8 (by with_reducible assumption) | exact decide_eq_true (by omega) | exact decide_eq_false (by omega) | omega), (by first | with_reducible assumption | with_reducible exact L8 (by with_reducible assumption) | exact decide_eq_true (by omega) | exact decide_eq_false (by omega) | omega), (mmN_lt (modN_pos _)), (mmN_lt (modN_pos _)), (modN_lt _), (by first | with_reducible assumption | with_reducible exact L8 (by with_reducible assumption) | exact decide_eq_true (by omega) | exact decide_eq_false (by omega) | omega), (mmN_lt (modN_pos _)), (good_fac (by decide)), (by first | with_reducible assumption | with_reducible exact L8 (by with_reducible assumption) | exact decide_eq_true (by omega) | exact decide_eq_false (by omega) | omega), (L8 (mmN_lt (modN_pos _))), (modN_lt _), (mcr_lt), (mmN_lt (modN_pos _)), (L8 (mcr_lt)), (L8 (mmN_lt (modN_pos _))), (modN_lt _), (facN_lt32 1), (by first | with_reducible assumption | with_reducible exact L8 (by with_reducible assumption) | exact decide_eq_true (by omega) | exact decide_eq_false (by omega) | omega), (L8 (subM_lt (modN_pos _))), rfl, rfl, rfl, (subM_lt (modN_pos _)), (modN_lt _), (mmN_lt (modN_pos _)), (mtr_lt), (L8 (mmN_lt (modN_pos _))), (L8 (mtr_lt)), (modN_lt _), (mmN_lt (modN_pos _)), (mtr_lt), (L8 (mmN_lt (modN_pos _))), (L8 (mtr_lt)), (modN_lt _), (facN_lt32 1), (by first | with_reducible assumption | with_reducible exact L8 (by with_reducible assumption) | exact decide_eq_true (by omega) | exact decide_eq_false (by omega) | omega), (L8 (mmN_lt (modN_pos _))), rfl, rfl, rfl, (mmN_lt (modN_pos _)), (modN_lt _), (by first | with_reducible assumption | with_reducible exact L8 (by with_reducible assumption) | exact decide_eq_true (by omega) | exact decide_eq_false (by omega) | omega), (mcr_lt), (good_fac (by decide)), (by first | with_reducible assumption | with_reducible exact L8 (by with_reducible assumption) | exact decide_eq_true (by omega) | exact decide_eq_false (by omega) | omega), (L8 (mcr_lt)), (modN_lt _), (mmN_lt (modN_pos _)), (mtr_lt), (L8 (mmN_lt (modN_pos _))), (L8 (mtr_lt)), (modN_lt _), (subM_lt (modN_pos _)), (mmN_lt (modN_pos _)), (L8 (subM_lt (modN_pos _))), (L8 (mmN_lt (modN_pos _))), (modN_lt _), (facN_lt32 1), (by first | with_reducible assumption | with_reducible exact L8 (by with_reducible assumption) | exact decide_eq_true (by omega) | exact decide_eq_false (by omega) | omega), (L8 (subM_lt (modN_pos _))), rfl, rfl, rfl, (subM_lt (modN_pos _)), (modN_lt _), (facN_lt32 1), (by first | with_reducible assumption | with_reducible exact L8 (by with_reducible assumption) | exact decide_eq_true (by omega) | exact decide_eq_false (by omega) | omega), (L8 (mmN_lt (modN_pos _))), rfl, rfl, rfl, (mmN_lt (modN_pos _)), (modN_lt _), (mtr_lt), (mtr_lt), (L8 (mtr_lt)), (L8 (mtr_lt)), (modN_lt _), (mcr_lt), (addM_lt (modN_pos _)), (good_fac (by decide)), (L8 (mcr_lt)), (L8 (addM_lt (modN_pos _))), (modN_lt _), (mcr_lt), (mtr_lt), (good_fac (by decide)), (L8 (mcr_lt)), (L8 (mtr_lt)), (modN_lt _), (mmN_lt (modN_pos _)), (mmN_lt (modN_pos _)), (L8 (mmN_lt (modN_pos _))), (L8 (mmN_lt (modN_pos _))), (modN_lt _), (addM_lt (modN_pos _)), (subM_lt (modN_pos _)), (good_fac (by decide)), (L8 (addM_lt (modN_pos _))), (L8 (subM_lt (modN_pos _))), (modN_lt _), (subM_lt (modN_pos _)), (mtr_lt), (good_fac (by decide)), (L8 (subM_lt (modN_pos _))), (L8 (mtr_lt)), (modN_lt _), (mmN_lt (modN_pos _)), (mmN_lt (modN_pos _)), (L8 (mmN_lt (modN_pos _))), (L8 (mmN_lt (modN_pos _))), (modN_lt _), (mcr_lt), (subM_lt (modN_pos _)), (good_fac (by decide)), (L8 (mcr_lt)), (L8 (subM_lt (modN_pos _))), (modN_lt _), (mcr_lt), (subM_lt (modN_pos _)), (good_fac (by decide)), (L8 (mcr_lt)), (L8 (subM_lt (modN_pos _))), (modN_lt _), (mmN_lt (modN_pos _)), (mmN_lt (modN_pos _)), (L8 (mmN_lt (modN_pos _))), (L8 (mmN_lt (modN_pos _))), trivial⟩ rfl rfl
noncomputable def gWAdd : List Val → Option (List Prop × AV)
  | [.n m, .n q, .n w, .n x1, .n y1, .n z1, .n x2, .n y2, .n z2] => some ([m = modN 1, q = facN 1, w = wBi, J3.lt ⟨x1, y1, z1⟩, J3.lt ⟨x2, y2, z2⟩], .val (w3V (mAdd ⟨x1, y1, z1⟩ ⟨x2, y2, z2⟩)))
  | _ => none
theorem ct42w : CTok ⟨42, fnS [aLaw, aJ, aJ] gWAdd⟩ := ctS (by
  intro xs ob r hb h ho
  unfold gWAdd at h
  split at h
  · rename_i m q w x1 y1 z1 x2 y2 z2
    simp only [Option.some.injEq, Prod.mk.injEq] at h
    obtain ⟨rfl, rfl⟩ := h
    obtain ⟨e0, e1, e2, h1, h2, _⟩ := ho
    subst e0 e1 e2
    exact spec42w ⟨x1, y1, z1⟩ ⟨x2, y2, z2⟩ h1 h2
  · simp at h)
end Go.Ev

namespace Go.Ev
open Go Go.Proofs Go.RowKit

/-! back to two coordinates -/
noncomputable def wDx (p : J3) : Nat := bif decide (p.z = 0) then 0 else outN (modN 1) (mmN (modN 1) p.x (minvN (modN 1) p.z))
noncomputable def wDy (p : J3) : Nat := bif decide (p.z = 0) then 0 else outN (modN 1) (mmN (modN 1) p.y (minvN (modN 1) p.z))
def wDi (p : J3) : Bool := decide (p.z = 0)
noncomputable def S41 : FuncId → Nat → Bool := fun f t => match f with | 41 => memN t [9] | _ => false
theorem wi41i (p : J3) : callR (mkE L4a S41) 1000 41 [lawV, w3V p] [true] =
    some ([(isZ (p.3)) = true], .val (.agg (cellsU 16 0 zF ++ [.a (.v (.bool true))]))) := by kernel_rfl
theorem wi41f (p : J3) : callR (mkE L4a S41) 1000 41 [lawV, w3V p] [false] =
    some ([(isZ (p.3)) = false, modN 1 < 4294967296 ^ 8, p.3 < modN 1, goodF (modN 1) (facN 1), p.3 < 4294967296 ^ 8, modN 1 < 4294967296 ^ 8, p.1 < modN 1, minvN (modN 1) p.3 < modN 1, goodF (modN 1) (facN 1), p.1 < 4294967296 ^ 8, minvN (modN 1) p.3 < 4294967296 ^ 8, modN 1 < 4294967296 ^ 8, mmN (modN 1) p.1 (minvN (modN 1) p.3) < modN 1, goodF (modN 1) (facN 1), mmN (modN 1) p.1 (minvN (modN 1) p.3) < 4294967296 ^ 8, modN 1 < 4294967296 ^ 8, p.2 < modN 1, minvN (modN 1) p.3 < modN 1, goodF (modN 1) (facN 1), p.2 < 4294967296 ^ 8, minvN (modN 1) p.3 < 4294967296 ^ 8, modN 1 < 4294967296 ^ 8, mmN (modN 1) p.2 (minvN (modN 1) p.3) < modN 1, goodF (modN 1) (facN 1), mmN (modN 1) p.2 (minvN (modN 1) p.3) < 4294967296 ^ 8], .val (P3 (outN (modN 1) (mmN (modN 1) p.x (minvN (modN 1) p.z))) (outN (modN 1) (mmN (modN 1) p.y (minvN (modN 1) p.z))) false)) := by kernel_rfl
theorem P3_none (φ : Loc) : concs φ (cellsU 16 0 zF ++ [.a (.v (.bool true))]) = concs φ [.num 8 0, .num 8 0, .a (.v (.bool true))] := by kernel_rfl
theorem spec41w (p : J3) (hp : p.lt) : Spec 41 [lawV, w3V p] (.val (P3 (wDx p) (wDy p) (wDi p))) := by
  obtain ⟨h1, h2, h3⟩ := hp
  have hz8 := L8 h3
  unfold wDx wDy wDi
  cases hz : decide (p.z = 0) with
  | true =>
    have hz' : isZ p.z = true := by rw [isZ_eq hz8]; exact hz
    rw [cond_true, cond_true]
    exact (spec_run (envMk L4a_ok S41) rfl (wi41i p) ⟨(by first | with_reducible assumption | with_reducible exact L8 (by with_reducible assumption) | exact decide_eq_true (by omega) | exact decide_eq_false (by omega) | omega), trivial⟩ rfl rfl).congr (fun _ => rfl) (fun φ => by
      simp only [AV.conc, V1.conc, P3, P3_none])
  | false =>
    have hz' : isZ p.z = false := by rw [isZ_eq hz8]; exact hz
    rw [cond_false, cond_false]
    exact spec_run (envMk L4a_ok S41) rfl (wi41f p) ⟨(by first | with_reducible assumption | with_reducible exact L8 (by with_reducible assumption) | exact decide_eq_true (by omega) | exact decide_eq_false (by omega) | omega), (modN_lt _), (by first | with_reducible assumption | with_reducible exact L8 (by with_reducible assumption) | exact decide_eq_true (by omega) | exact decide_eq_false (by omega) | omega), (good_fac (by decide)), (by first | with_reducible assumption | with_reducible exact L8 (by with_reducible assumption) | exact decide_eq_true (by omega) | exact decide_eq_false (by omega) | omega), (modN_lt _), (by first | with_reducible assumption | with_reducible exact L8 (by with_reducible assumption) | exact decide_eq_true (by omega) | exact decide_eq_false (by omega) | omega), (minvN_lt (modN_pos _)), (good_fac (by decide)), (by first | with_reducible assumption | with_reducible exact L8 (by with_reducible assumption) | exact decide_eq_true (by omega) | exact decide_eq_false (by omega) | omega), (L8 (minvN_lt (modN_pos _))), (modN_lt _), (mmN_lt (modN_pos _)), (good_fac (by decide)), (L8 (mmN_lt (modN_pos _))), (modN_lt _), (by first | with_reducible assumption | with_reducible exact L8 (by with_reducible assumption) | exact decide_eq_true (by omega) | exact decide_eq_false (by omega) | omega), (minvN_lt (modN_pos _)), (good_fac (by decide)), (by first | with_reducible assumption | with_reducible exact L8 (by with_reducible assumption) | exact decide_eq_true (by omega) | exact decide_eq_false (by omega) | omega), (L8 (minvN_lt (modN_pos _))), (modN_lt _), (mmN_lt (modN_pos _)), (good_fac (by decide)), (L8 (mmN_lt (modN_pos _))), trivial⟩ rfl rfl
noncomputable def gSpot : List Val → Option (List Prop × AV)
  | [.n m, .n q, .n w, .n x1, .n y1, .n z1] => some ([m = modN 1, q = facN 1, w = wBi, J3.lt ⟨x1, y1, z1⟩], .val (P3 (wDx ⟨x1, y1, z1⟩) (wDy ⟨x1, y1, z1⟩) (wDi ⟨x1, y1, z1⟩)))
  | _ => none
theorem ct41w : CTok ⟨41, fnS [aLaw, aJ] gSpot⟩ := ctS (by
  intro xs ob r hb h ho
  unfold gSpot at h
  split at h
  · rename_i m q w x1 y1 z1
    simp only [Option.some.injEq, Prod.mk.injEq] at h
    obtain ⟨rfl, rfl⟩ := h
    obtain ⟨e0, e1, e2, h1, _⟩ := ho
    subst e0 e1 e2
    exact spec41w ⟨x1, y1, z1⟩ h1
  · simp at h)
noncomputable def L5a : List CT := [⟨42, fnS [aLaw, aJ, aJ] gWAdd⟩, ⟨41, fnS [aLaw, aJ] gSpot⟩] ++ L4a
theorem L5a_ok : AllCT L5a := ⟨ct42w, ct41w, L4a_ok⟩
end Go.Ev

namespace Go.Ev
open Go Go.Proofs Go.RowKit

/-! added up -/
noncomputable def wStep (k : Nat) (p : J3) (j : Nat) (x : J3) : J3 := bif bitB k j then mAdd (mAdd x x) p else mAdd x x
noncomputable def wTimesG (k : Nat) (p : J3) : Nat → J3 → J3
  | 0, x => x
  | j + 1, x => wTimesG k p j (wStep k p j x)
noncomputable def wTimes (k : Nat) (p : J3) : J3 := wTimesG k p (lenN k) (wLift 0 0 true)
theorem wStep_lt (k : Nat) (p : J3) (j : Nat) (x : J3) : (wStep k p j x).lt := by
  unfold wStep; cases bitB k j <;> exact mAdd_lt _ _
theorem wTimesG_lt (k : Nat) (p : J3) : ∀ j x, x.lt → (wTimesG k p j x).lt
  | 0, _, h => h
  | j + 1, x, _ => wTimesG_lt k p j _ (wStep_lt k p j x)
theorem wTimes_lt (k : Nat) (p : J3) : (wTimes k p).lt := wTimesG_lt k p _ _ (wLift_lt 0 0 true)
def T43 (i : Int) : List AV := slots 31 [(3, pV 0), (4, pV 1), (5, pV 2), (6, pV 3), (7, pV 4), (8, iV i)]
noncomputable def M43 (k : Nat) (p x : J3) : List Blk := [⟨[.num 8 (modN 1), .a (.u .u32 (facN 1)), .num 8 wBi], 68, true, false, 0⟩, ⟨[.num 8 k], 25, true, false, 0⟩, ⟨[.num 8 p.x, .num 8 p.y, .num 8 p.z], 72, true, false, 0⟩, ⟨cellsU 24 0 zF, 72, true, false, 0⟩, ⟨[.num 8 x.x, .num 8 x.y, .num 8 x.z], 72, true, false, 0⟩]
noncomputable def S43 : FuncId → Nat → Bool := fun f t => match f with | 43 => memN t [14, 16, 18, 25] | _ => false
noncomputable def E43 : Env := mkE L5a S43
theorem envE43 : EnvOK E43 := envMk L5a_ok S43
theorem wfT43 (k : Nat) (p x : J3) (i : Int) : wfS (T43 i) (M43 k p x) = true := by
  unfold wfS
  rw [show tmsWf (M43 k p x).length (T43 i) = true by show tmsWf 5 _ = true; kernel_rfl, Bool.true_and]
  kernel_rfl
theorem wi43t (k : Nat) (p : J3) (x : J3) (j : Nat) : runTo E43 1000 (Env.S E43 43) (bodyOf Try.prog 43 3) (T43 (↑j : Int)) (M43 k p x) [true, true] (T43 ((↑j : Int) - (1 : Int))) 5 =
    some ([decide ((0 : Int) ≤ (↑j : Int)) = true, modN 1 < 4294967296 ^ 8, facN 1 < 4294967296, wBi < 4294967296 ^ 8, x.1 < 4294967296 ^ 8, x.2 < 4294967296 ^ 8, x.3 < 4294967296 ^ 8, x.1 < 4294967296 ^ 8, x.2 < 4294967296 ^ 8, x.3 < 4294967296 ^ 8, modN 1 = modN 1, facN 1 = facN 1, wBi = wBi, J3.lt (J3.mk (J3.x x) (J3.y x) (J3.z x)), J3.lt (J3.mk (J3.x x) (J3.y x) (J3.z x)), bitB k j = true, k < 4294967296 ^ 8, (0 : Int) ≤ (↑j : Int) ∧ (↑j : Int) < (256 : Int), modN 1 < 4294967296 ^ 8, facN 1 < 4294967296, wBi < 4294967296 ^ 8, subM (modN 1) (mmN (modN 1) (mcr x.1 x.2 x.1 x.2 (mmN (modN 1) x.1 x.1) (mmN (modN 1) x.2 x.2)) (addM (modN 1) (mmN (modN 1) x.2 x.2) (mtr (subM (modN 1) (mcr x.1 x.3 x.1 x.3 (mmN (modN 1) x.1 x.1) (mmN (modN 1) x.3 x.3)) (mmN (modN 1) wBi (mmN (modN 1) x.3 x.3)))))) (mmN (modN 1) (mcr x.2 x.3 x.2 x.3 (mmN (modN 1) x.2 x.2) (mmN (modN 1) x.3 x.3)) (mtr (subM (modN 1) (subM (modN 1) (mmN (modN 1) wBi (mcr x.1 x.3 x.1 x.3 (mmN (modN 1) x.1 x.1) (mmN (modN 1) x.3 x.3))) (mtr (mmN (modN 1) x.3 x.3))) (mmN (modN 1) x.1 x.1)))) < 4294967296 ^ 8, addM (modN 1) (mmN (modN 1) (addM (modN 1) (mmN (modN 1) x.2 x.2) (mtr (subM (modN 1) (mcr x.1 x.3 x.1 x.3 (mmN (modN 1) x.1 x.1) (mmN (modN 1) x.3 x.3)) (mmN (modN 1) wBi (mmN (modN 1) x.3 x.3))))) (subM (modN 1) (mmN (modN 1) x.2 x.2) (mtr (subM (modN 1) (mcr x.1 x.3 x.1 x.3 (mmN (modN 1) x.1 x.1) (mmN (modN 1) x.3 x.3)) (mmN (modN 1) wBi (mmN (modN 1) x.3 x.3)))))) (mmN (modN 1) (subM (modN 1) (mtr (mmN (modN 1) x.1 x.1)) (mtr (mmN (modN 1) x.3 x.3))) (mtr (subM (modN 1) (subM (modN 1) (mmN (modN 1) wBi (mcr x.1 x.3 x.1 x.3 (mmN (modN 1) x.1 x.1) (mmN (modN 1) x.3 x.3))) (mtr (mmN (modN 1) x.3 x.3))) (mmN (modN 1) x.1 x.1)))) < 4294967296 ^ 8, addM (modN 1) (mmN (modN 1) (mcr x.2 x.3 x.2 x.3 (mmN (modN 1) x.2 x.2) (mmN (modN 1) x.3 x.3)) (subM (modN 1) (mmN (modN 1) x.2 x.2) (mtr (subM (modN 1) (mcr x.1 x.3 x.1 x.3 (mmN (modN 1) x.1 x.1) (mmN (modN 1) x.3 x.3)) (mmN (modN 1) wBi (mmN (modN 1) x.3 x.3)))))) (mmN (modN 1) (mcr x.1 x.2 x.1 x.2 (mmN (modN 1) x.1 x.1) (mmN (modN 1) x.2 x.2)) (subM (modN 1) (mtr (mmN (modN 1) x.1 x.1)) (mtr (mmN (modN 1) x.3 x.3)))) < 4294967296 ^ 8, p.1 < 4294967296 ^ 8, p.2 < 4294967296 ^ 8, p.3 < 4294967296 ^ 8, modN 1 = modN 1, facN 1 = facN 1, wBi = wBi, J3.lt (J3.mk (J3.x (mAdd (J3.mk (J3.x x) (J3.y x) (J3.z x)) (J3.mk (J3.x x) (J3.y x) (J3.z x)))) (J3.y (mAdd (J3.mk (J3.x x) (J3.y x) (J3.z x)) (J3.mk (J3.x x) (J3.y x) (J3.z x)))) (J3.z (mAdd (J3.mk (J3.x x) (J3.y x) (J3.z x)) (J3.mk (J3.x x) (J3.y x) (J3.z x))))), J3.lt (J3.mk (J3.x p) (J3.y p) (J3.z p)), inI ((↑j : Int) - (1 : Int))], .normal, T43 ((j : Int) - 1), M43 k p (mAdd (mAdd x x) p)) := by kernel_rfl
theorem wi43f (k : Nat) (p : J3) (x : J3) (j : Nat) : runTo E43 1000 (Env.S E43 43) (bodyOf Try.prog 43 3) (T43 (↑j : Int)) (M43 k p x) [true, false] (T43 ((↑j : Int) - (1 : Int))) 5 =
    some ([decide ((0 : Int) ≤ (↑j : Int)) = true, modN 1 < 4294967296 ^ 8, facN 1 < 4294967296, wBi < 4294967296 ^ 8, x.1 < 4294967296 ^ 8, x.2 < 4294967296 ^ 8, x.3 < 4294967296 ^ 8, x.1 < 4294967296 ^ 8, x.2 < 4294967296 ^ 8, x.3 < 4294967296 ^ 8, modN 1 = modN 1, facN 1 = facN 1, wBi = wBi, J3.lt (J3.mk (J3.x x) (J3.y x) (J3.z x)), J3.lt (J3.mk (J3.x x) (J3.y x) (J3.z x)), bitB k j = false, k < 4294967296 ^ 8, (0 : Int) ≤ (↑j : Int) ∧ (↑j : Int) < (256 : Int), inI ((↑j : Int) - (1 : Int))], .normal, T43 ((j : Int) - 1), M43 k p (mAdd x x)) := by kernel_rfl
theorem wi43x (k : Nat) (p : J3) (x : J3) : runTo E43 1000 (Env.S E43 43) (bodyOf Try.prog 43 3) (T43 (-1 : Int)) (M43 k p x) [false] (T43 (-1 : Int)) 5 =
    some ([decide ((0 : Int) ≤ (-1 : Int)) = false], .exit 0, T43 (-1), M43 k p x) := by kernel_rfl
theorem loop43 {k : Nat} {p : J3} (hk : k < 4294967296 ^ 8) (hp : p.lt) : ∀ (j : Nat) (x : J3), j ≤ 256 → x.lt → GoesN Try.prog (bodyOf Try.prog 43 3) (j + 1) (.exit 0) (T43 ((j : Int) - 1)) (M43 k p x) (T43 (-1)) (M43 k p (wTimesG k p j x))
  | 0, x, _, hx => by
    have hwb := wBi_lt
    obtain ⟨hx1, hx2, hx3⟩ := id hx
    obtain ⟨hp1, hp2, hp3⟩ := id hp
    exact GoesN.out (by simp) (Runs.goes envE43 ⟨[false], _, wi43x k p x, ⟨(by first | with_reducible assumption | with_reducible exact L8 (by with_reducible assumption) | exact decide_eq_true (by omega) | exact decide_eq_false (by omega) | omega), trivial⟩, wfT43 _ _ _ _⟩)
  | j + 1, x, hj, hx => by
    have ih := loop43 hk hp j (wStep k p j x) (by omega) (wStep_lt k p j x)
    have hwb := wBi_lt
    have hxx := mAdd_lt x x
    obtain ⟨hx1, hx2, hx3⟩ := id hx
    obtain ⟨hp1, hp2, hp3⟩ := id hp
    obtain ⟨hq1, hq2, hq3⟩ := id hxx
    have h0 : decide (0 ≤ (j : Int)) = true := decide_eq_true (by omega)
    have hr : 0 ≤ (j : Int) ∧ (j : Int) < 256 := by omega
    have hI : inI ((j : Int) - 1) := by unfold inI; omega
    rw [show ((j + 1 : Nat) : Int) - 1 = (j : Int) by omega]
    have hs : Goes Try.prog (bodyOf Try.prog 43 3) .normal (T43 (j : Int)) (M43 k p x) (T43 ((j : Int) - 1)) (M43 k p (wStep k p j x)) := by
      unfold wStep
      cases hb : bitB k j with
      | true => exact Runs.goes envE43 ⟨_, _, wi43t k p x j, ⟨(by first | with_reducible assumption | with_reducible exact L8 (by with_reducible assumption) | exact decide_eq_true (by omega) | exact decide_eq_false (by omega) | omega), (modN_lt _), (facN_lt32 1), (by first | with_reducible assumption | with_reducible exact L8 (by with_reducible assumption) | exact decide_eq_true (by omega) | exact decide_eq_false (by omega) | omega), (by first | with_reducible assumption | with_reducible exact L8 (by with_reducible assumption) | exact decide_eq_true (by omega) | exact decide_eq_false (by omega) | omega), (by first | with_reducible assumption | with_reducible exact L8 (by with_reducible assumption) | exact decide_eq_true (by omega) | exact decide_eq_false (by omega) | omega), (by first | with_reducible assumption | with_reducible exact L8 (by with_reducible assumption) | exact decide_eq_true (by omega) | exact decide_eq_false (by omega) | omega), (by first | with_reducible assumption | with_reducible exact L8 (by with_reducible assumption) | exact decide_eq_true (by omega) | exact decide_eq_false (by omega) | omega), (by first | with_reducible assumption | with_reducible exact L8 (by with_reducible assumption) | exact decide_eq_true (by omega) | exact decide_eq_false (by omega) | omega), (by first | with_reducible assumption | with_reducible exact L8 (by with_reducible assumption) | exact decide_eq_true (by omega) | exact decide_eq_false (by omega) | omega), rfl, rfl, rfl, (by first | with_reducible assumption | with_reducible exact L8 (by with_reducible assumption) | exact decide_eq_true (by omega) | exact decide_eq_false (by omega) | omega), (by first | with_reducible assumption | with_reducible exact L8 (by with_reducible assumption) | exact decide_eq_true (by omega) | exact decide_eq_false (by omega) | omega), (by first | with_reducible assumption | with_reducible exact L8 (by with_reducible assumption) | exact decide_eq_true (by omega) | exact decide_eq_false (by omega) | omega), (by first | with_reducible assumption | with_reducible exact L8 (by with_reducible assumption) | exact decide_eq_true (by omega) | exact decide_eq_false (by omega) | omega), (by first | with_reducible assumption | with_reducible exact L8 (by with_reducible assumption) | exact decide_eq_true (by omega) | exact decide_eq_false (by omega) | omega), (modN_lt _), (facN_lt32 1), (by first | with_reducible assumption | with_reducible exact L8 (by with_reducible assumption) | exact decide_eq_true (by omega) | exact decide_eq_false (by omega) | omega), (L8 (subM_lt (modN_pos _))), (L8 (addM_lt (modN_pos _))), (L8 (addM_lt (modN_pos _))), (by first | with_reducible assumption | with_reducible exact L8 (by with_reducible assumption) | exact decide_eq_true (by omega) | exact decide_eq_false (by omega) | omega), (by first | with_reducible assumption | with_reducible exact L8 (by with_reducible assumption) | exact decide_eq_true (by omega) | exact decide_eq_false (by omega) | omega), (by first | with_reducible assumption | with_reducible exact L8 (by with_reducible assumption) | exact decide_eq_true (by omega) | exact decide_eq_false (by omega) | omega), rfl, rfl, rfl, (by first | with_reducible assumption | with_reducible exact L8 (by with_reducible assumption) | exact decide_eq_true (by omega) | exact decide_eq_false (by omega) | omega), (by first | with_reducible assumption | with_reducible exact L8 (by with_reducible assumption) | exact decide_eq_true (by omega) | exact decide_eq_false (by omega) | omega), (by first | with_reducible assumption | with_reducible exact L8 (by with_reducible assumption) | exact decide_eq_true (by omega) | exact decide_eq_false (by omega) | omega), trivial⟩, wfT43 _ _ _ _⟩
      | false => exact Runs.goes envE43 ⟨_, _, wi43f k p x j, ⟨(by first | with_reducible assumption | with_reducible exact L8 (by with_reducible assumption) | exact decide_eq_true (by omega) | exact decide_eq_false (by omega) | omega), (modN_lt _), (facN_lt32 1), (by first | with_reducible assumption | with_reducible exact L8 (by with_reducible assumption) | exact decide_eq_true (by omega) | exact decide_eq_false (by omega) | omega), (by first | with_reducible assumption | with_reducible exact L8 (by with_reducible assumption) | exact decide_eq_true (by omega) | exact decide_eq_false (by omega) | omega), (by first | with_reducible assumption | with_reducible exact L8 (by with_reducible assumption) | exact decide_eq_true (by omega) | exact decide_eq_false (by omega) | omega), (by first | with_reducible assumption | with_reducible exact L8 (by with_reducible assumption) | exact decide_eq_true (by omega) | exact decide_eq_false (by omega) | omega), (by first | with_reducible assumption | with_reducible exact L8 (by with_reducible assumption) | exact decide_eq_true (by omega) | exact decide_eq_false (by omega) | omega), (by first | with_reducible assumption | with_reducible exact L8 (by with_reducible assumption) | exact decide_eq_true (by omega) | exact decide_eq_false (by omega) | omega), (by first | with_reducible assumption | with_reducible exact L8 (by with_reducible assumption) | exact decide_eq_true (by omega) | exact decide_eq_false (by omega) | omega), rfl, rfl, rfl, (by first | with_reducible assumption | with_reducible exact L8 (by with_reducible assumption) | exact decide_eq_true (by omega) | exact decide_eq_false (by omega) | omega), (by first | with_reducible assumption | with_reducible exact L8 (by with_reducible assumption) | exact decide_eq_true (by omega) | exact decide_eq_false (by omega) | omega), (by first | with_reducible assumption | with_reducible exact L8 (by with_reducible assumption) | exact decide_eq_true (by omega) | exact decide_eq_false (by omega) | omega), (by first | with_reducible assumption | with_reducible exact L8 (by with_reducible assumption) | exact decide_eq_true (by omega) | exact decide_eq_false (by omega) | omega), (by first | with_reducible assumption | with_reducible exact L8 (by with_reducible assumption) | exact decide_eq_true (by omega) | exact decide_eq_false (by omega) | omega), (by first | with_reducible assumption | with_reducible exact L8 (by with_reducible assumption) | exact decide_eq_true (by omega) | exact decide_eq_false (by omega) | omega), trivial⟩, wfT43 _ _ _ _⟩
    exact GoesN.cons (M1 := M43 k p (wStep k p j x)) rfl hs ih
noncomputable def E43x (k : Nat) (p : J3) : Env := withL E43 3 (bodyOf Try.prog 43 3) (sumC (T43 ((lenN k : Int) - 1)) (M43 k p (wLift 0 0 true)) (T43 (-1)) (M43 k p (wTimesG k p (lenN k) (wLift 0 0 true))) (.exit 0))
theorem envE43x {k : Nat} {p : J3} (hk : k < 4294967296 ^ 8) (hp : p.lt) : EnvOK (E43x k p) := envWithL envE43 (sumC_ok rfl (loop43 hk hp (lenN k) _ ((lenN_spec hk).2) (wLift_lt 0 0 true)).loop)
theorem wi43 (k : Nat) (p : J3) : callR (E43x k p) 1000 43 [lawV, N8 k, w3V p] [] =
    some ([modN 1 < 4294967296 ^ 8, facN 1 < 4294967296, wBi < 4294967296 ^ 8, 0 < 4294967296, 0 < 4294967296, 0 < 4294967296, 0 < 4294967296, 0 < 4294967296, 0 < 4294967296, 0 < 4294967296, 0 < 4294967296, 0 < 4294967296, 0 < 4294967296, 0 < 4294967296, 0 < 4294967296, 0 < 4294967296, 0 < 4294967296, 0 < 4294967296, 0 < 4294967296, modN 1 = modN 1, facN 1 = facN 1, wBi = wBi, true = true ∨ 0 < modN 1 ∧ 0 < modN 1, k < 4294967296 ^ 8, inI ((↑(lenN k) : Int) - (1 : Int)), (bodyOf Try.prog 43 3) = (bodyOf Try.prog 43 3), (T43 ((lenN k : Int) - 1), M43 k p (wLift 0 0 true)) = (T43 ((lenN k : Int) - 1), M43 k p (wLift 0 0 true)), wfS (T43 ((lenN k : Int) - 1)) (M43 k p (wLift 0 0 true)) = true], .val (w3V (wTimesG k p (lenN k) (wLift 0 0 true)))) := by kernel_rfl
theorem spec43t (k : Nat) (p : J3) (hk : k < 4294967296 ^ 8) (hp : p.lt) : Spec 43 [lawV, N8 k, w3V p] (.val (w3V (wTimes k p))) := by
  obtain ⟨hp1, hp2, hp3⟩ := id hp
  have hwb := wBi_lt
  have hl := (lenN_spec hk).2
  have hI : inI ((lenN k : Int) - 1) := by unfold inI; omega
  have hw := wfT43 k p (wLift 0 0 true) ((lenN k : Int) - 1)
  have h := spec_run (envE43x hk hp) rfl (wi43 k p) ⟨(modN_lt _), (facN_lt32 1), (by first | with_reducible assumption | with_reducible exact L8 (by with_reducible assumption) | exact decide_eq_true (by omega) | exact decide_eq_false (by omega) | omega), lit0, lit0, lit0, lit0, lit0, lit0, lit0, lit0, lit0, lit0, lit0, lit0, lit0, lit0, lit0, lit0, rfl, rfl, rfl, (by first | with_reducible assumption | with_reducible exact L8 (by with_reducible assumption) | exact decide_eq_true (by omega) | exact decide_eq_false (by omega) | omega), (by first | with_reducible assumption | with_reducible exact L8 (by with_reducible assumption) | exact decide_eq_true (by omega) | exact decide_eq_false (by omega) | omega), (by first | with_reducible assumption | with_reducible exact L8 (by with_reducible assumption) | exact decide_eq_true (by omega) | exact decide_eq_false (by omega) | omega), rfl, rfl, (by assumption), trivial⟩ rfl rfl
  
  exact h
end Go.Ev

