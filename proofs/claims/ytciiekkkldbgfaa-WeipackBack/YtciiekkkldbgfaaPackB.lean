/- Is it more than is played -/
import Derived.Test.YtciiekkkldbgfaaPackA
import Derived.Test.YtciiekkkldbgfaaNumA
import Derived.Test.YtciiekkkldbgfaaRing
import Derived.Test.YtciiekkkldbgfaaEvB
namespace Go.Ev
open Go Go.Proofs Go.RowKit
def ldC (t : TypeId) (g : Nat → V1) : CT := ⟨3000000 + t, fun vs => match vs with | [.one (.ptr _ off)] => some ([False], .val (g off)) | _ => none⟩
theorem ldC_ok (t : TypeId) (g : Nat → V1) : CTok (ldC t g) := by
  intro vs ob r h ho
  simp only [ldC] at h
  split at h
  · simp only [Option.some.injEq, Prod.mk.injEq] at h
    obtain ⟨rfl, _⟩ := h
    exact ho.1.elim
  · simp at h
noncomputable def addL (E : Env) (k : Nat) (y : Code) (f : List AV → List Blk → List Bool → CoR) : Env :=
  { E with lp := fun j => match Nat.beq j k with | true => some (y, f) | false => E.lp j }
theorem envAddL {E : Env} (hE : EnvOK E) {k : Nat} {y : Code} {f : List AV → List Blk → List Bool → CoR} (h : SumOK E.P (.loop y) f) : EnvOK (addL E k y f) := by
  refine ⟨hE.mixed, hE.fns, hE.fms, ?_, hE.fbs⟩
  intro j y' f' hj
  simp only [addL] at hj
  split at hj
  · simp only [Option.some.injEq, Prod.mk.injEq] at hj
    obtain ⟨rfl, rfl⟩ := hj
    exact h
  · exact hE.lps j y' f' hj
def shX : List SK := [.s]
def isO (i : Nat) (a : Atom) : Prop := a = .v (.slice none 0 0) ∨ ∃ l k, a = .sl i 0 l k
def boxB (a b : Atom) : Blk := ⟨[.a a, .a b], 56, true, false, 0⟩
theorem wfS4 {T : List AV} {A B C D : Blk} (hT : tmsWf 4 T = true) (hA : Free A) (hB : Free B) (hC : allPtr (fun b => Nat.blt b 4) C.ps = true) (hD : allPtr (fun b => Nat.blt b 4) D.ps = true) : wfS T [A, B, C, D] = true := by
  unfold wfS
  simp only [List.length_cons, List.length_nil]
  rw [hT]
  simp only [memWf, hA _, hB _, Bool.true_and, Bool.and_true]
  rw [hC, hD]
  rfl
theorem wfBox {a b : Atom} (ha : isO 0 a) (hb : isO 1 b) : allPtr (fun b => Nat.blt b 4) (boxB a b).ps = true := by
  rcases ha with rfl | ⟨l, k, rfl⟩ <;> rcases hb with rfl | ⟨l', k', rfl⟩ <;> rfl
/-! Heavy -/
noncomputable def LH (cB : Cells) : List CT := [ldC 9 (fun off => .one (.v (.string (sA cB off))))]
noncomputable def EHv (cB : Cells) : Env := mkE (LH cB) fun f t => match f with | 29 => memN t [11, 16, 19, 22, 27, 30, 32, 2000028] | _ => false
theorem envEHv (cB : Cells) : EnvOK (EHv cB) := envMk (show AllCT (LH cB) from ⟨ldC_ok _ _, trivial⟩) _
def TH (a b : Atom) (n i : Int) : List AV := slots 33 [(0, .val (.agg [.a a, .a b])), (1, .val (.one (.ptr 3 0))), (2, bV false), (3, iV n), (4, iV i)]
def THE (a b : Atom) (n : Int) : List AV := slots 33 [(0, .val (.agg [.a a, .a b])), (1, .val (.one (.ptr 3 0))), (2, bV false), (3, iV n)]
def MH (X Y : Blk) (a b : Atom) : List Blk := [X, Y, boxB a b, boxB a b]
theorem hvA (X : Blk) (c : Cells) (a : Atom) (len cap : Nat) (n : Int) (i : Nat) : runTo (EHv c) 1000 (Env.S (EHv c) 29) (bodyOf Try.prog 29 3) (TH a (.sl 1 0 len cap) n (i : Int)) (MH X (rowB c shX len 9) a (.sl 1 0 len cap)) [true, true] (TH a (.sl 1 0 len cap) (n + (sA c (0 + i * 1)).size) ((i : Int) + 1)) 4 =
   some ([decide ((i : Int) < (len : Int)) = true, decide (n < (1048576 : Int)) = true, (0 : Int) ≤ (i : Int) ∧ (i : Int) < (len : Int), LoadsAs Try.prog 9 (rowPs c shX len 0) (0 + i * 1) (.one (.v (.string (sA c (0 + i * 1))))), inI (n + (sA c (0 + i * 1)).size), inI ((i : Int) + 1)], .normal, TH a (.sl 1 0 len cap) (n + (sA c (0 + i * 1)).size) ((i : Int) + 1), MH X (rowB c shX len 9) a (.sl 1 0 len cap)) := by kernel_rfl
theorem hvB (X : Blk) (c : Cells) (a : Atom) (len cap : Nat) (n : Int) (i : Nat) : runTo (EHv c) 1000 (Env.S (EHv c) 29) (bodyOf Try.prog 29 3) (TH a (.sl 1 0 len cap) n (i : Int)) (MH X (rowB c shX len 9) a (.sl 1 0 len cap)) [true, false] (THE a (.sl 1 0 len cap) n) 4 =
   some ([decide ((i : Int) < (len : Int)) = true, decide (n < (1048576 : Int)) = false], .exit 0, THE a (.sl 1 0 len cap) n, MH X (rowB c shX len 9) a (.sl 1 0 len cap)) := by kernel_rfl
theorem hvC (X : Blk) (c : Cells) (a : Atom) (len cap : Nat) (n : Int) (i : Nat) : runTo (EHv c) 1000 (Env.S (EHv c) 29) (bodyOf Try.prog 29 3) (TH a (.sl 1 0 len cap) n (i : Int)) (MH X (rowB c shX len 9) a (.sl 1 0 len cap)) [false] (THE a (.sl 1 0 len cap) n) 4 =
   some ([decide ((i : Int) < (len : Int)) = false], .exit 0, THE a (.sl 1 0 len cap) n, MH X (rowB c shX len 9) a (.sl 1 0 len cap)) := by kernel_rfl
theorem wfTH {X Y : Blk} {a b : Atom} {n i : Int} (hX : Free X) (hY : Free Y) (ha : isO 0 a) (hb : isO 1 b) : wfS (TH a b n i) (MH X Y a b) = true :=
  wfS4 (by rcases ha with rfl | ⟨l, k, rfl⟩ <;> rcases hb with rfl | ⟨l', k', rfl⟩ <;> kernel_rfl) hX hY (wfBox ha hb) (wfBox ha hb)
theorem wfTHE {X Y : Blk} {a b : Atom} {n : Int} (hX : Free X) (hY : Free Y) (ha : isO 0 a) (hb : isO 1 b) : wfS (THE a b n) (MH X Y a b) = true :=
  wfS4 (by rcases ha with rfl | ⟨l, k, rfl⟩ <;> rcases hb with rfl | ⟨l', k', rfl⟩ <;> kernel_rfl) hX hY (wfBox ha hb) (wfBox ha hb)
def hv (c : Cells) : Nat → Nat → Int → Int
  | 0, _, n => n
  | k + 1, i, n => bif decide (n < 1048576) then hv c k (i + 1) (n + (sA c (0 + i * 1)).size) else n
theorem ag9 : isAggA Try.prog 9 = some false := by kernel_rfl
theorem ag27 : isAggA Try.prog 27 = some true := by kernel_rfl
theorem s27 : sizeA Try.prog 27 = some (shSz [.n8, .n8, .b]) := by kernel_rfl
theorem ld9 {c : Cells} {len i : Nat} (hi : i < len) : LoadsAs Try.prog 9 (rowPs c shX len 0) (0 + i * 1) (.one (.v (.string (sA c (0 + i * 1))))) :=
  loads_fld (sh := shX) (i := i) [] .s [] rfl ag9 hi (by simp [shX, shSz, SK.sz]) rfl
def shW : List SK := [.n8, .n8, .b, .n8, .n8, .b, .n8, .n8]
theorem ld27 {c : Cells} {len i : Nat} (hi : i < len) : LoadsAs Try.prog 27 (rowPs c shW len 0) (0 + i * 50) (.agg (fldPs c [.n8, .n8, .b] (0 + i * 50))) :=
  loads_row (sh := shW) (i := i) [] [.n8, .n8, .b] [.n8, .n8, .b, .n8, .n8] rfl ag27 s27 hi (by show 0 + i * 50 = i * 50 + 0; omega)
abbrev BB : Nat := reachBytes
theorem BB_lt : BB < 140737488355328 := by decide
theorem heavyG {X : Blk} {c : Cells} {a : Atom} (hX : Free X) (ha : isO 0 a) (len cap : Nat) (hB : ∀ j, j < len * 1 → (sA c j).size ≤ BB) (hl : len ≤ BB) : ∀ (k i : Nat) (n : Int), i + k = len → 0 ≤ n → GoesN Try.prog (bodyOf Try.prog 29 3) (k + 1) (.exit 0) (TH a (.sl 1 0 len cap) n (i : Int)) (MH X (rowB c shX len 9) a (.sl 1 0 len cap)) (THE a (.sl 1 0 len cap) (hv c k i n)) (MH X (rowB c shX len 9) a (.sl 1 0 len cap))
  | 0, i, n, hk, _ => GoesN.out (by simp) (Runs.goes (envEHv c) ⟨_, _, hvC X c a len cap n i, ⟨decide_eq_false (by omega), trivial⟩, wfTHE hX (rowB_free _ _ _ _) ha (.inr ⟨_, _, rfl⟩)⟩)
  | k + 1, i, n, hk, h0 => by
    have hi : i < len := by omega
    have hii : (0 : Int) ≤ (i : Int) ∧ (i : Int) < (len : Int) := by omega
    have hll : decide ((i : Int) < (len : Int)) = true := decide_eq_true (by omega)
    have hb := BB_lt
    by_cases hn0 : n < 1048576
    · have s0 := hB (0 + i * 1) (by omega)
      have hd : decide (n < 1048576) = true := decide_eq_true hn0
      have ih := heavyG hX ha len cap hB hl k (i + 1) (n + (sA c (0 + i * 1)).size) (by omega) (by omega)
      rw [show ((i + 1 : Nat) : Int) = (i : Int) + 1 by omega] at ih
      show GoesN Try.prog (bodyOf Try.prog 29 3) (k + 1 + 1) (.exit 0) (TH a (.sl 1 0 len cap) n (i : Int)) (MH X (rowB c shX len 9) a (.sl 1 0 len cap)) (THE a (.sl 1 0 len cap) (bif decide (n < 1048576) then hv c k (i + 1) (n + (sA c (0 + i * 1)).size) else n)) (MH X (rowB c shX len 9) a (.sl 1 0 len cap))
      rw [hd, cond_true]
      refine GoesN.cons (M1 := MH X (rowB c shX len 9) a (.sl 1 0 len cap)) rfl (Runs.goes (envEHv c) ⟨_, _, hvA X c a len cap n i, ⟨hll, hd, hii, ld9 hi, ?_, ?_, trivial⟩, wfTH hX (rowB_free _ _ _ _) ha (.inr ⟨_, _, rfl⟩)⟩) ih
      all_goals (unfold inI; omega)
    · have hd : decide (n < 1048576) = false := decide_eq_false hn0
      show GoesN Try.prog (bodyOf Try.prog 29 3) (k + 1 + 1) (.exit 0) (TH a (.sl 1 0 len cap) n (i : Int)) (MH X (rowB c shX len 9) a (.sl 1 0 len cap)) (THE a (.sl 1 0 len cap) (bif decide (n < 1048576) then hv c k (i + 1) (n + (sA c (0 + i * 1)).size) else n)) (MH X (rowB c shX len 9) a (.sl 1 0 len cap))
      rw [hd, cond_false]
      exact GoesN.out (by simp) (Runs.goes (envEHv c) ⟨_, _, hvB X c a len cap n i, ⟨hll, hd, trivial⟩, wfTHE hX (rowB_free _ _ _ _) ha (.inr ⟨_, _, rfl⟩)⟩)
/-- Heavy's loop, where the second slice is not none. -/
noncomputable def sumH (X : Blk) (c : Cells) (a : Atom) (len cap : Nat) (n : Int) : List AV → List Blk → List Bool → CoR := sumC (TH a (.sl 1 0 len cap) n ((0 : Nat) : Int)) (MH X (rowB c shX len 9) a (.sl 1 0 len cap)) (THE a (.sl 1 0 len cap) (hv c len 0 n)) (MH X (rowB c shX len 9) a (.sl 1 0 len cap)) (.exit 0)
theorem sumH_ok {X : Blk} {c : Cells} {a : Atom} (hX : Free X) (ha : isO 0 a) (len cap : Nat) (n : Int) (h0 : 0 ≤ n) (hB : ∀ j, j < len * 1 → (sA c j).size ≤ BB) (hl : len ≤ BB) : SumOK Try.prog (.loop (bodyOf Try.prog 29 3)) (sumH X c a len cap n) :=
  sumC_ok rfl (heavyG hX ha len cap hB hl len 0 n (by omega) h0).loop
end Go.Ev

