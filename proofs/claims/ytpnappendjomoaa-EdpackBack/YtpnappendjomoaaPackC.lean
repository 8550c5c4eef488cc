/- The walks of the laws of packing -/
import Derived.Test.YtpnappendjomoaaCurve
import Derived.Test.YtpnappendjomoaaPackB
import Derived.Test.YtpnappendjomoaaRootB
namespace Go.Ev
open Go Go.Proofs Go.RowKit
noncomputable def S13 : FuncId → Nat → Bool := fun f t => match f with | 46 => memN t [11, 16, 19, 22, 27, 30, 32, 2000028] | 13 => memN t [19, 22, 25, 30, 2000032, 39, 2000041, 42, 46, 2000048, 53, 57, 63, 66, 69, 74, 2000075, 83, 2000084, 91, 95] | _ => false
noncomputable def LP13 (c : Cells) : List CT := ldC 51 (fun off => .agg (fldPs c [.n8, .n8] off)) :: LPk
noncomputable def EP13 (c : Cells) : Env := mkE (LP13 c) S13
theorem envEP13 (c : Cells) : EnvOK (EP13 c) := envMk (show AllCT (LP13 c) from ⟨ldC_ok _ _, LPk_ok⟩) _
noncomputable def LX13 (c : Cells) : List CT := ldC 9 (fun off => .one (.v (.string (sA c off)))) :: LPk
noncomputable def EX13 (c : Cells) : Env := mkE (LX13 c) S13
theorem envEX13 (c : Cells) : EnvOK (EX13 c) := envMk (show AllCT (LX13 c) from ⟨ldC_ok _ _, LPk_ok⟩) _
def T13 (a b : Atom) (i : Int) : List AV := slots 98 [(0, .val (.agg [.a a, .a b])), (1, .val (.one (.ptr 2 0))), (2, bV false), (3, iV i)]
def X13 (a b : Atom) (j i : Int) : List AV := slots 98 [(0, .val (.agg [.a a, .a b])), (1, .val (.one (.ptr 2 0))), (2, bV false), (3, iV j), (8, iV i)]
theorem wfT13 {X Y : Blk} {a b : Atom} {i : Int} (hX : Free X) (hY : Free Y) (ha : isO 0 a) (hb : isO 1 b) : wfS (T13 a b i) (MH X Y a b) = true :=
  wfS4 (by rcases ha with rfl | ⟨l, k, rfl⟩ <;> rcases hb with rfl | ⟨l', k', rfl⟩ <;> kernel_rfl) hX hY (wfBox ha hb) (wfBox ha hb)
theorem wfX13 {X Y : Blk} {a b : Atom} {j i : Int} (hX : Free X) (hY : Free Y) (ha : isO 0 a) (hb : isO 1 b) : wfS (X13 a b j i) (MH X Y a b) = true :=
  wfS4 (by rcases ha with rfl | ⟨l, k, rfl⟩ <;> rcases hb with rfl | ⟨l', k', rfl⟩ <;> kernel_rfl) hX hY (wfBox ha hb) (wfBox ha hb)
theorem p13y (Y : Blk) (c : Cells) (b : Atom) (len cap i : Nat) : runTo (EP13 c) 1000 (Env.S (EP13 c) 13) (bodyOf Try.prog 13 4) (T13 (Atom.sl 0 0 len cap) b (i : Int)) (MH (rowB c shE len 53) Y (Atom.sl 0 0 len cap) b) [true, true, true, false, false] (T13 (Atom.sl 0 0 len cap) b ((i : Int) + 1)) 4 =
  some ([decide ((i : Int) < (len : Int)) = true, decide ((i : Int) < (3 : Int)) = true, (0 : Int) ≤ (i : Int) ∧ (i : Int) < (len : Int), LoadsAs Try.prog 51 (rowPs c shE len 0) (0 + i * 48) (V1.agg (fldPs c [.n8, .n8] (0 + i * 48))), (nA c (0 + i * 48)) < 4294967296 ^ 8, (nA c (0 + i * 48 + 8)) < 4294967296 ^ 8, (0 : Int) ≤ (i : Int) ∧ (i : Int) < (len : Int), LoadsAs Try.prog 51 (rowPs c shE len 0) (0 + i * 48) (V1.agg (fldPs c [.n8, .n8] (0 + i * 48))), onE (nA c (0 + i * 48)) (nA c (0 + i * 48 + 8)) = true, (nA c (0 + i * 48)) < 4294967296 ^ 8, (nA c (0 + i * 48 + 8)) < 4294967296 ^ 8, (0 : Int) ≤ (i : Int) ∧ (i : Int) < (len : Int), LoadsAs Try.prog 51 (rowPs c shE len 0) (0 + i * 48) (V1.agg (fldPs c [.n8, .n8] (0 + i * 48))), (nA c (0 + i * 48)) < 4294967296 ^ 8, (nA c (0 + i * 48 + 8)) < 4294967296 ^ 8, onE (nA c (0 + i * 48)) (nA c (0 + i * 48 + 8)) = true, (!decide (packE (nA c (0 + i * 48)) (nA c (0 + i * 48 + 8)) = 0)) = false, (!((packS (nA c (0 + i * 48)) (nA c (0 + i * 48 + 8))).toList == (packB (nA c (0 + i * 48)) (nA c (0 + i * 48 + 8))).toList)) = false, inI ((i : Int) + 1)], .normal, T13 (Atom.sl 0 0 len cap) b ((i : Int) + 1), MH (rowB c shE len 53) Y (Atom.sl 0 0 len cap) b) := by kernel_rfl
theorem p13n (Y : Blk) (c : Cells) (b : Atom) (len cap i : Nat) : runTo (EP13 c) 1000 (Env.S (EP13 c) 13) (bodyOf Try.prog 13 4) (T13 (Atom.sl 0 0 len cap) b (i : Int)) (MH (rowB c shE len 53) Y (Atom.sl 0 0 len cap) b) [true, true, false, false, false] (T13 (Atom.sl 0 0 len cap) b ((i : Int) + 1)) 4 =
  some ([decide ((i : Int) < (len : Int)) = true, decide ((i : Int) < (3 : Int)) = true, (0 : Int) ≤ (i : Int) ∧ (i : Int) < (len : Int), LoadsAs Try.prog 51 (rowPs c shE len 0) (0 + i * 48) (V1.agg (fldPs c [.n8, .n8] (0 + i * 48))), (nA c (0 + i * 48)) < 4294967296 ^ 8, (nA c (0 + i * 48 + 8)) < 4294967296 ^ 8, (0 : Int) ≤ (i : Int) ∧ (i : Int) < (len : Int), LoadsAs Try.prog 51 (rowPs c shE len 0) (0 + i * 48) (V1.agg (fldPs c [.n8, .n8] (0 + i * 48))), onE (nA c (0 + i * 48)) (nA c (0 + i * 48 + 8)) = false, (nA c (0 + i * 48)) < 4294967296 ^ 8, (nA c (0 + i * 48 + 8)) < 4294967296 ^ 8, (!decide (packE (nA c (0 + i * 48)) (nA c (0 + i * 48 + 8)) = 7)) = false, (!((packS (nA c (0 + i * 48)) (nA c (0 + i * 48 + 8))).toList == (ByteArray.mk #[]).toList)) = false, inI ((i : Int) + 1)], .normal, T13 (Atom.sl 0 0 len cap) b ((i : Int) + 1), MH (rowB c shE len 53) Y (Atom.sl 0 0 len cap) b) := by kernel_rfl
theorem p13b (Y : Blk) (c : Cells) (b : Atom) (len cap i : Nat) : runTo (EP13 c) 1000 (Env.S (EP13 c) 13) (bodyOf Try.prog 13 4) (T13 (Atom.sl 0 0 len cap) b (i : Int)) (MH (rowB c shE len 53) Y (Atom.sl 0 0 len cap) b) [true, false] (T13 (Atom.sl 0 0 len cap) b (i : Int)) 4 =
  some ([decide ((i : Int) < (len : Int)) = true, decide ((i : Int) < (3 : Int)) = false], .exit 0, T13 (Atom.sl 0 0 len cap) b (i : Int), MH (rowB c shE len 53) Y (Atom.sl 0 0 len cap) b) := by kernel_rfl
theorem p13c (Y : Blk) (c : Cells) (b : Atom) (len cap i : Nat) : runTo (EP13 c) 1000 (Env.S (EP13 c) 13) (bodyOf Try.prog 13 4) (T13 (Atom.sl 0 0 len cap) b (i : Int)) (MH (rowB c shE len 53) Y (Atom.sl 0 0 len cap) b) [false] (T13 (Atom.sl 0 0 len cap) b (i : Int)) 4 =
  some ([decide ((i : Int) < (len : Int)) = false], .exit 0, T13 (Atom.sl 0 0 len cap) b (i : Int), MH (rowB c shE len 53) Y (Atom.sl 0 0 len cap) b) := by kernel_rfl
theorem x13y (X : Blk) (c : Cells) (a : Atom) (len cap : Nat) (j : Int) (i : Nat) : runTo (EX13 c) 1000 (Env.S (EX13 c) 13) (bodyOf Try.prog 13 13) (X13 a (Atom.sl 1 0 len cap) j (i : Int)) (MH X (rowB c shX len 9) a (Atom.sl 1 0 len cap)) [true, true, false, false] (X13 a (Atom.sl 1 0 len cap) j ((i : Int) + 1)) 4 =
  some ([decide ((i : Int) < (len : Int)) = true, decide ((i : Int) < (8 : Int)) = true, (0 : Int) ≤ (i : Int) ∧ (i : Int) < (len : Int), LoadsAs Try.prog 9 (rowPs c shX len 0) (0 + i * 1) (.one (.v (.string (sA c (0 + i * 1))))), (0 : Int) ≤ (i : Int) ∧ (i : Int) < (len : Int), LoadsAs Try.prog 9 (rowPs c shX len 0) (0 + i * 1) (.one (.v (.string (sA c (0 + i * 1))))), (!decide (unpE (sA c (0 + i * 1)) = unpE (sA c (0 + i * 1)))) = false, (!(decide (unpX (sA c (0 + i * 1)) % 4294967296 ^ 8 = unpX (sA c (0 + i * 1)) % 4294967296 ^ 8) && (decide (unpY (sA c (0 + i * 1)) % 4294967296 ^ 8 = unpY (sA c (0 + i * 1)) % 4294967296 ^ 8) && true))) = false, inI ((i : Int) + 1)], .normal, X13 a (Atom.sl 1 0 len cap) j ((i : Int) + 1), MH X (rowB c shX len 9) a (Atom.sl 1 0 len cap)) := by kernel_rfl
theorem x13b (X : Blk) (c : Cells) (a : Atom) (len cap : Nat) (j : Int) (i : Nat) : runTo (EX13 c) 1000 (Env.S (EX13 c) 13) (bodyOf Try.prog 13 13) (X13 a (Atom.sl 1 0 len cap) j (i : Int)) (MH X (rowB c shX len 9) a (Atom.sl 1 0 len cap)) [true, false] (X13 a (Atom.sl 1 0 len cap) j (i : Int)) 4 =
  some ([decide ((i : Int) < (len : Int)) = true, decide ((i : Int) < (8 : Int)) = false], .exit 2, X13 a (Atom.sl 1 0 len cap) j (i : Int), MH X (rowB c shX len 9) a (Atom.sl 1 0 len cap)) := by kernel_rfl
theorem x13c (X : Blk) (c : Cells) (a : Atom) (len cap : Nat) (j : Int) (i : Nat) : runTo (EX13 c) 1000 (Env.S (EX13 c) 13) (bodyOf Try.prog 13 13) (X13 a (Atom.sl 1 0 len cap) j (i : Int)) (MH X (rowB c shX len 9) a (Atom.sl 1 0 len cap)) [false] (X13 a (Atom.sl 1 0 len cap) j (i : Int)) 4 =
  some ([decide ((i : Int) < (len : Int)) = false], .exit 2, X13 a (Atom.sl 1 0 len cap) j (i : Int), MH X (rowB c shX len 9) a (Atom.sl 1 0 len cap)) := by kernel_rfl
end Go.Ev

namespace Go.Ev
open Go Go.Proofs Go.RowKit
theorem rowE_ok {c : Cells} {len i : Nat} (hi : i < len) (ho : All (rowOb c shE len 0)) : nA c (0 + i * 48) < 4294967296 ^ 8 ∧ nA c (0 + i * 48 + 8) < 4294967296 ^ 8 := by
  have h := rowOb_at c shE len i 0 hi ho
  obtain ⟨a, b, _⟩ := h
  exact ⟨a, b⟩
theorem neb_self (s : ByteArray) : (!(s.toList == s.toList)) = false := by simp
theorem turn13 {c : Cells} {b : Atom} {Y : Blk} (hY : Free Y) (hb : isO 1 b) {len cap i : Nat} (hi : i < len) (h3 : i < 3) (ho : All (rowOb c shE len 0)) :
    Goes Try.prog (bodyOf Try.prog 13 4) .normal (T13 (.sl 0 0 len cap) b (i : Int)) (MH (rowB c shE len 53) Y (.sl 0 0 len cap) b) (T13 (.sl 0 0 len cap) b ((i : Int) + 1)) (MH (rowB c shE len 53) Y (.sl 0 0 len cap) b) := by
  obtain ⟨hx, hy⟩ := rowE_ok hi ho
  have hii : (0 : Int) ≤ (i : Int) ∧ (i : Int) < (len : Int) := by omega
  have hd1 : decide ((i : Int) < (len : Int)) = true := decide_eq_true (by omega)
  have hd2 : decide ((i : Int) < (3 : Int)) = true := decide_eq_true (by omega)
  have hin : inI ((i : Int) + 1) := by unfold inI; omega
  have hw := wfT13 (X := rowB c shE len 53) (Y := Y) (i := (i : Int) + 1) (rowB_free _ _ _ _) hY (.inr ⟨len, cap, rfl⟩) hb
  have hld := ld51 (c := c) hi
  cases hon : onE (nA c (0 + i * 48)) (nA c (0 + i * 48 + 8)) with
  | true =>
    exact Runs.goes (envEP13 c) ⟨_, _, p13y Y c b len cap i, ⟨hd1, hd2, hii, hld, hx, hy, hii, hld, hon, hx, hy, hii, hld, hx, hy, hon, by unfold packE; rw [hon]; rfl, by unfold packS; rw [hon, cond_true]; exact neb_self _, hin, trivial⟩, hw⟩
  | false =>
    exact Runs.goes (envEP13 c) ⟨_, _, p13n Y c b len cap i, ⟨hd1, hd2, hii, hld, hx, hy, hii, hld, hon, hx, hy, by unfold packE; rw [hon]; rfl, by unfold packS; rw [hon, cond_false]; exact neb_self _, hin, trivial⟩, hw⟩
theorem loopP {c : Cells} {b : Atom} {Y : Blk} (hY : Free Y) (hb : isO 1 b) {len cap : Nat} (ho : All (rowOb c shE len 0)) : ∀ (k i : Nat), i + k = min len 3 → GoesN Try.prog (bodyOf Try.prog 13 4) (k + 1) (.exit 0) (T13 (.sl 0 0 len cap) b (i : Int)) (MH (rowB c shE len 53) Y (.sl 0 0 len cap) b) (T13 (.sl 0 0 len cap) b ((min len 3 : Nat) : Int)) (MH (rowB c shE len 53) Y (.sl 0 0 len cap) b)
  | 0, i, hk => by
    have hw := wfT13 (X := rowB c shE len 53) (Y := Y) (i := (i : Int)) (rowB_free _ _ _ _) hY (.inr ⟨len, cap, rfl⟩) hb
    have e : i = min len 3 := by omega
    by_cases hi : i < len
    · rw [← e]
      exact GoesN.out (by simp) (Runs.goes (envEP13 c) ⟨_, _, p13b Y c b len cap i, ⟨decide_eq_true (by omega), decide_eq_false (by omega), trivial⟩, hw⟩)
    · rw [← e]
      exact GoesN.out (by simp) (Runs.goes (envEP13 c) ⟨_, _, p13c Y c b len cap i, ⟨decide_eq_false (by omega), trivial⟩, hw⟩)
  | k + 1, i, hk => by
    have ih := loopP (cap := cap) hY hb ho k (i + 1) (by omega)
    rw [show ((i + 1 : Nat) : Int) = (i : Int) + 1 by omega] at ih
    exact GoesN.cons rfl (turn13 hY hb (by omega) (by omega) ho) ih
noncomputable def sumP (c : Cells) (Y : Blk) (b : Atom) (len cap : Nat) : List AV → List Blk → List Bool → CoR := sumC (T13 (.sl 0 0 len cap) b ((0 : Nat) : Int)) (MH (rowB c shE len 53) Y (.sl 0 0 len cap) b) (T13 (.sl 0 0 len cap) b ((min len 3 : Nat) : Int)) (MH (rowB c shE len 53) Y (.sl 0 0 len cap) b) (.exit 0)
theorem sumP_ok {c : Cells} {b : Atom} {Y : Blk} (hY : Free Y) (hb : isO 1 b) {len cap : Nat} (ho : All (rowOb c shE len 0)) : SumOK Try.prog (.loop (bodyOf Try.prog 13 4)) (sumP c Y b len cap) :=
  sumC_ok rfl (loopP hY hb ho (min len 3) 0 (by omega)).loop
theorem turnX {c : Cells} {a : Atom} {X : Blk} (hX : Free X) (ha : isO 0 a) {len cap i : Nat} (j : Int) (hi : i < len) (h3 : i < 8) :
    Goes Try.prog (bodyOf Try.prog 13 13) .normal (X13 a (.sl 1 0 len cap) j (i : Int)) (MH X (rowB c shX len 9) a (.sl 1 0 len cap)) (X13 a (.sl 1 0 len cap) j ((i : Int) + 1)) (MH X (rowB c shX len 9) a (.sl 1 0 len cap)) := by
  have hii : (0 : Int) ≤ (i : Int) ∧ (i : Int) < (len : Int) := by omega
  have hd1 : decide ((i : Int) < (len : Int)) = true := decide_eq_true (by omega)
  have hd2 : decide ((i : Int) < (8 : Int)) = true := decide_eq_true (by omega)
  have hin : inI ((i : Int) + 1) := by unfold inI; omega
  have hw := wfX13 (X := X) (Y := rowB c shX len 9) (j := j) (i := (i : Int) + 1) hX (rowB_free _ _ _ _) ha (.inr ⟨len, cap, rfl⟩)
  have hld := ld9 (c := c) hi
  exact Runs.goes (envEX13 c) ⟨_, _, x13y X c a len cap j i, ⟨hd1, hd2, hii, hld, hii, hld, by simp, by simp, hin, trivial⟩, hw⟩
theorem loopX {c : Cells} {a : Atom} {X : Blk} (hX : Free X) (ha : isO 0 a) {len cap : Nat} (j : Int) : ∀ (k i : Nat), i + k = min len 8 → GoesN Try.prog (bodyOf Try.prog 13 13) (k + 1) (.exit 2) (X13 a (.sl 1 0 len cap) j (i : Int)) (MH X (rowB c shX len 9) a (.sl 1 0 len cap)) (X13 a (.sl 1 0 len cap) j ((min len 8 : Nat) : Int)) (MH X (rowB c shX len 9) a (.sl 1 0 len cap))
  | 0, i, hk => by
    have hw := wfX13 (X := X) (Y := rowB c shX len 9) (j := j) (i := (i : Int)) hX (rowB_free _ _ _ _) ha (.inr ⟨len, cap, rfl⟩)
    have e : i = min len 8 := by omega
    by_cases hi : i < len
    · rw [← e]
      exact GoesN.out (by simp) (Runs.goes (envEX13 c) ⟨_, _, x13b X c a len cap j i, ⟨decide_eq_true (by omega), decide_eq_false (by omega), trivial⟩, hw⟩)
    · rw [← e]
      exact GoesN.out (by simp) (Runs.goes (envEX13 c) ⟨_, _, x13c X c a len cap j i, ⟨decide_eq_false (by omega), trivial⟩, hw⟩)
  | k + 1, i, hk => by
    have ih := loopX (c := c) (X := X) (len := len) (cap := cap) hX ha j k (i + 1) (by omega)
    rw [show ((i + 1 : Nat) : Int) = (i : Int) + 1 by omega] at ih
    exact GoesN.cons rfl (turnX (i := i) hX ha j (by omega) (by omega)) ih
noncomputable def sumX (c : Cells) (X : Blk) (a : Atom) (len cap : Nat) (j : Int) : List AV → List Blk → List Bool → CoR := sumC (X13 a (.sl 1 0 len cap) j ((0 : Nat) : Int)) (MH X (rowB c shX len 9) a (.sl 1 0 len cap)) (X13 a (.sl 1 0 len cap) j ((min len 8 : Nat) : Int)) (MH X (rowB c shX len 9) a (.sl 1 0 len cap)) (.exit 2)
theorem sumX_ok {c : Cells} {a : Atom} {X : Blk} (hX : Free X) (ha : isO 0 a) {len cap : Nat} (j : Int) : SumOK Try.prog (.loop (bodyOf Try.prog 13 13)) (sumX c X a len cap j) :=
  sumC_ok rfl (loopX hX ha j (min len 8) 0 (by omega)).loop
end Go.Ev

namespace Go.Ev
open Go Go.Proofs Go.RowKit
theorem law_runMD {E : Env} (hE : EnvOK E) {n : Nat} {f : FuncId} {v : V1} {M : List Blk} {c : List Bool} {ob : List Prop}
    (h : dropM (callBy E (evalC E n) f [v] M c) = some (ob, bV true)) (ho : All ob) {w : World} {φ : Loc} (hm : MRel w φ M w) (hv : v.wf M.length = true) :
    Calls E.P f #[v.conc φ] w (Trues w) := by
  obtain ⟨c', m', h'⟩ := dropM_some h
  exact law_runM hE h' ho hm hv
noncomputable def E13z : Env := mkE LPk S13
theorem envE13z : EnvOK E13z := envMk LPk_ok _
noncomputable def EH00 : Env := E13z
noncomputable def EE00 : Env := EH00
theorem l13k00 : dropM (callBy EE00 (evalC EE00 1000) 13 [V1.agg [.a (.v (.slice none 0 0)), .a (.v (.slice none 0 0))]] [deadB, deadB] [false, false, false, false]) =
  some ([inI (((0 : Nat) : Int) + ((0 : Nat) : Int)), decide ((0 : Int) < ((0 : Nat) : Int)) = false, decide ((4000 : Int) < (((0 : Nat) : Int) + ((0 : Nat) : Int))) = false, decide ((0 : Int) < ((0 : Nat) : Int)) = false, decide ((0 : Int) < ((0 : Nat) : Int)) = false], bV true) := by kernel_rfl
noncomputable def EH01 (cB : Cells) (lB kB : Nat) : Env := addL E13z 3 (bodyOf Try.prog 46 3) (sumH deadB cB (.v (.slice none 0 0)) lB kB ((lB : Int) + ((0 : Nat) : Int)))
noncomputable def EE01 (cB : Cells) (lB kB : Nat) : Env := (addL (EH01 cB lB kB) 13 (bodyOf Try.prog 13 13) (sumX cB deadB (.v (.slice none 0 0)) lB kB (0 : Int)))
theorem l13h01 (cB : Cells) (lB kB : Nat) : dropM (callBy (EH01 cB lB kB) (evalC (EH01 cB lB kB) 1000) 13 [V1.agg [.a (.v (.slice none 0 0)), .a (.sl 1 0 lB kB)]] [deadB, rowB cB shX lB 9] [true]) =
  some ([inI ((lB : Int) + ((0 : Nat) : Int)), bodyOf Try.prog 46 3 = bodyOf Try.prog 46 3, (TH (.v (.slice none 0 0)) (.sl 1 0 lB kB) ((lB : Int) + ((0 : Nat) : Int)) ((0 : Nat) : Int), (MH deadB (rowB cB shX lB 9) (.v (.slice none 0 0)) (.sl 1 0 lB kB))) = (TH (.v (.slice none 0 0)) (.sl 1 0 lB kB) ((lB : Int) + ((0 : Nat) : Int)) ((0 : Nat) : Int), (MH deadB (rowB cB shX lB 9) (.v (.slice none 0 0)) (.sl 1 0 lB kB))), wfS (TH (.v (.slice none 0 0)) (.sl 1 0 lB kB) ((lB : Int) + ((0 : Nat) : Int)) ((0 : Nat) : Int)) (MH deadB (rowB cB shX lB 9) (.v (.slice none 0 0)) (.sl 1 0 lB kB)) = true, decide ((4000 : Int) < hv cB lB 0 ((lB : Int) + ((0 : Nat) : Int))) = true], bV true) := by kernel_rfl
theorem l13k01 (cB : Cells) (lB kB : Nat) : dropM (callBy (EE01 cB lB kB) (evalC (EE01 cB lB kB) 1000) 13 [V1.agg [.a (.v (.slice none 0 0)), .a (.sl 1 0 lB kB)]] [deadB, rowB cB shX lB 9] [false, false]) =
  some ([inI ((lB : Int) + ((0 : Nat) : Int)), bodyOf Try.prog 46 3 = bodyOf Try.prog 46 3, (TH (.v (.slice none 0 0)) (.sl 1 0 lB kB) ((lB : Int) + ((0 : Nat) : Int)) ((0 : Nat) : Int), (MH deadB (rowB cB shX lB 9) (.v (.slice none 0 0)) (.sl 1 0 lB kB))) = (TH (.v (.slice none 0 0)) (.sl 1 0 lB kB) ((lB : Int) + ((0 : Nat) : Int)) ((0 : Nat) : Int), (MH deadB (rowB cB shX lB 9) (.v (.slice none 0 0)) (.sl 1 0 lB kB))), wfS (TH (.v (.slice none 0 0)) (.sl 1 0 lB kB) ((lB : Int) + ((0 : Nat) : Int)) ((0 : Nat) : Int)) (MH deadB (rowB cB shX lB 9) (.v (.slice none 0 0)) (.sl 1 0 lB kB)) = true, decide ((4000 : Int) < hv cB lB 0 ((lB : Int) + ((0 : Nat) : Int))) = false, decide ((0 : Int) < ((0 : Nat) : Int)) = false, bodyOf Try.prog 13 13 = bodyOf Try.prog 13 13, (X13 (.v (.slice none 0 0)) (.sl 1 0 lB kB) (0 : Int) ((0 : Nat) : Int), (MH deadB (rowB cB shX lB 9) (.v (.slice none 0 0)) (.sl 1 0 lB kB))) = (X13 (.v (.slice none 0 0)) (.sl 1 0 lB kB) (0 : Int) ((0 : Nat) : Int), (MH deadB (rowB cB shX lB 9) (.v (.slice none 0 0)) (.sl 1 0 lB kB))), wfS (X13 (.v (.slice none 0 0)) (.sl 1 0 lB kB) (0 : Int) ((0 : Nat) : Int)) (MH deadB (rowB cB shX lB 9) (.v (.slice none 0 0)) (.sl 1 0 lB kB)) = true], bV true) := by kernel_rfl
noncomputable def EH10 (cA : Cells) (lA kA : Nat) : Env := E13z
noncomputable def EE10 (cA : Cells) (lA kA : Nat) : Env := (addL (EH10 cA lA kA) 4 (bodyOf Try.prog 13 4) (sumP cA deadB (.v (.slice none 0 0)) lA kA))
theorem l13h10 (cA : Cells) (lA kA : Nat) : dropM (callBy (EH10 cA lA kA) (evalC (EH10 cA lA kA) 1000) 13 [V1.agg [.a (.sl 0 0 lA kA), .a (.v (.slice none 0 0))]] [rowB cA shE lA 53, deadB] [false, true]) =
  some ([inI (((0 : Nat) : Int) + (lA : Int)), decide ((0 : Int) < ((0 : Nat) : Int)) = false, decide ((4000 : Int) < (((0 : Nat) : Int) + (lA : Int))) = true], bV true) := by kernel_rfl
theorem l13k10 (cA : Cells) (lA kA : Nat) : dropM (callBy (EE10 cA lA kA) (evalC (EE10 cA lA kA) 1000) 13 [V1.agg [.a (.sl 0 0 lA kA), .a (.v (.slice none 0 0))]] [rowB cA shE lA 53, deadB] [false, false, false]) =
  some ([inI (((0 : Nat) : Int) + (lA : Int)), decide ((0 : Int) < ((0 : Nat) : Int)) = false, decide ((4000 : Int) < (((0 : Nat) : Int) + (lA : Int))) = false, bodyOf Try.prog 13 4 = bodyOf Try.prog 13 4, (T13 (.sl 0 0 lA kA) (.v (.slice none 0 0)) ((0 : Nat) : Int), (MH (rowB cA shE lA 53) deadB (.sl 0 0 lA kA) (.v (.slice none 0 0)))) = (T13 (.sl 0 0 lA kA) (.v (.slice none 0 0)) ((0 : Nat) : Int), (MH (rowB cA shE lA 53) deadB (.sl 0 0 lA kA) (.v (.slice none 0 0)))), wfS (T13 (.sl 0 0 lA kA) (.v (.slice none 0 0)) ((0 : Nat) : Int)) (MH (rowB cA shE lA 53) deadB (.sl 0 0 lA kA) (.v (.slice none 0 0))) = true, decide ((0 : Int) < ((0 : Nat) : Int)) = false], bV true) := by kernel_rfl
noncomputable def EH11 (cA : Cells) (lA kA : Nat) (cB : Cells) (lB kB : Nat) : Env := addL E13z 3 (bodyOf Try.prog 46 3) (sumH (rowB cA shE lA 53) cB (.sl 0 0 lA kA) lB kB ((lB : Int) + (lA : Int)))
noncomputable def EE11 (cA : Cells) (lA kA : Nat) (cB : Cells) (lB kB : Nat) : Env := (addL (addL (EH11 cA lA kA cB lB kB) 4 (bodyOf Try.prog 13 4) (sumP cA (rowB cB shX lB 9) (.sl 1 0 lB kB) lA kA)) 13 (bodyOf Try.prog 13 13) (sumX cB (rowB cA shE lA 53) (.sl 0 0 lA kA) lB kB ((min lA 3 : Nat) : Int)))
theorem l13h11 (cA : Cells) (lA kA : Nat) (cB : Cells) (lB kB : Nat) : dropM (callBy (EH11 cA lA kA cB lB kB) (evalC (EH11 cA lA kA cB lB kB) 1000) 13 [V1.agg [.a (.sl 0 0 lA kA), .a (.sl 1 0 lB kB)]] [rowB cA shE lA 53, rowB cB shX lB 9] [true]) =
  some ([inI ((lB : Int) + (lA : Int)), bodyOf Try.prog 46 3 = bodyOf Try.prog 46 3, (TH (.sl 0 0 lA kA) (.sl 1 0 lB kB) ((lB : Int) + (lA : Int)) ((0 : Nat) : Int), (MH (rowB cA shE lA 53) (rowB cB shX lB 9) (.sl 0 0 lA kA) (.sl 1 0 lB kB))) = (TH (.sl 0 0 lA kA) (.sl 1 0 lB kB) ((lB : Int) + (lA : Int)) ((0 : Nat) : Int), (MH (rowB cA shE lA 53) (rowB cB shX lB 9) (.sl 0 0 lA kA) (.sl 1 0 lB kB))), wfS (TH (.sl 0 0 lA kA) (.sl 1 0 lB kB) ((lB : Int) + (lA : Int)) ((0 : Nat) : Int)) (MH (rowB cA shE lA 53) (rowB cB shX lB 9) (.sl 0 0 lA kA) (.sl 1 0 lB kB)) = true, decide ((4000 : Int) < hv cB lB 0 ((lB : Int) + (lA : Int))) = true], bV true) := by kernel_rfl
theorem l13k11 (cA : Cells) (lA kA : Nat) (cB : Cells) (lB kB : Nat) : dropM (callBy (EE11 cA lA kA cB lB kB) (evalC (EE11 cA lA kA cB lB kB) 1000) 13 [V1.agg [.a (.sl 0 0 lA kA), .a (.sl 1 0 lB kB)]] [rowB cA shE lA 53, rowB cB shX lB 9] [false]) =
  some ([inI ((lB : Int) + (lA : Int)), bodyOf Try.prog 46 3 = bodyOf Try.prog 46 3, (TH (.sl 0 0 lA kA) (.sl 1 0 lB kB) ((lB : Int) + (lA : Int)) ((0 : Nat) : Int), (MH (rowB cA shE lA 53) (rowB cB shX lB 9) (.sl 0 0 lA kA) (.sl 1 0 lB kB))) = (TH (.sl 0 0 lA kA) (.sl 1 0 lB kB) ((lB : Int) + (lA : Int)) ((0 : Nat) : Int), (MH (rowB cA shE lA 53) (rowB cB shX lB 9) (.sl 0 0 lA kA) (.sl 1 0 lB kB))), wfS (TH (.sl 0 0 lA kA) (.sl 1 0 lB kB) ((lB : Int) + (lA : Int)) ((0 : Nat) : Int)) (MH (rowB cA shE lA 53) (rowB cB shX lB 9) (.sl 0 0 lA kA) (.sl 1 0 lB kB)) = true, decide ((4000 : Int) < hv cB lB 0 ((lB : Int) + (lA : Int))) = false, bodyOf Try.prog 13 4 = bodyOf Try.prog 13 4, (T13 (.sl 0 0 lA kA) (.sl 1 0 lB kB) ((0 : Nat) : Int), (MH (rowB cA shE lA 53) (rowB cB shX lB 9) (.sl 0 0 lA kA) (.sl 1 0 lB kB))) = (T13 (.sl 0 0 lA kA) (.sl 1 0 lB kB) ((0 : Nat) : Int), (MH (rowB cA shE lA 53) (rowB cB shX lB 9) (.sl 0 0 lA kA) (.sl 1 0 lB kB))), wfS (T13 (.sl 0 0 lA kA) (.sl 1 0 lB kB) ((0 : Nat) : Int)) (MH (rowB cA shE lA 53) (rowB cB shX lB 9) (.sl 0 0 lA kA) (.sl 1 0 lB kB)) = true, bodyOf Try.prog 13 13 = bodyOf Try.prog 13 13, (X13 (.sl 0 0 lA kA) (.sl 1 0 lB kB) ((min lA 3 : Nat) : Int) ((0 : Nat) : Int), (MH (rowB cA shE lA 53) (rowB cB shX lB 9) (.sl 0 0 lA kA) (.sl 1 0 lB kB))) = (X13 (.sl 0 0 lA kA) (.sl 1 0 lB kB) ((min lA 3 : Nat) : Int) ((0 : Nat) : Int), (MH (rowB cA shE lA 53) (rowB cB shX lB 9) (.sl 0 0 lA kA) (.sl 1 0 lB kB))), wfS (X13 (.sl 0 0 lA kA) (.sl 1 0 lB kB) ((min lA 3 : Nat) : Int) ((0 : Nat) : Int)) (MH (rowB cA shE lA 53) (rowB cB shX lB 9) (.sl 0 0 lA kA) (.sl 1 0 lB kB)) = true], bV true) := by kernel_rfl
end Go.Ev

namespace Go.Ev
open Go Go.Proofs Go.RowKit
def fP : Field := { name := "P", type := 49, offset := 0, embedded := false, tag := "", pkgPath := "", byteOffset := 0 }
def fX : Field := { name := "X", type := 71, offset := 1, embedded := false, tag := "", pkgPath := "", byteOffset := 24 }
theorem u73 : Try.prog.underlying 73 = some (.struct #[fP, fX]) := by kernel_rfl
theorem ct73 : Try.prog.cellTypes Try.prog.depth 73 = some [fP.type, fX.type] := by kernel_rfl
theorem c49 : Try.prog.cellsOf fP.type = 1 := by kernel_rfl
theorem c71 : Try.prog.cellsOf fX.type = 1 := by kernel_rfl
theorem c73 : Try.prog.cellsOf 73 = 2 := by kernel_rfl
theorem uP : Try.prog.underlying fP.type = some (.slice 53) := by kernel_rfl
theorem uX : Try.prog.underlying fX.type = some (.slice 9) := by kernel_rfl
theorem k9 : kindsT Try.prog 20 9 = some (shKs shX) := by kernel_rfl
theorem s9 : sizeA Try.prog 9 = some (shSz shX) := by kernel_rfl
theorem b53 : 0 < Try.prog.bytesOf 53 := of_decide_eq_true (by kernel_rfl)
theorem b9 : 0 < Try.prog.bytesOf 9 := of_decide_eq_true (by kernel_rfl)
theorem rd73 : Try.prog.readableRec 73 = true := by kernel_rfl
theorem row73 : (73 : Nat) < Try.prog.types.size := of_decide_eq_true (by kernel_rfl)
theorem deadB_free : Free deadB := fun _ => rfl
theorem isOn (i : Nat) : isO i (.v (.slice none 0 0)) := .inl rfl
theorem isOs (i l k : Nat) : isO i (.sl i 0 l k) := .inr ⟨l, k, rfl⟩
theorem inI0 {x y : Nat} (hx : x ≤ BB) (hy : y ≤ BB) : inI ((x : Int) + (y : Int)) := by
  have := BB_lt
  unfold inI; omega
set_option maxRecDepth 100000 in
theorem law13 {H : Type} {enc : TypeId × Value → H} {r : Reach} {W : World} {base : Nat} {v : Value} {d : DataW H} {ps : List MemPlace} (hval : Value.okWide Try.prog W r base 73 v) (h : DataW.Trod enc Try.prog W 0 (fun _ => true) true 73 v d ps) (hwt : ∀ n ∈ d.weights Try.prog 73, n ≤ BB) :
    Calls Try.prog 13 #[v] W (Trues W) := by
  refine two_calls shE shX (DA := 20) (DB := 20) (B := BB) (Q := Trues) u73 rfl rfl ct73 c49 c71 c73 uP k53 s53 b53 uX k9 s9 b9 ?_ hval h hwt
  intro cA cB oA oB kA kB w φ hm
  have h00 : (0 : Nat) ≤ BB := Nat.zero_le _
  cases oA with
  | none =>
    cases oB with
    | none => exact law_runMD envE13z l13k00 ⟨inI0 h00 h00, by decide, by decide, by decide, by decide, trivial⟩ hm rfl
    | some x =>
      obtain ⟨lB, kB'⟩ := x
      obtain ⟨_, _, _, hlB, hBB⟩ := kB
      have hH : EnvOK (EH01 cB lB kB') := envAddL envE13z (sumH_ok deadB_free (isOn 0) lB kB' _ (by omega) hBB hlB)
      have hE : EnvOK (EE01 cB lB kB') := envAddL hH (sumX_ok deadB_free (isOn 0) _)
      by_cases hh : (4000 : Int) < hv cB lB 0 ((lB : Int) + ((0 : Nat) : Int))
      · exact law_runMD hH (l13h01 cB lB kB') ⟨inI0 hlB h00, rfl, rfl, wfTH deadB_free (rowB_free _ _ _ _) (isOn 0) (isOs 1 _ _), decide_eq_true hh, trivial⟩ hm rfl
      · exact law_runMD hE (l13k01 cB lB kB') ⟨inI0 hlB h00, rfl, rfl, wfTH deadB_free (rowB_free _ _ _ _) (isOn 0) (isOs 1 _ _), decide_eq_false hh, by decide, rfl, rfl, wfX13 deadB_free (rowB_free _ _ _ _) (isOn 0) (isOs 1 _ _), trivial⟩ hm rfl
  | some y =>
    obtain ⟨lA, kA'⟩ := y
    obtain ⟨_, _, hoA, hlA, _⟩ := kA
    cases oB with
    | none =>
      have hE : EnvOK (EE10 cA lA kA') := envAddL envE13z (sumP_ok deadB_free (isOn 1) hoA)
      by_cases hh : (4000 : Int) < ((0 : Nat) : Int) + (lA : Int)
      · exact law_runMD envE13z (l13h10 cA lA kA') ⟨inI0 h00 hlA, by decide, decide_eq_true hh, trivial⟩ hm rfl
      · exact law_runMD hE (l13k10 cA lA kA') ⟨inI0 h00 hlA, by decide, decide_eq_false hh, rfl, rfl, wfT13 (rowB_free _ _ _ _) deadB_free (isOs 0 _ _) (isOn 1), by decide, trivial⟩ hm rfl
    | some x =>
      obtain ⟨lB, kB'⟩ := x
      obtain ⟨_, _, _, hlB, hBB⟩ := kB
      have hH : EnvOK (EH11 cA lA kA' cB lB kB') := envAddL envE13z (sumH_ok (rowB_free _ _ _ _) (isOs 0 _ _) lB kB' _ (by omega) hBB hlB)
      have hE : EnvOK (EE11 cA lA kA' cB lB kB') := envAddL (envAddL hH (sumP_ok (rowB_free _ _ _ _) (isOs 1 _ _) hoA)) (sumX_ok (rowB_free _ _ _ _) (isOs 0 _ _) _)
      by_cases hh : (4000 : Int) < hv cB lB 0 ((lB : Int) + (lA : Int))
      · exact law_runMD hH (l13h11 cA lA kA' cB lB kB') ⟨inI0 hlB hlA, rfl, rfl, wfTH (rowB_free _ _ _ _) (rowB_free _ _ _ _) (isOs 0 _ _) (isOs 1 _ _), decide_eq_true hh, trivial⟩ hm rfl
      · exact law_runMD hE (l13k11 cA lA kA' cB lB kB') ⟨inI0 hlB hlA, rfl, rfl, wfTH (rowB_free _ _ _ _) (rowB_free _ _ _ _) (isOs 0 _ _) (isOs 1 _ _), decide_eq_false hh, rfl, rfl, wfT13 (rowB_free _ _ _ _) (rowB_free _ _ _ _) (isOs 0 _ _) (isOs 1 _ _), rfl, rfl, wfX13 (rowB_free _ _ _ _) (rowB_free _ _ _ _) (isOs 0 _ _) (isOs 1 _ _), trivial⟩ hm rfl
end Go.Ev

