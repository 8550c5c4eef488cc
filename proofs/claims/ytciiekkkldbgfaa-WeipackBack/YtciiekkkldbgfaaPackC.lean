/- The laws of spots' bytes, their parts in common -/
import Derived.Test.YtciiekkkldbgfaaPackB
namespace Go.Ev
open Go Go.Proofs Go.RowKit
abbrev YL (ps : List Piece) (e : TypeId) : Blk := ⟨ps, e, true, true, 0⟩
noncomputable def fnUnW (vs : List V1) : Option (List Prop × AV) := match vs with | [.one (.v (.string s))] => some ([], .tup [P3 (wX s) (wY s) false, .one (.i (wE s))]) | _ => none
theorem ct35u : CTok ⟨35, fnUnW⟩ := by
  intro vs ob r h ho
  simp only [fnUnW] at h
  split at h
  · simp only [Option.some.injEq, Prod.mk.injEq] at h
    obtain ⟨_, rfl⟩ := h
    exact spec35u _
  · simp at h
theorem ct36u : CTok ⟨36, fnUnW⟩ := by
  intro vs ob r h ho
  simp only [fnUnW] at h
  split at h
  · simp only [Option.some.injEq, Prod.mk.injEq] at h
    obtain ⟨_, rfl⟩ := h
    exact spec36u _
  · simp at h
theorem spec34n (z : Int) : Spec 34 [.one (.i z)] (iV z) := spec_run envE0 rfl (show callR E0 1000 34 [.one (.i z)] [] = some ([], iV z) by kernel_rfl) trivial rfl rfl
def fNum9 (vs : List V1) : Option (List Prop × AV) := match vs with | [.one (.i z)] => some ([], iV z) | _ => none
theorem ct34n : CTok ⟨34, fNum9⟩ := by
  intro vs ob r h ho
  simp only [fNum9] at h
  split at h
  · simp only [Option.some.injEq, Prod.mk.injEq] at h
    obtain ⟨_, rfl⟩ := h
    exact spec34n _
  · simp at h
noncomputable def LPq : List CT := ⟨30, fnS [aSp] gP30⟩ :: ⟨31, fnS [aSp] gP31⟩ :: ⟨35, fnUnW⟩ :: ⟨36, fnUnW⟩ :: ⟨37, cV (bV true)⟩ :: ⟨34, fNum9⟩ :: LPw
theorem LPq_ok : AllCT LPq := ⟨ct30u, ct31u, ct35u, ct36u, ctV spec37w, ct34n, LPw_ok⟩
noncomputable def S10 : FuncId → Nat → Bool := fun f t => match f with | 29 => memN t [11, 16, 19, 22, 27, 30, 32, 2000028] | 10 => memN t [23, 26, 29, 33, 2000035, 47, 51, 60, 65, 70, 75, 81, 84, 87, 92, 2000093, 101, 2000102, 109, 113] | _ => false
noncomputable def LP10 (c : Cells) : List CT := ldC 27 (fun off => .agg (fldPs c [.n8, .n8, .b] off)) :: LPq
noncomputable def EP10 (c : Cells) : Env := mkE (LP10 c) S10
theorem envEP10 (c : Cells) : EnvOK (EP10 c) := envMk (show AllCT (LP10 c) from ⟨ldC_ok _ _, LPq_ok⟩) _
noncomputable def LX10 (c : Cells) : List CT := ldC 9 (fun off => .one (.v (.string (sA c off)))) :: LPq
noncomputable def EX10 (c : Cells) : Env := mkE (LX10 c) S10
theorem envEX10 (c : Cells) : EnvOK (EX10 c) := envMk (show AllCT (LX10 c) from ⟨ldC_ok _ _, LPq_ok⟩) _
def T10 (a b : Atom) (i : Int) : List AV := slots 116 [(0, .val (.agg [.a a, .a b])), (1, .val (.one (.ptr 2 0))), (2, bV false), (3, iV i)]
def X10 (a b : Atom) (j i : Int) : List AV := slots 116 [(0, .val (.agg [.a a, .a b])), (1, .val (.one (.ptr 2 0))), (2, bV false), (3, iV j), (12, iV i)]
theorem wfT10 {X Y : Blk} {a b : Atom} {i : Int} (hX : Free X) (hY : Free Y) (ha : isO 0 a) (hb : isO 1 b) : wfS (T10 a b i) (MH X Y a b) = true :=
  wfS4 (by rcases ha with rfl | ⟨l, k, rfl⟩ <;> rcases hb with rfl | ⟨l', k', rfl⟩ <;> kernel_rfl) hX hY (wfBox ha hb) (wfBox ha hb)
theorem wfX10 {X Y : Blk} {a b : Atom} {j i : Int} (hX : Free X) (hY : Free Y) (ha : isO 0 a) (hb : isO 1 b) : wfS (X10 a b j i) (MH X Y a b) = true :=
  wfS4 (by rcases ha with rfl | ⟨l, k, rfl⟩ <;> rcases hb with rfl | ⟨l', k', rfl⟩ <;> kernel_rfl) hX hY (wfBox ha hb) (wfBox ha hb)
theorem p10y (ps : List Piece) (e : TypeId) (c : Cells) (b : Atom) (len cap i : Nat) : runTo (EP10 c) 1000 (Env.S (EP10 c) 10) (bodyOf Try.prog 10 4) (T10 (Atom.sl 0 0 len cap) b (i : Int)) (MH (rowB c shW len 29) (YL ps e) (Atom.sl 0 0 len cap) b) [true, true, true, true, false, false, false, false] (T10 (Atom.sl 0 0 len cap) b ((i : Int) + 1)) 4 =
  some ([decide ((i : Int) < (len : Int)) = true, decide ((i : Int) < (3 : Int)) = true, (0 : Int) ≤ (i : Int) ∧ (i : Int) < (len : Int), LoadsAs Try.prog 27 (rowPs c shW len 0) (0 + i * 50) (V1.agg (fldPs c [.n8, .n8, .b] (0 + i * 50))), (nA c (0 + i * 50)) < 4294967296 ^ 8, (nA c (0 + i * 50 + 8)) < 4294967296 ^ 8, (nA c (0 + i * 50)) < 4294967296 ^ 8, (nA c (0 + i * 50 + 8)) < 4294967296 ^ 8, onS (nA c (0 + i * 50)) (nA c (0 + i * 50 + 8)) (bA c (0 + i * 50 + 8 + 8)) = true, (nA c (0 + i * 50)) < 4294967296 ^ 8, (nA c (0 + i * 50 + 8)) < 4294967296 ^ 8, (!(bA c (0 + i * 50 + 8 + 8))) = true, (nA c (0 + i * 50)) < 4294967296 ^ 8, (nA c (0 + i * 50 + 8)) < 4294967296 ^ 8, (nA c (0 + i * 50)) < 4294967296 ^ 8, (nA c (0 + i * 50 + 8)) < 4294967296 ^ 8, (!decide (pkE (nA c (0 + i * 50)) (nA c (0 + i * 50 + 8)) (bA c (0 + i * 50 + 8 + 8)) = 0)) = false, (!decide (pkE (nA c (0 + i * 50)) (nA c (0 + i * 50 + 8)) (bA c (0 + i * 50 + 8 + 8)) = 0)) = false, (!((pkW (nA c (0 + i * 50)) (nA c (0 + i * 50 + 8)) (bA c (0 + i * 50 + 8 + 8))).toList == (packW (nA c (0 + i * 50)) (nA c (0 + i * 50 + 8))).toList)) = false, (!((lgW (nA c (0 + i * 50)) (nA c (0 + i * 50 + 8)) (bA c (0 + i * 50 + 8 + 8))).toList == (longW (nA c (0 + i * 50)) (nA c (0 + i * 50 + 8))).toList)) = false, inI ((i : Int) + 1)], .normal, T10 (Atom.sl 0 0 len cap) b ((i : Int) + 1), MH (rowB c shW len 29) (YL ps e) (Atom.sl 0 0 len cap) b) := by kernel_rfl
theorem p10m (ps : List Piece) (e : TypeId) (c : Cells) (b : Atom) (len cap i : Nat) : runTo (EP10 c) 1000 (Env.S (EP10 c) 10) (bodyOf Try.prog 10 4) (T10 (Atom.sl 0 0 len cap) b (i : Int)) (MH (rowB c shW len 29) (YL ps e) (Atom.sl 0 0 len cap) b) [true, true, true, false, false, false, false, false] (T10 (Atom.sl 0 0 len cap) b ((i : Int) + 1)) 4 =
  some ([decide ((i : Int) < (len : Int)) = true, decide ((i : Int) < (3 : Int)) = true, (0 : Int) ≤ (i : Int) ∧ (i : Int) < (len : Int), LoadsAs Try.prog 27 (rowPs c shW len 0) (0 + i * 50) (V1.agg (fldPs c [.n8, .n8, .b] (0 + i * 50))), (nA c (0 + i * 50)) < 4294967296 ^ 8, (nA c (0 + i * 50 + 8)) < 4294967296 ^ 8, (nA c (0 + i * 50)) < 4294967296 ^ 8, (nA c (0 + i * 50 + 8)) < 4294967296 ^ 8, onS (nA c (0 + i * 50)) (nA c (0 + i * 50 + 8)) (bA c (0 + i * 50 + 8 + 8)) = true, (nA c (0 + i * 50)) < 4294967296 ^ 8, (nA c (0 + i * 50 + 8)) < 4294967296 ^ 8, (!(bA c (0 + i * 50 + 8 + 8))) = false, (!decide (pkE (nA c (0 + i * 50)) (nA c (0 + i * 50 + 8)) (bA c (0 + i * 50 + 8 + 8)) = 7)) = false, (!decide (pkE (nA c (0 + i * 50)) (nA c (0 + i * 50 + 8)) (bA c (0 + i * 50 + 8 + 8)) = 7)) = false, (!((pkW (nA c (0 + i * 50)) (nA c (0 + i * 50 + 8)) (bA c (0 + i * 50 + 8 + 8))).toList == (ByteArray.mk #[]).toList)) = false, (!((lgW (nA c (0 + i * 50)) (nA c (0 + i * 50 + 8)) (bA c (0 + i * 50 + 8 + 8))).toList == (ByteArray.mk #[]).toList)) = false, inI ((i : Int) + 1)], .normal, T10 (Atom.sl 0 0 len cap) b ((i : Int) + 1), MH (rowB c shW len 29) (YL ps e) (Atom.sl 0 0 len cap) b) := by kernel_rfl
theorem p10n (ps : List Piece) (e : TypeId) (c : Cells) (b : Atom) (len cap i : Nat) : runTo (EP10 c) 1000 (Env.S (EP10 c) 10) (bodyOf Try.prog 10 4) (T10 (Atom.sl 0 0 len cap) b (i : Int)) (MH (rowB c shW len 29) (YL ps e) (Atom.sl 0 0 len cap) b) [true, true, false, false, false, false, false] (T10 (Atom.sl 0 0 len cap) b ((i : Int) + 1)) 4 =
  some ([decide ((i : Int) < (len : Int)) = true, decide ((i : Int) < (3 : Int)) = true, (0 : Int) ≤ (i : Int) ∧ (i : Int) < (len : Int), LoadsAs Try.prog 27 (rowPs c shW len 0) (0 + i * 50) (V1.agg (fldPs c [.n8, .n8, .b] (0 + i * 50))), (nA c (0 + i * 50)) < 4294967296 ^ 8, (nA c (0 + i * 50 + 8)) < 4294967296 ^ 8, (nA c (0 + i * 50)) < 4294967296 ^ 8, (nA c (0 + i * 50 + 8)) < 4294967296 ^ 8, onS (nA c (0 + i * 50)) (nA c (0 + i * 50 + 8)) (bA c (0 + i * 50 + 8 + 8)) = false, (nA c (0 + i * 50)) < 4294967296 ^ 8, (nA c (0 + i * 50 + 8)) < 4294967296 ^ 8, (!decide (pkE (nA c (0 + i * 50)) (nA c (0 + i * 50 + 8)) (bA c (0 + i * 50 + 8 + 8)) = 7)) = false, (!decide (pkE (nA c (0 + i * 50)) (nA c (0 + i * 50 + 8)) (bA c (0 + i * 50 + 8 + 8)) = 7)) = false, (!((pkW (nA c (0 + i * 50)) (nA c (0 + i * 50 + 8)) (bA c (0 + i * 50 + 8 + 8))).toList == (ByteArray.mk #[]).toList)) = false, (!((lgW (nA c (0 + i * 50)) (nA c (0 + i * 50 + 8)) (bA c (0 + i * 50 + 8 + 8))).toList == (ByteArray.mk #[]).toList)) = false, inI ((i : Int) + 1)], .normal, T10 (Atom.sl 0 0 len cap) b ((i : Int) + 1), MH (rowB c shW len 29) (YL ps e) (Atom.sl 0 0 len cap) b) := by kernel_rfl
theorem p10b (ps : List Piece) (e : TypeId) (c : Cells) (b : Atom) (len cap i : Nat) : runTo (EP10 c) 1000 (Env.S (EP10 c) 10) (bodyOf Try.prog 10 4) (T10 (Atom.sl 0 0 len cap) b (i : Int)) (MH (rowB c shW len 29) (YL ps e) (Atom.sl 0 0 len cap) b) [true, false] (T10 (Atom.sl 0 0 len cap) b (i : Int)) 4 =
  some ([decide ((i : Int) < (len : Int)) = true, decide ((i : Int) < (3 : Int)) = false], .exit 0, T10 (Atom.sl 0 0 len cap) b (i : Int), MH (rowB c shW len 29) (YL ps e) (Atom.sl 0 0 len cap) b) := by kernel_rfl
theorem p10c (ps : List Piece) (e : TypeId) (c : Cells) (b : Atom) (len cap i : Nat) : runTo (EP10 c) 1000 (Env.S (EP10 c) 10) (bodyOf Try.prog 10 4) (T10 (Atom.sl 0 0 len cap) b (i : Int)) (MH (rowB c shW len 29) (YL ps e) (Atom.sl 0 0 len cap) b) [false] (T10 (Atom.sl 0 0 len cap) b (i : Int)) 4 =
  some ([decide ((i : Int) < (len : Int)) = false], .exit 0, T10 (Atom.sl 0 0 len cap) b (i : Int), MH (rowB c shW len 29) (YL ps e) (Atom.sl 0 0 len cap) b) := by kernel_rfl
theorem x10y (X : Blk) (c : Cells) (a : Atom) (len cap : Nat) (j : Int) (i : Nat) : runTo (EX10 c) 1000 (Env.S (EX10 c) 10) (bodyOf Try.prog 10 15) (X10 a (Atom.sl 1 0 len cap) j (i : Int)) (MH X (rowB c shX len 9) a (Atom.sl 1 0 len cap)) [true, true, false, false] (X10 a (Atom.sl 1 0 len cap) j ((i : Int) + 1)) 4 =
  some ([decide ((i : Int) < (len : Int)) = true, decide ((i : Int) < (8 : Int)) = true, (0 : Int) ≤ (i : Int) ∧ (i : Int) < (len : Int), LoadsAs Try.prog 9 (rowPs c shX len 0) (0 + i * 1) (.one (.v (.string (sA c (0 + i * 1))))), (0 : Int) ≤ (i : Int) ∧ (i : Int) < (len : Int), LoadsAs Try.prog 9 (rowPs c shX len 0) (0 + i * 1) (.one (.v (.string (sA c (0 + i * 1))))), (!decide (wE (sA c (0 + i * 1)) = wE (sA c (0 + i * 1)))) = false, (!(decide (wX (sA c (0 + i * 1)) % 4294967296 ^ 8 = wX (sA c (0 + i * 1)) % 4294967296 ^ 8) && (decide (wY (sA c (0 + i * 1)) % 4294967296 ^ 8 = wY (sA c (0 + i * 1)) % 4294967296 ^ 8) && (false == false && true)))) = false, inI ((i : Int) + 1)], .normal, X10 a (Atom.sl 1 0 len cap) j ((i : Int) + 1), MH X (rowB c shX len 9) a (Atom.sl 1 0 len cap)) := by kernel_rfl
theorem x10b (X : Blk) (c : Cells) (a : Atom) (len cap : Nat) (j : Int) (i : Nat) : runTo (EX10 c) 1000 (Env.S (EX10 c) 10) (bodyOf Try.prog 10 15) (X10 a (Atom.sl 1 0 len cap) j (i : Int)) (MH X (rowB c shX len 9) a (Atom.sl 1 0 len cap)) [true, false] (X10 a (Atom.sl 1 0 len cap) j (i : Int)) 4 =
  some ([decide ((i : Int) < (len : Int)) = true, decide ((i : Int) < (8 : Int)) = false], .exit 2, X10 a (Atom.sl 1 0 len cap) j (i : Int), MH X (rowB c shX len 9) a (Atom.sl 1 0 len cap)) := by kernel_rfl
theorem x10c (X : Blk) (c : Cells) (a : Atom) (len cap : Nat) (j : Int) (i : Nat) : runTo (EX10 c) 1000 (Env.S (EX10 c) 10) (bodyOf Try.prog 10 15) (X10 a (Atom.sl 1 0 len cap) j (i : Int)) (MH X (rowB c shX len 9) a (Atom.sl 1 0 len cap)) [false] (X10 a (Atom.sl 1 0 len cap) j (i : Int)) 4 =
  some ([decide ((i : Int) < (len : Int)) = false], .exit 2, X10 a (Atom.sl 1 0 len cap) j (i : Int), MH X (rowB c shX len 9) a (Atom.sl 1 0 len cap)) := by kernel_rfl
end Go.Ev

namespace Go.Ev
open Go Go.Proofs Go.RowKit
theorem rowW_ok {c : Cells} {len i : Nat} (hi : i < len) (ho : All (rowOb c shW len 0)) : nA c (0 + i * 50) < 4294967296 ^ 8 ∧ nA c (0 + i * 50 + 8) < 4294967296 ^ 8 := by
  have h := rowOb_at c shW len i 0 hi ho
  obtain ⟨a, b, _⟩ := h
  exact ⟨a, b⟩
theorem neb_self (s : ByteArray) : (!(s.toList == s.toList)) = false := by simp
theorem turn10 {c : Cells} {b : Atom} {ps : List Piece} {e : TypeId} (hY : Free (YL ps e)) (hb : isO 1 b) {len cap i : Nat} (hi : i < len) (h3 : i < 3) (ho : All (rowOb c shW len 0)) :
    Goes Try.prog (bodyOf Try.prog 10 4) .normal (T10 (.sl 0 0 len cap) b (i : Int)) (MH (rowB c shW len 29) (YL ps e) (.sl 0 0 len cap) b) (T10 (.sl 0 0 len cap) b ((i : Int) + 1)) (MH (rowB c shW len 29) (YL ps e) (.sl 0 0 len cap) b) := by
  obtain ⟨hx, hy⟩ := rowW_ok hi ho
  have hii : (0 : Int) ≤ (i : Int) ∧ (i : Int) < (len : Int) := by omega
  have hd1 : decide ((i : Int) < (len : Int)) = true := decide_eq_true (by omega)
  have hd2 : decide ((i : Int) < (3 : Int)) = true := decide_eq_true (by omega)
  have hin : inI ((i : Int) + 1) := by unfold inI; omega
  have hw := wfT10 (X := rowB c shW len 29) (Y := YL ps e) (i := (i : Int) + 1) (rowB_free _ _ _ _) hY (.inr ⟨len, cap, rfl⟩) hb
  have hld := ld27 (c := c) hi
  generalize hX : nA c (0 + i * 50) = x at *
  generalize hYy : nA c (0 + i * 50 + 8) = y at *
  generalize hI : bA c (0 + i * 50 + 8 + 8) = w at *
  have bad : mayS x y w = false → (!decide (pkE x y w = 7)) = false ∧ (!((pkW x y w).toList == (ByteArray.mk #[]).toList)) = false ∧ (!((lgW x y w).toList == (ByteArray.mk #[]).toList)) = false := by
    intro hm
    have e1 : pkE x y w = 7 := by unfold pkE; rw [hm, cond_false]
    have e2 : pkW x y w = ⟨#[]⟩ := by unfold pkW; rw [hm, cond_false]
    have e3 : lgW x y w = ⟨#[]⟩ := by unfold lgW; rw [hm, cond_false]
    rw [e1, e2, e3]
    exact ⟨by decide, neb_self _, neb_self _⟩
  cases hon : onS x y w with
  | true =>
    cases hwi : w with
    | false =>
      have hm : mayS x y w = true := by unfold mayS; rw [hon, hwi]; rfl
      have e1 : pkE x y w = 0 := by unfold pkE; rw [hm, cond_true]
      have e2 : pkW x y w = packW x y := by unfold pkW; rw [hm, cond_true]
      have e3 : lgW x y w = longW x y := by unfold lgW; rw [hm, cond_true]
      have hz : (!decide (pkE x y w = 0)) = false := by rw [e1]; rfl
      exact Runs.goes (envEP10 c) ⟨_, _, p10y ps e c b len cap i, ⟨hd1, hd2, hii, hld, hX ▸ hx, hYy ▸ hy, hX ▸ hx, hYy ▸ hy, by rw [hX, hYy, hI]; exact hon, hX ▸ hx, hYy ▸ hy, by rw [hI, hwi]; rfl, hX ▸ hx, hYy ▸ hy, hX ▸ hx, hYy ▸ hy, by rw [hX, hYy, hI]; exact hz, by rw [hX, hYy, hI]; exact hz, by rw [hX, hYy, hI, e2]; exact neb_self _, by rw [hX, hYy, hI, e3]; exact neb_self _, hin, trivial⟩, hw⟩
    | true =>
      obtain ⟨b1, b2, b3⟩ := bad (by unfold mayS; rw [hwi, Bool.not_true, Bool.and_false])
      exact Runs.goes (envEP10 c) ⟨_, _, p10m ps e c b len cap i, ⟨hd1, hd2, hii, hld, hX ▸ hx, hYy ▸ hy, hX ▸ hx, hYy ▸ hy, by rw [hX, hYy, hI]; exact hon, hX ▸ hx, hYy ▸ hy, by rw [hI, hwi]; rfl, by rw [hX, hYy, hI]; exact b1, by rw [hX, hYy, hI]; exact b1, by rw [hX, hYy, hI]; exact b2, by rw [hX, hYy, hI]; exact b3, hin, trivial⟩, hw⟩
  | false =>
    obtain ⟨b1, b2, b3⟩ := bad (by unfold mayS; rw [hon, Bool.false_and])
    exact Runs.goes (envEP10 c) ⟨_, _, p10n ps e c b len cap i, ⟨hd1, hd2, hii, hld, hX ▸ hx, hYy ▸ hy, hX ▸ hx, hYy ▸ hy, by rw [hX, hYy, hI]; exact hon, hX ▸ hx, hYy ▸ hy, by rw [hX, hYy, hI]; exact b1, by rw [hX, hYy, hI]; exact b1, by rw [hX, hYy, hI]; exact b2, by rw [hX, hYy, hI]; exact b3, hin, trivial⟩, hw⟩
theorem loopP10 {c : Cells} {b : Atom} {ps : List Piece} {e : TypeId} (hY : Free (YL ps e)) (hb : isO 1 b) {len cap : Nat} (ho : All (rowOb c shW len 0)) : ∀ (k i : Nat), i + k = min len 3 → GoesN Try.prog (bodyOf Try.prog 10 4) (k + 1) (.exit 0) (T10 (.sl 0 0 len cap) b (i : Int)) (MH (rowB c shW len 29) (YL ps e) (.sl 0 0 len cap) b) (T10 (.sl 0 0 len cap) b ((min len 3 : Nat) : Int)) (MH (rowB c shW len 29) (YL ps e) (.sl 0 0 len cap) b)
  | 0, i, hk => by
    have hw := wfT10 (X := rowB c shW len 29) (Y := YL ps e) (i := (i : Int)) (rowB_free _ _ _ _) hY (.inr ⟨len, cap, rfl⟩) hb
    have e' : i = min len 3 := by omega
    by_cases hi : i < len
    · rw [← e']
      exact GoesN.out (by simp) (Runs.goes (envEP10 c) ⟨_, _, p10b ps e c b len cap i, ⟨decide_eq_true (by omega), decide_eq_false (by omega), trivial⟩, hw⟩)
    · rw [← e']
      exact GoesN.out (by simp) (Runs.goes (envEP10 c) ⟨_, _, p10c ps e c b len cap i, ⟨decide_eq_false (by omega), trivial⟩, hw⟩)
  | k + 1, i, hk => by
    have ih := loopP10 (c := c) (len := len) (cap := cap) hY hb ho k (i + 1) (by omega)
    rw [show ((i + 1 : Nat) : Int) = (i : Int) + 1 by omega] at ih
    exact GoesN.cons rfl (turn10 (i := i) hY hb (by omega) (by omega) ho) ih
noncomputable def sumP10 (c : Cells) (ps : List Piece) (e : TypeId) (b : Atom) (len cap : Nat) : List AV → List Blk → List Bool → CoR := sumC (T10 (.sl 0 0 len cap) b ((0 : Nat) : Int)) (MH (rowB c shW len 29) (YL ps e) (.sl 0 0 len cap) b) (T10 (.sl 0 0 len cap) b ((min len 3 : Nat) : Int)) (MH (rowB c shW len 29) (YL ps e) (.sl 0 0 len cap) b) (.exit 0)
theorem sumP10_ok {c : Cells} {b : Atom} {ps : List Piece} {e : TypeId} (hY : Free (YL ps e)) (hb : isO 1 b) {len cap : Nat} (ho : All (rowOb c shW len 0)) : SumOK Try.prog (.loop (bodyOf Try.prog 10 4)) (sumP10 c ps e b len cap) :=
  sumC_ok rfl (loopP10 hY hb ho (min len 3) 0 (by omega)).loop
theorem turnX {c : Cells} {a : Atom} {X : Blk} (hX : Free X) (ha : isO 0 a) {len cap i : Nat} (j : Int) (hi : i < len) (h3 : i < 8) :
    Goes Try.prog (bodyOf Try.prog 10 15) .normal (X10 a (.sl 1 0 len cap) j (i : Int)) (MH X (rowB c shX len 9) a (.sl 1 0 len cap)) (X10 a (.sl 1 0 len cap) j ((i : Int) + 1)) (MH X (rowB c shX len 9) a (.sl 1 0 len cap)) := by
  have hii : (0 : Int) ≤ (i : Int) ∧ (i : Int) < (len : Int) := by omega
  have hd1 : decide ((i : Int) < (len : Int)) = true := decide_eq_true (by omega)
  have hd2 : decide ((i : Int) < (8 : Int)) = true := decide_eq_true (by omega)
  have hin : inI ((i : Int) + 1) := by unfold inI; omega
  have hw := wfX10 (X := X) (Y := rowB c shX len 9) (j := j) (i := (i : Int) + 1) hX (rowB_free _ _ _ _) ha (.inr ⟨len, cap, rfl⟩)
  have hld := ld9 (c := c) hi
  exact Runs.goes (envEX10 c) ⟨_, _, x10y X c a len cap j i, ⟨hd1, hd2, hii, hld, hii, hld, by simp, by simp, hin, trivial⟩, hw⟩
theorem loopX {c : Cells} {a : Atom} {X : Blk} (hX : Free X) (ha : isO 0 a) {len cap : Nat} (j : Int) : ∀ (k i : Nat), i + k = min len 8 → GoesN Try.prog (bodyOf Try.prog 10 15) (k + 1) (.exit 2) (X10 a (.sl 1 0 len cap) j (i : Int)) (MH X (rowB c shX len 9) a (.sl 1 0 len cap)) (X10 a (.sl 1 0 len cap) j ((min len 8 : Nat) : Int)) (MH X (rowB c shX len 9) a (.sl 1 0 len cap))
  | 0, i, hk => by
    have hw := wfX10 (X := X) (Y := rowB c shX len 9) (j := j) (i := (i : Int)) hX (rowB_free _ _ _ _) ha (.inr ⟨len, cap, rfl⟩)
    have e : i = min len 8 := by omega
    by_cases hi : i < len
    · rw [← e]
      exact GoesN.out (by simp) (Runs.goes (envEX10 c) ⟨_, _, x10b X c a len cap j i, ⟨decide_eq_true (by omega), decide_eq_false (by omega), trivial⟩, hw⟩)
    · rw [← e]
      exact GoesN.out (by simp) (Runs.goes (envEX10 c) ⟨_, _, x10c X c a len cap j i, ⟨decide_eq_false (by omega), trivial⟩, hw⟩)
  | k + 1, i, hk => by
    have ih := loopX (c := c) (X := X) (len := len) (cap := cap) hX ha j k (i + 1) (by omega)
    rw [show ((i + 1 : Nat) : Int) = (i : Int) + 1 by omega] at ih
    exact GoesN.cons rfl (turnX (i := i) hX ha j (by omega) (by omega)) ih
noncomputable def sumX (c : Cells) (X : Blk) (a : Atom) (len cap : Nat) (j : Int) : List AV → List Blk → List Bool → CoR := sumC (X10 a (.sl 1 0 len cap) j ((0 : Nat) : Int)) (MH X (rowB c shX len 9) a (.sl 1 0 len cap)) (X10 a (.sl 1 0 len cap) j ((min len 8 : Nat) : Int)) (MH X (rowB c shX len 9) a (.sl 1 0 len cap)) (.exit 2)
theorem sumX_ok {c : Cells} {a : Atom} {X : Blk} (hX : Free X) (ha : isO 0 a) {len cap : Nat} (j : Int) : SumOK Try.prog (.loop (bodyOf Try.prog 10 15)) (sumX c X a len cap j) :=
  sumC_ok rfl (loopX hX ha j (min len 8) 0 (by omega)).loop
end Go.Ev

namespace Go.Ev
open Go Go.Proofs Go.RowKit
def dropM : Option (List Prop × List Bool × AV × List Blk) → Option (List Prop × AV)
  | some (o, _, r, _) => some (o, r)
  | none => none
theorem dropM_some {x : Option (List Prop × List Bool × AV × List Blk)} {o : List Prop} {r : AV} (h : dropM x = some (o, r)) : ∃ c m, x = some (o, c, r, m) := by
  unfold dropM at h
  split at h
  · rename_i o' c r' m
    simp only [Option.some.injEq, Prod.mk.injEq] at h
    obtain ⟨rfl, rfl⟩ := h
    exact ⟨c, m, rfl⟩
  · simp at h
theorem law_runMD {E : Env} (hE : EnvOK E) {n : Nat} {f : FuncId} {v : V1} {M : List Blk} {c : List Bool} {ob : List Prop}
    (h : dropM (callBy E (evalC E n) f [v] M c) = some (ob, bV true)) (ho : All ob) {w : World} {φ : Loc} (hm : MRel w φ M w) (hv : v.wf M.length = true) :
    Calls E.P f #[v.conc φ] w (Trues w) := by
  obtain ⟨c', m', h'⟩ := dropM_some h
  exact law_runM hE h' ho hm hv
abbrev thereB : Blk := YL [] 0
noncomputable def E10z : Env := mkE LPq S10
theorem envE10z : EnvOK E10z := envMk LPq_ok _
noncomputable def FH00 : Env := E10z
noncomputable def FE00 : Env := FH00
theorem l10k00 : dropM (callBy FE00 (evalC FE00 1000) 10 [V1.agg [.a (.v (.slice none 0 0)), .a (.v (.slice none 0 0))]] [deadB, deadB] [false, false, false, false]) =
  some ([inI (((0 : Nat) : Int) + ((0 : Nat) : Int)), decide ((0 : Int) < ((0 : Nat) : Int)) = false, decide ((4000 : Int) < (((0 : Nat) : Int) + ((0 : Nat) : Int))) = false, decide ((0 : Int) < ((0 : Nat) : Int)) = false, decide ((0 : Int) < ((0 : Nat) : Int)) = false], bV true) := by kernel_rfl
noncomputable def FH01 (cB : Cells) (lB kB : Nat) : Env := addL E10z 3 (bodyOf Try.prog 29 3) (sumH deadB cB (.v (.slice none 0 0)) lB kB ((lB : Int) + ((0 : Nat) : Int)))
noncomputable def FE01 (cB : Cells) (lB kB : Nat) : Env := (addL (FH01 cB lB kB) 15 (bodyOf Try.prog 10 15) (sumX cB deadB (.v (.slice none 0 0)) lB kB (0 : Int)))
theorem l10h01 (cB : Cells) (lB kB : Nat) : dropM (callBy (FH01 cB lB kB) (evalC (FH01 cB lB kB) 1000) 10 [V1.agg [.a (.v (.slice none 0 0)), .a (.sl 1 0 lB kB)]] [deadB, rowB cB shX lB 9] [true]) =
  some ([inI ((lB : Int) + ((0 : Nat) : Int)), bodyOf Try.prog 29 3 = bodyOf Try.prog 29 3, (TH (.v (.slice none 0 0)) (.sl 1 0 lB kB) ((lB : Int) + ((0 : Nat) : Int)) ((0 : Nat) : Int), (MH deadB (rowB cB shX lB 9) (.v (.slice none 0 0)) (.sl 1 0 lB kB))) = (TH (.v (.slice none 0 0)) (.sl 1 0 lB kB) ((lB : Int) + ((0 : Nat) : Int)) ((0 : Nat) : Int), (MH deadB (rowB cB shX lB 9) (.v (.slice none 0 0)) (.sl 1 0 lB kB))), wfS (TH (.v (.slice none 0 0)) (.sl 1 0 lB kB) ((lB : Int) + ((0 : Nat) : Int)) ((0 : Nat) : Int)) (MH deadB (rowB cB shX lB 9) (.v (.slice none 0 0)) (.sl 1 0 lB kB)) = true, decide ((4000 : Int) < hv cB lB 0 ((lB : Int) + ((0 : Nat) : Int))) = true], bV true) := by kernel_rfl
theorem l10k01 (cB : Cells) (lB kB : Nat) : dropM (callBy (FE01 cB lB kB) (evalC (FE01 cB lB kB) 1000) 10 [V1.agg [.a (.v (.slice none 0 0)), .a (.sl 1 0 lB kB)]] [deadB, rowB cB shX lB 9] [false, false]) =
  some ([inI ((lB : Int) + ((0 : Nat) : Int)), bodyOf Try.prog 29 3 = bodyOf Try.prog 29 3, (TH (.v (.slice none 0 0)) (.sl 1 0 lB kB) ((lB : Int) + ((0 : Nat) : Int)) ((0 : Nat) : Int), (MH deadB (rowB cB shX lB 9) (.v (.slice none 0 0)) (.sl 1 0 lB kB))) = (TH (.v (.slice none 0 0)) (.sl 1 0 lB kB) ((lB : Int) + ((0 : Nat) : Int)) ((0 : Nat) : Int), (MH deadB (rowB cB shX lB 9) (.v (.slice none 0 0)) (.sl 1 0 lB kB))), wfS (TH (.v (.slice none 0 0)) (.sl 1 0 lB kB) ((lB : Int) + ((0 : Nat) : Int)) ((0 : Nat) : Int)) (MH deadB (rowB cB shX lB 9) (.v (.slice none 0 0)) (.sl 1 0 lB kB)) = true, decide ((4000 : Int) < hv cB lB 0 ((lB : Int) + ((0 : Nat) : Int))) = false, decide ((0 : Int) < ((0 : Nat) : Int)) = false, bodyOf Try.prog 10 15 = bodyOf Try.prog 10 15, (X10 (.v (.slice none 0 0)) (.sl 1 0 lB kB) (0 : Int) ((0 : Nat) : Int), (MH deadB (rowB cB shX lB 9) (.v (.slice none 0 0)) (.sl 1 0 lB kB))) = (X10 (.v (.slice none 0 0)) (.sl 1 0 lB kB) (0 : Int) ((0 : Nat) : Int), (MH deadB (rowB cB shX lB 9) (.v (.slice none 0 0)) (.sl 1 0 lB kB))), wfS (X10 (.v (.slice none 0 0)) (.sl 1 0 lB kB) (0 : Int) ((0 : Nat) : Int)) (MH deadB (rowB cB shX lB 9) (.v (.slice none 0 0)) (.sl 1 0 lB kB)) = true], bV true) := by kernel_rfl
noncomputable def FH10 (cA : Cells) (lA kA : Nat) : Env := E10z
noncomputable def FE10 (cA : Cells) (lA kA : Nat) : Env := (addL (FH10 cA lA kA) 4 (bodyOf Try.prog 10 4) (sumP10 cA [] 0 (.v (.slice none 0 0)) lA kA))
theorem l10h10 (cA : Cells) (lA kA : Nat) : dropM (callBy (FH10 cA lA kA) (evalC (FH10 cA lA kA) 1000) 10 [V1.agg [.a (.sl 0 0 lA kA), .a (.v (.slice none 0 0))]] [rowB cA shW lA 29, thereB] [false, true]) =
  some ([inI (((0 : Nat) : Int) + (lA : Int)), decide ((0 : Int) < ((0 : Nat) : Int)) = false, decide ((4000 : Int) < (((0 : Nat) : Int) + (lA : Int))) = true], bV true) := by kernel_rfl
theorem l10k10 (cA : Cells) (lA kA : Nat) : dropM (callBy (FE10 cA lA kA) (evalC (FE10 cA lA kA) 1000) 10 [V1.agg [.a (.sl 0 0 lA kA), .a (.v (.slice none 0 0))]] [rowB cA shW lA 29, thereB] [false, false, false]) =
  some ([inI (((0 : Nat) : Int) + (lA : Int)), decide ((0 : Int) < ((0 : Nat) : Int)) = false, decide ((4000 : Int) < (((0 : Nat) : Int) + (lA : Int))) = false, bodyOf Try.prog 10 4 = bodyOf Try.prog 10 4, (T10 (.sl 0 0 lA kA) (.v (.slice none 0 0)) ((0 : Nat) : Int), (MH (rowB cA shW lA 29) thereB (.sl 0 0 lA kA) (.v (.slice none 0 0)))) = (T10 (.sl 0 0 lA kA) (.v (.slice none 0 0)) ((0 : Nat) : Int), (MH (rowB cA shW lA 29) thereB (.sl 0 0 lA kA) (.v (.slice none 0 0)))), wfS (T10 (.sl 0 0 lA kA) (.v (.slice none 0 0)) ((0 : Nat) : Int)) (MH (rowB cA shW lA 29) thereB (.sl 0 0 lA kA) (.v (.slice none 0 0))) = true, decide ((0 : Int) < ((0 : Nat) : Int)) = false], bV true) := by kernel_rfl
noncomputable def FH11 (cA : Cells) (lA kA : Nat) (cB : Cells) (lB kB : Nat) : Env := addL E10z 3 (bodyOf Try.prog 29 3) (sumH (rowB cA shW lA 29) cB (.sl 0 0 lA kA) lB kB ((lB : Int) + (lA : Int)))
noncomputable def FE11 (cA : Cells) (lA kA : Nat) (cB : Cells) (lB kB : Nat) : Env := (addL (addL (FH11 cA lA kA cB lB kB) 4 (bodyOf Try.prog 10 4) (sumP10 cA (rowPs cB shX lB 0) 9 (.sl 1 0 lB kB) lA kA)) 15 (bodyOf Try.prog 10 15) (sumX cB (rowB cA shW lA 29) (.sl 0 0 lA kA) lB kB ((min lA 3 : Nat) : Int)))
theorem l10h11 (cA : Cells) (lA kA : Nat) (cB : Cells) (lB kB : Nat) : dropM (callBy (FH11 cA lA kA cB lB kB) (evalC (FH11 cA lA kA cB lB kB) 1000) 10 [V1.agg [.a (.sl 0 0 lA kA), .a (.sl 1 0 lB kB)]] [rowB cA shW lA 29, rowB cB shX lB 9] [true]) =
  some ([inI ((lB : Int) + (lA : Int)), bodyOf Try.prog 29 3 = bodyOf Try.prog 29 3, (TH (.sl 0 0 lA kA) (.sl 1 0 lB kB) ((lB : Int) + (lA : Int)) ((0 : Nat) : Int), (MH (rowB cA shW lA 29) (rowB cB shX lB 9) (.sl 0 0 lA kA) (.sl 1 0 lB kB))) = (TH (.sl 0 0 lA kA) (.sl 1 0 lB kB) ((lB : Int) + (lA : Int)) ((0 : Nat) : Int), (MH (rowB cA shW lA 29) (rowB cB shX lB 9) (.sl 0 0 lA kA) (.sl 1 0 lB kB))), wfS (TH (.sl 0 0 lA kA) (.sl 1 0 lB kB) ((lB : Int) + (lA : Int)) ((0 : Nat) : Int)) (MH (rowB cA shW lA 29) (rowB cB shX lB 9) (.sl 0 0 lA kA) (.sl 1 0 lB kB)) = true, decide ((4000 : Int) < hv cB lB 0 ((lB : Int) + (lA : Int))) = true], bV true) := by kernel_rfl
theorem l10k11 (cA : Cells) (lA kA : Nat) (cB : Cells) (lB kB : Nat) : dropM (callBy (FE11 cA lA kA cB lB kB) (evalC (FE11 cA lA kA cB lB kB) 1000) 10 [V1.agg [.a (.sl 0 0 lA kA), .a (.sl 1 0 lB kB)]] [rowB cA shW lA 29, rowB cB shX lB 9] [false]) =
  some ([inI ((lB : Int) + (lA : Int)), bodyOf Try.prog 29 3 = bodyOf Try.prog 29 3, (TH (.sl 0 0 lA kA) (.sl 1 0 lB kB) ((lB : Int) + (lA : Int)) ((0 : Nat) : Int), (MH (rowB cA shW lA 29) (rowB cB shX lB 9) (.sl 0 0 lA kA) (.sl 1 0 lB kB))) = (TH (.sl 0 0 lA kA) (.sl 1 0 lB kB) ((lB : Int) + (lA : Int)) ((0 : Nat) : Int), (MH (rowB cA shW lA 29) (rowB cB shX lB 9) (.sl 0 0 lA kA) (.sl 1 0 lB kB))), wfS (TH (.sl 0 0 lA kA) (.sl 1 0 lB kB) ((lB : Int) + (lA : Int)) ((0 : Nat) : Int)) (MH (rowB cA shW lA 29) (rowB cB shX lB 9) (.sl 0 0 lA kA) (.sl 1 0 lB kB)) = true, decide ((4000 : Int) < hv cB lB 0 ((lB : Int) + (lA : Int))) = false, bodyOf Try.prog 10 4 = bodyOf Try.prog 10 4, (T10 (.sl 0 0 lA kA) (.sl 1 0 lB kB) ((0 : Nat) : Int), (MH (rowB cA shW lA 29) (rowB cB shX lB 9) (.sl 0 0 lA kA) (.sl 1 0 lB kB))) = (T10 (.sl 0 0 lA kA) (.sl 1 0 lB kB) ((0 : Nat) : Int), (MH (rowB cA shW lA 29) (rowB cB shX lB 9) (.sl 0 0 lA kA) (.sl 1 0 lB kB))), wfS (T10 (.sl 0 0 lA kA) (.sl 1 0 lB kB) ((0 : Nat) : Int)) (MH (rowB cA shW lA 29) (rowB cB shX lB 9) (.sl 0 0 lA kA) (.sl 1 0 lB kB)) = true, bodyOf Try.prog 10 15 = bodyOf Try.prog 10 15, (X10 (.sl 0 0 lA kA) (.sl 1 0 lB kB) ((min lA 3 : Nat) : Int) ((0 : Nat) : Int), (MH (rowB cA shW lA 29) (rowB cB shX lB 9) (.sl 0 0 lA kA) (.sl 1 0 lB kB))) = (X10 (.sl 0 0 lA kA) (.sl 1 0 lB kB) ((min lA 3 : Nat) : Int) ((0 : Nat) : Int), (MH (rowB cA shW lA 29) (rowB cB shX lB 9) (.sl 0 0 lA kA) (.sl 1 0 lB kB))), wfS (X10 (.sl 0 0 lA kA) (.sl 1 0 lB kB) ((min lA 3 : Nat) : Int) ((0 : Nat) : Int)) (MH (rowB cA shW lA 29) (rowB cB shX lB 9) (.sl 0 0 lA kA) (.sl 1 0 lB kB)) = true], bV true) := by kernel_rfl
end Go.Ev

namespace Go.Ev
open Go Go.Proofs Go.RowKit
def fP : Field := { name := "P", type := 22, offset := 0, embedded := false, tag := "", pkgPath := "", byteOffset := 0 }
def fX : Field := { name := "X", type := 54, offset := 1, embedded := false, tag := "", pkgPath := "", byteOffset := 24 }
theorem u56 : Try.prog.underlying 56 = some (.struct #[fP, fX]) := by kernel_rfl
theorem ct56 : Try.prog.cellTypes Try.prog.depth 56 = some [fP.type, fX.type] := by kernel_rfl
theorem c22 : Try.prog.cellsOf fP.type = 1 := by kernel_rfl
theorem c54 : Try.prog.cellsOf fX.type = 1 := by kernel_rfl
theorem c56 : Try.prog.cellsOf 56 = 2 := by kernel_rfl
theorem uP : Try.prog.underlying fP.type = some (.slice 29) := by kernel_rfl
theorem uX : Try.prog.underlying fX.type = some (.slice 9) := by kernel_rfl
theorem k9 : kindsT Try.prog 20 9 = some (shKs shX) := by kernel_rfl
theorem s9 : sizeA Try.prog 9 = some (shSz shX) := by kernel_rfl
theorem b29 : 0 < Try.prog.bytesOf 29 := of_decide_eq_true (by kernel_rfl)
theorem b9 : 0 < Try.prog.bytesOf 9 := of_decide_eq_true (by kernel_rfl)
theorem rd56 : Try.prog.readableRec 56 = true := by kernel_rfl
theorem row56 : (56 : Nat) < Try.prog.types.size := of_decide_eq_true (by kernel_rfl)
theorem deadB_free : Free deadB := fun _ => rfl
theorem isOn (i : Nat) : isO i (.v (.slice none 0 0)) := .inl rfl
theorem isOs (i l k : Nat) : isO i (.sl i 0 l k) := .inr ⟨l, k, rfl⟩
theorem inI0 {x y : Nat} (hx : x ≤ BB) (hy : y ≤ BB) : inI ((x : Int) + (y : Int)) := by
  have := BB_lt
  unfold inI; omega
theorem k29w : kindsT Try.prog 20 29 = some (shKs shW) := by kernel_rfl
theorem s29w : sizeA Try.prog 29 = some (shSz shW) := by kernel_rfl
/-- a slice that is none needs no block: let one stand for it, beside the other's. -/
theorem mrel_there {w : World} {φ : Loc} {c : Cells} {sh : List SK} {l : Nat} {e : TypeId} (h : MRel w φ [rowB c sh l e, deadB] w) : MRel w (fun _ => φ 0) [rowB c sh l e, thereB] w := by
  have h0 := h.old 0 _ rfl rfl rfl
  have two : ∀ (i : Nat) (b : Blk), ([rowB c sh l e, thereB] : List Blk)[i]? = some b → (i = 0 ∧ b = rowB c sh l e) ∨ (i = 1 ∧ b = thereB) := by
    intro i b h
    match i, h with
    | 0, h => simp only [List.getElem?_cons_zero, Option.some.injEq] at h; exact .inl ⟨rfl, h.symm⟩
    | 1, h => simp only [List.getElem?_cons_succ, List.getElem?_cons_zero, Option.some.injEq] at h; exact .inr ⟨rfl, h.symm⟩
    | i + 2, h => simp at h
  have ro : ∀ (i : Nat) (b : Blk), ([rowB c sh l e, thereB] : List Blk)[i]? = some b → b.ro = false → False := by
    intro i b h hro
    rcases two i b h with ⟨_, rfl⟩ | ⟨_, rfl⟩ <;> cases hro
  refine ⟨h.below, ?_, ?_, ?_, ?_, ?_⟩
  · intro i j b1 b2 hb1 _ _ _ hro _ _
    exact (ro i b1 hb1 hro).elim
  · intro i b1 hb1 _ hro
    exact (ro i b1 hb1 hro).elim
  · intro i b1 hb1 _ _
    rcases two i b1 hb1 with ⟨rfl, rfl⟩ | ⟨rfl, rfl⟩
    · refine ⟨h0.1, fun j v hv => h0.2 j v ?_⟩
      rw [concs_agree (n := 0) (φ := fun _ => φ 0) (φ' := φ) (fun i hi => absurd hi (Nat.not_lt_zero i)) _ (rowB_fr _ _ _ _ _)]
      exact hv
    · exact ⟨h0.1, fun j v hv => by simp [concs] at hv⟩
  · intro i b1 hb1 _ hro
    exact (ro i b1 hb1 hro).elim
  · intro i b1 hb1
    rcases two i b1 hb1 with ⟨_, rfl⟩ | ⟨_, rfl⟩
    · exact rowB_fr _ _ _ _ _
    · rfl
theorem there_free : Free thereB := fun _ => rfl
theorem row_YL (c : Cells) (l : Nat) : Free (YL (rowPs c shX l 0) 9) := fun f => row_free c shX f l 0
set_option maxRecDepth 100000 in
theorem law10 {H : Type} {enc : TypeId × Value → H} {r : Reach} {W : World} {base : Nat} {v : Value} {d : DataW H} {ps : List MemPlace} (hval : Value.okWide Try.prog W r base 56 v) (h : DataW.Trod enc Try.prog W 0 (fun _ => true) true 56 v d ps) (hwt : ∀ n ∈ d.weights Try.prog 56, n ≤ BB) :
    Calls Try.prog 10 #[v] W (Trues W) := by
  refine two_calls shW shX (DA := 20) (DB := 20) (B := BB) (Q := Trues) u56 rfl rfl ct56 c22 c54 c56 uP k29w s29w b29 uX k9 s9 b9 ?_ hval h hwt
  intro cA cB oA oB kA kB w φ hm
  have h00 : (0 : Nat) ≤ BB := Nat.zero_le _
  cases oA with
  | none =>
    cases oB with
    | none => exact law_runMD envE10z l10k00 ⟨inI0 h00 h00, by decide, by decide, by decide, by decide, trivial⟩ hm rfl
    | some x =>
      obtain ⟨lB, kB'⟩ := x
      obtain ⟨_, _, _, hlB, hBB⟩ := kB
      have hH : EnvOK (FH01 cB lB kB') := envAddL envE10z (sumH_ok deadB_free (isOn 0) lB kB' _ (by omega) hBB hlB)
      have hE : EnvOK (FE01 cB lB kB') := envAddL hH (sumX_ok deadB_free (isOn 0) _)
      by_cases hh : (4000 : Int) < hv cB lB 0 ((lB : Int) + ((0 : Nat) : Int))
      · exact law_runMD hH (l10h01 cB lB kB') ⟨inI0 hlB h00, rfl, rfl, wfTH deadB_free (rowB_free _ _ _ _) (isOn 0) (isOs 1 _ _), decide_eq_true hh, trivial⟩ hm rfl
      · exact law_runMD hE (l10k01 cB lB kB') ⟨inI0 hlB h00, rfl, rfl, wfTH deadB_free (rowB_free _ _ _ _) (isOn 0) (isOs 1 _ _), decide_eq_false hh, by decide, rfl, rfl, wfX10 deadB_free (rowB_free _ _ _ _) (isOn 0) (isOs 1 _ _), trivial⟩ hm rfl
  | some y =>
    obtain ⟨lA, kA'⟩ := y
    obtain ⟨_, _, hoA, hlA, _⟩ := kA
    cases oB with
    | none =>
      have hm' := mrel_there hm
      have hE : EnvOK (FE10 cA lA kA') := envAddL envE10z (sumP10_ok there_free (isOn 1) hoA)
      by_cases hh : (4000 : Int) < ((0 : Nat) : Int) + (lA : Int)
      · have q := law_runMD envE10z (l10h10 cA lA kA') ⟨inI0 h00 hlA, by decide, decide_eq_true hh, trivial⟩ hm' rfl
        exact q
      · have q := law_runMD hE (l10k10 cA lA kA') ⟨inI0 h00 hlA, by decide, decide_eq_false hh, rfl, rfl, wfT10 (rowB_free _ _ _ _) there_free (isOs 0 _ _) (isOn 1), by decide, trivial⟩ hm' rfl
        exact q
    | some x =>
      obtain ⟨lB, kB'⟩ := x
      obtain ⟨_, _, _, hlB, hBB⟩ := kB
      have hH : EnvOK (FH11 cA lA kA' cB lB kB') := envAddL envE10z (sumH_ok (rowB_free _ _ _ _) (isOs 0 _ _) lB kB' _ (by omega) hBB hlB)
      have hE : EnvOK (FE11 cA lA kA' cB lB kB') := envAddL (envAddL hH (sumP10_ok (row_YL _ _) (isOs 1 _ _) hoA)) (sumX_ok (rowB_free _ _ _ _) (isOs 0 _ _) _)
      by_cases hh : (4000 : Int) < hv cB lB 0 ((lB : Int) + (lA : Int))
      · exact law_runMD hH (l10h11 cA lA kA' cB lB kB') ⟨inI0 hlB hlA, rfl, rfl, wfTH (rowB_free _ _ _ _) (rowB_free _ _ _ _) (isOs 0 _ _) (isOs 1 _ _), decide_eq_true hh, trivial⟩ hm rfl
      · exact law_runMD hE (l10k11 cA lA kA' cB lB kB') ⟨inI0 hlB hlA, rfl, rfl, wfTH (rowB_free _ _ _ _) (rowB_free _ _ _ _) (isOs 0 _ _) (isOs 1 _ _), decide_eq_false hh, rfl, rfl, wfT10 (rowB_free _ _ _ _) (rowB_free _ _ _ _) (isOs 0 _ _) (isOs 1 _ _), rfl, rfl, wfX10 (rowB_free _ _ _ _) (rowB_free _ _ _ _) (isOs 0 _ _) (isOs 1 _ _), trivial⟩ hm rfl
end Go.Ev

