/- T -/
import Derived.Test.YtfdldpoamgeopaaPartC
import Derived.SizedLaws
namespace Go.Ev
open Go Go.Proofs Go.RowKit
def sL : Code → Code | .seq a _ => a | c => c
def sR : Code → Code | .seq _ b => b | c => c
def bC : Code → Code | .block _ b => b | c => c
def rO : Code → Array Oper | .region _ o _ => o | _ => #[]
def fnCode (P : Program) (f : Nat) : Code := match P.funcs[f]? with
  | some fn => match fn.body with | some c => c | none => .skip
  | none => .skip
def opAt (o : Array Oper) (k : Nat) : Oper := match o[k]? with | some x => x | none => ⟨none, .move (.tmp 0), 0, "", #[], none⟩
noncomputable def K6 : Code := fnCode Try.prog 6
noncomputable def B6 : Code := bodyOf Try.prog 6 3
noncomputable def o1 : Array Oper := rO (sL (sR K6))
noncomputable def X6 : Code := sR (sR B6)   -- block ; R9
noncomputable def Y6 : Code := bC (sL X6)   -- R4 ; ((R5 ; C6) ; R8)
noncomputable def o5 : Array Oper := rO (sL (sL (sR Y6)))
noncomputable def C6 : Code := sR (sL (sR Y6))
noncomputable def o8 : Array Oper := rO (sR (sR Y6))
theorem K6_eq : K6 = .seq (sL K6) (.seq (.region 1 o1 false) (.seq (.seq (sL (sL (sR (sR K6)))) (.block 0 (.loop B6))) (sR (sR (sR K6))))) := by kernel_rfl
theorem B6_eq : B6 = .seq (sL B6) (.seq (sL (sR B6)) (.seq (.block 1 (.seq (sL Y6) (.seq (.seq (.region 5 o5 false) C6) (.region 8 o8 false)))) (sR X6))) := by kernel_rfl
def shR : List SK := [.s, .u64, .s, .s]
def MR (c : Cells) (m : Nat) : List Blk := [rowB c shR m 31]
def k5 (c : Cells) (j : Nat) : Blk := ⟨fldPs c shR (0 + j * 4), 31, true, false, 0⟩
def MR5 (c : Cells) (m j : Nat) : List Blk := [rowB c shR m 31, k5 c j]
noncomputable def LR (c : Cells) : List CT := [ldC 31 (fun off => .agg (fldPs c shR off))]
theorem LR_ok (c : Cells) : AllCT (LR c) := ⟨ldC_ok _ _, trivial⟩
noncomputable def SR : FuncId → Nat → Bool := fun f t => match f with | 6 => Nat.beq t 12 || Nat.beq t 13 || Nat.beq t 2000014 || Nat.beq t 28 || Nat.beq t 34 | _ => false
noncomputable def ER (c : Cells) : Env := mkE (LR c) SR
theorem envER (c : Cells) : EnvOK (ER c) := envMk (LR_ok c) _
def mV (b : Nat) : AV := .val (.one (.v (.map (some b))))
def u64V (n : Nat) : AV := .val (.one (.u .u64 n))
def sS' (s : ByteArray) : AV := .val (.one (.v (.string s)))
def TA (n cap : Nat) : List AV := slots 35 [(0, sV' n cap)]
def TB (n cap b : Nat) : List AV := slots 35 [(0, sV' n cap), (3, mV b)]
def TL (n cap b : Nat) (j : Int) : List AV := slots 35 [(0, sV' n cap), (3, mV b), (9, sV' n cap), (10, iV (n : Int)), (11, iV j)]
def TD (n cap b : Nat) (j : Int) (d : Bool) : List AV := slots 35 [(0, sV' n cap), (3, mV b), (9, sV' n cap), (10, iV (n : Int)), (11, iV j), (12, bV d)]
def T4 (n cap b : Nat) (j : Int) : List AV := slots 35 [(0, sV' n cap), (3, mV b), (5, pV 1), (9, sV' n cap), (10, iV (n : Int)), (11, iV j)]
def T5 (n cap b : Nat) (j : Int) (p : ByteArray) : List AV := slots 35 [(0, sV' n cap), (3, mV b), (5, pV 1), (9, sV' n cap), (10, iV (n : Int)), (11, iV j), (16, mV b), (18, sS' p)]
def T6 (n cap b : Nat) (j : Int) (q : Nat) (h : Bool) : List AV := slots 35 [(0, sV' n cap), (3, mV b), (5, pV 1), (6, u64V q), (7, bV h), (9, sV' n cap), (10, iV (n : Int)), (11, iV j)]
def T8 (n cap b : Nat) (j : Int) (p : ByteArray) (x : Nat) : List AV := slots 35 [(0, sV' n cap), (3, mV b), (9, sV' n cap), (10, iV (n : Int)), (11, iV j), (29, mV b), (31, sS' p), (33, u64V x)]
def TF (r : Bool) : List AV := slots 35 [(2, bV r)]
def pth (c : Cells) (j : Nat) : ByteArray := sA c (0 + j * 4)
def cnt (c : Cells) (j : Nat) : Nat := nU c (0 + j * 4 + 1)
theorem rg0 (c : Cells) (m n cap : Nat) : runTo (ER c) 1000 ((ER c).S 6) (sL K6) (vals [V1.one (.sl 0 0 n cap)] ++ undefs 34) (MR c m) [] (TA n cap) 1 = some ([], .normal, TA n cap, MR c m) := by kernel_rfl
theorem rg1 (c : Cells) (m n cap b : Nat) : preTo (ER c) 1000 ((ER c).S 6) o1 [opAt o1 1] (putA (TA n cap) (some 8) (mV b)) (MR c m) [] (TB n cap b) 1 = some ([], TB n cap b, MR c m) := by kernel_rfl
theorem rg2 (c : Cells) (m n cap b : Nat) : runTo (ER c) 1000 ((ER c).S 6) (sL (sL (sR (sR K6)))) (TB n cap b) (MR c m) [] (TL n cap b 0) 1 = some ([], .normal, TL n cap b 0, MR c m) := by kernel_rfl
theorem rg3 (c : Cells) (m n cap b : Nat) (j : Int) (d : Bool) : runTo (ER c) 1000 ((ER c).S 6) (sL B6) (TL n cap b j) (MR c m) [d] (TD n cap b j d) 1 = some ([decide (j < (n : Int)) = d], .normal, TD n cap b j d, MR c m) := by kernel_rfl
theorem rgT (c : Cells) (m n cap b : Nat) (j : Int) : runTo (ER c) 1000 ((ER c).S 6) (sL (sR B6)) (TD n cap b j true) (MR c m) [] (TL n cap b j) 1 = some ([], .normal, TL n cap b j, MR c m) := by kernel_rfl
theorem rgX (c : Cells) (m n cap b : Nat) (j : Int) : runTo (ER c) 1000 ((ER c).S 6) (sL (sR B6)) (TD n cap b j false) (MR c m) [] (TL n cap b j) 1 = some ([], .exit 0, TL n cap b j, MR c m) := by kernel_rfl
theorem rg4 (c : Cells) (m n cap b j : Nat) : runTo (ER c) 1000 ((ER c).S 6) (sL Y6) (TL n cap b (j : Int)) (MR c m) [] (T4 n cap b (j : Int)) 2 =
    some ([(0 : Int) ≤ (j : Int) ∧ (j : Int) < (n : Int), LoadsAs Try.prog 31 (rowPs c shR m 0) (0 + j * 4) (.agg (fldPs c shR (0 + j * 4)))], .normal, T4 n cap b (j : Int), MR5 c m j) := by kernel_rfl
theorem rg5 (c : Cells) (m n cap b j : Nat) : preTo (ER c) 1000 ((ER c).S 6) o5 [opAt o5 0, opAt o5 1, opAt o5 2] (T4 n cap b (j : Int)) (MR5 c m j) [] (T5 n cap b (j : Int) (pth c j)) 2 = some ([], T5 n cap b (j : Int) (pth c j), MR5 c m j) := by kernel_rfl
theorem rg5b (c : Cells) (m n cap b j q : Nat) (h : Bool) (p : ByteArray) : preTo (ER c) 1000 ((ER c).S 6) o5 [opAt o5 4, opAt o5 5, opAt o5 6, opAt o5 7, opAt o5 8] (putA (T5 n cap b (j : Int) p) (some 19) (.tup [.one (.u .u64 q), .one (.v (.bool h))])) (MR5 c m j) [] (T6 n cap b (j : Int) q h) 2 = some ([], T6 n cap b (j : Int) q h, MR5 c m j) := by kernel_rfl
theorem rg6f (c : Cells) (m n cap b j q : Nat) : runTo (ER c) 1000 ((ER c).S 6) C6 (T6 n cap b (j : Int) q false) (MR5 c m j) [false] (T4 n cap b (j : Int)) 2 = some ([false = false], .normal, T4 n cap b (j : Int), MR5 c m j) := by kernel_rfl
theorem rg6n (c : Cells) (m n cap b j q : Nat) : runTo (ER c) 1000 ((ER c).S 6) C6 (T6 n cap b (j : Int) q true) (MR5 c m j) [false] (T4 n cap b (j : Int)) 2 = some ([decide (cnt c j ≤ q) = false], .normal, T4 n cap b (j : Int), MR5 c m j) := by kernel_rfl
theorem rg6r (c : Cells) (m n cap b j q : Nat) : runTo (ER c) 1000 ((ER c).S 6) C6 (T6 n cap b (j : Int) q true) (MR5 c m j) [true] (TF false) 1 = some ([decide (cnt c j ≤ q) = true], .ret, TF false, MR c m) := by kernel_rfl
theorem rg8 (c : Cells) (m n cap b j : Nat) : preTo (ER c) 1000 ((ER c).S 6) o8 [opAt o8 0, opAt o8 1, opAt o8 2, opAt o8 3, opAt o8 4] (T4 n cap b (j : Int)) (MR5 c m j) [] (T8 n cap b (j : Int) (pth c j) (cnt c j)) 2 = some ([], T8 n cap b (j : Int) (pth c j) (cnt c j), MR5 c m j) := by kernel_rfl
theorem rg9 (c : Cells) (m n cap b : Nat) (j : Nat) : runTo (ER c) 1000 ((ER c).S 6) (sR X6) (TL n cap b (j : Int)) (MR c m) [] (TL n cap b ((j : Int) + 1)) 1 = some ([inI ((j : Int) + 1)], .normal, TL n cap b ((j : Int) + 1), MR c m) := by kernel_rfl
theorem rg10 (c : Cells) (m n cap b : Nat) (j : Int) : runTo (ER c) 1000 ((ER c).S 6) (sR (sR (sR K6))) (TL n cap b j) (MR c m) [] (TF true) 1 = some ([], .ret, TF true, MR c m) := by kernel_rfl
end Go.Ev

namespace Go.Ev
open Go Go.Proofs Go.RowKit
theorem und33 : Try.prog.underlying 33 = some (.map 9 29) := by kernel_rfl
theorem und29 : Try.prog.underlying 29 = some (.int .u64) := by kernel_rfl
theorem und9 : Try.prog.underlying 9 = some .string := by kernel_rfl
theorem zero29 (w : World) : (zeroValue 29).run Try.prog w = .ok (.int .u64 0) w := by kernel_rfl
theorem keyed9 : Go.Maps.Keyed Try.prog 9 := Go.Maps.string_keyed und9
noncomputable abbrev R29 : Value → Option (DataW Unit × List MemPlace) := plainElem Try.prog 29
def keyS (s : ByteArray) : Lit := .string s.data.toList
abbrev z64 : DataW Unit := .lit (.int .u64 0)
/-- what the map holds of the first j rows. -/
def InvD (c : Cells) (j : Nat) (D : DataW Unit) : Prop := Maps.IsMap D ∧ ∀ s : ByteArray, (Maps.has D (keyS s) = false ∧ ∀ k, k < j → pth c k ≠ s) ∨ (Maps.has D (keyS s) = true ∧ ∃ k, k < j ∧ pth c k = s ∧ D.atKey (keyS s) z64 = .lit (.int .u64 (cnt c k : Int)) ∧ ∀ i, i < j → pth c i = s → cnt c i ≤ cnt c k)
/-- the counts of each path rise. -/
def RisP (c : Cells) (n : Nat) : Prop := ∀ i, i < n → ∀ k, k < i → pth c k = pth c i → cnt c k < cnt c i
theorem RisP.zero (c : Cells) : RisP c 0 := fun i h => absurd h (Nat.not_lt_zero _)
theorem RisP.le {c : Cells} {m n : Nat} (h : RisP c n) (hm : m ≤ n) : RisP c m := fun i hi => h i (by omega)
theorem RisP.succ {c : Cells} {j : Nat} (h : RisP c j) (hr : ∀ k, k < j → pth c k = pth c j → cnt c k < cnt c j) : RisP c (j + 1) := by
  intro i hi
  by_cases e : i = j
  · subst e; exact hr
  · exact h i (by omega)
theorem InvD.zero (c : Cells) : InvD c 0 (.map []) := ⟨Maps.isMap_empty, fun s => .inl ⟨rfl, fun k h => absurd h (Nat.not_lt_zero _)⟩⟩
theorem keyS_ok (s : ByteArray) : WideAt.IsKeyLit (keyS s) := by
  unfold keyS WideAt.IsKeyLit
  trivial
theorem keyS_ne {s t : ByteArray} (h : s ≠ t) : keyS s ≠ keyS t := by
  intro e
  refine h ?_
  simp only [keyS, Lit.string.injEq] at e
  apply ByteArray.ext
  exact Array.toList_inj.1 e
theorem InvD.put {c : Cells} {j : Nat} {D : DataW Unit} (h : InvD c j D) (hr : ∀ k, k < j → pth c k = pth c j → cnt c k < cnt c j) : InvD c (j + 1) (D.put (keyS (pth c j)) (.lit (.int .u64 (cnt c j : Int)))) := by
  refine ⟨h.1.put _ _, fun s => ?_⟩
  by_cases e : s = pth c j
  · subst e
    refine .inr ⟨Maps.has_put_same h.1 (keyS_ok _) _, j, by omega, rfl, Maps.atKey_put_same h.1 (keyS_ok _) _ _, fun i hi hp => ?_⟩
    by_cases e : i = j
    · subst e; exact Nat.le_refl _
    · exact Nat.le_of_lt (hr i (by omega) hp)
  · rw [Maps.has_put_other (keyS_ne e), Maps.atKey_put_other (keyS_ne e)]
    rcases h.2 s with ⟨h1, h2⟩ | ⟨h1, k, hk, hp, ha, hm⟩
    · refine .inl ⟨h1, fun k hk hp => ?_⟩
      by_cases e' : k = j
      · subst e'; exact e hp.symm
      · exact h2 k (by omega) hp
    · refine .inr ⟨h1, k, by omega, hp, ha, fun i hi hp' => ?_⟩
      by_cases e' : i = j
      · subst e'; exact absurd hp'.symm e
      · exact hm i (by omega) hp'
/-- the state ahead of a round. -/
structure St6 (wS : World) (c : Cells) (m n cap b j : Nat) (φ : Loc) (a : Act) (w : World) : Prop where
  rel : Rel w φ (TL n cap b (j : Int)) (MR c m) a w
  map : ∃ k D, k ≤ j ∧ w.ownsMap Try.prog 9 R29 b k D ∧ InvD c j D
  ne : (φ 0).1 ≠ b
  below : Below wS.heap.size wS w
  new : wS.heap.size ≤ b
theorem runs_at {E : Env} (hE : EnvOK E) {w0 w : World} {φ : Loc} {a : Act} {n : Nat} {S : Nat → Bool} {y : Code} {T T' : List AV} {M M' : List Blk} {c : List Bool} {ob : List Prop} {ex : Ex}
    (h : runTo E n S y T M c T' M'.length = some (ob, ex, T', M')) (ho : All ob) (hw : wfS T' M' = true) (hr : Rel w0 φ T M a w) {Q : Exit → Act → World → Prop} (hQ : ∀ φ' a' w', Agree M.length φ φ' → Rel w0 φ' T' M' a' w' → Q ex.to a' w') : y.wp E.P Q a w :=
  Runs.wp hE ⟨_, _, h, ho, hw⟩ hr hQ
theorem o1_rng : List.range o1.size = 0 :: (List.range' 1 1 ++ []) := by kernel_rfl
theorem o5_rng : List.range o5.size = List.range' 0 3 ++ (3 :: (List.range' 4 5 ++ [])) := by kernel_rfl
theorem o8_rng : List.range o8.size = List.range' 0 5 ++ [5] := by kernel_rfl
theorem l1 : ∀ j, j < 1 → [opAt o1 1][j]? = o1[1 + j]? := by
  have h0 : ([opAt o1 1] : List Oper)[0]? = o1[1 + 0]? := by kernel_rfl
  intro j hj
  match j, hj with
  | 0, _ => exact h0
theorem l5 : ∀ j, j < 3 → [opAt o5 0, opAt o5 1, opAt o5 2][j]? = o5[0 + j]? := by
  have h0 : ([opAt o5 0, opAt o5 1, opAt o5 2] : List Oper)[0]? = o5[0 + 0]? := by kernel_rfl
  have h1 : ([opAt o5 0, opAt o5 1, opAt o5 2] : List Oper)[1]? = o5[0 + 1]? := by kernel_rfl
  have h2 : ([opAt o5 0, opAt o5 1, opAt o5 2] : List Oper)[2]? = o5[0 + 2]? := by kernel_rfl
  intro j hj
  match j, hj with
  | 0, _ => exact h0
  | 1, _ => exact h1
  | 2, _ => exact h2
theorem l5b : ∀ j, j < 5 → [opAt o5 4, opAt o5 5, opAt o5 6, opAt o5 7, opAt o5 8][j]? = o5[4 + j]? := by
  have h0 : ([opAt o5 4, opAt o5 5, opAt o5 6, opAt o5 7, opAt o5 8] : List Oper)[0]? = o5[4 + 0]? := by kernel_rfl
  have h1 : ([opAt o5 4, opAt o5 5, opAt o5 6, opAt o5 7, opAt o5 8] : List Oper)[1]? = o5[4 + 1]? := by kernel_rfl
  have h2 : ([opAt o5 4, opAt o5 5, opAt o5 6, opAt o5 7, opAt o5 8] : List Oper)[2]? = o5[4 + 2]? := by kernel_rfl
  have h3 : ([opAt o5 4, opAt o5 5, opAt o5 6, opAt o5 7, opAt o5 8] : List Oper)[3]? = o5[4 + 3]? := by kernel_rfl
  have h4 : ([opAt o5 4, opAt o5 5, opAt o5 6, opAt o5 7, opAt o5 8] : List Oper)[4]? = o5[4 + 4]? := by kernel_rfl
  intro j hj
  match j, hj with
  | 0, _ => exact h0
  | 1, _ => exact h1
  | 2, _ => exact h2
  | 3, _ => exact h3
  | 4, _ => exact h4
theorem l8 : ∀ j, j < 5 → [opAt o8 0, opAt o8 1, opAt o8 2, opAt o8 3, opAt o8 4][j]? = o8[0 + j]? := by
  have h0 : ([opAt o8 0, opAt o8 1, opAt o8 2, opAt o8 3, opAt o8 4] : List Oper)[0]? = o8[0 + 0]? := by kernel_rfl
  have h1 : ([opAt o8 0, opAt o8 1, opAt o8 2, opAt o8 3, opAt o8 4] : List Oper)[1]? = o8[0 + 1]? := by kernel_rfl
  have h2 : ([opAt o8 0, opAt o8 1, opAt o8 2, opAt o8 3, opAt o8 4] : List Oper)[2]? = o8[0 + 2]? := by kernel_rfl
  have h3 : ([opAt o8 0, opAt o8 1, opAt o8 2, opAt o8 3, opAt o8 4] : List Oper)[3]? = o8[0 + 3]? := by kernel_rfl
  have h4 : ([opAt o8 0, opAt o8 1, opAt o8 2, opAt o8 3, opAt o8 4] : List Oper)[4]? = o8[0 + 4]? := by kernel_rfl
  intro j hj
  match j, hj with
  | 0, _ => exact h0
  | 1, _ => exact h1
  | 2, _ => exact h2
  | 3, _ => exact h3
  | 4, _ => exact h4
theorem wfR1 {n : Nat} {l : List (Nat × AV)} (c : Cells) (m : Nat) (h : tmsWf 1 (slots n l) = true) : wfS (slots n l) (MR c m) = true := wfS_of (by
  intro b hb
  simp only [MR, List.mem_cons, List.not_mem_nil, or_false] at hb
  subst hb
  exact rowB_free _ _ _ _) h
theorem wfR2 {n : Nat} {l : List (Nat × AV)} (c : Cells) (m j : Nat) (h : tmsWf 2 (slots n l) = true) : wfS (slots n l) (MR5 c m j) = true := wfS_of (by
  intro b hb
  simp only [MR5, List.mem_cons, List.not_mem_nil, or_false] at hb
  rcases hb with rfl | rfl
  · exact rowB_free _ _ _ _
  · exact fun f => fld_free _ f _ _) h
theorem MR_ro (c : Cells) (m : Nat) : ∀ (i : Nat) (b : Blk), (MR c m)[i]? = some b → i = 0 ∧ b = rowB c shR m 31 := by
  intro i b h
  match i, h with
  | 0, h => simp only [MR, List.getElem?_cons_zero, Option.some.injEq] at h; exact ⟨rfl, h.symm⟩
  | i + 1, h => simp [MR] at h
/-- another base, where the rows are as they were. -/
theorem Rel.rebase {c : Cells} {m : Nat} {w0 w w' : World} {φ : Loc} {T : List AV} {a : Act} (h : Rel w0 φ T (MR c m) a w) (hs : w0.heap.size ≤ w'.heap.size) (hk : w'.heap[(φ 0).1]? = w0.heap[(φ 0).1]?) : Rel w' φ T (MR c m) a w' := by
  refine ⟨h.tmps, h.defs, h.wft, MRel.rebase (fun i b hb => ?_) h.mrel hs (fun i b hb _ => ?_)⟩
  · rw [(MR_ro c m i b hb).2]; rfl
  · rw [(MR_ro c m i b hb).1]; exact hk
theorem Rel.row_lt {c : Cells} {m : Nat} {w0 w : World} {φ : Loc} {T : List AV} {a : Act} {M : List Blk} (h : Rel w0 φ T (rowB c shR m 31 :: M) a w) : (φ 0).1 < w0.heap.size := (h.mrel.old 0 _ rfl rfl rfl).1
end Go.Ev

namespace Go.Ev
open Go Go.Proofs Go.RowKit
theorem u64_wf {x : Nat} (h : x < 18446744073709551616) : (Lit.int .u64 (x : Int)).wf = true := by
  simp [Lit.wf, IntKind.min, IntKind.max, IntKind.bits, IntKind.signed]; omega
theorem u64_get {z : Int} (h : (Lit.int .u64 z).wf = true) : ∃ q : Nat, z = (q : Int) := by
  refine ⟨z.toNat, ?_⟩
  simp [Lit.wf, IntKind.min, IntKind.max, IntKind.bits, IntKind.signed] at h
  omega
theorem op5 : o5[3]? = some (opAt o5 3) := by kernel_rfl
theorem op5g : (opAt o5 3).guard = none := by kernel_rfl
theorem op5o : (opAt o5 3).op = Op.lookup 33 (.tmp 16) (.tmp 18) true := by kernel_rfl
theorem op5d : (opAt o5 3).dst = some 19 := by kernel_rfl
theorem op8 : o8[5]? = some (opAt o8 5) := by kernel_rfl
theorem op8g : (opAt o8 5).guard = none := by kernel_rfl
theorem op8o : (opAt o8 5).op = Op.mapUpdate 33 (.tmp 29) (.tmp 31) (.tmp 33) := by kernel_rfl
theorem op8d : (opAt o8 5).dst = none := by kernel_rfl
theorem op1 : o1[0]? = some (opAt o1 0) := by kernel_rfl
theorem op1g : (opAt o1 0).guard = none := by kernel_rfl
theorem op1o : (opAt o1 0).op = Op.makeMap 33 none := by kernel_rfl
theorem op1d : (opAt o1 0).dst = some 8 := by kernel_rfl
theorem agg31 : isAggA Try.prog 31 = some true := by kernel_rfl
theorem sz31 : sizeA Try.prog 31 = some (shSz shR) := by kernel_rfl
theorem rh8a (n cap b : Nat) (j : Int) (p : ByteArray) (x : Nat) : rho (T8 n cap b j p x) (.tmp 29) = some (mV b) := by kernel_rfl
theorem rh8b (n cap b : Nat) (j : Int) (p : ByteArray) (x : Nat) : rho (T8 n cap b j p x) (.tmp 31) = some (sS' p) := by kernel_rfl
theorem rh8c (n cap b : Nat) (j : Int) (p : ByteArray) (x : Nat) : rho (T8 n cap b j p x) (.tmp 33) = some (u64V x) := by kernel_rfl
theorem rh5a (n cap b : Nat) (j : Int) (p : ByteArray) : rho (T5 n cap b j p) (.tmp 16) = some (mV b) := by kernel_rfl
theorem rh5b (n cap b : Nat) (j : Int) (p : ByteArray) : rho (T5 n cap b j p) (.tmp 18) = some (sS' p) := by kernel_rfl
theorem fit8 (c : Cells) (m n cap b j : Nat) : (fitT (TL n cap b (j : Int)) (T8 n cap b (j : Int) (pth c j) (cnt c j)), (MR5 c m j).take (MR c m).length) = (TL n cap b (j : Int), MR c m) := by kernel_rfl
theorem round6 {wS w : World} {c : Cells} {m n cap b j : Nat} {φ : Loc} {a : Act} (hj : j < n) (hnm : n ≤ m) (hmx : n ≤ maxLen) (hob : All (rowOb c shR m 0)) (h : St6 wS c m n cap b j φ a w) {Q : Exit → Act → World → Prop}
    (hnorm : (∀ k, k < j → pth c k = pth c j → cnt c k < cnt c j) → ∀ φ' a' w', St6 wS c m n cap b (j + 1) φ' a' w' → Q .normal a' w')
    (hret : (∃ k, k < j ∧ pth c k = pth c j ∧ cnt c j ≤ cnt c k) → ∀ w0 φ' a' w', Rel w0 φ' (TF false) (MR c m) a' w' → Below wS.heap.size wS w' → Q .ret a' w') : B6.wp Try.prog Q a w := by
  obtain ⟨kk, D, hkk, hown, hinv⟩ := h.map
  have hmx' : n ≤ 9223372036854775807 := hmx
  have hbw : b < w.heap.size := hown.lt
  obtain ⟨hps, hcnt, _⟩ := rowOb_at c shR m j 0 (by omega) hob
  have hps : (pth c j).size ≤ maxLen := hps
  have hcnt : cnt c j < 18446744073709551616 := hcnt
  rw [B6_eq]
  refine wp_seq (runs_at (envER c) (M' := MR c m) (rg3 c m n cap b (j : Int) true) ⟨decide_eq_true (by omega), trivial⟩ (wfR1 c m (by kernel_rfl)) h.rel ?_)
  intro φ1 a1 w1 g1 r1
  show (Code.seq _ _).wp Try.prog _ a1 w1
  refine wp_seq (runs_at (envER c) (M' := MR c m) (rgT c m n cap b (j : Int)) trivial (wfR1 c m (by kernel_rfl)) r1 ?_)
  intro φ2 a2 w2 g2 r2
  show (Code.seq _ _).wp Try.prog _ a2 w2
  refine wp_seq (wp_block ?_)
  refine wp_seq (runs_at (envER c) (M' := MR5 c m j) (rg4 c m n cap b j) ⟨⟨by omega, by omega⟩, loads_row [] shR [] rfl agg31 sz31 (i := j) (by omega) (by simp [shSz, shR, SK.sz]), trivial⟩ (wfR2 c m j (by kernel_rfl)) r2 ?_)
  intro φ4 a4 w4 g4 r4
  have tail : (∀ k, k < j → pth c k = pth c j → cnt c k < cnt c j) → ∀ φ7 a7 w7, φ7 0 = φ 0 → Rel w φ7 (T4 n cap b (j : Int)) (MR5 c m j) a7 w7 → (Code.region 8 o8 false).wp Try.prog (Exit.inBlock 1 (Exit.then ((sR X6).wp Try.prog Q) Q)) a7 w7 := by
    intro hr φ7 a7 w7 e7 r7
    refine wp_region ?_
    rw [o8_rng]
    refine preTo_wp (envER c) (M' := MR5 c m j) 0 _ (rg8 c m n cap b j) trivial (wfR2 c m j (by kernel_rfl)) l8 r7 ?_
    intro φ8 a8 w8 g8 r8
    have e8 : φ8 0 = φ 0 := (g8 0 (by simp [MR5])).trans e7
    have hown8 := World.ownsMap.below hown r8.mrel.below hbw
    obtain ⟨w9, hrun9, hown9, hgr⟩ := hown8.update keyed9 und33 (by omega) (WideMaps.keyOf_string_mk und9 hps) (plainElem_int und29 (u64_wf hcnt))
    have m1 : a8.eval (.tmp 29) = .map (some b) := rho_tells r8 (.tmp 29) (mV b) (rh8a _ _ _ _ _ _)
    have m2 : a8.eval (.tmp 31) = .string (pth c j) := rho_tells r8 (.tmp 31) (sS' (pth c j)) (rh8b _ _ _ _ _ _)
    have m3 : a8.eval (.tmp 33) = .int .u64 (cnt c j : Int) := rho_tells r8 (.tmp 33) (u64V (cnt c j)) (rh8c _ _ _ _ _ _)
    refine wpOps_step op8 op8g (update_wp op8o m1 m2 m3 hrun9 ?_)
    rw [op8d]
    have r9 : Rel w φ8 (TL n cap b (j : Int)) (MR c m) a8 w8 := r8.fit (fits_of (fit8 c m n cap b j) (wfR1 c m (by kernel_rfl)))
    have hlt : (φ8 0).1 < w.heap.size := Rel.row_lt r9
    have hb9 : w9.heap[(φ8 0).1]? = w.heap[(φ8 0).1]? := (hgr.block _ (Nat.lt_of_lt_of_le hlt r8.mrel.below.size) (by intro e; simp only [Option.some.injEq] at e; rw [e8] at e; exact h.ne e)).trans (r8.mrel.below.block _ hlt)
    have r10 := Rel.rebase r9 (Nat.le_trans r8.mrel.below.size hgr.size) hb9
    show (sR X6).wp Try.prog Q a8 w9
    refine runs_at (envER c) (M' := MR c m) (rg9 c m n cap b j) ⟨by unfold inI; omega, trivial⟩ (wfR1 c m (by kernel_rfl)) r10 ?_
    intro φ11 a11 w11 g11 r11
    have e11 : φ11 0 = φ8 0 := g11 0 (by simp [MR])
    have hlt11 : (φ11 0).1 < w9.heap.size := Rel.row_lt r11
    have hS : Below wS.heap.size w8 w9 := ⟨hgr.os, hgr.tape, hgr.output, hgr.size, fun k hk => hgr.block k (by have := h.below.size; have := r8.mrel.below.size; omega) (by intro e; simp only [Option.some.injEq] at e; have := h.new; omega)⟩
    refine hnorm hr φ11 a11 w11 ⟨Rel.rebase r11 r11.mrel.below.size (r11.mrel.below.block _ hlt11), ⟨kk + 1, _, by omega, World.ownsMap.below hown9 r11.mrel.below hown9.lt, hinv.put hr⟩, by rw [e11, e8]; exact h.ne, ?_, h.new⟩
    refine (h.below.trans (r8.mrel.below.mono h.below.size)).trans (hS.trans (r11.mrel.below.mono ?_))
    have := h.below.size
    have := r8.mrel.below.size
    have := hgr.size
    omega
  show (Code.seq _ _).wp Try.prog _ a4 w4
  refine wp_seq (wp_seq (wp_region ?_))
  rw [o5_rng]
  refine preTo_wp (envER c) (M' := MR5 c m j) 0 _ (rg5 c m n cap b j) trivial (wfR2 c m j (by kernel_rfl)) l5 r4 ?_
  intro φ5 a5 w5 g5 r5
  have hown5 := World.ownsMap.below hown r5.mrel.below hbw
  obtain ⟨v, ps, hrun, hv⟩ := hown5.look_ok keyed9 und33 (zero29 w5) (plainElem_int und29 (a := 0) (by decide)) (WideMaps.keyOf_string_mk und9 hps)
  obtain ⟨z, rfl, hat, hwf⟩ := plainElem_int_inv und29 hv
  obtain ⟨q, rfl⟩ := u64_get hwf
  have m1 : a5.eval (.tmp 16) = .map (some b) := rho_tells r5 (.tmp 16) (mV b) (rh5a _ _ _ _ _)
  have m2 : a5.eval (.tmp 18) = .string (pth c j) := rho_tells r5 (.tmp 18) (sS' (pth c j)) (rh5b _ _ _ _ _)
  refine wpOps_step op5 op5g (lookup_wp op5o m1 m2 hrun ?_)
  have r5' := r5.put (opAt o5 3).dst (v := .tup [.one (.u .u64 q), .one (.v (.bool (Maps.has D (keyS (pth c j)))))]) (Agree.refl _ _) (Nat.le_refl _) r5.mrel rfl
  rw [op5d] at r5' ⊢
  refine preTo_wp (envER c) (M' := MR5 c m j) 4 [] (rg5b c m n cap b j q _ _) trivial (wfR2 c m j (by kernel_rfl)) l5b r5' ?_
  intro φ6 a6 w6 g6 r6
  have e6 : φ6 0 = φ 0 := by
    rw [g6 0 (by simp [MR5]), g5 0 (by simp [MR5]), g4 0 (by simp [MR]), g2 0 (by simp [MR]), g1 0 (by simp [MR])]
  show C6.wp Try.prog _ a6 w6
  rcases hinv.2 (pth c j) with ⟨h1, h2⟩ | ⟨h1, k, hk, hp, ha, hm⟩
  · rw [h1] at r6
    refine runs_at (envER c) (M' := MR5 c m j) (rg6f c m n cap b j q) ⟨rfl, trivial⟩ (wfR2 c m j (by kernel_rfl)) r6 ?_
    intro φ7 a7 w7 g7 r7
    exact tail (fun k hk hp => absurd hp (h2 k hk)) φ7 a7 w7 ((g7 0 (by simp [MR5])).trans e6) r7
  · rw [h1] at r6
    have hq : q = cnt c k := by
      have := ha.symm.trans (congrArg Prod.fst hat)
      simp only [DataW.lit.injEq, Lit.int.injEq, true_and] at this
      omega
    by_cases hle : cnt c j ≤ q
    · refine runs_at (envER c) (M' := MR c m) (rg6r c m n cap b j q) ⟨decide_eq_true hle, trivial⟩ (wfR1 c m (by kernel_rfl)) r6 ?_
      intro φ7 a7 w7 g7 r7
      exact hret ⟨k, hk, hp, by omega⟩ w φ7 a7 w7 r7 (h.below.trans (r7.mrel.below.mono h.below.size))
    · refine runs_at (envER c) (M' := MR5 c m j) (rg6n c m n cap b j q) ⟨decide_eq_false hle, trivial⟩ (wfR2 c m j (by kernel_rfl)) r6 ?_
      intro φ7 a7 w7 g7 r7
      exact tail (fun i hi hpi => by have := hm i hi hpi; omega) φ7 a7 w7 ((g7 0 (by simp [MR5])).trans e6) r7
end Go.Ev

namespace Go.Ev
open Go Go.Proofs Go.RowKit
theorem loop6 {wS : World} {c : Cells} {m n cap b : Nat} (hnm : n ≤ m) (hmx : n ≤ maxLen) (hob : All (rowOb c shR m 0)) {Q : Exit → Act → World → Prop}
    (hQ1 : RisP c n → ∀ w0 φ a w, Rel w0 φ (TL n cap b (n : Int)) (MR c m) a w → Below wS.heap.size wS w0 → Q (.exit 0) a w)
    (hQ2 : ¬ RisP c n → ∀ w0 φ a w, Rel w0 φ (TF false) (MR c m) a w → Below wS.heap.size wS w → Q .ret a w) :
    ∀ d j, j + d = n → RisP c j → ∀ φ a w, St6 wS c m n cap b j φ a w → Code.rounds Try.prog B6 Q (d + 1) a w := by
  intro d
  induction d with
  | zero =>
    intro j hj hr φ a w h
    obtain rfl : j = n := by omega
    rw [rounds_succ, B6_eq]
    refine wp_seq (runs_at (envER c) (M' := MR c m) (rg3 c m j cap b (j : Int) false) ⟨decide_eq_false (by omega), trivial⟩ (wfR1 c m (by kernel_rfl)) h.rel ?_)
    intro φ1 a1 w1 g1 r1
    show (Code.seq _ _).wp Try.prog _ a1 w1
    refine wp_seq (runs_at (envER c) (M' := MR c m) (rgX c m j cap b (j : Int)) trivial (wfR1 c m (by kernel_rfl)) r1 ?_)
    intro φ2 a2 w2 g2 r2
    exact hQ1 hr w φ2 a2 w2 r2 h.below
  | succ d ih =>
    intro j hj hr φ a w h
    rw [rounds_succ]
    refine round6 (by omega) hnm hmx hob h ?_ ?_
    · intro hx φ' a' w' h'
      exact ih (j + 1) (by omega) (hr.succ hx) φ' a' w' h'
    · rintro ⟨k, hk, hp, hle⟩ w0 φ' a' w' r' hb
      exact hQ2 (fun h => by have := h j (by omega) k hk hp; omega) w0 φ' a' w' r' hb
noncomputable def risB (c : Cells) (n : Nat) : Bool := @decide (RisP c n) (Classical.propDecidable _)
theorem risB_t {c : Cells} {n : Nat} (h : RisP c n) : risB c n = true := by unfold risB; exact @decide_eq_true _ (Classical.propDecidable _) h
theorem risB_f {c : Cells} {n : Nat} (h : ¬ RisP c n) : risB c n = false := by unfold risB; exact @decide_eq_false _ (Classical.propDecidable _) h
theorem nt6 : Try.f6.ntmps = 35 := by kernel_rfl
theorem bd6 : Try.f6.body = some K6 := by kernel_rfl
theorem rs6 (c : Cells) (m : Nat) (r : Bool) : resA Try.prog (TF r) (MR c m) Try.f6.results.toList = some (bV r) := by kernel_rfl
theorem post6 {c : Cells} {m : Nat} {w0 w : World} {φ : Loc} {a : Act} {r : Bool} {R : Ending → World → Prop} (h : Rel w0 φ (TF r) (MR c m) a w) (hR : R (.returned (.bool r)) w) : bodyPost Try.prog Try.f6 R .ret a w :=
  ⟨h.defs, _, resA_run (rs6 c m r) h, hR⟩
theorem rising6 {c : Cells} {m n cap : Nat} (hnm : n ≤ m) (hmx : n ≤ maxLen) (hob : All (rowOb c shR m 0)) {w : World} {φ : Loc} (hm : MRel w φ (MR c m) w) :
    Calls Try.prog 6 #[(V1.one (.sl 0 0 n cap)).conc φ] w fun e w' => e = .returned (.bool (risB c n)) ∧ Below w.heap.size w w' := by
  refine calls_of_wp Try.func6 bd6 ?_
  have r0 := Rel.mk' (fn := Try.f6) (vs := [V1.one (.sl 0 0 n cap)]) hm (by intro v hv; simp only [List.mem_cons, List.not_mem_nil, or_false] at hv; subst hv; rfl)
  rw [nt6] at r0 ⊢
  rw [K6_eq]
  refine wp_seq (runs_at (envER c) (M' := MR c m) (rg0 c m n cap) trivial (wfR1 c m (by kernel_rfl)) r0 ?_)
  intro φ1 a1 w1 g1 r1
  show (Code.seq _ _).wp Try.prog _ a1 w1
  refine wp_seq (wp_region ?_)
  rw [o1_rng]
  refine wpOps_step op1 op1g (make_wp op1o ?_)
  rw [op1d]
  have hlt : (φ1 0).1 < w.heap.size := Rel.row_lt r1
  have hs1 := r1.mrel.below.size
  have r1' : Rel (w1.alloc (.map #[] 0)) φ1 (TA n cap) (MR c m) a1 (w1.alloc (.map #[] 0)) := by
    refine Rel.rebase r1 ?_ ((Below.heap_alloc w1 _ _ (by omega)).trans (r1.mrel.below.block _ hlt))
    exact Nat.le_trans hs1 ((Below.refl w1.heap.size w1).alloc (Nat.le_refl _) _).size
  have hown := World.ownsMap_made w1 Try.prog 9 R29
  generalize hb : w1.heap.size = b at *
  have r2 := r1'.put (some 8) (v := mV b) (Agree.refl _ _) (Nat.le_refl _) r1'.mrel rfl
  refine preTo_wp (envER c) (M' := MR c m) 1 [] (rg1 c m n cap b) trivial (wfR1 c m (by kernel_rfl)) l1 r2 ?_
  intro φ3 a3 w3 g3 r3
  show (Code.seq _ _).wp Try.prog _ a3 w3
  refine wp_seq (wp_seq (runs_at (envER c) (M' := MR c m) (rg2 c m n cap b) trivial (wfR1 c m (by kernel_rfl)) r3 ?_))
  intro φ4 a4 w4 g4 r4
  have e4 : φ4 0 = φ1 0 := by rw [g4 0 (by simp [MR]), g3 0 (by simp [MR])]
  have b2 : Below w.heap.size w (w1.alloc (.map #[] 0)) := r1.mrel.below.alloc (by omega) _
  show (Code.block 0 (.loop B6)).wp Try.prog _ a4 w4
  refine wp_block (wp_loop_rounds (n + 1) (loop6 (wS := w) (b := b) (cap := cap) hnm hmx hob ?_ ?_ n 0 (by omega) (RisP.zero c) φ4 a4 w4 ⟨?_, ⟨0, .map [], Nat.le_refl _, ?_, InvD.zero c⟩, ?_, ?_, ?_⟩))
  · intro hr w0 φ' a' w' r' hb'
    show (sR (sR (sR K6))).wp Try.prog _ a' w'
    refine runs_at (envER c) (M' := MR c m) (rg10 c m n cap b (n : Int)) trivial (wfR1 c m (by kernel_rfl)) r' ?_
    intro φ5 a5 w5 g5 r5
    exact post6 (R := fun e w' => e = .returned (.bool (risB c n)) ∧ Below w.heap.size w w') r5 ⟨by rw [risB_t hr], hb'.trans (r5.mrel.below.mono hb'.size)⟩
  · intro hr w0 φ' a' w' r' hb'
    exact post6 (R := fun e w' => e = .returned (.bool (risB c n)) ∧ Below w.heap.size w w') r' ⟨by rw [risB_f hr], hb'⟩
  · exact Rel.rebase r4 r4.mrel.below.size (r4.mrel.below.block _ (Rel.row_lt r4))
  · exact World.ownsMap.below hown r4.mrel.below hown.lt
  · rw [e4]; omega
  · exact b2.trans (r4.mrel.below.mono b2.size)
  · omega
end Go.Ev

namespace Go.Ev
open Go Go.Proofs Go.RowKit
noncomputable def K7 : Code := fnCode Try.prog 7
noncomputable def B7 : Code := bodyOf Try.prog 7 2
noncomputable def I7 : Code := bodyOf Try.prog 7 5
noncomputable def X7 : Code := sR B7
noncomputable def Y7 : Code := bC (sL X7)
theorem K7_eq : K7 = .seq (sL K7) (.seq (.seq (sL (sL (sR K7))) (.block 0 (.loop B7))) (sR (sR K7))) := by kernel_rfl
theorem B7_eq : B7 = .seq (sL B7) (.seq (.block 1 (.seq (sL Y7) (.block 2 (.loop I7)))) (sR X7)) := by kernel_rfl
noncomputable def L7 (c : Cells) : List CT := [ldC 9 (fun off => .one (.v (.string (sA c off)))), ldC 29 (fun off => .one (.u .u64 (nU c off)))]
theorem L7_ok (c : Cells) : AllCT (L7 c) := ⟨ldC_ok _ _, ldC_ok _ _, trivial⟩
noncomputable def S7 : FuncId → Nat → Bool := fun f t => match f with | 7 => Nat.beq t 8 || Nat.beq t 13 || Nat.beq t 18 || Nat.beq t 23 || Nat.beq t 30 || Nat.beq t 35 || Nat.beq t 2000020 || Nat.beq t 2000025 || Nat.beq t 2000032 || Nat.beq t 2000037 || Nat.beq t 27 || Nat.beq t 39 || Nat.beq t 15 || Nat.beq t 10 | _ => false
noncomputable def E7 (c : Cells) : Env := mkE (L7 c) S7
theorem envE7 (c : Cells) : EnvOK (E7 c) := envMk (L7_ok c) _
def UA (n cap : Nat) : List AV := slots 40 [(0, sV' n cap)]
def UO (n cap : Nat) (i : Int) : List AV := slots 40 [(0, sV' n cap), (3, iV i)]
def UD (n cap : Nat) (i : Int) (d : Bool) : List AV := slots 40 [(0, sV' n cap), (3, iV i), (8, bV d)]
def UI (n cap : Nat) (i k : Int) : List AV := slots 40 [(0, sV' n cap), (3, iV i), (4, iV k)]
def UF (r : Bool) : List AV := slots 40 [(2, bV r)]
theorem sg0 (c : Cells) (m n cap : Nat) : runTo (E7 c) 1000 ((E7 c).S 7) (sL K7) (vals [V1.one (.sl 0 0 n cap)] ++ undefs 39) (MR c m) [] (UA n cap) 1 = some ([], .normal, UA n cap, MR c m) := by kernel_rfl
theorem sg1 (c : Cells) (m n cap : Nat) : runTo (E7 c) 1000 ((E7 c).S 7) (sL (sL (sR K7))) (UA n cap) (MR c m) [] (UO n cap 0) 1 = some ([], .normal, UO n cap 0, MR c m) := by kernel_rfl
theorem sgT (c : Cells) (m n cap : Nat) (i : Int) : runTo (E7 c) 1000 ((E7 c).S 7) (sL B7) (UO n cap i) (MR c m) [true] (UO n cap i) 1 = some ([decide (i < (n : Int)) = true], .normal, UO n cap i, MR c m) := by kernel_rfl
theorem sgX (c : Cells) (m n cap : Nat) (i : Int) : runTo (E7 c) 1000 ((E7 c).S 7) (sL B7) (UO n cap i) (MR c m) [false] (UO n cap i) 1 = some ([decide (i < (n : Int)) = false], .exit 0, UO n cap i, MR c m) := by kernel_rfl
theorem sg4 (c : Cells) (m n cap : Nat) (i : Int) : runTo (E7 c) 1000 ((E7 c).S 7) (sL Y7) (UO n cap i) (MR c m) [] (UI n cap i 0) 1 = some ([], .normal, UI n cap i 0, MR c m) := by kernel_rfl
theorem sg3 (c : Cells) (m n cap i : Nat) (k : Int) : runTo (E7 c) 1000 ((E7 c).S 7) (sR X7) (UI n cap (i : Int) k) (MR c m) [] (UO n cap ((i : Int) + 1)) 1 = some ([inI ((i : Int) + 1)], .normal, UO n cap ((i : Int) + 1), MR c m) := by kernel_rfl
theorem sg9 (c : Cells) (m n cap : Nat) (i : Int) : runTo (E7 c) 1000 ((E7 c).S 7) (sR (sR K7)) (UO n cap i) (MR c m) [] (UF true) 1 = some ([], .ret, UF true, MR c m) := by kernel_rfl
theorem sgO (c : Cells) (m n cap : Nat) (i k : Int) : runTo (E7 c) 1000 ((E7 c).S 7) I7 (UI n cap i k) (MR c m) [false] (UI n cap i k) 1 = some ([decide (k < i) = false], .exit 2, UI n cap i k, MR c m) := by kernel_rfl
end Go.Ev

namespace Go.Ev
open Go Go.Proofs Go.RowKit
theorem sgA (c : Cells) (m n cap i k : Nat) : runTo (E7 c) 1000 ((E7 c).S 7) I7 (UI n cap (i : Int) (k : Int)) (MR c m) [true, false, false] (UI n cap (i : Int) ((k : Int) + 1)) 1 =
    some ([decide ((k : Int) < (i : Int)) = true, (0 : Int) ≤ (k : Int) ∧ (k : Int) < (n : Int), LoadsAs Try.prog 9 (rowPs c shR m 0) (0 + k * 4 + 0) (.one (.v (.string (pth c k)))), (0 : Int) ≤ (i : Int) ∧ (i : Int) < (n : Int), LoadsAs Try.prog 9 (rowPs c shR m 0) (0 + i * 4 + 0) (.one (.v (.string (pth c i)))), ((pth c k).toList == (pth c i).toList) = false, false = false, inI ((k : Int) + 1)], .normal, UI n cap (i : Int) ((k : Int) + 1), MR c m) := by kernel_rfl
theorem sgB (c : Cells) (m n cap i k : Nat) : runTo (E7 c) 1000 ((E7 c).S 7) I7 (UI n cap (i : Int) (k : Int)) (MR c m) [true, true, false] (UI n cap (i : Int) ((k : Int) + 1)) 1 =
    some ([decide ((k : Int) < (i : Int)) = true, (0 : Int) ≤ (k : Int) ∧ (k : Int) < (n : Int), LoadsAs Try.prog 9 (rowPs c shR m 0) (0 + k * 4 + 0) (.one (.v (.string (pth c k)))), (0 : Int) ≤ (i : Int) ∧ (i : Int) < (n : Int), LoadsAs Try.prog 9 (rowPs c shR m 0) (0 + i * 4 + 0) (.one (.v (.string (pth c i)))), ((pth c k).toList == (pth c i).toList) = true, (0 : Int) ≤ (k : Int) ∧ (k : Int) < (n : Int), LoadsAs Try.prog 29 (rowPs c shR m 0) (0 + k * 4 + 1) (.one (.u .u64 (cnt c k))), (0 : Int) ≤ (i : Int) ∧ (i : Int) < (n : Int), LoadsAs Try.prog 29 (rowPs c shR m 0) (0 + i * 4 + 1) (.one (.u .u64 (cnt c i))), decide (cnt c i ≤ cnt c k) = false, inI ((k : Int) + 1)], .normal, UI n cap (i : Int) ((k : Int) + 1), MR c m) := by kernel_rfl
theorem sgR (c : Cells) (m n cap i k : Nat) : runTo (E7 c) 1000 ((E7 c).S 7) I7 (UI n cap (i : Int) (k : Int)) (MR c m) [true, true, true] (UF false) 1 =
    some ([decide ((k : Int) < (i : Int)) = true, (0 : Int) ≤ (k : Int) ∧ (k : Int) < (n : Int), LoadsAs Try.prog 9 (rowPs c shR m 0) (0 + k * 4 + 0) (.one (.v (.string (pth c k)))), (0 : Int) ≤ (i : Int) ∧ (i : Int) < (n : Int), LoadsAs Try.prog 9 (rowPs c shR m 0) (0 + i * 4 + 0) (.one (.v (.string (pth c i)))), ((pth c k).toList == (pth c i).toList) = true, (0 : Int) ≤ (k : Int) ∧ (k : Int) < (n : Int), LoadsAs Try.prog 29 (rowPs c shR m 0) (0 + k * 4 + 1) (.one (.u .u64 (cnt c k))), (0 : Int) ≤ (i : Int) ∧ (i : Int) < (n : Int), LoadsAs Try.prog 29 (rowPs c shR m 0) (0 + i * 4 + 1) (.one (.u .u64 (cnt c i))), decide (cnt c i ≤ cnt c k) = true], .ret, UF false, MR c m) := by kernel_rfl
theorem agg9 : isAggA Try.prog 9 = some false := by kernel_rfl
theorem agg29 : isAggA Try.prog 29 = some false := by kernel_rfl
theorem ldP (c : Cells) {m k : Nat} (h : k < m) : LoadsAs Try.prog 9 (rowPs c shR m 0) (0 + k * 4 + 0) (.one (.v (.string (pth c k)))) := loads_fld [] .s [.u64, .s, .s] rfl agg9 h (by simp [shSz, shR, SK.sz]) rfl
theorem ldN (c : Cells) {m k : Nat} (h : k < m) : LoadsAs Try.prog 29 (rowPs c shR m 0) (0 + k * 4 + 1) (.one (.u .u64 (cnt c k))) := loads_fld [.s] .u64 [.s, .s] rfl agg29 h (by simp [shSz, shR, SK.sz]) rfl
theorem toList_inj {a b : ByteArray} (h : a.toList = b.toList) : a = b := by
  rw [ByteArray.toList_eq, ByteArray.toList_eq] at h
  exact ByteArray.ext (Array.ext' h)
theorem beq_t {a b : ByteArray} (h : a = b) : (a.toList == b.toList) = true := by rw [h]; exact beq_self_eq_true _
theorem beq_f {a b : ByteArray} (h : a ≠ b) : (a.toList == b.toList) = false := by
  rw [beq_eq_false_iff_ne]
  exact fun e => h (toList_inj e)
theorem inner7 {w0 : World} {c : Cells} {m n cap i : Nat} (hi : i < n) (hnm : n ≤ m) (hmx : n ≤ maxLen) {Q : Exit → Act → World → Prop}
    (hQ1 : (∀ k, k < i → pth c k = pth c i → cnt c k < cnt c i) → ∀ φ a w, Rel w0 φ (UI n cap (i : Int) (i : Int)) (MR c m) a w → Q (.exit 2) a w)
    (hQ2 : (∃ k, k < i ∧ pth c k = pth c i ∧ cnt c i ≤ cnt c k) → ∀ φ a w, Rel w0 φ (UF false) (MR c m) a w → Q .ret a w) :
    ∀ d k, k + d = i → (∀ k', k' < k → pth c k' = pth c i → cnt c k' < cnt c i) → ∀ φ a w, Rel w0 φ (UI n cap (i : Int) (k : Int)) (MR c m) a w → Code.rounds Try.prog I7 Q (d + 1) a w := by
  have hmx' : n ≤ 9223372036854775807 := hmx
  intro d
  induction d with
  | zero =>
    intro k hk hr φ a w h
    obtain rfl : k = i := by omega
    rw [rounds_succ]
    refine runs_at (envE7 c) (M' := MR c m) (sgO c m n cap (k : Int) (k : Int)) ⟨decide_eq_false (by omega), trivial⟩ (wfR1 c m (by kernel_rfl)) h ?_
    intro φ1 a1 w1 g1 r1
    exact hQ1 hr φ1 a1 w1 r1
  | succ d ih =>
    intro k hk hr φ a w h
    rw [rounds_succ]
    have hkm : k < m := by omega
    have him : i < m := by omega
    by_cases hp : pth c k = pth c i
    · by_cases hle : cnt c i ≤ cnt c k
      · refine runs_at (envE7 c) (M' := MR c m) (sgR c m n cap i k) ⟨decide_eq_true (by omega), by omega, ldP c hkm, by omega, ldP c him, beq_t hp, by omega, ldN c hkm, by omega, ldN c him, decide_eq_true hle, trivial⟩ (wfR1 c m (by kernel_rfl)) h ?_
        intro φ1 a1 w1 g1 r1
        exact hQ2 ⟨k, by omega, hp, hle⟩ φ1 a1 w1 r1
      · refine runs_at (envE7 c) (M' := MR c m) (sgB c m n cap i k) ⟨decide_eq_true (by omega), by omega, ldP c hkm, by omega, ldP c him, beq_t hp, by omega, ldN c hkm, by omega, ldN c him, decide_eq_false hle, by unfold inI; omega, trivial⟩ (wfR1 c m (by kernel_rfl)) h ?_
        intro φ1 a1 w1 g1 r1
        refine ih (k + 1) (by omega) (fun k' hk' hp' => ?_) φ1 a1 w1 r1
        by_cases e : k' = k
        · subst e; omega
        · exact hr k' (by omega) hp'
    · refine runs_at (envE7 c) (M' := MR c m) (sgA c m n cap i k) ⟨decide_eq_true (by omega), by omega, ldP c hkm, by omega, ldP c him, beq_f hp, rfl, by unfold inI; omega, trivial⟩ (wfR1 c m (by kernel_rfl)) h ?_
      intro φ1 a1 w1 g1 r1
      refine ih (k + 1) (by omega) (fun k' hk' hp' => ?_) φ1 a1 w1 r1
      by_cases e : k' = k
      · subst e; exact absurd hp' hp
      · exact hr k' (by omega) hp'
theorem outer7 {w0 : World} {c : Cells} {m n cap : Nat} (hnm : n ≤ m) (hmx : n ≤ maxLen) {Q : Exit → Act → World → Prop}
    (hQ1 : RisP c n → ∀ φ a w, Rel w0 φ (UO n cap (n : Int)) (MR c m) a w → Q (.exit 0) a w)
    (hQ2 : ¬ RisP c n → ∀ φ a w, Rel w0 φ (UF false) (MR c m) a w → Q .ret a w) :
    ∀ d i, i + d = n → RisP c i → ∀ φ a w, Rel w0 φ (UO n cap (i : Int)) (MR c m) a w → Code.rounds Try.prog B7 Q (d + 1) a w := by
  have hmx' : n ≤ 9223372036854775807 := hmx
  intro d
  induction d with
  | zero =>
    intro i hi hr φ a w h
    obtain rfl : i = n := by omega
    rw [rounds_succ, B7_eq]
    refine wp_seq (runs_at (envE7 c) (M' := MR c m) (sgX c m i cap (i : Int)) ⟨decide_eq_false (by omega), trivial⟩ (wfR1 c m (by kernel_rfl)) h ?_)
    intro φ1 a1 w1 g1 r1
    exact hQ1 hr φ1 a1 w1 r1
  | succ d ih =>
    intro i hi hr φ a w h
    rw [rounds_succ, B7_eq]
    refine wp_seq (runs_at (envE7 c) (M' := MR c m) (sgT c m n cap (i : Int)) ⟨decide_eq_true (by omega), trivial⟩ (wfR1 c m (by kernel_rfl)) h ?_)
    intro φ1 a1 w1 g1 r1
    show (Code.seq _ _).wp Try.prog _ a1 w1
    refine wp_seq (wp_block (wp_seq (runs_at (envE7 c) (M' := MR c m) (sg4 c m n cap (i : Int)) trivial (wfR1 c m (by kernel_rfl)) r1 ?_)))
    intro φ2 a2 w2 g2 r2
    show (Code.block 2 (.loop I7)).wp Try.prog _ a2 w2
    refine wp_block (wp_loop_rounds (i + 1) (inner7 (w0 := w0) (n := n) (cap := cap) (by omega) hnm hmx ?_ ?_ i 0 (by omega) (fun k' h' => absurd h' (Nat.not_lt_zero _)) φ2 a2 w2 r2))
    · intro hx φ3 a3 w3 r3
      show (sR X7).wp Try.prog _ a3 w3
      refine runs_at (envE7 c) (M' := MR c m) (sg3 c m n cap i (i : Int)) ⟨by unfold inI; omega, trivial⟩ (wfR1 c m (by kernel_rfl)) r3 ?_
      intro φ4 a4 w4 g4 r4
      exact ih (i + 1) (by omega) (hr.succ hx) φ4 a4 w4 r4
    · rintro ⟨k, hk, hp, hle⟩ φ3 a3 w3 r3
      exact hQ2 (fun h => by have := h i (by omega) k hk hp; omega) φ3 a3 w3 r3
theorem nt7 : Try.f7.ntmps = 40 := by kernel_rfl
theorem bd7 : Try.f7.body = some K7 := by kernel_rfl
theorem rs7 (c : Cells) (m : Nat) (r : Bool) : resA Try.prog (UF r) (MR c m) Try.f7.results.toList = some (bV r) := by kernel_rfl
theorem post7 {c : Cells} {m : Nat} {w0 w : World} {φ : Loc} {a : Act} {r : Bool} {R : Ending → World → Prop} (h : Rel w0 φ (UF r) (MR c m) a w) (hR : R (.returned (.bool r)) w) : bodyPost Try.prog Try.f7 R .ret a w :=
  ⟨h.defs, _, resA_run (rs7 c m r) h, hR⟩
theorem rising7 {c : Cells} {m n cap : Nat} (hnm : n ≤ m) (hmx : n ≤ maxLen) {w : World} {φ : Loc} (hm : MRel w φ (MR c m) w) :
    Calls Try.prog 7 #[(V1.one (.sl 0 0 n cap)).conc φ] w fun e w' => e = .returned (.bool (risB c n)) ∧ Below w.heap.size w w' := by
  refine calls_of_wp Try.func7 bd7 ?_
  have r0 := Rel.mk' (fn := Try.f7) (vs := [V1.one (.sl 0 0 n cap)]) hm (by intro v hv; simp only [List.mem_cons, List.not_mem_nil, or_false] at hv; subst hv; rfl)
  rw [nt7] at r0 ⊢
  rw [K7_eq]
  refine wp_seq (runs_at (envE7 c) (M' := MR c m) (sg0 c m n cap) trivial (wfR1 c m (by kernel_rfl)) r0 ?_)
  intro φ1 a1 w1 g1 r1
  show (Code.seq _ _).wp Try.prog _ a1 w1
  refine wp_seq (wp_seq (runs_at (envE7 c) (M' := MR c m) (sg1 c m n cap) trivial (wfR1 c m (by kernel_rfl)) r1 ?_))
  intro φ2 a2 w2 g2 r2
  show (Code.block 0 (.loop B7)).wp Try.prog _ a2 w2
  refine wp_block (wp_loop_rounds (n + 1) (outer7 (w0 := w) (cap := cap) hnm hmx ?_ ?_ n 0 (by omega) (RisP.zero c) φ2 a2 w2 r2))
  · intro hr φ' a' w' r'
    show (sR (sR K7)).wp Try.prog _ a' w'
    refine runs_at (envE7 c) (M' := MR c m) (sg9 c m n cap (n : Int)) trivial (wfR1 c m (by kernel_rfl)) r' ?_
    intro φ5 a5 w5 g5 r5
    exact post7 (R := fun e w' => e = .returned (.bool (risB c n)) ∧ Below w.heap.size w w') r5 ⟨by rw [risB_t hr], r5.mrel.below⟩
  · intro hr φ' a' w' r'
    exact post7 (R := fun e w' => e = .returned (.bool (risB c n)) ∧ Below w.heap.size w w') r' ⟨by rw [risB_f hr], r'.mrel.below⟩
end Go.Ev

namespace Go.Ev
open Go Go.Proofs Go.RowKit
/-- rows that stand in any block, as the only block. -/
theorem moveRow {w0 w : World} {φ : Loc} {mem : List Blk} {b : Nat} {k : Blk} {c : Cells} {sh : List SK} {m : Nat} (e : TypeId) (h : MRel w0 φ mem w) (hk : mem[b]? = some k) (hl : k.live = true) (hps : ∀ φ', concs φ' k.ps = concs φ' (rowPs c sh m 0)) :
    MRel w (fun _ => φ b) [rowB c sh m e] w := by
  have one : ∀ (i : Nat) (x : Blk), ([rowB c sh m e] : List Blk)[i]? = some x → x = rowB c sh m e := by
    intro i x h
    match i, h with
    | 0, h => simp only [List.getElem?_cons_zero, Option.some.injEq] at h; exact h.symm
    | i + 1, h => simp at h
  refine ⟨Below.refl _ _, ?_, ?_, ?_, ?_, ?_⟩
  · intro i j b1 b2 hb1 _ _ _ hr _ _
    rw [one i b1 hb1] at hr; cases hr
  · intro i b1 hb1 _ hr
    rw [one i b1 hb1] at hr; cases hr
  · intro i b1 hb1 _ _
    refine ⟨h.lt hk hl, fun j v hv => ?_⟩
    rw [one i b1 hb1] at hv
    have hv : (concs (fun _ => φ b) (rowPs c sh m 0))[j]? = some v := hv
    have e2 : concs (fun _ => φ b) (rowPs c sh m 0) = concs φ (rowPs c sh m 0) := concs_agree (n := 0) (fun i hi => absurd hi (Nat.not_lt_zero _)) _ (row_free c sh _ m 0)
    rw [e2, ← hps φ] at hv
    exact h.cell hk hl hv
  · intro i b1 hb1 _ hr
    rw [one i b1 hb1] at hr; cases hr
  · intro i b1 hb1
    rw [one i b1 hb1]
    exact rowB_fr _ _ _ _ _
def fmG (c : Cells) (mf : Nat → Nat) : List V1 → List (Option Blk) → Option (List V1 × List Prop × Nat × Nat) := fun vs bs => match vs, bs with
  | [.one (.sl b 0 n _)], [some k] => some ([], [k.live = true, ∀ φ, concs φ k.ps = concs φ (rowPs c shR (mf n) 0), n ≤ mf n, n ≤ maxLen, All (rowOb c shR (mf n) 0)], b, n)
  | [.one (.sx b n)], [some k] => some ([], [k.live = true, ∀ φ, concs φ k.ps = concs φ (rowPs c shR (mf n) 0), n ≤ mf n, n ≤ maxLen, All (rowOb c shR (mf n) 0)], b, n)
  | _, _ => none
noncomputable def fmR (c : Cells) (m : Nat → Nat) : FuncId → List V1 → List (Option Blk) → Option (List Prop × AV) := fun f vs bs => match f with
  | 6 => match fmG c m vs bs with | some (_, ob, _, n) => some (ob, bV (risB c n)) | none => none
  | 7 => match fmG c m vs bs with | some (_, ob, _, n) => some (ob, bV (risB c n)) | none => none
  | _ => none
theorem blks_sl {mem : List Blk} {b off n cap : Nat} {k : Blk} (h : blks mem [.one (.sl b off n cap)] = [some k]) : mem[b]? = some k := by
  simp only [blks, blkOf, List.map_cons, List.map_nil, List.cons.injEq, and_true] at h
  split at h
  · rename_i k' hk
    split at h
    · rw [hk]; exact h
    · simp at h
  · simp at h
theorem blks_sx {mem : List Blk} {b n : Nat} {k : Blk} (h : blks mem [.one (.sx b n)] = [some k]) : mem[b]? = some k := by
  simp only [blks, blkOf, List.map_cons, List.map_nil, List.cons.injEq, and_true] at h
  split at h
  · rename_i k' hk
    split at h
    · rw [hk]; exact h
    · simp at h
  · simp at h
theorem fmG_ok {c : Cells} {m : Nat → Nat} {f : FuncId} (hf : f = 6 ∨ f = 7) {vs : List V1} {mem : List Blk} {x : List V1} {ob : List Prop} {b n : Nat} (h : fmG c m vs (blks mem vs) = some (x, ob, b, n)) (ho : All ob) {w0 w : World} {φ : Loc} (hm : MRel w0 φ mem w) :
    Calls Try.prog f (vs.map (V1.conc φ)).toArray w fun e w' => e = .returned ((bV (risB c n)).conc φ) ∧ Below w.heap.size w w' := by
  unfold fmG at h
  split at h
  · rename_i b' n' cap k hb
    simp only [Option.some.injEq, Prod.mk.injEq] at h
    obtain ⟨_, rfl, rfl, rfl⟩ := h
    obtain ⟨hl, hps, hn, hmx, hob, _⟩ := ho
    have hm' := moveRow 31 hm (blks_sl hb) hl hps
    have e1 : ((([V1.one (.sl b' 0 n' cap)] : List V1).map (V1.conc φ)).toArray : Array Value) = #[(V1.one (.sl 0 0 n' cap)).conc (fun _ => φ b')] := rfl
    have e2 : (bV (risB c n')).conc φ = Value.bool (risB c n') := rfl
    rw [e1, e2]
    rcases hf with rfl | rfl
    · exact rising6 (cap := cap) hn hmx hob hm'
    · exact rising7 (cap := cap) hn hmx hm'
  · rename_i b' n' k hb
    simp only [Option.some.injEq, Prod.mk.injEq] at h
    obtain ⟨_, rfl, rfl, rfl⟩ := h
    obtain ⟨hl, hps, hn, hmx, hob, _⟩ := ho
    have hm' := moveRow 31 hm (blks_sx hb) hl hps
    have e1 : ((([V1.one (.sx b' n')] : List V1).map (V1.conc φ)).toArray : Array Value) = #[(V1.one (.sl 0 0 n' (φ b').2.2)).conc (fun _ => φ b')] := rfl
    have e2 : (bV (risB c n')).conc φ = Value.bool (risB c n') := rfl
    rw [e1, e2]
    rcases hf with rfl | rfl
    · exact rising6 (cap := (φ b').2.2) hn hmx hob hm'
    · exact rising7 (cap := (φ b').2.2) hn hmx hm'
  · simp at h
theorem fmR_ok (c : Cells) (m : Nat → Nat) : ∀ f vs mem ob r, fmR c m f vs (blks mem vs) = some (ob, r) → All ob → ∀ w0 φ w, MRel w0 φ mem w → Calls Try.prog f (vs.map (V1.conc φ)).toArray w fun e w' => e = .returned (r.conc φ) ∧ Below w.heap.size w w' := by
  intro f vs mem ob r h ho w0 φ w hm
  unfold fmR at h
  split at h
  · split at h
    · rename_i hg
      simp only [Option.some.injEq, Prod.mk.injEq] at h
      obtain ⟨rfl, rfl⟩ := h
      exact fmG_ok (.inl rfl) hg ho hm
    · simp at h
  · split at h
    · rename_i hg
      simp only [Option.some.injEq, Prod.mk.injEq] at h
      obtain ⟨rfl, rfl⟩ := h
      exact fmG_ok (.inr rfl) hg ho hm
    · simp at h
  · simp at h
/-! on no slice -/
def nilV : V1 := .one (.v (.slice none 0 0))
def c0 : Cells := ⟨fun _ => false, fun _ => ByteArray.empty, fun _ => 0, fun _ => 0⟩
def NA : List AV := slots 35 [(0, .val nilV)]
def NB (b : Nat) : List AV := slots 35 [(0, .val nilV), (3, mV b)]
def NL (b : Nat) : List AV := slots 35 [(0, .val nilV), (3, mV b), (9, .val nilV), (10, iV 0), (11, iV 0)]
theorem ng0 : runTo (ER c0) 1000 ((ER c0).S 6) (sL K6) (vals [nilV] ++ undefs 34) [] [] NA 0 = some ([], .normal, NA, []) := by kernel_rfl
theorem ng1 (b : Nat) : preTo (ER c0) 1000 ((ER c0).S 6) o1 [opAt o1 1] (putA NA (some 8) (mV b)) [] [] (NB b) 0 = some ([], NB b, []) := by kernel_rfl
theorem ng2 (b : Nat) : runTo (ER c0) 1000 ((ER c0).S 6) (.seq (sL (sL (sR (sR K6)))) (.block 0 (.loop B6))) (NB b) [] [false] (NL b) 0 = some ([decide ((0 : Int) < 0) = false], .normal, NL b, []) := by kernel_rfl
theorem ng10 (b : Nat) : runTo (ER c0) 1000 ((ER c0).S 6) (sR (sR (sR K6))) (NL b) [] [] (TF true) 0 = some ([], .ret, TF true, []) := by kernel_rfl
theorem rs60 (r : Bool) : resA Try.prog (TF r) [] Try.f6.results.toList = some (bV r) := by kernel_rfl
theorem nil6 (w : World) : Calls Try.prog 6 #[.slice none 0 0] w fun e w' => e = .returned (.bool true) ∧ Below w.heap.size w w' := by
  refine calls_of_wp Try.func6 bd6 ?_
  have hm : ∀ w : World, MRel w (fun _ => (0, 0, 0)) [] w := fun w => ⟨Below.refl _ _, by simp, by simp, by simp, by simp, by simp⟩
  have r0 := Rel.mk' (fn := Try.f6) (vs := [nilV]) (hm w) (by intro v hv; simp only [List.mem_cons, List.not_mem_nil, or_false] at hv; subst hv; rfl)
  rw [nt6] at r0 ⊢
  rw [K6_eq]
  refine wp_seq (runs_at (envER c0) (M' := []) ng0 trivial (by kernel_rfl) r0 ?_)
  intro φ1 a1 w1 g1 r1
  show (Code.seq _ _).wp Try.prog _ a1 w1
  refine wp_seq (wp_region ?_)
  rw [o1_rng]
  refine wpOps_step op1 op1g (make_wp op1o ?_)
  rw [op1d]
  have b2 : Below w.heap.size w (w1.alloc (.map #[] 0)) := r1.mrel.below.alloc r1.mrel.below.size _
  have r1' : Rel w φ1 NA [] a1 (w1.alloc (.map #[] 0)) := ⟨r1.tmps, r1.defs, r1.wft, ⟨b2, by simp, by simp, by simp, by simp, by simp⟩⟩
  generalize w1.heap.size = b
  have r2 := r1'.put (some 8) (v := mV b) (Agree.refl _ _) (Nat.le_refl _) r1'.mrel rfl
  refine preTo_wp (envER c0) (M' := []) 1 [] (ng1 b) trivial (by kernel_rfl) l1 r2 ?_
  intro φ3 a3 w3 g3 r3
  show (Code.seq _ _).wp Try.prog _ a3 w3
  refine wp_seq (runs_at (envER c0) (M' := []) (ng2 b) ⟨by decide, trivial⟩ (by kernel_rfl) r3 ?_)
  intro φ4 a4 w4 g4 r4
  show (sR (sR (sR K6))).wp Try.prog _ a4 w4
  refine runs_at (envER c0) (M' := []) (ng10 b) trivial (by kernel_rfl) r4 ?_
  intro φ5 a5 w5 g5 r5
  exact ⟨r5.defs, _, resA_run (rs60 true) r5, rfl, r5.mrel.below⟩
noncomputable def SN7 : FuncId → Nat → Bool := fun f t => match f with | 7 => Nat.beq t 8 | _ => false
noncomputable def EN7 : Env := mkE [] SN7
theorem rn7 : callR EN7 1000 7 [nilV] [false] = some ([decide ((0 : Int) < 0) = false], bV true) := by kernel_rfl
theorem nil7 : Spec 7 [nilV] (bV true) := spec_run (envMk (L := []) trivial SN7) rfl rn7 ⟨by decide, trivial⟩ rfl rfl
theorem nil6s : Spec 6 [nilV] (bV true) := fun _ w => nil6 w
def fnN (vs : List V1) : Option (List Prop × AV) := match vs with | [.one (.v (.slice none 0 0))] => some ([], bV true) | _ => none
theorem ctN6 : CTok ⟨6, fnN⟩ := by
  intro vs ob r h _
  simp only [fnN] at h
  split at h
  · simp only [Option.some.injEq, Prod.mk.injEq] at h
    obtain ⟨rfl, rfl⟩ := h
    exact nil6s
  · simp at h
theorem ctN7 : CTok ⟨7, fnN⟩ := by
  intro vs ob r h _
  simp only [fnN] at h
  split at h
  · simp only [Option.some.injEq, Prod.mk.injEq] at h
    obtain ⟨rfl, rfl⟩ := h
    exact nil7
  · simp at h
/-- an environment with contracts on rows, too. -/
noncomputable def addM (E : Env) (g : FuncId → List V1 → List (Option Blk) → Option (List Prop × AV)) : Env := { E with fm := g }
theorem envAddM {E : Env} (hE : EnvOK E) {g : FuncId → List V1 → List (Option Blk) → Option (List Prop × AV)} (h : ∀ f vs mem ob r, g f vs (blks mem vs) = some (ob, r) → All ob → ∀ w0 φ w, MRel w0 φ mem w → Calls E.P f (vs.map (V1.conc φ)).toArray w fun e w' => e = .returned (r.conc φ) ∧ Below w.heap.size w w') : EnvOK (addM E g) :=
  ⟨hE.mixed, hE.fns, h, hE.lps, hE.fbs⟩
end Go.Ev

namespace Go.Ev
open Go Go.Proofs Go.RowKit
/-! wakes -/
def w1 : ByteArray := ⟨#[109]⟩
def w2 : ByteArray := ⟨#[109, 47, 49]⟩
def cW : Cells := ⟨fun _ => false, fun j => match j with | 0 => w1 | 4 => w2 | 8 => w1 | 12 => w1 | _ => ⟨#[]⟩, fun _ => 0, fun j => match j with | 1 => 1 | 5 => 1 | _ => 2⟩
noncomputable def SW : FuncId → Nat → Bool := fun f t => match f with | 8 => Nat.beq t 8 || Nat.beq t 15 | _ => false
noncomputable def EW : Env := addM (mkE [] SW) (fmR cW (fun n => n))
theorem r8w : callR EW 1000 8 [] [true, true] =
    some ([true = true, ∀ φ : Loc, concs φ (rowPs cW shR 3 0) = concs φ (rowPs cW shR 3 0), 3 ≤ 3, 3 ≤ maxLen, All (rowOb cW shR 3 0), risB cW 3 = true, true = true, ∀ φ : Loc, concs φ (rowPs cW shR 4 0) = concs φ (rowPs cW shR 4 0), 4 ≤ 4, 4 ≤ maxLen, All (rowOb cW shR 4 0), (!risB cW 4) = true], bV true) := by kernel_rfl
theorem risW3 : RisP cW 3 := by
  intro i hi k hk h
  have : (i = 1 ∧ k = 0) ∨ (i = 2 ∧ k = 0) ∨ (i = 2 ∧ k = 1) := by omega
  rcases this with ⟨rfl, rfl⟩ | ⟨rfl, rfl⟩ | ⟨rfl, rfl⟩
  · exact absurd (congrArg ByteArray.size h) (by decide)
  · decide
  · exact absurd (congrArg ByteArray.size h) (by decide)
theorem risW4 : ¬ RisP cW 4 := fun h => absurd (h 3 (by omega) 2 (by omega) rfl) (by decide)
theorem obW : All (rowOb cW shR 4 0) := by
  refine ⟨?_, ?_, ?_, ?_, ?_, ?_, ?_, ?_, ?_, ?_, ?_, ?_, ?_, ?_, ?_, ?_, trivial⟩ <;> first | exact (by decide : (1 : Nat) ≤ maxLen) | exact (by decide : (3 : Nat) ≤ maxLen) | exact (by decide : (0 : Nat) ≤ maxLen) | exact (by decide : (1 : Nat) < 18446744073709551616) | exact (by decide : (2 : Nat) < 18446744073709551616)
theorem obW3 : All (rowOb cW shR 3 0) := by
  refine ⟨?_, ?_, ?_, ?_, ?_, ?_, ?_, ?_, ?_, ?_, ?_, ?_, trivial⟩ <;> first | exact (by decide : (1 : Nat) ≤ maxLen) | exact (by decide : (3 : Nat) ≤ maxLen) | exact (by decide : (0 : Nat) ≤ maxLen) | exact (by decide : (1 : Nat) < 18446744073709551616) | exact (by decide : (2 : Nat) < 18446744073709551616)
theorem wakes8 : Spec 8 [] (bV true) := spec_run (envAddM (envMk (L := []) trivial SW) (fmR_ok cW (fun n => n))) rfl r8w
  ⟨rfl, fun _ => rfl, by decide, by decide, obW3, risB_t risW3, rfl, fun _ => rfl, by decide, by decide, obW, by rw [risB_f risW4]; rfl, trivial⟩ rfl rfl
end Go.Ev

namespace Go.Ev
open Go Go.Proofs Go.RowKit
def shC : List SK := [.s, .s, .s, .s, .u32, .u32, .u32, .u32, .u32]
def MC (c : Cells) (len : Nat) : List Blk := [rowB c shC len 38]
theorem wfC {n : Nat} {l : List (Nat × AV)} (c : Cells) (m : Nat) (h : tmsWf 1 (slots n l) = true) : wfS (slots n l) (MC c m) = true := wfS_of (by
  intro b hb
  simp only [MC, List.mem_cons, List.not_mem_nil, or_false] at hb
  rcases hb with rfl
  exact rowB_free _ _ _ _) h
noncomputable def EH (c : Cells) : Env := mkE [ldC 9 fun off => .one (.v (.string (sA c off)))] fun f t => match f with | 9 => [10, 13, 20, 27, 34, 41, 24, 31, 38, 45, 16, 2000022, 2000029, 2000036, 2000043].any (Nat.beq t) | _ => false
theorem envEH (c : Cells) : EnvOK (EH c) := envMk (show AllCT [ldC 9 fun off => .one (.v (.string (sA c off)))] from ⟨ldC_ok _ _, trivial⟩) _
def TH (len cap : Nat) (n : Int) (i : Int) : List AV := slots 48 [(0, sV' len cap), (2, bV false), (3, iV n), (4, iV i)]
def THE (len cap : Nat) (n : Int) : List AV := slots 48 [(0, sV' len cap), (2, bV false), (3, iV n)]
theorem wfTH (c : Cells) (m len cap : Nat) (n i : Int) : wfS (TH len cap n i) (MC c m) = true := wfC c m (by kernel_rfl)
theorem wfTHE (c : Cells) (m len cap : Nat) (n : Int) : wfS (THE len cap n) (MC c m) = true := wfC c m (by kernel_rfl)
theorem ag9 : isAggA Try.prog 9 = some false := by kernel_rfl
theorem ld9 {c : Cells} {len i : Nat} (f : Nat) (hf : f < 4) (hi : i < len) : LoadsAs Try.prog 9 (rowPs c shC len 0) (0 + i * 9 + f) (.one (.v (.string (sA c (0 + i * 9 + f))))) := by
  have h9 : shSz shC = 9 := rfl
  match f, hf with
  | 0, _ => exact loads_fld (sh := shC) (i := i) [] .s [.s, .s, .s, .u32, .u32, .u32, .u32, .u32] rfl ag9 hi (by rw [h9]; simp [shSz]) rfl
  | 1, _ => exact loads_fld (sh := shC) (i := i) [.s] .s [.s, .s, .u32, .u32, .u32, .u32, .u32] rfl ag9 hi (by rw [h9]; simp [shSz, SK.sz]) rfl
  | 2, _ => exact loads_fld (sh := shC) (i := i) [.s, .s] .s [.s, .u32, .u32, .u32, .u32, .u32] rfl ag9 hi (by rw [h9]; simp [shSz, SK.sz]) rfl
  | 3, _ => exact loads_fld (sh := shC) (i := i) [.s, .s, .s] .s [.u32, .u32, .u32, .u32, .u32] rfl ag9 hi (by rw [h9]; simp [shSz, SK.sz]) rfl
def hn (c : Cells) (n : Int) (i : Nat) : Int := n + ((sA c (0 + i * 9 + 0)).size : Int) + ((sA c (0 + i * 9 + 1)).size : Int) + ((sA c (0 + i * 9 + 2)).size : Int) + ((sA c (0 + i * 9 + 3)).size : Int)
def hv (c : Cells) : Nat → Nat → Int → Int
  | 0, _, n => n
  | k + 1, i, n => bif decide (n < 1048576) then hv c k (i + 1) (hn c n i) else n
theorem hvA (c : Cells) (len : Nat) (cap : Nat) (n : Int) (i : Nat) : runTo (EH c) 1000 (Env.S (EH c) 9) (bodyOf Try.prog 9 3) (TH len cap n (↑i : Int)) (MC c len) [true, true] (TH len cap (hn c n i) ((↑i : Int) + (1 : Int))) 1 =
    some ([decide ((↑i : Int) < (↑len : Int)) = true, decide (n < (1048576 : Int)) = true, (0 : Int) ≤ (↑i : Int) ∧ (↑i : Int) < (↑len : Int), LoadsAs Try.prog 9 (rowPs c shC len 0) (0 + i * 9 + 0) (V1.one (Atom.v (Value.string (sA c (0 + i * 9 + 0))))), inI (n + (↑(ByteArray.size (sA c (0 + i * 9 + 0))) : Int)), (0 : Int) ≤ (↑i : Int) ∧ (↑i : Int) < (↑len : Int), LoadsAs Try.prog 9 (rowPs c shC len 0) (0 + i * 9 + 1) (V1.one (Atom.v (Value.string (sA c (0 + i * 9 + 1))))), inI (n + (↑(ByteArray.size (sA c (0 + i * 9 + 0))) : Int) + (↑(ByteArray.size (sA c (0 + i * 9 + 1))) : Int)), (0 : Int) ≤ (↑i : Int) ∧ (↑i : Int) < (↑len : Int), LoadsAs Try.prog 9 (rowPs c shC len 0) (0 + i * 9 + 2) (V1.one (Atom.v (Value.string (sA c (0 + i * 9 + 2))))), inI (n + (↑(ByteArray.size (sA c (0 + i * 9 + 0))) : Int) + (↑(ByteArray.size (sA c (0 + i * 9 + 1))) : Int) + (↑(ByteArray.size (sA c (0 + i * 9 + 2))) : Int)), (0 : Int) ≤ (↑i : Int) ∧ (↑i : Int) < (↑len : Int), LoadsAs Try.prog 9 (rowPs c shC len 0) (0 + i * 9 + 3) (V1.one (Atom.v (Value.string (sA c (0 + i * 9 + 3))))), inI (n + (↑(ByteArray.size (sA c (0 + i * 9 + 0))) : Int) + (↑(ByteArray.size (sA c (0 + i * 9 + 1))) : Int) + (↑(ByteArray.size (sA c (0 + i * 9 + 2))) : Int) + (↑(ByteArray.size (sA c (0 + i * 9 + 3))) : Int)), inI ((↑i : Int) + (1 : Int))], .normal, TH len cap (hn c n i) ((i : Int) + 1), MC c len) := by kernel_rfl
theorem hvB (c : Cells) (len : Nat) (cap : Nat) (n : Int) (i : Nat) : runTo (EH c) 1000 (Env.S (EH c) 9) (bodyOf Try.prog 9 3) (TH len cap n (↑i : Int)) (MC c len) [true, false] (THE len cap n) 1 =
    some ([decide ((↑i : Int) < (↑len : Int)) = true, decide (n < (1048576 : Int)) = false], .exit 0, THE len cap n, MC c len) := by kernel_rfl
theorem hvC (c : Cells) (len : Nat) (cap : Nat) (n : Int) (i : Nat) : runTo (EH c) 1000 (Env.S (EH c) 9) (bodyOf Try.prog 9 3) (TH len cap n (↑i : Int)) (MC c len) [false] (THE len cap n) 1 =
    some ([decide ((↑i : Int) < (↑len : Int)) = false], .exit 0, THE len cap n, MC c len) := by kernel_rfl
abbrev BB : Nat := reachBytes
theorem BB_lt : BB < 140737488355328 := by decide
theorem at_lt {len i f : Nat} (hi : i < len) (hf : f < 9) : 0 + i * 9 + f < len * 9 := by omega
theorem hn_le (c : Cells) (n : Int) (i : Nat) : n ≤ hn c n i := by unfold hn; omega
theorem heavyG (c : Cells) (len cap : Nat) (hB : ∀ j, j < len * 9 → (sA c j).size ≤ BB) (hl : len ≤ maxLen) : ∀ (k i : Nat) (n : Int), i + k = len → 0 ≤ n → GoesN Try.prog (bodyOf Try.prog 9 3) (k + 1) (.exit 0) (TH len cap n (i : Int)) (MC c len) (THE len cap (hv c k i n)) (MC c len)
  | 0, i, n, hk, _ => GoesN.out (by simp) (Runs.goes (envEH c) ⟨_, _, hvC c len cap n i, ⟨decide_eq_false (by omega), trivial⟩, wfTHE _ _ _ _ _⟩)
  | k + 1, i, n, hk, h0 => by
    have hi : i < len := by omega
    have hii : (0 : Int) ≤ (i : Int) ∧ (i : Int) < (len : Int) := by omega
    have hll : decide ((i : Int) < (len : Int)) = true := decide_eq_true (by omega)
    have hm : maxLen = 9223372036854775807 := by decide
    by_cases hn0 : n < 1048576
    · have s0 := hB _ (at_lt (f := 0) hi (by omega))
      have s1 := hB _ (at_lt (f := 1) hi (by omega))
      have s2 := hB _ (at_lt (f := 2) hi (by omega))
      have s3 := hB _ (at_lt (f := 3) hi (by omega))
      have hb := BB_lt
      have hd : decide (n < 1048576) = true := decide_eq_true hn0
      have ih := heavyG c len cap hB hl k (i + 1) (hn c n i) (by omega) (by have := hn_le c n i; omega)
      rw [show ((i + 1 : Nat) : Int) = (i : Int) + 1 by omega] at ih
      show GoesN Try.prog (bodyOf Try.prog 9 3) (k + 1 + 1) (.exit 0) (TH len cap n (i : Int)) (MC c len) (THE len cap (bif decide (n < 1048576) then hv c k (i + 1) (hn c n i) else n)) (MC c len)
      rw [hd, cond_true]
      refine GoesN.cons (M1 := MC c len) rfl (Runs.goes (envEH c) ⟨_, _, hvA c len cap n i, ⟨hll, hd, hii, ld9 _ (by omega) hi, ?_, hii, ld9 _ (by omega) hi, ?_, hii, ld9 _ (by omega) hi, ?_, hii, ld9 _ (by omega) hi, ?_, ?_, trivial⟩, wfTH _ _ _ _ _ _⟩) ih
      all_goals (unfold inI; omega)
    · have hd : decide (n < 1048576) = false := decide_eq_false hn0
      show GoesN Try.prog (bodyOf Try.prog 9 3) (k + 1 + 1) (.exit 0) (TH len cap n (i : Int)) (MC c len) (THE len cap (bif decide (n < 1048576) then hv c k (i + 1) (hn c n i) else n)) (MC c len)
      rw [hd, cond_false]
      exact GoesN.out (by simp) (Runs.goes (envEH c) ⟨_, _, hvB c len cap n i, ⟨hll, hd, trivial⟩, wfTHE _ _ _ _ _⟩)
/-- Heavy's loop, in a memory that begins with the rows. -/
noncomputable def sumH (c : Cells) (len cap : Nat) : List AV → List Blk → List Bool → CoR := sumC (TH len cap (len : Int) ((0 : Nat) : Int)) (MC c len) (THE len cap (hv c len 0 (len : Int))) (MC c len) (.exit 0)
theorem sumH_ok (c : Cells) (len cap : Nat) (hB : ∀ j, j < len * 9 → (sA c j).size ≤ BB) (hl : len ≤ maxLen) : SumOK Try.prog (.loop (bodyOf Try.prog 9 3)) (sumH c len cap) :=
  sumC_ok rfl (heavyG c len cap hB hl len 0 (len : Int) (by omega) (by omega)).loop
noncomputable def EH9 (c : Cells) (len cap : Nat) : Env := addL (EH c) 3 (bodyOf Try.prog 9 3) (sumH c len cap)
theorem run9 (c : Cells) (len cap : Nat) : dropM (callBy (EH9 c len cap) (evalC (EH9 c len cap) 1000) 9 [V1.one (.sl 0 0 len cap)] (MC c len) []) =
    some ([bodyOf Try.prog 9 3 = bodyOf Try.prog 9 3, (TH len cap (len : Int) ((0 : Nat) : Int), MC c len) = (TH len cap (len : Int) ((0 : Nat) : Int), MC c len), wfS (TH len cap (len : Int) ((0 : Nat) : Int)) (MC c len) = true], bV (decide ((9000 : Int) < hv c len 0 (len : Int)))) := by kernel_rfl
theorem heavy9 {c : Cells} {len cap : Nat} (hB : ∀ j, j < len * 9 → (sA c j).size ≤ BB) (hl : len ≤ maxLen) {w : World} {φ : Loc} (hm : MRel w φ (MC c len) w) :
    Calls Try.prog 9 #[(V1.one (.sl 0 0 len cap)).conc φ] w fun e w' => e = .returned (.bool (decide ((9000 : Int) < hv c len 0 (len : Int)))) ∧ Below w.heap.size w w' := by
  obtain ⟨c', m', h'⟩ := dropM_some (run9 c len cap)
  have hE : EnvOK (EH9 c len cap) := envAddL (envEH c) (sumH_ok c len cap hB hl)
  refine (callBy_ok hE (evalC_ok hE 1000) _ _ _ _ _ _ _ _ h' ⟨rfl, rfl, wfTH _ _ _ _ _ _, trivial⟩ w φ w hm (by simp [V1.wf, Nat.blt, MC])).mono ?_
  rintro e w' ⟨φ', rfl, _, _, hm', _⟩
  exact ⟨rfl, hm'.below⟩
noncomputable def SN9 : FuncId → Nat → Bool := fun f t => match f with | 9 => Nat.beq t 10 | _ => false
theorem rn9 : callR (mkE [] SN9) 1000 9 [nilV] [false] = some ([decide ((0 : Int) < 0) = false], bV false) := by kernel_rfl
theorem nil9 : Spec 9 [nilV] (bV false) := spec_run (envMk (L := []) trivial SN9) rfl rn9 ⟨by decide, trivial⟩ rfl rfl
def fnN9 (vs : List V1) : Option (List Prop × AV) := match vs with | [.one (.v (.slice none 0 0))] => some ([], bV false) | _ => none
theorem ctN9 : CTok ⟨9, fnN9⟩ := by
  intro vs ob r h _
  simp only [fnN9] at h
  split at h
  · simp only [Option.some.injEq, Prod.mk.injEq] at h
    obtain ⟨rfl, rfl⟩ := h
    exact nil9
  · simp at h
/-- what Heavy says of these rows, whatever it is. -/
noncomputable def fm9 (c : Cells) (len : Nat) : List V1 → List (Option Blk) → Option (List Prop × AV) := fun vs bs => match vs, bs with
  | [.one (.sl _ 0 n _)], [some k] => some ([k.live = true, ∀ φ, concs φ k.ps = concs φ (rowPs c shC len 0), n = len, len ≤ maxLen, ∀ j, j < len * 9 → (sA c j).size ≤ BB], bV (decide ((9000 : Int) < hv c len 0 (len : Int))))
  | _, _ => none
theorem fm9_ok {c : Cells} {len : Nat} {vs : List V1} {mem : List Blk} {ob : List Prop} {r : AV} (h : fm9 c len vs (blks mem vs) = some (ob, r)) (ho : All ob) {w0 w : World} {φ : Loc} (hm : MRel w0 φ mem w) :
    Calls Try.prog 9 (vs.map (V1.conc φ)).toArray w fun e w' => e = .returned (r.conc φ) ∧ Below w.heap.size w w' := by
  unfold fm9 at h
  split at h
  · rename_i b' n' cap k hb
    simp only [Option.some.injEq, Prod.mk.injEq] at h
    obtain ⟨rfl, rfl⟩ := h
    obtain ⟨hl, hps, rfl, hmx, hB, _⟩ := ho
    have hm' := moveRow 38 hm (blks_sl hb) hl hps
    have e1 : ((([V1.one (.sl b' 0 n' cap)] : List V1).map (V1.conc φ)).toArray : Array Value) = #[(V1.one (.sl 0 0 n' cap)).conc (fun _ => φ b')] := rfl
    rw [e1]
    exact heavy9 (cap := cap) hB hmx hm'
  · simp at h
/-- both: on releases, and on asks. -/
noncomputable def fmB (c : Cells) (m : Nat → Nat) (cE : Cells) (lenE : Nat) : FuncId → List V1 → List (Option Blk) → Option (List Prop × AV) := fun f vs bs => match f with
  | 9 => fm9 cE lenE vs bs
  | f => fmR c m f vs bs
theorem fmB_ok (c : Cells) (m : Nat → Nat) (cE : Cells) (lenE : Nat) : ∀ f vs mem ob r, fmB c m cE lenE f vs (blks mem vs) = some (ob, r) → All ob → ∀ w0 φ w, MRel w0 φ mem w → Calls Try.prog f (vs.map (V1.conc φ)).toArray w fun e w' => e = .returned (r.conc φ) ∧ Below w.heap.size w w' := by
  intro f vs mem ob r h ho w0 φ w hm
  unfold fmB at h
  split at h
  · exact fm9_ok h ho hm
  · exact fmR_ok c m _ vs mem ob r h ho w0 φ w hm
end Go.Ev

namespace Go.Ev
open Go Go.Proofs Go.RowKit
abbrev OE := Option (Nat × Nat)
def bx (z : Int) (m cap : Nat) (xE : Atom) : Blk := ⟨[.a (.sl 0 0 m cap), .a (.i z), .a xE], 25, true, false, 0⟩
def M2 (c : Cells) (m : Nat) (cE : Cells) (lE : Nat) : List Blk := [rowB c shR m 31, rowB cE shC lE 38]
def M3 (c : Cells) (m cap : Nat) (cE : Cells) (lE : Nat) (xE : Atom) (z : Int) : List Blk := [rowB c shR m 31, rowB cE shC lE 38, bx z m cap xE]
def M4 (c : Cells) (m cap : Nat) (cE : Cells) (lE : Nat) (xE : Atom) (z : Int) : List Blk := [rowB c shR m 31, rowB cE shC lE 38, bx z m cap xE, bx z m cap xE]
noncomputable def L3 (c : Cells) : List CT := [⟨6, fnN⟩, ⟨7, fnN⟩, ⟨9, fnN9⟩, ⟨8, bT⟩, ldC 9 (fun off => .one (.v (.string (sA c off))))]
theorem L3_ok (c : Cells) : AllCT (L3 c) := ⟨ctN6, ctN7, ctN9, ctT wakes8, ldC_ok _ _, trivial⟩
noncomputable def S3 : FuncId → Nat → Bool := fun f t => match f with
  | 3 => [7, 12, 18, 24, 27, 29, 33, 14].any (Nat.beq t)
  | 5 => [12, 15, 23, 31, 39, 2000025, 2000033, 2000041, 27, 35, 43, 18, 45, 50].any (Nat.beq t)
  | _ => false
noncomputable def E3 (c : Cells) (m : Nat) (cE : Cells) (lE : Nat) : Env := addM (mkE (L3 c) S3) (fmB c (fun _ => m) cE lE)
theorem envE3 (c : Cells) (m : Nat) (cE : Cells) (lE : Nat) : EnvOK (E3 c m cE lE) := envAddM (envMk (L3_ok c) S3) (fmB_ok c (fun _ => m) cE lE)
def THL (n i : Int) : List AV := slots 57 [(1, pV 3), (2, bV false), (3, iV n), (4, iV i)]
def TM (i : Int) (was : Bool) : List AV := slots 36 [(1, pV 2), (2, bV false), (3, bV was), (4, iV i)]
def hnL (c : Cells) (n : Int) (i : Nat) : Int := n + ((sA c (0 + i * 4 + 0)).size : Int) + ((sA c (0 + i * 4 + 2)).size : Int) + ((sA c (0 + i * 4 + 3)).size : Int)
end Go.Ev

namespace Go.Ev
open Go Go.Proofs Go.RowKit
theorem hLA (c : Cells) (m : Nat) (cap : Nat) (cE : Cells) (lE : Nat) (xE : Atom) (z : Int) (n : Int) (i : Nat) : runTo (E3 c m cE lE) 1000 (Env.S (E3 c m cE lE) 5) (bodyOf Try.prog 5 3) (THL n (↑i : Int)) (M4 c m cap cE lE xE z) [true, true] (THL (hnL c n i) ((↑i : Int) + (1 : Int))) 4 =
    some ([decide ((↑i : Int) < (↑m : Int)) = true, decide (n < (1048576 : Int)) = true, (0 : Int) ≤ (↑i : Int) ∧ (↑i : Int) < (↑m : Int), LoadsAs Try.prog 9 (rowPs c shR m 0) (0 + i * 4 + 0) (V1.one (Atom.v (Value.string (sA c (0 + i * 4 + 0))))), inI (n + (↑(ByteArray.size (sA c (0 + i * 4 + 0))) : Int)), (0 : Int) ≤ (↑i : Int) ∧ (↑i : Int) < (↑m : Int), LoadsAs Try.prog 9 (rowPs c shR m 0) (0 + i * 4 + 2) (V1.one (Atom.v (Value.string (sA c (0 + i * 4 + 2))))), inI (n + (↑(ByteArray.size (sA c (0 + i * 4 + 0))) : Int) + (↑(ByteArray.size (sA c (0 + i * 4 + 2))) : Int)), (0 : Int) ≤ (↑i : Int) ∧ (↑i : Int) < (↑m : Int), LoadsAs Try.prog 9 (rowPs c shR m 0) (0 + i * 4 + 3) (V1.one (Atom.v (Value.string (sA c (0 + i * 4 + 3))))), inI (n + (↑(ByteArray.size (sA c (0 + i * 4 + 0))) : Int) + (↑(ByteArray.size (sA c (0 + i * 4 + 2))) : Int) + (↑(ByteArray.size (sA c (0 + i * 4 + 3))) : Int)), inI ((↑i : Int) + (1 : Int))], .normal, THL (hnL c n i) ((i : Int) + 1), M4 c m cap cE lE xE z) := by kernel_rfl
theorem hLB (c : Cells) (m : Nat) (cap : Nat) (cE : Cells) (lE : Nat) (xE : Atom) (z : Int) (n : Int) (i : Nat) : runTo (E3 c m cE lE) 1000 (Env.S (E3 c m cE lE) 5) (bodyOf Try.prog 5 3) (THL n (↑i : Int)) (M4 c m cap cE lE xE z) [true, false] (THL n (↑i : Int)) 4 =
    some ([decide ((↑i : Int) < (↑m : Int)) = true, decide (n < (1048576 : Int)) = false], .exit 0, THL n (i : Int), M4 c m cap cE lE xE z) := by kernel_rfl
theorem hLC (c : Cells) (m : Nat) (cap : Nat) (cE : Cells) (lE : Nat) (xE : Atom) (z : Int) (n : Int) (i : Nat) : runTo (E3 c m cE lE) 1000 (Env.S (E3 c m cE lE) 5) (bodyOf Try.prog 5 3) (THL n (↑i : Int)) (M4 c m cap cE lE xE z) [false] (THL n (↑i : Int)) 4 =
    some ([decide ((↑i : Int) < (↑m : Int)) = false], .exit 0, THL n (i : Int), M4 c m cap cE lE xE z) := by kernel_rfl
theorem mLA (c : Cells) (m : Nat) (cap : Nat) (cE : Cells) (lE : Nat) (xE : Atom) (z : Int) (i : Nat) (was : Bool) : runTo (E3 c m cE lE) 1000 (Env.S (E3 c m cE lE) 3) (bodyOf Try.prog 3 5) (TM (↑i : Int) was) (M3 c m cap cE lE xE z) [true, false, true, false] (TM ((↑i : Int) + (1 : Int)) (risB c i)) 3 =
    some ([decide ((↑i : Int) ≤ (↑m : Int)) = true, (0 : Int) ≤ (↑i : Int) ∧ (↑i : Int) ≤ (↑cap : Int), true = true, ∀ (φ : Loc), concs φ (Blk.ps (rowB c shR m 31)) = concs φ (rowPs c shR ((fun x => m) (i - 0)) 0), i - 0 ≤ m, i - 0 ≤ 9223372036854775808 - 1, All (rowOb c shR ((fun x => m) (i - 0)) 0), (0 : Int) ≤ (↑i : Int) ∧ (↑i : Int) ≤ (↑cap : Int), true = true, ∀ (φ : Loc), concs φ (Blk.ps (rowB c shR m 31)) = concs φ (rowPs c shR ((fun x => m) (i - 0)) 0), i - 0 ≤ m, i - 0 ≤ 9223372036854775808 - 1, All (rowOb c shR ((fun x => m) (i - 0)) 0), (!(risB c (i - 0) == risB c (i - 0))) = false, risB c (i - 0) = true, (!was) = false, inI ((↑i : Int) + (1 : Int))], .normal, TM ((i : Int) + 1) (risB c i), M3 c m cap cE lE xE z) := by kernel_rfl
theorem mLB (c : Cells) (m : Nat) (cap : Nat) (cE : Cells) (lE : Nat) (xE : Atom) (z : Int) (i : Nat) (was : Bool) : runTo (E3 c m cE lE) 1000 (Env.S (E3 c m cE lE) 3) (bodyOf Try.prog 3 5) (TM (↑i : Int) was) (M3 c m cap cE lE xE z) [true, false, false, false] (TM ((↑i : Int) + (1 : Int)) (risB c i)) 3 =
    some ([decide ((↑i : Int) ≤ (↑m : Int)) = true, (0 : Int) ≤ (↑i : Int) ∧ (↑i : Int) ≤ (↑cap : Int), true = true, ∀ (φ : Loc), concs φ (Blk.ps (rowB c shR m 31)) = concs φ (rowPs c shR ((fun x => m) (i - 0)) 0), i - 0 ≤ m, i - 0 ≤ 9223372036854775808 - 1, All (rowOb c shR ((fun x => m) (i - 0)) 0), (0 : Int) ≤ (↑i : Int) ∧ (↑i : Int) ≤ (↑cap : Int), true = true, ∀ (φ : Loc), concs φ (Blk.ps (rowB c shR m 31)) = concs φ (rowPs c shR ((fun x => m) (i - 0)) 0), i - 0 ≤ m, i - 0 ≤ 9223372036854775808 - 1, All (rowOb c shR ((fun x => m) (i - 0)) 0), (!(risB c (i - 0) == risB c (i - 0))) = false, risB c (i - 0) = false, false = false, inI ((↑i : Int) + (1 : Int))], .normal, TM ((i : Int) + 1) (risB c i), M3 c m cap cE lE xE z) := by kernel_rfl
theorem mLC (c : Cells) (m : Nat) (cap : Nat) (cE : Cells) (lE : Nat) (xE : Atom) (z : Int) (i : Nat) (was : Bool) : runTo (E3 c m cE lE) 1000 (Env.S (E3 c m cE lE) 3) (bodyOf Try.prog 3 5) (TM (↑i : Int) was) (M3 c m cap cE lE xE z) [false] (TM (↑i : Int) was) 3 =
    some ([decide ((↑i : Int) ≤ (↑m : Int)) = false], .exit 0, TM (i : Int) was, M3 c m cap cE lE xE z) := by kernel_rfl
end Go.Ev

namespace Go.Ev
open Go Go.Proofs Go.RowKit
def isE (a : Atom) : Prop := a = .v (.slice none 0 0) ∨ ∃ l k, a = .sl 1 0 l k
theorem bx_wf {k : Nat} (hk : 2 ≤ k) {z : Int} {m cap : Nat} {xE : Atom} (hx : isE xE) : allPtr (fun b => Nat.blt b k) (bx z m cap xE).ps = true := by
  have h0 : Nat.blt 0 k = true := by rw [Nat.blt]; exact Nat.ble_eq_true_of_le (by omega)
  have h1 : Nat.blt 1 k = true := by rw [Nat.blt]; exact Nat.ble_eq_true_of_le (by omega)
  rcases hx with rfl | ⟨l, k', rfl⟩ <;> simp [bx, allPtr, h0, h1]
theorem wf3 {n : Nat} {l : List (Nat × AV)} {c : Cells} {m cap : Nat} {cE : Cells} {lE : Nat} {xE : Atom} {z : Int} (hx : isE xE) (h : tmsWf 3 (slots n l) = true) : wfS (slots n l) (M3 c m cap cE lE xE z) = true := by
  unfold wfS
  simp only [M3, List.length_cons, List.length_nil]
  rw [h]
  simp only [memWf, rowB_free _ _ _ _ _, Bool.true_and, Bool.and_true]
  exact bx_wf (by omega) hx
theorem wf4 {n : Nat} {l : List (Nat × AV)} {c : Cells} {m cap : Nat} {cE : Cells} {lE : Nat} {xE : Atom} {z : Int} (hx : isE xE) (h : tmsWf 4 (slots n l) = true) : wfS (slots n l) (M4 c m cap cE lE xE z) = true := by
  unfold wfS
  simp only [M4, List.length_cons, List.length_nil]
  rw [h]
  simp only [memWf, rowB_free _ _ _ _ _, Bool.true_and, Bool.and_true, Bool.and_eq_true]
  exact ⟨bx_wf (by omega) hx, bx_wf (by omega) hx⟩
def hvL (c : Cells) : Nat → Nat → Int → Int
  | 0, _, n => n
  | k + 1, i, n => bif decide (n < 1048576) then hvL c k (i + 1) (hnL c n i) else n
def iL (c : Cells) : Nat → Nat → Int → Nat
  | 0, i, _ => i
  | k + 1, i, n => bif decide (n < 1048576) then iL c k (i + 1) (hnL c n i) else i
theorem ldS (c : Cells) {m i : Nat} (f : Nat) (hf : f = 0 ∨ f = 2 ∨ f = 3) (h : i < m) : LoadsAs Try.prog 9 (rowPs c shR m 0) (0 + i * 4 + f) (.one (.v (.string (sA c (0 + i * 4 + f))))) := by
  rcases hf with rfl | rfl | rfl
  · exact loads_fld [] .s [.u64, .s, .s] rfl agg9 h (by simp [shSz, shR, SK.sz]) rfl
  · exact loads_fld [.s, .u64] .s [.s] rfl agg9 h (by simp [shSz, shR, SK.sz]) rfl
  · exact loads_fld [.s, .u64, .s] .s [] rfl agg9 h (by simp [shSz, shR, SK.sz]) rfl
theorem heavyL {c : Cells} {m cap : Nat} {cE : Cells} {lE : Nat} {xE : Atom} {z : Int} (hx : isE xE) (hB : ∀ j, j < m * 4 → (sA c j).size ≤ BB) (hm : m ≤ maxLen) : ∀ (k i : Nat) (n : Int), i + k = m → 0 ≤ n →
    GoesN Try.prog (bodyOf Try.prog 5 3) (k + 1) (.exit 0) (THL n (i : Int)) (M4 c m cap cE lE xE z) (THL (hvL c k i n) ((iL c k i n : Nat) : Int)) (M4 c m cap cE lE xE z)
  | 0, i, n, hk, _ => GoesN.out (by simp) (Runs.goes (envE3 c m cE lE) ⟨_, _, hLC c m cap cE lE xE z n i, ⟨decide_eq_false (by omega), trivial⟩, wf4 hx (by kernel_rfl)⟩)
  | k + 1, i, n, hk, h0 => by
    have hi : i < m := by omega
    have hii : (0 : Int) ≤ (i : Int) ∧ (i : Int) < (m : Int) := by omega
    have hll : decide ((i : Int) < (m : Int)) = true := decide_eq_true (by omega)
    have hmm : m ≤ 9223372036854775807 := hm
    have hb := BB_lt
    show GoesN Try.prog (bodyOf Try.prog 5 3) (k + 1 + 1) (.exit 0) (THL n (i : Int)) (M4 c m cap cE lE xE z) (THL (bif decide (n < 1048576) then hvL c k (i + 1) (hnL c n i) else n) (((bif decide (n < 1048576) then iL c k (i + 1) (hnL c n i) else i) : Nat) : Int)) (M4 c m cap cE lE xE z)
    by_cases hn0 : n < 1048576
    · have s0 := hB (0 + i * 4 + 0) (by omega)
      have s2 := hB (0 + i * 4 + 2) (by omega)
      have s3 := hB (0 + i * 4 + 3) (by omega)
      have hd : decide (n < 1048576) = true := decide_eq_true hn0
      have ih := heavyL hx hB hm k (i + 1) (hnL c n i) (by omega) (by unfold hnL; omega) (cap := cap) (cE := cE) (lE := lE) (z := z)
      rw [show ((i + 1 : Nat) : Int) = (i : Int) + 1 by omega] at ih
      rw [hd, cond_true, cond_true]
      refine GoesN.cons (M1 := M4 c m cap cE lE xE z) rfl (Runs.goes (envE3 c m cE lE) ⟨_, _, hLA c m cap cE lE xE z n i, ⟨hll, hd, hii, ldS c 0 (by omega) hi, ?_, hii, ldS c 2 (by omega) hi, ?_, hii, ldS c 3 (by omega) hi, ?_, ?_, trivial⟩, wf4 hx (by kernel_rfl)⟩) ih
      all_goals (unfold inI; omega)
    · have hd : decide (n < 1048576) = false := decide_eq_false hn0
      rw [hd, cond_false, cond_false]
      exact GoesN.out (by simp) (Runs.goes (envE3 c m cE lE) ⟨_, _, hLB c m cap cE lE xE z n i, ⟨hll, hd, trivial⟩, wf4 hx (by kernel_rfl)⟩)
/-! the law's loop -/
noncomputable def wasB (c : Cells) : Nat → Bool
  | 0 => true
  | i + 1 => risB c i
theorem was_ok {c : Cells} {i : Nat} (h : risB c i = true) : wasB c i = true := by
  cases i with
  | zero => rfl
  | succ i =>
    show risB c i = true
    by_cases hr : RisP c i
    · exact risB_t hr
    · have : ¬ RisP c (i + 1) := fun h' => hr (h'.le (by omega))
      rw [risB_f this] at h; cases h
theorem bne_self (b : Bool) : (!(b == b)) = false := by cases b <;> rfl
theorem turnM {c : Cells} {m cap : Nat} {cE : Cells} {lE : Nat} {xE : Atom} {z : Int} (hx : isE xE) (hob : All (rowOb c shR m 0)) (hm : m ≤ BB) (hmc : m ≤ cap) {i : Nat} (hi : i ≤ m) :
    Goes Try.prog (bodyOf Try.prog 3 5) .normal (TM (i : Int) (wasB c i)) (M3 c m cap cE lE xE z) (TM ((i : Int) + 1) (risB c i)) (M3 c m cap cE lE xE z) := by
  have hbb := BB_lt
  have him : i - 0 ≤ 9223372036854775808 - 1 := by omega
  by_cases hr : risB c i = true
  · exact Runs.goes (envE3 c m cE lE) ⟨_, _, mLA c m cap cE lE xE z i (wasB c i), ⟨decide_eq_true (by omega), by omega, rfl, fun _ => rfl, by omega, him, hob, by omega, rfl, fun _ => rfl, by omega, him, hob, bne_self _, hr, by rw [was_ok hr]; rfl, by unfold inI; omega, trivial⟩, wf3 hx (by kernel_rfl)⟩
  · have hr : risB c i = false := by simpa using hr
    exact Runs.goes (envE3 c m cE lE) ⟨_, _, mLB c m cap cE lE xE z i (wasB c i), ⟨decide_eq_true (by omega), by omega, rfl, fun _ => rfl, by omega, him, hob, by omega, rfl, fun _ => rfl, by omega, him, hob, bne_self _, hr, rfl, by unfold inI; omega, trivial⟩, wf3 hx (by kernel_rfl)⟩
theorem loopM {c : Cells} {m cap : Nat} {cE : Cells} {lE : Nat} {xE : Atom} {z : Int} (hx : isE xE) (hob : All (rowOb c shR m 0)) (hm : m ≤ BB) (hmc : m ≤ cap) :
    Goes Try.prog (.loop (bodyOf Try.prog 3 5)) (.exit 0) (TM ((0 : Nat) : Int) true) (M3 c m cap cE lE xE z) (TM ((m + 1 : Nat) : Int) (risB c m)) (M3 c m cap cE lE xE z) := by
  refine loop_goes (N := m + 1) (k := 3) (T := fun i => TM (i : Int) (wasB c i)) (M := fun _ => M3 c m cap cE lE xE z) (by simp) (fun _ _ => rfl) (fun i hi => turnM hx hob hm hmc (by omega)) ?_
  exact Runs.goes (envE3 c m cE lE) ⟨_, _, mLC c m cap cE lE xE z (m + 1) (wasB c (m + 1)), ⟨decide_eq_false (by omega), trivial⟩, wf3 hx (by kernel_rfl)⟩
end Go.Ev

namespace Go.Ev
open Go Go.Proofs Go.RowKit
noncomputable def sumHL (c : Cells) (m cap : Nat) (cE : Cells) (lE : Nat) (xE : Atom) (z : Int) : List AV → List Blk → List Bool → CoR := sumC (THL (m : Int) ((0 : Nat) : Int)) (M4 c m cap cE lE xE z) (THL (hvL c m 0 (m : Int)) ((iL c m 0 (m : Int) : Nat) : Int)) (M4 c m cap cE lE xE z) (.exit 0)
noncomputable def sumM (c : Cells) (m cap : Nat) (cE : Cells) (lE : Nat) (xE : Atom) (z : Int) : List AV → List Blk → List Bool → CoR := sumC (TM ((0 : Nat) : Int) true) (M3 c m cap cE lE xE z) (TM ((m + 1 : Nat) : Int) (risB c m)) (M3 c m cap cE lE xE z) (.exit 0)
noncomputable def E13 (c : Cells) (m cap : Nat) (cE : Cells) (lE : Nat) (xE : Atom) (z : Int) : Env := addL (addL (E3 c m cE lE) 3 (bodyOf Try.prog 5 3) (sumHL c m cap cE lE xE z)) 5 (bodyOf Try.prog 3 5) (sumM c m cap cE lE xE z)
theorem envE13 {c : Cells} {m cap : Nat} {cE : Cells} {lE : Nat} {xE : Atom} {z : Int} (hx : isE xE) (hob : All (rowOb c shR m 0)) (hm : m ≤ BB) (hmc : m ≤ cap) (hB : ∀ j, j < m * 4 → (sA c j).size ≤ BB) : EnvOK (E13 c m cap cE lE xE z) :=
  envAddL (envAddL (envE3 c m cE lE) (sumC_ok rfl (heavyL hx hB (Nat.le_trans hm (by decide)) m 0 (m : Int) (by omega) (by omega)).loop)) (sumC_ok rfl (loopM hx hob hm hmc))
end Go.Ev

