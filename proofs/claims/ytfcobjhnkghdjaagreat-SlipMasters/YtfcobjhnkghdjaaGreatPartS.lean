/- Keyed sums, nodes, and the law, of every input -/
import Derived.Test.YtfcobjhnkghdjaaGreatPartR
import Derived.Test.YtfcobjhnkghdjaaGreatRows
namespace Go.Ev.H5
open Go Go.Proofs Go.RowKit
set_option maxRecDepth 100000
def ldO (t : TypeId) (g : Nat → V1) : CT := ⟨3000000 + t, fun vs => match vs with | [.one (.ptr _ off)] => some ([False], .val (g off)) | _ => none⟩
theorem ldO_ok (t : TypeId) (g : Nat → V1) : CTok (ldO t g) := by
 intro vs ob r h ho
 simp only [ldO] at h
 split at h
 ·simp only [Option.some.injEq, Prod.mk.injEq] at h
  obtain ⟨rfl, _⟩ := h
  exact ho.1.elim
 ·simp at h
abbrev BB : Nat := reachBytes
theorem BB_lt : BB = 140737488351232 := rfl
structure Lits where
 o : Nat → Option Addr
 n : Nat → Nat
 k : Nat → Nat
def Lits.v (l : Lits) (off : Nat) : Value := .slice (l.o off) (l.n off) (l.k off)
def xsL (l : Lits) : Nat → Atom := fun j => .v (l.v (0 + j * 5 + 4))
def ML (c : Cells) (l : Lits) (m : Nat) : List Blk := [blkX c (xsL l) m 28]
noncomputable def L9 (c : Cells) (l : Lits) : List CT := [ldO 9 (fun off => .one (.v (.string (sA c off)))), ldO 26 (fun off => .one (.v (l.v off)))]
theorem L9_ok (c : Cells) (l : Lits) : AllCT (L9 c l) := ⟨ldO_ok _ _, ldO_ok _ _, trivial⟩
noncomputable def S9h : FuncId → Nat → Bool := fun f t => match f with | 9 => memN t [10, 13, 20, 27, 35, 43, 2000022, 2000030, 2000038, 2000045, 24, 32, 40, 47, 16] | _ => false
noncomputable def E9 (c : Cells) (l : Lits) : Env := mkE (L9 c l) S9h
theorem envE9 (c : Cells) (l : Lits) : EnvOK (E9 c l) := envMk (L9_ok c l) S9h
def slN (len cap : Nat) : AV := .val (.one (.sl 0 0 len cap))
def T9 (len cap : Nat) (n i : Int) : List AV := slots 50 [(0, slN len cap), (3, iV n), (4, iV i)]
def T9x (len cap : Nat) (n : Int) : List AV := slots 50 [(0, slN len cap), (3, iV n)]
end Go.Ev.H5

namespace Go.Ev.H5
open Go Go.Proofs Go.RowKit
set_option maxRecDepth 100000
theorem ag9 : isAggA Tryz.prog 9 = some false := by kernel_rfl
theorem ag26 : isAggA Tryz.prog 26 = some false := by kernel_rfl
section
variable {c : Cells} {xs : Nat → Atom} {m i : Nat}
theorem ldX1 (h : i < m) : LoadsAs Tryz.prog 9 (rowsX c xs m 0) (0 + i * 5 + 1) (.one (.v (.string (sA c (0 + i * 5 + 1))))) := by
 rw [show 0 + i * 5 + 1 = 0 + i * 5 + 1 from rfl]
 refine loadsX h (by omega) ⟨ag9, fun φ => ?_⟩
 rw [Nat.zero_add]; rfl
theorem ldX2 (h : i < m) : LoadsAs Tryz.prog 9 (rowsX c xs m 0) (0 + i * 5 + 2 + 0) (.one (.v (.string (sA c (0 + i * 5 + 2 + 0))))) := by
 refine loadsX h (by omega) ⟨ag9, fun φ => ?_⟩
 rw [Nat.zero_add]; rfl
theorem ldX3 (h : i < m) : LoadsAs Tryz.prog 9 (rowsX c xs m 0) (0 + i * 5 + 2 + 1) (.one (.v (.string (sA c (0 + i * 5 + 2 + 1))))) := by
 rw [Nat.add_assoc (0 + i * 5)]
 refine loadsX h (by omega) ⟨ag9, fun φ => ?_⟩
 rw [Nat.zero_add]; rfl
theorem ldX4 (h : i < m) {x : Atom} (hx : xs i = x) : LoadsAs Tryz.prog 26 (rowsX c xs m 0) (0 + i * 5 + 4) (.one x) := by
 subst hx
 exact loadsX h (by omega) ⟨ag26, fun φ => rfl⟩
end
def hnX (c : Cells) (l : Lits) (n : Int) (i : Nat) : Int := n + ((sA c (0 + i * 5 + 1)).size : Int) + ((sA c (0 + i * 5 + 2 + 0)).size : Int) + ((sA c (0 + i * 5 + 2 + 1)).size : Int) + (l.n (0 + i * 5 + 4) : Int)
theorem h9a (c : Cells) (l : Lits) (len cap : Nat) (n : Int) (i : Nat) : runTo (E9 c l) 1000 ((E9 c l).S 9) (bodyOf Tryz.prog 9 3) (T9 len cap n (i : Int)) (ML c l len) [true, true] (T9 len cap (hnX c l n i) ((i : Int) + 1)) 1 =
  some ([decide ((i : Int) < (len : Int)) = true, decide (n < 1048576) = true, (0 : Int) ≤ (i : Int) ∧ (i : Int) < (len : Int), LoadsAs Tryz.prog 9 (rowsX c (xsL l) len 0) (0 + i * 5 + 1) (.one (.v (.string (sA c (0 + i * 5 + 1))))), inI (n + ((sA c (0 + i * 5 + 1)).size : Int)),
   (0 : Int) ≤ (i : Int) ∧ (i : Int) < (len : Int), LoadsAs Tryz.prog 9 (rowsX c (xsL l) len 0) (0 + i * 5 + 2 + 0) (.one (.v (.string (sA c (0 + i * 5 + 2 + 0))))), inI (n + ((sA c (0 + i * 5 + 1)).size : Int) + ((sA c (0 + i * 5 + 2 + 0)).size : Int)),
   (0 : Int) ≤ (i : Int) ∧ (i : Int) < (len : Int), LoadsAs Tryz.prog 9 (rowsX c (xsL l) len 0) (0 + i * 5 + 2 + 1) (.one (.v (.string (sA c (0 + i * 5 + 2 + 1))))), inI (n + ((sA c (0 + i * 5 + 1)).size : Int) + ((sA c (0 + i * 5 + 2 + 0)).size : Int) + ((sA c (0 + i * 5 + 2 + 1)).size : Int)),
   (0 : Int) ≤ (i : Int) ∧ (i : Int) < (len : Int), LoadsAs Tryz.prog 26 (rowsX c (xsL l) len 0) (0 + i * 5 + 4) (.one (.v (l.v (0 + i * 5 + 4)))), inI (hnX c l n i), inI ((i : Int) + 1)], .normal, T9 len cap (hnX c l n i) ((i : Int) + 1), ML c l len) := by kernel_rfl
theorem h9b (c : Cells) (l : Lits) (len cap : Nat) (n : Int) (i : Nat) : runTo (E9 c l) 1000 ((E9 c l).S 9) (bodyOf Tryz.prog 9 3) (T9 len cap n (i : Int)) (ML c l len) [true, false] (T9x len cap n) 1 =
  some ([decide ((i : Int) < (len : Int)) = true, decide (n < 1048576) = false], .exit 0, T9x len cap n, ML c l len) := by kernel_rfl
theorem h9c (c : Cells) (l : Lits) (len cap : Nat) (n : Int) (i : Nat) : runTo (E9 c l) 1000 ((E9 c l).S 9) (bodyOf Tryz.prog 9 3) (T9 len cap n (i : Int)) (ML c l len) [false] (T9x len cap n) 1 =
  some ([decide ((i : Int) < (len : Int)) = false], .exit 0, T9x len cap n, ML c l len) := by kernel_rfl
def hvX (c : Cells) (l : Lits) : Nat → Nat → Int → Int
 | 0, _, n => n
 | k + 1, i, n => bif decide (n < 1048576) then hvX c l k (i + 1) (hnX c l n i) else n
theorem hvX_succ (c : Cells) (l : Lits) (k i : Nat) (n : Int) : hvX c l (k + 1) i n = bif decide (n < 1048576) then hvX c l k (i + 1) (hnX c l n i) else n := rfl
theorem ML_free (c : Cells) (l : Lits) (m : Nat) : ∀ b ∈ ML c l m, Free b := by
 intro b hb
 simp only [ML, List.mem_cons, List.not_mem_nil, or_false] at hb
 subst hb
 exact fun f => rowsX_ptr _ _ f _ _ fun _ _ => rfl
theorem wfML {n : Nat} {s : List (Nat × AV)} (c : Cells) (l : Lits) (m : Nat) (h : tmsWf 1 (slots n s) = true) : wfS (slots n s) (ML c l m) = true := wfS_of (ML_free c l m) h
def SzX (c : Cells) (l : Lits) (m : Nat) : Prop := m ≤ BB ∧ ∀ i, i < m → (sA c (0 + i * 5 + 1)).size ≤ BB ∧ (sA c (0 + i * 5 + 2 + 0)).size ≤ BB ∧ (sA c (0 + i * 5 + 2 + 1)).size ≤ BB ∧ l.n (0 + i * 5 + 4) ≤ BB
theorem loop9 {c : Cells} {l : Lits} {m cap : Nat} (hs : SzX c l m) : ∀ (k i : Nat) (n : Int), i + k = m → 0 ≤ n → GoesN Tryz.prog (bodyOf Tryz.prog 9 3) (k + 1) (.exit 0) (T9 m cap n (i : Int)) (ML c l m) (T9x m cap (hvX c l k i n)) (ML c l m) := by
 intro k
 induction k with
 | zero =>
  intro i n hk h0
  exact GoesN.out (by simp) (Runs.goes (envE9 c l) ⟨_, _, h9c c l m cap n i, ⟨decide_eq_false (by omega), trivial⟩, wfML _ _ _ (by kernel_rfl)⟩)
 | succ k ih =>
  intro i n hk h0
  rw [hvX_succ]
  by_cases hn : n < 1048576
  ·obtain ⟨hm, hi⟩ := hs
   obtain ⟨s1, s2, s3, s4⟩ := hi i (by omega)
   have hb := BB_lt
   have hi' : i < m := by omega
   rw [decide_eq_true hn, cond_true]
   have ih := ih (i + 1) (hnX c l n i) (by omega) (by unfold hnX; omega)
   rw [show ((i + 1 : Nat) : Int) = (i : Int) + 1 by omega] at ih
   refine GoesN.cons (M1 := ML c l m) rfl (Runs.goes (envE9 c l) ⟨_, _, h9a c l m cap n i, ⟨decide_eq_true (by omega), decide_eq_true hn, by omega, ldX1 hi', ?_, by omega, ldX2 hi', ?_, by omega, ldX3 hi', ?_, by omega, ldX4 hi' rfl, ?_, ?_, trivial⟩, wfML _ _ _ (by kernel_rfl)⟩) ih
   all_goals (first | (unfold hnX inI; omega) | (unfold inI; omega))
  ·rw [decide_eq_false hn, cond_false]
   exact GoesN.out (by simp) (Runs.goes (envE9 c l) ⟨_, _, h9b c l m cap n i, ⟨decide_eq_true (by omega), decide_eq_false hn, trivial⟩, wfML _ _ _ (by kernel_rfl)⟩)
noncomputable def E9L (c : Cells) (l : Lits) (m cap : Nat) : Env := addLp (E9 c l) 3 (bodyOf Tryz.prog 9 3) (sumC (T9 m cap (m : Int) 0) (ML c l m) (T9x m cap (hvX c l m 0 (m : Int))) (ML c l m) (.exit 0))
theorem r9 (c : Cells) (l : Lits) (m cap : Nat) : dropM (callBy (E9L c l m cap) (evalC (E9L c l m cap) 1000) 9 [.one (.sl 0 0 m cap)] (ML c l m) []) =
  some ([bodyOf Tryz.prog 9 3 = bodyOf Tryz.prog 9 3, (T9 m cap (m : Int) 0, ML c l m) = (T9 m cap (m : Int) 0, ML c l m), wfS (T9 m cap (m : Int) 0) (ML c l m) = true], bV (decide (2000 < hvX c l m 0 (m : Int)))) := by kernel_rfl
theorem heavy9 {c : Cells} {l : Lits} {m cap : Nat} (hs : SzX c l m) {w : World} {φ : Loc} (hm : MRel w φ (ML c l m) w) :
  Calls Tryz.prog 9 #[(V1.one (.sl 0 0 m cap)).conc φ] w fun e w' => e = .returned (.bool (decide (2000 < hvX c l m 0 (m : Int)))) ∧ Below w.heap.size w w' := by
 obtain ⟨c', m', h'⟩ := dropM_some (r9 c l m cap)
 have hE : EnvOK (E9L c l m cap) := envAddLp (envE9 c l) (sumC_ok rfl (loop9 hs m 0 (m : Int) (by omega) (by omega)).loop)
 have := calls_of_run hE rfl h' ⟨rfl, rfl, wfML _ _ _ (by kernel_rfl), trivial⟩ rfl hm (by
  intro v hv
  simp only [List.mem_cons, List.not_mem_nil, or_false] at hv
  subst hv; rfl)
 exact this
def fm9 (c : Cells) (xs : Nat → Atom) (l : Lits) (m : Nat) : List V1 → List (Option Blk) → Option (List Prop × AV) := fun vs bs => match vs, bs with
 | [.one (.sl _ 0 n _)], [some k] => some ([k.live = true, k.ps = rowsX c xs m 0, n = m, SzX c l m, ∀ φ : Loc, ∀ j, j < m → ∃ o cap, (xs j).conc φ = .slice o (l.n (0 + j * 5 + 4)) cap], bV (decide (2000 < hvX c l m 0 (m : Int))))
 | _, _ => none
theorem hvX_congr {c : Cells} {l l' : Lits} (h : ∀ off, l.n off = l'.n off) : ∀ k i n, hvX c l k i n = hvX c l' k i n := by
 intro k
 induction k with
 | zero => intro i n; rfl
 | succ k ih =>
  intro i n
  have e : hnX c l n i = hnX c l' n i := by unfold hnX; rw [h]
  rw [hvX_succ, hvX_succ, ih, e]
theorem blks_sl {mem : List Blk} {b off n cap : Nat} {k : Blk} (h : blks mem [.one (.sl b off n cap)] = [some k]) : mem[b]? = some k := by
 simp only [blks, blkOf, List.cons.injEq, and_true] at h
 split at h
 ·rename_i k' hk
  split at h
  ·rw [hk]; exact h
  ·simp at h
 ·simp at h
theorem fm9_ok {c : Cells} {xs : Nat → Atom} {l : Lits} {m : Nat} {vs : List V1} {mem : List Blk} {ob : List Prop} {r : AV} (h : fm9 c xs l m vs (blks mem vs) = some (ob, r)) (ho : All ob) {w0 w : World} {φ : Loc} (hm : MRel w0 φ mem w) :
  Calls Tryz.prog 9 (vs.map (V1.conc φ)).toArray w fun e w' => e = .returned (r.conc φ) ∧ Below w.heap.size w w' := by
 unfold fm9 at h
 split at h
 ·rename_i b n cap k hb
  simp only [Option.some.injEq, Prod.mk.injEq] at h
  obtain ⟨rfl, rfl⟩ := h
  obtain ⟨hl, hps, rfl, hs, hlit, _⟩ := ho
  have hb := blks_sl hb
  let l' : Lits := ⟨fun off => match (xs ((off - 4) / 5)).conc φ with | .slice o _ _ => o | _ => none, l.n, fun off => match (xs ((off - 4) / 5)).conc φ with | .slice _ _ k => k | _ => 0⟩
  have hx : ∀ j, j < n → (xsL l' j).conc φ = (xs j).conc φ := by
   intro j hj
   obtain ⟨o, cap', e⟩ := hlit φ j hj
   show l'.v (0 + j * 5 + 4) = _
   have d : (0 + j * 5 + 4 - 4) / 5 = j := by omega
   simp only [Lits.v, l', d, e]
  have hc : concs φ (rowsX c (xsL l') n 0) = concs φ (rowsX c xs n 0) := by
   have key : ∀ m i, i + m ≤ n → concs φ (rowsX c (xsL l') m i) = concs φ (rowsX c xs m i) := by
    intro m
    induction m with
    | zero => intro i _; rfl
    | succ m ih =>
     intro i hi
     simp only [rowsX, concs_append, ih (i + 1) (by omega)]
     congr 1
     simp only [rowX, concs, Piece.conc, hx i (by omega)]
   exact key n 0 (by omega)
  have hm' : MRel w (fun _ => φ b) (ML c l' n) w := by
   refine MRel.ofRo (Below.refl _ _) ?_ ?_ ?_
   ·intro i x hx
    match i, hx with
    | 0, hx => simp only [ML, List.getElem?_cons_zero, Option.some.injEq] at hx; subst hx; rfl
    | i + 1, hx => simp [ML] at hx
   ·intro i x hx
    match i, hx with
    | 0, hx =>
     simp only [ML, List.getElem?_cons_zero, Option.some.injEq] at hx; subst hx
     refine ⟨hm.lt hb hl, fun j v hv => ?_⟩
     have hv : (concs (fun _ => φ b) (rowsX c (xsL l') n 0))[j]? = some v := hv
     have e2 : concs (fun _ => φ b) (rowsX c (xsL l') n 0) = concs φ (rowsX c (xsL l') n 0) := concs_agree (n := 0) (fun i hi => absurd hi (Nat.not_lt_zero _)) _ (rowsX_ptr _ _ _ _ _ fun _ _ => rfl)
     rw [e2, hc, ← hps] at hv
     exact hm.cell hb hl hv
    | i + 1, hx => simp [ML] at hx
   ·simp only [ML, memWf, Bool.and_true]
    exact rowsX_ptr _ _ _ _ _ fun _ _ => rfl
  have e1 : ((([V1.one (.sl b 0 n cap)] : List V1).map (V1.conc φ)).toArray : Array Value) = #[(V1.one (.sl 0 0 n cap)).conc (fun _ => φ b)] := rfl
  rw [e1, hvX_congr (l := l) (l' := l') (fun _ => rfl)]
  exact heavy9 (l := l') (cap := cap) hs hm'
 ·simp at h
end Go.Ev.H5

namespace Go.Ev.H5
open Go Go.Proofs Go.RowKit
set_option maxRecDepth 100000
def roB (ps : List Piece) : Blk := ⟨ps, 32, true, true, 0⟩
def numQ (q : Nat → Nat) : Cells := ⟨fun _ => false, fun _ => ByteArray.empty, fun _ => 0, q⟩
def qPs (q : Nat → Nat) (n : Nat) : List Piece := rowPs (numQ q) [.u32] n 0
def MR (c : Cells) (xs : Nat → Atom) (m : Nat) (p1 p2 p3 p4 : List Piece) : List Blk := [blkX c xs m 28, roB p1, roB p2, roB p3, roB p4]
def eqS (K C K' C' : ByteArray) : Bool := K == K' && (C == C' && true)
end Go.Ev.H5

