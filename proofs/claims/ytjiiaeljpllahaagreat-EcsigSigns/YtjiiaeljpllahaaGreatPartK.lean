/- An evaluator of the model's code with values known in part, and its soundness; Roots, and points of the curve: what the functions on them come to -/
import Derived.Test.YtjiiaeljpllahaaGreatPartJ
import Derived.Test.YtjiiaeljpllahaaGreatPartB
import Derived.Test.YtjiiaeljpllahaaGreatRows
namespace Go.Ev
open Go Go.RowKit

inductive SK where | n8 | i | s | b | u32 | u64
def SK.ks : SK → List Nat
  | .n8 => [8, 8, 8, 8, 8, 8, 8, 8]
  | .i => [5]
  | .s => [1]
  | .b => [0]
  | .u32 => [8]
  | .u64 => [9]
def SK.sz : SK → Nat
  | .n8 => 8
  | _ => 1
def nA (c : Cells) (p : Nat) : Nat := valU 8 p c.n
def nU (c : Cells) (p : Nat) : Nat := c.n p
def zA (c : Cells) (p : Nat) : Int := c.z p
def sA (c : Cells) (p : Nat) : ByteArray := c.s p
def bA (c : Cells) (p : Nat) : Bool := c.b p
def SK.pc (c : Cells) (p : Nat) : SK → Piece
  | .n8 => .num 8 (nA c p)
  | .i => .a (.i (zA c p))
  | .s => .a (.v (.string (sA c p)))
  | .b => .a (.v (.bool (bA c p)))
  | .u32 => .a (.u .u32 (nU c p))
  | .u64 => .a (.u .u64 (nU c p))
def SK.ok (c : Cells) (p : Nat) : SK → Prop
  | .n8 => nA c p < 4294967296 ^ 8
  | .i => inI (zA c p)
  | .s => (sA c p).size ≤ maxLen
  | .b => True
  | .u32 => nU c p < 4294967296
  | .u64 => nU c p < 18446744073709551616
def shKs : List SK → List Nat
  | [] => []
  | k :: l => k.ks ++ shKs l
def shSz : List SK → Nat
  | [] => 0
  | k :: l => k.sz + shSz l
def fldPs (c : Cells) : List SK → Nat → List Piece
  | [], _ => []
  | k :: l, p => k.pc c p :: fldPs c l (p + k.sz)
def fldOk (c : Cells) : List SK → Nat → List Prop
  | [], _ => []
  | k :: l, p => k.ok c p :: fldOk c l (p + k.sz)
def rowPs (c : Cells) (sh : List SK) : Nat → Nat → List Piece
  | 0, _ => []
  | m + 1, p => fldPs c sh p ++ rowPs c sh m (p + shSz sh)
def rowOb (c : Cells) (sh : List SK) : Nat → Nat → List Prop
  | 0, _ => []
  | m + 1, p => fldOk c sh p ++ rowOb c sh m (p + shSz sh)

theorem SK.ks_len (k : SK) : k.ks.length = k.sz := by cases k <;> rfl
theorem shKs_len : ∀ sh : List SK, (shKs sh).length = shSz sh
  | [] => rfl
  | k :: l => by simp [shKs, shSz, shKs_len l, SK.ks_len]
theorem atomsK_app (c : Cells) : ∀ (ks ls : List Nat) (j : Nat), atomsK c (ks ++ ls) j = atomsK c ks j ++ atomsK c ls (j + ks.length)
  | [], ls, j => by simp [atomsK]
  | k :: ks, ls, j => by
    simp only [List.cons_append, atomsK, List.length_cons]
    rw [atomsK_app c ks ls (j + 1), show j + 1 + ks.length = j + (ks.length + 1) by omega]
theorem concs_valUj (φ : Loc) (u : Nat → Nat) (n j : Nat) (h : ∀ i, j ≤ i → i < j + n → u i < 4294967296) : concs φ [.num n (valU n j u)] = concs φ (cellsU n j u) := by
  rw [← limbs_valU φ u n j h]; simp [concs, Piece.conc]
def okKs (c : Cells) (ks : List Nat) (j : Nat) : Prop := ∀ i k, ks[i]? = some k → okK c k (j + i)
theorem okKs_app {c : Cells} {ks ls : List Nat} {j : Nat} (h : okKs c (ks ++ ls) j) : okKs c ks j ∧ okKs c ls (j + ks.length) := by
  refine ⟨fun i k hi => h i k ?_, fun i k hi => ?_⟩
  · rw [List.getElem?_append_left]
    · exact hi
    · exact (List.getElem?_eq_some_iff.1 hi).1
  · have := h (ks.length + i) k (by rw [List.getElem?_append_right (by omega)]; rw [show ks.length + i - ks.length = i by omega]; exact hi)
    rwa [Nat.add_assoc]
theorem SK.spec (c : Cells) (φ : Loc) (p : Nat) (k : SK) (h : okKs c k.ks p) : concs φ [k.pc c p] = concs φ (atomsK c k.ks p) ∧ k.ok c p := by
  cases k with
  | n8 =>
    have hk : ∀ i, p ≤ i → i < p + 8 → c.n i < 4294967296 := by
      intro i h1 h2
      have h8 : (SK.n8.ks)[i - p]? = some 8 := by
        have : i - p < 8 := by omega
        generalize i - p = q at *
        match q, this with
        | 0, _ | 1, _ | 2, _ | 3, _ | 4, _ | 5, _ | 6, _ | 7, _ => rfl
        | n + 8, h => omega
      have := h (i - p) 8 h8
      rwa [show p + (i - p) = i by omega] at this
    exact ⟨concs_valUj φ c.n 8 p hk, valU_lt _ 8 _ hk⟩
  | i => exact ⟨rfl, h 0 5 rfl⟩
  | s => exact ⟨rfl, h 0 1 rfl⟩
  | b => exact ⟨rfl, trivial⟩
  | u32 => exact ⟨rfl, h 0 8 rfl⟩
  | u64 => exact ⟨rfl, h 0 9 rfl⟩
theorem fldsp (c : Cells) (φ : Loc) : ∀ (sh : List SK) (p : Nat), okKs c (shKs sh) p → concs φ (fldPs c sh p) = concs φ (atomsK c (shKs sh) p) ∧ All (fldOk c sh p)
  | [], p, _ => ⟨rfl, trivial⟩
  | k :: l, p, h => by
    obtain ⟨h1, h2⟩ := okKs_app h
    obtain ⟨a1, a2⟩ := SK.spec c φ p k h1
    rw [SK.ks_len] at h2
    obtain ⟨b1, b2⟩ := fldsp c φ l (p + k.sz) h2
    refine ⟨?_, a2, b2⟩
    simp only [shKs]
    rw [atomsK_app, concs_append, ← a1, SK.ks_len, ← b1]
    simp [fldPs, concs]
theorem rowsp (c : Cells) (φ : Loc) (sh : List SK) : ∀ (m p : Nat), okKs c (repK m (shKs sh)) p → concs φ (rowPs c sh m p) = concs φ (atomsK c (repK m (shKs sh)) p) ∧ All (rowOb c sh m p)
  | 0, p, _ => ⟨rfl, trivial⟩
  | m + 1, p, h => by
    obtain ⟨h1, h2⟩ := okKs_app h
    obtain ⟨a1, a2⟩ := fldsp c φ sh p h1
    rw [shKs_len] at h2
    obtain ⟨b1, b2⟩ := rowsp c φ sh m (p + shSz sh) h2
    refine ⟨?_, ?_⟩
    · simp only [repK, rowPs]
      rw [atomsK_app, concs_append, concs_append, a1, shKs_len, b1]
    · simp only [rowOb, All_append]
      exact ⟨a2, b2⟩
theorem fld_free (c : Cells) (f : Nat → Bool) : ∀ (sh : List SK) (p : Nat), allPtr f (fldPs c sh p) = true
  | [], _ => rfl
  | k :: l, p => by cases k <;> simp [fldPs, SK.pc, allPtr, fld_free c f l]
theorem allPtr_app (f : Nat → Bool) : ∀ (ps qs : List Piece), allPtr f ps = true → allPtr f qs = true → allPtr f (ps ++ qs) = true
  | [], _, _, h => h
  | p :: ps, qs, h, h' => by
    unfold allPtr at h
    cases p with
    | num k x => simp only [List.cons_append, allPtr] at h ⊢; exact allPtr_app f ps qs h h'
    | arr k x => simp only [List.cons_append, allPtr] at h ⊢; exact allPtr_app f ps qs h h'
    | a x =>
      cases x <;> simp only [List.cons_append, allPtr, Bool.and_eq_true] at h ⊢ <;>
        first | exact ⟨h.1, allPtr_app f ps qs h.2 h'⟩ | exact allPtr_app f ps qs h h'
theorem row_free (c : Cells) (sh : List SK) (f : Nat → Bool) : ∀ m p, allPtr f (rowPs c sh m p) = true
  | 0, _ => rfl
  | m + 1, p => allPtr_app f _ _ (fld_free c f sh p) (row_free c sh f m _)
def rowB (c : Cells) (sh : List SK) (m : Nat) (e : TypeId) : Blk := ⟨rowPs c sh m 0, e, true, true, 0⟩
theorem rowB_fr (c : Cells) (sh : List SK) (m : Nat) (e : TypeId) : ∀ f, allPtr f (rowB c sh m e).ps = true := fun f => row_free c sh f m 0

end Go.Ev

namespace Go.Ev
open Go Go.Proofs Go.RowKit

theorem rowB_free (c : Cells) (sh : List SK) (m : Nat) (e : TypeId) : Free (rowB c sh m e) := rowB_fr c sh m e
noncomputable def mkF (L : List CT) (fm : FuncId → List V1 → List (Option Blk) → Option (List Prop × AV)) (S : FuncId → Nat → Bool) : Env := { E0 with fn := lookC L, fm := fm, S := S }
theorem envMkF {L : List CT} (hL : AllCT L) {fm : FuncId → List V1 → List (Option Blk) → Option (List Prop × AV)}
    (hfm : ∀ f vs mem ob r, fm f vs (blks mem vs) = some (ob, r) → All ob → ∀ w0 φ w, MRel w0 φ mem w → Calls Tryz.prog f (vs.map (V1.conc φ)).toArray w fun e w' => e = .returned (r.conc φ) ∧ Below w.heap.size w w')
    (S : FuncId → Nat → Bool) : EnvOK (mkF L fm S) :=
  ⟨mixed, fun _ _ _ _ h ho => lookC_spec hL h ho, hfm, fun _ _ _ h => by simp [mkF, E0] at h, fun _ _ _ _ _ _ h => by simp [mkF, E0] at h⟩
noncomputable def withL (E : Env) (k : Nat) (y : Code) (f : List AV → List Blk → List Bool → CoR) : Env := { E with lp := fun j => match Nat.beq j k with | true => some (y, f) | false => none }
theorem envWithL {E : Env} (hE : EnvOK E) {k : Nat} {y : Code} {f : List AV → List Blk → List Bool → CoR} (h : SumOK E.P (.loop y) f) : EnvOK (withL E k y f) := envEL1 hE h
def bT : List V1 → Option (List Prop × AV) := fun vs => match vs with | [] => some ([], bV true) | _ => none
theorem ctT {f : FuncId} (h : Spec f [] (bV true)) : CTok ⟨f, bT⟩ := by
  intro vs ob r hv ho
  simp only [bT] at hv
  split at hv
  · simp only [Option.some.injEq, Prod.mk.injEq] at hv
    obtain ⟨rfl, rfl⟩ := hv
    exact h
  · simp at hv
theorem u4 : Tryz.prog.underlying 4 = some .bool := by kernel_rfl
theorem laid : laidOutB Tryz.prog = true := by kernel_rfl
theorem own : ownKnob Tryz.prog.godebug = none := by kernel_rfl
def sV' (len cap : Nat) : AV := .val (.one (.sl 0 0 len cap))
theorem lit0 : 0 < 4294967296 := by decide
theorem lit1 : 1 < 4294967296 := by decide
theorem lit1_8 : 1 < 4294967296 ^ 8 := by decide
theorem lit2 : 2 < 4294967296 := by decide
theorem lit2_8 : 2 < 4294967296 ^ 8 := by decide
theorem joinN_lt0 {a : Nat} (h : a < 4294967296 ^ 8) : joinN a 0 < 4294967296 ^ 16 := by unfold joinN; omega
end Go.Ev

