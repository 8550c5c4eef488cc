/- How a law goes through the rows of a slice -/
import Derived.Test.YtpnappendjomoaaRoot
import Derived.Test.YtpnappendjomoaaEvB
import Derived.Test.YtpnappendjomoaaRows
namespace Go.Ev
open Go Go.Proofs Go.RowKit

theorem rowB_free (c : Cells) (sh : List SK) (m : Nat) (e : TypeId) : Free (rowB c sh m e) := rowB_fr c sh m e
noncomputable def mkF (L : List CT) (fm : FuncId → List V1 → List (Option Blk) → Option (List Prop × AV)) (S : FuncId → Nat → Bool) : Env := { E0 with fn := lookC L, fm := fm, S := S }
theorem envMkF {L : List CT} (hL : AllCT L) {fm : FuncId → List V1 → List (Option Blk) → Option (List Prop × AV)}
    (hfm : ∀ f vs mem ob r, fm f vs (blks mem vs) = some (ob, r) → All ob → ∀ w0 φ w, MRel w0 φ mem w → Calls Try.prog f (vs.map (V1.conc φ)).toArray w fun e w' => e = .returned (r.conc φ) ∧ Below w.heap.size w w')
    (S : FuncId → Nat → Bool) : EnvOK (mkF L fm S) :=
  ⟨mixed, fun _ _ _ _ h ho => lookC_spec hL h ho, hfm, fun _ _ _ h => by simp [mkF, E0] at h, fun _ _ _ _ _ _ h => by simp [mkF, E0] at h⟩
/-- with one loop's summary more. -/
noncomputable def withL (E : Env) (k : Nat) (y : Code) (f : List AV → List Blk → List Bool → CoR) : Env := { E with lp := fun j => match Nat.beq j k with | true => some (y, f) | false => none }
theorem envWithL {E : Env} (hE : EnvOK E) {k : Nat} {y : Code} {f : List AV → List Blk → List Bool → CoR} (h : SumOK E.P (.loop y) f) : EnvOK (withL E k y f) := envEL1 hE h
def fmIs (u : Bool) : FuncId → List V1 → List (Option Blk) → Option (List Prop × AV) := fun f vs bs => match f with | 22 => fm32 u vs bs | _ => none
theorem fmIs_ok (u : Bool) : ∀ f vs mem ob r, fmIs u f vs (blks mem vs) = some (ob, r) → All ob → ∀ w0 φ w, MRel w0 φ mem w → Calls Try.prog f (vs.map (V1.conc φ)).toArray w fun e w' => e = .returned (r.conc φ) ∧ Below w.heap.size w w' := by
  intro f vs mem ob r h ho w0 φ w hm
  simp only [fmIs] at h
  split at h
  · exact fm32_ok h ho w0 φ w hm
  · simp at h

/-! one -/
theorem pwM_K {p a e : Nat} (hp : p < 2 ^ 256) (he : e < p) : Go.NT.powK 256 a e p = Go.NT.pwM p a e := by unfold Go.NT.pwM; exact Go.NT.powK_256 hp he
theorem cand_4 : Go.NT.candN 1 4 = 2 := by
  rw [Go.NT.candN_1]
  have h : Go.NT.powK 256 4 ((Go.NT.modP 1 + 1) / 4) (Go.NT.modP 1) = 2 := by decide +kernel
  rwa [pwM_K (by decide +kernel) (by decide +kernel)] at h
theorem sq_4 : sqB 1 4 = true := by
  rw [sqB, isSq_iff, cand_4]
  decide +kernel
theorem ev_4 : evC 1 4 = 2 := by
  rw [evC, cand_4]; rfl
def bT : List V1 → Option (List Prop × AV) := fun vs => match vs with | [] => some ([], bV true) | _ => none
theorem ctT {f : FuncId} (h : Spec f [] (bV true)) : CTok ⟨f, bT⟩ := by
  intro vs ob r hv ho
  simp only [bT] at hv
  split at hv
  · simp only [Option.some.injEq, Prod.mk.injEq] at hv
    obtain ⟨rfl, rfl⟩ := hv
    exact h
  · simp at hv
theorem may_4 : mayB 1 4 = true := by
  unfold mayB lessB
  decide +kernel
def gRt4 : List Val → Option (List Prop × AV)
  | [.z z, .n a] => some ([z = 1, a = 4], .tup [N8 2, .one (.i 0)])
  | _ => none
theorem spec21_4 : Spec 21 [zV 1, N8 4] (.tup [N8 2, .one (.i 0)]) := by
  have h := spec21r 1 4 (by decide)
  have h1 : rtR 1 4 = 2 := by unfold rtR; rw [may_4, cond_true, show Int.toNat 1 = 1 from rfl, sq_4, cond_true, ev_4]
  have h2 : rtE 1 4 = 0 := by unfold rtE; rw [may_4, cond_true, show Int.toNat 1 = 1 from rfl, sq_4, cond_true]
  rwa [h1, h2] at h
theorem ct21_4 : CTok ⟨21, fnS [.z, .s [.n8]] gRt4⟩ := ctS (by
  intro xs ob r hb h ho
  unfold gRt4 at h
  split at h
  · simp only [Option.some.injEq, Prod.mk.injEq] at h
    obtain ⟨rfl, rfl⟩ := h
    obtain ⟨rfl, rfl, _⟩ := ho
    exact spec21_4
  · simp at h)
noncomputable def L25 : List CT := ⟨21, fnS [.z, .s [.n8]] gRt4⟩ :: L0
theorem L25_ok : AllCT L25 := ⟨ct21_4, L0_ok⟩
theorem run25 (a : Nat) : callR (mkE L25 noS) 1000 (25 : FuncId) [] [] =
    some ([4 < 4294967296, 0 < 4294967296, 0 < 4294967296, 0 < 4294967296, 0 < 4294967296, 0 < 4294967296, 0 < 4294967296, 0 < 4294967296, (1 : Int) = (1 : Int), 4 + 4294967296 * (0 + 4294967296 * (0 + 4294967296 * (0 + 4294967296 * (0 + 4294967296 * (0 + 4294967296 * (0 + 4294967296 * (0 + 4294967296 * 0))))))) = 4], AV.val (V1.one (Atom.v (Value.bool true)))) := by kernel_rfl
theorem spec25 : Spec 25 [] (bV true) := spec_run (envMk L25_ok noS) rfl (run25 0) (by refine ⟨?_, ?_, ?_, ?_, ?_, ?_, ?_, ?_, ?_, ?_, trivial⟩ <;> first | exact of_decide_eq_true rfl | rfl) rfl rfl
def shA : List SK := [.n8, .n8, .i, .s]
theorem u22 : Try.prog.underlying 22 = some (.slice 27) := by kernel_rfl
theorem u4 : Try.prog.underlying 4 = some .bool := by kernel_rfl
theorem k27 : kindsT Try.prog 20 27 = some (shKs shA) := by kernel_rfl
theorem s27 : sizeA Try.prog 27 = some (shSz shA) := by kernel_rfl
theorem laid : laidOutB Try.prog = true := by kernel_rfl
theorem own : ownKnob Try.prog.godebug = none := by kernel_rfl
theorem rd22 : Try.prog.readableRec 22 = true := by kernel_rfl
theorem row22 : (22 : Nat) < Try.prog.types.size := of_decide_eq_true (by kernel_rfl)

/-! back -/
noncomputable def L26 : List CT := ⟨25, bT⟩ :: ⟨20, fnS [.z, .s [.n8]] gIsU⟩ :: ⟨21, fnS [.z, .s [.n8]] (gRtV true true)⟩ :: L0
theorem L26_ok : AllCT L26 := ⟨ctT spec25, ct20U, ct21V true true, L0_ok⟩
noncomputable def S26 : FuncId → Nat → Bool := fun f t => match f with | 26 => memN t [23, 33, 65, 78, 86, 91, 123, 127] | _ => false
noncomputable def E26 : Env := mkF L26 (fmIs true) S26
theorem envE26 : EnvOK E26 := envMkF L26_ok (fmIs_ok true) S26
def sV' (len cap : Nat) : AV := .val (.one (.sl 0 0 len cap))
def T26 (k len cap : Nat) (i : Int) : List AV := slots 131 [(0, sV' len cap), (1, .val (kV k)), (4, bV false), (5, .val (.one (.ptr 1 0))), (6, iV i)]
def M26 (c : Cells) (m k : Nat) : List Blk := [rowB c shA m 27, ⟨[.num 8 (modN k), .a (.u .u32 (facR (limb (modN k) 0))), .num 8 (r2N (modN k))], 30, true, false, 0⟩]
theorem lit0 : 0 < 4294967296 := by decide
theorem lit0_8 : 0 < 4294967296 ^ 8 := by decide
theorem lit1 : 1 < 4294967296 := by decide
theorem lit1_8 : 1 < 4294967296 ^ 8 := by decide
theorem lit2 : 2 < 4294967296 := by decide
theorem lit2_8 : 2 < 4294967296 ^ 8 := by decide
theorem lit3 : 3 < 4294967296 := by decide
theorem lit3_8 : 3 < 4294967296 ^ 8 := by decide
theorem lit4 : 4 < 4294967296 := by decide
theorem lit4_8 : 4 < 4294967296 ^ 8 := by decide
theorem joinN_lt0 {a : Nat} (h : a < 4294967296 ^ 8) : joinN a 0 < 4294967296 ^ 16 := by unfold joinN; omega
theorem wfT26 (c : Cells) (m k len cap : Nat) (i : Int) : wfS (T26 k len cap i) (M26 c m k) = true := wfS_of (by
  intro b hb
  simp only [M26, List.mem_cons, List.not_mem_nil, or_false] at hb
  rcases hb with rfl | rfl
  · exact rowB_free _ _ _ _
  · exact fun _ => rfl) (by show tmsWf 2 _ = true; kernel_rfl)
abbrev redA (k a : Nat) : Nat := remN (joinN a 0) (modN k)
theorem may_k {k a : Nat} (hk : k < 2) (ha : a < modN k) : mayB (k : Int) a = true := by
  simp only [mayB, lessB, Bool.and_eq_true, Bool.or_eq_true, decide_eq_true_iff, Int.toNat_natCast]
  omega
theorem ok1_k {k a : Nat} (hk : k < 4) (ha : a < modN k) : ok1 (k : Int) a = true := by
  simp only [ok1, modB, lessB, Bool.and_eq_true, decide_eq_true_iff, Int.toNat_natCast]
  omega
theorem sq_aa {k A : Nat} (hk : k < 2) : sqB k (mulM (modN k) A A) = true := Go.NT.isSq_of (r := A) hk (by unfold mulM; rw [modN_P])
theorem ev_odd {k a : Nat} (hk : k < 2) : decide (evC k a % 4294967296 % 4294967296 &&& 1 % 4294967296 = 1) = false := by
  rw [and_one]
  have : evC k a % 2 = 0 := Go.NT.evenN_even (by rcases (show k = 0 ∨ k = 1 by omega) with rfl | rfl <;> decide +kernel) (by rw [modN_P]; exact Go.NT.candN_lt hk)
  exact decide_eq_false (by omega)
theorem ev_mul {k A : Nat} (hk : k < 2) : (!(decide (mulM (modN k) (evC k (mulM (modN k) A A)) (evC k (mulM (modN k) A A)) % 4294967296 ^ 8 = mulM (modN k) A A % 4294967296 ^ 8) && true)) = false := by
  refine neq_f ?_
  have h := (isSq_iff k _).1 (sq_aa (A := A) hk)
  refine Eq.trans ?_ h
  exact Go.NT.evenN_sq (by rw [modN_P]; exact Go.NT.candN_lt hk)
theorem sq_mul {k A B : Nat} (hk : k < 2) (h0 : 0 < A) (hA : A < modN k) (hB : B < modN k) : (!sqB k B == sqB k (mulM (modN k) B (mulM (modN k) A A))) = false := by
  rw [modN_P] at hA hB
  have := Go.NT.isSq_mul hk h0 hA hB
  unfold sqB mulM
  rw [modN_P, this]
  simp
end Go.Ev

namespace Go.Ev
open Go Go.Proofs Go.RowKit

def dropM : Option (List Prop × List Bool × AV × List Blk) → Option (List Prop × AV)
  | some (o, _, r, _) => some (o, r)
  | none => none
theorem dropM_some {x : Option (List Prop × List Bool × AV × List Blk)} {o : List Prop} {r : AV} (h : dropM x = some (o, r)) : ∃ c m, x = some (o, c, r, m) := by
  unfold dropM at h
  split at h
  · rename_i o' c r' m
    simp only [Option.some.injEq, Prod.mk.injEq] at h
    obtain ⟨rfl, rfl⟩ := h
    exact ⟨c, m, rfl⟩
  · simp at h
theorem law_runD {E : Env} (hE : EnvOK E) {n : Nat} {f : FuncId} {len cap : Nat} {B : Blk} {c : List Bool} {ob : List Prop}
    (h : dropM (callBy E (evalC E n) f [.one (.sl 0 0 len cap)] [B] c) = some (ob, bV true)) (ho : All ob) {w : World} {φ : Loc} (hm : MRel w φ [B] w) :
    Calls E.P f #[(V1.one (.sl 0 0 len cap)).conc φ] w (Trues w) := by
  obtain ⟨c', m', h'⟩ := dropM_some h
  exact law_run hE h' ho hm
theorem law_nilD {E : Env} (hE : EnvOK E) {n : Nat} {f : FuncId} {c : List Bool} {ob : List Prop}
    (h : dropM (callBy E (evalC E n) f [.one (.v (.slice none 0 0))] [] c) = some (ob, bV true)) (ho : All ob) (w : World) :
    Calls E.P f #[.slice none 0 0] w (Trues w) := by
  obtain ⟨c', m', h'⟩ := dropM_some h
  exact law_run_nil hE h' ho w
end Go.Ev

