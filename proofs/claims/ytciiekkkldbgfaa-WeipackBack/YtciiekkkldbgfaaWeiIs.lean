/- Which pairs of numbers are spots, the program's and the page's -/
import Derived.Test.YtciiekkkldbgfaaRoot
import Derived.Test.YtciiekkkldbgfaaEvB
import Derived.Test.YtciiekkkldbgfaaRows
namespace Go.Ev
open Go Go.Proofs Go.RowKit

theorem rowB_free (c : Cells) (sh : List SK) (m : Nat) (e : TypeId) : Free (rowB c sh m e) := rowB_fr c sh m e
noncomputable def mkF (L : List CT) (fm : FuncId → List V1 → List (Option Blk) → Option (List Prop × AV)) (S : FuncId → Nat → Bool) : Env := { E0 with fn := lookC L, fm := fm, S := S }
theorem envMkF {L : List CT} (hL : AllCT L) {fm : FuncId → List V1 → List (Option Blk) → Option (List Prop × AV)}
    (hfm : ∀ f vs mem ob r, fm f vs (blks mem vs) = some (ob, r) → All ob → ∀ w0 φ w, MRel w0 φ mem w → Calls Try.prog f (vs.map (V1.conc φ)).toArray w fun e w' => e = .returned (r.conc φ) ∧ Below w.heap.size w w')
    (S : FuncId → Nat → Bool) : EnvOK (mkF L fm S) :=
  ⟨mixed, fun _ _ _ _ h ho => lookC_spec hL h ho, hfm, fun _ _ _ h => by simp [mkF, E0] at h, fun _ _ _ _ _ _ h => by simp [mkF, E0] at h⟩
noncomputable def withL (E : Env) (k : Nat) (y : Code) (f : List AV → List Blk → List Bool → CoR) : Env := { E with lp := fun j => match Nat.beq j k with | true => some (y, f) | false => none }
theorem envWithL {E : Env} (hE : EnvOK E) {k : Nat} {y : Code} {f : List AV → List Blk → List Bool → CoR} (h : SumOK E.P (.loop y) f) : EnvOK (withL E k y f) := envEL1 hE h
theorem pwM_K {p a e : Nat} (hp : p < 2 ^ 256) (he : e < p) : Go.NT.powK 256 a e p = Go.NT.pwM p a e := by unfold Go.NT.pwM; exact Go.NT.powK_256 hp he
def bT : List V1 → Option (List Prop × AV) := fun vs => match vs with | [] => some ([], bV true) | _ => none
theorem ctT {f : FuncId} (h : Spec f [] (bV true)) : CTok ⟨f, bT⟩ := by
  intro vs ob r hv ho
  simp only [bT] at hv
  split at hv
  · simp only [Option.some.injEq, Prod.mk.injEq] at hv
    obtain ⟨rfl, rfl⟩ := hv
    exact h
  · simp at hv
theorem u4 : Try.prog.underlying 4 = some .bool := by kernel_rfl
theorem laid : laidOutB Try.prog = true := by kernel_rfl
theorem own : ownKnob Try.prog.godebug = none := by kernel_rfl
def sV' (len cap : Nat) : AV := .val (.one (.sl 0 0 len cap))
theorem lit0 : 0 < 4294967296 := by decide
theorem lit0_8 : 0 < 4294967296 ^ 8 := by decide
theorem lit1 : 1 < 4294967296 := by decide
theorem lit1_8 : 1 < 4294967296 ^ 8 := by decide
theorem lit2 : 2 < 4294967296 := by decide
theorem lit2_8 : 2 < 4294967296 ^ 8 := by decide
theorem lit3 : 3 < 4294967296 := by decide
theorem lit3_8 : 3 < 4294967296 ^ 8 := by decide
theorem lit4 : 4 < 4294967296 := by decide
theorem lit4_8 : 4 < 4294967296 ^ 8 := by decide
theorem joinN_lt0 {a : Nat} (h : a < 4294967296 ^ 8) : joinN a 0 < 4294967296 ^ 16 := by unfold joinN; omega
abbrev redA (k a : Nat) : Nat := remN (joinN a 0) (modN k)
end Go.Ev

namespace Go.Ev
open Go Go.Proofs Go.RowKit

/-! how many bits: both ways of counting them come to the same -/
theorem tb_min : ∀ n, n < 256 → tb n = 0 ∨ 2 ^ (tb n - 1) ≤ n := by decide +kernel
theorem tb_zero : ∀ n, n < 256 → (tb n = 0 ↔ n = 0) := by decide +kernel
theorem min_shift {x q c : Nat} (h : q = 0 ∨ 2 ^ (q - 1) ≤ x / 2 ^ c) (h0 : q = 0 → x / 2 ^ c = 0) (hx : 0 < x / 2 ^ c) : 2 ^ (c + q - 1) ≤ x := by
  rcases h with h | h
  · have := h0 h; omega
  · have hq : 0 < q := by
      rcases Nat.eq_zero_or_pos q with h' | h'
      · have := h0 h'; omega
      · exact h'
    rw [show c + q - 1 = (q - 1) + c by omega, Nat.pow_add]
    exact Nat.le_trans (Nat.mul_le_mul_right _ h) (Nat.div_mul_le_self _ _)
theorem len32_min {x : Nat} (hx : x < 4294967296) : len32 x = 0 ∨ 2 ^ (len32 x - 1) ≤ x := by
  by_cases h1 : 65536 ≤ x
  · by_cases h2 : 256 ≤ x / 65536
    · have hl : len32 x = 24 + tb (x / 65536 / 256 % 256) := by simp only [len32, decide_eq_true h1, decide_eq_true h2, cond_true]
      have hn : x / 65536 / 256 % 256 < 256 := by omega
      have he : x / 65536 / 256 % 256 = x / 2 ^ 24 := by omega
      right; rw [hl]
      exact min_shift (by have := tb_min _ hn; rwa [he] at this ⊢) (by intro h; have := (tb_zero _ hn).1 h; omega) (by omega)
    · have hl : len32 x = 16 + tb (x / 65536 % 256) := by simp only [len32, decide_eq_true h1, decide_eq_false h2, cond_true, cond_false]
      have hn : x / 65536 % 256 < 256 := by omega
      have he : x / 65536 % 256 = x / 2 ^ 16 := by omega
      right; rw [hl]
      exact min_shift (by have := tb_min _ hn; rwa [he] at this ⊢) (by intro h; have := (tb_zero _ hn).1 h; omega) (by omega)
  · by_cases h2 : 256 ≤ x
    · have hl : len32 x = 8 + tb (x / 256 % 256) := by simp only [len32, decide_eq_false h1, decide_eq_true h2, cond_true, cond_false]
      have hn : x / 256 % 256 < 256 := by omega
      have he : x / 256 % 256 = x / 2 ^ 8 := by omega
      right; rw [hl]
      exact min_shift (by have := tb_min _ hn; rwa [he] at this ⊢) (by intro h; have := (tb_zero _ hn).1 h; omega) (by omega)
    · have hl : len32 x = tb (x % 256) := by simp only [len32, decide_eq_false h1, decide_eq_false h2, cond_false]
      have hn : x % 256 < 256 := by omega
      have := tb_min _ hn
      rw [hl]
      rw [show x % 256 = x by omega] at *
      exact this
theorem len32_zero {x : Nat} (hx : x < 4294967296) (h : len32 x = 0) : x = 0 := by
  have := (spec91 x hx).2.1
  rw [h] at this; omega
theorem lenU_min {a : Nat → Nat} (ha : ∀ i, a i < 4294967296) : ∀ n, lenU a n = 0 ∨ 2 ^ (lenU a n - 1) ≤ valU n 0 a
  | 0 => .inl rfl
  | j + 1 => by
    simp only [lenU]
    rw [valU_snoc, Nat.zero_add]
    split
    · rename_i h; have := of_decide_eq_true h; rw [this, Nat.mul_zero, Nat.add_zero]; exact lenU_min ha j
    · rename_i h
      have h0 := of_decide_eq_false h
      right
      rcases len32_min (ha j) with h1 | h1
      · exact absurd (len32_zero (ha j) h1) h0
      · have hp : 0 < len32 (a j) := by
          rcases Nat.eq_zero_or_pos (len32 (a j)) with h2 | h2
          · exact absurd (len32_zero (ha j) h2) h0
          · exact h2
        rw [show 32 * j + len32 (a j) - 1 = 32 * j + (len32 (a j) - 1) by omega, Nat.pow_add, two_pow_mul]
        exact Nat.le_trans (Nat.mul_le_mul_left _ h1) (Nat.le_add_left _ _)
theorem lenQ_min (a : Nat) : ∀ n, lenQ a n = 0 ∨ 2 ^ (lenQ a n - 1) ≤ a
  | 0 => .inl rfl
  | n + 1 => by
    rw [lenQ]
    cases hb : bitB a n with
    | true =>
      right
      have h0 : bitN a n = 1 := of_decide_eq_true hb
      unfold bitN at h0
      show 2 ^ (n + 1 - 1) ≤ a
      rw [Nat.add_sub_cancel]
      apply Nat.le_of_not_lt
      intro h
      rw [Nat.div_eq_of_lt h] at h0
      exact absurd h0 (by decide)
    | false => exact lenQ_min a n
theorem len_uniq {a L M : Nat} (h1 : a < 2 ^ L) (h2 : L = 0 ∨ 2 ^ (L - 1) ≤ a) (h3 : a < 2 ^ M) (h4 : M = 0 ∨ 2 ^ (M - 1) ≤ a) : L = M := by
  have key : ∀ {L M : Nat}, (L = 0 ∨ 2 ^ (L - 1) ≤ a) → a < 2 ^ M → L ≤ M := by
    intro L M h2 h3
    rcases h2 with h2 | h2
    · omega
    · have := (Nat.pow_lt_pow_iff_right (a := 2) (by decide)).1 (Nat.lt_of_le_of_lt h2 h3)
      omega
  exact Nat.le_antisymm (key h2 h3) (key h4 h1)
theorem lenQ_N {a : Nat} (ha : a < 4294967296 ^ 8) : lenQ a 256 = lenN a := by
  have h1 := lenQ_spec a 256 (by rw [show (2 : Nat) ^ 256 = 4294967296 ^ 8 by decide]; exact ha)
  have h2 := lenU_min (limb_lt a) 8
  rw [valU_num a 8 ha] at h2
  exact len_uniq h1.1 (lenQ_min a 256) (lenN_spec ha).1 h2
end Go.Ev

namespace Go.Ev
open Go Go.Proofs Go.RowKit

/-! the law with plain numbers -/
theorem subM_add {m a b : Nat} (hb : b < m) : (subM m a b + b) % m = a % m := by
  unfold subM
  rw [Nat.mod_add_mod, Nat.sub_add_cancel (by omega), Nat.add_mod_right]
theorem add_inj {m r s y : Nat} (hr : r < m) (hs : s < m) (h : (r + y) % m = (s + y) % m) : r = s := by
  have h1 : ∀ {r s : Nat}, r < m → s < m → r ≤ s → (r + y) % m = (s + y) % m → r = s := by
    intro r s _ hs hle h
    have h2 : (s + y - (r + y)) % m = 0 := Nat.sub_mod_eq_zero_of_mod_eq h.symm
    rw [show s + y - (r + y) = s - r by omega, Nat.mod_eq_of_lt (by omega)] at h2
    omega
  rcases Nat.le_total r s with hle | hle
  · exact h1 hr hs hle h
  · exact (h1 hs hr hle h.symm).symm
theorem in_mod (m a : Nat) : inN m (a % m) = inN m a := by rw [in_eq, in_eq, Nat.mod_mul_mod]
theorem in_add {m : Nat} (a b : Nat) : addM m (inN m a) (inN m b) = inN m (addM m a b) := by
  unfold addM
  rw [in_mod, in_eq, in_eq, in_eq, ← Nat.add_mod, Nat.add_mul]
theorem in_sub {m : Nat} (hm : 0 < m) {a b : Nat} (hb : b < m) : subM m (inN m a) (inN m b) = inN m (subM m a b) := by
  refine add_inj (y := inN m b) (subM_lt hm) (inN_lt hm) ?_
  rw [subM_add (inN_lt hm)]
  have h := in_add (m := m) (subM m a b) b
  unfold addM at h
  rw [h, subM_add hb, in_mod, Nat.mod_eq_of_lt (inN_lt hm)]
theorem in_mul {k : Nat} (hk : k < 4) (x y : Nat) : mmN (modN k) (inN (modN k) x) (inN (modN k) y) = inN (modN k) (mulM (modN k) x y) := mm_in (modN_lt k) (good_fac hk)
theorem facN_lt32 (k : Nat) : facN k < 4294967296 := by unfold facN facF; omega
theorem facR_lt32 (u : Nat) : facR u < 4294967296 := by unfold facR; omega
theorem r2N_lt {k : Nat} (hk : k < 4) : r2N (modN k) < modN k := (okR_K hk).2.2.1
def cV (v : AV) : List V1 → Option (List Prop × AV) := fun vs => match vs with | [] => some ([], v) | _ => none
theorem ctV {f : FuncId} {v : AV} (h : Spec f [] v) : CTok ⟨f, cV v⟩ := by
  intro vs ob r hv ho
  simp only [cV] at hv
  split at hv
  · simp only [Option.some.injEq, Prod.mk.injEq] at hv
    obtain ⟨rfl, rfl⟩ := hv
    exact h
  · simp at hv
theorem len_one : lenN 1 = 1 := by decide +kernel
def aN : Arg := .s [.n8]
def aLaw : Arg := .s [.n8, .u32, .n8]
end Go.Ev

namespace Go.Ev
open Go Go.Proofs Go.RowKit

/-! the numbers that the curve has -/
def wBN : Nat := 41058363725152142129326129780047268409114441015993725554835256314039467401291
def wXN : Nat := 48439561293906451759052585252797914202762949526041747995844080717082404635286
def wYN : Nat := 36134250956749795798585127919587881956611106672985015071877198253568414405109
theorem wBN_lt : wBN < modN 1 := by decide +kernel
theorem wXN_lt : wXN < modN 1 := by decide +kernel
theorem wYN_lt : wYN < modN 1 := by decide +kernel
def P3 (x y : Nat) (i : Bool) : V1 := .agg [.num 8 x, .num 8 y, .a (.v (.bool i))]
theorem wi70 (a : Nat) : callR E0 1000 70 [] [] =
    some ([], AV.val (V1.agg [Piece.a (Atom.u IntKind.u32 668098635), Piece.a (Atom.u IntKind.u32 1003371582), Piece.a (Atom.u IntKind.u32 3428036854), Piece.a (Atom.u IntKind.u32 1696401072), Piece.a (Atom.u IntKind.u32 1989707452), Piece.a (Atom.u IntKind.u32 3018571093), Piece.a (Atom.u IntKind.u32 2855965671), Piece.a (Atom.u IntKind.u32 1522939352)])) := by kernel_rfl
theorem spec70w : Spec 70 [] (.val (N8 wBN)) := (spec_run envE0 rfl (wi70 0) trivial rfl rfl).congr (fun _ => rfl) (fun _ => by kernel_rfl)
theorem wi85 (a : Nat) : callR E0 1000 85 [] [] =
    some ([], AV.val (V1.agg [Piece.a (Atom.u IntKind.u32 668098635), Piece.a (Atom.u IntKind.u32 1003371582), Piece.a (Atom.u IntKind.u32 3428036854), Piece.a (Atom.u IntKind.u32 1696401072), Piece.a (Atom.u IntKind.u32 1989707452), Piece.a (Atom.u IntKind.u32 3018571093), Piece.a (Atom.u IntKind.u32 2855965671), Piece.a (Atom.u IntKind.u32 1522939352)])) := by kernel_rfl
theorem spec85w : Spec 85 [] (.val (N8 wBN)) := (spec_run envE0 rfl (wi85 0) trivial rfl rfl).congr (fun _ => rfl) (fun _ => by kernel_rfl)
theorem wi19 (a : Nat) : callR E0 1000 19 [] [] =
    some ([], AV.val (V1.agg [Piece.a (Atom.u IntKind.u32 3633889942), Piece.a (Atom.u IntKind.u32 4104206661), Piece.a (Atom.u IntKind.u32 770388896), Piece.a (Atom.u IntKind.u32 1996717441), Piece.a (Atom.u IntKind.u32 1671708914), Piece.a (Atom.u IntKind.u32 4173129445), Piece.a (Atom.u IntKind.u32 3777774151), Piece.a (Atom.u IntKind.u32 1796723186), Piece.a (Atom.u IntKind.u32 935285237), Piece.a (Atom.u IntKind.u32 3417718888), Piece.a (Atom.u IntKind.u32 1798397646), Piece.a (Atom.u IntKind.u32 734933847), Piece.a (Atom.u IntKind.u32 2081398294), Piece.a (Atom.u IntKind.u32 2397563722), Piece.a (Atom.u IntKind.u32 4263149467), Piece.a (Atom.u IntKind.u32 1340293858), Piece.a (Atom.v (Value.bool false))])) := by kernel_rfl
theorem spec19w : Spec 19 [] (.val (P3 wXN wYN false)) := (spec_run envE0 rfl (wi19 0) trivial rfl rfl).congr (fun _ => rfl) (fun _ => by kernel_rfl)
theorem wi28 (a : Nat) : callR E0 1000 28 [] [] =
    some ([], AV.val (V1.agg [Piece.a (Atom.u IntKind.u32 3633889942), Piece.a (Atom.u IntKind.u32 4104206661), Piece.a (Atom.u IntKind.u32 770388896), Piece.a (Atom.u IntKind.u32 1996717441), Piece.a (Atom.u IntKind.u32 1671708914), Piece.a (Atom.u IntKind.u32 4173129445), Piece.a (Atom.u IntKind.u32 3777774151), Piece.a (Atom.u IntKind.u32 1796723186), Piece.a (Atom.u IntKind.u32 935285237), Piece.a (Atom.u IntKind.u32 3417718888), Piece.a (Atom.u IntKind.u32 1798397646), Piece.a (Atom.u IntKind.u32 734933847), Piece.a (Atom.u IntKind.u32 2081398294), Piece.a (Atom.u IntKind.u32 2397563722), Piece.a (Atom.u IntKind.u32 4263149467), Piece.a (Atom.u IntKind.u32 1340293858), Piece.a (Atom.v (Value.bool false))])) := by kernel_rfl
theorem spec28w : Spec 28 [] (.val (P3 wXN wYN false)) := (spec_run envE0 rfl (wi28 0) trivial rfl rfl).congr (fun _ => rfl) (fun _ => by kernel_rfl)
noncomputable def L8a : List CT := [⟨70, cV (.val (N8 wBN))⟩, ⟨85, cV (.val (N8 wBN))⟩, ⟨19, cV (.val (P3 wXN wYN false))⟩, ⟨28, cV (.val (P3 wXN wYN false))⟩, ⟨62, fnS [.z, .s [.n8]] gFis⟩] ++ L0
theorem L8a_ok : AllCT L8a := ⟨ctV spec70w, ctV spec85w, ctV spec19w, ctV spec28w, ct85, L0_ok⟩
def rg1 : V1 := rgK 1
noncomputable def wBi : Nat := inN (modN 1) wBN
noncomputable def sqI (x : Nat) : Nat := addM (modN 1) (subM (modN 1) (mmN (modN 1) (mmN (modN 1) (inN (modN 1) x) (inN (modN 1) x)) (inN (modN 1) x)) (addM (modN 1) (addM (modN 1) (inN (modN 1) x) (inN (modN 1) x)) (inN (modN 1) x))) (inN (modN 1) wBN)
theorem wi68 (x : Nat) : callR (mkE L8a noS) 1000 68 [N8 x] [] =
    some ([(0 : Int) ≤ (1 : Int) ∧ (1 : Int) < (4 : Int), modN 1 < 4294967296 ^ 8, 0 < modN 1, x < 4294967296 ^ 8, modN 1 < 4294967296 ^ 8, inN (modN 1) x < modN 1, inN (modN 1) x < modN 1, inN (modN 1) x < 4294967296 ^ 8, inN (modN 1) x < 4294967296 ^ 8, modN 1 < 4294967296 ^ 8, addM (modN 1) (inN (modN 1) x) (inN (modN 1) x) < modN 1, inN (modN 1) x < modN 1, addM (modN 1) (inN (modN 1) x) (inN (modN 1) x) < 4294967296 ^ 8, inN (modN 1) x < 4294967296 ^ 8, modN 1 < 4294967296 ^ 8, inN (modN 1) x < modN 1, inN (modN 1) x < modN 1, goodF (modN 1) (facN 1), inN (modN 1) x < 4294967296 ^ 8, inN (modN 1) x < 4294967296 ^ 8, modN 1 < 4294967296 ^ 8, mmN (modN 1) (inN (modN 1) x) (inN (modN 1) x) < modN 1, inN (modN 1) x < modN 1, goodF (modN 1) (facN 1), mmN (modN 1) (inN (modN 1) x) (inN (modN 1) x) < 4294967296 ^ 8, inN (modN 1) x < 4294967296 ^ 8, modN 1 < 4294967296 ^ 8, mmN (modN 1) (mmN (modN 1) (inN (modN 1) x) (inN (modN 1) x)) (inN (modN 1) x) < modN 1, addM (modN 1) (addM (modN 1) (inN (modN 1) x) (inN (modN 1) x)) (inN (modN 1) x) < modN 1, mmN (modN 1) (mmN (modN 1) (inN (modN 1) x) (inN (modN 1) x)) (inN (modN 1) x) < 4294967296 ^ 8, addM (modN 1) (addM (modN 1) (inN (modN 1) x) (inN (modN 1) x)) (inN (modN 1) x) < 4294967296 ^ 8, modN 1 < 4294967296 ^ 8, 0 < modN 1, wBN < 4294967296 ^ 8, modN 1 < 4294967296 ^ 8, subM (modN 1) (mmN (modN 1) (mmN (modN 1) (inN (modN 1) x) (inN (modN 1) x)) (inN (modN 1) x)) (addM (modN 1) (addM (modN 1) (inN (modN 1) x) (inN (modN 1) x)) (inN (modN 1) x)) < modN 1, inN (modN 1) wBN < modN 1, subM (modN 1) (mmN (modN 1) (mmN (modN 1) (inN (modN 1) x) (inN (modN 1) x)) (inN (modN 1) x)) (addM (modN 1) (addM (modN 1) (inN (modN 1) x) (inN (modN 1) x)) (inN (modN 1) x)) < 4294967296 ^ 8, inN (modN 1) wBN < 4294967296 ^ 8, modN 1 < 4294967296 ^ 8, addM (modN 1) (subM (modN 1) (mmN (modN 1) (mmN (modN 1) (inN (modN 1) x) (inN (modN 1) x)) (inN (modN 1) x)) (addM (modN 1) (addM (modN 1) (inN (modN 1) x) (inN (modN 1) x)) (inN (modN 1) x))) (inN (modN 1) wBN) < modN 1, goodF (modN 1) (facN 1), addM (modN 1) (subM (modN 1) (mmN (modN 1) (mmN (modN 1) (inN (modN 1) x) (inN (modN 1) x)) (inN (modN 1) x)) (addM (modN 1) (addM (modN 1) (inN (modN 1) x) (inN (modN 1) x)) (inN (modN 1) x))) (inN (modN 1) wBN) < 4294967296 ^ 8], .val (N8 (outN (modN 1) (sqI x)))) := by kernel_rfl
theorem spec68w (x : Nat) (hx : x < modN 1) : Spec 68 [N8 x] (.val (N8 (outN (modN 1) (sqI x)))) := by
  have h0 := wBN_lt
  exact spec_run (envMk L8a_ok noS) rfl (wi68 x) ⟨(by decide), (modN_lt _), (modN_pos _), (by first | with_reducible assumption | with_reducible exact L8 (by with_reducible assumption) | exact decide_eq_true (by omega) | exact decide_eq_false (by omega) | omega), (modN_lt _), (inN_lt (modN_pos _)), (inN_lt (modN_pos _)), (L8 (inN_lt (modN_pos _))), (L8 (inN_lt (modN_pos _))), (modN_lt _), (addM_lt (modN_pos _)), (inN_lt (modN_pos _)), (L8 (addM_lt (modN_pos _))), (L8 (inN_lt (modN_pos _))), (modN_lt _), (inN_lt (modN_pos _)), (inN_lt (modN_pos _)), (good_fac (by decide)), (L8 (inN_lt (modN_pos _))), (L8 (inN_lt (modN_pos _))), (modN_lt _), (mmN_lt (modN_pos _)), (inN_lt (modN_pos _)), (good_fac (by decide)), (L8 (mmN_lt (modN_pos _))), (L8 (inN_lt (modN_pos _))), (modN_lt _), (mmN_lt (modN_pos _)), (addM_lt (modN_pos _)), (L8 (mmN_lt (modN_pos _))), (L8 (addM_lt (modN_pos _))), (modN_lt _), (modN_pos _), (by first | with_reducible assumption | with_reducible exact L8 (by with_reducible assumption) | exact decide_eq_true (by omega) | exact decide_eq_false (by omega) | omega), (modN_lt _), (subM_lt (modN_pos _)), (inN_lt (modN_pos _)), (L8 (subM_lt (modN_pos _))), (L8 (inN_lt (modN_pos _))), (modN_lt _), (addM_lt (modN_pos _)), (good_fac (by decide)), (L8 (addM_lt (modN_pos _))), trivial⟩ rfl rfl
end Go.Ev

namespace Go.Ev
open Go Go.Proofs Go.RowKit

/-! is it a spot? -/
theorem ok1_1 {x : Nat} : ok1 1 x = decide (x < modN 1) := by
  unfold ok1 lessB; rfl
def gRem (V m : Nat) : AV := .tup [N8 (remN V m), .one (.i 0)]
noncomputable def L67 : List CT := [⟨105, fnDiv gRem⟩, ⟨106, fn2 (fun a b => .val (N16 (a * b)))⟩] ++ L8a
theorem L67_ok : AllCT L67 := ⟨fun _ _ _ h ho => fnDiv_ok spec48 h ho, fun _ _ _ h ho => fn2_ok spec92 h ho, L8a_ok⟩
theorem mul16 {a b : Nat} (ha : a < 4294967296 ^ 8) (hb : b < 4294967296 ^ 8) : a * b < 4294967296 ^ 16 := by
  rw [show (4294967296 : Nat) ^ 16 = 4294967296 ^ 8 * 4294967296 ^ 8 by rw [← Nat.pow_add]]
  exact Nat.mul_lt_mul'' ha hb
theorem wi67 (m : Nat) (a : Nat) (b : Nat) : callR (mkE L67 noS) 1000 67 [N8 m, N8 a, N8 b] [] =
    some ([a < 4294967296 ^ 8, b < 4294967296 ^ 8, a * b < 4294967296 ^ 16, 0 < m, m < 4294967296 ^ 8], .val (N8 (remN (a * b) m))) := by kernel_rfl
theorem spec67w (m a b : Nat) (hm : m < 4294967296 ^ 8) (h0 : 0 < m) (ha : a < 4294967296 ^ 8) (hb : b < 4294967296 ^ 8) : Spec 67 [N8 m, N8 a, N8 b] (.val (N8 (remN (a * b) m))) := by
  have h16 := mul16 ha hb
  exact spec_run (envMk L67_ok noS) rfl (wi67 m a b) ⟨(by first | with_reducible assumption | with_reducible exact L8 (by with_reducible assumption) | exact decide_eq_true (by omega) | exact decide_eq_false (by omega) | omega), (by first | with_reducible assumption | with_reducible exact L8 (by with_reducible assumption) | exact decide_eq_true (by omega) | exact decide_eq_false (by omega) | omega), (by first | with_reducible assumption | with_reducible exact L8 (by with_reducible assumption) | exact decide_eq_true (by omega) | exact decide_eq_false (by omega) | omega), (by first | with_reducible assumption | with_reducible exact L8 (by with_reducible assumption) | exact decide_eq_true (by omega) | exact decide_eq_false (by omega) | omega), (by first | with_reducible assumption | with_reducible exact L8 (by with_reducible assumption) | exact decide_eq_true (by omega) | exact decide_eq_false (by omega) | omega), trivial⟩ rfl rfl
def gPr : List Val → Option (List Prop × AV)
  | [.n m, .n a, .n b] => some ([0 < m], .val (N8 (remN (a * b) m)))
  | _ => none
theorem ct67w : CTok ⟨67, fnS [aN, aN, aN] gPr⟩ := ctS (by
  intro xs ob r hb h ho
  unfold gPr at h
  split at h
  · rename_i m a b
    simp only [Option.some.injEq, Prod.mk.injEq] at h
    obtain ⟨rfl, rfl⟩ := h
    obtain ⟨⟨h1, _⟩, ⟨h2, _⟩, ⟨h3, _⟩, _⟩ := hb
    exact spec67w m a b h1 ho.1 h2 h3
  · simp at h)
noncomputable def gSq : List Val → Option (List Prop × AV)
  | [.n x] => some ([x < modN 1], .val (N8 (outN (modN 1) (sqI x))))
  | _ => none
theorem ct68w : CTok ⟨68, fnS [aN] gSq⟩ := ctS (by
  intro xs ob r hb h ho
  unfold gSq at h
  split at h
  · rename_i x
    simp only [Option.some.injEq, Prod.mk.injEq] at h
    obtain ⟨rfl, rfl⟩ := h
    exact spec68w x ho.1
  · simp at h)
noncomputable def sqJ (x : Nat) : Nat := addM (modN 1) (subM (modN 1) (mmN (modN 1) x (mmN (modN 1) x x)) (addM (modN 1) x (addM (modN 1) x x))) (inN (modN 1) wBN)
theorem wi49 (x : Nat) : callR (mkE L8a noS) 1000 49 [rg1, N8 x] [] =
    some ([okR (modN 1) (facR (limb (modN 1) 0)) (r2N (modN 1)), x < modN 1, x < modN 1, x < 4294967296 ^ 8, x < 4294967296 ^ 8, okR (modN 1) (facR (limb (modN 1) 0)) (r2N (modN 1)), x < modN 1, addM (modN 1) x x < modN 1, x < 4294967296 ^ 8, addM (modN 1) x x < 4294967296 ^ 8, okR (modN 1) (facR (limb (modN 1) 0)) (r2N (modN 1)), x < modN 1, x < modN 1, x < 4294967296 ^ 8, x < 4294967296 ^ 8, okR (modN 1) (facR (limb (modN 1) 0)) (r2N (modN 1)), x < modN 1, mmN (modN 1) x x < modN 1, x < 4294967296 ^ 8, mmN (modN 1) x x < 4294967296 ^ 8, okR (modN 1) (facR (limb (modN 1) 0)) (r2N (modN 1)), mmN (modN 1) x (mmN (modN 1) x x) < modN 1, addM (modN 1) x (addM (modN 1) x x) < modN 1, mmN (modN 1) x (mmN (modN 1) x x) < 4294967296 ^ 8, addM (modN 1) x (addM (modN 1) x x) < 4294967296 ^ 8, okR (modN 1) (facR (limb (modN 1) 0)) (r2N (modN 1)), wBN < modN 1, wBN < 4294967296 ^ 8, okR (modN 1) (facR (limb (modN 1) 0)) (r2N (modN 1)), subM (modN 1) (mmN (modN 1) x (mmN (modN 1) x x)) (addM (modN 1) x (addM (modN 1) x x)) < modN 1, inN (modN 1) wBN < modN 1, subM (modN 1) (mmN (modN 1) x (mmN (modN 1) x x)) (addM (modN 1) x (addM (modN 1) x x)) < 4294967296 ^ 8, inN (modN 1) wBN < 4294967296 ^ 8], .val (N8 (sqJ x))) := by kernel_rfl
theorem spec49w (x : Nat) (hx : x < modN 1) : Spec 49 [rg1, N8 x] (.val (N8 (sqJ x))) := by
  have h0 := wBN_lt
  exact spec_run (envMk L8a_ok noS) rfl (wi49 x) ⟨(okR_K (by decide)), (by first | with_reducible assumption | with_reducible exact L8 (by with_reducible assumption) | exact decide_eq_true (by omega) | exact decide_eq_false (by omega) | omega), (by first | with_reducible assumption | with_reducible exact L8 (by with_reducible assumption) | exact decide_eq_true (by omega) | exact decide_eq_false (by omega) | omega), (by first | with_reducible assumption | with_reducible exact L8 (by with_reducible assumption) | exact decide_eq_true (by omega) | exact decide_eq_false (by omega) | omega), (by first | with_reducible assumption | with_reducible exact L8 (by with_reducible assumption) | exact decide_eq_true (by omega) | exact decide_eq_false (by omega) | omega), (okR_K (by decide)), (by first | with_reducible assumption | with_reducible exact L8 (by with_reducible assumption) | exact decide_eq_true (by omega) | exact decide_eq_false (by omega) | omega), (addM_lt (modN_pos _)), (by first | with_reducible assumption | with_reducible exact L8 (by with_reducible assumption) | exact decide_eq_true (by omega) | exact decide_eq_false (by omega) | omega), (L8 (addM_lt (modN_pos _))), (okR_K (by decide)), (by first | with_reducible assumption | with_reducible exact L8 (by with_reducible assumption) | exact decide_eq_true (by omega) | exact decide_eq_false (by omega) | omega), (by first | with_reducible assumption | with_reducible exact L8 (by with_reducible assumption) | exact decide_eq_true (by omega) | exact decide_eq_false (by omega) | omega), (by first | with_reducible assumption | with_reducible exact L8 (by with_reducible assumption) | exact decide_eq_true (by omega) | exact decide_eq_false (by omega) | omega), (by first | with_reducible assumption | with_reducible exact L8 (by with_reducible assumption) | exact decide_eq_true (by omega) | exact decide_eq_false (by omega) | omega), (okR_K (by decide)), (by first | with_reducible assumption | with_reducible exact L8 (by with_reducible assumption) | exact decide_eq_true (by omega) | exact decide_eq_false (by omega) | omega), (mmN_lt (modN_pos _)), (by first | with_reducible assumption | with_reducible exact L8 (by with_reducible assumption) | exact decide_eq_true (by omega) | exact decide_eq_false (by omega) | omega), (L8 (mmN_lt (modN_pos _))), (okR_K (by decide)), (mmN_lt (modN_pos _)), (addM_lt (modN_pos _)), (L8 (mmN_lt (modN_pos _))), (L8 (addM_lt (modN_pos _))), (okR_K (by decide)), (by first | with_reducible assumption | with_reducible exact L8 (by with_reducible assumption) | exact decide_eq_true (by omega) | exact decide_eq_false (by omega) | omega), (by first | with_reducible assumption | with_reducible exact L8 (by with_reducible assumption) | exact decide_eq_true (by omega) | exact decide_eq_false (by omega) | omega), (okR_K (by decide)), (subM_lt (modN_pos _)), (inN_lt (modN_pos _)), (L8 (subM_lt (modN_pos _))), (L8 (inN_lt (modN_pos _))), trivial⟩ rfl rfl
noncomputable def gRight : List Val → Option (List Prop × AV)
  | [.n m, .n q, .n w, .n x] => some ([m = modN 1, q = facR (limb (modN 1) 0), w = r2N (modN 1), x < modN 1], .val (N8 (sqJ x)))
  | _ => none
theorem ct49w : CTok ⟨49, fnS [aLaw, aN] gRight⟩ := ctS (by
  intro xs ob r hb h ho
  unfold gRight at h
  split at h
  · rename_i m q w x
    simp only [Option.some.injEq, Prod.mk.injEq] at h
    obtain ⟨rfl, rfl⟩ := h
    obtain ⟨e0, e1, e2, h1, _⟩ := ho
    have hS := spec49w x h1
    unfold rg1 rgK rg at hS
    rw [← e2, ← e1, ← e0] at hS
    exact hS
  · simp at h)
noncomputable def L2a : List CT := [⟨67, fnS [aN, aN, aN] gPr⟩, ⟨68, fnS [aN] gSq⟩, ⟨49, fnS [aLaw, aN] gRight⟩] ++ L8a
theorem L2a_ok : AllCT L2a := ⟨ct67w, ct68w, ct49w, L8a_ok⟩
def isI (x y : Nat) : Bool := match eqF [.num 8 x, .num 8 y, .a (.v (.bool true))] (cellsU 16 0 zF ++ [.a (.v (.bool true))]) with | some b => b | none => true
theorem isI_eq {x y : Nat} (hx : x < 4294967296 ^ 8) (hy : y < 4294967296 ^ 8) : isI x y = (decide (x = 0) && decide (y = 0)) := by
  have h1 : ∃ b, eqF [.num 8 x, .num 8 y, .a (.v (.bool true))] (cellsU 16 0 zF ++ [.a (.v (.bool true))]) = some b := ⟨_, rfl⟩
  obtain ⟨b, hb⟩ := h1
  have h2 := eqF_spec (φ := fun _ => (0, 0, 0)) _ _ hb
  have h3 : eqF [.num 8 x, .num 8 y, .a (.v (.bool true))] [.num 8 0, .num 8 0, .a (.v (.bool true))] = some (decide (x % 4294967296 ^ 8 = 0 % 4294967296 ^ 8) && (decide (y % 4294967296 ^ 8 = 0 % 4294967296 ^ 8) && (true == true && true))) := rfl
  have h4 := eqF_spec (φ := fun _ => (0, 0, 0)) _ _ h3
  rw [show concs (fun _ => ((0 : Nat), (0 : Nat), (0 : Nat))) [.num 8 0, .num 8 0, .a (.v (.bool true))] = concs (fun _ => ((0 : Nat), (0 : Nat), (0 : Nat))) (cellsU 16 0 zF ++ [.a (.v (.bool true))]) by kernel_rfl] at h4
  rw [h4] at h2
  unfold isI
  rw [hb]
  simp only
  rw [← h2, Nat.mod_eq_of_lt hx, Nat.mod_eq_of_lt hy]
  simp
noncomputable def S38 : FuncId → Nat → Bool := fun f t => match f with | 38 => memN t [11, 16] | _ => false
noncomputable def S14 : FuncId → Nat → Bool := fun f t => match f with | 45 => memN t [21] | _ => false
def ltW (x y : Nat) : Bool := decide (x < modN 1) && decide (y < modN 1)
noncomputable def eqW (x y : Nat) : Bool := decide (mmN (modN 1) (inN (modN 1) y) (inN (modN 1) y) = sqJ (inN (modN 1) x))
noncomputable def onS (x y : Nat) (i : Bool) : Bool := bif i then (decide (x = 0) && decide (y = 0)) else (ltW x y && eqW x y)
theorem sqI_J (x : Nat) : sqI x = sqJ (inN (modN 1) x) := by
  unfold sqI sqJ addM mmN mredN mulN
  rw [Nat.mul_comm (inN (modN 1) x) (_ % _), Nat.add_mod_mod, Nat.mod_add_mod]
  rw [show inN (modN 1) x + inN (modN 1) x + inN (modN 1) x = inN (modN 1) x + (inN (modN 1) x + inN (modN 1) x) by omega]
end Go.Ev

namespace Go.Ev
open Go Go.Proofs Go.RowKit

theorem wi38i (x : Nat) (y : Nat) : callR (mkE L2a S38) 1000 38 [P3 x y true] [] =
    some ([], bV (isI x y)) := by kernel_rfl
theorem wi38y (x : Nat) (y : Nat) : callR (mkE L2a S38) 1000 38 [P3 x y false] [true, true] =
    some ([ok1 (1 : Int) x = true, x < 4294967296 ^ 8, ok1 (1 : Int) y = true, y < 4294967296 ^ 8, (0 : Int) ≤ (1 : Int) ∧ (1 : Int) < (4 : Int), modN 1 < 4294967296 ^ 8, y < 4294967296 ^ 8, y < 4294967296 ^ 8, 0 < modN 1, x < 4294967296 ^ 8, x < modN 1], bV (decide (remN (y * y) (modN 1) % 4294967296 ^ 8 = outN (modN 1) (sqI x) % 4294967296 ^ 8) && true)) := by kernel_rfl
theorem wi38n (x : Nat) (y : Nat) : callR (mkE L2a S38) 1000 38 [P3 x y false] [true, false] =
    some ([ok1 (1 : Int) x = true, x < 4294967296 ^ 8, ok1 (1 : Int) y = false, y < 4294967296 ^ 8], bV false) := by kernel_rfl
theorem wi38m (x : Nat) (y : Nat) : callR (mkE L2a S38) 1000 38 [P3 x y false] [false] =
    some ([ok1 (1 : Int) x = false, x < 4294967296 ^ 8], bV false) := by kernel_rfl
theorem wi14i (x : Nat) (y : Nat) : callR (mkE L2a S14) 1000 14 [P3 x y true] [] =
    some ([], bV (isI x y)) := by kernel_rfl
theorem wi14y (x : Nat) (y : Nat) : callR (mkE L2a S14) 1000 14 [P3 x y false] [true, true] =
    some ([(0 : Int) ≤ (1 : Int) ∧ (1 : Int) < (4 : Int), decide (x < modN 1) = true, x < 4294967296 ^ 8, modN 1 < 4294967296 ^ 8, (0 : Int) ≤ (1 : Int) ∧ (1 : Int) < (4 : Int), decide (y < modN 1) = true, y < 4294967296 ^ 8, modN 1 < 4294967296 ^ 8, (0 : Int) ≤ (1 : Int) ∧ (1 : Int) < (4 : Int), okR (modN 1) (facR (limb (modN 1) 0)) (r2N (modN 1)), y < modN 1, y < 4294967296 ^ 8, okR (modN 1) (facR (limb (modN 1) 0)) (r2N (modN 1)), inN (modN 1) y < modN 1, inN (modN 1) y < modN 1, inN (modN 1) y < 4294967296 ^ 8, inN (modN 1) y < 4294967296 ^ 8, okR (modN 1) (facR (limb (modN 1) 0)) (r2N (modN 1)), x < modN 1, x < 4294967296 ^ 8, modN 1 < 4294967296 ^ 8, facR (limb (modN 1) 0) < 4294967296, r2N (modN 1) < 4294967296 ^ 8, inN (modN 1) x < 4294967296 ^ 8, modN 1 = modN 1, facR (limb (modN 1) 0) = facR (limb (modN 1) 0), r2N (modN 1) = r2N (modN 1), inN (modN 1) x < modN 1], bV (decide (mmN (modN 1) (inN (modN 1) y) (inN (modN 1) y) % 4294967296 ^ 8 = sqJ (inN (modN 1) x) % 4294967296 ^ 8) && true)) := by kernel_rfl
theorem wi14n (x : Nat) (y : Nat) : callR (mkE L2a S14) 1000 14 [P3 x y false] [true, false] =
    some ([(0 : Int) ≤ (1 : Int) ∧ (1 : Int) < (4 : Int), decide (x < modN 1) = true, x < 4294967296 ^ 8, modN 1 < 4294967296 ^ 8, (0 : Int) ≤ (1 : Int) ∧ (1 : Int) < (4 : Int), decide (y < modN 1) = false, y < 4294967296 ^ 8, modN 1 < 4294967296 ^ 8], bV false) := by kernel_rfl
theorem wi14m (x : Nat) (y : Nat) : callR (mkE L2a S14) 1000 14 [P3 x y false] [false] =
    some ([(0 : Int) ≤ (1 : Int) ∧ (1 : Int) < (4 : Int), decide (x < modN 1) = false, x < 4294967296 ^ 8, modN 1 < 4294967296 ^ 8], bV false) := by kernel_rfl
def sqP (x : Nat) : Nat := addM (modN 1) (subM (modN 1) (mulM (modN 1) x (mulM (modN 1) x x)) (addM (modN 1) x (addM (modN 1) x x))) wBN
theorem sqP_lt (x : Nat) : sqP x < modN 1 := addM_lt (modN_pos 1)
theorem sqJ_in (x : Nat) : sqJ (inN (modN 1) x) = inN (modN 1) (sqP x) := by
  unfold sqJ sqP
  rw [in_mul (by decide), in_mul (by decide), in_add, in_add, in_sub (modN_pos 1) (addM_lt (modN_pos 1)), in_add]
theorem eqW_in {x y : Nat} : eqW x y = decide (mulM (modN 1) y y = sqP x) := by
  unfold eqW
  rw [sqJ_in, in_mul (by decide), Bool.eq_iff_iff, decide_eq_true_iff, decide_eq_true_iff]
  exact ⟨fun h => in_inj (modN_lt 1) (good_fac (by decide)) (mulM_lt (modN_pos 1)) (sqP_lt x) h, fun h => by rw [h]⟩
theorem spec38w (x y : Nat) (i : Bool) (hx : x < 4294967296 ^ 8) (hy : y < 4294967296 ^ 8) : Spec 38 [P3 x y i] (bV (onS x y i)) := by
  have h0 := wBN_lt
  unfold onS
  cases i with
  | true =>
    rw [cond_true, ← isI_eq hx hy]
    exact spec_run (envMk L2a_ok S38) rfl (wi38i x y) trivial rfl rfl
  | false =>
  rw [cond_false]
  unfold ltW
  cases h1 : decide (x < modN 1) with
  | false =>
    have h1' : ok1 1 x = false := by rw [ok1_1]; exact h1
    rw [Bool.false_and, Bool.false_and]
    exact spec_run (envMk L2a_ok S38) rfl (wi38m x y) ⟨(by first | with_reducible assumption | with_reducible exact L8 (by with_reducible assumption) | exact decide_eq_true (by omega) | exact decide_eq_false (by omega) | omega), (by first | with_reducible assumption | with_reducible exact L8 (by with_reducible assumption) | exact decide_eq_true (by omega) | exact decide_eq_false (by omega) | omega), trivial⟩ rfl rfl
  | true =>
    have h1' : ok1 1 x = true := by rw [ok1_1]; exact h1
    cases h2 : decide (y < modN 1) with
    | false =>
      have h2' : ok1 1 y = false := by rw [ok1_1]; exact h2
      rw [Bool.and_false, Bool.false_and]
      exact spec_run (envMk L2a_ok S38) rfl (wi38n x y) ⟨(by first | with_reducible assumption | with_reducible exact L8 (by with_reducible assumption) | exact decide_eq_true (by omega) | exact decide_eq_false (by omega) | omega), (by first | with_reducible assumption | with_reducible exact L8 (by with_reducible assumption) | exact decide_eq_true (by omega) | exact decide_eq_false (by omega) | omega), (by first | with_reducible assumption | with_reducible exact L8 (by with_reducible assumption) | exact decide_eq_true (by omega) | exact decide_eq_false (by omega) | omega), (by first | with_reducible assumption | with_reducible exact L8 (by with_reducible assumption) | exact decide_eq_true (by omega) | exact decide_eq_false (by omega) | omega), trivial⟩ rfl rfl
    | true =>
      have h2' : ok1 1 y = true := by rw [ok1_1]; exact h2
      have hx' := of_decide_eq_true h1
      have hy' := of_decide_eq_true h2
      have hp := modN_pos 1
      have hm8 := modN_lt 1
      rw [Bool.and_true, Bool.true_and]
      have h := spec_run (envMk L2a_ok S38) rfl (wi38y x y) ⟨(by first | with_reducible assumption | with_reducible exact L8 (by with_reducible assumption) | exact decide_eq_true (by omega) | exact decide_eq_false (by omega) | omega), (by first | with_reducible assumption | with_reducible exact L8 (by with_reducible assumption) | exact decide_eq_true (by omega) | exact decide_eq_false (by omega) | omega), (by first | with_reducible assumption | with_reducible exact L8 (by with_reducible assumption) | exact decide_eq_true (by omega) | exact decide_eq_false (by omega) | omega), (by first | with_reducible assumption | with_reducible exact L8 (by with_reducible assumption) | exact decide_eq_true (by omega) | exact decide_eq_false (by omega) | omega), (by decide), (modN_lt _), (by first | with_reducible assumption | with_reducible exact L8 (by with_reducible assumption) | exact decide_eq_true (by omega) | exact decide_eq_false (by omega) | omega), (by first | with_reducible assumption | with_reducible exact L8 (by with_reducible assumption) | exact decide_eq_true (by omega) | exact decide_eq_false (by omega) | omega), (modN_pos _), (by first | with_reducible assumption | with_reducible exact L8 (by with_reducible assumption) | exact decide_eq_true (by omega) | exact decide_eq_false (by omega) | omega), (by first | with_reducible assumption | with_reducible exact L8 (by with_reducible assumption) | exact decide_eq_true (by omega) | exact decide_eq_false (by omega) | omega), trivial⟩ rfl rfl
      have e1 : remN (y * y) (modN 1) = mulM (modN 1) y y := rfl
      have e2 : outN (modN 1) (sqI x) = sqP x := by rw [sqI_J, sqJ_in, out_in (modN_lt 1) (good_fac (by decide)) (sqP_lt x)]
      rw [e1, e2, same_b (L8 (mulM_lt hp)) (L8 (sqP_lt x))] at h
      rw [eqW_in]
      exact h
theorem spec14w (x y : Nat) (i : Bool) (hx : x < 4294967296 ^ 8) (hy : y < 4294967296 ^ 8) : Spec 14 [P3 x y i] (bV (onS x y i)) := by
  have h0 := wBN_lt
  unfold onS
  cases i with
  | true =>
    rw [cond_true, ← isI_eq hx hy]
    exact spec_run (envMk L2a_ok S14) rfl (wi14i x y) trivial rfl rfl
  | false =>
  rw [cond_false]
  unfold ltW
  cases h1 : decide (x < modN 1) with
  | false =>
    have h1' : lessB 1 x = false := h1
    rw [Bool.false_and, Bool.false_and]
    exact spec_run (envMk L2a_ok S14) rfl (wi14m x y) ⟨(by decide), (by first | with_reducible assumption | with_reducible exact L8 (by with_reducible assumption) | exact decide_eq_true (by omega) | exact decide_eq_false (by omega) | omega), (by first | with_reducible assumption | with_reducible exact L8 (by with_reducible assumption) | exact decide_eq_true (by omega) | exact decide_eq_false (by omega) | omega), (modN_lt _), trivial⟩ rfl rfl
  | true =>
    have h1' : lessB 1 x = true := h1
    cases h2 : decide (y < modN 1) with
    | false =>
      have h2' : lessB 1 y = false := h2
      rw [Bool.and_false, Bool.false_and]
      exact spec_run (envMk L2a_ok S14) rfl (wi14n x y) ⟨(by decide), (by first | with_reducible assumption | with_reducible exact L8 (by with_reducible assumption) | exact decide_eq_true (by omega) | exact decide_eq_false (by omega) | omega), (by first | with_reducible assumption | with_reducible exact L8 (by with_reducible assumption) | exact decide_eq_true (by omega) | exact decide_eq_false (by omega) | omega), (modN_lt _), (by decide), (by first | with_reducible assumption | with_reducible exact L8 (by with_reducible assumption) | exact decide_eq_true (by omega) | exact decide_eq_false (by omega) | omega), (by first | with_reducible assumption | with_reducible exact L8 (by with_reducible assumption) | exact decide_eq_true (by omega) | exact decide_eq_false (by omega) | omega), (modN_lt _), trivial⟩ rfl rfl
    | true =>
      have h2' : lessB 1 y = true := h2
      have hx' := of_decide_eq_true h1
      have hy' := of_decide_eq_true h2
      have hp := modN_pos 1
      rw [Bool.and_true, Bool.true_and]
      have h := spec_run (envMk L2a_ok S14) rfl (wi14y x y) ⟨(by decide), (by first | with_reducible assumption | with_reducible exact L8 (by with_reducible assumption) | exact decide_eq_true (by omega) | exact decide_eq_false (by omega) | omega), (by first | with_reducible assumption | with_reducible exact L8 (by with_reducible assumption) | exact decide_eq_true (by omega) | exact decide_eq_false (by omega) | omega), (modN_lt _), (by decide), (by first | with_reducible assumption | with_reducible exact L8 (by with_reducible assumption) | exact decide_eq_true (by omega) | exact decide_eq_false (by omega) | omega), (by first | with_reducible assumption | with_reducible exact L8 (by with_reducible assumption) | exact decide_eq_true (by omega) | exact decide_eq_false (by omega) | omega), (modN_lt _), (by decide), (okR_K (by decide)), (by first | with_reducible assumption | with_reducible exact L8 (by with_reducible assumption) | exact decide_eq_true (by omega) | exact decide_eq_false (by omega) | omega), (by first | with_reducible assumption | with_reducible exact L8 (by with_reducible assumption) | exact decide_eq_true (by omega) | exact decide_eq_false (by omega) | omega), (okR_K (by decide)), (inN_lt (modN_pos _)), (inN_lt (modN_pos _)), (L8 (inN_lt (modN_pos _))), (L8 (inN_lt (modN_pos _))), (okR_K (by decide)), (by first | with_reducible assumption | with_reducible exact L8 (by with_reducible assumption) | exact decide_eq_true (by omega) | exact decide_eq_false (by omega) | omega), (by first | with_reducible assumption | with_reducible exact L8 (by with_reducible assumption) | exact decide_eq_true (by omega) | exact decide_eq_false (by omega) | omega), (modN_lt _), (facR_lt32 _), (L8 (r2N_lt (by decide))), (L8 (inN_lt (modN_pos _))), rfl, rfl, rfl, (inN_lt (modN_pos _)), trivial⟩ rfl rfl
      rw [same_b (L8 (mmN_lt hp)) (L8 (show sqJ (inN (modN 1) x) < modN 1 from addM_lt hp))] at h
      exact h
def gOn (b : Nat → Nat → Bool → Bool) : List Val → Option (List Prop × AV)
  | [.n x, .n y, .b i] => some ([], bV (b x y i))
  | _ => none
def aSp : Arg := .s [.n8, .n8, .b]
theorem ctOn {f : FuncId} (hf : ∀ x y i, x < 4294967296 ^ 8 → y < 4294967296 ^ 8 → Spec f [P3 x y i] (bV (onS x y i))) : CTok ⟨f, fnS [aSp] (gOn onS)⟩ := ctS (by
  intro xs ob r hb h ho
  unfold gOn at h
  split at h
  · rename_i x y i
    simp only [Option.some.injEq, Prod.mk.injEq] at h
    obtain ⟨rfl, rfl⟩ := h
    obtain ⟨⟨hx, hy, _⟩, _⟩ := hb
    exact hf x y i hx hy
  · simp at h)
noncomputable def L3a : List CT := [⟨38, fnS [aSp] (gOn onS)⟩, ⟨14, fnS [aSp] (gOn onS)⟩] ++ L2a
theorem L3a_ok : AllCT L3a := ⟨ctOn spec38w, ctOn spec14w, L2a_ok⟩
end Go.Ev

