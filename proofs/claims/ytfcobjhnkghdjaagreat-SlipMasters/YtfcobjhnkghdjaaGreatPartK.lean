/- An evaluator of the model's code with values known in part, and its soundness; Roots, and points of the curve: what the functions on them come to -/
import Derived.Test.YtfcobjhnkghdjaaGreatPartJ
import Derived.Test.YtfcobjhnkghdjaaGreatPartB
import Derived.Test.YtfcobjhnkghdjaaGreatRows
namespace Go.Ev
open Go Go.RowKit
inductive SK where | n8 | i | s | b | u32 | u64
def SK.sz : SK → Nat
 | .n8 => 8
 | _ => 1
def nA (c : Cells) (p : Nat) : Nat := valU 8 p c.n
def nU (c : Cells) (p : Nat) : Nat := c.n p
def zA (c : Cells) (p : Nat) : Int := c.z p
def sA (c : Cells) (p : Nat) : ByteArray := c.s p
def bA (c : Cells) (p : Nat) : Bool := c.b p
def SK.pc (c : Cells) (p : Nat) : SK → Piece
 | .n8 => .num 8 (nA c p)
 | .i => .a (.i (zA c p))
 | .s => .a (.v (.string (sA c p)))
 | .b => .a (.v (.bool (bA c p)))
 | .u32 => .a (.u .u32 (nU c p))
 | .u64 => .a (.u .u64 (nU c p))
def shSz : List SK → Nat
 | [] => 0
 | k :: l => k.sz + shSz l
def fldPs (c : Cells) : List SK → Nat → List Piece
 | [], _ => []
 | k :: l, p => k.pc c p :: fldPs c l (p + k.sz)
def rowPs (c : Cells) (sh : List SK) : Nat → Nat → List Piece
 | 0, _ => []
 | m + 1, p => fldPs c sh p ++ rowPs c sh m (p + shSz sh)
theorem fld_free (c : Cells) (f : Nat → Bool) : ∀ (sh : List SK) (p : Nat), allPtr f (fldPs c sh p) = true
 | [], _ => rfl
 | k :: l, p => by cases k <;> simp [fldPs, SK.pc, allPtr, fld_free c f l]
theorem allPtr_app (f : Nat → Bool) : ∀ (ps qs : List Piece), allPtr f ps = true → allPtr f qs = true → allPtr f (ps ++ qs) = true
 | [], _, _, h => h
 | p :: ps, qs, h, h' => by
  unfold allPtr at h
  cases p with
  | num k x => simp only [List.cons_append, allPtr] at h ⊢; exact allPtr_app f ps qs h h'
  | arr k x => simp only [List.cons_append, allPtr] at h ⊢; exact allPtr_app f ps qs h h'
  | a x =>
   cases x <;> simp only [List.cons_append, allPtr, Bool.and_eq_true] at h ⊢ <;>
    first | exact ⟨h.1, allPtr_app f ps qs h.2 h'⟩ | exact allPtr_app f ps qs h h'
theorem row_free (c : Cells) (sh : List SK) (f : Nat → Bool) : ∀ m p, allPtr f (rowPs c sh m p) = true
 | 0, _ => rfl
 | m + 1, p => allPtr_app f _ _ (fld_free c f sh p) (row_free c sh f m _)
end Go.Ev

namespace Go.Ev
open Go Go.Proofs Go.RowKit
noncomputable def mkF (L : List CT) (fm : FuncId → List V1 → List (Option Blk) → Option (List Prop × AV)) (S : FuncId → Nat → Bool) : Env := { E0 with fn := lookC L, fm := fm, S := S }
theorem envMkF {L : List CT} (hL : AllCT L) {fm : FuncId → List V1 → List (Option Blk) → Option (List Prop × AV)}
  (hfm : ∀ f vs mem ob r, fm f vs (blks mem vs) = some (ob, r) → All ob → ∀ w0 φ w, MRel w0 φ mem w → Calls Tryz.prog f (vs.map (V1.conc φ)).toArray w fun e w' => e = .returned (r.conc φ) ∧ Below w.heap.size w w')
  (S : FuncId → Nat → Bool) : EnvOK (mkF L fm S) :=
 ⟨mixed, fun _ _ _ _ h ho => lookC_spec hL h ho, hfm, fun _ _ _ h => by simp [mkF, E0] at h, fun _ _ _ _ _ _ h => by simp [mkF, E0] at h⟩
noncomputable def withL (E : Env) (k : Nat) (y : Code) (f : List AV → List Blk → List Bool → CoR) : Env := { E with lp := fun j => match Nat.beq j k with | true => some (y, f) | false => none }
theorem envWithL {E : Env} (hE : EnvOK E) {k : Nat} {y : Code} {f : List AV → List Blk → List Bool → CoR} (h : SumOK E.P (.loop y) f) : EnvOK (withL E k y f) := envEL1 hE h
theorem pwM_K {p a e : Nat} (hp : p < 2 ^ 256) (he : e < p) : Go.NT.powK 256 a e p = Go.NT.pwM p a e := by unfold Go.NT.pwM; exact Go.NT.powK_256 hp he
theorem u4 : Tryz.prog.underlying 4 = some .bool := by kernel_rfl
theorem laid : laidOutB Tryz.prog = true := by kernel_rfl
theorem own : ownKnob Tryz.prog.godebug = none := by kernel_rfl
theorem lit0 : 0 < 4294967296 := by decide
theorem lit0_8 : 0 < 4294967296 ^ 8 := by decide
theorem lit1 : 1 < 4294967296 := by decide
theorem lit1_8 : 1 < 4294967296 ^ 8 := by decide
theorem lit2 : 2 < 4294967296 := by decide
theorem lit2_8 : 2 < 4294967296 ^ 8 := by decide
end Go.Ev

namespace Go.Ev
open Go Go.Proofs Go.RowKit
theorem tb_min : ∀ n, n < 256 → tb n = 0 ∨ 2 ^ (tb n - 1) ≤ n := by decide +kernel
theorem tb_zero : ∀ n, n < 256 → (tb n = 0 ↔ n = 0) := by decide +kernel
theorem min_shift {x q c : Nat} (h : q = 0 ∨ 2 ^ (q - 1) ≤ x / 2 ^ c) (h0 : q = 0 → x / 2 ^ c = 0) (hx : 0 < x / 2 ^ c) : 2 ^ (c + q - 1) ≤ x := by
 rcases h with h | h
 ·have := h0 h; omega
 ·have hq : 0 < q := by
   rcases Nat.eq_zero_or_pos q with h' | h'
   ·have := h0 h'; omega
   ·exact h'
  rw [show c + q - 1 = (q - 1) + c by omega, Nat.pow_add]
  exact Nat.le_trans (Nat.mul_le_mul_right _ h) (Nat.div_mul_le_self _ _)
theorem len32_min {x : Nat} (hx : x < 4294967296) : len32 x = 0 ∨ 2 ^ (len32 x - 1) ≤ x := by
 by_cases h1 : 65536 ≤ x
 ·by_cases h2 : 256 ≤ x / 65536
  ·have hl : len32 x = 24 + tb (x / 65536 / 256 % 256) := by simp only [len32, decide_eq_true h1, decide_eq_true h2, cond_true]
   have hn : x / 65536 / 256 % 256 < 256 := by omega
   have he : x / 65536 / 256 % 256 = x / 2 ^ 24 := by omega
   right; rw [hl]
   exact min_shift (by have := tb_min _ hn; rwa [he] at this ⊢) (by intro h; have := (tb_zero _ hn).1 h; omega) (by omega)
  ·have hl : len32 x = 16 + tb (x / 65536 % 256) := by simp only [len32, decide_eq_true h1, decide_eq_false h2, cond_true, cond_false]
   have hn : x / 65536 % 256 < 256 := by omega
   have he : x / 65536 % 256 = x / 2 ^ 16 := by omega
   right; rw [hl]
   exact min_shift (by have := tb_min _ hn; rwa [he] at this ⊢) (by intro h; have := (tb_zero _ hn).1 h; omega) (by omega)
 ·by_cases h2 : 256 ≤ x
  ·have hl : len32 x = 8 + tb (x / 256 % 256) := by simp only [len32, decide_eq_false h1, decide_eq_true h2, cond_true, cond_false]
   have hn : x / 256 % 256 < 256 := by omega
   have he : x / 256 % 256 = x / 2 ^ 8 := by omega
   right; rw [hl]
   exact min_shift (by have := tb_min _ hn; rwa [he] at this ⊢) (by intro h; have := (tb_zero _ hn).1 h; omega) (by omega)
  ·have hl : len32 x = tb (x % 256) := by simp only [len32, decide_eq_false h1, decide_eq_false h2, cond_false]
   have hn : x % 256 < 256 := by omega
   have := tb_min _ hn
   rw [hl]
   rw [show x % 256 = x by omega] at *
   exact this
theorem len32_zero {x : Nat} (hx : x < 4294967296) (h : len32 x = 0) : x = 0 := by
 have := (spec91 x hx).2.1
 rw [h] at this; omega
theorem lenU_min {a : Nat → Nat} (ha : ∀ i, a i < 4294967296) : ∀ n, lenU a n = 0 ∨ 2 ^ (lenU a n - 1) ≤ valU n 0 a
 | 0 => .inl rfl
 | j + 1 => by
  simp only [lenU]
  rw [valU_snoc, Nat.zero_add]
  split
  ·rename_i h; have := of_decide_eq_true h; rw [this, Nat.mul_zero, Nat.add_zero]; exact lenU_min ha j
  ·rename_i h
   have h0 := of_decide_eq_false h
   right
   rcases len32_min (ha j) with h1 | h1
   ·exact absurd (len32_zero (ha j) h1) h0
   ·have hp : 0 < len32 (a j) := by
     rcases Nat.eq_zero_or_pos (len32 (a j)) with h2 | h2
     ·exact absurd (len32_zero (ha j) h2) h0
     ·exact h2
    rw [show 32 * j + len32 (a j) - 1 = 32 * j + (len32 (a j) - 1) by omega, Nat.pow_add, two_pow_mul]
    exact Nat.le_trans (Nat.mul_le_mul_left _ h1) (Nat.le_add_left _ _)
theorem lenQ_min (a : Nat) : ∀ n, lenQ a n = 0 ∨ 2 ^ (lenQ a n - 1) ≤ a
 | 0 => .inl rfl
 | n + 1 => by
  rw [lenQ]
  cases hb : bitB a n with
  | true =>
   right
   have h0 : bitN a n = 1 := of_decide_eq_true hb
   unfold bitN at h0
   show 2 ^ (n + 1 - 1) ≤ a
   rw [Nat.add_sub_cancel]
   apply Nat.le_of_not_lt
   intro h
   rw [Nat.div_eq_of_lt h] at h0
   exact absurd h0 (by decide)
  | false => exact lenQ_min a n
theorem len_uniq {a L M : Nat} (h1 : a < 2 ^ L) (h2 : L = 0 ∨ 2 ^ (L - 1) ≤ a) (h3 : a < 2 ^ M) (h4 : M = 0 ∨ 2 ^ (M - 1) ≤ a) : L = M := by
 have key : ∀ {L M : Nat}, (L = 0 ∨ 2 ^ (L - 1) ≤ a) → a < 2 ^ M → L ≤ M := by
  intro L M h2 h3
  rcases h2 with h2 | h2
  ·omega
  ·have := (Nat.pow_lt_pow_iff_right (a := 2) (by decide)).1 (Nat.lt_of_le_of_lt h2 h3)
   omega
 exact Nat.le_antisymm (key h2 h3) (key h4 h1)
theorem lenQ_N {a : Nat} (ha : a < 4294967296 ^ 8) : lenQ a 256 = lenN a := by
 have h1 := lenQ_spec a 256 (by rw [show (2 : Nat) ^ 256 = 4294967296 ^ 8 by decide]; exact ha)
 have h2 := lenU_min (limb_lt a) 8
 rw [valU_num a 8 ha] at h2
 exact len_uniq h1.1 (lenQ_min a 256) (lenN_spec ha).1 h2
end Go.Ev

