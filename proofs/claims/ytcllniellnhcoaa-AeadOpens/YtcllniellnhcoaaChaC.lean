/- Is it more than is played; the law of the blocks; what hands out a block -/
import Derived.Test.YtcllniellnhcoaaChaB
namespace Go.Ev
open Go Go.Proofs Go.RowKit

/-! is it more than is played? -/
def shC : List SK := [.s, .s, .s, .s, .u32, .u32, .u32, .u32, .u32]
theorem u23 : Try.prog.underlying 23 = some (.slice 38) := by kernel_rfl
theorem k38 : kindsT Try.prog 20 38 = some (shKs shC) := by kernel_rfl
theorem s38 : sizeA Try.prog 38 = some (shSz shC) := by kernel_rfl
theorem rd23 : Try.prog.readableRec 23 = true := by kernel_rfl
theorem row23 : (23 : Nat) < Try.prog.types.size := of_decide_eq_true (by kernel_rfl)
def MC (c : Cells) (len : Nat) : List Blk := [rowB c shC len 38]
theorem wfC {n : Nat} {l : List (Nat × AV)} (c : Cells) (m : Nat) (h : tmsWf 1 (slots n l) = true) : wfS (slots n l) (MC c m) = true := wfS_of (by
  intro b hb
  simp only [MC, List.mem_cons, List.not_mem_nil, or_false] at hb
  rcases hb with rfl
  exact rowB_free _ _ _ _) h
noncomputable def EH (c : Cells) : Env := mkE [ldC 9 fun off => strV (sA c off)] fun f t => match f with | 17 => memN t [10, 13, 20, 27, 34, 41, 24, 31, 38, 45, 16, 2000022, 2000029, 2000036, 2000043] | _ => false
theorem envEH (c : Cells) : EnvOK (EH c) := envMk (show AllCT [ldC 9 fun off => strV (sA c off)] from ⟨ldC_ok _ _, trivial⟩) _
def TH (len cap : Nat) (n : Int) (i : Int) : List AV := slots 48 [(0, sV' len cap), (2, bV false), (3, iV n), (4, iV i)]
def THE (len cap : Nat) (n : Int) : List AV := slots 48 [(0, sV' len cap), (2, bV false), (3, iV n)]
theorem wfTH (c : Cells) (m len cap : Nat) (n i : Int) : wfS (TH len cap n i) (MC c m) = true := wfC c m (by kernel_rfl)
theorem wfTHE (c : Cells) (m len cap : Nat) (n : Int) : wfS (THE len cap n) (MC c m) = true := wfC c m (by kernel_rfl)
theorem ag9 : isAggA Try.prog 9 = some false := by kernel_rfl
theorem ag33 : isAggA Try.prog 33 = some false := by kernel_rfl
theorem ag38 : isAggA Try.prog 38 = some true := by kernel_rfl
theorem ld9 {c : Cells} {len i : Nat} (f : Nat) (hf : f < 4) (hi : i < len) : LoadsAs Try.prog 9 (rowPs c shC len 0) (0 + i * 9 + f) (.one (.v (.string (sA c (0 + i * 9 + f))))) := by
  have h9 : shSz shC = 9 := rfl
  match f, hf with
  | 0, _ => exact loads_fld (sh := shC) (i := i) [] .s [.s, .s, .s, .u32, .u32, .u32, .u32, .u32] rfl ag9 hi (by rw [h9]; simp [shSz]) rfl
  | 1, _ => exact loads_fld (sh := shC) (i := i) [.s] .s [.s, .s, .u32, .u32, .u32, .u32, .u32] rfl ag9 hi (by rw [h9]; simp [shSz, SK.sz]) rfl
  | 2, _ => exact loads_fld (sh := shC) (i := i) [.s, .s] .s [.s, .u32, .u32, .u32, .u32, .u32] rfl ag9 hi (by rw [h9]; simp [shSz, SK.sz]) rfl
  | 3, _ => exact loads_fld (sh := shC) (i := i) [.s, .s, .s] .s [.u32, .u32, .u32, .u32, .u32] rfl ag9 hi (by rw [h9]; simp [shSz, SK.sz]) rfl
theorem ld38 {c : Cells} {len i : Nat} (hi : i < len) : LoadsAs Try.prog 38 (rowPs c shC len 0) (0 + i * 9) (.agg (fldPs c shC (0 + i * 9))) :=
  loads_row (sh := shC) (i := i) [] shC [] rfl ag38 s38 hi (by show 0 + i * 9 = i * 9 + 0; omega)
def hn (c : Cells) (n : Int) (i : Nat) : Int := n + ((sA c (0 + i * 9 + 0)).size : Int) + ((sA c (0 + i * 9 + 1)).size : Int) + ((sA c (0 + i * 9 + 2)).size : Int) + ((sA c (0 + i * 9 + 3)).size : Int)
def hv (c : Cells) : Nat → Nat → Int → Int
  | 0, _, n => n
  | k + 1, i, n => bif decide (n < 1048576) then hv c k (i + 1) (hn c n i) else n
theorem hvA (c : Cells) (len : Nat) (cap : Nat) (n : Int) (i : Nat) : runTo (EH c) 1000 (Env.S (EH c) 17) (bodyOf Try.prog 17 3) (TH len cap n (↑i : Int)) (MC c len) [true, true] (TH len cap (hn c n i) ((↑i : Int) + (1 : Int))) 1 =
    some ([decide ((↑i : Int) < (↑len : Int)) = true, decide (n < (1048576 : Int)) = true, (0 : Int) ≤ (↑i : Int) ∧ (↑i : Int) < (↑len : Int), LoadsAs Try.prog 9 (rowPs c shC len 0) (0 + i * 9 + 0) (V1.one (Atom.v (Value.string (sA c (0 + i * 9 + 0))))), inI (n + (↑(ByteArray.size (sA c (0 + i * 9 + 0))) : Int)), (0 : Int) ≤ (↑i : Int) ∧ (↑i : Int) < (↑len : Int), LoadsAs Try.prog 9 (rowPs c shC len 0) (0 + i * 9 + 1) (V1.one (Atom.v (Value.string (sA c (0 + i * 9 + 1))))), inI (n + (↑(ByteArray.size (sA c (0 + i * 9 + 0))) : Int) + (↑(ByteArray.size (sA c (0 + i * 9 + 1))) : Int)), (0 : Int) ≤ (↑i : Int) ∧ (↑i : Int) < (↑len : Int), LoadsAs Try.prog 9 (rowPs c shC len 0) (0 + i * 9 + 2) (V1.one (Atom.v (Value.string (sA c (0 + i * 9 + 2))))), inI (n + (↑(ByteArray.size (sA c (0 + i * 9 + 0))) : Int) + (↑(ByteArray.size (sA c (0 + i * 9 + 1))) : Int) + (↑(ByteArray.size (sA c (0 + i * 9 + 2))) : Int)), (0 : Int) ≤ (↑i : Int) ∧ (↑i : Int) < (↑len : Int), LoadsAs Try.prog 9 (rowPs c shC len 0) (0 + i * 9 + 3) (V1.one (Atom.v (Value.string (sA c (0 + i * 9 + 3))))), inI (n + (↑(ByteArray.size (sA c (0 + i * 9 + 0))) : Int) + (↑(ByteArray.size (sA c (0 + i * 9 + 1))) : Int) + (↑(ByteArray.size (sA c (0 + i * 9 + 2))) : Int) + (↑(ByteArray.size (sA c (0 + i * 9 + 3))) : Int)), inI ((↑i : Int) + (1 : Int))], .normal, TH len cap (hn c n i) ((i : Int) + 1), MC c len) := by kernel_rfl
theorem hvB (c : Cells) (len : Nat) (cap : Nat) (n : Int) (i : Nat) : runTo (EH c) 1000 (Env.S (EH c) 17) (bodyOf Try.prog 17 3) (TH len cap n (↑i : Int)) (MC c len) [true, false] (THE len cap n) 1 =
    some ([decide ((↑i : Int) < (↑len : Int)) = true, decide (n < (1048576 : Int)) = false], .exit 0, THE len cap n, MC c len) := by kernel_rfl
theorem hvC (c : Cells) (len : Nat) (cap : Nat) (n : Int) (i : Nat) : runTo (EH c) 1000 (Env.S (EH c) 17) (bodyOf Try.prog 17 3) (TH len cap n (↑i : Int)) (MC c len) [false] (THE len cap n) 1 =
    some ([decide ((↑i : Int) < (↑len : Int)) = false], .exit 0, THE len cap n, MC c len) := by kernel_rfl
theorem row_ok {c : Cells} {len i : Nat} (hi : i < len) (ho : All (rowOb c shC len 0)) : (sA c (0 + i * 9 + 0)).size ≤ maxLen ∧ (sA c (0 + i * 9 + 1)).size ≤ maxLen ∧ (sA c (0 + i * 9 + 2)).size ≤ maxLen ∧ (sA c (0 + i * 9 + 3)).size ≤ maxLen ∧ nU c (0 + i * 9 + 4) < 4294967296 ∧ nU c (0 + i * 9 + 5) < 4294967296 ∧ nU c (0 + i * 9 + 6) < 4294967296 ∧ nU c (0 + i * 9 + 7) < 4294967296 ∧ nU c (0 + i * 9 + 8) < 4294967296 := by
  have h := rowOb_at c shC len i 0 hi ho
  obtain ⟨a, b, d, e, f, g, j, k, l, _⟩ := h
  exact ⟨a, b, d, e, f, g, j, k, l⟩
end Go.Ev

namespace Go.Ev
open Go Go.Proofs Go.RowKit

abbrev BB : Nat := reachBytes
theorem BB_lt : BB < 140737488355328 := by decide
theorem at_lt {len i f : Nat} (hi : i < len) (hf : f < 9) : 0 + i * 9 + f < len * 9 := by omega
theorem hn_le (c : Cells) (n : Int) (i : Nat) : n ≤ hn c n i := by unfold hn; omega
theorem heavyG (c : Cells) (len cap : Nat) (hB : ∀ j, j < len * 9 → (sA c j).size ≤ BB) (hl : len ≤ maxLen) : ∀ (k i : Nat) (n : Int), i + k = len → 0 ≤ n → GoesN Try.prog (bodyOf Try.prog 17 3) (k + 1) (.exit 0) (TH len cap n (i : Int)) (MC c len) (THE len cap (hv c k i n)) (MC c len)
  | 0, i, n, hk, _ => GoesN.out (by simp) (Runs.goes (envEH c) ⟨_, _, hvC c len cap n i, ⟨decide_eq_false (by omega), trivial⟩, wfTHE _ _ _ _ _⟩)
  | k + 1, i, n, hk, h0 => by
    have hi : i < len := by omega
    have hii : (0 : Int) ≤ (i : Int) ∧ (i : Int) < (len : Int) := by omega
    have hll : decide ((i : Int) < (len : Int)) = true := decide_eq_true (by omega)
    have hm : maxLen = 9223372036854775807 := by decide
    by_cases hn0 : n < 1048576
    · have s0 := hB _ (at_lt (f := 0) hi (by omega))
      have s1 := hB _ (at_lt (f := 1) hi (by omega))
      have s2 := hB _ (at_lt (f := 2) hi (by omega))
      have s3 := hB _ (at_lt (f := 3) hi (by omega))
      have hb := BB_lt
      have hd : decide (n < 1048576) = true := decide_eq_true hn0
      have ih := heavyG c len cap hB hl k (i + 1) (hn c n i) (by omega) (by have := hn_le c n i; omega)
      rw [show ((i + 1 : Nat) : Int) = (i : Int) + 1 by omega] at ih
      show GoesN Try.prog (bodyOf Try.prog 17 3) (k + 1 + 1) (.exit 0) (TH len cap n (i : Int)) (MC c len) (THE len cap (bif decide (n < 1048576) then hv c k (i + 1) (hn c n i) else n)) (MC c len)
      rw [hd, cond_true]
      refine GoesN.cons (M1 := MC c len) rfl (Runs.goes (envEH c) ⟨_, _, hvA c len cap n i, ⟨hll, hd, hii, ld9 _ (by omega) hi, ?_, hii, ld9 _ (by omega) hi, ?_, hii, ld9 _ (by omega) hi, ?_, hii, ld9 _ (by omega) hi, ?_, ?_, trivial⟩, wfTH _ _ _ _ _ _⟩) ih
      all_goals (unfold inI; omega)
    · have hd : decide (n < 1048576) = false := decide_eq_false hn0
      show GoesN Try.prog (bodyOf Try.prog 17 3) (k + 1 + 1) (.exit 0) (TH len cap n (i : Int)) (MC c len) (THE len cap (bif decide (n < 1048576) then hv c k (i + 1) (hn c n i) else n)) (MC c len)
      rw [hd, cond_false]
      exact GoesN.out (by simp) (Runs.goes (envEH c) ⟨_, _, hvB c len cap n i, ⟨hll, hd, trivial⟩, wfTHE _ _ _ _ _⟩)
theorem hv_small (c : Cells) : ∀ (k i : Nat) (n : Int), 0 ≤ n → hv c k i n ≤ 9000 → n ≤ 9000 ∧ ∀ j, i ≤ j → j < i + k → (sA c (0 + j * 9 + 0)).size ≤ 9000 ∧ (sA c (0 + j * 9 + 1)).size ≤ 9000 ∧ (sA c (0 + j * 9 + 2)).size ≤ 9000 ∧ (sA c (0 + j * 9 + 3)).size ≤ 9000
  | 0, i, n, _, h => ⟨h, fun j h1 h2 => by omega⟩
  | k + 1, i, n, h0, h => by
    by_cases hn0 : n < 1048576
    · change (bif decide (n < 1048576) then hv c k (i + 1) (hn c n i) else n) ≤ 9000 at h
      rw [decide_eq_true hn0, cond_true] at h
      have hle := hn_le c n i
      obtain ⟨h1, h2⟩ := hv_small c k (i + 1) (hn c n i) (by omega) h
      refine ⟨by omega, fun j h3 h4 => ?_⟩
      rcases Nat.eq_or_lt_of_le h3 with rfl | h5
      · unfold hn at h1
        refine ⟨?_, ?_, ?_, ?_⟩ <;> omega
      · exact h2 j h5 (by omega)
    · change (bif decide (n < 1048576) then hv c k (i + 1) (hn c n i) else n) ≤ 9000 at h
      rw [decide_eq_false hn0, cond_false] at h
      omega
/-- Heavy's loop, in a memory that begins with the rows. -/
noncomputable def sumH (c : Cells) (len cap : Nat) : List AV → List Blk → List Bool → CoR := sumC (TH len cap (len : Int) ((0 : Nat) : Int)) (MC c len) (THE len cap (hv c len 0 (len : Int))) (MC c len) (.exit 0)
theorem sumH_ok (c : Cells) (len cap : Nat) (hB : ∀ j, j < len * 9 → (sA c j).size ≤ BB) (hl : len ≤ maxLen) : SumOK Try.prog (.loop (bodyOf Try.prog 17 3)) (sumH c len cap) :=
  sumC_ok rfl (heavyG c len cap hB hl len 0 (len : Int) (by omega) (by omega)).loop
theorem ld33 {c : Cells} {len i : Nat} (f : Nat) (hf : 4 ≤ f ∧ f < 9) (hi : i < len) : LoadsAs Try.prog 33 (rowPs c shC len 0) (0 + i * 9 + f) (.one (.u .u32 (nU c (0 + i * 9 + f)))) := by
  have h9 : shSz shC = 9 := rfl
  match f, hf with
  | 4, _ => exact loads_fld (sh := shC) (i := i) [.s, .s, .s, .s] .u32 [.u32, .u32, .u32, .u32] rfl ag33 hi (by rw [h9]; simp [shSz, SK.sz]) rfl
  | 5, _ => exact loads_fld (sh := shC) (i := i) [.s, .s, .s, .s, .u32] .u32 [.u32, .u32, .u32] rfl ag33 hi (by rw [h9]; simp [shSz, SK.sz]) rfl
  | 6, _ => exact loads_fld (sh := shC) (i := i) [.s, .s, .s, .s, .u32, .u32] .u32 [.u32, .u32] rfl ag33 hi (by rw [h9]; simp [shSz, SK.sz]) rfl
  | 7, _ => exact loads_fld (sh := shC) (i := i) [.s, .s, .s, .s, .u32, .u32, .u32] .u32 [.u32] rfl ag33 hi (by rw [h9]; simp [shSz, SK.sz]) rfl
  | 8, _ => exact loads_fld (sh := shC) (i := i) [.s, .s, .s, .s, .u32, .u32, .u32, .u32] .u32 [] rfl ag33 hi (by rw [h9]; simp [shSz, SK.sz]) rfl
end Go.Ev

namespace Go.Ev
open Go Go.Proofs Go.RowKit

/-! blocks -/
noncomputable def LB (c : Cells) : List CT := [ldC 9 (fun off => strV (sA c off)), ldC 33 (fun off => u32 (nU c off)), ldC 38 (fun off => .agg (fldPs c shC off)), ⟨24, bT⟩, ⟨23, fnNum⟩, ⟨20, fnFit⟩, ⟨21, fnBlock⟩, ⟨22, fnBlockR⟩] ++ LQ
theorem LB_ok (c : Cells) : AllCT (LB c) := ⟨ldC_ok _ _, ldC_ok _ _, ldC_ok _ _, ctT spec24, ct23, ct20, ct21, ct22, LQ_ok⟩
noncomputable def S5 : FuncId → Nat → Bool := fun f t => match f with | 5 => memN t [24, 27, 30, 34, 40, 46, 52, 64, 70, 76, 82, 111, 115, 93, 97, 102, 107, 140, 145, 157, 161, 2000037, 2000043, 2000049, 2000055, 2000067, 2000073, 2000079, 2000085, 2000112, 2000116] | 17 => memN t [47] | _ => false
noncomputable def E5 (c : Cells) : Env := mkE (LB c) S5
theorem envE5 (c : Cells) : EnvOK (E5 c) := envMk (LB_ok c) _
def T5 (len cap : Nat) (i : Int) : List AV := slots 164 [(0, sV' len cap), (2, bV false), (3, iV i)]
theorem wfT5 (c : Cells) (m len cap : Nat) (i : Int) : wfS (T5 len cap i) (MC c m) = true := wfC c m (by kernel_rfl)
theorem neq_s (x : Nat) : (!decide (x = x)) = false := by simp
theorem fit_e {k t : ByteArray} (h : fitKN k t = true) : (!decide ((bif fitKN k t then (0 : Int) else 1) = 0)) = false := by rw [h]; rfl
theorem fit_e1 {k t : ByteArray} (h : fitKN k t = false) : (!decide ((bif fitKN k t then (0 : Int) else 1) = 1)) = false := by rw [h]; rfl
theorem fit_b {k t b d : ByteArray} (h : fitKN k t = true) : (!((bif fitKN k t then b else d).toList == b.toList)) = false := by rw [h, cond_true]; simp
theorem fit_b1 {k t b d : ByteArray} (h : fitKN k t = false) : (!((bif fitKN k t then b else d).toList == d.toList)) = false := by rw [h, cond_false]; simp
theorem b5y (c : Cells) (len cap i : Nat) : runTo (E5 c) 1000 ((E5 c).S 5) (bodyOf Try.prog 5 4) (T5 len cap (i : Int)) (MC c len) [true, true, false, false, false, false, true, true, false, false, true, true, false, false] (T5 len cap ((i : Int) + 1)) 1 =
    some ([decide ((i : Int) < (len : Int)) = true, decide ((i : Int) < 8) = true, (0 : Int) ≤ (i : Int) ∧ (i : Int) < (len : Int), LoadsAs Try.prog 33 (rowPs c shC len 0) (0 + i * 9 + 5 + 0 * 1) (.one (.u .u32 (nU c (0 + i * 9 + 5 + 0 * 1)))), (0 : Int) ≤ (i : Int) ∧ (i : Int) < (len : Int), LoadsAs Try.prog 33 (rowPs c shC len 0) (0 + i * 9 + 5 + 1 * 1) (.one (.u .u32 (nU c (0 + i * 9 + 5 + 1 * 1)))), (0 : Int) ≤ (i : Int) ∧ (i : Int) < (len : Int), LoadsAs Try.prog 33 (rowPs c shC len 0) (0 + i * 9 + 5 + 2 * 1) (.one (.u .u32 (nU c (0 + i * 9 + 5 + 2 * 1)))), (0 : Int) ≤ (i : Int) ∧ (i : Int) < (len : Int), LoadsAs Try.prog 33 (rowPs c shC len 0) (0 + i * 9 + 5 + 3 * 1) (.one (.u .u32 (nU c (0 + i * 9 + 5 + 3 * 1)))), (0 : Int) ≤ (i : Int) ∧ (i : Int) < (len : Int), LoadsAs Try.prog 33 (rowPs c shC len 0) (0 + i * 9 + 5 + 0 * 1) (.one (.u .u32 (nU c (0 + i * 9 + 5 + 0 * 1)))), (0 : Int) ≤ (i : Int) ∧ (i : Int) < (len : Int), LoadsAs Try.prog 33 (rowPs c shC len 0) (0 + i * 9 + 5 + 1 * 1) (.one (.u .u32 (nU c (0 + i * 9 + 5 + 1 * 1)))), (0 : Int) ≤ (i : Int) ∧ (i : Int) < (len : Int), LoadsAs Try.prog 33 (rowPs c shC len 0) (0 + i * 9 + 5 + 2 * 1) (.one (.u .u32 (nU c (0 + i * 9 + 5 + 2 * 1)))), (0 : Int) ≤ (i : Int) ∧ (i : Int) < (len : Int), LoadsAs Try.prog 33 (rowPs c shC len 0) (0 + i * 9 + 5 + 3 * 1) (.one (.u .u32 (nU c (0 + i * 9 + 5 + 3 * 1)))), (!decide ((quarter (nU c (0 + i * 9 + 5 + 0 * 1)) (nU c (0 + i * 9 + 5 + 1 * 1)) (nU c (0 + i * 9 + 5 + 2 * 1)) (nU c (0 + i * 9 + 5 + 3 * 1))).a = (quarter (nU c (0 + i * 9 + 5 + 0 * 1)) (nU c (0 + i * 9 + 5 + 1 * 1)) (nU c (0 + i * 9 + 5 + 2 * 1)) (nU c (0 + i * 9 + 5 + 3 * 1))).a)) = false, (!decide ((quarter (nU c (0 + i * 9 + 5 + 0 * 1)) (nU c (0 + i * 9 + 5 + 1 * 1)) (nU c (0 + i * 9 + 5 + 2 * 1)) (nU c (0 + i * 9 + 5 + 3 * 1))).b = (quarter (nU c (0 + i * 9 + 5 + 0 * 1)) (nU c (0 + i * 9 + 5 + 1 * 1)) (nU c (0 + i * 9 + 5 + 2 * 1)) (nU c (0 + i * 9 + 5 + 3 * 1))).b)) = false, (!decide ((quarter (nU c (0 + i * 9 + 5 + 0 * 1)) (nU c (0 + i * 9 + 5 + 1 * 1)) (nU c (0 + i * 9 + 5 + 2 * 1)) (nU c (0 + i * 9 + 5 + 3 * 1))).c = (quarter (nU c (0 + i * 9 + 5 + 0 * 1)) (nU c (0 + i * 9 + 5 + 1 * 1)) (nU c (0 + i * 9 + 5 + 2 * 1)) (nU c (0 + i * 9 + 5 + 3 * 1))).c)) = false, (!decide ((quarter (nU c (0 + i * 9 + 5 + 0 * 1)) (nU c (0 + i * 9 + 5 + 1 * 1)) (nU c (0 + i * 9 + 5 + 2 * 1)) (nU c (0 + i * 9 + 5 + 3 * 1))).d = (quarter (nU c (0 + i * 9 + 5 + 0 * 1)) (nU c (0 + i * 9 + 5 + 1 * 1)) (nU c (0 + i * 9 + 5 + 2 * 1)) (nU c (0 + i * 9 + 5 + 3 * 1))).d)) = false, (0 : Int) ≤ (i : Int) ∧ (i : Int) < (len : Int), LoadsAs Try.prog 38 (rowPs c shC len 0) (0 + i * 9) (.agg (fldPs c shC (0 + i * 9))), (0 : Int) ≤ (i : Int) ∧ (i : Int) < (len : Int), LoadsAs Try.prog 38 (rowPs c shC len 0) (0 + i * 9) (.agg (fldPs c shC (0 + i * 9))), (sA c (0 + i * 9)).size ≤ 1000000, (sA c (0 + i * 9 + 1)).size ≤ 1000000, decide (((sA c (0 + i * 9)).size : Int) = 32) = true, decide (((sA c (0 + i * 9 + 1)).size : Int) = 12) = true, fitKN (sA c (0 + i * 9)) (sA c (0 + i * 9 + 1)) = true, (!decide ((bif fitKN (sA c (0 + i * 9)) (sA c (0 + i * 9 + 1)) then (0 : Int) else 1) = 0)) = false, (!((bif fitKN (sA c (0 + i * 9)) (sA c (0 + i * 9 + 1)) then blockOf (sA c (0 + i * 9)) (nU c (0 + i * 9 + 1 + 1 + 1 + 1)) (sA c (0 + i * 9 + 1)) else ⟨#[]⟩).toList == (blockOf (sA c (0 + i * 9)) (nU c (0 + i * 9 + 1 + 1 + 1 + 1)) (sA c (0 + i * 9 + 1))).toList)) = false, decide (((kfit (sA c (0 + i * 9))).size : Int) = 32) = true, decide (((tfit (sA c (0 + i * 9 + 1))).size : Int) = 12) = true, fitKN (kfit (sA c (0 + i * 9))) (tfit (sA c (0 + i * 9 + 1))) = true, (!decide ((bif fitKN (kfit (sA c (0 + i * 9))) (tfit (sA c (0 + i * 9 + 1))) then (0 : Int) else 1) = 0)) = false, (!((bif fitKN (kfit (sA c (0 + i * 9))) (tfit (sA c (0 + i * 9 + 1))) then blockOf (kfit (sA c (0 + i * 9))) (nU c (0 + i * 9 + 1 + 1 + 1 + 1)) (tfit (sA c (0 + i * 9 + 1))) else ⟨#[]⟩).toList == (blockOf (kfit (sA c (0 + i * 9))) (nU c (0 + i * 9 + 1 + 1 + 1 + 1)) (tfit (sA c (0 + i * 9 + 1)))).toList)) = false, inI ((i : Int) + 1)], .normal, T5 len cap ((i : Int) + 1), MC c len) := by kernel_rfl
theorem b5b (c : Cells) (len cap i : Nat) : runTo (E5 c) 1000 ((E5 c).S 5) (bodyOf Try.prog 5 4) (T5 len cap (i : Int)) (MC c len) [true, true, false, false, false, false, true, false, false, false, true, true, false, false] (T5 len cap ((i : Int) + 1)) 1 =
    some ([decide ((i : Int) < (len : Int)) = true, decide ((i : Int) < 8) = true, (0 : Int) ≤ (i : Int) ∧ (i : Int) < (len : Int), LoadsAs Try.prog 33 (rowPs c shC len 0) (0 + i * 9 + 5 + 0 * 1) (.one (.u .u32 (nU c (0 + i * 9 + 5 + 0 * 1)))), (0 : Int) ≤ (i : Int) ∧ (i : Int) < (len : Int), LoadsAs Try.prog 33 (rowPs c shC len 0) (0 + i * 9 + 5 + 1 * 1) (.one (.u .u32 (nU c (0 + i * 9 + 5 + 1 * 1)))), (0 : Int) ≤ (i : Int) ∧ (i : Int) < (len : Int), LoadsAs Try.prog 33 (rowPs c shC len 0) (0 + i * 9 + 5 + 2 * 1) (.one (.u .u32 (nU c (0 + i * 9 + 5 + 2 * 1)))), (0 : Int) ≤ (i : Int) ∧ (i : Int) < (len : Int), LoadsAs Try.prog 33 (rowPs c shC len 0) (0 + i * 9 + 5 + 3 * 1) (.one (.u .u32 (nU c (0 + i * 9 + 5 + 3 * 1)))), (0 : Int) ≤ (i : Int) ∧ (i : Int) < (len : Int), LoadsAs Try.prog 33 (rowPs c shC len 0) (0 + i * 9 + 5 + 0 * 1) (.one (.u .u32 (nU c (0 + i * 9 + 5 + 0 * 1)))), (0 : Int) ≤ (i : Int) ∧ (i : Int) < (len : Int), LoadsAs Try.prog 33 (rowPs c shC len 0) (0 + i * 9 + 5 + 1 * 1) (.one (.u .u32 (nU c (0 + i * 9 + 5 + 1 * 1)))), (0 : Int) ≤ (i : Int) ∧ (i : Int) < (len : Int), LoadsAs Try.prog 33 (rowPs c shC len 0) (0 + i * 9 + 5 + 2 * 1) (.one (.u .u32 (nU c (0 + i * 9 + 5 + 2 * 1)))), (0 : Int) ≤ (i : Int) ∧ (i : Int) < (len : Int), LoadsAs Try.prog 33 (rowPs c shC len 0) (0 + i * 9 + 5 + 3 * 1) (.one (.u .u32 (nU c (0 + i * 9 + 5 + 3 * 1)))), (!decide ((quarter (nU c (0 + i * 9 + 5 + 0 * 1)) (nU c (0 + i * 9 + 5 + 1 * 1)) (nU c (0 + i * 9 + 5 + 2 * 1)) (nU c (0 + i * 9 + 5 + 3 * 1))).a = (quarter (nU c (0 + i * 9 + 5 + 0 * 1)) (nU c (0 + i * 9 + 5 + 1 * 1)) (nU c (0 + i * 9 + 5 + 2 * 1)) (nU c (0 + i * 9 + 5 + 3 * 1))).a)) = false, (!decide ((quarter (nU c (0 + i * 9 + 5 + 0 * 1)) (nU c (0 + i * 9 + 5 + 1 * 1)) (nU c (0 + i * 9 + 5 + 2 * 1)) (nU c (0 + i * 9 + 5 + 3 * 1))).b = (quarter (nU c (0 + i * 9 + 5 + 0 * 1)) (nU c (0 + i * 9 + 5 + 1 * 1)) (nU c (0 + i * 9 + 5 + 2 * 1)) (nU c (0 + i * 9 + 5 + 3 * 1))).b)) = false, (!decide ((quarter (nU c (0 + i * 9 + 5 + 0 * 1)) (nU c (0 + i * 9 + 5 + 1 * 1)) (nU c (0 + i * 9 + 5 + 2 * 1)) (nU c (0 + i * 9 + 5 + 3 * 1))).c = (quarter (nU c (0 + i * 9 + 5 + 0 * 1)) (nU c (0 + i * 9 + 5 + 1 * 1)) (nU c (0 + i * 9 + 5 + 2 * 1)) (nU c (0 + i * 9 + 5 + 3 * 1))).c)) = false, (!decide ((quarter (nU c (0 + i * 9 + 5 + 0 * 1)) (nU c (0 + i * 9 + 5 + 1 * 1)) (nU c (0 + i * 9 + 5 + 2 * 1)) (nU c (0 + i * 9 + 5 + 3 * 1))).d = (quarter (nU c (0 + i * 9 + 5 + 0 * 1)) (nU c (0 + i * 9 + 5 + 1 * 1)) (nU c (0 + i * 9 + 5 + 2 * 1)) (nU c (0 + i * 9 + 5 + 3 * 1))).d)) = false, (0 : Int) ≤ (i : Int) ∧ (i : Int) < (len : Int), LoadsAs Try.prog 38 (rowPs c shC len 0) (0 + i * 9) (.agg (fldPs c shC (0 + i * 9))), (0 : Int) ≤ (i : Int) ∧ (i : Int) < (len : Int), LoadsAs Try.prog 38 (rowPs c shC len 0) (0 + i * 9) (.agg (fldPs c shC (0 + i * 9))), (sA c (0 + i * 9)).size ≤ 1000000, (sA c (0 + i * 9 + 1)).size ≤ 1000000, decide (((sA c (0 + i * 9)).size : Int) = 32) = true, decide (((sA c (0 + i * 9 + 1)).size : Int) = 12) = false, (!decide ((bif fitKN (sA c (0 + i * 9)) (sA c (0 + i * 9 + 1)) then (0 : Int) else 1) = 1)) = false, (!((bif fitKN (sA c (0 + i * 9)) (sA c (0 + i * 9 + 1)) then blockOf (sA c (0 + i * 9)) (nU c (0 + i * 9 + 1 + 1 + 1 + 1)) (sA c (0 + i * 9 + 1)) else ⟨#[]⟩).toList == (⟨#[]⟩ : ByteArray).toList)) = false, decide (((kfit (sA c (0 + i * 9))).size : Int) = 32) = true, decide (((tfit (sA c (0 + i * 9 + 1))).size : Int) = 12) = true, fitKN (kfit (sA c (0 + i * 9))) (tfit (sA c (0 + i * 9 + 1))) = true, (!decide ((bif fitKN (kfit (sA c (0 + i * 9))) (tfit (sA c (0 + i * 9 + 1))) then (0 : Int) else 1) = 0)) = false, (!((bif fitKN (kfit (sA c (0 + i * 9))) (tfit (sA c (0 + i * 9 + 1))) then blockOf (kfit (sA c (0 + i * 9))) (nU c (0 + i * 9 + 1 + 1 + 1 + 1)) (tfit (sA c (0 + i * 9 + 1))) else ⟨#[]⟩).toList == (blockOf (kfit (sA c (0 + i * 9))) (nU c (0 + i * 9 + 1 + 1 + 1 + 1)) (tfit (sA c (0 + i * 9 + 1)))).toList)) = false, inI ((i : Int) + 1)], .normal, T5 len cap ((i : Int) + 1), MC c len) := by kernel_rfl
theorem b5n (c : Cells) (len cap i : Nat) : runTo (E5 c) 1000 ((E5 c).S 5) (bodyOf Try.prog 5 4) (T5 len cap (i : Int)) (MC c len) [true, true, false, false, false, false, false, false, false, true, true, false, false] (T5 len cap ((i : Int) + 1)) 1 =
    some ([decide ((i : Int) < (len : Int)) = true, decide ((i : Int) < 8) = true, (0 : Int) ≤ (i : Int) ∧ (i : Int) < (len : Int), LoadsAs Try.prog 33 (rowPs c shC len 0) (0 + i * 9 + 5 + 0 * 1) (.one (.u .u32 (nU c (0 + i * 9 + 5 + 0 * 1)))), (0 : Int) ≤ (i : Int) ∧ (i : Int) < (len : Int), LoadsAs Try.prog 33 (rowPs c shC len 0) (0 + i * 9 + 5 + 1 * 1) (.one (.u .u32 (nU c (0 + i * 9 + 5 + 1 * 1)))), (0 : Int) ≤ (i : Int) ∧ (i : Int) < (len : Int), LoadsAs Try.prog 33 (rowPs c shC len 0) (0 + i * 9 + 5 + 2 * 1) (.one (.u .u32 (nU c (0 + i * 9 + 5 + 2 * 1)))), (0 : Int) ≤ (i : Int) ∧ (i : Int) < (len : Int), LoadsAs Try.prog 33 (rowPs c shC len 0) (0 + i * 9 + 5 + 3 * 1) (.one (.u .u32 (nU c (0 + i * 9 + 5 + 3 * 1)))), (0 : Int) ≤ (i : Int) ∧ (i : Int) < (len : Int), LoadsAs Try.prog 33 (rowPs c shC len 0) (0 + i * 9 + 5 + 0 * 1) (.one (.u .u32 (nU c (0 + i * 9 + 5 + 0 * 1)))), (0 : Int) ≤ (i : Int) ∧ (i : Int) < (len : Int), LoadsAs Try.prog 33 (rowPs c shC len 0) (0 + i * 9 + 5 + 1 * 1) (.one (.u .u32 (nU c (0 + i * 9 + 5 + 1 * 1)))), (0 : Int) ≤ (i : Int) ∧ (i : Int) < (len : Int), LoadsAs Try.prog 33 (rowPs c shC len 0) (0 + i * 9 + 5 + 2 * 1) (.one (.u .u32 (nU c (0 + i * 9 + 5 + 2 * 1)))), (0 : Int) ≤ (i : Int) ∧ (i : Int) < (len : Int), LoadsAs Try.prog 33 (rowPs c shC len 0) (0 + i * 9 + 5 + 3 * 1) (.one (.u .u32 (nU c (0 + i * 9 + 5 + 3 * 1)))), (!decide ((quarter (nU c (0 + i * 9 + 5 + 0 * 1)) (nU c (0 + i * 9 + 5 + 1 * 1)) (nU c (0 + i * 9 + 5 + 2 * 1)) (nU c (0 + i * 9 + 5 + 3 * 1))).a = (quarter (nU c (0 + i * 9 + 5 + 0 * 1)) (nU c (0 + i * 9 + 5 + 1 * 1)) (nU c (0 + i * 9 + 5 + 2 * 1)) (nU c (0 + i * 9 + 5 + 3 * 1))).a)) = false, (!decide ((quarter (nU c (0 + i * 9 + 5 + 0 * 1)) (nU c (0 + i * 9 + 5 + 1 * 1)) (nU c (0 + i * 9 + 5 + 2 * 1)) (nU c (0 + i * 9 + 5 + 3 * 1))).b = (quarter (nU c (0 + i * 9 + 5 + 0 * 1)) (nU c (0 + i * 9 + 5 + 1 * 1)) (nU c (0 + i * 9 + 5 + 2 * 1)) (nU c (0 + i * 9 + 5 + 3 * 1))).b)) = false, (!decide ((quarter (nU c (0 + i * 9 + 5 + 0 * 1)) (nU c (0 + i * 9 + 5 + 1 * 1)) (nU c (0 + i * 9 + 5 + 2 * 1)) (nU c (0 + i * 9 + 5 + 3 * 1))).c = (quarter (nU c (0 + i * 9 + 5 + 0 * 1)) (nU c (0 + i * 9 + 5 + 1 * 1)) (nU c (0 + i * 9 + 5 + 2 * 1)) (nU c (0 + i * 9 + 5 + 3 * 1))).c)) = false, (!decide ((quarter (nU c (0 + i * 9 + 5 + 0 * 1)) (nU c (0 + i * 9 + 5 + 1 * 1)) (nU c (0 + i * 9 + 5 + 2 * 1)) (nU c (0 + i * 9 + 5 + 3 * 1))).d = (quarter (nU c (0 + i * 9 + 5 + 0 * 1)) (nU c (0 + i * 9 + 5 + 1 * 1)) (nU c (0 + i * 9 + 5 + 2 * 1)) (nU c (0 + i * 9 + 5 + 3 * 1))).d)) = false, (0 : Int) ≤ (i : Int) ∧ (i : Int) < (len : Int), LoadsAs Try.prog 38 (rowPs c shC len 0) (0 + i * 9) (.agg (fldPs c shC (0 + i * 9))), (0 : Int) ≤ (i : Int) ∧ (i : Int) < (len : Int), LoadsAs Try.prog 38 (rowPs c shC len 0) (0 + i * 9) (.agg (fldPs c shC (0 + i * 9))), (sA c (0 + i * 9)).size ≤ 1000000, (sA c (0 + i * 9 + 1)).size ≤ 1000000, decide (((sA c (0 + i * 9)).size : Int) = 32) = false, (!decide ((bif fitKN (sA c (0 + i * 9)) (sA c (0 + i * 9 + 1)) then (0 : Int) else 1) = 1)) = false, (!((bif fitKN (sA c (0 + i * 9)) (sA c (0 + i * 9 + 1)) then blockOf (sA c (0 + i * 9)) (nU c (0 + i * 9 + 1 + 1 + 1 + 1)) (sA c (0 + i * 9 + 1)) else ⟨#[]⟩).toList == (⟨#[]⟩ : ByteArray).toList)) = false, decide (((kfit (sA c (0 + i * 9))).size : Int) = 32) = true, decide (((tfit (sA c (0 + i * 9 + 1))).size : Int) = 12) = true, fitKN (kfit (sA c (0 + i * 9))) (tfit (sA c (0 + i * 9 + 1))) = true, (!decide ((bif fitKN (kfit (sA c (0 + i * 9))) (tfit (sA c (0 + i * 9 + 1))) then (0 : Int) else 1) = 0)) = false, (!((bif fitKN (kfit (sA c (0 + i * 9))) (tfit (sA c (0 + i * 9 + 1))) then blockOf (kfit (sA c (0 + i * 9))) (nU c (0 + i * 9 + 1 + 1 + 1 + 1)) (tfit (sA c (0 + i * 9 + 1))) else ⟨#[]⟩).toList == (blockOf (kfit (sA c (0 + i * 9))) (nU c (0 + i * 9 + 1 + 1 + 1 + 1)) (tfit (sA c (0 + i * 9 + 1)))).toList)) = false, inI ((i : Int) + 1)], .normal, T5 len cap ((i : Int) + 1), MC c len) := by kernel_rfl
theorem l5s (c : Cells) {len cap i : Nat} (hi : i < len) (h8' : i < 8) (hk : (sA c (0 + i * 9)).size ≤ 1000000) (hn : (sA c (0 + i * 9 + 1)).size ≤ 1000000) : Goes Try.prog (bodyOf Try.prog 5 4) .normal (T5 len cap (i : Int)) (MC c len) (T5 len cap ((i : Int) + 1)) (MC c len) := by
  have hll : decide ((i : Int) < (len : Int)) = true := decide_eq_true (by omega)
  have h8 : decide ((i : Int) < 8) = true := decide_eq_true (by omega)
  have hii : (0 : Int) ≤ (i : Int) ∧ (i : Int) < (len : Int) := by omega
  have hI : inI ((i : Int) + 1) := by unfold inI; omega
  have h32 : decide (((kfit (sA c (0 + i * 9))).size : Int) = 32) = true := decide_eq_true (by rw [kfit_size]; rfl)
  have h12 : decide (((tfit (sA c (0 + i * 9 + 1))).size : Int) = 12) = true := decide_eq_true (by rw [tfit_size]; rfl)
  by_cases h1 : (sA c (0 + i * 9)).size = 32
  · have d1 : decide (((sA c (0 + i * 9)).size : Int) = 32) = true := decide_eq_true (by omega)
    by_cases h2 : (sA c (0 + i * 9 + 1)).size = 12
    · have d2 : decide (((sA c (0 + i * 9 + 1)).size : Int) = 12) = true := decide_eq_true (by omega)
      have hf : fitKN (sA c (0 + i * 9)) (sA c (0 + i * 9 + 1)) = true := by unfold fitKN; rw [h1, h2]; rfl
      exact Runs.goes (envE5 c) ⟨_, _, b5y c len cap i, ⟨hll, h8, hii, ld33 (5 + 0 * 1) (by omega) hi, hii, ld33 (5 + 1 * 1) (by omega) hi, hii, ld33 (5 + 2 * 1) (by omega) hi, hii, ld33 (5 + 3 * 1) (by omega) hi, hii, ld33 (5 + 0 * 1) (by omega) hi, hii, ld33 (5 + 1 * 1) (by omega) hi, hii, ld33 (5 + 2 * 1) (by omega) hi, hii, ld33 (5 + 3 * 1) (by omega) hi, neq_s _, neq_s _, neq_s _, neq_s _, hii, ld38 hi, hii, ld38 hi, hk, hn, d1, d2, hf, fit_e hf, fit_b hf, h32, h12, fit_fit _ _, fit_e (fit_fit _ _), fit_b (fit_fit _ _), hI, trivial⟩, wfT5 _ _ _ _ _⟩
    · have d2 : decide (((sA c (0 + i * 9 + 1)).size : Int) = 12) = false := decide_eq_false (by omega)
      have hf : fitKN (sA c (0 + i * 9)) (sA c (0 + i * 9 + 1)) = false := by unfold fitKN; rw [decide_eq_false h2, Bool.and_false]
      exact Runs.goes (envE5 c) ⟨_, _, b5b c len cap i, ⟨hll, h8, hii, ld33 (5 + 0 * 1) (by omega) hi, hii, ld33 (5 + 1 * 1) (by omega) hi, hii, ld33 (5 + 2 * 1) (by omega) hi, hii, ld33 (5 + 3 * 1) (by omega) hi, hii, ld33 (5 + 0 * 1) (by omega) hi, hii, ld33 (5 + 1 * 1) (by omega) hi, hii, ld33 (5 + 2 * 1) (by omega) hi, hii, ld33 (5 + 3 * 1) (by omega) hi, neq_s _, neq_s _, neq_s _, neq_s _, hii, ld38 hi, hii, ld38 hi, hk, hn, d1, d2, fit_e1 hf, fit_b1 hf, h32, h12, fit_fit _ _, fit_e (fit_fit _ _), fit_b (fit_fit _ _), hI, trivial⟩, wfT5 _ _ _ _ _⟩
  · have d1 : decide (((sA c (0 + i * 9)).size : Int) = 32) = false := decide_eq_false (by omega)
    have hf : fitKN (sA c (0 + i * 9)) (sA c (0 + i * 9 + 1)) = false := by unfold fitKN; rw [decide_eq_false h1, Bool.false_and]
    exact Runs.goes (envE5 c) ⟨_, _, b5n c len cap i, ⟨hll, h8, hii, ld33 (5 + 0 * 1) (by omega) hi, hii, ld33 (5 + 1 * 1) (by omega) hi, hii, ld33 (5 + 2 * 1) (by omega) hi, hii, ld33 (5 + 3 * 1) (by omega) hi, hii, ld33 (5 + 0 * 1) (by omega) hi, hii, ld33 (5 + 1 * 1) (by omega) hi, hii, ld33 (5 + 2 * 1) (by omega) hi, hii, ld33 (5 + 3 * 1) (by omega) hi, neq_s _, neq_s _, neq_s _, neq_s _, hii, ld38 hi, hii, ld38 hi, hk, hn, d1, fit_e1 hf, fit_b1 hf, h32, h12, fit_fit _ _, fit_e (fit_fit _ _), fit_b (fit_fit _ _), hI, trivial⟩, wfT5 _ _ _ _ _⟩
theorem b5o (c : Cells) (len : Nat) (cap : Nat) (i : Nat) : runTo (E5 c) 1000 (Env.S (E5 c) 5) (bodyOf Try.prog 5 4) (T5 len cap (↑i : Int)) (MC c len) [false] (T5 len cap (↑i : Int)) 1 =
    some ([decide ((↑i : Int) < (↑len : Int)) = false], .exit 0, T5 len cap (i : Int), MC c len) := by kernel_rfl
theorem b5p (c : Cells) (len : Nat) (cap : Nat) (i : Nat) : runTo (E5 c) 1000 (Env.S (E5 c) 5) (bodyOf Try.prog 5 4) (T5 len cap (↑i : Int)) (MC c len) [true, false] (T5 len cap (↑i : Int)) 1 =
    some ([decide ((↑i : Int) < (↑len : Int)) = true, decide ((↑i : Int) < (8 : Int)) = false], .exit 0, T5 len cap (i : Int), MC c len) := by kernel_rfl
theorem l5loop (c : Cells) (len cap : Nat) (hs : ∀ j, j < len → (sA c (0 + j * 9 + 0)).size ≤ 9000 ∧ (sA c (0 + j * 9 + 1)).size ≤ 9000) : Goes Try.prog (.loop (bodyOf Try.prog 5 4)) (.exit 0) (T5 len cap ((0 : Nat) : Int)) (MC c len) (T5 len cap ((min len 8 : Nat) : Int)) (MC c len) := by
  refine loop_goes (N := min len 8) (k := 1) (T := fun i => T5 len cap (i : Int)) (M := fun _ => MC c len) (by simp) (fun _ _ => rfl) (fun i hi => ?_) ?_
  · obtain ⟨h1, h2⟩ := hs i (by omega)
    exact l5s c (by omega) (by omega) (by have h1' : (sA c (0 + i * 9)).size ≤ 9000 := h1; omega) (by omega)
  · by_cases h : len ≤ 8
    · rw [show min len 8 = len by omega]
      exact Runs.goes (envE5 c) ⟨_, _, b5o c len cap len, ⟨decide_eq_false (by omega), trivial⟩, wfT5 _ _ _ _ _⟩
    · rw [show min len 8 = 8 by omega]
      exact Runs.goes (envE5 c) ⟨_, _, b5p c len cap 8, ⟨decide_eq_true (by omega), decide_eq_false (by omega), trivial⟩, wfT5 _ _ _ _ _⟩
end Go.Ev

namespace Go.Ev
open Go Go.Proofs Go.RowKit

noncomputable def EH5 (c : Cells) (len cap : Nat) : Env := addL (E5 c) 3 (bodyOf Try.prog 17 3) (sumH c len cap)
theorem envEH5 (c : Cells) (len cap : Nat) (hB : ∀ j, j < len * 9 → (sA c j).size ≤ BB) (hl : len ≤ maxLen) : EnvOK (EH5 c len cap) := envAddL (envE5 c) (sumH_ok c len cap hB hl)
noncomputable def EE5 (c : Cells) (len cap : Nat) : Env := addL (EH5 c len cap) 4 (bodyOf Try.prog 5 4) (sumC (T5 len cap ((0 : Nat) : Int)) (MC c len) (T5 len cap ((min len 8 : Nat) : Int)) (MC c len) (.exit 0))
theorem envEE5 (c : Cells) (len cap : Nat) (hB : ∀ j, j < len * 9 → (sA c j).size ≤ BB) (hl : len ≤ maxLen) (hs : ∀ j, j < len → (sA c (0 + j * 9 + 0)).size ≤ 9000 ∧ (sA c (0 + j * 9 + 1)).size ≤ 9000) : EnvOK (EE5 c len cap) := envAddL (envEH5 c len cap hB hl) (sumC_ok rfl (l5loop c len cap hs))
theorem l5hv (c : Cells) (len : Nat) (cap : Nat) : dropM (callBy (EH5 c len cap) (evalC (EH5 c len cap) 1000) 5 [V1.one (Atom.sl 0 0 len cap)] [rowB c shC len 38] [true]) =
    some ([(bodyOf Try.prog 17 3) = (bodyOf Try.prog 17 3), (TH len cap (len : Int) ((0 : Nat) : Int), MC c len) = (TH len cap (len : Int) ((0 : Nat) : Int), MC c len), wfS (TH len cap (len : Int) ((0 : Nat) : Int)) (MC c len) = true, decide ((9000 : Int) < hv c len 0 (len : Int)) = true], bV true) := by kernel_rfl
theorem l5ok (c : Cells) (len : Nat) (cap : Nat) : dropM (callBy (EE5 c len cap) (evalC (EE5 c len cap) 1000) 5 [V1.one (Atom.sl 0 0 len cap)] [rowB c shC len 38] [false]) =
    some ([(bodyOf Try.prog 17 3) = (bodyOf Try.prog 17 3), (TH len cap (len : Int) ((0 : Nat) : Int), MC c len) = (TH len cap (len : Int) ((0 : Nat) : Int), MC c len), wfS (TH len cap (len : Int) ((0 : Nat) : Int)) (MC c len) = true, decide ((9000 : Int) < hv c len 0 (len : Int)) = false, (bodyOf Try.prog 5 4) = (bodyOf Try.prog 5 4), (T5 len cap ((0 : Nat) : Int), MC c len) = (T5 len cap ((0 : Nat) : Int), MC c len), wfS (T5 len cap ((0 : Nat) : Int)) (MC c len) = true], bV true) := by kernel_rfl
theorem l5nil (c : Cells) : dropM (callBy (E5 c) (evalC (E5 c) 1000) 5 [V1.one (Atom.v (Value.slice none 0 0))] [] [false, false]) =
    some ([decide ((9000 : Int) < ((0 : Nat) : Int)) = false, decide ((0 : Int) < ((0 : Nat) : Int)) = false], bV true) := by kernel_rfl
def c0 : Cells := ⟨fun _ => false, fun _ => ByteArray.empty, fun _ => 0, fun _ => 0⟩
theorem l5nilc (w : World) : Calls Try.prog 5 #[.slice none 0 0] w (Trues w) :=
  law_nilD (envE5 c0) (l5nil c0) ⟨by decide, by decide, trivial⟩ w
set_option maxRecDepth 100000 in
theorem law5 {H : Type} {enc : TypeId × Value → H} {r : Reach} {W : World} {base : Nat} {v : Value} {d : DataW H} {ps : List MemPlace} (hval : Value.okWide Try.prog W r base 23 v) (h : DataW.Trod enc Try.prog W 0 (fun _ => true) true 23 v d ps) (hwt : ∀ n ∈ d.weights Try.prog 23, n ≤ BB) :
    Calls Try.prog 5 #[v] W (Trues W) := by
  refine rows_calls_sized shC (B := BB) (Q := Trues) u23 k38 s38 l5nilc ?_ hval h hwt
  intro c len cap hlc hcap ho hB w φ hmr
  have hl : len ≤ maxLen := by omega
  have hB' : ∀ j, j < len * 9 → (sA c j).size ≤ BB := hB
  by_cases hh : 9000 < hv c len 0 (len : Int)
  · exact law_runD (envEH5 c len cap hB' hl) (l5hv c len cap) ⟨rfl, rfl, wfTH _ _ _ _ _ _, decide_eq_true hh, trivial⟩ hmr
  · have hs := (hv_small c len 0 (len : Int) (by omega) (by omega)).2
    refine law_runD (envEE5 c len cap hB' hl ?_) (l5ok c len cap) ⟨rfl, rfl, wfTH _ _ _ _ _ _, decide_eq_false hh, rfl, rfl, wfT5 _ _ _ _ _, trivial⟩ hmr
    intro j hj
    obtain ⟨h1, h2, _⟩ := hs j (Nat.zero_le _) (by omega)
    exact ⟨h1, h2⟩
end Go.Ev

namespace Go.Ev
open Go Go.Proofs Go.RowKit

def dropB : Option (List Prop × List Bool × AV × List Blk) → Option (List Prop × Nat × Option Blk)
  | some (ob, _, .val (.one (.sx b n)), mem) => some (ob, n, mem[b]?)
  | _ => none
def blkL (k : ByteArray) (n : Nat) (t : ByteArray) : List Nat := outOf (begun k n t) (itD 10 (begun k n t))
theorem run45 (k t : ByteArray) (n : Nat) : dropB (callBy EK (evalC EK 1000) 45 [strV k, u32 n, strV t] [] []) =
    some ([k.size = 32, t.size = 12, bodyOf Try.prog 45 4 = bodyOf Try.prog 45 4, (TB ((0 : Nat) : Int), [w16 (begun k n t), w16 (begun k n t)]) = (TB ((0 : Nat) : Int), [w16 (begun k n t), w16 (begun k n t)]), wfS (TB ((0 : Nat) : Int)) [w16 (begun k n t), w16 (begun k n t)] = true], 64, some ⟨(blkL k n t).map fun x => .a (.u .u8 x), 5, true, false, 1⟩) := by kernel_rfl
end Go.Ev

namespace Go.Ev
open Go Go.Proofs Go.RowKit

/-! numbers turned by others, one after another -/
def gx (x y : Nat) : Nat := x % 256 ^^^ y % 256
def xorP (f : Nat → Nat) (m : Nat) (l : List Nat) : List Nat := l.mapIdx fun i x => if i < m then gx x (f i) else x
theorem xorP_length (f : Nat → Nat) (m : Nat) (l : List Nat) : (xorP f m l).length = l.length := by simp [xorP]
theorem xorP_get (f : Nat → Nat) (m : Nat) (l : List Nat) (i : Nat) (h : i < l.length) : (xorP f m l)[i]'(by rw [xorP_length]; exact h) = if i < m then gx l[i] (f i) else l[i] := by simp [xorP]
theorem xorP_zero (f : Nat → Nat) (l : List Nat) : xorP f 0 l = l := by
  apply List.ext_getElem (xorP_length _ _ _)
  intro i h1 h2
  rw [xorP_get f 0 l i h2]; simp
theorem xorP_step (f : Nat → Nat) (m : Nat) (l : List Nat) (y : Nat) (_h : m < l.length) (hy : y % 256 = f m % 256) : (xorP f m l).set m (gx ((xorP f m l).getD m 0) y) = xorP f (m + 1) l := by
  apply List.ext_getElem (by simp [xorP_length])
  intro i h1 h2
  have hi : i < l.length := by rw [xorP_length] at h2; exact h2
  rw [List.getElem_set, xorP_get f (m + 1) l i hi]
  split
  · rename_i e
    subst e
    rw [if_pos (by omega), List.getD_eq_getElem?_getD, List.getElem?_eq_getElem (by rw [xorP_length]; exact hi), xorP_get f m l m hi]
    simp [gx, hy]
  · rename_i e
    rw [xorP_get f m l i hi]
    by_cases h3 : i < m
    · rw [if_pos h3, if_pos (by omega)]
    · rw [if_neg h3, if_neg (by omega)]
theorem xorP_ge (f : Nat → Nat) (m m' : Nat) (l : List Nat) (h : l.length ≤ m) (h' : l.length ≤ m') : xorP f m l = xorP f m' l := by
  apply List.ext_getElem (by simp [xorP_length])
  intro i h1 h2
  have hi : i < l.length := by rw [xorP_length] at h2; exact h2
  rw [xorP_get f m l i hi, xorP_get f m' l i hi, if_pos (by omega), if_pos (by omega)]
theorem numsB_length (s : ByteArray) : (numsB s).length = s.size := by simp [numsB]
def nAt (n : Nat) : Nat → Nat
  | 0 => n
  | j + 1 => (nAt n j + 1) % 4294967296
/-- the byte that turns a text's byte. -/
def kb (k : ByteArray) (n : Nat) (t : ByteArray) (p : Nat) : Nat := byteAt (blockOf k (nAt n (p / 64)) t) (p % 64)
def streamOf (k : ByteArray) (n : Nat) (t s : ByteArray) : ByteArray := strOf (xorP (kb k n t) s.size (numsB s))
theorem byteAt_strOf (l : List Nat) (i : Nat) : byteAt (strOf l) i = l.getD i 0 % 256 := by
  unfold byteAt strOf
  simp only [Array.getD_eq_getD_getElem?, List.getElem?_toArray, List.getElem?_map, List.getD_eq_getElem?_getD]
  cases l[i]? <;> simp
theorem blockOf_eq (k : ByteArray) (n : Nat) (t : ByteArray) : blockOf k n t = strOf (blkL k n t) := by unfold blockOf blkL; rfl
theorem blkL_length (k : ByteArray) (n : Nat) (t : ByteArray) : (blkL k n t).length = 64 := by unfold blkL outOf bytes4; rfl
theorem kb_mod (k : ByteArray) (n : Nat) (t : ByteArray) (j i : Nat) (hi : i < 64) : (blkL k (nAt n j) t).getD i 0 % 256 = kb k n t (64 * j + i) % 256 := by
  unfold kb
  rw [show (64 * j + i) / 64 = j by omega, show (64 * j + i) % 64 = i by omega]
  rw [blockOf_eq, byteAt_strOf, Nat.mod_mod]
theorem blockOf_size (k : ByteArray) (n : Nat) (t : ByteArray) : (blockOf k n t).size = 64 := by
  rw [blockOf_eq]
  unfold strOf ByteArray.size
  simp [blkL_length]
end Go.Ev

