/- Ed25519: what the program and the page come to, and the law; The law, of every input: EdsigTurned holds of every argument -/
import Derived.Test.YtgkelmendkdocaaGreatPartR
import Derived.Test.YtgkelmendkdocaaGreatPartK
import Derived.Test.YtgkelmendkdocaaGreatPartN
import Derived.Test.YtgkelmendkdocaaGreatPartM
import Derived.Test.YtgkelmendkdocaaGreatPartP
import Derived.JoinedOf
import Derived.SizedLaws
namespace Go.Ev.H5
open Go Go.Proofs Go.RowKit
def ldC (t : TypeId) (g : Nat → V1) : CT := ⟨3000000 + t, fun vs => match vs with | [.one (.ptr _ off)] => some ([False], .val (g off)) | _ => none⟩
theorem ldC_ok (t : TypeId) (g : Nat → V1) : CTok (ldC t g) := by
  intro vs ob r h ho
  simp only [ldC] at h
  split at h
  · simp only [Option.some.injEq, Prod.mk.injEq] at h
    obtain ⟨rfl, _⟩ := h
    exact ho.1.elim
  · simp at h
def shC : List SK := [.s, .s, .s, .s, .u32, .u32, .u32, .u32, .u32]
theorem u23 : Tryz.prog.underlying 22 = some (.slice 27) := by kernel_rfl
theorem k38 : kindsT Tryz.prog 20 27 = some (shKs shC) := by kernel_rfl
theorem s38 : sizeA Tryz.prog 27 = some (shSz shC) := by kernel_rfl
def MC (c : Cells) (len : Nat) : List Blk := [rowB c shC len 27]
theorem wfC {n : Nat} {l : List (Nat × AV)} (c : Cells) (m : Nat) (h : tmsWf 1 (slots n l) = true) : wfS (slots n l) (MC c m) = true := wfS_of (by
  intro b hb
  simp only [MC, List.mem_cons, List.not_mem_nil, or_false] at hb
  rcases hb with rfl
  exact rowB_free _ _ _ _) h
noncomputable def EH (c : Cells) : Env := mkE [ldC 9 fun off => sS (sA c off)] fun f t => match f with | 7 => memN t [10, 13, 20, 27, 34, 41, 24, 31, 38, 45, 16, 2000022, 2000029, 2000036, 2000043] | _ => false
theorem envEH (c : Cells) : EnvOK (EH c) := envMk (show AllCT [ldC 9 fun off => sS (sA c off)] from ⟨ldC_ok _ _, trivial⟩) _
def TH (len cap : Nat) (n : Int) (i : Int) : List AV := slots 48 [(0, sV' len cap), (2, bV false), (3, iV n), (4, iV i)]
def THE (len cap : Nat) (n : Int) : List AV := slots 48 [(0, sV' len cap), (2, bV false), (3, iV n)]
theorem wfTH (c : Cells) (m len cap : Nat) (n i : Int) : wfS (TH len cap n i) (MC c m) = true := wfC c m (by kernel_rfl)
theorem wfTHE (c : Cells) (m len cap : Nat) (n : Int) : wfS (THE len cap n) (MC c m) = true := wfC c m (by kernel_rfl)
theorem ag9 : isAggA Tryz.prog 9 = some false := by kernel_rfl
theorem ag38 : isAggA Tryz.prog 27 = some true := by kernel_rfl
theorem ld9 {c : Cells} {len i : Nat} (f : Nat) (hf : f < 4) (hi : i < len) : LoadsAs Tryz.prog 9 (rowPs c shC len 0) (0 + i * 9 + f) (.one (.v (.string (sA c (0 + i * 9 + f))))) := by
  have h9 : shSz shC = 9 := rfl
  match f, hf with
  | 0, _ => exact loads_fld (sh := shC) (i := i) [] .s [.s, .s, .s, .u32, .u32, .u32, .u32, .u32] rfl ag9 hi (by rw [h9]; simp [shSz]) rfl
  | 1, _ => exact loads_fld (sh := shC) (i := i) [.s] .s [.s, .s, .u32, .u32, .u32, .u32, .u32] rfl ag9 hi (by rw [h9]; simp [shSz, SK.sz]) rfl
  | 2, _ => exact loads_fld (sh := shC) (i := i) [.s, .s] .s [.s, .u32, .u32, .u32, .u32, .u32] rfl ag9 hi (by rw [h9]; simp [shSz, SK.sz]) rfl
  | 3, _ => exact loads_fld (sh := shC) (i := i) [.s, .s, .s] .s [.u32, .u32, .u32, .u32, .u32] rfl ag9 hi (by rw [h9]; simp [shSz, SK.sz]) rfl
theorem ld38 {c : Cells} {len i : Nat} (hi : i < len) : LoadsAs Tryz.prog 27 (rowPs c shC len 0) (0 + i * 9) (.agg (fldPs c shC (0 + i * 9))) :=
  loads_row (sh := shC) (i := i) [] shC [] rfl ag38 s38 hi (by show 0 + i * 9 = i * 9 + 0; omega)
def hn (c : Cells) (n : Int) (i : Nat) : Int := n + ((sA c (0 + i * 9 + 0)).size : Int) + ((sA c (0 + i * 9 + 1)).size : Int) + ((sA c (0 + i * 9 + 2)).size : Int) + ((sA c (0 + i * 9 + 3)).size : Int)
def hv (c : Cells) : Nat → Nat → Int → Int
  | 0, _, n => n
  | k + 1, i, n => bif decide (n < 1048576) then hv c k (i + 1) (hn c n i) else n
theorem hvA (c : Cells) (len : Nat) (cap : Nat) (n : Int) (i : Nat) : runTo (EH c) 1000 (Env.S (EH c) 7) (bodyOf Tryz.prog 7 3) (TH len cap n (↑i : Int)) (MC c len) [true, true] (TH len cap (hn c n i) ((↑i : Int) + (1 : Int))) 1 =
    some ([decide ((↑i : Int) < (↑len : Int)) = true, decide (n < (1048576 : Int)) = true, (0 : Int) ≤ (↑i : Int) ∧ (↑i : Int) < (↑len : Int), LoadsAs Tryz.prog 9 (rowPs c shC len 0) (0 + i * 9 + 0) (V1.one (Atom.v (Value.string (sA c (0 + i * 9 + 0))))), inI (n + (↑(ByteArray.size (sA c (0 + i * 9 + 0))) : Int)), (0 : Int) ≤ (↑i : Int) ∧ (↑i : Int) < (↑len : Int), LoadsAs Tryz.prog 9 (rowPs c shC len 0) (0 + i * 9 + 1) (V1.one (Atom.v (Value.string (sA c (0 + i * 9 + 1))))), inI (n + (↑(ByteArray.size (sA c (0 + i * 9 + 0))) : Int) + (↑(ByteArray.size (sA c (0 + i * 9 + 1))) : Int)), (0 : Int) ≤ (↑i : Int) ∧ (↑i : Int) < (↑len : Int), LoadsAs Tryz.prog 9 (rowPs c shC len 0) (0 + i * 9 + 2) (V1.one (Atom.v (Value.string (sA c (0 + i * 9 + 2))))), inI (n + (↑(ByteArray.size (sA c (0 + i * 9 + 0))) : Int) + (↑(ByteArray.size (sA c (0 + i * 9 + 1))) : Int) + (↑(ByteArray.size (sA c (0 + i * 9 + 2))) : Int)), (0 : Int) ≤ (↑i : Int) ∧ (↑i : Int) < (↑len : Int), LoadsAs Tryz.prog 9 (rowPs c shC len 0) (0 + i * 9 + 3) (V1.one (Atom.v (Value.string (sA c (0 + i * 9 + 3))))), inI (n + (↑(ByteArray.size (sA c (0 + i * 9 + 0))) : Int) + (↑(ByteArray.size (sA c (0 + i * 9 + 1))) : Int) + (↑(ByteArray.size (sA c (0 + i * 9 + 2))) : Int) + (↑(ByteArray.size (sA c (0 + i * 9 + 3))) : Int)), inI ((↑i : Int) + (1 : Int))], .normal, TH len cap (hn c n i) ((i : Int) + 1), MC c len) := by kernel_rfl
theorem hvB (c : Cells) (len : Nat) (cap : Nat) (n : Int) (i : Nat) : runTo (EH c) 1000 (Env.S (EH c) 7) (bodyOf Tryz.prog 7 3) (TH len cap n (↑i : Int)) (MC c len) [true, false] (THE len cap n) 1 =
    some ([decide ((↑i : Int) < (↑len : Int)) = true, decide (n < (1048576 : Int)) = false], .exit 0, THE len cap n, MC c len) := by kernel_rfl
theorem hvC (c : Cells) (len : Nat) (cap : Nat) (n : Int) (i : Nat) : runTo (EH c) 1000 (Env.S (EH c) 7) (bodyOf Tryz.prog 7 3) (TH len cap n (↑i : Int)) (MC c len) [false] (THE len cap n) 1 =
    some ([decide ((↑i : Int) < (↑len : Int)) = false], .exit 0, THE len cap n, MC c len) := by kernel_rfl
abbrev BB : Nat := reachBytes
theorem BB_lt : BB < 140737488355328 := by decide
theorem at_lt {len i f : Nat} (hi : i < len) (hf : f < 9) : 0 + i * 9 + f < len * 9 := by omega
theorem hn_le (c : Cells) (n : Int) (i : Nat) : n ≤ hn c n i := by unfold hn; omega
theorem heavyG (c : Cells) (len cap : Nat) (hB : ∀ j, j < len * 9 → (sA c j).size ≤ BB) (hl : len ≤ maxLen) : ∀ (k i : Nat) (n : Int), i + k = len → 0 ≤ n → GoesN Tryz.prog (bodyOf Tryz.prog 7 3) (k + 1) (.exit 0) (TH len cap n (i : Int)) (MC c len) (THE len cap (hv c k i n)) (MC c len)
  | 0, i, n, hk, _ => GoesN.out (by simp) (Runs.goes (envEH c) ⟨_, _, hvC c len cap n i, ⟨decide_eq_false (by omega), trivial⟩, wfTHE _ _ _ _ _⟩)
  | k + 1, i, n, hk, h0 => by
    have hi : i < len := by omega
    have hii : (0 : Int) ≤ (i : Int) ∧ (i : Int) < (len : Int) := by omega
    have hll : decide ((i : Int) < (len : Int)) = true := decide_eq_true (by omega)
    have hm : maxLen = 9223372036854775807 := by decide
    by_cases hn0 : n < 1048576
    · have s0 := hB _ (at_lt (f := 0) hi (by omega))
      have s1 := hB _ (at_lt (f := 1) hi (by omega))
      have s2 := hB _ (at_lt (f := 2) hi (by omega))
      have s3 := hB _ (at_lt (f := 3) hi (by omega))
      have hb := BB_lt
      have hd : decide (n < 1048576) = true := decide_eq_true hn0
      have ih := heavyG c len cap hB hl k (i + 1) (hn c n i) (by omega) (by have := hn_le c n i; omega)
      rw [show ((i + 1 : Nat) : Int) = (i : Int) + 1 by omega] at ih
      show GoesN Tryz.prog (bodyOf Tryz.prog 7 3) (k + 1 + 1) (.exit 0) (TH len cap n (i : Int)) (MC c len) (THE len cap (bif decide (n < 1048576) then hv c k (i + 1) (hn c n i) else n)) (MC c len)
      rw [hd, cond_true]
      refine GoesN.cons (M1 := MC c len) rfl (Runs.goes (envEH c) ⟨_, _, hvA c len cap n i, ⟨hll, hd, hii, ld9 _ (by omega) hi, ?_, hii, ld9 _ (by omega) hi, ?_, hii, ld9 _ (by omega) hi, ?_, hii, ld9 _ (by omega) hi, ?_, ?_, trivial⟩, wfTH _ _ _ _ _ _⟩) ih
      all_goals (unfold inI; omega)
    · have hd : decide (n < 1048576) = false := decide_eq_false hn0
      show GoesN Tryz.prog (bodyOf Tryz.prog 7 3) (k + 1 + 1) (.exit 0) (TH len cap n (i : Int)) (MC c len) (THE len cap (bif decide (n < 1048576) then hv c k (i + 1) (hn c n i) else n)) (MC c len)
      rw [hd, cond_false]
      exact GoesN.out (by simp) (Runs.goes (envEH c) ⟨_, _, hvB c len cap n i, ⟨hll, hd, trivial⟩, wfTHE _ _ _ _ _⟩)
theorem hv_small (c : Cells) : ∀ (k i : Nat) (n : Int), 0 ≤ n → hv c k i n ≤ 9000 → n ≤ 9000 ∧ ∀ j, i ≤ j → j < i + k → (sA c (0 + j * 9 + 0)).size ≤ 9000 ∧ (sA c (0 + j * 9 + 1)).size ≤ 9000 ∧ (sA c (0 + j * 9 + 2)).size ≤ 9000 ∧ (sA c (0 + j * 9 + 3)).size ≤ 9000
  | 0, i, n, _, h => ⟨h, fun j h1 h2 => by omega⟩
  | k + 1, i, n, h0, h => by
    by_cases hn0 : n < 1048576
    · change (bif decide (n < 1048576) then hv c k (i + 1) (hn c n i) else n) ≤ 9000 at h
      rw [decide_eq_true hn0, cond_true] at h
      have hle := hn_le c n i
      obtain ⟨h1, h2⟩ := hv_small c k (i + 1) (hn c n i) (by omega) h
      refine ⟨by omega, fun j h3 h4 => ?_⟩
      rcases Nat.eq_or_lt_of_le h3 with rfl | h5
      · unfold hn at h1
        refine ⟨?_, ?_, ?_, ?_⟩ <;> omega
      · exact h2 j h5 (by omega)
    · change (bif decide (n < 1048576) then hv c k (i + 1) (hn c n i) else n) ≤ 9000 at h
      rw [decide_eq_false hn0, cond_false] at h
      omega
noncomputable def sumH (c : Cells) (len cap : Nat) : List AV → List Blk → List Bool → CoR := sumC (TH len cap (len : Int) ((0 : Nat) : Int)) (MC c len) (THE len cap (hv c len 0 (len : Int))) (MC c len) (.exit 0)
theorem sumH_ok (c : Cells) (len cap : Nat) (hB : ∀ j, j < len * 9 → (sA c j).size ≤ BB) (hl : len ≤ maxLen) : SumOK Tryz.prog (.loop (bodyOf Tryz.prog 7 3)) (sumH c len cap) :=
  sumC_ok rfl (heavyG c len cap hB hl len 0 (len : Int) (by omega) (by omega)).loop
end Go.Ev.H5

namespace Go.Ev.H5
open Go Go.Proofs Go.RowKit
def c0 : Cells := ⟨fun _ => false, fun _ => ByteArray.empty, fun _ => 0, fun _ => 0⟩
noncomputable def fn9 (vs : List V1) : Option (List Prop × AV) := match vs with | [.one (.v (.string s))] => some ([], .tup [N8 (expKz s), sS (expRz s), .one (.i (expE s))]) | _ => none
noncomputable def fn10 (vs : List V1) : Option (List Prop × AV) := match vs with | [.one (.v (.string s))] => some ([], .tup [sS (pubZ s), .one (.i (expE s))]) | _ => none
noncomputable def fn11 (vs : List V1) : Option (List Prop × AV) := match vs with | [.one (.v (.string s)), .one (.v (.string m))] => some ([], .tup [sS (sigZ s m), .one (.i (sigE s m))]) | _ => none
noncomputable def fn13 (vs : List V1) : Option (List Prop × AV) := match vs with | [.one (.v (.string s))] => some ([s.size ≤ 100000000000000], .val (sS (pubB (exK s)))) | _ => none
noncomputable def fn14 (vs : List V1) : Option (List Prop × AV) := match vs with | [.one (.v (.string s)), .one (.v (.string m))] => some ([s.size ≤ 100000000000000, m.size ≤ 10000000000], .val (sS (signB s m))) | _ => none
theorem ct9 : CTok ⟨9, fn9⟩ := by
  intro vs ob r h _
  simp only [fn9] at h
  split at h
  · simp only [Option.some.injEq, Prod.mk.injEq] at h
    obtain ⟨_, rfl⟩ := h
    exact spec9 _
  · simp at h
theorem ct10 : CTok ⟨10, fn10⟩ := by
  intro vs ob r h _
  simp only [fn10] at h
  split at h
  · simp only [Option.some.injEq, Prod.mk.injEq] at h
    obtain ⟨_, rfl⟩ := h
    exact spec10 _
  · simp at h
theorem ct11 : CTok ⟨11, fn11⟩ := by
  intro vs ob r h _
  simp only [fn11] at h
  split at h
  · simp only [Option.some.injEq, Prod.mk.injEq] at h
    obtain ⟨_, rfl⟩ := h
    exact spec11 _ _
  · simp at h
theorem ct13 : CTok ⟨13, fn13⟩ := by
  intro vs ob r h ho
  simp only [fn13] at h
  split at h
  · simp only [Option.some.injEq, Prod.mk.injEq] at h
    obtain ⟨rfl, rfl⟩ := h
    exact spec13 _ ho.1
  · simp at h
theorem ct14 : CTok ⟨14, fn14⟩ := by
  intro vs ob r h ho
  simp only [fn14] at h
  split at h
  · simp only [Option.some.injEq, Prod.mk.injEq] at h
    obtain ⟨rfl, rfl⟩ := h
    exact spec14 _ _ ho.1 ho.2.1
  · simp at h
noncomputable def LZ (c : Cells) : List CT := ⟨9, fn9⟩ :: ⟨10, fn10⟩ :: ⟨11, fn11⟩ :: ⟨13, fn13⟩ :: ⟨14, fn14⟩ :: ⟨15, fnS [.z] gNum⟩ :: ⟨16, bT⟩ :: ⟨8, fnFit⟩ :: ldC 9 (fun off => sS (sA c off)) :: ldC 27 (fun off => .agg (fldPs c shC off)) :: LS
theorem LZ_ok (c : Cells) : AllCT (LZ c) := ⟨ct9, ct10, ct11, ct13, ct14, ct15, ctT spec16, ct8, ldC_ok _ _, ldC_ok _ _, LS_ok⟩
noncomputable def S3 : FuncId → Nat → Bool := fun f t => match f with | 3 => memN t [25, 28, 34, 2000036, 39, 2000040, 31, 47, 67, 2000069, 75, 85, 2000087, 89, 93, 2000095, 100, 105, 111, 116, 121, 126, 131] | 7 => memN t [47] | _ => false
noncomputable def E3e (c : Cells) : Env := mkE (LZ c) S3
theorem envE3e (c : Cells) : EnvOK (E3e c) := envMk (LZ_ok c) _
def T3 (len cap : Nat) (i : Int) : List AV := slots 134 [(0, sV' len cap), (2, bV false), (3, iV i)]
theorem wfT3 (c : Cells) (m len cap : Nat) (i : Int) : wfS (T3 len cap i) (MC c m) = true := wfC c m (by kernel_rfl)
def b2 (x y : ByteArray) : Blk := ⟨[.a (.v (.string x)), .a (.v (.string y))], 9, true, false, 0⟩
def TK (len cap : Nat) (i k : Int) : List AV := slots 134 [(0, sV' len cap), (2, bV false), (3, iV i), (4, .val (.one (.sl 1 0 2 2))), (5, iV k)]
def MK (c : Cells) (m : Nat) (x y : ByteArray) : List Blk := [rowB c shC m 27, b2 x y]
theorem tTK (len cap : Nat) (i k : Int) : tmsWf 2 (TK len cap i k) = true := by kernel_rfl
theorem wfTK (c : Cells) (m : Nat) (x y : ByteArray) (len cap : Nat) (i k : Int) : wfS (TK len cap i k) (MK c m x y) = true := wfS_of (by
  intro b hb
  simp only [MK, List.mem_cons, List.not_mem_nil, or_false] at hb
  rcases hb with rfl | rfl
  · exact rowB_free _ _ _ _
  · exact fun _ => rfl) (tTK len cap i k)
end Go.Ev.H5

namespace Go.Ev.H5
open Go Go.Proofs Go.RowKit
theorem neq_ii (z : Int) : (!decide (z = z)) = false := by simp
theorem neq_ss (s : ByteArray) : (!(s.toList == s.toList)) = false := by simp
theorem neq_nn (a : Nat) : (!(decide (a % 4294967296 ^ 8 = a % 4294967296 ^ 8) && true)) = false := by simp
def ldM (c : Cells) (len i : Nat) : Prop := LoadsAs Tryz.prog 9 (rowPs c shC len 0) (0 + i * 9 + 3) (.one (.v (.string (sA c (0 + i * 9 + 3)))))
def inL (len i : Nat) : Prop := (0 : Int) ≤ (i : Int) ∧ (i : Int) < (len : Int)
noncomputable def obA (c : Cells) (len i : Nat) (k : Int) (x : ByteArray) : List Prop := [inL len i, ldM c len i, decide ((x.size : Int) = 32) = true, x.size ≤ 100000000000000, x.size ≤ 100000000000000, inL len i, ldM c len i, decide (((sA c (0 + i * 9 + 3)).size : Int) ≤ 4096) = true, inL len i, ldM c len i, x.size ≤ 100000000000000, (sA c (0 + i * 9 + 3)).size ≤ 10000000000,
  (!decide (expE x = 0)) = false, (!decide (expE x = 0)) = false, (!decide (sigE x (sA c (0 + i * 9 + 3)) = 0)) = false, (!(decide (expKz x % 4294967296 ^ 8 = exK x % 4294967296 ^ 8) && true)) = false, (!((expRz x).toList == (exR x).toList)) = false, (!((pubZ x).toList == (pubB (exK x)).toList)) = false, (!((sigZ x (sA c (0 + i * 9 + 3))).toList == (signB x (sA c (0 + i * 9 + 3))).toList)) = false, inI (k + 1)]
noncomputable def obB (c : Cells) (len i : Nat) (k : Int) (x : ByteArray) : List Prop := [inL len i, ldM c len i, decide ((x.size : Int) = 32) = true, x.size ≤ 100000000000000, x.size ≤ 100000000000000, inL len i, ldM c len i, decide (((sA c (0 + i * 9 + 3)).size : Int) ≤ 4096) = false,
  (!decide (expE x = 0)) = false, (!decide (expE x = 0)) = false, (!decide (sigE x (sA c (0 + i * 9 + 3)) = 2)) = false, (!(decide (expKz x % 4294967296 ^ 8 = exK x % 4294967296 ^ 8) && true)) = false, (!((expRz x).toList == (exR x).toList)) = false, (!((pubZ x).toList == (pubB (exK x)).toList)) = false, (!((sigZ x (sA c (0 + i * 9 + 3))).toList == e0.toList)) = false, inI (k + 1)]
noncomputable def obC (c : Cells) (len i : Nat) (k : Int) (x : ByteArray) : List Prop := [inL len i, ldM c len i, decide ((x.size : Int) = 32) = false,
  (!decide (expE x = 1)) = false, (!decide (expE x = 1)) = false, (!decide (sigE x (sA c (0 + i * 9 + 3)) = 1)) = false, (!(isZ (expKz x))) = false, (!((expRz x).toList == e0.toList)) = false, (!((pubZ x).toList == e0.toList)) = false, (!((sigZ x (sA c (0 + i * 9 + 3))).toList == e0.toList)) = false, inI (k + 1)]
theorem obA_ok {c : Cells} {len i : Nat} {k : Int} {x : ByteArray} (hi : i < len) (hk : 0 ≤ k ∧ k < 2) (h : x.size = 32) (hm : (sA c (0 + i * 9 + 3)).size ≤ 4096) : All (obA c len i k x) := by
  have hI : inL len i := by unfold inL; omega
  have hL : ldM c len i := ld9 3 (by decide) hi
  have e1 : expE x = 0 := by unfold expE; rw [decide_eq_true h, cond_true]
  have e2 : sigE x (sA c (0 + i * 9 + 3)) = 0 := by unfold sigE; rw [decide_eq_true h, cond_true, decide_eq_true hm, cond_true]
  have e3 : expKz x = exK x := by unfold expKz; rw [decide_eq_true h, cond_true]
  have e4 : expRz x = exR x := by unfold expRz; rw [decide_eq_true h, cond_true]
  have e5 : pubZ x = pubB (exK x) := by unfold pubZ; rw [decide_eq_true h, cond_true]
  have e6 : sigZ x (sA c (0 + i * 9 + 3)) = signB x (sA c (0 + i * 9 + 3)) := by unfold sigZ; rw [decide_eq_true h, cond_true, decide_eq_true hm, cond_true]
  unfold obA
  rw [e1, e2, e3, e4, e5, e6]
  exact ⟨hI, hL, decide_eq_true (by omega), by omega, by omega, hI, hL, decide_eq_true (by omega), hI, hL, by omega, by omega, neq_ii _, neq_ii _, neq_ii _, neq_nn _, neq_ss _, neq_ss _, neq_ss _, by unfold inI; omega, trivial⟩
theorem obB_ok {c : Cells} {len i : Nat} {k : Int} {x : ByteArray} (hi : i < len) (hk : 0 ≤ k ∧ k < 2) (h : x.size = 32) (hm : ¬ (sA c (0 + i * 9 + 3)).size ≤ 4096) : All (obB c len i k x) := by
  have hI : inL len i := by unfold inL; omega
  have hL : ldM c len i := ld9 3 (by decide) hi
  have e1 : expE x = 0 := by unfold expE; rw [decide_eq_true h, cond_true]
  have e2 : sigE x (sA c (0 + i * 9 + 3)) = 2 := by unfold sigE; rw [decide_eq_true h, cond_true, decide_eq_false hm, cond_false]
  have e3 : expKz x = exK x := by unfold expKz; rw [decide_eq_true h, cond_true]
  have e4 : expRz x = exR x := by unfold expRz; rw [decide_eq_true h, cond_true]
  have e5 : pubZ x = pubB (exK x) := by unfold pubZ; rw [decide_eq_true h, cond_true]
  have e6 : sigZ x (sA c (0 + i * 9 + 3)) = e0 := by unfold sigZ; rw [decide_eq_true h, cond_true, decide_eq_false hm, cond_false]
  unfold obB
  rw [e1, e2, e3, e4, e5, e6]
  exact ⟨hI, hL, decide_eq_true (by omega), by omega, by omega, hI, hL, decide_eq_false (by omega), neq_ii _, neq_ii _, neq_ii _, neq_nn _, neq_ss _, neq_ss _, neq_ss _, by unfold inI; omega, trivial⟩
theorem obC_ok {c : Cells} {len i : Nat} {k : Int} {x : ByteArray} (hi : i < len) (hk : 0 ≤ k ∧ k < 2) (h : ¬ x.size = 32) : All (obC c len i k x) := by
  have hI : inL len i := by unfold inL; omega
  have hL : ldM c len i := ld9 3 (by decide) hi
  have e1 : expE x = 1 := by unfold expE; rw [decide_eq_false h, cond_false]
  have e2 : sigE x (sA c (0 + i * 9 + 3)) = 1 := by unfold sigE; rw [decide_eq_false h, cond_false]
  have e3 : expKz x = 0 := by unfold expKz; rw [decide_eq_false h, cond_false]
  have e4 : expRz x = e0 := by unfold expRz; rw [decide_eq_false h, cond_false]
  have e5 : pubZ x = e0 := by unfold pubZ; rw [decide_eq_false h, cond_false]
  have e6 : sigZ x (sA c (0 + i * 9 + 3)) = e0 := by unfold sigZ; rw [decide_eq_false h, cond_false]
  unfold obC
  rw [e1, e2, e3, e4, e5, e6]
  exact ⟨hI, hL, decide_eq_false (by omega), neq_ii _, neq_ii _, neq_ii _, rfl, neq_ss _, neq_ss _, neq_ss _, by unfold inI; omega, trivial⟩
theorem sK0a (c : Cells) (len cap i : Nat) (x y : ByteArray) : runTo (E3e c) 1000 ((E3e c).S 3) (bodyOf Tryz.prog 3 8) (TK len cap (i : Int) ((0 : Nat) : Int)) (MK c len x y) [true, true, false, false, false, false, false, false, false] (TK len cap (i : Int) ((0 + 1 : Nat) : Int)) 2 =
    some (obA c len i ((0 : Nat) : Int) x, .normal, TK len cap (i : Int) ((0 + 1 : Nat) : Int), MK c len x y) := by kernel_rfl
theorem sK0b (c : Cells) (len cap i : Nat) (x y : ByteArray) : runTo (E3e c) 1000 ((E3e c).S 3) (bodyOf Tryz.prog 3 8) (TK len cap (i : Int) ((0 : Nat) : Int)) (MK c len x y) [true, false, false, false, false, false, false, false, false] (TK len cap (i : Int) ((0 + 1 : Nat) : Int)) 2 =
    some (obB c len i ((0 : Nat) : Int) x, .normal, TK len cap (i : Int) ((0 + 1 : Nat) : Int), MK c len x y) := by kernel_rfl
theorem sK0c (c : Cells) (len cap i : Nat) (x y : ByteArray) : runTo (E3e c) 1000 ((E3e c).S 3) (bodyOf Tryz.prog 3 8) (TK len cap (i : Int) ((0 : Nat) : Int)) (MK c len x y) [false, false, false, false, false, false, false, false] (TK len cap (i : Int) ((0 + 1 : Nat) : Int)) 2 =
    some (obC c len i ((0 : Nat) : Int) x, .normal, TK len cap (i : Int) ((0 + 1 : Nat) : Int), MK c len x y) := by kernel_rfl
theorem sK1a (c : Cells) (len cap i : Nat) (x y : ByteArray) : runTo (E3e c) 1000 ((E3e c).S 3) (bodyOf Tryz.prog 3 8) (TK len cap (i : Int) ((1 : Nat) : Int)) (MK c len x y) [true, true, false, false, false, false, false, false, false] (TK len cap (i : Int) ((1 + 1 : Nat) : Int)) 2 =
    some (obA c len i ((1 : Nat) : Int) y, .normal, TK len cap (i : Int) ((1 + 1 : Nat) : Int), MK c len x y) := by kernel_rfl
theorem sK1b (c : Cells) (len cap i : Nat) (x y : ByteArray) : runTo (E3e c) 1000 ((E3e c).S 3) (bodyOf Tryz.prog 3 8) (TK len cap (i : Int) ((1 : Nat) : Int)) (MK c len x y) [true, false, false, false, false, false, false, false, false] (TK len cap (i : Int) ((1 + 1 : Nat) : Int)) 2 =
    some (obB c len i ((1 : Nat) : Int) y, .normal, TK len cap (i : Int) ((1 + 1 : Nat) : Int), MK c len x y) := by kernel_rfl
theorem sK1c (c : Cells) (len cap i : Nat) (x y : ByteArray) : runTo (E3e c) 1000 ((E3e c).S 3) (bodyOf Tryz.prog 3 8) (TK len cap (i : Int) ((1 : Nat) : Int)) (MK c len x y) [false, false, false, false, false, false, false, false] (TK len cap (i : Int) ((1 + 1 : Nat) : Int)) 2 =
    some (obC c len i ((1 : Nat) : Int) y, .normal, TK len cap (i : Int) ((1 + 1 : Nat) : Int), MK c len x y) := by kernel_rfl
theorem sKx (c : Cells) (len cap i : Nat) (x y : ByteArray) : runTo (E3e c) 1000 ((E3e c).S 3) (bodyOf Tryz.prog 3 8) (TK len cap (i : Int) ((2 : Nat) : Int)) (MK c len x y) [] (TK len cap (i : Int) ((2 : Nat) : Int)) 2 =
    some ([], .exit 2, TK len cap (i : Int) ((2 : Nat) : Int), MK c len x y) := by kernel_rfl
theorem lKloop (c : Cells) (len cap i : Nat) (hi : i < len) (x y : ByteArray) : Goes Tryz.prog (.loop (bodyOf Tryz.prog 3 8)) (.exit 2) (TK len cap (i : Int) ((0 : Nat) : Int)) (MK c len x y) (TK len cap (i : Int) ((2 : Nat) : Int)) (MK c len x y) := by
  refine loop_goes (N := 2) (k := 2) (T := fun k => TK len cap (i : Int) (k : Int)) (M := fun _ => MK c len x y) (by simp) (fun _ _ => rfl) (fun k hk => ?_) ?_
  · match k, hk with
    | 0, _ =>
      by_cases h : x.size = 32
      · by_cases hm : (sA c (0 + i * 9 + 3)).size ≤ 4096
        · exact Runs.goes (envE3e c) ⟨_, _, sK0a c len cap i x y, obA_ok hi (by omega) h hm, wfTK _ _ _ _ _ _ _ _⟩
        · exact Runs.goes (envE3e c) ⟨_, _, sK0b c len cap i x y, obB_ok hi (by omega) h hm, wfTK _ _ _ _ _ _ _ _⟩
      · exact Runs.goes (envE3e c) ⟨_, _, sK0c c len cap i x y, obC_ok hi (by omega) h, wfTK _ _ _ _ _ _ _ _⟩
    | 1, _ =>
      by_cases h : y.size = 32
      · by_cases hm : (sA c (0 + i * 9 + 3)).size ≤ 4096
        · exact Runs.goes (envE3e c) ⟨_, _, sK1a c len cap i x y, obA_ok hi (by omega) h hm, wfTK _ _ _ _ _ _ _ _⟩
        · exact Runs.goes (envE3e c) ⟨_, _, sK1b c len cap i x y, obB_ok hi (by omega) h hm, wfTK _ _ _ _ _ _ _ _⟩
      · exact Runs.goes (envE3e c) ⟨_, _, sK1c c len cap i x y, obC_ok hi (by omega) h, wfTK _ _ _ _ _ _ _ _⟩
  · exact Runs.goes (envE3e c) ⟨_, _, sKx c len cap i x y, trivial, wfTK _ _ _ _ _ _ _ _⟩
noncomputable def EK3 (c : Cells) (len cap i : Nat) (x y : ByteArray) : Env := addLp (E3e c) 8 (bodyOf Tryz.prog 3 8) (sumC (TK len cap (i : Int) ((0 : Nat) : Int)) (MK c len x y) (TK len cap (i : Int) ((2 : Nat) : Int)) (MK c len x y) (.exit 2))
theorem envEK3 (c : Cells) (len cap i : Nat) (hi : i < len) (x y : ByteArray) : EnvOK (EK3 c len cap i x y) := envAddLp (envE3e c) (sumC_ok rfl (lKloop c len cap i hi x y))
end Go.Ev.H5

namespace Go.Ev
open Go Go.Proofs Go.RowKit
def zE (y : Nat) : Nat := addM (modN 0) 1 (mulM (modN 0) dN (mulM (modN 0) y y))
def nuE (y : Nat) : Nat := subM (modN 0) (mulM (modN 0) y y) 1
theorem zE_cz (y : Nat) : C0 (zE y) (1 + (dN : Int) * (y * y)) :=
  (cz_add _ _).trans (((Cz.refl _ 1).add ((cz_mul _ _).trans ((Cz.refl _ _).mul (cz_mul y y)))).trans (Cz.of_eq rfl))
theorem nuE_cz (y : Nat) : C0 (nuE y) ((y : Int) * y - 1) := (cz_sub (modN_one 0)).trans ((cz_mul y y).sub (Cz.refl _ 1))
theorem zE_ne (y : Int) : ¬ C0 (1 + (dN : Int) * (y * y)) 0 := by
  intro h
  have hy : C0 y 0 := nsq (s := y) (t := 1) (h.lc1 1 (by grind))
  exact one_ne (h.lc2 hy 1 (-((dN : Int) * y)) (by grind))
theorem zE_lt (y : Nat) : zE y < modN 0 := addM_lt (modN_pos 0)
theorem uE_down (y : Nat) : uE y = pDown ⟨0, 0, zE y, 0⟩ (nuE y) := by
  have h := down_in (p := ⟨0, 0, zE y, 0⟩) ⟨modN_pos 0, modN_pos 0, zE_lt y, modN_pos 0⟩ (nuE y)
  rw [← h]
  have e1 : yyE y = inN (modN 0) (mulM (modN 0) y y) := in_mul (by decide) y y
  have e2 : bwE y = inN (modN 0) (zE y) := by
    unfold bwE zE
    rw [e1, in_mul (by decide) dN (mulM (modN 0) y y), in_add 1 (mulM (modN 0) dN (mulM (modN 0) y y))]
  unfold uE
  rw [e1, e2, in_sub (modN_pos 0) (modN_one 0)]
  rfl
theorem uE_cz (y : Nat) : C0 ((uE y : Int) * (1 + (dN : Int) * (y * y))) ((y : Int) * y - 1) := by
  have hz := zE_cz y
  have hc := nuE_cz y
  have hi := inv_cz (k := 0) (by decide) (zE_lt y) (fun h => zE_ne y (hz.symm.trans h))
  have hu : C0 (uE y) ((nuE y : Int) * invP 0 (zE y)) := by
    rw [uE_down]
    exact cz_mul _ _
  exact hu.lc4 hz hc hi (1 + (dN : Int) * (y * y)) (-((nuE y : Int) * invP 0 (zE y))) 1 (nuE y) (by grind)
theorem on_uE {x y : Nat} (h : C0 ((x : Int) * x) (uE y)) : On x y := by
  have hu := uE_cz y
  unfold On
  exact hu.lc2 h (-1) (-(1 + (dN : Int) * (y * y))) (by grind)
theorem modN0_odd : modN 0 % 2 = 1 := by decide +kernel
theorem ev_even (a : Nat) : evC 0 a % 2 = 0 := Go.NT.evenN_even modN0_odd (by rw [modN_P]; exact Go.NT.candN_lt (by decide))
theorem ev_sq {a : Nat} (h : sqB 0 a = true) : evC 0 a * evC 0 a % modN 0 = a := by
  unfold evC
  rw [Go.NT.evenN_sq (by rw [modN_P]; exact Go.NT.candN_lt (by decide))]
  exact (isSq_iff 0 a).1 h
theorem leB_succ (n x : Nat) : leB (n + 1) x = x % 256 :: leB n (x / 256) := by
  unfold leB
  rw [List.range_succ_eq_map, List.map_cons, List.map_map]
  rw [Nat.pow_zero, Nat.div_one]
  congr 1
  refine List.map_congr_left fun j _ => ?_
  show x / 256 ^ (j + 1) % 256 = x / 256 / 256 ^ j % 256
  rw [Nat.pow_succ, Nat.mul_comm, Nat.div_div_eq_div_mul]
theorem leB_leN : ∀ l : List Nat, (∀ b ∈ l, b < 256) → leB l.length (leN l) = l
  | [], _ => rfl
  | b :: l, h => by
    have hb := h b (List.mem_cons_self ..)
    have ih := leB_leN l fun x hx => h x (List.mem_cons_of_mem _ hx)
    show leB (l.length + 1) (b + 256 * leN l) = b :: l
    rw [leB_succ, show (b + 256 * leN l) % 256 = b by omega, show (b + 256 * leN l) / 256 = leN l by omega, ih]
theorem strOf_leS {s : ByteArray} (h : s.size = 32) : strOf (leB 32 (leS s)) = s := by
  have := leB_leN (numsB s) (numsB_lt s)
  rw [numsB_length, h] at this
  unfold leS
  rw [this, strOf_numsB]
end Go.Ev

namespace Go.Ev
open Go Go.Proofs Go.RowKit
theorem subM0 {x : Nat} (h0 : x ≠ 0) (hx : x < modN 0) : subM (modN 0) 0 x = modN 0 - x := by
  unfold subM
  rw [Nat.mod_eq_of_lt (by omega), Nat.zero_add]
theorem five : ∀ b1 b2 b3 b4 b5 : Bool, (bif b1 then (bif b2 then (bif b3 then (bif b4 && b5 then 6 else 0) else 7) else 6) else 1 : Int) = 0 → b1 = true ∧ b2 = true ∧ b3 = true ∧ (b4 && b5) = false := by decide
theorem unpE_zero {s : ByteArray} (h : unpE s = 0) : s.size = 32 ∧ yU s < modN 0 ∧ sqU s = true ∧ (oddU s = true → evU s ≠ 0) := by
  unfold unpE at h
  obtain ⟨h1, h2, h3, h4⟩ := five _ _ _ _ _ h
  refine ⟨of_decide_eq_true h1, of_decide_eq_true h2, h3, fun ho h0 => ?_⟩
  rw [ho, Bool.true_and] at h4
  exact of_decide_eq_false h4 h0
theorem root_unp {s : ByteArray} (h : unpE s = 0) : unpX s < modN 0 ∧ unpX s % 2 = (if oddU s = true then 1 else 0) ∧ unpX s * unpX s % modN 0 = uE (yU s) := by
  have hodd2 := modN0_odd
  obtain ⟨hs, hy, hsq, hnz⟩ := unpE_zero h
  obtain ⟨e1, e2⟩ := unp_ok s h
  have hev : evU s < modN 0 := evC_lt (by decide)
  have hee : evU s % 2 = 0 := ev_even _
  have hq : evU s * evU s % modN 0 = uE (yU s) := ev_sq hsq
  rw [e1]
  generalize evU s = ev at *
  generalize uE (yU s) = u at *
  generalize hM : modN 0 = M at *
  cases ho : oddU s with
  | false => 
    rw [cond_false, if_neg (by decide)]
    exact ⟨hev, hee, hq⟩
  | true =>
    have h0 := hnz ho
    have e0 : subM M 0 ev = M - ev := by rw [← hM]; exact subM0 h0 (by rw [hM]; exact hev)
    rw [cond_true, e0, if_pos rfl]
    exact ⟨by omega, by omega, by rw [Go.NT.neg_sq (by omega)]; exact hq⟩
theorem on_unp {s : ByteArray} (h : unpE s = 0) : onE (unpX s) (yU s) = true := by
  obtain ⟨hs, hy, hsq, hnz⟩ := unpE_zero h
  obtain ⟨hXl, hXp, hXq⟩ := root_unp h
  refine onE_iff.2 ⟨hXl, hy, on_uE ?_⟩
  have h1 := cz_mod (m := modN 0) (unpX s * unpX s)
  rw [Int.natCast_mul, hXq] at h1
  exact h1.symm
theorem pack_unp {s : ByteArray} (h : unpE s = 0) : onE (unpX s) (unpY s) = true ∧ packB (unpX s) (unpY s) = s := by
  obtain ⟨hs, hy, hsq, hnz⟩ := unpE_zero h
  obtain ⟨hXl, hXp, hXq⟩ := root_unp h
  have hon := on_unp h
  obtain ⟨e1, e2⟩ := unp_ok s h
  rw [e2]
  refine ⟨hon, ?_⟩
  have hl := leS_lt s
  rw [hs] at hl
  have hyU := yU_eq s hs
  unfold packB
  have hd : leS s / 57896044618658097711785492504343953926634992332820282019728792003956564819968 = unpX s % 2 := by
    rw [hXp]
    cases ho : oddU s with
    | true => unfold oddU at ho; rw [if_pos rfl]; exact of_decide_eq_true ho
    | false =>
      unfold oddU at ho
      have := of_decide_eq_false ho
      rw [if_neg (by decide)]; omega
  rw [← hd, hyU, show leS s % 57896044618658097711785492504343953926634992332820282019728792003956564819968 + 57896044618658097711785492504343953926634992332820282019728792003956564819968 * (leS s / 57896044618658097711785492504343953926634992332820282019728792003956564819968) = leS s by omega]
  exact strOf_leS hs
end Go.Ev

namespace Go.Ev.H5
open Go Go.Proofs Go.RowKit
noncomputable def vrS (s : ByteArray) : Nat := leS (hiS s)
noncomputable def vrK (p m s : ByteArray) : Nat := scN ((loS s ++ p) ++ m)
noncomputable def vrB (p m s : ByteArray) : ByteArray := packB (boX (vrS s) bXN bYN (vrK p m s) (subM (modN 0) 0 (unpX p)) (unpY p)) (boY (vrS s) bXN bYN (vrK p m s) (subM (modN 0) 0 (unpX p)) (unpY p))
noncomputable def verE (p m s : ByteArray) : Int := bif decide (p.size = 32) && decide (s.size = 64) then (bif decide (m.size ≤ 4096) then (bif decide (vrS s < modN 2) then unpE p else 6) else 2) else 1
noncomputable def verB (p m s : ByteArray) : Bool := decide (verE p m s = 0) && ((vrB p m s).toList == (loS s).toList)
noncomputable def S23 : FuncId → Nat → Bool := fun f t => match f with | 23 => memN t [18, 22, 27, 30, 36, 43, 46, 48, 50, 68, 69] | 24 => memN t [14, 18, 22, 24, 29, 36, 39, 41, 43, 54, 55] | 50 => memN t [21] | _ => false
noncomputable def E23 : Env := mkE LS S23
theorem envE23 : EnvOK E23 := envMk LS_ok S23
end Go.Ev.H5

namespace Go.Ev.H5
open Go Go.Proofs Go.RowKit
theorem r23a (p : ByteArray) (m : ByteArray) (s : ByteArray) : callR E23 1000 23 [sS p, sS m, sS s] [true] =
    some ([(!decide ((↑(ByteArray.size p) : Int) = (32 : Int))) = true], .tup [.one (.v (.bool false)), .one (.i 1)]) := by kernel_rfl
theorem r23b (p : ByteArray) (m : ByteArray) (s : ByteArray) : callR E23 1000 23 [sS p, sS m, sS s] [false, true] =
    some ([(!decide ((↑(ByteArray.size p) : Int) = (32 : Int))) = false, (!decide ((↑(ByteArray.size s) : Int) = (64 : Int))) = true], .tup [.one (.v (.bool false)), .one (.i 1)]) := by kernel_rfl
theorem r23c (p : ByteArray) (m : ByteArray) (s : ByteArray) : callR E23 1000 23 [sS p, sS m, sS s] [false, false, true] =
    some ([(!decide ((↑(ByteArray.size p) : Int) = (32 : Int))) = false, (!decide ((↑(ByteArray.size s) : Int) = (64 : Int))) = false, decide ((4096 : Int) < (↑(ByteArray.size m) : Int)) = true], .tup [.one (.v (.bool false)), .one (.i 2)]) := by kernel_rfl
theorem r23d (p : ByteArray) (m : ByteArray) (s : ByteArray) : callR E23 1000 23 [sS p, sS m, sS s] [false, false, false, true] =
    some ([(!decide ((↑(ByteArray.size p) : Int) = (32 : Int))) = false, (!decide ((↑(ByteArray.size s) : Int) = (64 : Int))) = false, decide ((4096 : Int) < (↑(ByteArray.size m) : Int)) = false, (0 : Int) ≤ (32 : Int) ∧ (32 : Int) ≤ (↑(ByteArray.size s) : Int), ByteArray.size (ByteArray.extract s 32 (ByteArray.size s)) = 32, leS (ByteArray.extract s 32 (ByteArray.size s)) < 4294967296 ^ 8, (!ok1 (2 : Int) (leS (ByteArray.extract s 32 (ByteArray.size s)))) = true], .tup [.one (.v (.bool false)), .one (.i 6)]) := by kernel_rfl
theorem r23e (p : ByteArray) (m : ByteArray) (s : ByteArray) : callR E23 1000 23 [sS p, sS m, sS s] [false, false, false, false, true] =
    some ([(!decide ((↑(ByteArray.size p) : Int) = (32 : Int))) = false, (!decide ((↑(ByteArray.size s) : Int) = (64 : Int))) = false, decide ((4096 : Int) < (↑(ByteArray.size m) : Int)) = false, (0 : Int) ≤ (32 : Int) ∧ (32 : Int) ≤ (↑(ByteArray.size s) : Int), ByteArray.size (ByteArray.extract s 32 (ByteArray.size s)) = 32, leS (ByteArray.extract s 32 (ByteArray.size s)) < 4294967296 ^ 8, (!ok1 (2 : Int) (leS (ByteArray.extract s 32 (ByteArray.size s)))) = false, (!decide (unpE p = (0 : Int))) = true], .tup [.one (.v (.bool false)), .one (.i (unpE p))]) := by kernel_rfl
theorem r23t (p : ByteArray) (m : ByteArray) (s : ByteArray) : callR E23 1000 23 [sS p, sS m, sS s] [false, false, false, false, false, true] =
    some ([(!decide ((↑(ByteArray.size p) : Int) = (32 : Int))) = false, (!decide ((↑(ByteArray.size s) : Int) = (64 : Int))) = false, decide ((4096 : Int) < (↑(ByteArray.size m) : Int)) = false, (0 : Int) ≤ (32 : Int) ∧ (32 : Int) ≤ (↑(ByteArray.size s) : Int), ByteArray.size (ByteArray.extract s 32 (ByteArray.size s)) = 32, leS (ByteArray.extract s 32 (ByteArray.size s)) < 4294967296 ^ 8, (!ok1 (2 : Int) (leS (ByteArray.extract s 32 (ByteArray.size s)))) = false, (!decide (unpE p = (0 : Int))) = false, (0 : Int) ≤ (32 : Int) ∧ (32 : Int) ≤ (↑(ByteArray.size s) : Int), ByteArray.size (ByteArray.extract s 0 32) + ByteArray.size p ≤ 9223372036854775807, ByteArray.size (ByteArray.extract s 0 32 ++ p) + ByteArray.size m ≤ 9223372036854775807, ByteArray.size (ByteArray.extract s 0 32 ++ p ++ m) ≤ 100000000000000, unpX p < 4294967296 ^ 8, unpY p < 4294967296 ^ 8, onE (unpX p) (unpY p) = true, leS (ByteArray.extract s 32 (ByteArray.size s)) < 4294967296 ^ 8, bXN < 4294967296 ^ 8, bYN < 4294967296 ^ 8, scN (ByteArray.extract s 0 32 ++ p ++ m) < 4294967296 ^ 8, subM (modN 0) 0 (unpX p) < 4294967296 ^ 8, unpY p < 4294967296 ^ 8, onE bXN bYN = true, onE (subM (modN 0) 0 (unpX p)) (unpY p) = true, boX (leS (ByteArray.extract s 32 (ByteArray.size s))) bXN bYN (scN (ByteArray.extract s 0 32 ++ p ++ m)) (subM (modN 0) 0 (unpX p)) (unpY p) < 4294967296 ^ 8, boY (leS (ByteArray.extract s 32 (ByteArray.size s))) bXN bYN (scN (ByteArray.extract s 0 32 ++ p ++ m)) (subM (modN 0) 0 (unpX p)) (unpY p) < 4294967296 ^ 8, onE (boX (leS (ByteArray.extract s 32 (ByteArray.size s))) bXN bYN (scN (ByteArray.extract s 0 32 ++ p ++ m)) (subM (modN 0) 0 (unpX p)) (unpY p)) (boY (leS (ByteArray.extract s 32 (ByteArray.size s))) bXN bYN (scN (ByteArray.extract s 0 32 ++ p ++ m)) (subM (modN 0) 0 (unpX p)) (unpY p)) = true, (0 : Int) ≤ (32 : Int) ∧ (32 : Int) ≤ (↑(ByteArray.size s) : Int), (ByteArray.toList (packB (boX (leS (ByteArray.extract s 32 (ByteArray.size s))) bXN bYN (scN (ByteArray.extract s 0 32 ++ p ++ m)) (subM (modN 0) 0 (unpX p)) (unpY p)) (boY (leS (ByteArray.extract s 32 (ByteArray.size s))) bXN bYN (scN (ByteArray.extract s 0 32 ++ p ++ m)) (subM (modN 0) 0 (unpX p)) (unpY p))) == ByteArray.toList (ByteArray.extract s 0 32)) = true], .tup [.one (.v (.bool true)), .one (.i 0)]) := by kernel_rfl
theorem r23f (p : ByteArray) (m : ByteArray) (s : ByteArray) : callR E23 1000 23 [sS p, sS m, sS s] [false, false, false, false, false, false] =
    some ([(!decide ((↑(ByteArray.size p) : Int) = (32 : Int))) = false, (!decide ((↑(ByteArray.size s) : Int) = (64 : Int))) = false, decide ((4096 : Int) < (↑(ByteArray.size m) : Int)) = false, (0 : Int) ≤ (32 : Int) ∧ (32 : Int) ≤ (↑(ByteArray.size s) : Int), ByteArray.size (ByteArray.extract s 32 (ByteArray.size s)) = 32, leS (ByteArray.extract s 32 (ByteArray.size s)) < 4294967296 ^ 8, (!ok1 (2 : Int) (leS (ByteArray.extract s 32 (ByteArray.size s)))) = false, (!decide (unpE p = (0 : Int))) = false, (0 : Int) ≤ (32 : Int) ∧ (32 : Int) ≤ (↑(ByteArray.size s) : Int), ByteArray.size (ByteArray.extract s 0 32) + ByteArray.size p ≤ 9223372036854775807, ByteArray.size (ByteArray.extract s 0 32 ++ p) + ByteArray.size m ≤ 9223372036854775807, ByteArray.size (ByteArray.extract s 0 32 ++ p ++ m) ≤ 100000000000000, unpX p < 4294967296 ^ 8, unpY p < 4294967296 ^ 8, onE (unpX p) (unpY p) = true, leS (ByteArray.extract s 32 (ByteArray.size s)) < 4294967296 ^ 8, bXN < 4294967296 ^ 8, bYN < 4294967296 ^ 8, scN (ByteArray.extract s 0 32 ++ p ++ m) < 4294967296 ^ 8, subM (modN 0) 0 (unpX p) < 4294967296 ^ 8, unpY p < 4294967296 ^ 8, onE bXN bYN = true, onE (subM (modN 0) 0 (unpX p)) (unpY p) = true, boX (leS (ByteArray.extract s 32 (ByteArray.size s))) bXN bYN (scN (ByteArray.extract s 0 32 ++ p ++ m)) (subM (modN 0) 0 (unpX p)) (unpY p) < 4294967296 ^ 8, boY (leS (ByteArray.extract s 32 (ByteArray.size s))) bXN bYN (scN (ByteArray.extract s 0 32 ++ p ++ m)) (subM (modN 0) 0 (unpX p)) (unpY p) < 4294967296 ^ 8, onE (boX (leS (ByteArray.extract s 32 (ByteArray.size s))) bXN bYN (scN (ByteArray.extract s 0 32 ++ p ++ m)) (subM (modN 0) 0 (unpX p)) (unpY p)) (boY (leS (ByteArray.extract s 32 (ByteArray.size s))) bXN bYN (scN (ByteArray.extract s 0 32 ++ p ++ m)) (subM (modN 0) 0 (unpX p)) (unpY p)) = true, (0 : Int) ≤ (32 : Int) ∧ (32 : Int) ≤ (↑(ByteArray.size s) : Int), (ByteArray.toList (packB (boX (leS (ByteArray.extract s 32 (ByteArray.size s))) bXN bYN (scN (ByteArray.extract s 0 32 ++ p ++ m)) (subM (modN 0) 0 (unpX p)) (unpY p)) (boY (leS (ByteArray.extract s 32 (ByteArray.size s))) bXN bYN (scN (ByteArray.extract s 0 32 ++ p ++ m)) (subM (modN 0) 0 (unpX p)) (unpY p))) == ByteArray.toList (ByteArray.extract s 0 32)) = false], .tup [.one (.v (.bool false)), .one (.i 0)]) := by kernel_rfl
theorem r24a (p : ByteArray) (m : ByteArray) (s : ByteArray) : callR E23 1000 24 [sS p, sS m, sS s] [true] =
    some ([(!decide ((↑(ByteArray.size p) : Int) = (32 : Int))) = true], .tup [.one (.v (.bool false)), .one (.i 1)]) := by kernel_rfl
theorem r24b (p : ByteArray) (m : ByteArray) (s : ByteArray) : callR E23 1000 24 [sS p, sS m, sS s] [false, true] =
    some ([(!decide ((↑(ByteArray.size p) : Int) = (32 : Int))) = false, (!decide ((↑(ByteArray.size s) : Int) = (64 : Int))) = true], .tup [.one (.v (.bool false)), .one (.i 1)]) := by kernel_rfl
theorem r24c (p : ByteArray) (m : ByteArray) (s : ByteArray) : callR E23 1000 24 [sS p, sS m, sS s] [false, false, true] =
    some ([(!decide ((↑(ByteArray.size p) : Int) = (32 : Int))) = false, (!decide ((↑(ByteArray.size s) : Int) = (64 : Int))) = false, decide ((4096 : Int) < (↑(ByteArray.size m) : Int)) = true], .tup [.one (.v (.bool false)), .one (.i 2)]) := by kernel_rfl
theorem r24d (p : ByteArray) (m : ByteArray) (s : ByteArray) : callR E23 1000 24 [sS p, sS m, sS s] [false, false, false, false, true] =
    some ([(!decide ((↑(ByteArray.size p) : Int) = (32 : Int))) = false, (!decide ((↑(ByteArray.size s) : Int) = (64 : Int))) = false, decide ((4096 : Int) < (↑(ByteArray.size m) : Int)) = false, (0 : Int) ≤ (32 : Int) ∧ (32 : Int) ≤ (↑(ByteArray.size s) : Int), ByteArray.size (ByteArray.extract s 32 (ByteArray.size s)) = 32, (0 : Int) ≤ (2 : Int) ∧ (2 : Int) < (4 : Int), decide (leS (ByteArray.extract s 32 (ByteArray.size s)) < modN 2) = false, leS (ByteArray.extract s 32 (ByteArray.size s)) < 4294967296 ^ 8, modN 2 < 4294967296 ^ 8, (!false) = true], .tup [.one (.v (.bool false)), .one (.i 6)]) := by kernel_rfl
theorem r24e (p : ByteArray) (m : ByteArray) (s : ByteArray) : callR E23 1000 24 [sS p, sS m, sS s] [false, false, false, true, false, true] =
    some ([(!decide ((↑(ByteArray.size p) : Int) = (32 : Int))) = false, (!decide ((↑(ByteArray.size s) : Int) = (64 : Int))) = false, decide ((4096 : Int) < (↑(ByteArray.size m) : Int)) = false, (0 : Int) ≤ (32 : Int) ∧ (32 : Int) ≤ (↑(ByteArray.size s) : Int), ByteArray.size (ByteArray.extract s 32 (ByteArray.size s)) = 32, (0 : Int) ≤ (2 : Int) ∧ (2 : Int) < (4 : Int), decide (leS (ByteArray.extract s 32 (ByteArray.size s)) < modN 2) = true, leS (ByteArray.extract s 32 (ByteArray.size s)) < 4294967296 ^ 8, modN 2 < 4294967296 ^ 8, (!true) = false, (!decide (unpE p = (0 : Int))) = true], .tup [.one (.v (.bool false)), .one (.i (unpE p))]) := by kernel_rfl
theorem r24t (p : ByteArray) (m : ByteArray) (s : ByteArray) : callR E23 1000 24 [sS p, sS m, sS s] [false, false, false, true, false, false, true] =
    some ([(!decide ((↑(ByteArray.size p) : Int) = (32 : Int))) = false, (!decide ((↑(ByteArray.size s) : Int) = (64 : Int))) = false, decide ((4096 : Int) < (↑(ByteArray.size m) : Int)) = false, (0 : Int) ≤ (32 : Int) ∧ (32 : Int) ≤ (↑(ByteArray.size s) : Int), ByteArray.size (ByteArray.extract s 32 (ByteArray.size s)) = 32, (0 : Int) ≤ (2 : Int) ∧ (2 : Int) < (4 : Int), decide (leS (ByteArray.extract s 32 (ByteArray.size s)) < modN 2) = true, leS (ByteArray.extract s 32 (ByteArray.size s)) < 4294967296 ^ 8, modN 2 < 4294967296 ^ 8, (!true) = false, (!decide (unpE p = (0 : Int))) = false, (0 : Int) ≤ (32 : Int) ∧ (32 : Int) ≤ (↑(ByteArray.size s) : Int), ByteArray.size (ByteArray.extract s 0 32) + ByteArray.size p ≤ 9223372036854775807, ByteArray.size (ByteArray.extract s 0 32 ++ p) + ByteArray.size m ≤ 9223372036854775807, ByteArray.size (ByteArray.extract s 0 32 ++ p ++ m) ≤ 100000000000000, ByteArray.size (sum5 (ByteArray.extract s 0 32 ++ p ++ m)) = 64, unpX p < 4294967296 ^ 8, unpY p < 4294967296 ^ 8, onE (unpX p) (unpY p) = true, leS (ByteArray.extract s 32 (ByteArray.size s)) < 4294967296 ^ 8, bXN < 4294967296 ^ 8, bYN < 4294967296 ^ 8, mlN (sum5 (ByteArray.extract s 0 32 ++ p ++ m)) < 4294967296 ^ 8, subM (modN 0) 0 (unpX p) < 4294967296 ^ 8, unpY p < 4294967296 ^ 8, onE bXN bYN = true, onE (subM (modN 0) 0 (unpX p)) (unpY p) = true, boX (leS (ByteArray.extract s 32 (ByteArray.size s))) bXN bYN (mlN (sum5 (ByteArray.extract s 0 32 ++ p ++ m))) (subM (modN 0) 0 (unpX p)) (unpY p) < 4294967296 ^ 8, boY (leS (ByteArray.extract s 32 (ByteArray.size s))) bXN bYN (mlN (sum5 (ByteArray.extract s 0 32 ++ p ++ m))) (subM (modN 0) 0 (unpX p)) (unpY p) < 4294967296 ^ 8, onE (boX (leS (ByteArray.extract s 32 (ByteArray.size s))) bXN bYN (mlN (sum5 (ByteArray.extract s 0 32 ++ p ++ m))) (subM (modN 0) 0 (unpX p)) (unpY p)) (boY (leS (ByteArray.extract s 32 (ByteArray.size s))) bXN bYN (mlN (sum5 (ByteArray.extract s 0 32 ++ p ++ m))) (subM (modN 0) 0 (unpX p)) (unpY p)) = true, (0 : Int) ≤ (32 : Int) ∧ (32 : Int) ≤ (↑(ByteArray.size s) : Int), (ByteArray.toList (packB (boX (leS (ByteArray.extract s 32 (ByteArray.size s))) bXN bYN (mlN (sum5 (ByteArray.extract s 0 32 ++ p ++ m))) (subM (modN 0) 0 (unpX p)) (unpY p)) (boY (leS (ByteArray.extract s 32 (ByteArray.size s))) bXN bYN (mlN (sum5 (ByteArray.extract s 0 32 ++ p ++ m))) (subM (modN 0) 0 (unpX p)) (unpY p))) == ByteArray.toList (ByteArray.extract s 0 32)) = true], .tup [.one (.v (.bool true)), .one (.i 0)]) := by kernel_rfl
theorem r24f (p : ByteArray) (m : ByteArray) (s : ByteArray) : callR E23 1000 24 [sS p, sS m, sS s] [false, false, false, true, false, false, false] =
    some ([(!decide ((↑(ByteArray.size p) : Int) = (32 : Int))) = false, (!decide ((↑(ByteArray.size s) : Int) = (64 : Int))) = false, decide ((4096 : Int) < (↑(ByteArray.size m) : Int)) = false, (0 : Int) ≤ (32 : Int) ∧ (32 : Int) ≤ (↑(ByteArray.size s) : Int), ByteArray.size (ByteArray.extract s 32 (ByteArray.size s)) = 32, (0 : Int) ≤ (2 : Int) ∧ (2 : Int) < (4 : Int), decide (leS (ByteArray.extract s 32 (ByteArray.size s)) < modN 2) = true, leS (ByteArray.extract s 32 (ByteArray.size s)) < 4294967296 ^ 8, modN 2 < 4294967296 ^ 8, (!true) = false, (!decide (unpE p = (0 : Int))) = false, (0 : Int) ≤ (32 : Int) ∧ (32 : Int) ≤ (↑(ByteArray.size s) : Int), ByteArray.size (ByteArray.extract s 0 32) + ByteArray.size p ≤ 9223372036854775807, ByteArray.size (ByteArray.extract s 0 32 ++ p) + ByteArray.size m ≤ 9223372036854775807, ByteArray.size (ByteArray.extract s 0 32 ++ p ++ m) ≤ 100000000000000, ByteArray.size (sum5 (ByteArray.extract s 0 32 ++ p ++ m)) = 64, unpX p < 4294967296 ^ 8, unpY p < 4294967296 ^ 8, onE (unpX p) (unpY p) = true, leS (ByteArray.extract s 32 (ByteArray.size s)) < 4294967296 ^ 8, bXN < 4294967296 ^ 8, bYN < 4294967296 ^ 8, mlN (sum5 (ByteArray.extract s 0 32 ++ p ++ m)) < 4294967296 ^ 8, subM (modN 0) 0 (unpX p) < 4294967296 ^ 8, unpY p < 4294967296 ^ 8, onE bXN bYN = true, onE (subM (modN 0) 0 (unpX p)) (unpY p) = true, boX (leS (ByteArray.extract s 32 (ByteArray.size s))) bXN bYN (mlN (sum5 (ByteArray.extract s 0 32 ++ p ++ m))) (subM (modN 0) 0 (unpX p)) (unpY p) < 4294967296 ^ 8, boY (leS (ByteArray.extract s 32 (ByteArray.size s))) bXN bYN (mlN (sum5 (ByteArray.extract s 0 32 ++ p ++ m))) (subM (modN 0) 0 (unpX p)) (unpY p) < 4294967296 ^ 8, onE (boX (leS (ByteArray.extract s 32 (ByteArray.size s))) bXN bYN (mlN (sum5 (ByteArray.extract s 0 32 ++ p ++ m))) (subM (modN 0) 0 (unpX p)) (unpY p)) (boY (leS (ByteArray.extract s 32 (ByteArray.size s))) bXN bYN (mlN (sum5 (ByteArray.extract s 0 32 ++ p ++ m))) (subM (modN 0) 0 (unpX p)) (unpY p)) = true, (0 : Int) ≤ (32 : Int) ∧ (32 : Int) ≤ (↑(ByteArray.size s) : Int), (ByteArray.toList (packB (boX (leS (ByteArray.extract s 32 (ByteArray.size s))) bXN bYN (mlN (sum5 (ByteArray.extract s 0 32 ++ p ++ m))) (subM (modN 0) 0 (unpX p)) (unpY p)) (boY (leS (ByteArray.extract s 32 (ByteArray.size s))) bXN bYN (mlN (sum5 (ByteArray.extract s 0 32 ++ p ++ m))) (subM (modN 0) 0 (unpX p)) (unpY p))) == ByteArray.toList (ByteArray.extract s 0 32)) = false], .tup [.one (.v (.bool false)), .one (.i 0)]) := by kernel_rfl
theorem neg_onE {x y : Nat} (h : onE x y = true) : onE (subM (modN 0) 0 x) y = true := (gneg_on (on_of h)).e
theorem bo_l {k x y m : Nat} (h : onE x y = true) : boX k bXN bYN m x y < 4294967296 ^ 8 ∧ boY k bXN bYN m x y < 4294967296 ^ 8 := dN0 (bo_on onE_base h)
theorem is64 {s : ByteArray} (h : s.size = 64) : (!decide ((s.size : Int) = 64)) = false := by rw [decide_eq_true (by omega)]; rfl
theorem no64 {s : ByteArray} (h : s.size ≠ 64) : (!decide ((s.size : Int) = 64)) = true := by rw [decide_eq_false (by omega)]; rfl
theorem ok1n {a : Nat} (h : ¬ a < modN 2) : (!ok1 2 a) = true := by
  have : ok1 2 a = false := by
    unfold ok1 lessB
    rw [show (2 : Int).toNat = 2 from rfl, decide_eq_false h, Bool.and_false]
  rw [this]; rfl
theorem spec23g (p m s : ByteArray) : Spec 23 [sS p, sS m, sS s] (.tup [.one (.v (.bool (verB p m s))), .one (.i (verE p m s))]) := by
  by_cases e1 : p.size = 32
  · have hp := is32 e1
    by_cases e2 : s.size = 64
    · have hs := is64 e2
      have h3s : (0 : Int) ≤ 32 ∧ (32 : Int) ≤ (s.size : Int) := by omega
      have hz1 : (s.extract 0 32).size = 32 := loS_size e2
      have hz2 : (s.extract 32 s.size).size = 32 := hiS_size e2
      have hl8 : leS (s.extract 32 s.size) < 4294967296 ^ 8 := leS_lt8 hz2
      by_cases e3 : m.size ≤ 4096
      · have hm : decide ((4096 : Int) < (m.size : Int)) = false := decide_eq_false (by omega)
        by_cases e4 : vrS s < modN 2
        · have hv1 : (!ok1 2 (leS (s.extract 32 s.size))) = false := ok12 e4
          by_cases e5 : unpE p = 0
          · have hu : (!decide (unpE p = 0)) = false := by rw [e5]; rfl
            obtain ⟨hon, _⟩ := pack_unp e5
            obtain ⟨hx8, hy8⟩ := dN0 hon
            have hE : verE p m s = 0 := by unfold verE; rw [decide_eq_true e1, decide_eq_true e2, Bool.and_self, cond_true, decide_eq_true e3, cond_true, decide_eq_true e4, cond_true, e5]
            have hB : verB p m s = ((vrB p m s).toList == (loS s).toList) := by unfold verB; rw [hE]; rfl
            rw [hE]
            cases hf : ((vrB p m s).toList == (loS s).toList) with
            | true =>
              have hfin : ((vrB p m s).toList == (loS s).toList) = true := hf
              rw [hB, hf]
              exact spec_run envE23 rfl (r23t p m s) ⟨hp, hs, hm, h3s, hz2, hl8, hv1, hu, h3s, (by simp only [ByteArray.size_append, hz1]; omega), (by simp only [ByteArray.size_append, hz1]; omega), (by simp only [ByteArray.size_append, hz1]; omega), hx8, hy8, hon, hl8, (L8 bXN_lt), (L8 bYN_lt), (by first | with_reducible assumption | with_reducible exact scN_lt _ | with_reducible exact L8 (scN_lt _) | with_reducible exact mlN_lt _ | with_reducible exact L8 (mlN_lt _) | with_reducible exact mulM_lt (modN_pos 2) | with_reducible exact L8 (mulM_lt (modN_pos 2)) | with_reducible exact L8 (addM_lt (modN_pos 2)) | with_reducible exact rem2_lt _ | with_reducible exact L8 (rem2_lt _) | with_reducible exact exK_lt _ | with_reducible exact joinN_lt0 (exK_lt _) | with_reducible exact onE_base | with_reducible exact nm_on onE_base | with_reducible exact (nm_lt _).1 | with_reducible exact (nm_lt _).2 | with_reducible exact sum5_size _ | with_reducible exact lit0 | (simp only [ByteArray.size_append, pubB_size, packB_size, exR_size, strOf_size, leB_length]; omega) | exact decide_eq_true (by omega) | exact decide_eq_false (by omega) | omega), (L8 (subM_lt (modN_pos _))), hy8, onE_base, (neg_onE hon), (bo_l (neg_onE hon)).1, (bo_l (neg_onE hon)).2, (bo_on onE_base (neg_onE hon)), h3s, hfin, trivial⟩ rfl rfl
            | false =>
              have hfin : ((vrB p m s).toList == (loS s).toList) = false := hf
              rw [hB, hf]
              exact spec_run envE23 rfl (r23f p m s) ⟨hp, hs, hm, h3s, hz2, hl8, hv1, hu, h3s, (by simp only [ByteArray.size_append, hz1]; omega), (by simp only [ByteArray.size_append, hz1]; omega), (by simp only [ByteArray.size_append, hz1]; omega), hx8, hy8, hon, hl8, (L8 bXN_lt), (L8 bYN_lt), (by first | with_reducible assumption | with_reducible exact scN_lt _ | with_reducible exact L8 (scN_lt _) | with_reducible exact mlN_lt _ | with_reducible exact L8 (mlN_lt _) | with_reducible exact mulM_lt (modN_pos 2) | with_reducible exact L8 (mulM_lt (modN_pos 2)) | with_reducible exact L8 (addM_lt (modN_pos 2)) | with_reducible exact rem2_lt _ | with_reducible exact L8 (rem2_lt _) | with_reducible exact exK_lt _ | with_reducible exact joinN_lt0 (exK_lt _) | with_reducible exact onE_base | with_reducible exact nm_on onE_base | with_reducible exact (nm_lt _).1 | with_reducible exact (nm_lt _).2 | with_reducible exact sum5_size _ | with_reducible exact lit0 | (simp only [ByteArray.size_append, pubB_size, packB_size, exR_size, strOf_size, leB_length]; omega) | exact decide_eq_true (by omega) | exact decide_eq_false (by omega) | omega), (L8 (subM_lt (modN_pos _))), hy8, onE_base, (neg_onE hon), (bo_l (neg_onE hon)).1, (bo_l (neg_onE hon)).2, (bo_on onE_base (neg_onE hon)), h3s, hfin, trivial⟩ rfl rfl
          · have hu : (!decide (unpE p = 0)) = true := by rw [decide_eq_false e5]; rfl
            have hE : verE p m s = unpE p := by unfold verE; rw [decide_eq_true e1, decide_eq_true e2, Bool.and_self, cond_true, decide_eq_true e3, cond_true, decide_eq_true e4, cond_true]
            have hB : verB p m s = false := by unfold verB; rw [hE, decide_eq_false e5, Bool.false_and]
            rw [hE, hB]
            exact spec_run envE23 rfl (r23e p m s) ⟨hp, hs, hm, h3s, hz2, hl8, hv1, hu, trivial⟩ rfl rfl
        · have hv1 : (!ok1 2 (leS (s.extract 32 s.size))) = true := ok1n e4
          have hE : verE p m s = 6 := by unfold verE; rw [decide_eq_true e1, decide_eq_true e2, Bool.and_self, cond_true, decide_eq_true e3, cond_true, decide_eq_false e4, cond_false]
          have hB : verB p m s = false := by unfold verB; rw [hE]; rfl
          rw [hE, hB]
          exact spec_run envE23 rfl (r23d p m s) ⟨hp, hs, hm, h3s, hz2, hl8, hv1, trivial⟩ rfl rfl
      · have hnm : decide ((4096 : Int) < (m.size : Int)) = true := decide_eq_true (by omega)
        have hE : verE p m s = 2 := by unfold verE; rw [decide_eq_true e1, decide_eq_true e2, Bool.and_self, cond_true, decide_eq_false e3, cond_false]
        have hB : verB p m s = false := by unfold verB; rw [hE]; rfl
        rw [hE, hB]
        exact spec_run envE23 rfl (r23c p m s) ⟨hp, hs, hnm, trivial⟩ rfl rfl
    · have hns := no64 e2
      have hE : verE p m s = 1 := by unfold verE; rw [decide_eq_false e2, Bool.and_false, cond_false]
      have hB : verB p m s = false := by unfold verB; rw [hE]; rfl
      rw [hE, hB]
      exact spec_run envE23 rfl (r23b p m s) ⟨hp, hns, trivial⟩ rfl rfl
  · have hnp := no32 e1
    have hE : verE p m s = 1 := by unfold verE; rw [decide_eq_false e1, Bool.false_and, cond_false]
    have hB : verB p m s = false := by unfold verB; rw [hE]; rfl
    rw [hE, hB]
    exact spec_run envE23 rfl (r23a p m s) ⟨hnp, trivial⟩ rfl rfl
theorem spec24g (p m s : ByteArray) : Spec 24 [sS p, sS m, sS s] (.tup [.one (.v (.bool (verB p m s))), .one (.i (verE p m s))]) := by
  by_cases e1 : p.size = 32
  · have hp := is32 e1
    by_cases e2 : s.size = 64
    · have hs := is64 e2
      have h3s : (0 : Int) ≤ 32 ∧ (32 : Int) ≤ (s.size : Int) := by omega
      have hz1 : (s.extract 0 32).size = 32 := loS_size e2
      have hz2 : (s.extract 32 s.size).size = 32 := hiS_size e2
      have hl8 : leS (s.extract 32 s.size) < 4294967296 ^ 8 := leS_lt8 hz2
      by_cases e3 : m.size ≤ 4096
      · have hm : decide ((4096 : Int) < (m.size : Int)) = false := decide_eq_false (by omega)
        by_cases e4 : vrS s < modN 2
        · have hv2 : decide (leS (s.extract 32 s.size) < modN 2) = true := decide_eq_true e4
          by_cases e5 : unpE p = 0
          · have hu : (!decide (unpE p = 0)) = false := by rw [e5]; rfl
            obtain ⟨hon, _⟩ := pack_unp e5
            obtain ⟨hx8, hy8⟩ := dN0 hon
            have hE : verE p m s = 0 := by unfold verE; rw [decide_eq_true e1, decide_eq_true e2, Bool.and_self, cond_true, decide_eq_true e3, cond_true, decide_eq_true e4, cond_true, e5]
            have hB : verB p m s = ((vrB p m s).toList == (loS s).toList) := by unfold verB; rw [hE]; rfl
            rw [hE]
            cases hf : ((vrB p m s).toList == (loS s).toList) with
            | true =>
              have hfin : ((vrB p m s).toList == (loS s).toList) = true := hf
              rw [hB, hf]
              exact spec_run envE23 rfl (r24t p m s) ⟨hp, hs, hm, h3s, hz2, (by decide), hv2, hl8, (modN_lt _), rfl, hu, h3s, (by simp only [ByteArray.size_append, hz1]; omega), (by simp only [ByteArray.size_append, hz1]; omega), (by simp only [ByteArray.size_append, hz1]; omega), (sum5_size _), hx8, hy8, hon, hl8, (L8 bXN_lt), (L8 bYN_lt), (by first | with_reducible assumption | with_reducible exact scN_lt _ | with_reducible exact L8 (scN_lt _) | with_reducible exact mlN_lt _ | with_reducible exact L8 (mlN_lt _) | with_reducible exact mulM_lt (modN_pos 2) | with_reducible exact L8 (mulM_lt (modN_pos 2)) | with_reducible exact L8 (addM_lt (modN_pos 2)) | with_reducible exact rem2_lt _ | with_reducible exact L8 (rem2_lt _) | with_reducible exact exK_lt _ | with_reducible exact joinN_lt0 (exK_lt _) | with_reducible exact onE_base | with_reducible exact nm_on onE_base | with_reducible exact (nm_lt _).1 | with_reducible exact (nm_lt _).2 | with_reducible exact sum5_size _ | with_reducible exact lit0 | (simp only [ByteArray.size_append, pubB_size, packB_size, exR_size, strOf_size, leB_length]; omega) | exact decide_eq_true (by omega) | exact decide_eq_false (by omega) | omega), (L8 (subM_lt (modN_pos _))), hy8, onE_base, (neg_onE hon), (bo_l (neg_onE hon)).1, (bo_l (neg_onE hon)).2, (bo_on onE_base (neg_onE hon)), h3s, hfin, trivial⟩ rfl rfl
            | false =>
              have hfin : ((vrB p m s).toList == (loS s).toList) = false := hf
              rw [hB, hf]
              exact spec_run envE23 rfl (r24f p m s) ⟨hp, hs, hm, h3s, hz2, (by decide), hv2, hl8, (modN_lt _), rfl, hu, h3s, (by simp only [ByteArray.size_append, hz1]; omega), (by simp only [ByteArray.size_append, hz1]; omega), (by simp only [ByteArray.size_append, hz1]; omega), (sum5_size _), hx8, hy8, hon, hl8, (L8 bXN_lt), (L8 bYN_lt), (by first | with_reducible assumption | with_reducible exact scN_lt _ | with_reducible exact L8 (scN_lt _) | with_reducible exact mlN_lt _ | with_reducible exact L8 (mlN_lt _) | with_reducible exact mulM_lt (modN_pos 2) | with_reducible exact L8 (mulM_lt (modN_pos 2)) | with_reducible exact L8 (addM_lt (modN_pos 2)) | with_reducible exact rem2_lt _ | with_reducible exact L8 (rem2_lt _) | with_reducible exact exK_lt _ | with_reducible exact joinN_lt0 (exK_lt _) | with_reducible exact onE_base | with_reducible exact nm_on onE_base | with_reducible exact (nm_lt _).1 | with_reducible exact (nm_lt _).2 | with_reducible exact sum5_size _ | with_reducible exact lit0 | (simp only [ByteArray.size_append, pubB_size, packB_size, exR_size, strOf_size, leB_length]; omega) | exact decide_eq_true (by omega) | exact decide_eq_false (by omega) | omega), (L8 (subM_lt (modN_pos _))), hy8, onE_base, (neg_onE hon), (bo_l (neg_onE hon)).1, (bo_l (neg_onE hon)).2, (bo_on onE_base (neg_onE hon)), h3s, hfin, trivial⟩ rfl rfl
          · have hu : (!decide (unpE p = 0)) = true := by rw [decide_eq_false e5]; rfl
            have hE : verE p m s = unpE p := by unfold verE; rw [decide_eq_true e1, decide_eq_true e2, Bool.and_self, cond_true, decide_eq_true e3, cond_true, decide_eq_true e4, cond_true]
            have hB : verB p m s = false := by unfold verB; rw [hE, decide_eq_false e5, Bool.false_and]
            rw [hE, hB]
            exact spec_run envE23 rfl (r24e p m s) ⟨hp, hs, hm, h3s, hz2, (by decide), hv2, hl8, (modN_lt _), rfl, hu, trivial⟩ rfl rfl
        · have hv2 : decide (leS (s.extract 32 s.size) < modN 2) = false := decide_eq_false e4
          have hE : verE p m s = 6 := by unfold verE; rw [decide_eq_true e1, decide_eq_true e2, Bool.and_self, cond_true, decide_eq_true e3, cond_true, decide_eq_false e4, cond_false]
          have hB : verB p m s = false := by unfold verB; rw [hE]; rfl
          rw [hE, hB]
          exact spec_run envE23 rfl (r24d p m s) ⟨hp, hs, hm, h3s, hz2, (by decide), hv2, hl8, (modN_lt _), rfl, trivial⟩ rfl rfl
      · have hnm : decide ((4096 : Int) < (m.size : Int)) = true := decide_eq_true (by omega)
        have hE : verE p m s = 2 := by unfold verE; rw [decide_eq_true e1, decide_eq_true e2, Bool.and_self, cond_true, decide_eq_false e3, cond_false]
        have hB : verB p m s = false := by unfold verB; rw [hE]; rfl
        rw [hE, hB]
        exact spec_run envE23 rfl (r24c p m s) ⟨hp, hs, hnm, trivial⟩ rfl rfl
    · have hns := no64 e2
      have hE : verE p m s = 1 := by unfold verE; rw [decide_eq_false e2, Bool.and_false, cond_false]
      have hB : verB p m s = false := by unfold verB; rw [hE]; rfl
      rw [hE, hB]
      exact spec_run envE23 rfl (r24b p m s) ⟨hp, hns, trivial⟩ rfl rfl
  · have hnp := no32 e1
    have hE : verE p m s = 1 := by unfold verE; rw [decide_eq_false e1, Bool.false_and, cond_false]
    have hB : verB p m s = false := by unfold verB; rw [hE]; rfl
    rw [hE, hB]
    exact spec_run envE23 rfl (r24a p m s) ⟨hnp, trivial⟩ rfl rfl
end Go.Ev.H5

namespace Go.Ev.H5
open Go Go.Proofs Go.RowKit
noncomputable def E17 : Env := { E0 with S := fun f t => match f with | 17 => memN t [9] | _ => false }
theorem envE17 : EnvOK E17 := ⟨mixed, envE0.fns, envE0.fms, envE0.lps, envE0.fbs⟩
theorem r17 (z b : Int) : callR E17 1000 17 [.one (.i z), .one (.i b)] [] = some ([(b % 18446744073709551616).toNat ≠ 0], .val (.one (.i (IntKind.i64.wrap (((z % 18446744073709551616).toNat % (b % 18446744073709551616).toNat : Nat) : Int))))) := by kernel_rfl
def fn17 (vs : List V1) : Option (List Prop × AV) :=
  match vs with
  | [.one (.i z), .one (.i b)] => some ([0 ≤ z ∧ z < 4611686018427387904, 0 < b ∧ b < 4611686018427387904], .val (.one (.i (z % b))))
  | _ => none
theorem ct17 : CTok ⟨17, fn17⟩ := by
  intro vs ob r h ho
  simp only [fn17] at h
  split at h
  · rename_i z b
    simp only [Option.some.injEq, Prod.mk.injEq] at h
    obtain ⟨rfl, rfl⟩ := h
    obtain ⟨⟨h1, h2⟩, ⟨h3, h4⟩, _⟩ := ho
    have := spec_run envE17 rfl (r17 z b) ⟨by omega, trivial⟩ rfl rfl
    have e1 : ((z % 18446744073709551616).toNat % (b % 18446744073709551616).toNat : Nat) = (z % b).toNat := by
      rw [Int.emod_eq_of_lt (a := z) h1 (by omega), Int.emod_eq_of_lt (a := b) (by omega) (by omega)]
      obtain ⟨n, rfl⟩ := Int.eq_ofNat_of_zero_le h1
      obtain ⟨k, rfl⟩ := Int.eq_ofNat_of_zero_le (Int.le_of_lt h3)
      rw [← Int.natCast_emod]
      rfl
    have h5 := Int.emod_nonneg z (show b ≠ 0 by omega)
    have h6 := Int.emod_lt_of_pos z h3
    rw [e1, wrap64_inI (show inI (((z % b).toNat : Nat) : Int) by unfold inI; omega), Int.toNat_of_nonneg h5] at this
    exact this
  · simp at h
noncomputable def fnVer (vs : List V1) : Option (List Prop × AV) := match vs with | [.one (.v (.string p)), .one (.v (.string m)), .one (.v (.string s))] => some ([], .tup [.one (.v (.bool (verB p m s))), .one (.i (verE p m s))]) | _ => none
theorem ct23 : CTok ⟨23, fnVer⟩ := by
  intro vs ob r h _
  simp only [fnVer] at h
  split at h
  · simp only [Option.some.injEq, Prod.mk.injEq] at h
    obtain ⟨_, rfl⟩ := h
    exact spec23g _ _ _
  · simp at h
theorem ct24 : CTok ⟨24, fnVer⟩ := by
  intro vs ob r h _
  simp only [fnVer] at h
  split at h
  · simp only [Option.some.injEq, Prod.mk.injEq] at h
    obtain ⟨_, rfl⟩ := h
    exact spec24g _ _ _
  · simp at h
noncomputable def LV (c : Cells) : List CT := ⟨23, fnVer⟩ :: ⟨24, fnVer⟩ :: ⟨17, fn17⟩ :: LZ c
theorem LV_ok (c : Cells) : AllCT (LV c) := ⟨ct23, ct24, ct17, LZ_ok c⟩
end Go.Ev.H5

namespace Go.Ev.H5
open Go Go.Proofs Go.RowKit
noncomputable def S4 : FuncId → Nat → Bool := fun f t => match f with | 4 => memN t [24, 27, 33, 2000034, 39, 2000049, 2000051, 54, 59, 61, 2000062, 68, 4000068, 75, 2000076, 82, 4000082, 85, 2000093, 95, 2000101, 103, 106, 108, 166, 170, 30] | 7 => memN t [47] | _ => false
noncomputable def E4e (c : Cells) : Env := mkE (LV c) S4
theorem envE4e (c : Cells) : EnvOK (E4e c) := envMk (LV_ok c) _
def T4 (len cap : Nat) (i : Int) : List AV := slots 173 [(0, sV' len cap), (2, bV false), (3, iV i)]
theorem wfT4 (c : Cells) (m len cap : Nat) (i : Int) : wfS (T4 len cap i) (MC c m) = true := wfC c m (by kernel_rfl)
end Go.Ev.H5

namespace Go.Ev.H5
open Go Go.Proofs Go.RowKit
noncomputable def vKey (c : Cells) (i : Nat) : ByteArray := kfit (sA c (0 + i * 9))
noncomputable def vM (c : Cells) (i : Nat) : ByteArray := sA c (0 + i * 9 + 1 + 1 + 1)
noncomputable def vAd (c : Cells) (i : Nat) : ByteArray := sA c (0 + i * 9 + 1 + 1)
def vNn (c : Cells) (i : Nat) : Nat := nU c (0 + i * 9 + 1 + 1 + 1 + 1)
noncomputable def vP (c : Cells) (i : Nat) : ByteArray := pubB (exK (vKey c i))
noncomputable def vG (c : Cells) (i : Nat) : ByteArray := signB (vKey c i) (vM c i)
def wr (n k : Nat) : Int := IntKind.i64.wrap ((n % k : Nat) : Int)
theorem wr_eq {n k : Nat} (hk : 0 < k) (h : k ≤ 100000) : wr n k = ((n % k : Nat) : Int) := by
  have := Nat.mod_lt n hk
  exact wrap64_inI (by unfold inI; omega)
def vpP (c : Cells) (i : Nat) : Int := ((i : Int) * 7 + wr (vNn c i) 32) % 32
def vpG (c : Cells) (i : Nat) : Int := wr (vNn c i) 64 % 64
noncomputable def flL (s : ByteArray) (q : Int) (b : Nat) : List Nat := (numsB s).set (0 + q.toNat * 1) ((numsB s).getD (0 + q.toNat * 1) 0 % 256 ^^^ 1 * 2 ^ (min b 8) % 256 % 256)
theorem flL_len (s : ByteArray) (q : Int) (b : Nat) : (flL s q b).length = s.size := by unfold flL; rw [List.length_set, numsB_length]
noncomputable def vPT (c : Cells) (i : Nat) : ByteArray := strOf (flL (vP c i) (vpP c i) (vNn c i % 8))
noncomputable def vGT (c : Cells) (i : Nat) : ByteArray := strOf (flL (vG c i) (vpG c i) (vNn c i % 7))
noncomputable def moreS (g : ByteArray) : ByteArray := loS g ++ strOf (leB 32 (addN (leS (hiS g)) (modN 2)))
noncomputable def vG2 (c : Cells) (i : Nat) : ByteArray := moreS (vG c i)
def x1 : ByteArray := ⟨#[1]⟩
def vN1 : ByteArray := x1 ++ zs 31
def vN63 : ByteArray := x1 ++ zs 63
theorem neq_bb (b : Bool) : (!(b == b)) = false := by cases b <;> rfl
theorem s4c (c : Cells) (len cap i : Nat) : runTo (E4e c) 1000 ((E4e c).S 4) (bodyOf Tryz.prog 4 4) (T4 len cap (i : Int)) (MC c len) [true, true, true] (T4 len cap ((i : Int) + 1)) 1 =
    some ([decide ((i : Int) < (len : Int)) = true, decide ((i : Int) < 1) = true, inL len i, LoadsAs Tryz.prog 27 (rowPs c shC len 0) (0 + i * 9) (.agg (fldPs c shC (0 + i * 9))), (sA c (0 + i * 9)).size ≤ 1000000, (sA c (0 + i * 9 + 1)).size ≤ 1000000, decide ((4096 : Int) < ((vM c i).size : Int)) = true, inI ((i : Int) + 1)], .normal, T4 len cap ((i : Int) + 1), MC c len) := by kernel_rfl
theorem s4a (c : Cells) (len cap i : Nat) : runTo (E4e c) 1000 ((E4e c).S 4) (bodyOf Tryz.prog 4 4) (T4 len cap (i : Int)) (MC c len) [true, true, false, false, false, false, false, false, false, false, false, false, false, false, false, false, false, false, false, false, false, false, false, false, false] (T4 len cap ((i : Int) + 1)) 1 =
    some ([decide ((i : Int) < (len : Int)) = true, decide ((i : Int) < 1) = true, inL len i, LoadsAs Tryz.prog 27 (rowPs c shC len 0) (0 + i * 9) (.agg (fldPs c shC (0 + i * 9))), (sA c (0 + i * 9)).size ≤ 1000000, (sA c (0 + i * 9 + 1)).size ≤ 1000000, decide ((4096 : Int) < ((vM c i).size : Int)) = false,
      (vKey c i).size ≤ 100000000000000, (vKey c i).size ≤ 100000000000000, (vM c i).size ≤ 10000000000, (vP c i).size ≤ 140737488355328, (vG c i).size ≤ 140737488355328, inI ((i : Int) * 7), inI ((i : Int) * 7 + wr (vNn c i) 32), 0 ≤ (i : Int) * 7 + wr (vNn c i) 32 ∧ (i : Int) * 7 + wr (vNn c i) 32 < 4611686018427387904, (0 : Int) < 32 ∧ (32 : Int) < 4611686018427387904,
      0 ≤ vpP c i ∧ vpP c i < ((vP c i).size : Int), 0 + (vpP c i).toNat * 1 < (numsB (vP c i)).length, 0 ≤ vpP c i ∧ vpP c i < ((vP c i).size : Int), 0 + (vpP c i).toNat * 1 < (numsB (vP c i)).length,
      0 ≤ wr (vNn c i) 64 ∧ wr (vNn c i) 64 < 4611686018427387904, (0 : Int) < 64 ∧ (64 : Int) < 4611686018427387904, 0 ≤ vpG c i ∧ vpG c i < ((vG c i).size : Int), 0 + (vpG c i).toNat * 1 < (numsB (vG c i)).length, 0 ≤ vpG c i ∧ vpG c i < ((vG c i).size : Int), 0 + (vpG c i).toNat * 1 < (numsB (vG c i)).length,
      (0 : Int) ≤ 32 ∧ (32 : Int) ≤ ((vG c i).size : Int), (hiS (vG c i)).size = 32, (0 : Int) ≤ 2 ∧ (2 : Int) < 4, leS (hiS (vG c i)) < 4294967296 ^ 8, modN 2 < 4294967296 ^ 8, 0 = 0 ∧ (vP c i).size = (flL (vP c i) (vpP c i) (vNn c i % 8)).length, (0 : Int) ≤ 31 ∧ (31 : Int) ≤ 1000000, x1.size + (zs 31).size ≤ 9223372036854775807,
      0 = 0 ∧ (vG c i).size = (flL (vG c i) (vpG c i) (vNn c i % 7)).length, (0 : Int) ≤ 32 ∧ (32 : Int) ≤ ((vG c i).size : Int), addN (leS (hiS (vG c i))) (modN 2) < 4294967296 ^ 8, (loS (vG c i)).size + (strOf (leB 32 (addN (leS (hiS (vG c i))) (modN 2)))).size ≤ 9223372036854775807, (0 : Int) ≤ 63 ∧ (63 : Int) ≤ 1000000, x1.size + (zs 63).size ≤ 9223372036854775807,
      (!decide (verE (vP c i) (vM c i) (vG c i) = verE (vP c i) (vM c i) (vG c i))) = false, (!(verB (vP c i) (vM c i) (vG c i) == verB (vP c i) (vM c i) (vG c i))) = false, (!decide (verE (vP c i) (vM c i) (vGT c i) = verE (vP c i) (vM c i) (vGT c i))) = false, (!(verB (vP c i) (vM c i) (vGT c i) == verB (vP c i) (vM c i) (vGT c i))) = false, (!decide (verE (vP c i) (vM c i) (vG2 c i) = verE (vP c i) (vM c i) (vG2 c i))) = false, (!(verB (vP c i) (vM c i) (vG2 c i) == verB (vP c i) (vM c i) (vG2 c i))) = false, (!decide (verE (vP c i) (vM c i) vN63 = verE (vP c i) (vM c i) vN63)) = false, (!(verB (vP c i) (vM c i) vN63 == verB (vP c i) (vM c i) vN63)) = false, (!decide (verE (vP c i) (vM c i) (vAd c i) = verE (vP c i) (vM c i) (vAd c i))) = false, (!(verB (vP c i) (vM c i) (vAd c i) == verB (vP c i) (vM c i) (vAd c i))) = false, (!decide (verE (vPT c i) (vM c i) (vG c i) = verE (vPT c i) (vM c i) (vG c i))) = false, (!(verB (vPT c i) (vM c i) (vG c i) == verB (vPT c i) (vM c i) (vG c i))) = false, (!decide (verE (vPT c i) (vM c i) (vGT c i) = verE (vPT c i) (vM c i) (vGT c i))) = false, (!(verB (vPT c i) (vM c i) (vGT c i) == verB (vPT c i) (vM c i) (vGT c i))) = false, (!decide (verE vN1 (vM c i) (vG c i) = verE vN1 (vM c i) (vG c i))) = false, (!(verB vN1 (vM c i) (vG c i) == verB vN1 (vM c i) (vG c i))) = false, (!decide (verE vN1 (vM c i) (vG2 c i) = verE vN1 (vM c i) (vG2 c i))) = false, (!(verB vN1 (vM c i) (vG2 c i) == verB vN1 (vM c i) (vG2 c i))) = false, (!decide (verE (vAd c i) (vM c i) (vG c i) = verE (vAd c i) (vM c i) (vG c i))) = false, (!(verB (vAd c i) (vM c i) (vG c i) == verB (vAd c i) (vM c i) (vG c i))) = false, (!decide (verE (vAd c i) (vM c i) vN63 = verE (vAd c i) (vM c i) vN63)) = false, (!(verB (vAd c i) (vM c i) vN63 == verB (vAd c i) (vM c i) vN63)) = false, inI ((i : Int) + 1)], .normal, T4 len cap ((i : Int) + 1), MC c len) := by kernel_rfl
theorem s4o (c : Cells) (len cap i : Nat) : runTo (E4e c) 1000 ((E4e c).S 4) (bodyOf Tryz.prog 4 4) (T4 len cap (i : Int)) (MC c len) [false] (T4 len cap (i : Int)) 1 = some ([decide ((i : Int) < (len : Int)) = false], .exit 0, T4 len cap (i : Int), MC c len) := by kernel_rfl
theorem s4p (c : Cells) (len cap i : Nat) : runTo (E4e c) 1000 ((E4e c).S 4) (bodyOf Tryz.prog 4 4) (T4 len cap (i : Int)) (MC c len) [true, false] (T4 len cap (i : Int)) 1 = some ([decide ((i : Int) < (len : Int)) = true, decide ((i : Int) < 1) = false], .exit 0, T4 len cap (i : Int), MC c len) := by kernel_rfl
theorem signB_size (s m : ByteArray) : (signB s m).size = 64 := by unfold signB; rw [ByteArray.size_append, pubB_size, strOf_size, leB_length]
theorem l4loop (c : Cells) (len cap : Nat) (hs : ∀ j, j < len → (sA c (0 + j * 9 + 0)).size ≤ 9000 ∧ (sA c (0 + j * 9 + 1)).size ≤ 9000 ∧ (sA c (0 + j * 9 + 3)).size ≤ 9000) : Goes Tryz.prog (.loop (bodyOf Tryz.prog 4 4)) (.exit 0) (T4 len cap ((0 : Nat) : Int)) (MC c len) (T4 len cap ((min len 1 : Nat) : Int)) (MC c len) := by
  refine loop_goes (N := min len 1) (k := 1) (T := fun i => T4 len cap (i : Int)) (M := fun _ => MC c len) (by simp) (fun _ _ => rfl) (fun i hi => ?_) ?_
  · obtain ⟨h1, h2, h3⟩ := hs i (by omega)
    have h1' : (sA c (0 + i * 9)).size ≤ 9000 := h1
    have h3' : (vM c i).size ≤ 9000 := h3
    have b1 : inL len i := by unfold inL; omega
    have hi' : i < len := by omega
    by_cases hm : (vM c i).size ≤ 4096
    · have hk : (vKey c i).size = 32 := kfit_size _
      have hP : (vP c i).size = 32 := pubB_size _
      have hG : (vG c i).size = 64 := signB_size _ _
      have w1 : wr (vNn c i) 32 = ((vNn c i % 32 : Nat) : Int) := wr_eq (by decide) (by decide)
      have w2 : wr (vNn c i) 64 = ((vNn c i % 64 : Nat) : Int) := wr_eq (by decide) (by decide)
      have p1 : 0 ≤ vpP c i ∧ vpP c i < 32 := by unfold vpP; omega
      have p2 : 0 ≤ vpG c i ∧ vpG c i < 64 := by unfold vpG; omega
      have l8 : leS (hiS (vG c i)) < 4294967296 ^ 8 := leS_lt8 (hiS_size hG)
      have q1 : 0 + (vpP c i).toNat * 1 < (numsB (vP c i)).length := by rw [numsB_length]; omega
      have q2 : 0 + (vpG c i).toNat * 1 < (numsB (vG c i)).length := by rw [numsB_length]; omega
      have z31 : x1.size + (zs 31).size ≤ 9223372036854775807 := by rw [zs_size]; decide
      have z63 : x1.size + (zs 63).size ≤ 9223372036854775807 := by rw [zs_size]; decide
      have hL : (loS (vG c i)).size = 32 := loS_size hG
      exact Runs.goes (envE4e c) ⟨_, _, s4a c len cap i, ⟨decide_eq_true (by omega), decide_eq_true (by omega), b1, ld38 hi', by omega, by omega, decide_eq_false (by omega), by omega, by omega, by omega, by omega, by omega, by unfold inI; omega, by unfold inI; omega, by omega, by decide, by omega, q1, by omega, q1, by omega, by decide, by omega, q2, by omega, q2, by omega, hiS_size hG, by decide, l8, modN_lt 2, ⟨rfl, (flL_len _ _ _).symm⟩, by decide, z31,
        ⟨rfl, (flL_len _ _ _).symm⟩, by omega, addN_lt _ _, by rw [strOf_size, leB_length]; omega, by decide, z63, neq_ii _, neq_bb _, neq_ii _, neq_bb _, neq_ii _, neq_bb _, neq_ii _, neq_bb _, neq_ii _, neq_bb _, neq_ii _, neq_bb _, neq_ii _, neq_bb _, neq_ii _, neq_bb _, neq_ii _, neq_bb _, neq_ii _, neq_bb _, neq_ii _, neq_bb _, by unfold inI; omega, trivial⟩, wfT4 _ _ _ _ _⟩
    · exact Runs.goes (envE4e c) ⟨_, _, s4c c len cap i, ⟨decide_eq_true (by omega), decide_eq_true (by omega), b1, ld38 hi', by omega, by omega, decide_eq_true (by omega), by unfold inI; omega, trivial⟩, wfT4 _ _ _ _ _⟩
  · by_cases h : len ≤ 1
    · rw [show min len 1 = len by omega]
      exact Runs.goes (envE4e c) ⟨_, _, s4o c len cap len, ⟨decide_eq_false (by omega), trivial⟩, wfT4 _ _ _ _ _⟩
    · rw [show min len 1 = 1 by omega]
      exact Runs.goes (envE4e c) ⟨_, _, s4p c len cap 1, ⟨decide_eq_true (by omega), decide_eq_false (by omega), trivial⟩, wfT4 _ _ _ _ _⟩
end Go.Ev.H5

namespace Go.Ev.H5
open Go Go.Proofs Go.RowKit
noncomputable def S6 : FuncId → Nat → Bool := fun f t => match f with | 6 => memN t [19, 22, 28, 2000029, 34, 39, 57, 61, 2000065, 74, 2000075, 77, 4000077, 2000081, 2000089, 97, 101, 25] | 7 => memN t [47] | _ => false
noncomputable def E6e (c : Cells) : Env := mkE (LV c) S6
theorem envE6e (c : Cells) : EnvOK (E6e c) := envMk (LV_ok c) _
def T6 (len cap : Nat) (i : Int) : List AV := slots 104 [(0, sV' len cap), (2, bV false), (3, iV i)]
theorem wfT6 (c : Cells) (m len cap : Nat) (i : Int) : wfS (T6 len cap i) (MC c m) = true := wfC c m (by kernel_rfl)
end Go.Ev.H5

namespace Go.Ev.H5
open Go Go.Proofs Go.RowKit
noncomputable def tpM (c : Cells) (i : Nat) : Int := wr (vNn c i) 1000 % ((vM c i).size : Int)
noncomputable def tlM (c : Cells) (i : Nat) : List Nat := (numsB (vM c i)).set (0 + (tpM c i).toNat * 1) ((numsB (vM c i)).getD (0 + (tpM c i).toNat * 1) 0 % 256 ^^^ 1 % 256)
theorem tlM_len (c : Cells) (i : Nat) : (tlM c i).length = (vM c i).size := by unfold tlM; rw [List.length_set, numsB_length]
noncomputable def vMT (c : Cells) (i : Nat) : ByteArray := strOf (tlM c i)
theorem s6c (c : Cells) (len cap i : Nat) : runTo (E6e c) 1000 ((E6e c).S 6) (bodyOf Tryz.prog 6 4) (T6 len cap (i : Int)) (MC c len) [true, true, true] (T6 len cap ((i : Int) + 1)) 1 =
    some ([decide ((i : Int) < (len : Int)) = true, decide ((i : Int) < 1) = true, inL len i, LoadsAs Tryz.prog 27 (rowPs c shC len 0) (0 + i * 9) (.agg (fldPs c shC (0 + i * 9))), (sA c (0 + i * 9)).size ≤ 1000000, (sA c (0 + i * 9 + 1)).size ≤ 1000000, decide (((vM c i).size : Int) = 0) = true, inI ((i : Int) + 1)], .normal, T6 len cap ((i : Int) + 1), MC c len) := by kernel_rfl
theorem s6d (c : Cells) (len cap i : Nat) : runTo (E6e c) 1000 ((E6e c).S 6) (bodyOf Tryz.prog 6 4) (T6 len cap (i : Int)) (MC c len) [true, true, false, true] (T6 len cap ((i : Int) + 1)) 1 =
    some ([decide ((i : Int) < (len : Int)) = true, decide ((i : Int) < 1) = true, inL len i, LoadsAs Tryz.prog 27 (rowPs c shC len 0) (0 + i * 9) (.agg (fldPs c shC (0 + i * 9))), (sA c (0 + i * 9)).size ≤ 1000000, (sA c (0 + i * 9 + 1)).size ≤ 1000000, decide (((vM c i).size : Int) = 0) = false, decide ((500 : Int) < ((vM c i).size : Int)) = true, inI ((i : Int) + 1)], .normal, T6 len cap ((i : Int) + 1), MC c len) := by kernel_rfl
theorem s6a (c : Cells) (len cap i : Nat) : runTo (E6e c) 1000 ((E6e c).S 6) (bodyOf Tryz.prog 6 4) (T6 len cap (i : Int)) (MC c len) [true, true, false, false, false, false, false, false] (T6 len cap ((i : Int) + 1)) 1 =
    some ([decide ((i : Int) < (len : Int)) = true, decide ((i : Int) < 1) = true, inL len i, LoadsAs Tryz.prog 27 (rowPs c shC len 0) (0 + i * 9) (.agg (fldPs c shC (0 + i * 9))), (sA c (0 + i * 9)).size ≤ 1000000, (sA c (0 + i * 9 + 1)).size ≤ 1000000, decide (((vM c i).size : Int) = 0) = false, decide ((500 : Int) < ((vM c i).size : Int)) = false, (!decide (sigE (vKey c i) (vM c i) = 0)) = false, (!decide (expE (vKey c i) = 0)) = false, (vM c i).size ≤ 140737488355328, 0 ≤ wr (vNn c i) 1000 ∧ wr (vNn c i) 1000 < 4611686018427387904, 0 < ((vM c i).size : Int) ∧ ((vM c i).size : Int) < 4611686018427387904,
      0 ≤ tpM c i ∧ tpM c i < ((vM c i).size : Int), 0 + (tpM c i).toNat * 1 < (numsB (vM c i)).length, 0 ≤ tpM c i ∧ tpM c i < ((vM c i).size : Int), 0 + (tpM c i).toNat * 1 < (numsB (vM c i)).length, 0 = 0 ∧ (vM c i).size = (tlM c i).length, 0 = 0 ∧ (vM c i).size = (tlM c i).length,
      (!decide (verE (pubZ (vKey c i)) (vMT c i) (sigZ (vKey c i) (vM c i)) = verE (pubZ (vKey c i)) (vMT c i) (sigZ (vKey c i) (vM c i)))) = false, (!(verB (pubZ (vKey c i)) (vMT c i) (sigZ (vKey c i) (vM c i)) == verB (pubZ (vKey c i)) (vMT c i) (sigZ (vKey c i) (vM c i)))) = false, inI ((i : Int) + 1)], .normal, T6 len cap ((i : Int) + 1), MC c len) := by kernel_rfl
theorem s6o (c : Cells) (len cap i : Nat) : runTo (E6e c) 1000 ((E6e c).S 6) (bodyOf Tryz.prog 6 4) (T6 len cap (i : Int)) (MC c len) [false] (T6 len cap (i : Int)) 1 = some ([decide ((i : Int) < (len : Int)) = false], .exit 0, T6 len cap (i : Int), MC c len) := by kernel_rfl
theorem s6p (c : Cells) (len cap i : Nat) : runTo (E6e c) 1000 ((E6e c).S 6) (bodyOf Tryz.prog 6 4) (T6 len cap (i : Int)) (MC c len) [true, false] (T6 len cap (i : Int)) 1 = some ([decide ((i : Int) < (len : Int)) = true, decide ((i : Int) < 1) = false], .exit 0, T6 len cap (i : Int), MC c len) := by kernel_rfl
theorem l6loop (c : Cells) (len cap : Nat) (hs : ∀ j, j < len → (sA c (0 + j * 9 + 0)).size ≤ 9000 ∧ (sA c (0 + j * 9 + 1)).size ≤ 9000 ∧ (sA c (0 + j * 9 + 3)).size ≤ 9000) : Goes Tryz.prog (.loop (bodyOf Tryz.prog 6 4)) (.exit 0) (T6 len cap ((0 : Nat) : Int)) (MC c len) (T6 len cap ((min len 1 : Nat) : Int)) (MC c len) := by
  refine loop_goes (N := min len 1) (k := 1) (T := fun i => T6 len cap (i : Int)) (M := fun _ => MC c len) (by simp) (fun _ _ => rfl) (fun i hi => ?_) ?_
  · obtain ⟨h1, h2, h3⟩ := hs i (by omega)
    have h1' : (sA c (0 + i * 9)).size ≤ 9000 := h1
    have h3' : (vM c i).size ≤ 9000 := h3
    have b1 : inL len i := by unfold inL; omega
    have hi' : i < len := by omega
    by_cases hz : (vM c i).size = 0
    · exact Runs.goes (envE6e c) ⟨_, _, s6c c len cap i, ⟨decide_eq_true (by omega), decide_eq_true (by omega), b1, ld38 hi', by omega, by omega, decide_eq_true (by omega), by unfold inI; omega, trivial⟩, wfT6 _ _ _ _ _⟩
    · by_cases hm : (vM c i).size ≤ 500
      · have hk : (vKey c i).size = 32 := kfit_size _
        have w1 : wr (vNn c i) 1000 = ((vNn c i % 1000 : Nat) : Int) := wr_eq (by decide) (by decide)
        have p0 := Int.emod_nonneg (wr (vNn c i) 1000) (show ((vM c i).size : Int) ≠ 0 by omega)
        have p1 := Int.emod_lt_of_pos (wr (vNn c i) 1000) (show (0 : Int) < ((vM c i).size : Int) by omega)
        have p2 : 0 ≤ tpM c i ∧ tpM c i < ((vM c i).size : Int) := ⟨p0, p1⟩
        have q1 : 0 + (tpM c i).toNat * 1 < (numsB (vM c i)).length := by rw [numsB_length]; omega
        have e1 : sigE (vKey c i) (vM c i) = 0 := by unfold sigE; rw [decide_eq_true hk, cond_true, decide_eq_true (show (vM c i).size ≤ 4096 by omega), cond_true]
        have e2 : expE (vKey c i) = 0 := by unfold expE; rw [decide_eq_true hk, cond_true]
        exact Runs.goes (envE6e c) ⟨_, _, s6a c len cap i, ⟨decide_eq_true (by omega), decide_eq_true (by omega), b1, ld38 hi', by omega, by omega, decide_eq_false (by omega), decide_eq_false (by omega), by rw [e1]; rfl, by rw [e2]; rfl, by omega, by omega, by omega, p2, q1, p2, q1, ⟨rfl, (tlM_len c i).symm⟩, ⟨rfl, (tlM_len c i).symm⟩, neq_ii _, neq_bb _, by unfold inI; omega, trivial⟩, wfT6 _ _ _ _ _⟩
      · exact Runs.goes (envE6e c) ⟨_, _, s6d c len cap i, ⟨decide_eq_true (by omega), decide_eq_true (by omega), b1, ld38 hi', by omega, by omega, decide_eq_false (by omega), decide_eq_true (by omega), by unfold inI; omega, trivial⟩, wfT6 _ _ _ _ _⟩
  · by_cases h : len ≤ 1
    · rw [show min len 1 = len by omega]
      exact Runs.goes (envE6e c) ⟨_, _, s6o c len cap len, ⟨decide_eq_false (by omega), trivial⟩, wfT6 _ _ _ _ _⟩
    · rw [show min len 1 = 1 by omega]
      exact Runs.goes (envE6e c) ⟨_, _, s6p c len cap 1, ⟨decide_eq_true (by omega), decide_eq_false (by omega), trivial⟩, wfT6 _ _ _ _ _⟩
end Go.Ev.H5

namespace Go.Ev.H5
open Go Go.Proofs Go.RowKit
noncomputable def EH6 (c : Cells) (len cap : Nat) : Env := addLp (E6e c) 3 (bodyOf Tryz.prog 7 3) (sumH c len cap)
theorem envEH6 (c : Cells) (len cap : Nat) (hB : ∀ j, j < len * 9 → (sA c j).size ≤ BB) (hl : len ≤ maxLen) : EnvOK (EH6 c len cap) := envAddLp (envE6e c) (sumH_ok c len cap hB hl)
noncomputable def EE6 (c : Cells) (len cap : Nat) : Env := addLp (EH6 c len cap) 4 (bodyOf Tryz.prog 6 4) (sumC (T6 len cap ((0 : Nat) : Int)) (MC c len) (T6 len cap ((min len 1 : Nat) : Int)) (MC c len) (.exit 0))
theorem envEE6 (c : Cells) (len cap : Nat) (hB : ∀ j, j < len * 9 → (sA c j).size ≤ BB) (hl : len ≤ maxLen) (hs : ∀ j, j < len → (sA c (0 + j * 9 + 0)).size ≤ 9000 ∧ (sA c (0 + j * 9 + 1)).size ≤ 9000 ∧ (sA c (0 + j * 9 + 3)).size ≤ 9000) : EnvOK (EE6 c len cap) := envAddLp (envEH6 c len cap hB hl) (sumC_ok rfl (l6loop c len cap hs))
theorem l6hv (c : Cells) (len cap : Nat) : dropM (callBy (EH6 c len cap) (evalC (EH6 c len cap) 1000) 6 [V1.one (Atom.sl 0 0 len cap)] [rowB c shC len 27] [true]) =
    some ([bodyOf Tryz.prog 7 3 = bodyOf Tryz.prog 7 3, (TH len cap (len : Int) ((0 : Nat) : Int), MC c len) = (TH len cap (len : Int) ((0 : Nat) : Int), MC c len), wfS (TH len cap (len : Int) ((0 : Nat) : Int)) (MC c len) = true, decide ((9000 : Int) < hv c len 0 (len : Int)) = true], bV true) := by kernel_rfl
theorem l6ok (c : Cells) (len cap : Nat) : dropM (callBy (EE6 c len cap) (evalC (EE6 c len cap) 1000) 6 [V1.one (Atom.sl 0 0 len cap)] [rowB c shC len 27] [false]) =
    some ([bodyOf Tryz.prog 7 3 = bodyOf Tryz.prog 7 3, (TH len cap (len : Int) ((0 : Nat) : Int), MC c len) = (TH len cap (len : Int) ((0 : Nat) : Int), MC c len), wfS (TH len cap (len : Int) ((0 : Nat) : Int)) (MC c len) = true, decide ((9000 : Int) < hv c len 0 (len : Int)) = false, bodyOf Tryz.prog 6 4 = bodyOf Tryz.prog 6 4, (T6 len cap ((0 : Nat) : Int), MC c len) = (T6 len cap ((0 : Nat) : Int), MC c len), wfS (T6 len cap ((0 : Nat) : Int)) (MC c len) = true], bV true) := by kernel_rfl
theorem l6nil (c : Cells) : dropM (callBy (E6e c) (evalC (E6e c) 1000) 6 [V1.one (Atom.v (Value.slice none 0 0))] [] [false, false]) =
    some ([decide ((9000 : Int) < ((0 : Nat) : Int)) = false, decide ((0 : Int) < ((0 : Nat) : Int)) = false], bV true) := by kernel_rfl
theorem l6nilc (w : World) : Calls Tryz.prog 6 #[.slice none 0 0] w (Trues w) := law_nilD (envE6e c0) (l6nil c0) ⟨by decide, by decide, trivial⟩ w
set_option maxRecDepth 100000 in
theorem law6 {H : Type} {enc : TypeId × Value → H} {r : Reach} {W : World} {base : Nat} {v : Value} {d : DataW H} {ps : List MemPlace} (hval : Value.okWide Tryz.prog W r base 22 v) (h : DataW.Trod enc Tryz.prog W 0 (fun _ => true) true 22 v d ps) (hwt : ∀ n ∈ d.weights Tryz.prog 22, n ≤ BB) :
    Calls Tryz.prog 6 #[v] W (Trues W) := by
  refine rows_calls_sized shC (B := BB) (Q := Trues) u23 k38 s38 l6nilc ?_ hval h hwt
  intro c len cap hlc hcap ho hB w φ hmr
  have hl : len ≤ maxLen := by omega
  have hB' : ∀ j, j < len * 9 → (sA c j).size ≤ BB := hB
  by_cases hh : 9000 < hv c len 0 (len : Int)
  · exact law_runD (envEH6 c len cap hB' hl) (l6hv c len cap) ⟨rfl, rfl, wfTH _ _ _ _ _ _, decide_eq_true hh, trivial⟩ hmr
  · have hs := (hv_small c len 0 (len : Int) (by omega) (by omega)).2
    refine law_runD (envEE6 c len cap hB' hl ?_) (l6ok c len cap) ⟨rfl, rfl, wfTH _ _ _ _ _ _, decide_eq_false hh, rfl, rfl, wfT6 _ _ _ _ _, trivial⟩ hmr
    intro j hj
    obtain ⟨h1, h2, h3, h4⟩ := hs j (Nat.zero_le _) (by omega)
    exact ⟨h1, h2, h4⟩
end Go.Ev.H5

namespace Go.Proofs.YtgkelmendkdocaaGreat.Laws
open Go Go.Ev Go.Ev.H5 Go.RowKit Go.ChangeShapes Go.WideShapes Go.ChangeAt

theorem u4 : Tryz.prog.underlying 4 = some .bool := by kernel_rfl
theorem laid : laidOutB Tryz.prog = true := by kernel_rfl
theorem rd23 : Tryz.prog.readableRec 22 = true := by kernel_rfl
theorem row23 : (22 : Nat) < Tryz.prog.types.size := of_decide_eq_true (by kernel_rfl)

section
variable {H : Type} {enc : TypeId × Value → H} {P : Program}

/-- 'post' of a law of one parameter: it returns true and has turned nothing that was there. -/
theorem post_true {fn : Func} {s : ChangeSpec} {again : Bool} (hag : again = false) {W W' : World} {v : Value} {d : DataW H} {gs : List (DataW H)} {before : List MemPlace} {t tb : TypeId}
    (hp : fn.params = #[t]) (hr : fn.resultTypes = #[tb]) (htb : P.underlying tb = some .bool) (hl : laidOutB P = true) (hrd : P.readableRec t = true) (hrow : t < P.types.size)
    (hvars : s.vars = []) (hfn : s.fn H [d] = { results := [.lit (.bool true)], args := [d] })
    (hW : DataW.Whole enc P fn.params.toList s.vars false W #[v].toList [d] gs before) (hb : Below W.heap.size W W') :
    s.post enc P fn false true false again W #[v] (.bool true) W' := by
  have hW0 := hW
  obtain ⟨p, q, hA, hV, rfl, hfz, hnd⟩ := hW
  rw [hvars] at hV
  obtain ⟨rfl, rfl⟩ := trodVars_none hV
  rw [hp] at hA
  obtain ⟨v', d', e1, e2, hd⟩ := trodAll_one (args := #[v]) hA
  simp only [List.cons.injEq, and_true] at e2
  subst e2
  obtain rfl : v = v' := by simpa using e1
  refine ⟨[d], [], p ++ [], [], p, [], hW0, ?_, ?_, ?_, hb.frame _, ?_⟩
  · rw [hr, List.append_nil, hfn]
    exact trodAll_mk1 (shut_bool htb true)
  · rw [hp, List.append_nil, hfn]
    refine trodAll_mk1 (Below.trod hl hrd hrow hd hb ?_)
    intro x hx
    have := hW0.lt x (by simpa using hx)
    exact this
  · rw [List.append_nil, hfn, hvars]
    trivial
  · intro h; rw [hag] at h; cases h
end
theorem own : ownKnob Tryz.prog.godebug = none := by kernel_rfl

set_option maxRecDepth 100000 in
theorem lifted6 (os : Os) (started : os.Started) (H : Type) (enc : TypeId × Value → H) :
    ReturnsInHanded {} Tryz.checked os 6 .any (Rows.edsigTurnedSpec.pre6 enc Tryz.prog Tryz.f6 Rows.edsigTurnedRow.domain false) (Rows.edsigTurnedSpec.post enc Tryz.prog Tryz.f6 false true false false) := by
  refine returnsInHanded_of_change_sized (C := Tryz.checked) own started (by kernel_rfl) Tryz.func6
    (ChangeSpec.witness6 (enc := enc) (C := Tryz.checked) false ⟨#[], #[.slice none 0 0], []⟩ 8 (by kernel_rfl) (by kernel_rfl) (by kernel_rfl) (by kernel_rfl)) ?_
  intro W base args ds gs before hval0 hW _ hsz0 _
  have hsz : (DataW.weightsEach Tryz.prog (Tryz.f6.params.toList ++ Rows.edsigTurnedSpec.plain.varTypes Tryz.prog) (ds ++ gs)).all (· ≤ reachBytes) = true := hsz0
  clear hsz0
  have hval : ∀ (j : Nat) t v, Tryz.f6.params[j]? = some t → args[j]? = some v → Value.okWide Tryz.prog W .any base t v := hval0
  have hW' := hW
  obtain ⟨p, q, hA0, hV, hbef, hfz, hnd⟩ := hW
  have hp : Tryz.f6.params = #[22] := by kernel_rfl
  have hA : DataW.TrodAll enc Tryz.prog W 0 (fun _ => true) true Tryz.f6.params.toList args.toList ds p := hA0
  rw [hp] at hA hval
  obtain ⟨v0, d0, rfl, rfl, h0⟩ := trodAll_one hA
  obtain ⟨rfl, rfl⟩ := trodVars_none hV
  refine (law6 (hval 0 22 v0 rfl rfl) h0 (fun n hn => by simpa using List.all_eq_true.1 hsz n (DataW.weights_mem_each (j := 0) (t := 22) (by rw [hp]; rfl) rfl n hn))).mono ?_
  rintro e W' ⟨rfl, hb⟩
  exact ⟨_, rfl, post_true (tb := 4) rfl hp (by kernel_rfl) u4 laid rd23 row23 rfl rfl hW' hb⟩

theorem holds6 : Rows.EdsigTurnedSaid :=
  OpenClaim.holds_of_wide 6 Tryz.f6 rfl rfl rfl rfl rfl rfl rfl ⟨rfl, rfl, rfl, rfl, rfl⟩ rfl rfl rfl rfl rfl (by kernel_rfl) Tryz.func6 (by kernel_rfl)
    (of_decide_eq_true (by kernel_rfl)) (by unfold Func.isWrapper; first | (rw [if_pos (by decide +kernel)]; kernel_rfl) | (rw [if_neg (by decide +kernel)]; exact ⟨rfl, rfl⟩))
    (fun os started H enc _ => lifted6 os started H enc)

end Go.Proofs.YtgkelmendkdocaaGreat.Laws

namespace Go.Proofs.YtgkelmendkdocaaGreat
open Go
theorem edsigTurned_holds : Rows.EdsigTurnedSaid := Laws.holds6
end Go.Proofs.YtgkelmendkdocaaGreat

