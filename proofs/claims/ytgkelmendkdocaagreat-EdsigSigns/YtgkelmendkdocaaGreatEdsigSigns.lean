/- Ed25519: what the program and the page come to, and the law; The law, of every input: EdsigSigns holds of every argument -/
import Derived.Test.YtgkelmendkdocaaGreatPartR
import Derived.Test.YtgkelmendkdocaaGreatPartK
import Derived.Test.YtgkelmendkdocaaGreatPartN
import Derived.JoinedOf
import Derived.SizedLaws
namespace Go.Ev.H5
open Go Go.Proofs Go.RowKit
def ldC (t : TypeId) (g : Nat → V1) : CT := ⟨3000000 + t, fun vs => match vs with | [.one (.ptr _ off)] => some ([False], .val (g off)) | _ => none⟩
theorem ldC_ok (t : TypeId) (g : Nat → V1) : CTok (ldC t g) := by
  intro vs ob r h ho
  simp only [ldC] at h
  split at h
  · simp only [Option.some.injEq, Prod.mk.injEq] at h
    obtain ⟨rfl, _⟩ := h
    exact ho.1.elim
  · simp at h
def shC : List SK := [.s, .s, .s, .s, .u32, .u32, .u32, .u32, .u32]
theorem u23 : Tryz.prog.underlying 22 = some (.slice 27) := by kernel_rfl
theorem k38 : kindsT Tryz.prog 20 27 = some (shKs shC) := by kernel_rfl
theorem s38 : sizeA Tryz.prog 27 = some (shSz shC) := by kernel_rfl
def MC (c : Cells) (len : Nat) : List Blk := [rowB c shC len 27]
theorem wfC {n : Nat} {l : List (Nat × AV)} (c : Cells) (m : Nat) (h : tmsWf 1 (slots n l) = true) : wfS (slots n l) (MC c m) = true := wfS_of (by
  intro b hb
  simp only [MC, List.mem_cons, List.not_mem_nil, or_false] at hb
  rcases hb with rfl
  exact rowB_free _ _ _ _) h
noncomputable def EH (c : Cells) : Env := mkE [ldC 9 fun off => sS (sA c off)] fun f t => match f with | 7 => memN t [10, 13, 20, 27, 34, 41, 24, 31, 38, 45, 16, 2000022, 2000029, 2000036, 2000043] | _ => false
theorem envEH (c : Cells) : EnvOK (EH c) := envMk (show AllCT [ldC 9 fun off => sS (sA c off)] from ⟨ldC_ok _ _, trivial⟩) _
def TH (len cap : Nat) (n : Int) (i : Int) : List AV := slots 48 [(0, sV' len cap), (2, bV false), (3, iV n), (4, iV i)]
def THE (len cap : Nat) (n : Int) : List AV := slots 48 [(0, sV' len cap), (2, bV false), (3, iV n)]
theorem wfTH (c : Cells) (m len cap : Nat) (n i : Int) : wfS (TH len cap n i) (MC c m) = true := wfC c m (by kernel_rfl)
theorem wfTHE (c : Cells) (m len cap : Nat) (n : Int) : wfS (THE len cap n) (MC c m) = true := wfC c m (by kernel_rfl)
theorem ag9 : isAggA Tryz.prog 9 = some false := by kernel_rfl
theorem ag38 : isAggA Tryz.prog 27 = some true := by kernel_rfl
theorem ld9 {c : Cells} {len i : Nat} (f : Nat) (hf : f < 4) (hi : i < len) : LoadsAs Tryz.prog 9 (rowPs c shC len 0) (0 + i * 9 + f) (.one (.v (.string (sA c (0 + i * 9 + f))))) := by
  have h9 : shSz shC = 9 := rfl
  match f, hf with
  | 0, _ => exact loads_fld (sh := shC) (i := i) [] .s [.s, .s, .s, .u32, .u32, .u32, .u32, .u32] rfl ag9 hi (by rw [h9]; simp [shSz]) rfl
  | 1, _ => exact loads_fld (sh := shC) (i := i) [.s] .s [.s, .s, .u32, .u32, .u32, .u32, .u32] rfl ag9 hi (by rw [h9]; simp [shSz, SK.sz]) rfl
  | 2, _ => exact loads_fld (sh := shC) (i := i) [.s, .s] .s [.s, .u32, .u32, .u32, .u32, .u32] rfl ag9 hi (by rw [h9]; simp [shSz, SK.sz]) rfl
  | 3, _ => exact loads_fld (sh := shC) (i := i) [.s, .s, .s] .s [.u32, .u32, .u32, .u32, .u32] rfl ag9 hi (by rw [h9]; simp [shSz, SK.sz]) rfl
theorem ld38 {c : Cells} {len i : Nat} (hi : i < len) : LoadsAs Tryz.prog 27 (rowPs c shC len 0) (0 + i * 9) (.agg (fldPs c shC (0 + i * 9))) :=
  loads_row (sh := shC) (i := i) [] shC [] rfl ag38 s38 hi (by show 0 + i * 9 = i * 9 + 0; omega)
def hn (c : Cells) (n : Int) (i : Nat) : Int := n + ((sA c (0 + i * 9 + 0)).size : Int) + ((sA c (0 + i * 9 + 1)).size : Int) + ((sA c (0 + i * 9 + 2)).size : Int) + ((sA c (0 + i * 9 + 3)).size : Int)
def hv (c : Cells) : Nat → Nat → Int → Int
  | 0, _, n => n
  | k + 1, i, n => bif decide (n < 1048576) then hv c k (i + 1) (hn c n i) else n
theorem hvA (c : Cells) (len : Nat) (cap : Nat) (n : Int) (i : Nat) : runTo (EH c) 1000 (Env.S (EH c) 7) (bodyOf Tryz.prog 7 3) (TH len cap n (↑i : Int)) (MC c len) [true, true] (TH len cap (hn c n i) ((↑i : Int) + (1 : Int))) 1 =
    some ([decide ((↑i : Int) < (↑len : Int)) = true, decide (n < (1048576 : Int)) = true, (0 : Int) ≤ (↑i : Int) ∧ (↑i : Int) < (↑len : Int), LoadsAs Tryz.prog 9 (rowPs c shC len 0) (0 + i * 9 + 0) (V1.one (Atom.v (Value.string (sA c (0 + i * 9 + 0))))), inI (n + (↑(ByteArray.size (sA c (0 + i * 9 + 0))) : Int)), (0 : Int) ≤ (↑i : Int) ∧ (↑i : Int) < (↑len : Int), LoadsAs Tryz.prog 9 (rowPs c shC len 0) (0 + i * 9 + 1) (V1.one (Atom.v (Value.string (sA c (0 + i * 9 + 1))))), inI (n + (↑(ByteArray.size (sA c (0 + i * 9 + 0))) : Int) + (↑(ByteArray.size (sA c (0 + i * 9 + 1))) : Int)), (0 : Int) ≤ (↑i : Int) ∧ (↑i : Int) < (↑len : Int), LoadsAs Tryz.prog 9 (rowPs c shC len 0) (0 + i * 9 + 2) (V1.one (Atom.v (Value.string (sA c (0 + i * 9 + 2))))), inI (n + (↑(ByteArray.size (sA c (0 + i * 9 + 0))) : Int) + (↑(ByteArray.size (sA c (0 + i * 9 + 1))) : Int) + (↑(ByteArray.size (sA c (0 + i * 9 + 2))) : Int)), (0 : Int) ≤ (↑i : Int) ∧ (↑i : Int) < (↑len : Int), LoadsAs Tryz.prog 9 (rowPs c shC len 0) (0 + i * 9 + 3) (V1.one (Atom.v (Value.string (sA c (0 + i * 9 + 3))))), inI (n + (↑(ByteArray.size (sA c (0 + i * 9 + 0))) : Int) + (↑(ByteArray.size (sA c (0 + i * 9 + 1))) : Int) + (↑(ByteArray.size (sA c (0 + i * 9 + 2))) : Int) + (↑(ByteArray.size (sA c (0 + i * 9 + 3))) : Int)), inI ((↑i : Int) + (1 : Int))], .normal, TH len cap (hn c n i) ((i : Int) + 1), MC c len) := by kernel_rfl
theorem hvB (c : Cells) (len : Nat) (cap : Nat) (n : Int) (i : Nat) : runTo (EH c) 1000 (Env.S (EH c) 7) (bodyOf Tryz.prog 7 3) (TH len cap n (↑i : Int)) (MC c len) [true, false] (THE len cap n) 1 =
    some ([decide ((↑i : Int) < (↑len : Int)) = true, decide (n < (1048576 : Int)) = false], .exit 0, THE len cap n, MC c len) := by kernel_rfl
theorem hvC (c : Cells) (len : Nat) (cap : Nat) (n : Int) (i : Nat) : runTo (EH c) 1000 (Env.S (EH c) 7) (bodyOf Tryz.prog 7 3) (TH len cap n (↑i : Int)) (MC c len) [false] (THE len cap n) 1 =
    some ([decide ((↑i : Int) < (↑len : Int)) = false], .exit 0, THE len cap n, MC c len) := by kernel_rfl
abbrev BB : Nat := reachBytes
theorem BB_lt : BB < 140737488355328 := by decide
theorem at_lt {len i f : Nat} (hi : i < len) (hf : f < 9) : 0 + i * 9 + f < len * 9 := by omega
theorem hn_le (c : Cells) (n : Int) (i : Nat) : n ≤ hn c n i := by unfold hn; omega
theorem heavyG (c : Cells) (len cap : Nat) (hB : ∀ j, j < len * 9 → (sA c j).size ≤ BB) (hl : len ≤ maxLen) : ∀ (k i : Nat) (n : Int), i + k = len → 0 ≤ n → GoesN Tryz.prog (bodyOf Tryz.prog 7 3) (k + 1) (.exit 0) (TH len cap n (i : Int)) (MC c len) (THE len cap (hv c k i n)) (MC c len)
  | 0, i, n, hk, _ => GoesN.out (by simp) (Runs.goes (envEH c) ⟨_, _, hvC c len cap n i, ⟨decide_eq_false (by omega), trivial⟩, wfTHE _ _ _ _ _⟩)
  | k + 1, i, n, hk, h0 => by
    have hi : i < len := by omega
    have hii : (0 : Int) ≤ (i : Int) ∧ (i : Int) < (len : Int) := by omega
    have hll : decide ((i : Int) < (len : Int)) = true := decide_eq_true (by omega)
    have hm : maxLen = 9223372036854775807 := by decide
    by_cases hn0 : n < 1048576
    · have s0 := hB _ (at_lt (f := 0) hi (by omega))
      have s1 := hB _ (at_lt (f := 1) hi (by omega))
      have s2 := hB _ (at_lt (f := 2) hi (by omega))
      have s3 := hB _ (at_lt (f := 3) hi (by omega))
      have hb := BB_lt
      have hd : decide (n < 1048576) = true := decide_eq_true hn0
      have ih := heavyG c len cap hB hl k (i + 1) (hn c n i) (by omega) (by have := hn_le c n i; omega)
      rw [show ((i + 1 : Nat) : Int) = (i : Int) + 1 by omega] at ih
      show GoesN Tryz.prog (bodyOf Tryz.prog 7 3) (k + 1 + 1) (.exit 0) (TH len cap n (i : Int)) (MC c len) (THE len cap (bif decide (n < 1048576) then hv c k (i + 1) (hn c n i) else n)) (MC c len)
      rw [hd, cond_true]
      refine GoesN.cons (M1 := MC c len) rfl (Runs.goes (envEH c) ⟨_, _, hvA c len cap n i, ⟨hll, hd, hii, ld9 _ (by omega) hi, ?_, hii, ld9 _ (by omega) hi, ?_, hii, ld9 _ (by omega) hi, ?_, hii, ld9 _ (by omega) hi, ?_, ?_, trivial⟩, wfTH _ _ _ _ _ _⟩) ih
      all_goals (unfold inI; omega)
    · have hd : decide (n < 1048576) = false := decide_eq_false hn0
      show GoesN Tryz.prog (bodyOf Tryz.prog 7 3) (k + 1 + 1) (.exit 0) (TH len cap n (i : Int)) (MC c len) (THE len cap (bif decide (n < 1048576) then hv c k (i + 1) (hn c n i) else n)) (MC c len)
      rw [hd, cond_false]
      exact GoesN.out (by simp) (Runs.goes (envEH c) ⟨_, _, hvB c len cap n i, ⟨hll, hd, trivial⟩, wfTHE _ _ _ _ _⟩)
theorem hv_small (c : Cells) : ∀ (k i : Nat) (n : Int), 0 ≤ n → hv c k i n ≤ 9000 → n ≤ 9000 ∧ ∀ j, i ≤ j → j < i + k → (sA c (0 + j * 9 + 0)).size ≤ 9000 ∧ (sA c (0 + j * 9 + 1)).size ≤ 9000 ∧ (sA c (0 + j * 9 + 2)).size ≤ 9000 ∧ (sA c (0 + j * 9 + 3)).size ≤ 9000
  | 0, i, n, _, h => ⟨h, fun j h1 h2 => by omega⟩
  | k + 1, i, n, h0, h => by
    by_cases hn0 : n < 1048576
    · change (bif decide (n < 1048576) then hv c k (i + 1) (hn c n i) else n) ≤ 9000 at h
      rw [decide_eq_true hn0, cond_true] at h
      have hle := hn_le c n i
      obtain ⟨h1, h2⟩ := hv_small c k (i + 1) (hn c n i) (by omega) h
      refine ⟨by omega, fun j h3 h4 => ?_⟩
      rcases Nat.eq_or_lt_of_le h3 with rfl | h5
      · unfold hn at h1
        refine ⟨?_, ?_, ?_, ?_⟩ <;> omega
      · exact h2 j h5 (by omega)
    · change (bif decide (n < 1048576) then hv c k (i + 1) (hn c n i) else n) ≤ 9000 at h
      rw [decide_eq_false hn0, cond_false] at h
      omega
noncomputable def sumH (c : Cells) (len cap : Nat) : List AV → List Blk → List Bool → CoR := sumC (TH len cap (len : Int) ((0 : Nat) : Int)) (MC c len) (THE len cap (hv c len 0 (len : Int))) (MC c len) (.exit 0)
theorem sumH_ok (c : Cells) (len cap : Nat) (hB : ∀ j, j < len * 9 → (sA c j).size ≤ BB) (hl : len ≤ maxLen) : SumOK Tryz.prog (.loop (bodyOf Tryz.prog 7 3)) (sumH c len cap) :=
  sumC_ok rfl (heavyG c len cap hB hl len 0 (len : Int) (by omega) (by omega)).loop
end Go.Ev.H5

namespace Go.Ev.H5
open Go Go.Proofs Go.RowKit
def c0 : Cells := ⟨fun _ => false, fun _ => ByteArray.empty, fun _ => 0, fun _ => 0⟩
noncomputable def fn9 (vs : List V1) : Option (List Prop × AV) := match vs with | [.one (.v (.string s))] => some ([], .tup [N8 (expKz s), sS (expRz s), .one (.i (expE s))]) | _ => none
noncomputable def fn10 (vs : List V1) : Option (List Prop × AV) := match vs with | [.one (.v (.string s))] => some ([], .tup [sS (pubZ s), .one (.i (expE s))]) | _ => none
noncomputable def fn11 (vs : List V1) : Option (List Prop × AV) := match vs with | [.one (.v (.string s)), .one (.v (.string m))] => some ([], .tup [sS (sigZ s m), .one (.i (sigE s m))]) | _ => none
noncomputable def fn13 (vs : List V1) : Option (List Prop × AV) := match vs with | [.one (.v (.string s))] => some ([s.size ≤ 100000000000000], .val (sS (pubB (exK s)))) | _ => none
noncomputable def fn14 (vs : List V1) : Option (List Prop × AV) := match vs with | [.one (.v (.string s)), .one (.v (.string m))] => some ([s.size ≤ 100000000000000, m.size ≤ 10000000000], .val (sS (signB s m))) | _ => none
theorem ct9 : CTok ⟨9, fn9⟩ := by
  intro vs ob r h _
  simp only [fn9] at h
  split at h
  · simp only [Option.some.injEq, Prod.mk.injEq] at h
    obtain ⟨_, rfl⟩ := h
    exact spec9 _
  · simp at h
theorem ct10 : CTok ⟨10, fn10⟩ := by
  intro vs ob r h _
  simp only [fn10] at h
  split at h
  · simp only [Option.some.injEq, Prod.mk.injEq] at h
    obtain ⟨_, rfl⟩ := h
    exact spec10 _
  · simp at h
theorem ct11 : CTok ⟨11, fn11⟩ := by
  intro vs ob r h _
  simp only [fn11] at h
  split at h
  · simp only [Option.some.injEq, Prod.mk.injEq] at h
    obtain ⟨_, rfl⟩ := h
    exact spec11 _ _
  · simp at h
theorem ct13 : CTok ⟨13, fn13⟩ := by
  intro vs ob r h ho
  simp only [fn13] at h
  split at h
  · simp only [Option.some.injEq, Prod.mk.injEq] at h
    obtain ⟨rfl, rfl⟩ := h
    exact spec13 _ ho.1
  · simp at h
theorem ct14 : CTok ⟨14, fn14⟩ := by
  intro vs ob r h ho
  simp only [fn14] at h
  split at h
  · simp only [Option.some.injEq, Prod.mk.injEq] at h
    obtain ⟨rfl, rfl⟩ := h
    exact spec14 _ _ ho.1 ho.2.1
  · simp at h
noncomputable def LZ (c : Cells) : List CT := ⟨9, fn9⟩ :: ⟨10, fn10⟩ :: ⟨11, fn11⟩ :: ⟨13, fn13⟩ :: ⟨14, fn14⟩ :: ⟨15, fnS [.z] gNum⟩ :: ⟨16, bT⟩ :: ⟨8, fnFit⟩ :: ldC 9 (fun off => sS (sA c off)) :: ldC 27 (fun off => .agg (fldPs c shC off)) :: LS
theorem LZ_ok (c : Cells) : AllCT (LZ c) := ⟨ct9, ct10, ct11, ct13, ct14, ct15, ctT spec16, ct8, ldC_ok _ _, ldC_ok _ _, LS_ok⟩
noncomputable def S3 : FuncId → Nat → Bool := fun f t => match f with | 3 => memN t [25, 28, 34, 2000036, 39, 2000040, 31, 47, 67, 2000069, 75, 85, 2000087, 89, 93, 2000095, 100, 105, 111, 116, 121, 126, 131] | 7 => memN t [47] | _ => false
noncomputable def E3e (c : Cells) : Env := mkE (LZ c) S3
theorem envE3e (c : Cells) : EnvOK (E3e c) := envMk (LZ_ok c) _
def T3 (len cap : Nat) (i : Int) : List AV := slots 134 [(0, sV' len cap), (2, bV false), (3, iV i)]
theorem wfT3 (c : Cells) (m len cap : Nat) (i : Int) : wfS (T3 len cap i) (MC c m) = true := wfC c m (by kernel_rfl)
def b2 (x y : ByteArray) : Blk := ⟨[.a (.v (.string x)), .a (.v (.string y))], 9, true, false, 0⟩
def TK (len cap : Nat) (i k : Int) : List AV := slots 134 [(0, sV' len cap), (2, bV false), (3, iV i), (4, .val (.one (.sl 1 0 2 2))), (5, iV k)]
def MK (c : Cells) (m : Nat) (x y : ByteArray) : List Blk := [rowB c shC m 27, b2 x y]
theorem tTK (len cap : Nat) (i k : Int) : tmsWf 2 (TK len cap i k) = true := by kernel_rfl
theorem wfTK (c : Cells) (m : Nat) (x y : ByteArray) (len cap : Nat) (i k : Int) : wfS (TK len cap i k) (MK c m x y) = true := wfS_of (by
  intro b hb
  simp only [MK, List.mem_cons, List.not_mem_nil, or_false] at hb
  rcases hb with rfl | rfl
  · exact rowB_free _ _ _ _
  · exact fun _ => rfl) (tTK len cap i k)
end Go.Ev.H5

namespace Go.Ev.H5
open Go Go.Proofs Go.RowKit
theorem neq_ii (z : Int) : (!decide (z = z)) = false := by simp
theorem neq_ss (s : ByteArray) : (!(s.toList == s.toList)) = false := by simp
theorem neq_nn (a : Nat) : (!(decide (a % 4294967296 ^ 8 = a % 4294967296 ^ 8) && true)) = false := by simp
def ldM (c : Cells) (len i : Nat) : Prop := LoadsAs Tryz.prog 9 (rowPs c shC len 0) (0 + i * 9 + 3) (.one (.v (.string (sA c (0 + i * 9 + 3)))))
def inL (len i : Nat) : Prop := (0 : Int) ≤ (i : Int) ∧ (i : Int) < (len : Int)
noncomputable def obA (c : Cells) (len i : Nat) (k : Int) (x : ByteArray) : List Prop := [inL len i, ldM c len i, decide ((x.size : Int) = 32) = true, x.size ≤ 100000000000000, x.size ≤ 100000000000000, inL len i, ldM c len i, decide (((sA c (0 + i * 9 + 3)).size : Int) ≤ 4096) = true, inL len i, ldM c len i, x.size ≤ 100000000000000, (sA c (0 + i * 9 + 3)).size ≤ 10000000000,
  (!decide (expE x = 0)) = false, (!decide (expE x = 0)) = false, (!decide (sigE x (sA c (0 + i * 9 + 3)) = 0)) = false, (!(decide (expKz x % 4294967296 ^ 8 = exK x % 4294967296 ^ 8) && true)) = false, (!((expRz x).toList == (exR x).toList)) = false, (!((pubZ x).toList == (pubB (exK x)).toList)) = false, (!((sigZ x (sA c (0 + i * 9 + 3))).toList == (signB x (sA c (0 + i * 9 + 3))).toList)) = false, inI (k + 1)]
noncomputable def obB (c : Cells) (len i : Nat) (k : Int) (x : ByteArray) : List Prop := [inL len i, ldM c len i, decide ((x.size : Int) = 32) = true, x.size ≤ 100000000000000, x.size ≤ 100000000000000, inL len i, ldM c len i, decide (((sA c (0 + i * 9 + 3)).size : Int) ≤ 4096) = false,
  (!decide (expE x = 0)) = false, (!decide (expE x = 0)) = false, (!decide (sigE x (sA c (0 + i * 9 + 3)) = 2)) = false, (!(decide (expKz x % 4294967296 ^ 8 = exK x % 4294967296 ^ 8) && true)) = false, (!((expRz x).toList == (exR x).toList)) = false, (!((pubZ x).toList == (pubB (exK x)).toList)) = false, (!((sigZ x (sA c (0 + i * 9 + 3))).toList == e0.toList)) = false, inI (k + 1)]
noncomputable def obC (c : Cells) (len i : Nat) (k : Int) (x : ByteArray) : List Prop := [inL len i, ldM c len i, decide ((x.size : Int) = 32) = false,
  (!decide (expE x = 1)) = false, (!decide (expE x = 1)) = false, (!decide (sigE x (sA c (0 + i * 9 + 3)) = 1)) = false, (!(isZ (expKz x))) = false, (!((expRz x).toList == e0.toList)) = false, (!((pubZ x).toList == e0.toList)) = false, (!((sigZ x (sA c (0 + i * 9 + 3))).toList == e0.toList)) = false, inI (k + 1)]
theorem obA_ok {c : Cells} {len i : Nat} {k : Int} {x : ByteArray} (hi : i < len) (hk : 0 ≤ k ∧ k < 2) (h : x.size = 32) (hm : (sA c (0 + i * 9 + 3)).size ≤ 4096) : All (obA c len i k x) := by
  have hI : inL len i := by unfold inL; omega
  have hL : ldM c len i := ld9 3 (by decide) hi
  have e1 : expE x = 0 := by unfold expE; rw [decide_eq_true h, cond_true]
  have e2 : sigE x (sA c (0 + i * 9 + 3)) = 0 := by unfold sigE; rw [decide_eq_true h, cond_true, decide_eq_true hm, cond_true]
  have e3 : expKz x = exK x := by unfold expKz; rw [decide_eq_true h, cond_true]
  have e4 : expRz x = exR x := by unfold expRz; rw [decide_eq_true h, cond_true]
  have e5 : pubZ x = pubB (exK x) := by unfold pubZ; rw [decide_eq_true h, cond_true]
  have e6 : sigZ x (sA c (0 + i * 9 + 3)) = signB x (sA c (0 + i * 9 + 3)) := by unfold sigZ; rw [decide_eq_true h, cond_true, decide_eq_true hm, cond_true]
  unfold obA
  rw [e1, e2, e3, e4, e5, e6]
  exact ⟨hI, hL, decide_eq_true (by omega), by omega, by omega, hI, hL, decide_eq_true (by omega), hI, hL, by omega, by omega, neq_ii _, neq_ii _, neq_ii _, neq_nn _, neq_ss _, neq_ss _, neq_ss _, by unfold inI; omega, trivial⟩
theorem obB_ok {c : Cells} {len i : Nat} {k : Int} {x : ByteArray} (hi : i < len) (hk : 0 ≤ k ∧ k < 2) (h : x.size = 32) (hm : ¬ (sA c (0 + i * 9 + 3)).size ≤ 4096) : All (obB c len i k x) := by
  have hI : inL len i := by unfold inL; omega
  have hL : ldM c len i := ld9 3 (by decide) hi
  have e1 : expE x = 0 := by unfold expE; rw [decide_eq_true h, cond_true]
  have e2 : sigE x (sA c (0 + i * 9 + 3)) = 2 := by unfold sigE; rw [decide_eq_true h, cond_true, decide_eq_false hm, cond_false]
  have e3 : expKz x = exK x := by unfold expKz; rw [decide_eq_true h, cond_true]
  have e4 : expRz x = exR x := by unfold expRz; rw [decide_eq_true h, cond_true]
  have e5 : pubZ x = pubB (exK x) := by unfold pubZ; rw [decide_eq_true h, cond_true]
  have e6 : sigZ x (sA c (0 + i * 9 + 3)) = e0 := by unfold sigZ; rw [decide_eq_true h, cond_true, decide_eq_false hm, cond_false]
  unfold obB
  rw [e1, e2, e3, e4, e5, e6]
  exact ⟨hI, hL, decide_eq_true (by omega), by omega, by omega, hI, hL, decide_eq_false (by omega), neq_ii _, neq_ii _, neq_ii _, neq_nn _, neq_ss _, neq_ss _, neq_ss _, by unfold inI; omega, trivial⟩
theorem obC_ok {c : Cells} {len i : Nat} {k : Int} {x : ByteArray} (hi : i < len) (hk : 0 ≤ k ∧ k < 2) (h : ¬ x.size = 32) : All (obC c len i k x) := by
  have hI : inL len i := by unfold inL; omega
  have hL : ldM c len i := ld9 3 (by decide) hi
  have e1 : expE x = 1 := by unfold expE; rw [decide_eq_false h, cond_false]
  have e2 : sigE x (sA c (0 + i * 9 + 3)) = 1 := by unfold sigE; rw [decide_eq_false h, cond_false]
  have e3 : expKz x = 0 := by unfold expKz; rw [decide_eq_false h, cond_false]
  have e4 : expRz x = e0 := by unfold expRz; rw [decide_eq_false h, cond_false]
  have e5 : pubZ x = e0 := by unfold pubZ; rw [decide_eq_false h, cond_false]
  have e6 : sigZ x (sA c (0 + i * 9 + 3)) = e0 := by unfold sigZ; rw [decide_eq_false h, cond_false]
  unfold obC
  rw [e1, e2, e3, e4, e5, e6]
  exact ⟨hI, hL, decide_eq_false (by omega), neq_ii _, neq_ii _, neq_ii _, rfl, neq_ss _, neq_ss _, neq_ss _, by unfold inI; omega, trivial⟩
theorem sK0a (c : Cells) (len cap i : Nat) (x y : ByteArray) : runTo (E3e c) 1000 ((E3e c).S 3) (bodyOf Tryz.prog 3 8) (TK len cap (i : Int) ((0 : Nat) : Int)) (MK c len x y) [true, true, false, false, false, false, false, false, false] (TK len cap (i : Int) ((0 + 1 : Nat) : Int)) 2 =
    some (obA c len i ((0 : Nat) : Int) x, .normal, TK len cap (i : Int) ((0 + 1 : Nat) : Int), MK c len x y) := by kernel_rfl
theorem sK0b (c : Cells) (len cap i : Nat) (x y : ByteArray) : runTo (E3e c) 1000 ((E3e c).S 3) (bodyOf Tryz.prog 3 8) (TK len cap (i : Int) ((0 : Nat) : Int)) (MK c len x y) [true, false, false, false, false, false, false, false, false] (TK len cap (i : Int) ((0 + 1 : Nat) : Int)) 2 =
    some (obB c len i ((0 : Nat) : Int) x, .normal, TK len cap (i : Int) ((0 + 1 : Nat) : Int), MK c len x y) := by kernel_rfl
theorem sK0c (c : Cells) (len cap i : Nat) (x y : ByteArray) : runTo (E3e c) 1000 ((E3e c).S 3) (bodyOf Tryz.prog 3 8) (TK len cap (i : Int) ((0 : Nat) : Int)) (MK c len x y) [false, false, false, false, false, false, false, false] (TK len cap (i : Int) ((0 + 1 : Nat) : Int)) 2 =
    some (obC c len i ((0 : Nat) : Int) x, .normal, TK len cap (i : Int) ((0 + 1 : Nat) : Int), MK c len x y) := by kernel_rfl
theorem sK1a (c : Cells) (len cap i : Nat) (x y : ByteArray) : runTo (E3e c) 1000 ((E3e c).S 3) (bodyOf Tryz.prog 3 8) (TK len cap (i : Int) ((1 : Nat) : Int)) (MK c len x y) [true, true, false, false, false, false, false, false, false] (TK len cap (i : Int) ((1 + 1 : Nat) : Int)) 2 =
    some (obA c len i ((1 : Nat) : Int) y, .normal, TK len cap (i : Int) ((1 + 1 : Nat) : Int), MK c len x y) := by kernel_rfl
theorem sK1b (c : Cells) (len cap i : Nat) (x y : ByteArray) : runTo (E3e c) 1000 ((E3e c).S 3) (bodyOf Tryz.prog 3 8) (TK len cap (i : Int) ((1 : Nat) : Int)) (MK c len x y) [true, false, false, false, false, false, false, false, false] (TK len cap (i : Int) ((1 + 1 : Nat) : Int)) 2 =
    some (obB c len i ((1 : Nat) : Int) y, .normal, TK len cap (i : Int) ((1 + 1 : Nat) : Int), MK c len x y) := by kernel_rfl
theorem sK1c (c : Cells) (len cap i : Nat) (x y : ByteArray) : runTo (E3e c) 1000 ((E3e c).S 3) (bodyOf Tryz.prog 3 8) (TK len cap (i : Int) ((1 : Nat) : Int)) (MK c len x y) [false, false, false, false, false, false, false, false] (TK len cap (i : Int) ((1 + 1 : Nat) : Int)) 2 =
    some (obC c len i ((1 : Nat) : Int) y, .normal, TK len cap (i : Int) ((1 + 1 : Nat) : Int), MK c len x y) := by kernel_rfl
theorem sKx (c : Cells) (len cap i : Nat) (x y : ByteArray) : runTo (E3e c) 1000 ((E3e c).S 3) (bodyOf Tryz.prog 3 8) (TK len cap (i : Int) ((2 : Nat) : Int)) (MK c len x y) [] (TK len cap (i : Int) ((2 : Nat) : Int)) 2 =
    some ([], .exit 2, TK len cap (i : Int) ((2 : Nat) : Int), MK c len x y) := by kernel_rfl
theorem lKloop (c : Cells) (len cap i : Nat) (hi : i < len) (x y : ByteArray) : Goes Tryz.prog (.loop (bodyOf Tryz.prog 3 8)) (.exit 2) (TK len cap (i : Int) ((0 : Nat) : Int)) (MK c len x y) (TK len cap (i : Int) ((2 : Nat) : Int)) (MK c len x y) := by
  refine loop_goes (N := 2) (k := 2) (T := fun k => TK len cap (i : Int) (k : Int)) (M := fun _ => MK c len x y) (by simp) (fun _ _ => rfl) (fun k hk => ?_) ?_
  · match k, hk with
    | 0, _ =>
      by_cases h : x.size = 32
      · by_cases hm : (sA c (0 + i * 9 + 3)).size ≤ 4096
        · exact Runs.goes (envE3e c) ⟨_, _, sK0a c len cap i x y, obA_ok hi (by omega) h hm, wfTK _ _ _ _ _ _ _ _⟩
        · exact Runs.goes (envE3e c) ⟨_, _, sK0b c len cap i x y, obB_ok hi (by omega) h hm, wfTK _ _ _ _ _ _ _ _⟩
      · exact Runs.goes (envE3e c) ⟨_, _, sK0c c len cap i x y, obC_ok hi (by omega) h, wfTK _ _ _ _ _ _ _ _⟩
    | 1, _ =>
      by_cases h : y.size = 32
      · by_cases hm : (sA c (0 + i * 9 + 3)).size ≤ 4096
        · exact Runs.goes (envE3e c) ⟨_, _, sK1a c len cap i x y, obA_ok hi (by omega) h hm, wfTK _ _ _ _ _ _ _ _⟩
        · exact Runs.goes (envE3e c) ⟨_, _, sK1b c len cap i x y, obB_ok hi (by omega) h hm, wfTK _ _ _ _ _ _ _ _⟩
      · exact Runs.goes (envE3e c) ⟨_, _, sK1c c len cap i x y, obC_ok hi (by omega) h, wfTK _ _ _ _ _ _ _ _⟩
  · exact Runs.goes (envE3e c) ⟨_, _, sKx c len cap i x y, trivial, wfTK _ _ _ _ _ _ _ _⟩
noncomputable def EK3 (c : Cells) (len cap i : Nat) (x y : ByteArray) : Env := addLp (E3e c) 8 (bodyOf Tryz.prog 3 8) (sumC (TK len cap (i : Int) ((0 : Nat) : Int)) (MK c len x y) (TK len cap (i : Int) ((2 : Nat) : Int)) (MK c len x y) (.exit 2))
theorem envEK3 (c : Cells) (len cap i : Nat) (hi : i < len) (x y : ByteArray) : EnvOK (EK3 c len cap i x y) := envAddLp (envE3e c) (sumC_ok rfl (lKloop c len cap i hi x y))
end Go.Ev.H5

namespace Go.Ev.H5
open Go Go.Proofs Go.RowKit
noncomputable def eX (c : Cells) (i : Nat) : ByteArray := sA c (0 + i * 9)
noncomputable def eY (c : Cells) (i : Nat) : ByteArray := kfit (sA c (0 + i * 9))
theorem s3a (c : Cells) (len cap i : Nat) : runTo (EK3 c len cap i (eX c i) (eY c i)) 1000 ((EK3 c len cap i (eX c i) (eY c i)).S 3) (bodyOf Tryz.prog 3 4) (T3 len cap (i : Int)) (MC c len) [true, true] (T3 len cap ((i : Int) + 1)) 1 =
    some ([decide ((i : Int) < (len : Int)) = true, decide ((i : Int) < 2) = true, (0 : Int) ≤ (i : Int) ∧ (i : Int) < (len : Int), LoadsAs Tryz.prog 9 (rowPs c shC len 0) (0 + i * 9 + 0) (.one (.v (.string (sA c (0 + i * 9 + 0))))), (0 : Int) ≤ (i : Int) ∧ (i : Int) < (len : Int), LoadsAs Tryz.prog 27 (rowPs c shC len 0) (0 + i * 9) (.agg (fldPs c shC (0 + i * 9))), (sA c (0 + i * 9)).size ≤ 1000000, (sA c (0 + i * 9 + 1)).size ≤ 1000000,
      bodyOf Tryz.prog 3 8 = bodyOf Tryz.prog 3 8, (TK len cap (i : Int) ((0 : Nat) : Int), MK c len (eX c i) (eY c i)) = (TK len cap (i : Int) ((0 : Nat) : Int), MK c len (eX c i) (eY c i)), wfS (TK len cap (i : Int) ((0 : Nat) : Int)) (MK c len (eX c i) (eY c i)) = true, inI ((i : Int) + 1)], .normal, T3 len cap ((i : Int) + 1), MC c len) := by kernel_rfl
theorem s3o (c : Cells) (len cap i : Nat) : runTo (E3e c) 1000 ((E3e c).S 3) (bodyOf Tryz.prog 3 4) (T3 len cap (i : Int)) (MC c len) [false] (T3 len cap (i : Int)) 1 = some ([decide ((i : Int) < (len : Int)) = false], .exit 0, T3 len cap (i : Int), MC c len) := by kernel_rfl
theorem s3p (c : Cells) (len cap i : Nat) : runTo (E3e c) 1000 ((E3e c).S 3) (bodyOf Tryz.prog 3 4) (T3 len cap (i : Int)) (MC c len) [true, false] (T3 len cap (i : Int)) 1 = some ([decide ((i : Int) < (len : Int)) = true, decide ((i : Int) < 2) = false], .exit 0, T3 len cap (i : Int), MC c len) := by kernel_rfl
theorem l3loop (c : Cells) (len cap : Nat) (hs : ∀ j, j < len → (sA c (0 + j * 9 + 0)).size ≤ 9000 ∧ (sA c (0 + j * 9 + 1)).size ≤ 9000) : Goes Tryz.prog (.loop (bodyOf Tryz.prog 3 4)) (.exit 0) (T3 len cap ((0 : Nat) : Int)) (MC c len) (T3 len cap ((min len 2 : Nat) : Int)) (MC c len) := by
  refine loop_goes (N := min len 2) (k := 1) (T := fun i => T3 len cap (i : Int)) (M := fun _ => MC c len) (by simp) (fun _ _ => rfl) (fun i hi => ?_) ?_
  · obtain ⟨h1, h2⟩ := hs i (by omega)
    have h1' : (sA c (0 + i * 9)).size ≤ 9000 := h1
    have b1 : (0 : Int) ≤ (i : Int) ∧ (i : Int) < (len : Int) := by omega
    have hi' : i < len := by omega
    exact Runs.goes (envEK3 c len cap i hi' (eX c i) (eY c i)) ⟨_, _, s3a c len cap i, ⟨decide_eq_true (by omega), decide_eq_true (by omega), b1, ld9 0 (by decide) hi', b1, ld38 hi', by omega, by omega, rfl, rfl, wfTK _ _ _ _ _ _ _ _, by unfold inI; omega, trivial⟩, wfT3 _ _ _ _ _⟩
  · by_cases h : len ≤ 2
    · rw [show min len 2 = len by omega]
      exact Runs.goes (envE3e c) ⟨_, _, s3o c len cap len, ⟨decide_eq_false (by omega), trivial⟩, wfT3 _ _ _ _ _⟩
    · rw [show min len 2 = 2 by omega]
      exact Runs.goes (envE3e c) ⟨_, _, s3p c len cap 2, ⟨decide_eq_true (by omega), decide_eq_false (by omega), trivial⟩, wfT3 _ _ _ _ _⟩
noncomputable def EH3 (c : Cells) (len cap : Nat) : Env := addLp (E3e c) 3 (bodyOf Tryz.prog 7 3) (sumH c len cap)
theorem envEH3 (c : Cells) (len cap : Nat) (hB : ∀ j, j < len * 9 → (sA c j).size ≤ BB) (hl : len ≤ maxLen) : EnvOK (EH3 c len cap) := envAddLp (envE3e c) (sumH_ok c len cap hB hl)
noncomputable def EE3 (c : Cells) (len cap : Nat) : Env := addLp (EH3 c len cap) 4 (bodyOf Tryz.prog 3 4) (sumC (T3 len cap ((0 : Nat) : Int)) (MC c len) (T3 len cap ((min len 2 : Nat) : Int)) (MC c len) (.exit 0))
theorem envEE3 (c : Cells) (len cap : Nat) (hB : ∀ j, j < len * 9 → (sA c j).size ≤ BB) (hl : len ≤ maxLen) (hs : ∀ j, j < len → (sA c (0 + j * 9 + 0)).size ≤ 9000 ∧ (sA c (0 + j * 9 + 1)).size ≤ 9000) : EnvOK (EE3 c len cap) := envAddLp (envEH3 c len cap hB hl) (sumC_ok rfl (l3loop c len cap hs))
theorem l3hv (c : Cells) (len cap : Nat) : dropM (callBy (EH3 c len cap) (evalC (EH3 c len cap) 1000) 3 [V1.one (Atom.sl 0 0 len cap)] [rowB c shC len 27] [true]) =
    some ([bodyOf Tryz.prog 7 3 = bodyOf Tryz.prog 7 3, (TH len cap (len : Int) ((0 : Nat) : Int), MC c len) = (TH len cap (len : Int) ((0 : Nat) : Int), MC c len), wfS (TH len cap (len : Int) ((0 : Nat) : Int)) (MC c len) = true, decide ((9000 : Int) < hv c len 0 (len : Int)) = true], bV true) := by kernel_rfl
theorem l3ok (c : Cells) (len cap : Nat) : dropM (callBy (EE3 c len cap) (evalC (EE3 c len cap) 1000) 3 [V1.one (Atom.sl 0 0 len cap)] [rowB c shC len 27] [false]) =
    some ([bodyOf Tryz.prog 7 3 = bodyOf Tryz.prog 7 3, (TH len cap (len : Int) ((0 : Nat) : Int), MC c len) = (TH len cap (len : Int) ((0 : Nat) : Int), MC c len), wfS (TH len cap (len : Int) ((0 : Nat) : Int)) (MC c len) = true, decide ((9000 : Int) < hv c len 0 (len : Int)) = false, bodyOf Tryz.prog 3 4 = bodyOf Tryz.prog 3 4, (T3 len cap ((0 : Nat) : Int), MC c len) = (T3 len cap ((0 : Nat) : Int), MC c len), wfS (T3 len cap ((0 : Nat) : Int)) (MC c len) = true], bV true) := by kernel_rfl
theorem l3nil (c : Cells) : dropM (callBy (E3e c) (evalC (E3e c) 1000) 3 [V1.one (Atom.v (Value.slice none 0 0))] [] [false, false]) =
    some ([decide ((9000 : Int) < ((0 : Nat) : Int)) = false, decide ((0 : Int) < ((0 : Nat) : Int)) = false], bV true) := by kernel_rfl
theorem l3nilc (w : World) : Calls Tryz.prog 3 #[.slice none 0 0] w (Trues w) := law_nilD (envE3e c0) (l3nil c0) ⟨by decide, by decide, trivial⟩ w
set_option maxRecDepth 100000 in
theorem law3 {H : Type} {enc : TypeId × Value → H} {r : Reach} {W : World} {base : Nat} {v : Value} {d : DataW H} {ps : List MemPlace} (hval : Value.okWide Tryz.prog W r base 22 v) (h : DataW.Trod enc Tryz.prog W 0 (fun _ => true) true 22 v d ps) (hwt : ∀ n ∈ d.weights Tryz.prog 22, n ≤ BB) :
    Calls Tryz.prog 3 #[v] W (Trues W) := by
  refine rows_calls_sized shC (B := BB) (Q := Trues) u23 k38 s38 l3nilc ?_ hval h hwt
  intro c len cap hlc hcap ho hB w φ hmr
  have hl : len ≤ maxLen := by omega
  have hB' : ∀ j, j < len * 9 → (sA c j).size ≤ BB := hB
  by_cases hh : 9000 < hv c len 0 (len : Int)
  · exact law_runD (envEH3 c len cap hB' hl) (l3hv c len cap) ⟨rfl, rfl, wfTH _ _ _ _ _ _, decide_eq_true hh, trivial⟩ hmr
  · have hs := (hv_small c len 0 (len : Int) (by omega) (by omega)).2
    refine law_runD (envEE3 c len cap hB' hl ?_) (l3ok c len cap) ⟨rfl, rfl, wfTH _ _ _ _ _ _, decide_eq_false hh, rfl, rfl, wfT3 _ _ _ _ _, trivial⟩ hmr
    intro j hj
    obtain ⟨h1, h2, h3, h4⟩ := hs j (Nat.zero_le _) (by omega)
    exact ⟨h1, h2⟩
end Go.Ev.H5

namespace Go.Proofs.YtgkelmendkdocaaGreat.Laws
open Go Go.Ev Go.Ev.H5 Go.RowKit Go.ChangeShapes Go.WideShapes Go.ChangeAt

theorem u4 : Tryz.prog.underlying 4 = some .bool := by kernel_rfl
theorem laid : laidOutB Tryz.prog = true := by kernel_rfl
theorem rd23 : Tryz.prog.readableRec 22 = true := by kernel_rfl
theorem row23 : (22 : Nat) < Tryz.prog.types.size := of_decide_eq_true (by kernel_rfl)

section
variable {H : Type} {enc : TypeId × Value → H} {P : Program}

/-- 'post' of a law of one parameter: it returns true and has turned nothing that was there. -/
theorem post_true {fn : Func} {s : ChangeSpec} {again : Bool} (hag : again = false) {W W' : World} {v : Value} {d : DataW H} {gs : List (DataW H)} {before : List MemPlace} {t tb : TypeId}
    (hp : fn.params = #[t]) (hr : fn.resultTypes = #[tb]) (htb : P.underlying tb = some .bool) (hl : laidOutB P = true) (hrd : P.readableRec t = true) (hrow : t < P.types.size)
    (hvars : s.vars = []) (hfn : s.fn H [d] = { results := [.lit (.bool true)], args := [d] })
    (hW : DataW.Whole enc P fn.params.toList s.vars false W #[v].toList [d] gs before) (hb : Below W.heap.size W W') :
    s.post enc P fn false true false again W #[v] (.bool true) W' := by
  have hW0 := hW
  obtain ⟨p, q, hA, hV, rfl, hfz, hnd⟩ := hW
  rw [hvars] at hV
  obtain ⟨rfl, rfl⟩ := trodVars_none hV
  rw [hp] at hA
  obtain ⟨v', d', e1, e2, hd⟩ := trodAll_one (args := #[v]) hA
  simp only [List.cons.injEq, and_true] at e2
  subst e2
  obtain rfl : v = v' := by simpa using e1
  refine ⟨[d], [], p ++ [], [], p, [], hW0, ?_, ?_, ?_, hb.frame _, ?_⟩
  · rw [hr, List.append_nil, hfn]
    exact trodAll_mk1 (shut_bool htb true)
  · rw [hp, List.append_nil, hfn]
    refine trodAll_mk1 (Below.trod hl hrd hrow hd hb ?_)
    intro x hx
    have := hW0.lt x (by simpa using hx)
    exact this
  · rw [List.append_nil, hfn, hvars]
    trivial
  · intro h; rw [hag] at h; cases h
end
theorem own : ownKnob Tryz.prog.godebug = none := by kernel_rfl

set_option maxRecDepth 100000 in
theorem lifted3 (os : Os) (started : os.Started) (H : Type) (enc : TypeId × Value → H) :
    ReturnsInHanded {} Tryz.checked os 3 .any (Rows.edsigSignsSpec.pre6 enc Tryz.prog Tryz.f3 Rows.edsigSignsRow.domain false) (Rows.edsigSignsSpec.post enc Tryz.prog Tryz.f3 false true false false) := by
  refine returnsInHanded_of_change_sized (C := Tryz.checked) own started (by kernel_rfl) Tryz.func3
    (ChangeSpec.witness6 (enc := enc) (C := Tryz.checked) false ⟨#[], #[.slice none 0 0], []⟩ 8 (by kernel_rfl) (by kernel_rfl) (by kernel_rfl) (by kernel_rfl)) ?_
  intro W base args ds gs before hval0 hW _ hsz0 _
  have hsz : (DataW.weightsEach Tryz.prog (Tryz.f3.params.toList ++ Rows.edsigSignsSpec.plain.varTypes Tryz.prog) (ds ++ gs)).all (· ≤ reachBytes) = true := hsz0
  clear hsz0
  have hval : ∀ (j : Nat) t v, Tryz.f3.params[j]? = some t → args[j]? = some v → Value.okWide Tryz.prog W .any base t v := hval0
  have hW' := hW
  obtain ⟨p, q, hA0, hV, hbef, hfz, hnd⟩ := hW
  have hp : Tryz.f3.params = #[22] := by kernel_rfl
  have hA : DataW.TrodAll enc Tryz.prog W 0 (fun _ => true) true Tryz.f3.params.toList args.toList ds p := hA0
  rw [hp] at hA hval
  obtain ⟨v0, d0, rfl, rfl, h0⟩ := trodAll_one hA
  obtain ⟨rfl, rfl⟩ := trodVars_none hV
  refine (law3 (hval 0 22 v0 rfl rfl) h0 (fun n hn => by simpa using List.all_eq_true.1 hsz n (DataW.weights_mem_each (j := 0) (t := 22) (by rw [hp]; rfl) rfl n hn))).mono ?_
  rintro e W' ⟨rfl, hb⟩
  exact ⟨_, rfl, post_true (tb := 4) rfl hp (by kernel_rfl) u4 laid rd23 row23 rfl rfl hW' hb⟩

theorem holds3 : Rows.EdsigSignsSaid :=
  OpenClaim.holds_of_wide 3 Tryz.f3 rfl rfl rfl rfl rfl rfl rfl ⟨rfl, rfl, rfl, rfl, rfl⟩ rfl rfl rfl rfl rfl (by kernel_rfl) Tryz.func3 (by kernel_rfl)
    (of_decide_eq_true (by kernel_rfl)) (by unfold Func.isWrapper; first | (rw [if_pos (by decide +kernel)]; kernel_rfl) | (rw [if_neg (by decide +kernel)]; exact ⟨rfl, rfl⟩))
    (fun os started H enc _ => lifted3 os started H enc)

end Go.Proofs.YtgkelmendkdocaaGreat.Laws

namespace Go.Proofs.YtgkelmendkdocaaGreat
open Go
theorem edsigSigns_holds : Rows.EdsigSignsSaid := Laws.holds3
end Go.Proofs.YtgkelmendkdocaaGreat

