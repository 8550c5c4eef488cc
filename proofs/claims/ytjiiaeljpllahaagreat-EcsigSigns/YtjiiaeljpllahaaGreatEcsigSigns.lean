/- Keyed sums, nodes, and the law, of every input; Bytes of numbers and of points: EcsigSigns holds of every argument -/
import Derived.Test.YtjiiaeljpllahaaGreatPartS
import Derived.Test.YtjiiaeljpllahaaGreatPartO
import Derived.Test.YtjiiaeljpllahaaGreatPartR
import Derived.Test.YtjiiaeljpllahaaGreatPartC
import Derived.Test.YtjiiaeljpllahaaGreatPartI
import Derived.Test.YtjiiaeljpllahaaGreatPartK
import Derived.Test.YtjiiaeljpllahaaGreatPartN
import Derived.JoinedOf
import Derived.SizedLaws
namespace Go.Ev.H5
open Go Go.Proofs Go.RowKit
set_option maxRecDepth 100000
def askV (k t x s : ByteArray) (n a b c d : Nat) : V1 := .agg [.a (.v (.string k)), .a (.v (.string t)), .a (.v (.string x)), .a (.v (.string s)), .a (.u .u32 n), .a (.u .u32 a), .a (.u .u32 b), .a (.u .u32 c), .a (.u .u32 d)]
noncomputable def kfit (k : ByteArray) : ByteArray := (k ++ zs 32).extract 0 32
noncomputable def tfit (t : ByteArray) : ByteArray := (t ++ zs 12).extract 0 12
noncomputable def S8f : FuncId → Nat → Bool := fun f t => match f with | 20 => memN t [6, 7, 11, 12] | _ => false
theorem L8f_ok : AllCT [⟨7, fnZs⟩] := ⟨ct21z, trivial⟩
theorem run20 (k t x s : ByteArray) (n a b c d : Nat) : callR (mkE [⟨7, fnZs⟩] S8f) 1000 20 [askV k t x s n a b c d] [] =
    some ([(0 : Int) ≤ 32 ∧ (32 : Int) ≤ 1000000, k.size + (zs 32).size ≤ 9223372036854775807, (0 : Int) ≤ 32 ∧ (32 : Int) ≤ ((k ++ zs 32).size : Int), (0 : Int) ≤ 12 ∧ (12 : Int) ≤ 1000000, t.size + (zs 12).size ≤ 9223372036854775807, (0 : Int) ≤ 12 ∧ (12 : Int) ≤ ((t ++ zs 12).size : Int)], .val (askV (kfit k) (tfit t) x s n a b c d)) := by kernel_rfl
theorem kfit_size (k : ByteArray) : (kfit k).size = 32 := by unfold kfit; rw [ByteArray.size_extract, ByteArray.size_append, zs_size]; omega
noncomputable def fnFit (vs : List V1) : Option (List Prop × AV) :=
  match vs with
  | [.agg [.a (.v (.string k)), .a (.v (.string t)), .a (.v (.string x)), .a (.v (.string s)), .a (.u .u32 n), .a (.u .u32 a), .a (.u .u32 b), .a (.u .u32 c), .a (.u .u32 d)]] => some ([k.size ≤ 1000000, t.size ≤ 1000000], .val (askV (kfit k) (tfit t) x s n a b c d))
  | _ => none
theorem ct8 : CTok ⟨20, fnFit⟩ := by
  intro vs ob r h ho
  simp only [fnFit] at h
  split at h
  · rename_i k t x s n a b c d
    simp only [Option.some.injEq, Prod.mk.injEq] at h
    obtain ⟨rfl, rfl⟩ := h
    obtain ⟨h1, h2, _⟩ := ho
    exact spec_run (envMk L8f_ok S8f) rfl (run20 k t x s n a b c d) ⟨by omega, by rw [zs_size]; omega, ⟨by omega, by rw [ByteArray.size_append, zs_size]; omega⟩, by omega, by rw [zs_size]; omega, ⟨by omega, by rw [ByteArray.size_append, zs_size]; omega⟩, trivial⟩ rfl rfl
  · simp at h
def ldC (t : TypeId) (g : Nat → V1) : CT := ⟨3000000 + t, fun vs => match vs with | [.one (.ptr _ off)] => some ([False], .val (g off)) | _ => none⟩
theorem ldC_ok (t : TypeId) (g : Nat → V1) : CTok (ldC t g) := by
  intro vs ob r h ho
  simp only [ldC] at h
  split at h
  · simp only [Option.some.injEq, Prod.mk.injEq] at h
    obtain ⟨rfl, _⟩ := h
    exact ho.1.elim
  · simp at h
def shC : List SK := [.s, .s, .s, .s, .u32, .u32, .u32, .u32, .u32]
theorem u23 : Tryz.prog.underlying 22 = some (.slice 27) := by kernel_rfl
theorem k38 : kindsT Tryz.prog 20 27 = some (shKs shC) := by kernel_rfl
theorem s38 : sizeA Tryz.prog 27 = some (shSz shC) := by kernel_rfl
theorem rd23 : Tryz.prog.readableRec 22 = true := by kernel_rfl
theorem row23 : (22 : Nat) < Tryz.prog.types.size := of_decide_eq_true (by kernel_rfl)
def MC (c : Cells) (len : Nat) : List Blk := [rowB c shC len 27]
theorem wfC {n : Nat} {l : List (Nat × AV)} (c : Cells) (m : Nat) (h : tmsWf 1 (slots n l) = true) : wfS (slots n l) (MC c m) = true := wfS_of (by
  intro b hb
  simp only [MC, List.mem_cons, List.not_mem_nil, or_false] at hb
  rcases hb with rfl
  exact rowB_free _ _ _ _) h
noncomputable def EH (c : Cells) : Env := mkE [ldC 9 fun off => sS (sA c off)] fun f t => match f with | 5 => memN t [10, 13, 20, 27, 34, 41, 24, 31, 38, 45, 16, 2000022, 2000029, 2000036, 2000043] | _ => false
theorem envEH (c : Cells) : EnvOK (EH c) := envMk (show AllCT [ldC 9 fun off => sS (sA c off)] from ⟨ldC_ok _ _, trivial⟩) _
def TH (len cap : Nat) (n : Int) (i : Int) : List AV := slots 48 [(0, sV' len cap), (2, bV false), (3, iV n), (4, iV i)]
def THE (len cap : Nat) (n : Int) : List AV := slots 48 [(0, sV' len cap), (2, bV false), (3, iV n)]
theorem wfTH (c : Cells) (m len cap : Nat) (n i : Int) : wfS (TH len cap n i) (MC c m) = true := wfC c m (by kernel_rfl)
theorem wfTHE (c : Cells) (m len cap : Nat) (n : Int) : wfS (THE len cap n) (MC c m) = true := wfC c m (by kernel_rfl)
theorem ag9 : isAggA Tryz.prog 9 = some false := by kernel_rfl
theorem ag38 : isAggA Tryz.prog 27 = some true := by kernel_rfl
theorem ld9 {c : Cells} {len i : Nat} (f : Nat) (hf : f < 4) (hi : i < len) : LoadsAs Tryz.prog 9 (rowPs c shC len 0) (0 + i * 9 + f) (.one (.v (.string (sA c (0 + i * 9 + f))))) := by
  have h9 : shSz shC = 9 := rfl
  match f, hf with
  | 0, _ => exact loads_fld (sh := shC) (i := i) [] .s [.s, .s, .s, .u32, .u32, .u32, .u32, .u32] rfl ag9 hi (by rw [h9]; simp [shSz]) rfl
  | 1, _ => exact loads_fld (sh := shC) (i := i) [.s] .s [.s, .s, .u32, .u32, .u32, .u32, .u32] rfl ag9 hi (by rw [h9]; simp [shSz, SK.sz]) rfl
  | 2, _ => exact loads_fld (sh := shC) (i := i) [.s, .s] .s [.s, .u32, .u32, .u32, .u32, .u32] rfl ag9 hi (by rw [h9]; simp [shSz, SK.sz]) rfl
  | 3, _ => exact loads_fld (sh := shC) (i := i) [.s, .s, .s] .s [.u32, .u32, .u32, .u32, .u32] rfl ag9 hi (by rw [h9]; simp [shSz, SK.sz]) rfl
theorem ld38 {c : Cells} {len i : Nat} (hi : i < len) : LoadsAs Tryz.prog 27 (rowPs c shC len 0) (0 + i * 9) (.agg (fldPs c shC (0 + i * 9))) :=
  loads_row (sh := shC) (i := i) [] shC [] rfl ag38 s38 hi (by show 0 + i * 9 = i * 9 + 0; omega)
def hn (c : Cells) (n : Int) (i : Nat) : Int := n + ((sA c (0 + i * 9 + 0)).size : Int) + ((sA c (0 + i * 9 + 1)).size : Int) + ((sA c (0 + i * 9 + 2)).size : Int) + ((sA c (0 + i * 9 + 3)).size : Int)
def hv (c : Cells) : Nat → Nat → Int → Int
  | 0, _, n => n
  | k + 1, i, n => bif decide (n < 1048576) then hv c k (i + 1) (hn c n i) else n
theorem hvA (c : Cells) (len : Nat) (cap : Nat) (n : Int) (i : Nat) : runTo (EH c) 1000 (Env.S (EH c) 5) (bodyOf Tryz.prog 5 3) (TH len cap n (↑i : Int)) (MC c len) [true, true] (TH len cap (hn c n i) ((↑i : Int) + (1 : Int))) 1 =
    some ([decide ((↑i : Int) < (↑len : Int)) = true, decide (n < (1048576 : Int)) = true, (0 : Int) ≤ (↑i : Int) ∧ (↑i : Int) < (↑len : Int), LoadsAs Tryz.prog 9 (rowPs c shC len 0) (0 + i * 9 + 0) (V1.one (Atom.v (Value.string (sA c (0 + i * 9 + 0))))), inI (n + (↑(ByteArray.size (sA c (0 + i * 9 + 0))) : Int)), (0 : Int) ≤ (↑i : Int) ∧ (↑i : Int) < (↑len : Int), LoadsAs Tryz.prog 9 (rowPs c shC len 0) (0 + i * 9 + 1) (V1.one (Atom.v (Value.string (sA c (0 + i * 9 + 1))))), inI (n + (↑(ByteArray.size (sA c (0 + i * 9 + 0))) : Int) + (↑(ByteArray.size (sA c (0 + i * 9 + 1))) : Int)), (0 : Int) ≤ (↑i : Int) ∧ (↑i : Int) < (↑len : Int), LoadsAs Tryz.prog 9 (rowPs c shC len 0) (0 + i * 9 + 2) (V1.one (Atom.v (Value.string (sA c (0 + i * 9 + 2))))), inI (n + (↑(ByteArray.size (sA c (0 + i * 9 + 0))) : Int) + (↑(ByteArray.size (sA c (0 + i * 9 + 1))) : Int) + (↑(ByteArray.size (sA c (0 + i * 9 + 2))) : Int)), (0 : Int) ≤ (↑i : Int) ∧ (↑i : Int) < (↑len : Int), LoadsAs Tryz.prog 9 (rowPs c shC len 0) (0 + i * 9 + 3) (V1.one (Atom.v (Value.string (sA c (0 + i * 9 + 3))))), inI (n + (↑(ByteArray.size (sA c (0 + i * 9 + 0))) : Int) + (↑(ByteArray.size (sA c (0 + i * 9 + 1))) : Int) + (↑(ByteArray.size (sA c (0 + i * 9 + 2))) : Int) + (↑(ByteArray.size (sA c (0 + i * 9 + 3))) : Int)), inI ((↑i : Int) + (1 : Int))], .normal, TH len cap (hn c n i) ((i : Int) + 1), MC c len) := by kernel_rfl
theorem hvB (c : Cells) (len : Nat) (cap : Nat) (n : Int) (i : Nat) : runTo (EH c) 1000 (Env.S (EH c) 5) (bodyOf Tryz.prog 5 3) (TH len cap n (↑i : Int)) (MC c len) [true, false] (THE len cap n) 1 =
    some ([decide ((↑i : Int) < (↑len : Int)) = true, decide (n < (1048576 : Int)) = false], .exit 0, THE len cap n, MC c len) := by kernel_rfl
theorem hvC (c : Cells) (len : Nat) (cap : Nat) (n : Int) (i : Nat) : runTo (EH c) 1000 (Env.S (EH c) 5) (bodyOf Tryz.prog 5 3) (TH len cap n (↑i : Int)) (MC c len) [false] (THE len cap n) 1 =
    some ([decide ((↑i : Int) < (↑len : Int)) = false], .exit 0, THE len cap n, MC c len) := by kernel_rfl
abbrev BB : Nat := reachBytes
theorem BB_lt : BB < 140737488355328 := by decide
theorem at_lt {len i f : Nat} (hi : i < len) (hf : f < 9) : 0 + i * 9 + f < len * 9 := by omega
theorem hn_le (c : Cells) (n : Int) (i : Nat) : n ≤ hn c n i := by unfold hn; omega
theorem heavyG (c : Cells) (len cap : Nat) (hB : ∀ j, j < len * 9 → (sA c j).size ≤ BB) (hl : len ≤ maxLen) : ∀ (k i : Nat) (n : Int), i + k = len → 0 ≤ n → GoesN Tryz.prog (bodyOf Tryz.prog 5 3) (k + 1) (.exit 0) (TH len cap n (i : Int)) (MC c len) (THE len cap (hv c k i n)) (MC c len)
  | 0, i, n, hk, _ => GoesN.out (by simp) (Runs.goes (envEH c) ⟨_, _, hvC c len cap n i, ⟨decide_eq_false (by omega), trivial⟩, wfTHE _ _ _ _ _⟩)
  | k + 1, i, n, hk, h0 => by
    have hi : i < len := by omega
    have hii : (0 : Int) ≤ (i : Int) ∧ (i : Int) < (len : Int) := by omega
    have hll : decide ((i : Int) < (len : Int)) = true := decide_eq_true (by omega)
    have hm : maxLen = 9223372036854775807 := by decide
    by_cases hn0 : n < 1048576
    · have s0 := hB _ (at_lt (f := 0) hi (by omega))
      have s1 := hB _ (at_lt (f := 1) hi (by omega))
      have s2 := hB _ (at_lt (f := 2) hi (by omega))
      have s3 := hB _ (at_lt (f := 3) hi (by omega))
      have hb := BB_lt
      have hd : decide (n < 1048576) = true := decide_eq_true hn0
      have ih := heavyG c len cap hB hl k (i + 1) (hn c n i) (by omega) (by have := hn_le c n i; omega)
      rw [show ((i + 1 : Nat) : Int) = (i : Int) + 1 by omega] at ih
      show GoesN Tryz.prog (bodyOf Tryz.prog 5 3) (k + 1 + 1) (.exit 0) (TH len cap n (i : Int)) (MC c len) (THE len cap (bif decide (n < 1048576) then hv c k (i + 1) (hn c n i) else n)) (MC c len)
      rw [hd, cond_true]
      refine GoesN.cons (M1 := MC c len) rfl (Runs.goes (envEH c) ⟨_, _, hvA c len cap n i, ⟨hll, hd, hii, ld9 _ (by omega) hi, ?_, hii, ld9 _ (by omega) hi, ?_, hii, ld9 _ (by omega) hi, ?_, hii, ld9 _ (by omega) hi, ?_, ?_, trivial⟩, wfTH _ _ _ _ _ _⟩) ih
      all_goals (unfold inI; omega)
    · have hd : decide (n < 1048576) = false := decide_eq_false hn0
      show GoesN Tryz.prog (bodyOf Tryz.prog 5 3) (k + 1 + 1) (.exit 0) (TH len cap n (i : Int)) (MC c len) (THE len cap (bif decide (n < 1048576) then hv c k (i + 1) (hn c n i) else n)) (MC c len)
      rw [hd, cond_false]
      exact GoesN.out (by simp) (Runs.goes (envEH c) ⟨_, _, hvB c len cap n i, ⟨hll, hd, trivial⟩, wfTHE _ _ _ _ _⟩)
theorem hv_small (c : Cells) : ∀ (k i : Nat) (n : Int), 0 ≤ n → hv c k i n ≤ 9000 → n ≤ 9000 ∧ ∀ j, i ≤ j → j < i + k → (sA c (0 + j * 9 + 0)).size ≤ 9000 ∧ (sA c (0 + j * 9 + 1)).size ≤ 9000 ∧ (sA c (0 + j * 9 + 2)).size ≤ 9000 ∧ (sA c (0 + j * 9 + 3)).size ≤ 9000
  | 0, i, n, _, h => ⟨h, fun j h1 h2 => by omega⟩
  | k + 1, i, n, h0, h => by
    by_cases hn0 : n < 1048576
    · change (bif decide (n < 1048576) then hv c k (i + 1) (hn c n i) else n) ≤ 9000 at h
      rw [decide_eq_true hn0, cond_true] at h
      have hle := hn_le c n i
      obtain ⟨h1, h2⟩ := hv_small c k (i + 1) (hn c n i) (by omega) h
      refine ⟨by omega, fun j h3 h4 => ?_⟩
      rcases Nat.eq_or_lt_of_le h3 with rfl | h5
      · unfold hn at h1
        refine ⟨?_, ?_, ?_, ?_⟩ <;> omega
      · exact h2 j h5 (by omega)
    · change (bif decide (n < 1048576) then hv c k (i + 1) (hn c n i) else n) ≤ 9000 at h
      rw [decide_eq_false hn0, cond_false] at h
      omega
noncomputable def sumH (c : Cells) (len cap : Nat) : List AV → List Blk → List Bool → CoR := sumC (TH len cap (len : Int) ((0 : Nat) : Int)) (MC c len) (THE len cap (hv c len 0 (len : Int))) (MC c len) (.exit 0)
theorem sumH_ok (c : Cells) (len cap : Nat) (hB : ∀ j, j < len * 9 → (sA c j).size ≤ BB) (hl : len ≤ maxLen) : SumOK Tryz.prog (.loop (bodyOf Tryz.prog 5 3)) (sumH c len cap) :=
  sumC_ok rfl (heavyG c len cap hB hl len 0 (len : Int) (by omega) (by omega)).loop
end Go.Ev.H5

namespace Go.Ev
open Go Go.Proofs Go.RowKit
end Go.Ev

namespace Go.Ev
open Go Go.Proofs Go.RowKit
end Go.Ev

namespace Go.Ev
open Go Go.Proofs Go.RowKit
end Go.Ev

namespace Go.Ev
open Go Go.Proofs Go.RowKit
end Go.Ev

namespace Go.Ev
open Go Go.Proofs Go.RowKit
end Go.Ev

namespace Go.Ev.H5
open Go Go.Proofs Go.RowKit
set_option maxRecDepth 100000
def x01 : ByteArray := ⟨#[1]⟩
noncomputable def kS (k : ByteArray) : ByteArray := x01 ++ (kfit k).extract 1 (kfit k).size
noncomputable def LKk : List CT := ⟨20, fnFit⟩ :: ⟨7, fnZs⟩ :: ⟨10, fnPb⟩ :: ⟨43, fnS [aSp] gOf58⟩ :: ⟨45, cV (.val (P3 wXN wYN false))⟩ :: []
theorem LKk_ok : AllCT LKk := ⟨ct8, ct21z, ct41, ct32s, ctV spec28w, trivial⟩
def SKk : FuncId → Nat → Bool := fun f t => match f with | 6 => memN t [8, 9] | 16 => memN t [5, 16] | _ => false
theorem r41k (k t x s : ByteArray) (n a b c d : Nat) : callR (mkE LKk SKk) 1000 6 [askV k t x s n a b c d] [] =
    some ([k.size ≤ 1000000, t.size ≤ 1000000, (0 : Int) ≤ 1 ∧ (1 : Int) ≤ ((kfit k).size : Int), 1 + ((kfit k).extract 1 (kfit k).size).size ≤ 9223372036854775807], .val (sS (kS k))) := by kernel_rfl
theorem kS_size (k : ByteArray) : (kS k).size = 32 := by
  have h := kfit_size k
  unfold kS
  rw [ByteArray.size_append, ByteArray.size_extract, h]
  rfl
noncomputable def fnKk (vs : List V1) : Option (List Prop × AV) :=
  match vs with
  | [.agg [.a (.v (.string k)), .a (.v (.string t)), .a (.v (.string _)), .a (.v (.string _)), .a (.u .u32 _), .a (.u .u32 _), .a (.u .u32 _), .a (.u .u32 _), .a (.u .u32 _)]] => some ([k.size ≤ 1000000, t.size ≤ 1000000], .val (sS (kS k)))
  | _ => none
theorem ct41k : CTok ⟨6, fnKk⟩ := by
  intro vs ob r h ho
  simp only [fnKk] at h
  split at h
  · rename_i k t x s n a b c d
    simp only [Option.some.injEq, Prod.mk.injEq] at h
    obtain ⟨rfl, rfl⟩ := h
    obtain ⟨h1, h2, _⟩ := ho
    have hz := kfit_size k
    exact spec_run (envMk LKk_ok SKk) rfl (r41k k t x s n a b c d) ⟨h1, h2, by omega, by rw [ByteArray.size_extract, hz]; decide, trivial⟩ rfl rfl
  · simp at h
theorem r46 (z : Nat) : z = z → callR (mkE LKk SKk) 1000 16 [] [true] =
    some ([(0 : Int) ≤ 31 ∧ (31 : Int) ≤ 1000000, 31 + 1 ≤ 9223372036854775807, (zs 31 ++ x01).size = 32, gd (beS (zs 31 ++ x01)) = true, wXN < 4294967296 ^ 8, wYN < 4294967296 ^ 8, ((pubS (zs 31 ++ x01)).toList == (packW wXN wYN).toList) = true], bV true) := fun _ => by kernel_rfl
theorem beS_one : beS (zs 31 ++ x01) = 1 := by decide +kernel
theorem one_size' : (zs 31 ++ x01).size = 32 := by decide +kernel
theorem spec46 : Spec 16 [] (bV true) := by
  have h1 : gd (beS (zs 31 ++ x01)) = true := by rw [beS_one]; decide +kernel
  have h2 : pubS (zs 31 ++ x01) = packW wXN wYN := by
    unfold pubS gBas
    rw [beS_one, gmul_one base_on]
  exact spec_run (envMk LKk_ok SKk) rfl (r46 0 rfl) ⟨by omega, by omega, one_size', h1, L8 wXN_lt, L8 wYN_lt, by rw [h2]; simp, trivial⟩ rfl rfl
end Go.Ev.H5

namespace Go.Ev.H5
open Go Go.Proofs Go.RowKit
set_option maxRecDepth 100000
noncomputable def pbZ (f : NF) (s : ByteArray) : ByteArray := bif f.Y s then pubS s else em
def pbE (f : NF) (s : ByteArray) : Int := bif f.Y s then 0 else 1
noncomputable def LPu (f : NF) : List CT := ⟨28, fnKe f⟩ :: ⟨31, cV (.val (P3 wXN wYN false))⟩ :: ⟨30, fnS [aN, aSp] gMulP⟩ :: ⟨29, fnS [aSp] gOf58⟩ :: []
theorem LPu_ok {f : NF} (hf : NFok f) : AllCT (LPu f) := ⟨hf.c28, ctV spec19w, ct39q, ct58s, trivial⟩
theorem r10n (f : NF) (s : ByteArray) : callR (mkE (LPu f) SPb) 1000 10 [sS s] [true] = some ([s.size ≤ 1000000, (!f.Y s) = true], .tup [sS ⟨#[]⟩, .one (.i 1)]) := by kernel_rfl
theorem spec10x {f : NF} (hf : NFok f) (s : ByteArray) (h : s.size ≤ 1000000) : Spec 10 [sS s] (.tup [sS (pbZ f s), .one (.i (pbE f s))]) := by
  unfold pbZ pbE
  cases hy : f.Y s with
  | false => exact spec_run (envMk (LPu_ok hf) SPb) rfl (r10n f s) ⟨h, nt_t hy, trivial⟩ rfl rfl
  | true =>
    obtain ⟨h1, h2⟩ := hf.yY s hy
    exact ct41 [sS s] _ _ rfl ⟨h1, h2, trivial⟩
structure LF where
  K : ByteArray → ByteArray
  Z : Nat → ByteArray
  Pb : ByteArray → ByteArray
  Pe : ByteArray → Int
  Sg : ByteArray → ByteArray → ByteArray
  Se : ByteArray → ByteArray → Int
  Y : ByteArray → Bool
  X : ByteArray → Nat
  Pp : ByteArray → ByteArray
  Tg : ByteArray → ByteArray → ByteArray
  Te : ByteArray → ByteArray → Int
  G : Nat → ByteArray
  M : Nat
def fnL10 (f : LF) (vs : List V1) : Option (List Prop × AV) := match vs with | [.one (.v (.string s))] => some ([s.size ≤ 1000000], .tup [sS (f.Pb s), .one (.i (f.Pe s))]) | _ => none
def fnL11 (f : LF) (vs : List V1) : Option (List Prop × AV) := match vs with | [.one (.v (.string s)), .one (.v (.string m))] => some ([s.size ≤ 1000000], .tup [sS (f.Sg s m), .one (.i (f.Se s m))]) | _ => none
def fnL12 (f : LF) (vs : List V1) : Option (List Prop × AV) := match vs with | [.one (.v (.string s))] => some ([s.size ≤ 1000000], .tup [N8 (f.X s), .one (.v (.bool (f.Y s)))]) | _ => none
def fnL13 (f : LF) (vs : List V1) : Option (List Prop × AV) := match vs with | [.one (.v (.string s))] => some ([f.Y s = true], .val (sS (f.Pp s))) | _ => none
def fnL14 (f : LF) (vs : List V1) : Option (List Prop × AV) := match vs with | [.one (.v (.string s)), .one (.v (.string m))] => some ([s.size ≤ 1000000, f.Y s = true, m.size ≤ 4096], .tup [sS (f.Tg s m), .one (.i (f.Te s m))]) | _ => none
def fnL6 (f : LF) (vs : List V1) : Option (List Prop × AV) :=
  match vs with
  | [.agg [.a (.v (.string k)), .a (.v (.string t)), .a (.v (.string _)), .a (.v (.string _)), .a (.u .u32 _), .a (.u .u32 _), .a (.u .u32 _), .a (.u .u32 _), .a (.u .u32 _)]] => some ([k.size ≤ 1000000, t.size ≤ 1000000], .val (sS (f.K k)))
  | _ => none
def fnL7 (f : LF) (vs : List V1) : Option (List Prop × AV) := match vs with | [.one (.i z)] => some ([0 ≤ z ∧ z ≤ 1000000], .val (sS (f.Z z.toNat))) | _ => none
def fnL9 (f : LF) (vs : List V1) : Option (List Prop × AV) := match vs with | [.one (.i z)] => some ([z = 3], .val (N8 f.M)) | _ => none
def fnL8 (f : LF) : List V1 → Option (List Prop × AV) := fn1 fun a => .val (sS (f.G a))
structure LFok (f : LF) : Prop where
  c10 : CTok ⟨10, fnL10 f⟩
  c11 : CTok ⟨11, fnL11 f⟩
  c12 : CTok ⟨12, fnL12 f⟩
  c13 : CTok ⟨13, fnL13 f⟩
  c14 : CTok ⟨14, fnL14 f⟩
  c6 : CTok ⟨6, fnL6 f⟩
  c7 : CTok ⟨7, fnL7 f⟩
  c8 : CTok ⟨8, fnL8 f⟩
  c9 : CTok ⟨9, fnL9 f⟩
  pe : ∀ s, f.Pe s = bif f.Y s then 0 else 1
  pb : ∀ s, f.Pb s = bif f.Y s then f.Pp s else em
  se : ∀ s m, f.Se s m = bif f.Y s then (bif decide (m.size ≤ 4096) then f.Te s m else 2) else 1
  sg : ∀ s m, f.Sg s m = bif f.Y s then (bif decide (m.size ≤ 4096) then f.Tg s m else em) else em
  kS : ∀ s, (f.K s).size = 32
  zS : (f.Z 32).size = 32
  gS : ∀ a, (f.G a).size = 32
  mM : f.M < 4294967296 ^ 8
noncomputable def LZ (f : LF) (c : Cells) : List CT := ⟨10, fnL10 f⟩ :: ⟨11, fnL11 f⟩ :: ⟨12, fnL12 f⟩ :: ⟨13, fnL13 f⟩ :: ⟨14, fnL14 f⟩ :: ⟨6, fnL6 f⟩ :: ⟨7, fnL7 f⟩ :: ⟨8, fnL8 f⟩ :: ⟨9, fnL9 f⟩ :: ⟨16, bT⟩ :: ldC 9 (fun off => sS (sA c off)) :: ldC 27 (fun off => .agg (fldPs c shC off)) :: []
def S3l : FuncId → Nat → Bool := fun f t => match f with | 3 => memN t [21, 24, 30, 2000032, 35, 2000036, 27, 63, 2000065, 77, 85, 2000087, 89, 97, 2000099, 106, 111, 116, 121] | 5 => memN t [47] | _ => false
noncomputable def E3e (f : LF) (c : Cells) : Env := mkE (LZ f c) S3l
def T3 (len cap : Nat) (i : Int) : List AV := slots 124 [(0, sV' len cap), (2, bV false), (3, iV i)]
theorem wfT3 (c : Cells) (m len cap : Nat) (i : Int) : wfS (T3 len cap i) (MC c m) = true := wfC c m (by kernel_rfl)
def b4 (w x y z : ByteArray) : Blk := ⟨[.a (.v (.string w)), .a (.v (.string x)), .a (.v (.string y)), .a (.v (.string z))], 9, true, false, 0⟩
def TK (len cap : Nat) (i k : Int) : List AV := slots 124 [(0, sV' len cap), (2, bV false), (3, iV i), (4, .val (.one (.sl 1 0 4 4))), (5, iV k)]
def MK (c : Cells) (m : Nat) (w x y z : ByteArray) : List Blk := [rowB c shC m 27, b4 w x y z]
theorem tTK (len cap : Nat) (i k : Int) : tmsWf 2 (TK len cap i k) = true := by kernel_rfl
theorem wfTK (c : Cells) (m : Nat) (w x y z : ByteArray) (len cap : Nat) (i k : Int) : wfS (TK len cap i k) (MK c m w x y z) = true := wfS_of (by
  intro b hb
  simp only [MK, List.mem_cons, List.not_mem_nil, or_false] at hb
  rcases hb with rfl | rfl
  · exact rowB_free _ _ _ _
  · exact fun _ => rfl) (tTK len cap i k)
theorem neq_ii (z : Int) : (!decide (z = z)) = false := by simp
theorem neq_ss (s : ByteArray) : (!(s.toList == s.toList)) = false := by simp
def ldM (c : Cells) (len i : Nat) : Prop := LoadsAs Tryz.prog 9 (rowPs c shC len 0) (0 + i * 9 + 3) (.one (.v (.string (sA c (0 + i * 9 + 3)))))
def inL (len i : Nat) : Prop := (0 : Int) ≤ (i : Int) ∧ (i : Int) < (len : Int)
def mA (c : Cells) (i : Nat) : ByteArray := sA c (0 + i * 9 + 3)
def lqP (f : LF) (c : Cells) (len i : Nat) (s : ByteArray) : List Prop := [s.size ≤ 1000000, inL len i, ldM c len i, s.size ≤ 1000000, s.size ≤ 1000000]
def lqQ (f : LF) (a b : Int) (p t s m : ByteArray) : List Prop := [(!decide (f.Pe s = a)) = false, (!decide (f.Se s m = b)) = false, (!((f.Pb s).toList == p.toList)) = false, (!((f.Sg s m).toList == t.toList)) = false]
noncomputable def lqA (f : LF) (c : Cells) (len i : Nat) (s : ByteArray) : List Prop := lqP f c len i s ++ [f.Y s = true, f.Y s = true, inL len i, ldM c len i, decide (((mA c i).size : Int) ≤ 4096) = true, inL len i, ldM c len i, s.size ≤ 1000000, f.Y s = true, (mA c i).size ≤ 4096] ++ lqQ f 0 (f.Te s (mA c i)) (f.Pp s) (f.Tg s (mA c i)) s (mA c i)
noncomputable def lqB (f : LF) (c : Cells) (len i : Nat) (s : ByteArray) : List Prop := lqP f c len i s ++ [f.Y s = true, f.Y s = true, inL len i, ldM c len i, decide (((mA c i).size : Int) ≤ 4096) = false] ++ lqQ f 0 2 (f.Pp s) em s (mA c i)
noncomputable def lqC (f : LF) (c : Cells) (len i : Nat) (s : ByteArray) : List Prop := lqP f c len i s ++ [f.Y s = false] ++ lqQ f 1 1 em em s (mA c i)
def at4 (w x y z : ByteArray) (k : Nat) : ByteArray := match k with | 0 => w | 1 => x | 2 => y | _ => z
theorem sKa (f : LF) (c : Cells) (len cap i : Nat) (w x y z : ByteArray) : ∀ k : Nat, k < 4 → runTo (E3e f c) 1000 ((E3e f c).S 3) (bodyOf Tryz.prog 3 8) (TK len cap (i : Int) (k : Int)) (MK c len w x y z) [true, true, false, false, false, false] (TK len cap (i : Int) ((k + 1 : Nat) : Int)) 2 =
    some (lqA f c len i (at4 w x y z k), .normal, TK len cap (i : Int) ((k + 1 : Nat) : Int), MK c len w x y z)
  | 0, _ => by kernel_rfl
  | 1, _ => by kernel_rfl
  | 2, _ => by kernel_rfl
  | 3, _ => by kernel_rfl
theorem sKb (f : LF) (c : Cells) (len cap i : Nat) (w x y z : ByteArray) : ∀ k : Nat, k < 4 → runTo (E3e f c) 1000 ((E3e f c).S 3) (bodyOf Tryz.prog 3 8) (TK len cap (i : Int) (k : Int)) (MK c len w x y z) [true, false, false, false, false, false] (TK len cap (i : Int) ((k + 1 : Nat) : Int)) 2 =
    some (lqB f c len i (at4 w x y z k), .normal, TK len cap (i : Int) ((k + 1 : Nat) : Int), MK c len w x y z)
  | 0, _ => by kernel_rfl
  | 1, _ => by kernel_rfl
  | 2, _ => by kernel_rfl
  | 3, _ => by kernel_rfl
theorem sKc (f : LF) (c : Cells) (len cap i : Nat) (w x y z : ByteArray) : ∀ k : Nat, k < 4 → runTo (E3e f c) 1000 ((E3e f c).S 3) (bodyOf Tryz.prog 3 8) (TK len cap (i : Int) (k : Int)) (MK c len w x y z) [false, false, false, false, false] (TK len cap (i : Int) ((k + 1 : Nat) : Int)) 2 =
    some (lqC f c len i (at4 w x y z k), .normal, TK len cap (i : Int) ((k + 1 : Nat) : Int), MK c len w x y z)
  | 0, _ => by kernel_rfl
  | 1, _ => by kernel_rfl
  | 2, _ => by kernel_rfl
  | 3, _ => by kernel_rfl
theorem sKx (f : LF) (c : Cells) (len cap i : Nat) (w x y z : ByteArray) : runTo (E3e f c) 1000 ((E3e f c).S 3) (bodyOf Tryz.prog 3 8) (TK len cap (i : Int) ((4 : Nat) : Int)) (MK c len w x y z) [] (TK len cap (i : Int) ((4 : Nat) : Int)) 2 =
    some ([], .exit 2, TK len cap (i : Int) ((4 : Nat) : Int), MK c len w x y z) := by kernel_rfl
end Go.Ev.H5

namespace Go.Ev.H5
open Go Go.Proofs Go.RowKit
set_option maxRecDepth 100000
theorem LZ_ok {f : LF} (hf : LFok f) (c : Cells) : AllCT (LZ f c) := ⟨hf.c10, hf.c11, hf.c12, hf.c13, hf.c14, hf.c6, hf.c7, hf.c8, hf.c9, ctT spec46, ldC_ok _ _, ldC_ok _ _, trivial⟩
theorem envE3e {f : LF} (hf : LFok f) (c : Cells) : EnvOK (E3e f c) := envMk (LZ_ok hf c) _
theorem lqP_ok {f : LF} {c : Cells} {len i : Nat} {s : ByteArray} (hi : i < len) (hs : s.size ≤ 1000000) : All (lqP f c len i s) := by
  have hI : inL len i := by unfold inL; omega
  exact ⟨hs, hI, ld9 3 (by decide) hi, hs, hs, trivial⟩
theorem lqQ_ok {f : LF} {a b : Int} {p t s m : ByteArray} (h1 : f.Pe s = a) (h2 : f.Se s m = b) (h3 : f.Pb s = p) (h4 : f.Sg s m = t) : All (lqQ f a b p t s m) := by
  subst h1 h2 h3 h4
  exact ⟨neq_ii _, neq_ii _, neq_ss _, neq_ss _, trivial⟩
theorem lqA_ok {f : LF} (hf : LFok f) {c : Cells} {len i : Nat} {s : ByteArray} (hi : i < len) (hs : s.size ≤ 1000000) (hy : f.Y s = true) (hm : (mA c i).size ≤ 4096) : All (lqA f c len i s) := by
  have hI : inL len i := by unfold inL; omega
  have hL : ldM c len i := ld9 3 (by decide) hi
  refine All_app (All_app (lqP_ok hi hs) ⟨hy, hy, hI, hL, decide_eq_true (by omega), hI, hL, hs, hy, hm, trivial⟩) (lqQ_ok ?_ ?_ ?_ ?_)
  · rw [hf.pe, hy, cond_true]
  · rw [hf.se, hy, cond_true, decide_eq_true hm, cond_true]
  · rw [hf.pb, hy, cond_true]
  · rw [hf.sg, hy, cond_true, decide_eq_true hm, cond_true]
theorem lqB_ok {f : LF} (hf : LFok f) {c : Cells} {len i : Nat} {s : ByteArray} (hi : i < len) (hs : s.size ≤ 1000000) (hy : f.Y s = true) (hm : ¬ (mA c i).size ≤ 4096) : All (lqB f c len i s) := by
  have hI : inL len i := by unfold inL; omega
  have hL : ldM c len i := ld9 3 (by decide) hi
  refine All_app (All_app (lqP_ok hi hs) ⟨hy, hy, hI, hL, decide_eq_false (by omega), trivial⟩) (lqQ_ok ?_ ?_ ?_ ?_)
  · rw [hf.pe, hy, cond_true]
  · rw [hf.se, hy, cond_true, decide_eq_false hm, cond_false]
  · rw [hf.pb, hy, cond_true]
  · rw [hf.sg, hy, cond_true, decide_eq_false hm, cond_false]
theorem lqC_ok {f : LF} (hf : LFok f) {c : Cells} {len i : Nat} {s : ByteArray} (hi : i < len) (hs : s.size ≤ 1000000) (hy : f.Y s = false) : All (lqC f c len i s) := by
  refine All_app (All_app (lqP_ok hi hs) ⟨hy, trivial⟩) (lqQ_ok ?_ ?_ ?_ ?_)
  · rw [hf.pe, hy, cond_false]
  · rw [hf.se, hy, cond_false]
  · rw [hf.pb, hy, cond_false]
  · rw [hf.sg, hy, cond_false]
theorem lKloop {f : LF} (hf : LFok f) (c : Cells) (len cap i : Nat) (hi : i < len) (w x y z : ByteArray) (hb : ∀ k, k < 4 → (at4 w x y z k).size ≤ 1000000) :
    Goes Tryz.prog (.loop (bodyOf Tryz.prog 3 8)) (.exit 2) (TK len cap (i : Int) ((0 : Nat) : Int)) (MK c len w x y z) (TK len cap (i : Int) ((4 : Nat) : Int)) (MK c len w x y z) := by
  refine loop_goes (N := 4) (k := 2) (T := fun k => TK len cap (i : Int) (k : Int)) (M := fun _ => MK c len w x y z) (by simp) (fun _ _ => rfl) (fun k hk => ?_) ?_
  · have hs := hb k hk
    cases hy : f.Y (at4 w x y z k) with
    | true =>
      by_cases hm : (mA c i).size ≤ 4096
      · exact Runs.goes (envE3e hf c) ⟨_, _, sKa f c len cap i w x y z k hk, lqA_ok hf hi hs hy hm, wfTK _ _ _ _ _ _ _ _ _ _⟩
      · exact Runs.goes (envE3e hf c) ⟨_, _, sKb f c len cap i w x y z k hk, lqB_ok hf hi hs hy hm, wfTK _ _ _ _ _ _ _ _ _ _⟩
    | false => exact Runs.goes (envE3e hf c) ⟨_, _, sKc f c len cap i w x y z k hk, lqC_ok hf hi hs hy, wfTK _ _ _ _ _ _ _ _ _ _⟩
  · exact Runs.goes (envE3e hf c) ⟨_, _, sKx f c len cap i w x y z, trivial, wfTK _ _ _ _ _ _ _ _ _ _⟩
noncomputable def kA (c : Cells) (i : Nat) : ByteArray := sA c (0 + i * 9)
noncomputable def EK3 (f : LF) (c : Cells) (len cap i : Nat) : Env := addLp (E3e f c) 8 (bodyOf Tryz.prog 3 8) (sumC (TK len cap (i : Int) ((0 : Nat) : Int)) (MK c len (kA c i) (f.K (kA c i)) (f.Z 32) (f.G f.M)) (TK len cap (i : Int) ((4 : Nat) : Int)) (MK c len (kA c i) (f.K (kA c i)) (f.Z 32) (f.G f.M)) (.exit 2))
noncomputable def stK (f : LF) (c : Cells) (len cap i : Nat) : Prop := (TK len cap (i : Int) ((0 : Nat) : Int), MK c len (kA c i) (f.K (kA c i)) (f.Z 32) (f.G f.M)) = (TK len cap (i : Int) ((0 : Nat) : Int), MK c len (kA c i) (f.K (kA c i)) (f.Z 32) (f.G f.M))
theorem s3a (f : LF) (c : Cells) (len cap i : Nat) : runTo (EK3 f c len cap i) 1000 ((EK3 f c len cap i).S 3) (bodyOf Tryz.prog 3 4) (T3 len cap (i : Int)) (MC c len) [true, true] (T3 len cap ((i : Int) + 1)) 1 =
    some ([decide ((i : Int) < (len : Int)) = true, decide ((i : Int) < 2) = true, inL len i, LoadsAs Tryz.prog 9 (rowPs c shC len 0) (0 + i * 9 + 0) (.one (.v (.string (sA c (0 + i * 9 + 0))))), inL len i, LoadsAs Tryz.prog 27 (rowPs c shC len 0) (0 + i * 9) (.agg (fldPs c shC (0 + i * 9))), (sA c (0 + i * 9)).size ≤ 1000000, (sA c (0 + i * 9 + 1)).size ≤ 1000000,
      (0 : Int) ≤ 32 ∧ (32 : Int) ≤ 1000000, (3 : Int) = 3, f.M < 4294967296 ^ 8, bodyOf Tryz.prog 3 8 = bodyOf Tryz.prog 3 8, stK f c len cap i, wfS (TK len cap (i : Int) ((0 : Nat) : Int)) (MK c len (kA c i) (f.K (kA c i)) (f.Z 32) (f.G f.M)) = true, inI ((i : Int) + 1)], .normal, T3 len cap ((i : Int) + 1), MC c len) := by kernel_rfl
theorem s3o (f : LF) (c : Cells) (len cap i : Nat) : runTo (E3e f c) 1000 ((E3e f c).S 3) (bodyOf Tryz.prog 3 4) (T3 len cap (i : Int)) (MC c len) [false] (T3 len cap (i : Int)) 1 = some ([decide ((i : Int) < (len : Int)) = false], .exit 0, T3 len cap (i : Int), MC c len) := by kernel_rfl
theorem s3p (f : LF) (c : Cells) (len cap i : Nat) : runTo (E3e f c) 1000 ((E3e f c).S 3) (bodyOf Tryz.prog 3 4) (T3 len cap (i : Int)) (MC c len) [true, false] (T3 len cap (i : Int)) 1 = some ([decide ((i : Int) < (len : Int)) = true, decide ((i : Int) < 2) = false], .exit 0, T3 len cap (i : Int), MC c len) := by kernel_rfl
theorem envEK3 {f : LF} (hf : LFok f) (c : Cells) (len cap i : Nat) (hi : i < len) (hk : (kA c i).size ≤ 9000) : EnvOK (EK3 f c len cap i) := by
  refine envAddLp (envE3e hf c) (sumC_ok rfl (lKloop hf c len cap i hi _ _ _ _ ?_))
  intro k hk4
  match k, hk4 with
  | 0, _ => exact Nat.le_trans hk (by decide)
  | 1, _ => exact Nat.le_trans (Nat.le_of_eq (hf.kS _)) (by decide)
  | 2, _ => exact Nat.le_trans (Nat.le_of_eq hf.zS) (by decide)
  | 3, _ => exact Nat.le_trans (Nat.le_of_eq (hf.gS _)) (by decide)
theorem l3loop {f : LF} (hf : LFok f) (c : Cells) (len cap : Nat) (hs : ∀ j, j < len → (sA c (0 + j * 9 + 0)).size ≤ 9000 ∧ (sA c (0 + j * 9 + 1)).size ≤ 9000) : Goes Tryz.prog (.loop (bodyOf Tryz.prog 3 4)) (.exit 0) (T3 len cap ((0 : Nat) : Int)) (MC c len) (T3 len cap ((min len 2 : Nat) : Int)) (MC c len) := by
  refine loop_goes (N := min len 2) (k := 1) (T := fun i => T3 len cap (i : Int)) (M := fun _ => MC c len) (by simp) (fun _ _ => rfl) (fun i hi => ?_) ?_
  · obtain ⟨h1, h2⟩ := hs i (by omega)
    have h1' : (sA c (0 + i * 9)).size ≤ 9000 := h1
    have b1 : inL len i := by unfold inL; omega
    have hi' : i < len := by omega
    exact Runs.goes (envEK3 hf c len cap i hi' h1') ⟨_, _, s3a f c len cap i, ⟨decide_eq_true (by omega), decide_eq_true (by omega), b1, ld9 0 (by decide) hi', b1, ld38 hi', by omega, by omega, by omega, rfl, hf.mM, rfl, rfl, wfTK _ _ _ _ _ _ _ _ _ _, by unfold inI; omega, trivial⟩, wfT3 _ _ _ _ _⟩
  · by_cases h : len ≤ 2
    · rw [show min len 2 = len by omega]
      exact Runs.goes (envE3e hf c) ⟨_, _, s3o f c len cap len, ⟨decide_eq_false (by omega), trivial⟩, wfT3 _ _ _ _ _⟩
    · rw [show min len 2 = 2 by omega]
      exact Runs.goes (envE3e hf c) ⟨_, _, s3p f c len cap 2, ⟨decide_eq_true (by omega), decide_eq_false (by omega), trivial⟩, wfT3 _ _ _ _ _⟩
end Go.Ev.H5

namespace Go.Ev.H5
open Go Go.Proofs Go.RowKit
set_option maxRecDepth 100000
theorem law_runD {E : Env} (hE : EnvOK E) {n : Nat} {f : FuncId} {len cap : Nat} {B : Blk} {c : List Bool} {ob : List Prop}
    (h : dropM (callBy E (evalC E n) f [.one (.sl 0 0 len cap)] [B] c) = some (ob, bV true)) (ho : All ob) {w : World} {φ : Loc} (hm : MRel w φ [B] w) :
    Calls E.P f #[(V1.one (.sl 0 0 len cap)).conc φ] w (Trues w) := by
  obtain ⟨c', m', h'⟩ := dropM_some h
  exact law_run hE h' ho hm
theorem law_nilD {E : Env} (hE : EnvOK E) {n : Nat} {f : FuncId} {c : List Bool} {ob : List Prop}
    (h : dropM (callBy E (evalC E n) f [.one (.v (.slice none 0 0))] [] c) = some (ob, bV true)) (ho : All ob) (w : World) :
    Calls E.P f #[.slice none 0 0] w (Trues w) := by
  obtain ⟨c', m', h'⟩ := dropM_some h
  exact law_run_nil hE h' ho w

def c0 : Cells := ⟨fun _ => false, fun _ => ByteArray.empty, fun _ => 0, fun _ => 0⟩
noncomputable def EH3 (f : LF) (c : Cells) (len cap : Nat) : Env := addLp (E3e f c) 3 (bodyOf Tryz.prog 5 3) (sumH c len cap)
theorem envEH3 {f : LF} (hf : LFok f) (c : Cells) (len cap : Nat) (hB : ∀ j, j < len * 9 → (sA c j).size ≤ BB) (hl : len ≤ maxLen) : EnvOK (EH3 f c len cap) := envAddLp (envE3e hf c) (sumH_ok c len cap hB hl)
noncomputable def EE3 (f : LF) (c : Cells) (len cap : Nat) : Env := addLp (EH3 f c len cap) 4 (bodyOf Tryz.prog 3 4) (sumC (T3 len cap ((0 : Nat) : Int)) (MC c len) (T3 len cap ((min len 2 : Nat) : Int)) (MC c len) (.exit 0))
theorem envEE3 {f : LF} (hf : LFok f) (c : Cells) (len cap : Nat) (hB : ∀ j, j < len * 9 → (sA c j).size ≤ BB) (hl : len ≤ maxLen) (hs : ∀ j, j < len → (sA c (0 + j * 9 + 0)).size ≤ 9000 ∧ (sA c (0 + j * 9 + 1)).size ≤ 9000) : EnvOK (EE3 f c len cap) := envAddLp (envEH3 hf c len cap hB hl) (sumC_ok rfl (l3loop hf c len cap hs))
theorem l3hv (f : LF) (c : Cells) (len cap : Nat) : dropM (callBy (EH3 f c len cap) (evalC (EH3 f c len cap) 1000) 3 [V1.one (Atom.sl 0 0 len cap)] [rowB c shC len 27] [true]) =
    some ([bodyOf Tryz.prog 5 3 = bodyOf Tryz.prog 5 3, (TH len cap (len : Int) ((0 : Nat) : Int), MC c len) = (TH len cap (len : Int) ((0 : Nat) : Int), MC c len), wfS (TH len cap (len : Int) ((0 : Nat) : Int)) (MC c len) = true, decide ((9000 : Int) < hv c len 0 (len : Int)) = true], bV true) := by kernel_rfl
theorem l3ok (f : LF) (c : Cells) (len cap : Nat) : dropM (callBy (EE3 f c len cap) (evalC (EE3 f c len cap) 1000) 3 [V1.one (Atom.sl 0 0 len cap)] [rowB c shC len 27] [false]) =
    some ([bodyOf Tryz.prog 5 3 = bodyOf Tryz.prog 5 3, (TH len cap (len : Int) ((0 : Nat) : Int), MC c len) = (TH len cap (len : Int) ((0 : Nat) : Int), MC c len), wfS (TH len cap (len : Int) ((0 : Nat) : Int)) (MC c len) = true, decide ((9000 : Int) < hv c len 0 (len : Int)) = false, bodyOf Tryz.prog 3 4 = bodyOf Tryz.prog 3 4, (T3 len cap ((0 : Nat) : Int), MC c len) = (T3 len cap ((0 : Nat) : Int), MC c len), wfS (T3 len cap ((0 : Nat) : Int)) (MC c len) = true], bV true) := by kernel_rfl
theorem l3nil (f : LF) (c : Cells) : dropM (callBy (E3e f c) (evalC (E3e f c) 1000) 3 [V1.one (Atom.v (Value.slice none 0 0))] [] [false, false]) =
    some ([decide ((9000 : Int) < ((0 : Nat) : Int)) = false, decide ((0 : Int) < ((0 : Nat) : Int)) = false], bV true) := by kernel_rfl
theorem l3nilc {f : LF} (hf : LFok f) (w : World) : Calls Tryz.prog 3 #[.slice none 0 0] w (Trues w) := law_nilD (envE3e hf c0) (l3nil f c0) ⟨by decide, by decide, trivial⟩ w
theorem law3G {f : LF} (hf : LFok f) {H : Type} {enc : TypeId × Value → H} {r : Reach} {W : World} {base : Nat} {v : Value} {d : DataW H} {ps : List MemPlace} (hval : Value.okWide Tryz.prog W r base 22 v) (h : DataW.Trod enc Tryz.prog W 0 (fun _ => true) true 22 v d ps) (hwt : ∀ n ∈ d.weights Tryz.prog 22, n ≤ BB) :
    Calls Tryz.prog 3 #[v] W (Trues W) := by
  refine rows_calls_sized shC (B := BB) (Q := Trues) u23 k38 s38 (l3nilc hf) ?_ hval h hwt
  intro c len cap hlc hcap ho hB w φ hmr
  have hl : len ≤ maxLen := by omega
  have hB' : ∀ j, j < len * 9 → (sA c j).size ≤ BB := hB
  by_cases hh : 9000 < hv c len 0 (len : Int)
  · exact law_runD (envEH3 hf c len cap hB' hl) (l3hv f c len cap) ⟨rfl, rfl, wfTH _ _ _ _ _ _, decide_eq_true hh, trivial⟩ hmr
  · have hs := (hv_small c len 0 (len : Int) (by omega) (by omega)).2
    refine law_runD (envEE3 hf c len cap hB' hl ?_) (l3ok f c len cap) ⟨rfl, rfl, wfTH _ _ _ _ _ _, decide_eq_false hh, rfl, rfl, wfT3 _ _ _ _ _, trivial⟩ hmr
    intro j hj
    obtain ⟨h1, h2, h3, h4⟩ := hs j (Nat.zero_le _) (by omega)
    exact ⟨h1, h2⟩
end Go.Ev.H5

namespace Go.Ev.H5
open Go Go.Proofs Go.RowKit
set_option maxRecDepth 100000
noncomputable def lf (f : NF) : LF := ⟨kS, zs, pbZ f, pbE f, sgZ f, sgE f, f.Y, f.K, pubS, tgZ f, tgE f, bgS, modN 3⟩
theorem cl10 {f : NF} (hf : NFok f) : CTok ⟨10, fnL10 (lf f)⟩ := by
  intro vs ob r h ho
  simp only [fnL10] at h
  split at h
  · simp only [Option.some.injEq, Prod.mk.injEq] at h
    obtain ⟨rfl, rfl⟩ := h
    exact spec10x hf _ ho.1
  · simp at h
theorem cl11 {f : NF} (hf : NFok f) : CTok ⟨11, fnL11 (lf f)⟩ := by
  intro vs ob r h ho
  simp only [fnL11] at h
  split at h
  · simp only [Option.some.injEq, Prod.mk.injEq] at h
    obtain ⟨rfl, rfl⟩ := h
    exact spec11 hf _ _ ho.1
  · simp at h
theorem cl12 {f : NF} (hf : NFok f) : CTok ⟨12, fnL12 (lf f)⟩ := hf.c12
theorem cl13 {f : NF} (hf : NFok f) : CTok ⟨13, fnL13 (lf f)⟩ := by
  intro vs ob r h ho
  simp only [fnL13] at h
  split at h
  · simp only [Option.some.injEq, Prod.mk.injEq] at h
    obtain ⟨rfl, rfl⟩ := h
    rename_i s
    exact ct30 [sS s] _ _ rfl ⟨(hf.yY s ho.1).1, trivial⟩
  · simp at h
theorem cl14 {f : NF} (hf : NFok f) : CTok ⟨14, fnL14 (lf f)⟩ := by
  intro vs ob r h ho
  simp only [fnL14] at h
  split at h
  · simp only [Option.some.injEq, Prod.mk.injEq] at h
    obtain ⟨rfl, rfl⟩ := h
    exact spec14 hf _ _ ho.1 ho.2.1 ho.2.2.1
  · simp at h
theorem cl8 {f : NF} : CTok ⟨8, fnL8 (lf f)⟩ := ct60b
theorem cl9 {f : NF} : CTok ⟨9, fnL9 (lf f)⟩ := by
  intro vs ob r h ho
  simp only [fnL9] at h
  split at h
  · simp only [Option.some.injEq, Prod.mk.injEq] at h
    obtain ⟨rfl, rfl⟩ := h
    obtain ⟨rfl, _⟩ := ho
    exact spec9m
  · simp at h
theorem lfOk {f : NF} (hf : NFok f) : LFok (lf f) :=
  ⟨cl10 hf, cl11 hf, cl12 hf, cl13 hf, cl14 hf, ct41k, ct21z, cl8, cl9, fun _ => rfl, fun _ => rfl, fun _ _ => rfl, fun _ _ => rfl, kS_size, zs_size 32, Go.Ev.bgS_size, modN_lt 3⟩
theorem law3 {H : Type} {enc : TypeId × Value → H} {r : Reach} {W : World} {base : Nat} {v : Value} {d : DataW H} {ps : List MemPlace} (hval : Value.okWide Tryz.prog W r base 22 v) (h : DataW.Trod enc Tryz.prog W 0 (fun _ => true) true 22 v d ps) (hwt : ∀ n ∈ d.weights Tryz.prog 22, n ≤ BB) :
    Calls Tryz.prog 3 #[v] W (Trues W) := law3G (lfOk nfOk) hval h hwt
end Go.Ev.H5

namespace Go.Proofs.YtjiiaeljpllahaaGreat.Laws
open Go Go.Ev Go.Ev.H5 Go.RowKit Go.ChangeShapes Go.WideShapes Go.ChangeAt

set_option maxRecDepth 100000 in
theorem lifted3 (os : Os) (started : os.Started) (H : Type) (enc : TypeId × Value → H) :
    ReturnsInHanded {} Tryz.checked os 3 .any (Rows.ecsigSignsSpec.pre6 enc Tryz.prog Tryz.f3 Rows.ecsigSignsRow.domain false) (Rows.ecsigSignsSpec.post enc Tryz.prog Tryz.f3 false true false false) := by
  refine returnsInHanded_of_change_sized (C := Tryz.checked) own started (by kernel_rfl) Tryz.func3
    (ChangeSpec.witness6 (enc := enc) (C := Tryz.checked) false ⟨#[], #[.slice none 0 0], []⟩ 8 (by kernel_rfl) (by kernel_rfl) (by kernel_rfl) (by kernel_rfl)) ?_
  intro W base args ds gs before hval0 hW _ hsz0 _
  have hsz : (DataW.weightsEach Tryz.prog (Tryz.f3.params.toList ++ Rows.ecsigSignsSpec.plain.varTypes Tryz.prog) (ds ++ gs)).all (· ≤ reachBytes) = true := hsz0
  clear hsz0
  have hval : ∀ (j : Nat) t v, Tryz.f3.params[j]? = some t → args[j]? = some v → Value.okWide Tryz.prog W .any base t v := hval0
  have hW' := hW
  obtain ⟨p, q, hA0, hV, hbef, hfz, hnd⟩ := hW
  have hp : Tryz.f3.params = #[22] := by kernel_rfl
  have hA : DataW.TrodAll enc Tryz.prog W 0 (fun _ => true) true Tryz.f3.params.toList args.toList ds p := hA0
  rw [hp] at hA hval
  obtain ⟨v0, d0, rfl, rfl, h0⟩ := trodAll_one hA
  obtain ⟨rfl, rfl⟩ := trodVars_none hV
  refine (law3 (hval 0 22 v0 rfl rfl) h0 (fun n hn => by simpa using List.all_eq_true.1 hsz n (DataW.weights_mem_each (j := 0) (t := 22) (by rw [hp]; rfl) rfl n hn))).mono ?_
  rintro e W' ⟨rfl, hb⟩
  exact ⟨_, rfl, post_true (tb := 4) rfl hp (by kernel_rfl) u4 laid rd23 row23 rfl rfl hW' hb⟩

theorem holds3 : Rows.EcsigSignsSaid :=
  OpenClaim.holds_of_wide 3 Tryz.f3 rfl rfl rfl rfl rfl rfl rfl ⟨rfl, rfl, rfl, rfl, rfl⟩ rfl rfl rfl rfl rfl (by kernel_rfl) Tryz.func3 (by kernel_rfl)
    (of_decide_eq_true (by kernel_rfl)) (by unfold Func.isWrapper; first | (rw [if_pos (by decide +kernel)]; kernel_rfl) | (rw [if_neg (by decide +kernel)]; exact ⟨rfl, rfl⟩))
    (fun os started H enc _ => lifted3 os started H enc)

end Go.Proofs.YtjiiaeljpllahaaGreat.Laws

namespace Go.Proofs.YtjiiaeljpllahaaGreat
open Go
theorem ecsigSigns_holds : Rows.EcsigSignsSaid := Laws.holds3
end Go.Proofs.YtjiiaeljpllahaaGreat

