/- Ed25519: what the program and the page come to, and the law; X; The law, of every input: EdsigBack holds of every argument -/
import Derived.Test.YtgdaenfdialhoaaPartR
import Derived.Test.YtgdaenfdialhoaaPartK
import Derived.Test.YtgdaenfdialhoaaPartN
import Derived.JoinedOf
import Derived.SizedLaws
namespace Go.Ev.H5
open Go Go.Proofs Go.RowKit
def ldC (t : TypeId) (g : Nat → V1) : CT := ⟨3000000 + t, fun vs => match vs with | [.one (.ptr _ off)] => some ([False], .val (g off)) | _ => none⟩
theorem ldC_ok (t : TypeId) (g : Nat → V1) : CTok (ldC t g) := by
  intro vs ob r h ho
  simp only [ldC] at h
  split at h
  · simp only [Option.some.injEq, Prod.mk.injEq] at h
    obtain ⟨rfl, _⟩ := h
    exact ho.1.elim
  · simp at h
def shC : List SK := [.s, .s, .s, .s, .u32, .u32, .u32, .u32, .u32]
theorem u23 : Try.prog.underlying 77 = some (.slice 81) := by kernel_rfl
theorem k38 : kindsT Try.prog 20 81 = some (shKs shC) := by kernel_rfl
theorem s38 : sizeA Try.prog 81 = some (shSz shC) := by kernel_rfl
def MC (c : Cells) (len : Nat) : List Blk := [rowB c shC len 81]
theorem wfC {n : Nat} {l : List (Nat × AV)} (c : Cells) (m : Nat) (h : tmsWf 1 (slots n l) = true) : wfS (slots n l) (MC c m) = true := wfS_of (by
  intro b hb
  simp only [MC, List.mem_cons, List.not_mem_nil, or_false] at hb
  rcases hb with rfl
  exact rowB_free _ _ _ _) h
noncomputable def EH (c : Cells) : Env := mkE [ldC 9 fun off => sS (sA c off)] fun f t => match f with | 45 => memN t [10, 13, 20, 27, 34, 41, 24, 31, 38, 45, 16, 2000022, 2000029, 2000036, 2000043] | _ => false
theorem envEH (c : Cells) : EnvOK (EH c) := envMk (show AllCT [ldC 9 fun off => sS (sA c off)] from ⟨ldC_ok _ _, trivial⟩) _
def TH (len cap : Nat) (n : Int) (i : Int) : List AV := slots 48 [(0, sV' len cap), (2, bV false), (3, iV n), (4, iV i)]
def THE (len cap : Nat) (n : Int) : List AV := slots 48 [(0, sV' len cap), (2, bV false), (3, iV n)]
theorem wfTH (c : Cells) (m len cap : Nat) (n i : Int) : wfS (TH len cap n i) (MC c m) = true := wfC c m (by kernel_rfl)
theorem wfTHE (c : Cells) (m len cap : Nat) (n : Int) : wfS (THE len cap n) (MC c m) = true := wfC c m (by kernel_rfl)
theorem ag9 : isAggA Try.prog 9 = some false := by kernel_rfl
theorem ag38 : isAggA Try.prog 81 = some true := by kernel_rfl
theorem ld9 {c : Cells} {len i : Nat} (f : Nat) (hf : f < 4) (hi : i < len) : LoadsAs Try.prog 9 (rowPs c shC len 0) (0 + i * 9 + f) (.one (.v (.string (sA c (0 + i * 9 + f))))) := by
  have h9 : shSz shC = 9 := rfl
  match f, hf with
  | 0, _ => exact loads_fld (sh := shC) (i := i) [] .s [.s, .s, .s, .u32, .u32, .u32, .u32, .u32] rfl ag9 hi (by rw [h9]; simp [shSz]) rfl
  | 1, _ => exact loads_fld (sh := shC) (i := i) [.s] .s [.s, .s, .u32, .u32, .u32, .u32, .u32] rfl ag9 hi (by rw [h9]; simp [shSz, SK.sz]) rfl
  | 2, _ => exact loads_fld (sh := shC) (i := i) [.s, .s] .s [.s, .u32, .u32, .u32, .u32, .u32] rfl ag9 hi (by rw [h9]; simp [shSz, SK.sz]) rfl
  | 3, _ => exact loads_fld (sh := shC) (i := i) [.s, .s, .s] .s [.u32, .u32, .u32, .u32, .u32] rfl ag9 hi (by rw [h9]; simp [shSz, SK.sz]) rfl
theorem ld38 {c : Cells} {len i : Nat} (hi : i < len) : LoadsAs Try.prog 81 (rowPs c shC len 0) (0 + i * 9) (.agg (fldPs c shC (0 + i * 9))) :=
  loads_row (sh := shC) (i := i) [] shC [] rfl ag38 s38 hi (by show 0 + i * 9 = i * 9 + 0; omega)
def hn (c : Cells) (n : Int) (i : Nat) : Int := n + ((sA c (0 + i * 9 + 0)).size : Int) + ((sA c (0 + i * 9 + 1)).size : Int) + ((sA c (0 + i * 9 + 2)).size : Int) + ((sA c (0 + i * 9 + 3)).size : Int)
def hv (c : Cells) : Nat → Nat → Int → Int
  | 0, _, n => n
  | k + 1, i, n => bif decide (n < 1048576) then hv c k (i + 1) (hn c n i) else n
theorem hvA (c : Cells) (len : Nat) (cap : Nat) (n : Int) (i : Nat) : runTo (EH c) 1000 (Env.S (EH c) 45) (bodyOf Try.prog 45 3) (TH len cap n (↑i : Int)) (MC c len) [true, true] (TH len cap (hn c n i) ((↑i : Int) + (1 : Int))) 1 =
    some ([decide ((↑i : Int) < (↑len : Int)) = true, decide (n < (1048576 : Int)) = true, (0 : Int) ≤ (↑i : Int) ∧ (↑i : Int) < (↑len : Int), LoadsAs Try.prog 9 (rowPs c shC len 0) (0 + i * 9 + 0) (V1.one (Atom.v (Value.string (sA c (0 + i * 9 + 0))))), inI (n + (↑(ByteArray.size (sA c (0 + i * 9 + 0))) : Int)), (0 : Int) ≤ (↑i : Int) ∧ (↑i : Int) < (↑len : Int), LoadsAs Try.prog 9 (rowPs c shC len 0) (0 + i * 9 + 1) (V1.one (Atom.v (Value.string (sA c (0 + i * 9 + 1))))), inI (n + (↑(ByteArray.size (sA c (0 + i * 9 + 0))) : Int) + (↑(ByteArray.size (sA c (0 + i * 9 + 1))) : Int)), (0 : Int) ≤ (↑i : Int) ∧ (↑i : Int) < (↑len : Int), LoadsAs Try.prog 9 (rowPs c shC len 0) (0 + i * 9 + 2) (V1.one (Atom.v (Value.string (sA c (0 + i * 9 + 2))))), inI (n + (↑(ByteArray.size (sA c (0 + i * 9 + 0))) : Int) + (↑(ByteArray.size (sA c (0 + i * 9 + 1))) : Int) + (↑(ByteArray.size (sA c (0 + i * 9 + 2))) : Int)), (0 : Int) ≤ (↑i : Int) ∧ (↑i : Int) < (↑len : Int), LoadsAs Try.prog 9 (rowPs c shC len 0) (0 + i * 9 + 3) (V1.one (Atom.v (Value.string (sA c (0 + i * 9 + 3))))), inI (n + (↑(ByteArray.size (sA c (0 + i * 9 + 0))) : Int) + (↑(ByteArray.size (sA c (0 + i * 9 + 1))) : Int) + (↑(ByteArray.size (sA c (0 + i * 9 + 2))) : Int) + (↑(ByteArray.size (sA c (0 + i * 9 + 3))) : Int)), inI ((↑i : Int) + (1 : Int))], .normal, TH len cap (hn c n i) ((i : Int) + 1), MC c len) := by kernel_rfl
theorem hvB (c : Cells) (len : Nat) (cap : Nat) (n : Int) (i : Nat) : runTo (EH c) 1000 (Env.S (EH c) 45) (bodyOf Try.prog 45 3) (TH len cap n (↑i : Int)) (MC c len) [true, false] (THE len cap n) 1 =
    some ([decide ((↑i : Int) < (↑len : Int)) = true, decide (n < (1048576 : Int)) = false], .exit 0, THE len cap n, MC c len) := by kernel_rfl
theorem hvC (c : Cells) (len : Nat) (cap : Nat) (n : Int) (i : Nat) : runTo (EH c) 1000 (Env.S (EH c) 45) (bodyOf Try.prog 45 3) (TH len cap n (↑i : Int)) (MC c len) [false] (THE len cap n) 1 =
    some ([decide ((↑i : Int) < (↑len : Int)) = false], .exit 0, THE len cap n, MC c len) := by kernel_rfl
abbrev BB : Nat := reachBytes
theorem BB_lt : BB < 140737488355328 := by decide
theorem at_lt {len i f : Nat} (hi : i < len) (hf : f < 9) : 0 + i * 9 + f < len * 9 := by omega
theorem hn_le (c : Cells) (n : Int) (i : Nat) : n ≤ hn c n i := by unfold hn; omega
theorem heavyG (c : Cells) (len cap : Nat) (hB : ∀ j, j < len * 9 → (sA c j).size ≤ BB) (hl : len ≤ maxLen) : ∀ (k i : Nat) (n : Int), i + k = len → 0 ≤ n → GoesN Try.prog (bodyOf Try.prog 45 3) (k + 1) (.exit 0) (TH len cap n (i : Int)) (MC c len) (THE len cap (hv c k i n)) (MC c len)
  | 0, i, n, hk, _ => GoesN.out (by simp) (Runs.goes (envEH c) ⟨_, _, hvC c len cap n i, ⟨decide_eq_false (by omega), trivial⟩, wfTHE _ _ _ _ _⟩)
  | k + 1, i, n, hk, h0 => by
    have hi : i < len := by omega
    have hii : (0 : Int) ≤ (i : Int) ∧ (i : Int) < (len : Int) := by omega
    have hll : decide ((i : Int) < (len : Int)) = true := decide_eq_true (by omega)
    have hm : maxLen = 9223372036854775807 := by decide
    by_cases hn0 : n < 1048576
    · have s0 := hB _ (at_lt (f := 0) hi (by omega))
      have s1 := hB _ (at_lt (f := 1) hi (by omega))
      have s2 := hB _ (at_lt (f := 2) hi (by omega))
      have s3 := hB _ (at_lt (f := 3) hi (by omega))
      have hb := BB_lt
      have hd : decide (n < 1048576) = true := decide_eq_true hn0
      have ih := heavyG c len cap hB hl k (i + 1) (hn c n i) (by omega) (by have := hn_le c n i; omega)
      rw [show ((i + 1 : Nat) : Int) = (i : Int) + 1 by omega] at ih
      show GoesN Try.prog (bodyOf Try.prog 45 3) (k + 1 + 1) (.exit 0) (TH len cap n (i : Int)) (MC c len) (THE len cap (bif decide (n < 1048576) then hv c k (i + 1) (hn c n i) else n)) (MC c len)
      rw [hd, cond_true]
      refine GoesN.cons (M1 := MC c len) rfl (Runs.goes (envEH c) ⟨_, _, hvA c len cap n i, ⟨hll, hd, hii, ld9 _ (by omega) hi, ?_, hii, ld9 _ (by omega) hi, ?_, hii, ld9 _ (by omega) hi, ?_, hii, ld9 _ (by omega) hi, ?_, ?_, trivial⟩, wfTH _ _ _ _ _ _⟩) ih
      all_goals (unfold inI; omega)
    · have hd : decide (n < 1048576) = false := decide_eq_false hn0
      show GoesN Try.prog (bodyOf Try.prog 45 3) (k + 1 + 1) (.exit 0) (TH len cap n (i : Int)) (MC c len) (THE len cap (bif decide (n < 1048576) then hv c k (i + 1) (hn c n i) else n)) (MC c len)
      rw [hd, cond_false]
      exact GoesN.out (by simp) (Runs.goes (envEH c) ⟨_, _, hvB c len cap n i, ⟨hll, hd, trivial⟩, wfTHE _ _ _ _ _⟩)
theorem hv_small (c : Cells) : ∀ (k i : Nat) (n : Int), 0 ≤ n → hv c k i n ≤ 9000 → n ≤ 9000 ∧ ∀ j, i ≤ j → j < i + k → (sA c (0 + j * 9 + 0)).size ≤ 9000 ∧ (sA c (0 + j * 9 + 1)).size ≤ 9000 ∧ (sA c (0 + j * 9 + 2)).size ≤ 9000 ∧ (sA c (0 + j * 9 + 3)).size ≤ 9000
  | 0, i, n, _, h => ⟨h, fun j h1 h2 => by omega⟩
  | k + 1, i, n, h0, h => by
    by_cases hn0 : n < 1048576
    · change (bif decide (n < 1048576) then hv c k (i + 1) (hn c n i) else n) ≤ 9000 at h
      rw [decide_eq_true hn0, cond_true] at h
      have hle := hn_le c n i
      obtain ⟨h1, h2⟩ := hv_small c k (i + 1) (hn c n i) (by omega) h
      refine ⟨by omega, fun j h3 h4 => ?_⟩
      rcases Nat.eq_or_lt_of_le h3 with rfl | h5
      · unfold hn at h1
        refine ⟨?_, ?_, ?_, ?_⟩ <;> omega
      · exact h2 j h5 (by omega)
    · change (bif decide (n < 1048576) then hv c k (i + 1) (hn c n i) else n) ≤ 9000 at h
      rw [decide_eq_false hn0, cond_false] at h
      omega
noncomputable def sumH (c : Cells) (len cap : Nat) : List AV → List Blk → List Bool → CoR := sumC (TH len cap (len : Int) ((0 : Nat) : Int)) (MC c len) (THE len cap (hv c len 0 (len : Int))) (MC c len) (.exit 0)
theorem sumH_ok (c : Cells) (len cap : Nat) (hB : ∀ j, j < len * 9 → (sA c j).size ≤ BB) (hl : len ≤ maxLen) : SumOK Try.prog (.loop (bodyOf Try.prog 45 3)) (sumH c len cap) :=
  sumC_ok rfl (heavyG c len cap hB hl len 0 (len : Int) (by omega) (by omega)).loop
end Go.Ev.H5

namespace Go.Ev.H5
open Go Go.Proofs Go.RowKit
def bP : Pt := (bXN, bYN)
theorem bP_on : bP.on := on_of onE_base
theorem nmul_mul {p : Pt} (hp : p.on) (a : Nat) : ∀ b, nmul (nmul p a) b = nmul p (a * b)
  | 0 => rfl
  | b + 1 => by
    show gadd (nmul (nmul p a) b) (nmul p a) = _
    rw [nmul_mul hp a b, Nat.mul_succ, nmul_add hp]
theorem nmul_none : ∀ k, nmul gnone k = gnone
  | 0 => rfl
  | k + 1 => by
    show gadd (nmul gnone k) gnone = gnone
    rw [nmul_none k, gadd_none gnone_on]
theorem bP_of {L : Nat} (h : nmX L bXN bYN = 0 ∧ nmY L bXN bYN = 1) : nmul bP L = gnone := Prod.ext h.1 h.2
theorem bP_order : nmul bP (modN 2) = gnone := bP_of nm_order
theorem nmul_mod (n : Nat) : nmul bP (n % modN 2) = nmul bP n := by
  have h := nmul_add bP_on (modN 2 * (n / modN 2)) (n % modN 2)
  rw [Nat.div_add_mod, ← nmul_mul bP_on, bP_order, nmul_none, gadd_comm gnone_on (nmul_on bP_on _), gadd_none (nmul_on bP_on _)] at h
  exact h.symm
theorem nmul_two {p q : Pt} (hp : p.on) (hq : q.on) : ∀ k, nmul (gadd p q) k = gadd (nmul p k) (nmul q k)
  | 0 => (gadd_none gnone_on).symm
  | k + 1 => by
    show gadd (nmul (gadd p q) k) (gadd p q) = gadd (gadd (nmul p k) p) (gadd (nmul q k) q)
    have a := nmul_on hp k
    have b := nmul_on hq k
    rw [nmul_two hp hq k, gadd_assoc a b (gadd_on hp hq), gadd_assoc a hp (gadd_on b hq)]
    congr 1
    rw [← gadd_assoc b hp hq, gadd_comm b hp, gadd_assoc hp b hq]
theorem back {r k a S : Nat} (h : S = addM (modN 2) r (mulM (modN 2) k (remN (joinN a 0) (modN 2)))) :
    gadd (nmul bP S) (nmul (gneg (nmul bP a)) k) = nmul bP r := by
  have hA := nmul_on bP_on a
  have e1 : nmul bP S = nmul bP (r + a * k) := by
    rw [← nmul_mod S, ← nmul_mod (r + a * k)]
    congr 1
    rw [h]
    unfold addM mulM remN joinN
    rw [Nat.mod_mod, Nat.mul_zero, Nat.add_zero]
    rw [Nat.add_mod, Nat.mod_mod, Nat.mul_mod k (a % modN 2), Nat.mod_mod, ← Nat.mul_mod, Nat.mul_comm k a, ← Nat.add_mod]
  rw [e1, nmul_add bP_on, ← nmul_mul bP_on, gadd_assoc (nmul_on bP_on r) (nmul_on hA k) (nmul_on (gneg_on hA) k), ← nmul_two hA (gneg_on hA), gadd_neg hA, nmul_none, gadd_none (nmul_on bP_on r)]
theorem back_XY {r k a S : Nat} (h : S = addM (modN 2) r (mulM (modN 2) k (remN (joinN a 0) (modN 2)))) :
    boX S bXN bYN k (subM (modN 0) 0 (nmX a bXN bYN)) (nmY a bXN bYN) = nmX r bXN bYN ∧ boY S bXN bYN k (subM (modN 0) 0 (nmX a bXN bYN)) (nmY a bXN bYN) = nmY r bXN bYN := by
  have hg := back h
  exact ⟨congrArg Prod.fst hg, congrArg Prod.snd hg⟩
theorem cut_left (a b : ByteArray) (h : a.size = 32) : loS (a ++ b) = a := by
  unfold loS
  exact ByteArray.extract_append_eq_left h.symm
theorem cut_right (a b : ByteArray) (h : a.size = 32) (hb : b.size = 32) : hiS (a ++ b) = b := by
  unfold hiS
  rw [ByteArray.size_append, h, hb]
  exact ByteArray.extract_append_eq_right h.symm (by omega)
theorem sgS_lt (s m : ByteArray) : sgS s m < modN 2 := addM_lt (modN_pos 2)
theorem sign_lo (s m : ByteArray) : loS (signB s m) = pubB (sgR s m) := by unfold signB; exact cut_left _ _ (pubB_size _)
theorem sign_hi (s m : ByteArray) : vrS (signB s m) = sgS s m := by
  unfold vrS signB
  rw [cut_right _ _ (pubB_size _) (by rw [strOf_size, leB_length])]
  exact leS_leB (L8 (sgS_lt s m))
theorem signB_size' (s m : ByteArray) : (signB s m).size = 64 := by unfold signB; rw [ByteArray.size_append, pubB_size, strOf_size, leB_length]
theorem pub_unp (k : Nat) : unpE (pubB k) = 0 ∧ unpX (pubB k) = nmX k bXN bYN ∧ unpY (pubB k) = nmY k bXN bYN := (unp_pack (nm_on (k := k) onE_base)).2
theorem back_E (s m : ByteArray) (hm : m.size ≤ 4096) : verE (pubB (exK s)) m (signB s m) = 0 := by
  unfold verE
  rw [decide_eq_true (pubB_size _), decide_eq_true (signB_size' s m), Bool.and_self, cond_true, decide_eq_true hm, cond_true, sign_hi, decide_eq_true (sgS_lt s m), cond_true]
  exact (pub_unp (exK s)).1
theorem back_B (s m : ByteArray) (hm : m.size ≤ 4096) : verB (pubB (exK s)) m (signB s m) = true := by
  unfold verB
  rw [back_E s m hm, decide_eq_true rfl, Bool.true_and]
  obtain ⟨_, hx', hy'⟩ := pub_unp (exK s)
  have hk : vrK (pubB (exK s)) m (signB s m) = sgK s m := by unfold vrK sgK; rw [sign_lo]
  obtain ⟨hX, hY⟩ := back_XY (r := sgR s m) (k := sgK s m) (a := exK s) (S := sgS s m) rfl
  have e : vrB (pubB (exK s)) m (signB s m) = pubB (sgR s m) := by
    unfold vrB
    rw [sign_hi, hk, hx', hy', hX, hY]
    rfl
  rw [e, sign_lo]
  simp
theorem more_E (s m : ByteArray) (hm : m.size ≤ 4096) : verE (pubB (exK s)) m (loS (signB s m) ++ strOf (leB 32 (addN (leS (hiS (signB s m))) (modN 2)))) = 6 := by
  have h1 : leS (hiS (signB s m)) = sgS s m := sign_hi s m
  have hlt := sgS_lt s m
  have hL : modN 2 < 2 ^ 253 := by decide +kernel
  have ea : addN (sgS s m) (modN 2) = sgS s m + modN 2 := by unfold addN; exact Nat.mod_eq_of_lt (by omega)
  have hlo : (loS (signB s m)).size = 32 := by rw [sign_lo]; exact pubB_size _
  have hz : (strOf (leB 32 (sgS s m + modN 2))).size = 32 := by rw [strOf_size, leB_length]
  rw [h1, ea]
  have hv : vrS (loS (signB s m) ++ strOf (leB 32 (sgS s m + modN 2))) = sgS s m + modN 2 := by
    unfold vrS
    rw [cut_right _ _ hlo hz]
    exact leS_leB (by omega)
  unfold verE
  rw [hv, decide_eq_true (pubB_size _), decide_eq_true (show (loS (signB s m) ++ strOf (leB 32 (sgS s m + modN 2))).size = 64 by rw [ByteArray.size_append, hlo, hz]), Bool.and_self, cond_true, decide_eq_true hm, cond_true, decide_eq_false (by omega), cond_false]
end Go.Ev.H5

namespace Go.Ev.H5
open Go Go.Proofs Go.RowKit
theorem neq_ss (s : ByteArray) : (!(s.toList == s.toList)) = false := by simp
theorem neq_nn (a : Nat) : (!(decide (a % 4294967296 ^ 8 = a % 4294967296 ^ 8) && true)) = false := by simp
noncomputable def fnExk (vs : List V1) : Option (List Prop × AV) := match vs with | [.one (.v (.string s))] => some ([s.size = 32], .tup [N8 (exK s), sS (exR s), .one (.i 0)]) | _ => none
theorem ctExk : CTok ⟨47, fnExk⟩ := by
  intro vs ob r h ho
  simp only [fnExk] at h
  split at h
  · rename_i s
    simp only [Option.some.injEq, Prod.mk.injEq] at h
    obtain ⟨rfl, rfl⟩ := h
    have hh := ho.1
    have h1 := spec9 s
    unfold expKz expRz expE at h1
    rw [decide_eq_true hh, cond_true, cond_true, cond_true] at h1
    exact h1
  · simp at h
noncomputable def fnVer (vs : List V1) : Option (List Prop × AV) := match vs with | [.one (.v (.string p)), .one (.v (.string m)), .one (.v (.string s))] => some ([], .tup [.one (.v (.bool (verB p m s))), .one (.i (verE p m s))]) | _ => none
theorem ctVer : CTok ⟨53, fnVer⟩ := by
  intro vs ob r h _
  simp only [fnVer] at h
  split at h
  · simp only [Option.some.injEq, Prod.mk.injEq] at h
    obtain ⟨_, rfl⟩ := h
    exact spec23g _ _ _
  · simp at h
noncomputable def fn11 (vs : List V1) : Option (List Prop × AV) := match vs with | [.one (.v (.string s)), .one (.v (.string m))] => some ([], .tup [sS (sigZ s m), .one (.i (sigE s m))]) | _ => none
theorem ctSig : CTok ⟨52, fn11⟩ := by
  intro vs ob r h _
  simp only [fn11] at h
  split at h
  · simp only [Option.some.injEq, Prod.mk.injEq] at h
    obtain ⟨_, rfl⟩ := h
    exact spec11 _ _
  · simp at h
noncomputable def LZ (c : Cells) : List CT := ⟨47, fnExk⟩ :: ⟨51, fn10w⟩ :: ⟨52, fn11⟩ :: ⟨53, fnVer⟩ :: ⟨49, fnS [.z] gNum⟩ :: ⟨50, bT⟩ :: ⟨46, fnFit⟩ :: ldC 9 (fun off => sS (sA c off)) :: ldC 81 (fun off => .agg (fldPs c shC off)) :: LS
theorem LZ_ok (c : Cells) : AllCT (LZ c) := ⟨ctExk, ct10w, ctSig, ctVer, ct15, ctT spec16, ct8, ldC_ok _ _, ldC_ok _ _, LS_ok⟩
noncomputable def S8 : FuncId → Nat → Bool := fun f t => match f with | 8 => memN t [15, 18, 24, 2000025, 41, 45, 50, 56, 62, 67, 21] | 9 => memN t [22, 25, 31, 2000032, 58, 61, 65, 70, 75, 80, 92, 103, 106, 112, 115, 120, 28] | 45 => memN t [47] | _ => false
noncomputable def E8e (c : Cells) : Env := mkE (LZ c) S8
theorem envE8e (c : Cells) : EnvOK (E8e c) := envMk (LZ_ok c) _
def T8 (len cap : Nat) (i : Int) : List AV := slots 70 [(0, sV' len cap), (2, bV false), (3, iV i)]
theorem wfT8 (c : Cells) (m len cap : Nat) (i : Int) : wfS (T8 len cap i) (MC c m) = true := wfC c m (by kernel_rfl)
def T9 (len cap : Nat) (i : Int) : List AV := slots 123 [(0, sV' len cap), (2, bV false), (3, iV i)]
theorem wfT9 (c : Cells) (m len cap : Nat) (i : Int) : wfS (T9 len cap i) (MC c m) = true := wfC c m (by kernel_rfl)
def c0 : Cells := ⟨fun _ => false, fun _ => ByteArray.empty, fun _ => 0, fun _ => 0⟩
def inL (len i : Nat) : Prop := (0 : Int) ≤ (i : Int) ∧ (i : Int) < (len : Int)
noncomputable def vKey (c : Cells) (i : Nat) : ByteArray := kfit (sA c (0 + i * 9))
noncomputable def vM (c : Cells) (i : Nat) : ByteArray := sA c (0 + i * 9 + 1 + 1 + 1)
theorem signB_size (s m : ByteArray) : (signB s m).size = 64 := by unfold signB; rw [ByteArray.size_append, pubB_size, strOf_size, leB_length]
end Go.Ev.H5

namespace Go.Ev.H5
open Go Go.Proofs Go.RowKit
theorem s9c (c : Cells) (len cap i : Nat) : runTo (E8e c) 1000 ((E8e c).S 9) (bodyOf Try.prog 9 4) (T9 len cap (i : Int)) (MC c len) [true, true, true] (T9 len cap ((i : Int) + 1)) 1 =
    some ([decide ((i : Int) < (len : Int)) = true, decide ((i : Int) < 2) = true, inL len i, LoadsAs Try.prog 81 (rowPs c shC len 0) (0 + i * 9) (.agg (fldPs c shC (0 + i * 9))), (sA c (0 + i * 9)).size ≤ 1000000, (sA c (0 + i * 9 + 1)).size ≤ 1000000, (vKey c i).size = 32, decide (sigE (vKey c i) (vM c i) = 2) = true, inI ((i : Int) + 1)], .normal, T9 len cap ((i : Int) + 1), MC c len) := by kernel_rfl
theorem s9a (c : Cells) (len cap i : Nat) : runTo (E8e c) 1000 ((E8e c).S 9) (bodyOf Try.prog 9 4) (T9 len cap (i : Int)) (MC c len) [true, true, false, false, false, false, false, false, false, false, false] (T9 len cap ((i : Int) + 1)) 1 =
    some ([decide ((i : Int) < (len : Int)) = true, decide ((i : Int) < 2) = true, inL len i, LoadsAs Try.prog 81 (rowPs c shC len 0) (0 + i * 9) (.agg (fldPs c shC (0 + i * 9))), (sA c (0 + i * 9)).size ≤ 1000000, (sA c (0 + i * 9 + 1)).size ≤ 1000000, (vKey c i).size = 32, decide (sigE (vKey c i) (vM c i) = 2) = false, (!decide ((0 : Int) = 0)) = false, (!decide (sigE (vKey c i) (vM c i) = 0)) = false, (!decide (sigE (vKey c i) (vM c i) = 0)) = false, (!decide (((sigZ (vKey c i) (vM c i)).size : Int) = 64)) = false, (!((sigZ (vKey c i) (vM c i)).toList == (sigZ (vKey c i) (vM c i)).toList)) = false,
      (0 : Int) ≤ 32 ∧ (32 : Int) ≤ ((sigZ (vKey c i) (vM c i)).size : Int), (hiS (sigZ (vKey c i) (vM c i))).size = 32, (0 : Int) ≤ 2 ∧ (2 : Int) < 4, leS (hiS (sigZ (vKey c i) (vM c i))) < 4294967296 ^ 8, modN 2 < 4294967296 ^ 8, (0 : Int) ≤ 32 ∧ (32 : Int) ≤ ((sigZ (vKey c i) (vM c i)).size : Int), addN (leS (hiS (sigZ (vKey c i) (vM c i)))) (modN 2) < 4294967296 ^ 8, (loS (sigZ (vKey c i) (vM c i))).size + (strOf (leB 32 (addN (leS (hiS (sigZ (vKey c i) (vM c i)))) (modN 2)))).size ≤ 9223372036854775807,
      (!decide (verE (pubB (exK (vKey c i))) (vM c i) (sigZ (vKey c i) (vM c i)) = 0)) = false, (!verB (pubB (exK (vKey c i))) (vM c i) (sigZ (vKey c i) (vM c i))) = false, (!decide (verE (pubB (exK (vKey c i))) (vM c i) (loS (sigZ (vKey c i) (vM c i)) ++ strOf (leB 32 (addN (leS (hiS (sigZ (vKey c i) (vM c i)))) (modN 2)))) = 6)) = false, inI ((i : Int) + 1)], .normal, T9 len cap ((i : Int) + 1), MC c len) := by kernel_rfl
theorem s9o (c : Cells) (len cap i : Nat) : runTo (E8e c) 1000 ((E8e c).S 9) (bodyOf Try.prog 9 4) (T9 len cap (i : Int)) (MC c len) [false] (T9 len cap (i : Int)) 1 = some ([decide ((i : Int) < (len : Int)) = false], .exit 0, T9 len cap (i : Int), MC c len) := by kernel_rfl
theorem s9p (c : Cells) (len cap i : Nat) : runTo (E8e c) 1000 ((E8e c).S 9) (bodyOf Try.prog 9 4) (T9 len cap (i : Int)) (MC c len) [true, false] (T9 len cap (i : Int)) 1 = some ([decide ((i : Int) < (len : Int)) = true, decide ((i : Int) < 2) = false], .exit 0, T9 len cap (i : Int), MC c len) := by kernel_rfl
theorem l9loop (c : Cells) (len cap : Nat) (hs : ∀ j, j < len → (sA c (0 + j * 9 + 0)).size ≤ 9000 ∧ (sA c (0 + j * 9 + 1)).size ≤ 9000 ∧ (sA c (0 + j * 9 + 3)).size ≤ 9000) : Goes Try.prog (.loop (bodyOf Try.prog 9 4)) (.exit 0) (T9 len cap ((0 : Nat) : Int)) (MC c len) (T9 len cap ((min len 2 : Nat) : Int)) (MC c len) := by
  refine loop_goes (N := min len 2) (k := 1) (T := fun i => T9 len cap (i : Int)) (M := fun _ => MC c len) (by simp) (fun _ _ => rfl) (fun i hi => ?_) ?_
  · obtain ⟨h1, h2, h3⟩ := hs i (by omega)
    have h1' : (sA c (0 + i * 9)).size ≤ 9000 := h1
    have h3' : (vM c i).size ≤ 9000 := h3
    have b1 : inL len i := by unfold inL; omega
    have hi' : i < len := by omega
    have hk : (vKey c i).size = 32 := kfit_size _
    by_cases hm : (vM c i).size ≤ 4096
    · have e1 : sigE (vKey c i) (vM c i) = 0 := by unfold sigE; rw [decide_eq_true hk, cond_true, decide_eq_true hm, cond_true]
      have e2 : sigZ (vKey c i) (vM c i) = signB (vKey c i) (vM c i) := by unfold sigZ; rw [decide_eq_true hk, cond_true, decide_eq_true hm, cond_true]
      have hr := s9a c len cap i
      rw [e1, e2] at hr
      have hz := signB_size (vKey c i) (vM c i)
      have l8 := leS_lt8 (hiS_size hz)
      have hL := loS_size hz
      exact Runs.goes (envE8e c) ⟨_, _, hr, ⟨decide_eq_true (by omega), decide_eq_true (by omega), b1, ld38 hi', by omega, by omega, hk, by decide, by decide, by decide, by decide, is64 hz, neq_ss _, by omega, hiS_size hz, by decide, l8, modN_lt 2, by omega, addN_lt _ _, by rw [strOf_size, leB_length]; omega, by rw [back_E _ _ hm]; rfl, by rw [back_B _ _ hm]; rfl, by rw [more_E _ _ hm]; rfl, by unfold inI; omega, trivial⟩, wfT9 _ _ _ _ _⟩
    · have e1 : sigE (vKey c i) (vM c i) = 2 := by unfold sigE; rw [decide_eq_true hk, cond_true, decide_eq_false hm, cond_false]
      exact Runs.goes (envE8e c) ⟨_, _, s9c c len cap i, ⟨decide_eq_true (by omega), decide_eq_true (by omega), b1, ld38 hi', by omega, by omega, hk, by rw [e1]; rfl, by unfold inI; omega, trivial⟩, wfT9 _ _ _ _ _⟩
  · by_cases h : len ≤ 2
    · rw [show min len 2 = len by omega]
      exact Runs.goes (envE8e c) ⟨_, _, s9o c len cap len, ⟨decide_eq_false (by omega), trivial⟩, wfT9 _ _ _ _ _⟩
    · rw [show min len 2 = 2 by omega]
      exact Runs.goes (envE8e c) ⟨_, _, s9p c len cap 2, ⟨decide_eq_true (by omega), decide_eq_false (by omega), trivial⟩, wfT9 _ _ _ _ _⟩
end Go.Ev.H5

namespace Go.Ev.H5
open Go Go.Proofs Go.RowKit
noncomputable def EH9 (c : Cells) (len cap : Nat) : Env := addLp (E8e c) 3 (bodyOf Try.prog 45 3) (sumH c len cap)
theorem envEH9 (c : Cells) (len cap : Nat) (hB : ∀ j, j < len * 9 → (sA c j).size ≤ BB) (hl : len ≤ maxLen) : EnvOK (EH9 c len cap) := envAddLp (envE8e c) (sumH_ok c len cap hB hl)
noncomputable def EE9 (c : Cells) (len cap : Nat) : Env := addLp (EH9 c len cap) 4 (bodyOf Try.prog 9 4) (sumC (T9 len cap ((0 : Nat) : Int)) (MC c len) (T9 len cap ((min len 2 : Nat) : Int)) (MC c len) (.exit 0))
theorem envEE9 (c : Cells) (len cap : Nat) (hB : ∀ j, j < len * 9 → (sA c j).size ≤ BB) (hl : len ≤ maxLen) (hs : ∀ j, j < len → (sA c (0 + j * 9 + 0)).size ≤ 9000 ∧ (sA c (0 + j * 9 + 1)).size ≤ 9000 ∧ (sA c (0 + j * 9 + 3)).size ≤ 9000) : EnvOK (EE9 c len cap) := envAddLp (envEH9 c len cap hB hl) (sumC_ok rfl (l9loop c len cap hs))
theorem l9hv (c : Cells) (len cap : Nat) : dropM (callBy (EH9 c len cap) (evalC (EH9 c len cap) 1000) 9 [V1.one (Atom.sl 0 0 len cap)] [rowB c shC len 81] [true]) =
    some ([bodyOf Try.prog 45 3 = bodyOf Try.prog 45 3, (TH len cap (len : Int) ((0 : Nat) : Int), MC c len) = (TH len cap (len : Int) ((0 : Nat) : Int), MC c len), wfS (TH len cap (len : Int) ((0 : Nat) : Int)) (MC c len) = true, decide ((9000 : Int) < hv c len 0 (len : Int)) = true], bV true) := by kernel_rfl
theorem l9ok (c : Cells) (len cap : Nat) : dropM (callBy (EE9 c len cap) (evalC (EE9 c len cap) 1000) 9 [V1.one (Atom.sl 0 0 len cap)] [rowB c shC len 81] [false]) =
    some ([bodyOf Try.prog 45 3 = bodyOf Try.prog 45 3, (TH len cap (len : Int) ((0 : Nat) : Int), MC c len) = (TH len cap (len : Int) ((0 : Nat) : Int), MC c len), wfS (TH len cap (len : Int) ((0 : Nat) : Int)) (MC c len) = true, decide ((9000 : Int) < hv c len 0 (len : Int)) = false, bodyOf Try.prog 9 4 = bodyOf Try.prog 9 4, (T9 len cap ((0 : Nat) : Int), MC c len) = (T9 len cap ((0 : Nat) : Int), MC c len), wfS (T9 len cap ((0 : Nat) : Int)) (MC c len) = true], bV true) := by kernel_rfl
theorem l9nil (c : Cells) : dropM (callBy (E8e c) (evalC (E8e c) 1000) 9 [V1.one (Atom.v (Value.slice none 0 0))] [] [false, false]) =
    some ([decide ((9000 : Int) < ((0 : Nat) : Int)) = false, decide ((0 : Int) < ((0 : Nat) : Int)) = false], bV true) := by kernel_rfl
theorem l9nilc (w : World) : Calls Try.prog 9 #[.slice none 0 0] w (Trues w) := law_nilD (envE8e c0) (l9nil c0) ⟨by decide, by decide, trivial⟩ w
set_option maxRecDepth 100000 in
theorem law9 {H : Type} {enc : TypeId × Value → H} {r : Reach} {W : World} {base : Nat} {v : Value} {d : DataW H} {ps : List MemPlace} (hval : Value.okWide Try.prog W r base 77 v) (h : DataW.Trod enc Try.prog W 0 (fun _ => true) true 77 v d ps) (hwt : ∀ n ∈ d.weights Try.prog 77, n ≤ BB) :
    Calls Try.prog 9 #[v] W (Trues W) := by
  refine rows_calls_sized shC (B := BB) (Q := Trues) u23 k38 s38 l9nilc ?_ hval h hwt
  intro c len cap hlc hcap ho hB w φ hmr
  have hl : len ≤ maxLen := by omega
  have hB' : ∀ j, j < len * 9 → (sA c j).size ≤ BB := hB
  by_cases hh : 9000 < hv c len 0 (len : Int)
  · exact law_runD (envEH9 c len cap hB' hl) (l9hv c len cap) ⟨rfl, rfl, wfTH _ _ _ _ _ _, decide_eq_true hh, trivial⟩ hmr
  · have hs := (hv_small c len 0 (len : Int) (by omega) (by omega)).2
    refine law_runD (envEE9 c len cap hB' hl ?_) (l9ok c len cap) ⟨rfl, rfl, wfTH _ _ _ _ _ _, decide_eq_false hh, rfl, rfl, wfT9 _ _ _ _ _, trivial⟩ hmr
    intro j hj
    obtain ⟨h1, h2, h3, h4⟩ := hs j (Nat.zero_le _) (by omega)
    exact ⟨h1, h2, h4⟩
end Go.Ev.H5

namespace Go.Proofs.Ytgdaenfdialhoaa.Laws
open Go Go.Ev Go.Ev.H5 Go.RowKit Go.ChangeShapes Go.WideShapes Go.ChangeAt

theorem u4 : Try.prog.underlying 4 = some .bool := by kernel_rfl
theorem laid : laidOutB Try.prog = true := by kernel_rfl
theorem rd23 : Try.prog.readableRec 77 = true := by kernel_rfl
theorem row23 : (77 : Nat) < Try.prog.types.size := of_decide_eq_true (by kernel_rfl)

set_option maxRecDepth 100000 in
theorem lifted9 (os : Os) (started : os.Started) (H : Type) (enc : TypeId × Value → H) :
    ReturnsInHanded {} Try.checked os 9 .any (Rows.edsigBackSpec.pre6 enc Try.prog Try.f9 Rows.edsigBackRow.domain false) (Rows.edsigBackSpec.post enc Try.prog Try.f9 false true false false) := by
  refine returnsInHanded_of_change_sized (C := Try.checked) own started (by kernel_rfl) Try.func9
    (ChangeSpec.witness6 (enc := enc) (C := Try.checked) false ⟨#[], #[.slice none 0 0], []⟩ 8 (by kernel_rfl) (by kernel_rfl) (by kernel_rfl) (by kernel_rfl)) ?_
  intro W base args ds gs before hval0 hW _ hsz0 _
  have hsz : (DataW.weightsEach Try.prog (Try.f9.params.toList ++ Rows.edsigBackSpec.plain.varTypes Try.prog) (ds ++ gs)).all (· ≤ reachBytes) = true := hsz0
  clear hsz0
  have hval : ∀ (j : Nat) t v, Try.f9.params[j]? = some t → args[j]? = some v → Value.okWide Try.prog W .any base t v := hval0
  have hW' := hW
  obtain ⟨p, q, hA0, hV, hbef, hfz, hnd⟩ := hW
  have hp : Try.f9.params = #[77] := by kernel_rfl
  have hA : DataW.TrodAll enc Try.prog W 0 (fun _ => true) true Try.f9.params.toList args.toList ds p := hA0
  rw [hp] at hA hval
  obtain ⟨v0, d0, rfl, rfl, h0⟩ := trodAll_one hA
  obtain ⟨rfl, rfl⟩ := trodVars_none hV
  refine (law9 (hval 0 77 v0 rfl rfl) h0 (fun n hn => by simpa using List.all_eq_true.1 hsz n (DataW.weights_mem_each (j := 0) (t := 77) (by rw [hp]; rfl) rfl n hn))).mono ?_
  rintro e W' ⟨rfl, hb⟩
  exact ⟨_, rfl, post_true (tb := 4) rfl hp (by kernel_rfl) u4 laid rd23 row23 rfl rfl hW' hb⟩

theorem holds9 : Rows.EdsigBackSaid :=
  OpenClaim.holds_of_wide 9 Try.f9 rfl rfl rfl rfl rfl rfl rfl ⟨rfl, rfl, rfl, rfl, rfl⟩ rfl rfl rfl rfl rfl (by kernel_rfl) Try.func9 (by kernel_rfl)
    (of_decide_eq_true (by kernel_rfl)) (by unfold Func.isWrapper; first | (rw [if_pos (by decide +kernel)]; kernel_rfl) | (rw [if_neg (by decide +kernel)]; exact ⟨rfl, rfl⟩))
    (fun os started H enc _ => lifted9 os started H enc)

end Go.Proofs.Ytgdaenfdialhoaa.Laws

namespace Go.Proofs.Ytgdaenfdialhoaa
open Go
theorem edsigBack_holds : Rows.EdsigBackSaid := Laws.holds9
end Go.Proofs.Ytgdaenfdialhoaa

