/- B; Keyed sums, nodes, and the law, of every input: EcsigBounds holds of every argument -/
import Derived.Test.YtkjohncaajammaaPartP
import Derived.Test.YtkjohncaajammaaPartN
import Derived.JoinedOf
import Derived.SizedLaws
namespace Go.Ev.H5
open Go Go.Proofs Go.RowKit
set_option maxRecDepth 100000
def zs (n : Nat) : ByteArray := strOf (List.replicate n 0)
theorem zs_size (n : Nat) : (zs n).size = n := by unfold zs; rw [strOf_size, List.length_replicate]
noncomputable def E21 : Env := { E0 with S := fun f t => match f with | 43 => memN t [2000004, 2000005] | _ => false }
theorem envE21 : EnvOK E21 := ⟨mixed, envE0.fns, envE0.fms, envE0.lps, envE0.fbs⟩
theorem run21n (z : Int) : callR E21 1000 43 [.one (.i z)] [] = some ([0 ≤ z ∧ z = z ∧ z ≤ 140737488355328, 0 = 0 ∧ z.toNat = (List.replicate z.toNat 0).length], .val (sS (zs z.toNat))) := by kernel_rfl
def fnZs (vs : List V1) : Option (List Prop × AV) :=
  match vs with
  | [.one (.i z)] => some ([0 ≤ z ∧ z ≤ 1000000], .val (sS (zs z.toNat)))
  | _ => none
theorem ct21z : CTok ⟨43, fnZs⟩ := by
  intro vs ob r h ho
  simp only [fnZs] at h
  split at h
  · rename_i z
    simp only [Option.some.injEq, Prod.mk.injEq] at h
    obtain ⟨rfl, rfl⟩ := h
    have h1 := ho.1
    exact spec_run envE21 rfl (run21n z) ⟨by omega, ⟨rfl, by simp⟩, trivial⟩ rfl rfl
  · simp at h
noncomputable def LKy : List CT := ⟨68, fBg⟩ :: ⟨69, fBg⟩ :: ⟨70, fBe61⟩ :: ⟨73, fBe64⟩ :: ⟨71, fnS [.z, .s [.n8]] gFis⟩ :: ⟨43, fnZs⟩ :: L0
theorem LKy_ok : AllCT LKy := ⟨ct59b, ct60b, ct61b, ct64b, ct85, ct21z, L0_ok⟩
noncomputable def SKy : FuncId → Nat → Bool := fun f t => match f with
  | 78 => memN t [5] | 120 => memN t [12, 17] | 54 => memN t [7, 21] | _ => false
def gd (a : Nat) : Bool := !isZ a && decide (a < modN 3)
theorem r72z (a : Nat) : callR (mkE LKy SKy) 1000 78 [N8 a] [false] = some ([(!isZ a) = false], bV false) := by kernel_rfl
theorem r72n (a : Nat) : callR (mkE LKy SKy) 1000 78 [N8 a] [true] = some ([(!isZ a) = true, a < 4294967296 ^ 8], bV (decide (a < modN 3))) := by kernel_rfl
theorem spec72 (a : Nat) (h : a < 4294967296 ^ 8) : Spec 78 [N8 a] (bV (gd a)) := by
  unfold gd
  cases hz : isZ a with
  | true => exact spec_run (envMk LKy_ok SKy) rfl (r72z a) ⟨by rw [hz]; rfl, trivial⟩ rfl rfl
  | false => exact spec_run (envMk LKy_ok SKy) rfl (r72n a) ⟨by rw [hz]; rfl, h, trivial⟩ rfl rfl
noncomputable def gGd : List V1 → Option (List Prop × AV) := fn1 fun a => bV (gd a)
noncomputable def LKz : List CT := ⟨78, gGd⟩ :: LKy
theorem LKz_ok : AllCT LKz := ⟨fun _ _ _ h ho => fn1_ok spec72 h ho, LKy_ok⟩
noncomputable def SKz : FuncId → Nat → Bool := fun f t => match f with
  | 120 => memN t [12, 17] | _ => false
theorem r43 (s : ByteArray) : callR (mkE LKz SKz) 1000 76 [sS s] [] = some ([s.size = 32, beS s < 4294967296 ^ 8], .tup [N8 (beS s), .one (.v (.bool (gd (beS s))))]) := by kernel_rfl
theorem beS_lt {s : ByteArray} (h : s.size = 32) : beS s < 4294967296 ^ 8 := by
  have := leS_lt (revS s)
  rw [revS_size, h] at this
  exact Nat.lt_of_lt_of_le this (by decide)
def fnKy (vs : List V1) : Option (List Prop × AV) := match vs with | [.one (.v (.string s))] => some ([s.size = 32], .tup [N8 (beS s), .one (.v (.bool (gd (beS s))))]) | _ => none
theorem ct43 : CTok ⟨76, fnKy⟩ := by
  intro vs ob r h ho
  simp only [fnKy] at h
  split at h
  · simp only [Option.some.injEq, Prod.mk.injEq] at h
    obtain ⟨rfl, rfl⟩ := h
    obtain ⟨h1, _⟩ := ho
    exact spec_run (envMk LKz_ok SKz) rfl (r43 _) ⟨h1, beS_lt h1, trivial⟩ rfl rfl
  · simp at h
noncomputable def LPb : List CT := ⟨76, fnKy⟩ :: ⟨48, fnS [aN, aSp] gMulP⟩ :: ⟨67, fnS [aSp] gOf58⟩ :: ⟨33, fnS [aSp] gOf58⟩ :: ⟨20, cV (.val (P3 wXN wYN false))⟩ :: ⟨29, cV (.val (P3 wXN wYN false))⟩ :: []
theorem LPb_ok : AllCT LPb := ⟨ct43, ct39q, ct58s, ct32s, ctV spec19w, ctV spec28w, trivial⟩
def SPb : FuncId → Nat → Bool := fun f t => match f with | 40 => memN t [12] | _ => false
noncomputable def gBas (k : Nat) : Sp := gmul (Sp.mk wXN wYN false) k
theorem gBas_on (k : Nat) : (gBas k).on := gmul_on (s := Sp.mk wXN wYN false) on_base k
theorem gBas_lt (k : Nat) : (gBas k).x < 4294967296 ^ 8 ∧ (gBas k).y < 4294967296 ^ 8 := ⟨L8 (gBas_on k).lx, L8 (gBas_on k).ly⟩
noncomputable def pubS (s : ByteArray) : ByteArray := packW (gBas (beS s)).x (gBas (beS s)).y
theorem r41 (s : ByteArray) : callR (mkE LPb SPb) 1000 40 [sS s] [false] =
    some ([s.size = 32, (!gd (beS s)) = false, beS s < 4294967296 ^ 8, wXN < 4294967296 ^ 8, wYN < 4294967296 ^ 8, onS wXN wYN false = true, (gBas (beS s)).x < 4294967296 ^ 8, (gBas (beS s)).y < 4294967296 ^ 8], .tup [sS (pubS s), .one (.i 0)]) := by kernel_rfl
noncomputable def fnPb (vs : List V1) : Option (List Prop × AV) := match vs with | [.one (.v (.string s))] => some ([s.size = 32, gd (beS s) = true], .tup [sS (pubS s), .one (.i 0)]) | _ => none
theorem ct41 : CTok ⟨40, fnPb⟩ := by
  intro vs ob r h ho
  simp only [fnPb] at h
  split at h
  · simp only [Option.some.injEq, Prod.mk.injEq] at h
    obtain ⟨rfl, rfl⟩ := h
    obtain ⟨h1, h2, _⟩ := ho
    exact spec_run (envMk LPb_ok SPb) rfl (r41 _) ⟨h1, by rw [h2]; rfl, beS_lt h1, L8 wXN_lt, L8 wYN_lt, on_base, (gBas_lt _).1, (gBas_lt _).2, trivial⟩ rfl rfl
  · simp at h
end Go.Ev.H5

namespace Go.Ev.H5
open Go Go.Proofs Go.RowKit
set_option maxRecDepth 100000
theorem gmul_no {s : Sp} (h : s.on) {k : Nat} (hk : gmul s k = sNo) : ∀ a, gmul s (k * a) = sNo
  | 0 => rfl
  | a + 1 => by
    rw [Nat.mul_succ, gmul_add h, gmul_no h hk a, hk]
    exact gsum_no_left sNo_on
theorem key_inv {m k q : Nat} (h : k * q % m = 1) : k * q = m * (k * q / m) + 1 := by
  have := Nat.div_add_mod (k * q) m
  omega
theorem gd_iff {a : Nat} (h8 : a < 4294967296 ^ 8) : gd a = true ↔ 0 < a ∧ a < modN 3 := by
  unfold gd
  rw [Bool.and_eq_true, Bool.not_eq_true', decide_eq_true_iff]
  have : isZ a = false ↔ a ≠ 0 := by
    constructor
    · intro h e; subst e; exact absurd h (by decide)
    · intro h
      cases hz : isZ a with
      | false => rfl
      | true => rw [isZ_eq h8, decide_eq_true_iff] at hz; exact absurd hz h
  rw [this]
  omega
theorem bas_i {k : Nat} (h0 : 0 < k) (hk : k < modN 3) : (gBas k).i = false := by
  cases hi : (gBas k).i with
  | false => rfl
  | true =>
    exfalso
    have hon := gBas_on k
    have e : gBas k = sNo := by
      generalize gBas k = s at *
      obtain ⟨x, y, i⟩ := s
      dsimp only at hi
      subst hi
      obtain ⟨rfl, rfl⟩ := Sp.on_none.1 hon
      rfl
    have hb : Sp.on ⟨wXN, wYN, false⟩ := base_on
    have hinv := Go.NT.inv_mul (k := 3) (a := k) (by decide) h0 (by rw [← modN_P]; exact hk)
    rw [← modN_P] at hinv
    have ho := gm_order
    generalize k ^ (modN 3 - 2) = q at hinv
    have h1 := gmul_no hb e q
    rw [key_inv hinv, gmul_add hb, gmul_no hb ho, gmul_one hb, gsum_no_left hb] at h1
    exact absurd (congrArg Sp.i h1) (by decide)
theorem bas_sp {k : Nat} (h0 : 0 < k) (hk : k < modN 3) : onS (gBas k).x (gBas k).y false = true := by
  have h := gBas_on k
  have hi := bas_i h0 hk
  generalize gBas k = s at *
  obtain ⟨x, y, i⟩ := s
  dsimp only at hi
  subst hi
  exact h
theorem unp_pub {s : ByteArray} (h : s.size = 32) (hg : gd (beS s) = true) : wE (pubS s) = 0 := by
  obtain ⟨h0, hk⟩ := (gd_iff (beS_lt h)).1 hg
  unfold pubS
  rw [packW_eq]
  exact (unp_short (bas_sp h0 hk) (by omega)).1
noncomputable def LVf : List CT := ⟨36, fnUnW⟩ :: LKz
theorem LVf_ok : AllCT LVf := ⟨ct35u, LKz_ok⟩
def SVf : FuncId → Nat → Bool := fun f t => match f with | 44 => memN t [25, 29, 36, 40, 46, 52, 56] | _ => false
def lo (s : ByteArray) : Nat := beS (s.extract 0 32)
def hi (s : ByteArray) : Nat := beS (s.extract 32 s.size)
noncomputable def obVf (p m s : ByteArray) : List Prop := [(!decide ((s.size : Int) = 64)) = false, decide ((4096 : Int) < (m.size : Int)) = false, (!decide (wE p = 0)) = false, (0 : Int) ≤ 32 ∧ (32 : Int) ≤ (s.size : Int), (s.extract 0 32).size = 32, (0 : Int) ≤ 32 ∧ (32 : Int) ≤ (s.size : Int), (s.extract 32 s.size).size = 32, lo s < 4294967296 ^ 8]
theorem v44a (p m s : ByteArray) : callR (mkE LVf SVf) 1000 44 [sS p, sS m, sS s] [false, false, false, true] =
    some (obVf p m s ++ [(!gd (lo s)) = true], .tup [.one (.v (.bool false)), .one (.i 6)]) := by kernel_rfl
theorem v44b (p m s : ByteArray) : callR (mkE LVf SVf) 1000 44 [sS p, sS m, sS s] [false, false, false, false, true] =
    some (obVf p m s ++ [(!gd (lo s)) = false, hi s < 4294967296 ^ 8, (!gd (hi s)) = true], .tup [.one (.v (.bool false)), .one (.i 6)]) := by kernel_rfl
theorem spec44 (p m s : ByteArray) (hs : s.size = 64) (hm : m.size ≤ 4096) (hp : wE p = 0) (hb : gd (lo s) = false ∨ gd (hi s) = false) : Spec 44 [sS p, sS m, sS s] (.tup [.one (.v (.bool false)), .one (.i 6)]) := by
  have a1 : (!decide ((s.size : Int) = 64)) = false := by rw [hs]; rfl
  have a2 : decide ((4096 : Int) < (m.size : Int)) = false := decide_eq_false (by omega)
  have a3 : (!decide (wE p = 0)) = false := by rw [hp]; rfl
  have a4 : (0 : Int) ≤ 32 ∧ (32 : Int) ≤ (s.size : Int) := by omega
  have a5 : (s.extract 0 32).size = 32 := by rw [ByteArray.size_extract]; omega
  have a6 : (s.extract 32 s.size).size = 32 := by rw [ByteArray.size_extract]; omega
  cases h : gd (lo s) with
  | false => exact spec_run (envMk LVf_ok SVf) rfl (v44a p m s) ⟨a1, a2, a3, a4, a5, a4, a6, beS_lt a5, by rw [h]; rfl, trivial⟩ rfl rfl
  | true =>
    have h2 : gd (hi s) = false := by
      rcases hb with hb | hb
      · rw [h] at hb; cases hb
      · exact hb
    exact spec_run (envMk LVf_ok SVf) rfl (v44b p m s) ⟨a1, a2, a3, a4, a5, a4, a6, beS_lt a5, by rw [h]; rfl, beS_lt a6, by rw [h2]; rfl, trivial⟩ rfl rfl
noncomputable def fnVf (vs : List V1) : Option (List Prop × AV) := match vs with | [.one (.v (.string p)), .one (.v (.string m)), .one (.v (.string s))] => some ([s.size = 64, m.size ≤ 4096, wE p = 0, gd (lo s) = false ∨ gd (hi s) = false], .tup [.one (.v (.bool false)), .one (.i 6)]) | _ => none
theorem ct44 : CTok ⟨44, fnVf⟩ := by
  intro vs ob r h ho
  simp only [fnVf] at h
  split at h
  · simp only [Option.some.injEq, Prod.mk.injEq] at h
    obtain ⟨rfl, rfl⟩ := h
    obtain ⟨h1, h2, h3, h4, _⟩ := ho
    exact spec44 _ _ _ h1 h2 h3 h4
  · simp at h
end Go.Ev.H5

namespace Go.Ev.H5
open Go Go.Proofs Go.RowKit
set_option maxRecDepth 100000
def askV (k t x s : ByteArray) (n a b c d : Nat) : V1 := .agg [.a (.v (.string k)), .a (.v (.string t)), .a (.v (.string x)), .a (.v (.string s)), .a (.u .u32 n), .a (.u .u32 a), .a (.u .u32 b), .a (.u .u32 c), .a (.u .u32 d)]
noncomputable def kfit (k : ByteArray) : ByteArray := (k ++ zs 32).extract 0 32
noncomputable def tfit (t : ByteArray) : ByteArray := (t ++ zs 12).extract 0 12
noncomputable def S8f : FuncId → Nat → Bool := fun f t => match f with | 77 => memN t [6, 7, 11, 12] | _ => false
theorem L8f_ok : AllCT [⟨43, fnZs⟩] := ⟨ct21z, trivial⟩
theorem run20 (k t x s : ByteArray) (n a b c d : Nat) : callR (mkE [⟨43, fnZs⟩] S8f) 1000 77 [askV k t x s n a b c d] [] =
    some ([(0 : Int) ≤ 32 ∧ (32 : Int) ≤ 1000000, k.size + (zs 32).size ≤ 9223372036854775807, (0 : Int) ≤ 32 ∧ (32 : Int) ≤ ((k ++ zs 32).size : Int), (0 : Int) ≤ 12 ∧ (12 : Int) ≤ 1000000, t.size + (zs 12).size ≤ 9223372036854775807, (0 : Int) ≤ 12 ∧ (12 : Int) ≤ ((t ++ zs 12).size : Int)], .val (askV (kfit k) (tfit t) x s n a b c d)) := by kernel_rfl
theorem kfit_size (k : ByteArray) : (kfit k).size = 32 := by unfold kfit; rw [ByteArray.size_extract, ByteArray.size_append, zs_size]; omega
noncomputable def fnFit (vs : List V1) : Option (List Prop × AV) :=
  match vs with
  | [.agg [.a (.v (.string k)), .a (.v (.string t)), .a (.v (.string x)), .a (.v (.string s)), .a (.u .u32 n), .a (.u .u32 a), .a (.u .u32 b), .a (.u .u32 c), .a (.u .u32 d)]] => some ([k.size ≤ 1000000, t.size ≤ 1000000], .val (askV (kfit k) (tfit t) x s n a b c d))
  | _ => none
theorem ct8 : CTok ⟨77, fnFit⟩ := by
  intro vs ob r h ho
  simp only [fnFit] at h
  split at h
  · rename_i k t x s n a b c d
    simp only [Option.some.injEq, Prod.mk.injEq] at h
    obtain ⟨rfl, rfl⟩ := h
    obtain ⟨h1, h2, _⟩ := ho
    exact spec_run (envMk L8f_ok S8f) rfl (run20 k t x s n a b c d) ⟨by omega, by rw [zs_size]; omega, ⟨by omega, by rw [ByteArray.size_append, zs_size]; omega⟩, by omega, by rw [zs_size]; omega, ⟨by omega, by rw [ByteArray.size_append, zs_size]; omega⟩, trivial⟩ rfl rfl
  · simp at h
def ldC (t : TypeId) (g : Nat → V1) : CT := ⟨3000000 + t, fun vs => match vs with | [.one (.ptr _ off)] => some ([False], .val (g off)) | _ => none⟩
theorem ldC_ok (t : TypeId) (g : Nat → V1) : CTok (ldC t g) := by
  intro vs ob r h ho
  simp only [ldC] at h
  split at h
  · simp only [Option.some.injEq, Prod.mk.injEq] at h
    obtain ⟨rfl, _⟩ := h
    exact ho.1.elim
  · simp at h
def shC : List SK := [.s, .s, .s, .s, .u32, .u32, .u32, .u32, .u32]
theorem u23 : Try.prog.underlying 65 = some (.slice 69) := by kernel_rfl
theorem k38 : kindsT Try.prog 20 69 = some (shKs shC) := by kernel_rfl
theorem s38 : sizeA Try.prog 69 = some (shSz shC) := by kernel_rfl
theorem rd23 : Try.prog.readableRec 65 = true := by kernel_rfl
theorem row23 : (65 : Nat) < Try.prog.types.size := of_decide_eq_true (by kernel_rfl)
def MC (c : Cells) (len : Nat) : List Blk := [rowB c shC len 69]
theorem wfC {n : Nat} {l : List (Nat × AV)} (c : Cells) (m : Nat) (h : tmsWf 1 (slots n l) = true) : wfS (slots n l) (MC c m) = true := wfS_of (by
  intro b hb
  simp only [MC, List.mem_cons, List.not_mem_nil, or_false] at hb
  rcases hb with rfl
  exact rowB_free _ _ _ _) h
noncomputable def EH (c : Cells) : Env := mkE [ldC 9 fun off => sS (sA c off)] fun f t => match f with | 39 => memN t [10, 13, 20, 27, 34, 41, 24, 31, 38, 45, 16, 2000022, 2000029, 2000036, 2000043] | _ => false
theorem envEH (c : Cells) : EnvOK (EH c) := envMk (show AllCT [ldC 9 fun off => sS (sA c off)] from ⟨ldC_ok _ _, trivial⟩) _
def TH (len cap : Nat) (n : Int) (i : Int) : List AV := slots 48 [(0, sV' len cap), (2, bV false), (3, iV n), (4, iV i)]
def THE (len cap : Nat) (n : Int) : List AV := slots 48 [(0, sV' len cap), (2, bV false), (3, iV n)]
theorem wfTH (c : Cells) (m len cap : Nat) (n i : Int) : wfS (TH len cap n i) (MC c m) = true := wfC c m (by kernel_rfl)
theorem wfTHE (c : Cells) (m len cap : Nat) (n : Int) : wfS (THE len cap n) (MC c m) = true := wfC c m (by kernel_rfl)
theorem ag9 : isAggA Try.prog 9 = some false := by kernel_rfl
theorem ag38 : isAggA Try.prog 69 = some true := by kernel_rfl
theorem ld9 {c : Cells} {len i : Nat} (f : Nat) (hf : f < 4) (hi : i < len) : LoadsAs Try.prog 9 (rowPs c shC len 0) (0 + i * 9 + f) (.one (.v (.string (sA c (0 + i * 9 + f))))) := by
  have h9 : shSz shC = 9 := rfl
  match f, hf with
  | 0, _ => exact loads_fld (sh := shC) (i := i) [] .s [.s, .s, .s, .u32, .u32, .u32, .u32, .u32] rfl ag9 hi (by rw [h9]; simp [shSz]) rfl
  | 1, _ => exact loads_fld (sh := shC) (i := i) [.s] .s [.s, .s, .u32, .u32, .u32, .u32, .u32] rfl ag9 hi (by rw [h9]; simp [shSz, SK.sz]) rfl
  | 2, _ => exact loads_fld (sh := shC) (i := i) [.s, .s] .s [.s, .u32, .u32, .u32, .u32, .u32] rfl ag9 hi (by rw [h9]; simp [shSz, SK.sz]) rfl
  | 3, _ => exact loads_fld (sh := shC) (i := i) [.s, .s, .s] .s [.u32, .u32, .u32, .u32, .u32] rfl ag9 hi (by rw [h9]; simp [shSz, SK.sz]) rfl
theorem ld38 {c : Cells} {len i : Nat} (hi : i < len) : LoadsAs Try.prog 69 (rowPs c shC len 0) (0 + i * 9) (.agg (fldPs c shC (0 + i * 9))) :=
  loads_row (sh := shC) (i := i) [] shC [] rfl ag38 s38 hi (by show 0 + i * 9 = i * 9 + 0; omega)
def hn (c : Cells) (n : Int) (i : Nat) : Int := n + ((sA c (0 + i * 9 + 0)).size : Int) + ((sA c (0 + i * 9 + 1)).size : Int) + ((sA c (0 + i * 9 + 2)).size : Int) + ((sA c (0 + i * 9 + 3)).size : Int)
def hv (c : Cells) : Nat → Nat → Int → Int
  | 0, _, n => n
  | k + 1, i, n => bif decide (n < 1048576) then hv c k (i + 1) (hn c n i) else n
theorem hvA (c : Cells) (len : Nat) (cap : Nat) (n : Int) (i : Nat) : runTo (EH c) 1000 (Env.S (EH c) 39) (bodyOf Try.prog 39 3) (TH len cap n (↑i : Int)) (MC c len) [true, true] (TH len cap (hn c n i) ((↑i : Int) + (1 : Int))) 1 =
    some ([decide ((↑i : Int) < (↑len : Int)) = true, decide (n < (1048576 : Int)) = true, (0 : Int) ≤ (↑i : Int) ∧ (↑i : Int) < (↑len : Int), LoadsAs Try.prog 9 (rowPs c shC len 0) (0 + i * 9 + 0) (V1.one (Atom.v (Value.string (sA c (0 + i * 9 + 0))))), inI (n + (↑(ByteArray.size (sA c (0 + i * 9 + 0))) : Int)), (0 : Int) ≤ (↑i : Int) ∧ (↑i : Int) < (↑len : Int), LoadsAs Try.prog 9 (rowPs c shC len 0) (0 + i * 9 + 1) (V1.one (Atom.v (Value.string (sA c (0 + i * 9 + 1))))), inI (n + (↑(ByteArray.size (sA c (0 + i * 9 + 0))) : Int) + (↑(ByteArray.size (sA c (0 + i * 9 + 1))) : Int)), (0 : Int) ≤ (↑i : Int) ∧ (↑i : Int) < (↑len : Int), LoadsAs Try.prog 9 (rowPs c shC len 0) (0 + i * 9 + 2) (V1.one (Atom.v (Value.string (sA c (0 + i * 9 + 2))))), inI (n + (↑(ByteArray.size (sA c (0 + i * 9 + 0))) : Int) + (↑(ByteArray.size (sA c (0 + i * 9 + 1))) : Int) + (↑(ByteArray.size (sA c (0 + i * 9 + 2))) : Int)), (0 : Int) ≤ (↑i : Int) ∧ (↑i : Int) < (↑len : Int), LoadsAs Try.prog 9 (rowPs c shC len 0) (0 + i * 9 + 3) (V1.one (Atom.v (Value.string (sA c (0 + i * 9 + 3))))), inI (n + (↑(ByteArray.size (sA c (0 + i * 9 + 0))) : Int) + (↑(ByteArray.size (sA c (0 + i * 9 + 1))) : Int) + (↑(ByteArray.size (sA c (0 + i * 9 + 2))) : Int) + (↑(ByteArray.size (sA c (0 + i * 9 + 3))) : Int)), inI ((↑i : Int) + (1 : Int))], .normal, TH len cap (hn c n i) ((i : Int) + 1), MC c len) := by kernel_rfl
theorem hvB (c : Cells) (len : Nat) (cap : Nat) (n : Int) (i : Nat) : runTo (EH c) 1000 (Env.S (EH c) 39) (bodyOf Try.prog 39 3) (TH len cap n (↑i : Int)) (MC c len) [true, false] (THE len cap n) 1 =
    some ([decide ((↑i : Int) < (↑len : Int)) = true, decide (n < (1048576 : Int)) = false], .exit 0, THE len cap n, MC c len) := by kernel_rfl
theorem hvC (c : Cells) (len : Nat) (cap : Nat) (n : Int) (i : Nat) : runTo (EH c) 1000 (Env.S (EH c) 39) (bodyOf Try.prog 39 3) (TH len cap n (↑i : Int)) (MC c len) [false] (THE len cap n) 1 =
    some ([decide ((↑i : Int) < (↑len : Int)) = false], .exit 0, THE len cap n, MC c len) := by kernel_rfl
abbrev BB : Nat := reachBytes
theorem BB_lt : BB < 140737488355328 := by decide
theorem at_lt {len i f : Nat} (hi : i < len) (hf : f < 9) : 0 + i * 9 + f < len * 9 := by omega
theorem hn_le (c : Cells) (n : Int) (i : Nat) : n ≤ hn c n i := by unfold hn; omega
theorem heavyG (c : Cells) (len cap : Nat) (hB : ∀ j, j < len * 9 → (sA c j).size ≤ BB) (hl : len ≤ maxLen) : ∀ (k i : Nat) (n : Int), i + k = len → 0 ≤ n → GoesN Try.prog (bodyOf Try.prog 39 3) (k + 1) (.exit 0) (TH len cap n (i : Int)) (MC c len) (THE len cap (hv c k i n)) (MC c len)
  | 0, i, n, hk, _ => GoesN.out (by simp) (Runs.goes (envEH c) ⟨_, _, hvC c len cap n i, ⟨decide_eq_false (by omega), trivial⟩, wfTHE _ _ _ _ _⟩)
  | k + 1, i, n, hk, h0 => by
    have hi : i < len := by omega
    have hii : (0 : Int) ≤ (i : Int) ∧ (i : Int) < (len : Int) := by omega
    have hll : decide ((i : Int) < (len : Int)) = true := decide_eq_true (by omega)
    have hm : maxLen = 9223372036854775807 := by decide
    by_cases hn0 : n < 1048576
    · have s0 := hB _ (at_lt (f := 0) hi (by omega))
      have s1 := hB _ (at_lt (f := 1) hi (by omega))
      have s2 := hB _ (at_lt (f := 2) hi (by omega))
      have s3 := hB _ (at_lt (f := 3) hi (by omega))
      have hb := BB_lt
      have hd : decide (n < 1048576) = true := decide_eq_true hn0
      have ih := heavyG c len cap hB hl k (i + 1) (hn c n i) (by omega) (by have := hn_le c n i; omega)
      rw [show ((i + 1 : Nat) : Int) = (i : Int) + 1 by omega] at ih
      show GoesN Try.prog (bodyOf Try.prog 39 3) (k + 1 + 1) (.exit 0) (TH len cap n (i : Int)) (MC c len) (THE len cap (bif decide (n < 1048576) then hv c k (i + 1) (hn c n i) else n)) (MC c len)
      rw [hd, cond_true]
      refine GoesN.cons (M1 := MC c len) rfl (Runs.goes (envEH c) ⟨_, _, hvA c len cap n i, ⟨hll, hd, hii, ld9 _ (by omega) hi, ?_, hii, ld9 _ (by omega) hi, ?_, hii, ld9 _ (by omega) hi, ?_, hii, ld9 _ (by omega) hi, ?_, ?_, trivial⟩, wfTH _ _ _ _ _ _⟩) ih
      all_goals (unfold inI; omega)
    · have hd : decide (n < 1048576) = false := decide_eq_false hn0
      show GoesN Try.prog (bodyOf Try.prog 39 3) (k + 1 + 1) (.exit 0) (TH len cap n (i : Int)) (MC c len) (THE len cap (bif decide (n < 1048576) then hv c k (i + 1) (hn c n i) else n)) (MC c len)
      rw [hd, cond_false]
      exact GoesN.out (by simp) (Runs.goes (envEH c) ⟨_, _, hvB c len cap n i, ⟨hll, hd, trivial⟩, wfTHE _ _ _ _ _⟩)
theorem hv_small (c : Cells) : ∀ (k i : Nat) (n : Int), 0 ≤ n → hv c k i n ≤ 9000 → n ≤ 9000 ∧ ∀ j, i ≤ j → j < i + k → (sA c (0 + j * 9 + 0)).size ≤ 9000 ∧ (sA c (0 + j * 9 + 1)).size ≤ 9000 ∧ (sA c (0 + j * 9 + 2)).size ≤ 9000 ∧ (sA c (0 + j * 9 + 3)).size ≤ 9000
  | 0, i, n, _, h => ⟨h, fun j h1 h2 => by omega⟩
  | k + 1, i, n, h0, h => by
    by_cases hn0 : n < 1048576
    · change (bif decide (n < 1048576) then hv c k (i + 1) (hn c n i) else n) ≤ 9000 at h
      rw [decide_eq_true hn0, cond_true] at h
      have hle := hn_le c n i
      obtain ⟨h1, h2⟩ := hv_small c k (i + 1) (hn c n i) (by omega) h
      refine ⟨by omega, fun j h3 h4 => ?_⟩
      rcases Nat.eq_or_lt_of_le h3 with rfl | h5
      · unfold hn at h1
        refine ⟨?_, ?_, ?_, ?_⟩ <;> omega
      · exact h2 j h5 (by omega)
    · change (bif decide (n < 1048576) then hv c k (i + 1) (hn c n i) else n) ≤ 9000 at h
      rw [decide_eq_false hn0, cond_false] at h
      omega
noncomputable def sumH (c : Cells) (len cap : Nat) : List AV → List Blk → List Bool → CoR := sumC (TH len cap (len : Int) ((0 : Nat) : Int)) (MC c len) (THE len cap (hv c len 0 (len : Int))) (MC c len) (.exit 0)
theorem sumH_ok (c : Cells) (len cap : Nat) (hB : ∀ j, j < len * 9 → (sA c j).size ≤ BB) (hl : len ≤ maxLen) : SumOK Try.prog (.loop (bodyOf Try.prog 39 3)) (sumH c len cap) :=
  sumC_ok rfl (heavyG c len cap hB hl len 0 (len : Int) (by omega) (by omega)).loop
end Go.Ev.H5

namespace Go.Ev.H5
open Go Go.Proofs Go.RowKit
set_option maxRecDepth 100000
def x01 : ByteArray := ⟨#[1]⟩
noncomputable def kS (k : ByteArray) : ByteArray := x01 ++ (kfit k).extract 1 (kfit k).size
noncomputable def LKk : List CT := ⟨77, fnFit⟩ :: ⟨43, fnZs⟩ :: ⟨40, fnPb⟩ :: ⟨33, fnS [aSp] gOf58⟩ :: ⟨29, cV (.val (P3 wXN wYN false))⟩ :: []
theorem LKk_ok : AllCT LKk := ⟨ct8, ct21z, ct41, ct32s, ctV spec28w, trivial⟩
def SKk : FuncId → Nat → Bool := fun f t => match f with | 41 => memN t [8, 9] | 46 => memN t [5, 16] | _ => false
theorem r41k (k t x s : ByteArray) (n a b c d : Nat) : callR (mkE LKk SKk) 1000 41 [askV k t x s n a b c d] [] =
    some ([k.size ≤ 1000000, t.size ≤ 1000000, (0 : Int) ≤ 1 ∧ (1 : Int) ≤ ((kfit k).size : Int), 1 + ((kfit k).extract 1 (kfit k).size).size ≤ 9223372036854775807], .val (sS (kS k))) := by kernel_rfl
theorem kS_size (k : ByteArray) : (kS k).size = 32 := by
  have h := kfit_size k
  unfold kS
  rw [ByteArray.size_append, ByteArray.size_extract, h]
  rfl
noncomputable def fnKk (vs : List V1) : Option (List Prop × AV) :=
  match vs with
  | [.agg [.a (.v (.string k)), .a (.v (.string t)), .a (.v (.string _)), .a (.v (.string _)), .a (.u .u32 _), .a (.u .u32 _), .a (.u .u32 _), .a (.u .u32 _), .a (.u .u32 _)]] => some ([k.size ≤ 1000000, t.size ≤ 1000000], .val (sS (kS k)))
  | _ => none
theorem ct41k : CTok ⟨41, fnKk⟩ := by
  intro vs ob r h ho
  simp only [fnKk] at h
  split at h
  · rename_i k t x s n a b c d
    simp only [Option.some.injEq, Prod.mk.injEq] at h
    obtain ⟨rfl, rfl⟩ := h
    obtain ⟨h1, h2, _⟩ := ho
    have hz := kfit_size k
    exact spec_run (envMk LKk_ok SKk) rfl (r41k k t x s n a b c d) ⟨h1, h2, by omega, by rw [ByteArray.size_extract, hz]; decide, trivial⟩ rfl rfl
  · simp at h
theorem x01_eq : x01 = strOf [1] := rfl
theorem e256 : (2 * 256 ^ 31 : Nat) ≤ modN 3 := by decide +kernel
theorem numsB_len' (s : ByteArray) : (numsB s).length = s.size := by simp [numsB]
theorem one_app (X : ByteArray) : x01 ++ X = strOf (1 :: numsB X) := by
  rw [← List.singleton_append, ← strOf_app, strOf_numsB, x01_eq]
theorem kS_str (k : ByteArray) : kS k = strOf (1 :: numsB ((kfit k).extract 1 (kfit k).size)) := one_app _
theorem beS_kS (k : ByteArray) : gd (beS (kS k)) = true := by
  rw [gd_iff (beS_lt (kS_size k))]
  have h := kS_str k
  have hl : (numsB ((kfit k).extract 1 (kfit k).size)).length = 31 := by
    rw [numsB_len', ByteArray.size_extract, kfit_size]; rfl
  have hb : ∀ b ∈ numsB ((kfit k).extract 1 (kfit k).size), b < 256 := numsB_lt _
  generalize numsB ((kfit k).extract 1 (kfit k).size) = l at *
  rw [h, beS_strOf (by intro b hb'; rcases List.mem_cons.1 hb' with rfl | hb'; decide; exact hb b hb'), List.reverse_cons, leN_append, List.length_reverse, hl]
  have := leN_lt l.reverse (fun b h => hb b (List.mem_reverse.1 h))
  rw [List.length_reverse, hl] at this
  have e1 : leN [1] = 1 := rfl
  have e2 := e256
  have e3 : (0 : Nat) < 256 ^ 31 := Nat.pow_pos (by decide)
  rw [e1]
  generalize (256 : Nat) ^ 31 = w at *
  omega
theorem r46 (z : Nat) : z = z → callR (mkE LKk SKk) 1000 46 [] [true] =
    some ([(0 : Int) ≤ 31 ∧ (31 : Int) ≤ 1000000, 31 + 1 ≤ 9223372036854775807, (zs 31 ++ x01).size = 32, gd (beS (zs 31 ++ x01)) = true, wXN < 4294967296 ^ 8, wYN < 4294967296 ^ 8, ((pubS (zs 31 ++ x01)).toList == (packW wXN wYN).toList) = true], bV true) := fun _ => by kernel_rfl
theorem beS_one : beS (zs 31 ++ x01) = 1 := by decide +kernel
theorem one_size' : (zs 31 ++ x01).size = 32 := by decide +kernel
theorem spec46 : Spec 46 [] (bV true) := by
  have h1 : gd (beS (zs 31 ++ x01)) = true := by rw [beS_one]; decide +kernel
  have h2 : pubS (zs 31 ++ x01) = packW wXN wYN := by
    unfold pubS gBas
    rw [beS_one, gmul_one base_on]
  exact spec_run (envMk LKk_ok SKk) rfl (r46 0 rfl) ⟨by omega, by omega, one_size', h1, L8 wXN_lt, L8 wYN_lt, by rw [h2]; simp, trivial⟩ rfl rfl
def fnZv (Z : Nat → ByteArray) (vs : List V1) : Option (List Prop × AV) :=
  match vs with
  | [.one (.i z)] => some ([0 ≤ z ∧ z ≤ 1000000], .val (sS (Z z.toNat)))
  | _ => none
theorem ctZv : CTok ⟨43, fnZv zs⟩ := ct21z
def fnKv (K : ByteArray → ByteArray) (vs : List V1) : Option (List Prop × AV) :=
  match vs with
  | [.agg [.a (.v (.string k)), .a (.v (.string t)), .a (.v (.string _)), .a (.v (.string _)), .a (.u .u32 _), .a (.u .u32 _), .a (.u .u32 _), .a (.u .u32 _), .a (.u .u32 _)]] => some ([k.size ≤ 1000000, t.size ≤ 1000000], .val (sS (K k)))
  | _ => none
def fnPv (P : ByteArray → ByteArray) (vs : List V1) : Option (List Prop × AV) := match vs with | [.one (.v (.string s))] => some ([s.size = 32, gd (beS s) = true], .tup [sS (P s), .one (.i 0)]) | _ => none
theorem ctKv : CTok ⟨41, fnKv kS⟩ := ct41k
theorem ctPv : CTok ⟨40, fnPv pubS⟩ := ct41
structure KF where
  Z : Nat → ByteArray
  K : ByteArray → ByteArray
  P : ByteArray → ByteArray
noncomputable def kf : KF := ⟨zs, kS, pubS⟩
noncomputable def L12b (f : KF) (c : Cells) : List CT := ⟨41, fnKv f.K⟩ :: ⟨40, fnPv f.P⟩ :: ⟨44, fnVf⟩ :: ⟨43, fnZv f.Z⟩ :: ⟨46, bT⟩ :: ldC 9 (fun off => sS (sA c off)) :: ldC 69 (fun off => .agg (fldPs c shC off)) :: []
theorem L12b_ok (c : Cells) : AllCT (L12b kf c) := ⟨ctKv, ctPv, ct44, ctZv, ctT spec46, ldC_ok _ _, ldC_ok _ _, trivial⟩
def S12b : FuncId → Nat → Bool := fun f t => match f with | 12 => memN t [18, 21, 27, 2000029, 31, 35, 2000036, 45, 47, 49, 51, 54, 57, 60, 63, 75, 2000077, 24] | 39 => memN t [47] | _ => false
noncomputable def E12b (f : KF) (c : Cells) : Env := mkE (L12b f c) S12b
theorem envE12b (c : Cells) : EnvOK (E12b kf c) := envMk (L12b_ok c) _
def TB (len cap : Nat) (i : Int) : List AV := slots 97 [(0, sV' len cap), (2, bV false), (3, iV i)]
def TF (len cap : Nat) (i : Int) (p o F : ByteArray) (j : Int) : List AV := slots 97 [(0, sV' len cap), (2, bV false), (3, iV i), (4, .val (sS p)), (6, .val (sS o)), (7, .val (sS F)), (8, iV j)]
def TG (len cap : Nat) (i : Int) (p : ByteArray) (k : Int) : List AV := slots 97 [(0, sV' len cap), (2, bV false), (3, iV i), (4, .val (sS p)), (9, .val (.one (.sl 1 0 4 4))), (10, iV k)]
def b4 (w x y z : ByteArray) : Blk := ⟨[.a (.v (.string w)), .a (.v (.string x)), .a (.v (.string y)), .a (.v (.string z))], 9, true, false, 0⟩
def MG (c : Cells) (m : Nat) (w x y z : ByteArray) : List Blk := [rowB c shC m 69, b4 w x y z]
def xFF : ByteArray := ⟨#[255]⟩
theorem sFa (c : Cells) (len cap i j : Nat) (p o F : ByteArray) : runTo (E12b kf c) 1000 (Env.S (E12b kf c) 12) (bodyOf Try.prog 12 13) (TF len cap (i : Int) p o F (j : Int)) (MC c len) [true] (TF len cap (i : Int) p o (F ++ xFF) ((j : Int) + 1)) 1 =
    some ([decide ((j : Int) < 32) = true, F.size + 1 ≤ 9223372036854775807, inI ((j : Int) + 1)], .normal, TF len cap (i : Int) p o (F ++ xFF) ((j : Int) + 1), MC c len) := by kernel_rfl
theorem sFx (c : Cells) (len cap i j : Nat) (p o F : ByteArray) : runTo (E12b kf c) 1000 (Env.S (E12b kf c) 12) (bodyOf Try.prog 12 13) (TF len cap (i : Int) p o F (j : Int)) (MC c len) [false] (TF len cap (i : Int) p o F (j : Int)) 1 =
    some ([decide ((j : Int) < 32) = false], .exit 2, TF len cap (i : Int) p o F (j : Int), MC c len) := by kernel_rfl
theorem wfTF (c : Cells) (m len cap : Nat) (i : Int) (p o F : ByteArray) (j : Int) : wfS (TF len cap i p o F j) (MC c m) = true := wfC c m (by kernel_rfl)
theorem wfTB (c : Cells) (m len cap : Nat) (i : Int) : wfS (TB len cap i) (MC c m) = true := wfC c m (by kernel_rfl)
theorem tTG (len cap : Nat) (i : Int) (p : ByteArray) (k : Int) : tmsWf 2 (TG len cap i p k) = true := by kernel_rfl
theorem wfTG (c : Cells) (m : Nat) (w x y z : ByteArray) (len cap : Nat) (i : Int) (p : ByteArray) (k : Int) : wfS (TG len cap i p k) (MG c m w x y z) = true := wfS_of (by
  intro b hb
  simp only [MG, List.mem_cons, List.not_mem_nil, or_false] at hb
  rcases hb with rfl | rfl
  · exact rowB_free _ _ _ _
  · exact fun _ => rfl) (tTG len cap i p k)
def ffN : Nat → ByteArray
  | 0 => ⟨#[]⟩
  | j + 1 => ffN j ++ xFF
theorem ffN_size : ∀ j, (ffN j).size = j
  | 0 => rfl
  | j + 1 => by rw [ffN, ByteArray.size_append, ffN_size j]; rfl
theorem loopF (c : Cells) (len cap i : Nat) (p o : ByteArray) : Goes Try.prog (.loop (bodyOf Try.prog 12 13)) (.exit 2) (TF len cap (i : Int) p o (ffN 0) ((0 : Nat) : Int)) (MC c len) (TF len cap (i : Int) p o (ffN 32) ((32 : Nat) : Int)) (MC c len) := by
  refine loop_goes (N := 32) (k := 1) (T := fun j => TF len cap (i : Int) p o (ffN j) (j : Int)) (M := fun _ => MC c len) (by simp) (fun _ _ => rfl) (fun j hj => ?_) ?_
  · exact Runs.goes (envE12b c) ⟨_, _, sFa c len cap i j p o (ffN j), ⟨decide_eq_true (by omega), by rw [ffN_size]; omega, by unfold inI; omega, trivial⟩, wfTF _ _ _ _ _ _ _ _ _⟩
  · exact Runs.goes (envE12b c) ⟨_, _, sFx c len cap i 32 p o (ffN 32), ⟨by decide, trivial⟩, wfTF _ _ _ _ _ _ _ _ _⟩
def at4 (w x y z : ByteArray) (k : Nat) : ByteArray := match k with | 0 => w | 1 => x | 2 => y | _ => z
noncomputable def obG (c : Cells) (len i : Nat) (p s : ByteArray) : List Prop := [(0 : Int) ≤ (i : Int) ∧ (i : Int) < (len : Int), LoadsAs Try.prog 9 (rowPs c shC len 0) (0 + i * 9 + 3) (.one (.v (.string (sA c (0 + i * 9 + 3))))), s.size = 64, (sA c (0 + i * 9 + 3)).size ≤ 4096, wE p = 0, gd (lo s) = false ∨ gd (hi s) = false]
theorem sG (c : Cells) (len cap i : Nat) (p w x y z : ByteArray) : ∀ k : Nat, k < 4 → runTo (E12b kf c) 1000 (Env.S (E12b kf c) 12) (bodyOf Try.prog 12 18) (TG len cap (i : Int) p (k : Int)) (MG c len w x y z) [] (TG len cap (i : Int) p ((k + 1 : Nat) : Int)) 2 =
    some (obG c len i p (at4 w x y z k), .normal, TG len cap (i : Int) p ((k + 1 : Nat) : Int), MG c len w x y z)
  | 0, _ => by kernel_rfl
  | 1, _ => by kernel_rfl
  | 2, _ => by kernel_rfl
  | 3, _ => by kernel_rfl
theorem sGx (c : Cells) (len cap i : Nat) (p w x y z : ByteArray) : runTo (E12b kf c) 1000 (Env.S (E12b kf c) 12) (bodyOf Try.prog 12 18) (TG len cap (i : Int) p ((4 : Nat) : Int)) (MG c len w x y z) [] (TG len cap (i : Int) p ((4 : Nat) : Int)) 2 =
    some ([], .exit 4, TG len cap (i : Int) p ((4 : Nat) : Int), MG c len w x y z) := by kernel_rfl
def badS (s : ByteArray) : Prop := s.size = 64 ∧ (gd (lo s) = false ∨ gd (hi s) = false)
theorem loopG (c : Cells) (len cap i : Nat) (hi : i < len) (p w x y z : ByteArray) (hp : wE p = 0) (hm : (sA c (0 + i * 9 + 3)).size ≤ 4096) (hb : ∀ k, k < 4 → badS (at4 w x y z k)) :
    Goes Try.prog (.loop (bodyOf Try.prog 12 18)) (.exit 4) (TG len cap (i : Int) p ((0 : Nat) : Int)) (MG c len w x y z) (TG len cap (i : Int) p ((4 : Nat) : Int)) (MG c len w x y z) := by
  refine loop_goes (N := 4) (k := 2) (T := fun k => TG len cap (i : Int) p (k : Int)) (M := fun _ => MG c len w x y z) (by simp) (fun _ _ => rfl) (fun k hk => ?_) ?_
  · obtain ⟨h1, h2⟩ := hb k hk
    exact Runs.goes (envE12b c) ⟨_, _, sG c len cap i p w x y z k hk, ⟨by omega, ld9 3 (by decide) hi, h1, hm, hp, h2, trivial⟩, wfTG _ _ _ _ _ _ _ _ _ _ _⟩
  · exact Runs.goes (envE12b c) ⟨_, _, sGx c len cap i p w x y z, trivial, wfTG _ _ _ _ _ _ _ _ _ _ _⟩
def oneS (f : KF) : ByteArray := f.Z 31 ++ x01
def pK (f : KF) (c : Cells) (i : Nat) : ByteArray := f.P (f.K (sA c (0 + i * 9)))
noncomputable def E12f (f : KF) (c : Cells) (len cap i : Nat) (p o F : ByteArray) : Env := addL (E12b f c) 13 (bodyOf Try.prog 12 13) (sumC (TF len cap (i : Int) p o ⟨#[]⟩ ((0 : Nat) : Int)) (MC c len) (TF len cap (i : Int) p o F ((32 : Nat) : Int)) (MC c len) (.exit 2))
noncomputable def E12g (f : KF) (c : Cells) (len cap i : Nat) (p o F w x y z : ByteArray) : Env := addL (E12f f c len cap i p o F) 18 (bodyOf Try.prog 12 18) (sumC (TG len cap (i : Int) p ((0 : Nat) : Int)) (MG c len w x y z) (TG len cap (i : Int) p ((4 : Nat) : Int)) (MG c len w x y z) (.exit 4))
noncomputable def E12t (f : KF) (c : Cells) (len cap i : Nat) (F : ByteArray) : Env := E12g f c len cap i (pK f c i) (oneS f) F (f.Z 32 ++ oneS f) (oneS f ++ f.Z 32) (F ++ oneS f) (oneS f ++ F)
end Go.Ev.H5

namespace Go.Ev.H5
open Go Go.Proofs Go.RowKit
set_option maxRecDepth 100000
def dropM : Option (List Prop × List Bool × AV × List Blk) → Option (List Prop × AV)
  | some (o, _, r, _) => some (o, r)
  | none => none
theorem dropM_some {x : Option (List Prop × List Bool × AV × List Blk)} {o : List Prop} {r : AV} (h : dropM x = some (o, r)) : ∃ c m, x = some (o, c, r, m) := by
  unfold dropM at h
  split at h
  · rename_i o' c r' m
    simp only [Option.some.injEq, Prod.mk.injEq] at h
    obtain ⟨rfl, rfl⟩ := h
    exact ⟨c, m, rfl⟩
  · simp at h
theorem law_runD {E : Env} (hE : EnvOK E) {n : Nat} {f : FuncId} {len cap : Nat} {B : Blk} {c : List Bool} {ob : List Prop}
    (h : dropM (callBy E (evalC E n) f [.one (.sl 0 0 len cap)] [B] c) = some (ob, bV true)) (ho : All ob) {w : World} {φ : Loc} (hm : MRel w φ [B] w) :
    Calls E.P f #[(V1.one (.sl 0 0 len cap)).conc φ] w (Trues w) := by
  obtain ⟨c', m', h'⟩ := dropM_some h
  exact law_run hE h' ho hm
theorem law_nilD {E : Env} (hE : EnvOK E) {n : Nat} {f : FuncId} {c : List Bool} {ob : List Prop}
    (h : dropM (callBy E (evalC E n) f [.one (.v (.slice none 0 0))] [] c) = some (ob, bV true)) (ho : All ob) (w : World) :
    Calls E.P f #[.slice none 0 0] w (Trues w) := by
  obtain ⟨c', m', h'⟩ := dropM_some h
  exact law_run_nil hE h' ho w

def inL (len i : Nat) : Prop := (0 : Int) ≤ (i : Int) ∧ (i : Int) < (len : Int)
def ldM (c : Cells) (len i : Nat) : Prop := LoadsAs Try.prog 9 (rowPs c shC len 0) (0 + i * 9 + 3) (.one (.v (.string (sA c (0 + i * 9 + 3)))))
def stF (f : KF) (c : Cells) (len cap i : Nat) (F : ByteArray) : Prop := (TF len cap (i : Int) (pK f c i) (oneS f) F ((0 : Nat) : Int), MC c len) = (TF len cap (i : Int) (pK f c i) (oneS f) F ((0 : Nat) : Int), MC c len)
def stG (f : KF) (c : Cells) (len cap i : Nat) (F : ByteArray) : Prop := (TG len cap (i : Int) (pK f c i) ((0 : Nat) : Int), MG c len (f.Z 32 ++ oneS f) (oneS f ++ f.Z 32) (F ++ oneS f) (oneS f ++ F)) = (TG len cap (i : Int) (pK f c i) ((0 : Nat) : Int), MG c len (f.Z 32 ++ oneS f) (oneS f ++ f.Z 32) (F ++ oneS f) (oneS f ++ F))
theorem sB1 (f : KF) (c : Cells) (len cap i : Nat) (F : ByteArray) : runTo (E12t f c len cap i F) 1000 (Env.S (E12b f c) 12) (bodyOf Try.prog 12 4) (TB len cap (i : Int)) (MC c len) [true, true, false] (TB len cap ((i : Int) + 1)) 1 =
    some ([decide ((i : Int) < (len : Int)) = true, decide ((i : Int) < 2) = true, inL len i, ldM c len i, decide ((4096 : Int) < ((sA c (0 + i * 9 + 3)).size : Int)) = false, inL len i, LoadsAs Try.prog 69 (rowPs c shC len 0) (0 + i * 9) (.agg (fldPs c shC (0 + i * 9))),
      (sA c (0 + i * 9)).size ≤ 1000000, (sA c (0 + i * 9 + 1)).size ≤ 1000000, (f.K (sA c (0 + i * 9))).size = 32, gd (beS (f.K (sA c (0 + i * 9)))) = true, (0 : Int) ≤ 31 ∧ (31 : Int) ≤ 1000000, (f.Z 31).size + 1 ≤ 9223372036854775807,
      bodyOf Try.prog 12 13 = bodyOf Try.prog 12 13, stF f c len cap i ⟨#[]⟩, wfS (TF len cap (i : Int) (pK f c i) (oneS f) ⟨#[]⟩ ((0 : Nat) : Int)) (MC c len) = true,
      (0 : Int) ≤ 32 ∧ (32 : Int) ≤ 1000000, (f.Z 32).size + (oneS f).size ≤ 9223372036854775807, (0 : Int) ≤ 32 ∧ (32 : Int) ≤ 1000000, (oneS f).size + (f.Z 32).size ≤ 9223372036854775807, F.size + (oneS f).size ≤ 9223372036854775807, (oneS f).size + F.size ≤ 9223372036854775807,
      bodyOf Try.prog 12 18 = bodyOf Try.prog 12 18, stG f c len cap i F, wfS (TG len cap (i : Int) (pK f c i) ((0 : Nat) : Int)) (MG c len (f.Z 32 ++ oneS f) (oneS f ++ f.Z 32) (F ++ oneS f) (oneS f ++ F)) = true, inI ((i : Int) + 1)], .normal, TB len cap ((i : Int) + 1), MC c len) := by kernel_rfl
theorem sBc (c : Cells) (len cap i : Nat) : runTo (E12b kf c) 1000 (Env.S (E12b kf c) 12) (bodyOf Try.prog 12 4) (TB len cap (i : Int)) (MC c len) [true, true, true] (TB len cap ((i : Int) + 1)) 1 =
    some ([decide ((i : Int) < (len : Int)) = true, decide ((i : Int) < 2) = true, inL len i, ldM c len i, decide ((4096 : Int) < ((sA c (0 + i * 9 + 3)).size : Int)) = true, inI ((i : Int) + 1)], .normal, TB len cap ((i : Int) + 1), MC c len) := by kernel_rfl
theorem sBo (c : Cells) (len cap i : Nat) : runTo (E12b kf c) 1000 (Env.S (E12b kf c) 12) (bodyOf Try.prog 12 4) (TB len cap (i : Int)) (MC c len) [false] (TB len cap (i : Int)) 1 = some ([decide ((i : Int) < (len : Int)) = false], .exit 0, TB len cap (i : Int), MC c len) := by kernel_rfl
theorem sBp (c : Cells) (len cap i : Nat) : runTo (E12b kf c) 1000 (Env.S (E12b kf c) 12) (bodyOf Try.prog 12 4) (TB len cap (i : Int)) (MC c len) [true, false] (TB len cap (i : Int)) 1 = some ([decide ((i : Int) < (len : Int)) = true, decide ((i : Int) < 2) = false], .exit 0, TB len cap (i : Int), MC c len) := by kernel_rfl
theorem bad1 : badS (zs 32 ++ oneS kf) := ⟨by decide +kernel, .inl (by decide +kernel)⟩
theorem bad2 : badS (oneS kf ++ zs 32) := ⟨by decide +kernel, .inr (by decide +kernel)⟩
theorem bad3 : badS (ffN 32 ++ oneS kf) := ⟨by decide +kernel, .inl (by decide +kernel)⟩
theorem bad4 : badS (oneS kf ++ ffN 32) := ⟨by decide +kernel, .inr (by decide +kernel)⟩
theorem oneS_size : (oneS kf).size = 32 := by unfold oneS; rw [ByteArray.size_append]; rfl
theorem envE12t (c : Cells) (len cap i : Nat) (hi : i < len) (hm : (sA c (0 + i * 9 + 3)).size ≤ 4096) : EnvOK (E12t kf c len cap i (ffN 32)) := by
  refine envAddL (envAddL (envE12b c) (sumC_ok rfl (loopF c len cap i _ _))) (sumC_ok rfl (loopG c len cap i hi _ _ _ _ _ (unp_pub (kS_size _) (beS_kS _)) hm ?_))
  intro k hk
  match k, hk with
  | 0, _ => exact bad1
  | 1, _ => exact bad2
  | 2, _ => exact bad3
  | 3, _ => exact bad4
theorem loopB (c : Cells) (len cap : Nat) (hs : ∀ j, j < len → (sA c (0 + j * 9 + 0)).size ≤ 9000 ∧ (sA c (0 + j * 9 + 1)).size ≤ 9000) : Goes Try.prog (.loop (bodyOf Try.prog 12 4)) (.exit 0) (TB len cap ((0 : Nat) : Int)) (MC c len) (TB len cap ((min len 2 : Nat) : Int)) (MC c len) := by
  refine loop_goes (N := min len 2) (k := 1) (T := fun i => TB len cap (i : Int)) (M := fun _ => MC c len) (by simp) (fun _ _ => rfl) (fun i hi => ?_) ?_
  · obtain ⟨h1, h2⟩ := hs i (by omega)
    have h1' : (sA c (0 + i * 9)).size ≤ 9000 := h1
    have hi' : i < len := by omega
    have b1 : inL len i := by unfold inL; omega
    have b2 : ldM c len i := ld9 3 (by decide) hi'
    by_cases hm : (sA c (0 + i * 9 + 3)).size ≤ 4096
    · have z1 : (kf.Z 31).size = 31 := zs_size 31
      have z2 : (kf.Z 32).size = 32 := zs_size 32
      have z3 := oneS_size
      have z4 := ffN_size 32
      exact Runs.goes (envE12t c len cap i hi' hm) ⟨_, _, sB1 kf c len cap i (ffN 32), ⟨decide_eq_true (by omega), decide_eq_true (by omega), b1, b2, decide_eq_false (by omega), b1, ld38 hi', by omega, by omega, kS_size _, beS_kS _, by omega, by omega, rfl, rfl, wfTF _ _ _ _ _ _ _ _ _, by omega, by omega, by omega, by omega, by omega, by omega, rfl, rfl, wfTG _ _ _ _ _ _ _ _ _ _ _, by unfold inI; omega, trivial⟩, wfTB _ _ _ _ _⟩
    · exact Runs.goes (envE12b c) ⟨_, _, sBc c len cap i, ⟨decide_eq_true (by omega), decide_eq_true (by omega), b1, b2, decide_eq_true (by omega), by unfold inI; omega, trivial⟩, wfTB _ _ _ _ _⟩
  · by_cases h : len ≤ 2
    · rw [show min len 2 = len by omega]
      exact Runs.goes (envE12b c) ⟨_, _, sBo c len cap len, ⟨decide_eq_false (by omega), trivial⟩, wfTB _ _ _ _ _⟩
    · rw [show min len 2 = 2 by omega]
      exact Runs.goes (envE12b c) ⟨_, _, sBp c len cap 2, ⟨decide_eq_true (by omega), decide_eq_false (by omega), trivial⟩, wfTB _ _ _ _ _⟩
noncomputable def EH12 (c : Cells) (len cap : Nat) : Env := addL (E12b kf c) 3 (bodyOf Try.prog 39 3) (sumH c len cap)
theorem envEH12 (c : Cells) (len cap : Nat) (hB : ∀ j, j < len * 9 → (sA c j).size ≤ BB) (hl : len ≤ maxLen) : EnvOK (EH12 c len cap) := envAddL (envE12b c) (sumH_ok c len cap hB hl)
noncomputable def EE12 (c : Cells) (len cap : Nat) : Env := addL (EH12 c len cap) 4 (bodyOf Try.prog 12 4) (sumC (TB len cap ((0 : Nat) : Int)) (MC c len) (TB len cap ((min len 2 : Nat) : Int)) (MC c len) (.exit 0))
theorem envEE12 (c : Cells) (len cap : Nat) (hB : ∀ j, j < len * 9 → (sA c j).size ≤ BB) (hl : len ≤ maxLen) (hs : ∀ j, j < len → (sA c (0 + j * 9 + 0)).size ≤ 9000 ∧ (sA c (0 + j * 9 + 1)).size ≤ 9000) : EnvOK (EE12 c len cap) := envAddL (envEH12 c len cap hB hl) (sumC_ok rfl (loopB c len cap hs))
theorem l12hv (c : Cells) (len cap : Nat) : dropM (callBy (EH12 c len cap) (evalC (EH12 c len cap) 1000) 12 [V1.one (Atom.sl 0 0 len cap)] [rowB c shC len 69] [true]) =
    some ([bodyOf Try.prog 39 3 = bodyOf Try.prog 39 3, (TH len cap (len : Int) ((0 : Nat) : Int), MC c len) = (TH len cap (len : Int) ((0 : Nat) : Int), MC c len), wfS (TH len cap (len : Int) ((0 : Nat) : Int)) (MC c len) = true, decide ((9000 : Int) < hv c len 0 (len : Int)) = true], bV true) := by kernel_rfl
theorem l12ok (c : Cells) (len cap : Nat) : dropM (callBy (EE12 c len cap) (evalC (EE12 c len cap) 1000) 12 [V1.one (Atom.sl 0 0 len cap)] [rowB c shC len 69] [false]) =
    some ([bodyOf Try.prog 39 3 = bodyOf Try.prog 39 3, (TH len cap (len : Int) ((0 : Nat) : Int), MC c len) = (TH len cap (len : Int) ((0 : Nat) : Int), MC c len), wfS (TH len cap (len : Int) ((0 : Nat) : Int)) (MC c len) = true, decide ((9000 : Int) < hv c len 0 (len : Int)) = false, bodyOf Try.prog 12 4 = bodyOf Try.prog 12 4, (TB len cap ((0 : Nat) : Int), MC c len) = (TB len cap ((0 : Nat) : Int), MC c len), wfS (TB len cap ((0 : Nat) : Int)) (MC c len) = true], bV true) := by kernel_rfl
def c0 : Cells := ⟨fun _ => false, fun _ => ByteArray.empty, fun _ => 0, fun _ => 0⟩
theorem l12nil (c : Cells) : dropM (callBy (E12b kf c) (evalC (E12b kf c) 1000) 12 [V1.one (Atom.v (Value.slice none 0 0))] [] [false, false]) =
    some ([decide ((9000 : Int) < ((0 : Nat) : Int)) = false, decide ((0 : Int) < ((0 : Nat) : Int)) = false], bV true) := by kernel_rfl
theorem l12nilc (w : World) : Calls Try.prog 12 #[.slice none 0 0] w (Trues w) := law_nilD (envE12b c0) (l12nil c0) ⟨by decide, by decide, trivial⟩ w
theorem law12 {H : Type} {enc : TypeId × Value → H} {r : Reach} {W : World} {base : Nat} {v : Value} {d : DataW H} {ps : List MemPlace} (hval : Value.okWide Try.prog W r base 65 v) (h : DataW.Trod enc Try.prog W 0 (fun _ => true) true 65 v d ps) (hwt : ∀ n ∈ d.weights Try.prog 65, n ≤ BB) :
    Calls Try.prog 12 #[v] W (Trues W) := by
  refine rows_calls_sized shC (B := BB) (Q := Trues) u23 k38 s38 l12nilc ?_ hval h hwt
  intro c len cap hlc hcap ho hB w φ hmr
  have hl : len ≤ maxLen := by omega
  have hB' : ∀ j, j < len * 9 → (sA c j).size ≤ BB := hB
  by_cases hh : 9000 < hv c len 0 (len : Int)
  · exact law_runD (envEH12 c len cap hB' hl) (l12hv c len cap) ⟨rfl, rfl, wfTH _ _ _ _ _ _, decide_eq_true hh, trivial⟩ hmr
  · have hs := (hv_small c len 0 (len : Int) (by omega) (by omega)).2
    refine law_runD (envEE12 c len cap hB' hl ?_) (l12ok c len cap) ⟨rfl, rfl, wfTH _ _ _ _ _ _, decide_eq_false hh, rfl, rfl, wfTB _ _ _ _ _, trivial⟩ hmr
    intro j hj
    obtain ⟨h1, h2, h3, h4⟩ := hs j (Nat.zero_le _) (by omega)
    exact ⟨h1, h2⟩
end Go.Ev.H5

namespace Go.Proofs.Ytkjohncaajammaa.Laws
open Go Go.Ev Go.Ev.H5 Go.RowKit Go.ChangeShapes Go.WideShapes Go.ChangeAt

set_option maxRecDepth 100000 in
theorem lifted12 (os : Os) (started : os.Started) (H : Type) (enc : TypeId × Value → H) :
    ReturnsInHanded {} Try.checked os 12 .any (Rows.ecsigBoundsSpec.pre6 enc Try.prog Try.f12 Rows.ecsigBoundsRow.domain false) (Rows.ecsigBoundsSpec.post enc Try.prog Try.f12 false true false false) := by
  refine returnsInHanded_of_change_sized (C := Try.checked) own started (by kernel_rfl) Try.func12
    (ChangeSpec.witness6 (enc := enc) (C := Try.checked) false ⟨#[], #[.slice none 0 0], []⟩ 8 (by kernel_rfl) (by kernel_rfl) (by kernel_rfl) (by kernel_rfl)) ?_
  intro W base args ds gs before hval0 hW _ hsz0 _
  have hsz : (DataW.weightsEach Try.prog (Try.f12.params.toList ++ Rows.ecsigBoundsSpec.plain.varTypes Try.prog) (ds ++ gs)).all (· ≤ reachBytes) = true := hsz0
  clear hsz0
  have hval : ∀ (j : Nat) t v, Try.f12.params[j]? = some t → args[j]? = some v → Value.okWide Try.prog W .any base t v := hval0
  have hW' := hW
  obtain ⟨p, q, hA0, hV, hbef, hfz, hnd⟩ := hW
  have hp : Try.f12.params = #[65] := by kernel_rfl
  have hA : DataW.TrodAll enc Try.prog W 0 (fun _ => true) true Try.f12.params.toList args.toList ds p := hA0
  rw [hp] at hA hval
  obtain ⟨v0, d0, rfl, rfl, h0⟩ := trodAll_one hA
  obtain ⟨rfl, rfl⟩ := trodVars_none hV
  refine (law12 (hval 0 65 v0 rfl rfl) h0 (fun n hn => by simpa using List.all_eq_true.1 hsz n (DataW.weights_mem_each (j := 0) (t := 65) (by rw [hp]; rfl) rfl n hn))).mono ?_
  rintro e W' ⟨rfl, hb⟩
  exact ⟨_, rfl, post_true (tb := 4) rfl hp (by kernel_rfl) u4 laid rd23 row23 rfl rfl hW' hb⟩

theorem holds12 : Rows.EcsigBoundsSaid :=
  OpenClaim.holds_of_wide 12 Try.f12 rfl rfl rfl rfl rfl rfl rfl ⟨rfl, rfl, rfl, rfl, rfl⟩ rfl rfl rfl rfl rfl (by kernel_rfl) Try.func12 (by kernel_rfl)
    (of_decide_eq_true (by kernel_rfl)) (by unfold Func.isWrapper; first | (rw [if_pos (by decide +kernel)]; kernel_rfl) | (rw [if_neg (by decide +kernel)]; exact ⟨rfl, rfl⟩))
    (fun os started H enc _ => lifted12 os started H enc)

end Go.Proofs.Ytkjohncaajammaa.Laws

namespace Go.Proofs.Ytkjohncaajammaa
open Go
theorem ecsigBounds_holds : Rows.EcsigBoundsSaid := Laws.holds12
end Go.Proofs.Ytkjohncaajammaa

