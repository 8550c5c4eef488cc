/- Keyed sums, nodes, and the law, of every input: SlipChilds holds of every argument -/
import Derived.Test.YtfcobjhnkghdjaaGreatPartV
import Derived.Test.YtfcobjhnkghdjaaGreatPartR
import Derived.Test.YtfcobjhnkghdjaaGreatPartQ
import Derived.Test.YtfcobjhnkghdjaaGreatPartU
import Derived.JoinedOf
import Derived.SizedLaws
namespace Go.Ev.H5
open Go Go.Proofs Go.RowKit
set_option maxRecDepth 100000
theorem ct28 : CTok ⟨28, fnKy⟩ := by
  intro vs ob r h ho
  simp only [fnKy] at h
  split at h
  · simp only [Option.some.injEq, Prod.mk.injEq] at h
    obtain ⟨rfl, rfl⟩ := h
    obtain ⟨h1, _⟩ := ho
    exact spec_run (envMk LKz_ok SKz) rfl (r28 _) ⟨dec32 h1, h1, beS_lt h1, trivial⟩ rfl rfl
  · simp at h
noncomputable def LPb : List CT := ⟨28, fnKy⟩ :: ⟨43, fnKy⟩ :: ⟨65, fnS [aN, aSp] gMulP⟩ :: ⟨49, fnS [aN, aSp] gMulQ⟩ :: ⟨64, fnS [aSp] gOf58⟩ :: ⟨48, fnS [aSp] gOf58⟩ :: ⟨66, cV (.val (P3 wXN wYN false))⟩ :: ⟨50, cV (.val (P3 wXN wYN false))⟩ :: []
theorem LPb_ok : AllCT LPb := ⟨ct28, ct43, ct39q, ct15q, ct58s, ct32s, ctV spec19w, ctV spec28w, trivial⟩
def SPb : FuncId → Nat → Bool := fun f t => match f with | 41 => memN t [12] | _ => false
noncomputable def gBas (k : Nat) : Sp := gmul (Sp.mk wXN wYN false) k
theorem gBas_on (k : Nat) : (gBas k).on := gmul_on (s := Sp.mk wXN wYN false) on_base k
theorem gBas_lt (k : Nat) : (gBas k).x < 4294967296 ^ 8 ∧ (gBas k).y < 4294967296 ^ 8 := ⟨L8 (gBas_on k).lx, L8 (gBas_on k).ly⟩
noncomputable def pubS (s : ByteArray) : ByteArray := packW (gBas (beS s)).x (gBas (beS s)).y
theorem pubS_size (s : ByteArray) : (pubS s).size = 33 := by
  unfold pubS packW
  rw [ByteArray.size_append, Go.Ev.bgS_size, one_size]
theorem r41 (s : ByteArray) : callR (mkE LPb SPb) 1000 41 [sS s] [false] =
    some ([s.size = 32, (!gd (beS s)) = false, beS s < 4294967296 ^ 8, wXN < 4294967296 ^ 8, wYN < 4294967296 ^ 8, onS wXN wYN false = true, (gBas (beS s)).x < 4294967296 ^ 8, (gBas (beS s)).y < 4294967296 ^ 8], .tup [sS (pubS s), .one (.i 0)]) := by kernel_rfl
theorem r30 (s : ByteArray) : callR (mkE LPb SPb) 1000 30 [sS s] [] =
    some ([s.size = 32, beS s < 4294967296 ^ 8, wXN < 4294967296 ^ 8, wYN < 4294967296 ^ 8, onS wXN wYN false = true, (gBas (beS s)).x < 4294967296 ^ 8, (gBas (beS s)).y < 4294967296 ^ 8], .val (sS (pubS s))) := by kernel_rfl
noncomputable def fnPb (vs : List V1) : Option (List Prop × AV) := match vs with | [.one (.v (.string s))] => some ([s.size = 32, gd (beS s) = true], .tup [sS (pubS s), .one (.i 0)]) | _ => none
noncomputable def fnPc (vs : List V1) : Option (List Prop × AV) := match vs with | [.one (.v (.string s))] => some ([s.size = 32], .val (sS (pubS s))) | _ => none
theorem ct41 : CTok ⟨41, fnPb⟩ := by
  intro vs ob r h ho
  simp only [fnPb] at h
  split at h
  · simp only [Option.some.injEq, Prod.mk.injEq] at h
    obtain ⟨rfl, rfl⟩ := h
    obtain ⟨h1, h2, _⟩ := ho
    exact spec_run (envMk LPb_ok SPb) rfl (r41 _) ⟨h1, by rw [h2]; rfl, beS_lt h1, L8 wXN_lt, L8 wYN_lt, on_base, (gBas_lt _).1, (gBas_lt _).2, trivial⟩ rfl rfl
  · simp at h
theorem ct30 : CTok ⟨30, fnPc⟩ := by
  intro vs ob r h ho
  simp only [fnPc] at h
  split at h
  · simp only [Option.some.injEq, Prod.mk.injEq] at h
    obtain ⟨rfl, rfl⟩ := h
    obtain ⟨h1, _⟩ := ho
    exact spec_run (envMk LPb_ok SPb) rfl (r30 _) ⟨h1, beS_lt h1, L8 wXN_lt, L8 wYN_lt, on_base, (gBas_lt _).1, (gBas_lt _).2, trivial⟩ rfl rfl
  · simp at h
noncomputable def LMp : List CT := ⟨41, fnPb⟩ :: ⟨30, fnPc⟩ :: LMy
theorem LMp_ok : AllCT LMp := ⟨ct41, ct30, LMy_ok⟩
end Go.Ev.H5

namespace Go.Ev.H5
open Go Go.Proofs Go.RowKit
set_option maxRecDepth 100000
noncomputable def sfS (k : ByteArray) (i : Nat) : ByteArray := pubS k ++ ixS i
theorem sfS_size (k : ByteArray) (i : Nat) : (sfS k i).size = 37 := by
  unfold sfS
  rw [ByteArray.size_append, pubS_size, ixS_size]
noncomputable def E27p (s : ByteArray) (i : Nat) (k c : ByteArray) (T : List AV) (k' c' : ByteArray) (ex : Ex) : Env := addLp (mkE LMp SMs) 5 (bodyOf Tryz.prog 27 5) (sumC (T27 s i 0) [nB k c, nB e0 e0] T [nB k c, nB k' c'] ex)
noncomputable def E12p (s : ByteArray) (i : Nat) (k c : ByteArray) (T : List AV) (k' c' : ByteArray) (ex : Ex) : Env := addLp (mkE LMp SMs) 7 (bodyOf Tryz.prog 12 7) (sumC (T12 s i 0) [nB k c, nB e0 e0] T [nB k c, nB k' c'] ex)
theorem envMp : EnvOK (mkE LMp SMs) := envMk LMp_ok SMs
noncomputable def ob27s (k c : ByteArray) (i : Nat) : List Prop := [decide ((2 : Int) = 1) = false, decide (2147483648 ≤ i) = false, k.size = 32, gd (beS k) = true, (pubS k).size + (ixS i).size ≤ 9223372036854775807, bodyOf Tryz.prog 27 5 = bodyOf Tryz.prog 27 5, (T27 (sfS k i) i 0, [nB k c, nB e0 e0]) = (T27 (sfS k i) i 0, [nB k c, nB e0 e0]), wfS (T27 (sfS k i) i 0) [nB k c, nB e0 e0] = true]
theorem eS (k c k' c' : ByteArray) (i : Nat) : callR (E27p (sfS k i) i k c T27r k' c' .ret) 1000 27 [.one (.i 2), node k c, u32 i] [false, false] = some (ob27s k c i, res k' c' 0) := by kernel_rfl
theorem eN (k c : ByteArray) (i : Nat) : callR (E27p (sfS k i) i k c T27x e0 e0 (.exit 0)) 1000 27 [.one (.i 2), node k c, u32 i] [false, false] = some (ob27s k c i, res e0 e0 3) := by kernel_rfl
noncomputable def ob12s (k c : ByteArray) (i : Nat) : List Prop := [decide ((2 : Int) = 1) = false, 1 + k.size ≤ 9223372036854775807, (zer1 ++ k).size + (ixS i).size ≤ 9223372036854775807, decide (i < 2147483648) = true, k.size = 32, (pubS k).size + (ixS i).size ≤ 9223372036854775807, bodyOf Tryz.prog 12 7 = bodyOf Tryz.prog 12 7, (T12 (sfS k i) i 0, [nB k c, nB e0 e0]) = (T12 (sfS k i) i 0, [nB k c, nB e0 e0]), wfS (T12 (sfS k i) i 0) [nB k c, nB e0 e0] = true]
theorem fS (k c k' c' : ByteArray) (i : Nat) : callR (E12p (sfS k i) i k c T12r k' c' .ret) 1000 12 [.one (.i 2), node k c, u32 i] [false, true] = some (ob12s k c i, res k' c' 0) := by kernel_rfl
theorem fN (k c : ByteArray) (i : Nat) : callR (E12p (sfS k i) i k c T12x e0 e0 (.exit 0)) 1000 12 [.one (.i 2), node k c, u32 i] [false, true] = some (ob12s k c i, res e0 e0 3) := by kernel_rfl
theorem gd_parts {z : Int} {k c : ByteArray} (h : mayB z k c = true) : z = 1 ∨ gd (beS k) = true := by
  unfold mayB at h
  simp only [Bool.and_eq_true, Bool.or_eq_true, decide_eq_true_eq] at h
  exact h.2.2.2
noncomputable def bgI (k : ByteArray) (i : Nat) : ByteArray := bif decide (2147483648 ≤ i) then hdS k i else sfS k i
noncomputable def noB (z : Int) (i : Nat) : Bool := decide (z = 1) && decide (i < 2147483648)
noncomputable def cK (z : Int) (k c : ByteArray) (i : Nat) : ByteArray := bif noB z i then e0 else chK z k c (bgI k i) (ixS i)
noncomputable def cC (z : Int) (k c : ByteArray) (i : Nat) : ByteArray := bif noB z i then e0 else chC z k c (bgI k i) (ixS i)
noncomputable def cE (z : Int) (k c : ByteArray) (i : Nat) : Int := bif noB z i then 10 else chE z k c (bgI k i) (ixS i)
noncomputable def resA (z : Int) (k c : ByteArray) (i : Nat) : AV := res (cK z k c i) (cC z k c i) (cE z k c i)
theorem resA_hard {z : Int} {k c : ByteArray} {i : Nat} (hi : 2147483648 ≤ i) : resA z k c i = res (chK z k c (hdS k i) (ixS i)) (chC z k c (hdS k i) (ixS i)) (chE z k c (hdS k i) (ixS i)) := by
  unfold resA cK cC cE
  rw [show noB z i = false by unfold noB; rw [decide_eq_false (show ¬ i < 2147483648 by omega), Bool.and_false], cond_false, cond_false, cond_false]
  rw [show bgI k i = hdS k i by unfold bgI; rw [decide_eq_true hi, cond_true]]
theorem resA_none {k c : ByteArray} {i : Nat} (hi : i < 2147483648) : resA 1 k c i = res e0 e0 10 := by
  unfold resA cK cC cE
  rw [show noB 1 i = true by unfold noB; rw [decide_eq_true hi]; rfl, cond_true, cond_true, cond_true]
theorem resA_soft {k c : ByteArray} {i : Nat} (hi : i < 2147483648) : resA 2 k c i = res (chK 2 k c (sfS k i) (ixS i)) (chC 2 k c (sfS k i) (ixS i)) (chE 2 k c (sfS k i) (ixS i)) := by
  unfold resA cK cC cE
  rw [show noB 2 i = false from rfl, cond_false, cond_false, cond_false]
  rw [show bgI k i = sfS k i by unfold bgI; rw [decide_eq_false (by omega), cond_false]]
theorem spec27a (z : Int) (k c : ByteArray) (i : Nat) (hz : z = 1 ∨ z = 2) (hm : mayB z k c = true) : Spec 27 [.one (.i z), node k c, u32 i] (resA z k c i) := by
  by_cases hi : 2147483648 ≤ i
  · rw [resA_hard hi]; exact spec27h z k c i hz hm hi
  · have hi : i < 2147483648 := by omega
    have hg := gd_parts hm
    obtain ⟨hk, hc, ha⟩ := may_parts hm
    have h3 := ixS_size i
    have h4 := pubS_size k
    have h5 := sfS_size k i
    rcases hz with rfl | rfl
    · rw [resA_none hi]
      exact spec_run envMs rfl (c0f k c i) ⟨by decide, decide_eq_true hi, trivial⟩ rfl rfl
    · have ha : beS k < modN 3 := ha.resolve_left (by omega)
      have hg : gd (beS k) = true := hg.resolve_left (by omega)
      rw [resA_soft hi]
      unfold chK chC chE
      rw [show decide ((2 : Int) = 1) = false from rfl, cond_false, cond_false, cond_false]
      cases hm : chl (beS k) c (ixS i) 8 (sfS k i) with
      | some r =>
        have hE : EnvOK (E27p (sfS k i) i k c T27r r.1 r.2 .ret) := envAddLp envMp (sumC_ok rfl (loop27s hk hc ha 8 0 _ r (by omega) (by omega) hm).loop)
        exact spec_run hE rfl (eS k c _ _ i) ⟨by decide, decide_eq_false (by omega), hk, hg, by omega, rfl, rfl, wf2 _ _ _ _ (by kernel_rfl), trivial⟩ rfl rfl
      | none =>
        have hE : EnvOK (E27p (sfS k i) i k c T27x e0 e0 (.exit 0)) := envAddLp envMp (sumC_ok rfl (loop27n hk hc ha 8 0 _ (by omega) (by omega) hm).loop)
        exact spec_run hE rfl (eN k c i) ⟨by decide, decide_eq_false (by omega), hk, hg, by omega, rfl, rfl, wf2 _ _ _ _ (by kernel_rfl), trivial⟩ rfl rfl
theorem spec12a (z : Int) (k c : ByteArray) (i : Nat) (hz : z = 1 ∨ z = 2) (hm : mayB z k c = true) : Spec 12 [.one (.i z), node k c, u32 i] (resA z k c i) := by
  by_cases hi : 2147483648 ≤ i
  · rw [resA_hard hi]; exact spec12h z k c i hz hm hi
  · have hi : i < 2147483648 := by omega
    obtain ⟨hk, hc, ha⟩ := may_parts hm
    have h1 := hd1_size hk
    have h3 := ixS_size i
    have h4 := pubS_size k
    have h5 := sfS_size k i
    rcases hz with rfl | rfl
    · rw [resA_none hi]
      exact spec_run envMs rfl (d0 k c i) ⟨by decide, decide_eq_true hi, trivial⟩ rfl rfl
    · have ha : beS k < modN 3 := ha.resolve_left (by omega)
      rw [resA_soft hi]
      unfold chK chC chE
      rw [show decide ((2 : Int) = 1) = false from rfl, cond_false, cond_false, cond_false]
      cases hm : chl (beS k) c (ixS i) 8 (sfS k i) with
      | some r =>
        have hE : EnvOK (E12p (sfS k i) i k c T12r r.1 r.2 .ret) := envAddLp envMp (sumC_ok rfl (loop12s hk hc ha 8 0 _ r (by omega) (by omega) hm).loop)
        exact spec_run hE rfl (fS k c _ _ i) ⟨by decide, by omega, by omega, decide_eq_true hi, hk, by omega, rfl, rfl, wf2 _ _ _ _ (by kernel_rfl), trivial⟩ rfl rfl
      | none =>
        have hE : EnvOK (E12p (sfS k i) i k c T12x e0 e0 (.exit 0)) := envAddLp envMp (sumC_ok rfl (loop12n hk hc ha 8 0 _ (by omega) (by omega) hm).loop)
        exact spec_run hE rfl (fN k c i) ⟨by decide, by omega, by omega, decide_eq_true hi, hk, by omega, rfl, rfl, wf2 _ _ _ _ (by kernel_rfl), trivial⟩ rfl rfl
noncomputable def fnCa (vs : List V1) : Option (List Prop × AV) := match vs with | [.one (.i z), .agg [.a (.v (.string k)), .a (.v (.string c))], .one (.u .u32 i)] => some ([z = 1 ∨ z = 2, mayB z k c = true], resA z k c i) | _ => none
theorem ct27a : CTok ⟨27, fnCa⟩ := by
  intro vs ob r h ho
  simp only [fnCa] at h
  split at h
  · simp only [Option.some.injEq, Prod.mk.injEq] at h
    obtain ⟨rfl, rfl⟩ := h
    obtain ⟨h1, h2, _⟩ := ho
    exact spec27a _ _ _ _ h1 h2
  · simp at h
theorem may_z {z : Int} {k c : ByteArray} (h : mayB z k c = true) : z = 1 ∨ z = 2 := by
  unfold mayB at h
  simp only [Bool.and_eq_true, Bool.or_eq_true, decide_eq_true_eq] at h
  exact h.1
noncomputable def LCa : List CT := ⟨27, fnCa⟩ :: LMy
theorem LCa_ok : AllCT LCa := ⟨ct27a, LMy_ok⟩
noncomputable def dK (z : Int) (k c : ByteArray) (i : Nat) : ByteArray := bif mayB z k c then cK z k c i else e0
noncomputable def dC (z : Int) (k c : ByteArray) (i : Nat) : ByteArray := bif mayB z k c then cC z k c i else e0
noncomputable def dE (z : Int) (k c : ByteArray) (i : Nat) : Int := bif mayB z k c then cE z k c i else 1
theorem s10y (z : Int) (k c : ByteArray) (i : Nat) : callR (mkE LCa SMs) 1000 10 [.one (.i z), node k c, u32 i] [true] = some ([mayB z k c = true, z = 1 ∨ z = 2, mayB z k c = true], resA z k c i) := by kernel_rfl
theorem s10n (z : Int) (k c : ByteArray) (i : Nat) : callR (mkE LCa SMs) 1000 10 [.one (.i z), node k c, u32 i] [false] = some ([mayB z k c = false], res e0 e0 1) := by kernel_rfl
noncomputable def fnCb (vs : List V1) : Option (List Prop × AV) := match vs with | [.one (.i z), .agg [.a (.v (.string k)), .a (.v (.string c))], .one (.u .u32 i)] => some ([], res (dK z k c i) (dC z k c i) (dE z k c i)) | _ => none
theorem ct10a : CTok ⟨10, fnCb⟩ := by
  intro vs ob r h ho
  simp only [fnCb] at h
  split at h
  · rename_i z k c i
    simp only [Option.some.injEq, Prod.mk.injEq] at h
    obtain ⟨rfl, rfl⟩ := h
    unfold dK dC dE
    cases hm : mayB z k c with
    | true =>
      rw [cond_true, cond_true, cond_true]
      exact spec_run (envMk LCa_ok SMs) rfl (s10y _ _ _ _) ⟨hm, may_z hm, hm, trivial⟩ rfl rfl
    | false =>
      rw [cond_false, cond_false, cond_false]
      exact spec_run (envMk LCa_ok SMs) rfl (s10n _ _ _ _) ⟨hm, trivial⟩ rfl rfl
  · simp at h
end Go.Ev.H5

namespace Go.Ev.H5
open Go Go.Proofs Go.RowKit
set_option maxRecDepth 100000
structure ChF where
  dk : Int → ByteArray → ByteArray → Nat → ByteArray
  dc : Int → ByteArray → ByteArray → Nat → ByteArray
  de : Int → ByteArray → ByteArray → Nat → Int
  ck : Int → ByteArray → ByteArray → Nat → ByteArray
  cc : Int → ByteArray → ByteArray → Nat → ByteArray
  ce : Int → ByteArray → ByteArray → Nat → Int
  b : Int → ByteArray → ByteArray → Bool
noncomputable def chF : ChF := ⟨dK, dC, dE, cK, cC, cE, mayB⟩
def fv10 (g : ChF) (vs : List V1) : Option (List Prop × AV) := match vs with | [.one (.i z), .agg [.a (.v (.string k)), .a (.v (.string c))], .one (.u .u32 i)] => some ([], res (g.dk z k c i) (g.dc z k c i) (g.de z k c i)) | _ => none
def fv12 (g : ChF) (vs : List V1) : Option (List Prop × AV) := match vs with | [.one (.i z), .agg [.a (.v (.string k)), .a (.v (.string c))], .one (.u .u32 i)] => some ([g.b z k c = true], res (g.ck z k c i) (g.cc z k c i) (g.ce z k c i)) | _ => none
def fv11 (g : ChF) (vs : List V1) : Option (List Prop × AV) := match vs with | [.one (.i z), .agg [.a (.v (.string k)), .a (.v (.string c))]] => some ([], bV (g.b z k c)) | _ => none
def LCv (g : ChF) : List CT := ⟨10, fv10 g⟩ :: ⟨12, fv12 g⟩ :: ⟨11, fv11 g⟩ :: ⟨14, cV (bV true)⟩ :: []
theorem ct10v : CTok ⟨10, fv10 chF⟩ := by
  intro vs ob r h ho
  simp only [fv10] at h
  split at h
  · simp only [Option.some.injEq, Prod.mk.injEq] at h
    obtain ⟨rfl, rfl⟩ := h
    exact ct10a _ _ _ rfl trivial
  · simp at h
theorem ct12v : CTok ⟨12, fv12 chF⟩ := by
  intro vs ob r h ho
  simp only [fv12] at h
  split at h
  · simp only [Option.some.injEq, Prod.mk.injEq] at h
    obtain ⟨rfl, rfl⟩ := h
    obtain ⟨h1, _⟩ := ho
    exact spec12a _ _ _ _ (may_z h1) h1
  · simp at h
theorem ct11v : CTok ⟨11, fv11 chF⟩ := by
  intro vs ob r h ho
  simp only [fv11] at h
  split at h
  · simp only [Option.some.injEq, Prod.mk.injEq] at h
    obtain ⟨rfl, rfl⟩ := h
    exact spec11k _ _ _
  · simp at h
theorem LCv_ok : AllCT (LCv chF) := ⟨ct10v, ct12v, ct11v, ctV wakes14, trivial⟩
def S3c : FuncId → Nat → Bool := fun f t => match f with
  | 3 => memN t [11, 15, 18, 25, 29, 32, 35, 37, 39, 44, 49, 53, 62, 65, 70, 75, 79, 87, 91, 21] | _ => false
noncomputable def ECv (g : ChF) : Env := mkE (LCv g) S3c
theorem envCv : EnvOK (ECv chF) := envMk LCv_ok S3c
def TC (len cap : Nat) (i k z : Int) : List AV := slots 94 [(0, slN len cap), (3, iV i), (4, iV k), (5, iV z)]
def TK (len cap : Nat) (i k : Int) : List AV := slots 94 [(0, slN len cap), (3, iV i), (4, iV k)]
def TJ (len cap : Nat) (i : Int) : List AV := slots 94 [(0, slN len cap), (3, iV i)]
def TJx (len cap : Nat) : List AV := slots 94 [(0, slN len cap)]
end Go.Ev.H5

namespace Go.Ev.H5
open Go Go.Proofs Go.RowKit
set_option maxRecDepth 100000
def inB (i m : Nat) : Prop := (0 : Int) ≤ (i : Int) ∧ (i : Int) < (m : Int)
abbrev ndK (c : Cells) (i : Nat) : ByteArray := sA c (i * 5 + 2)
abbrev ndC (c : Cells) (i : Nat) : ByteArray := sA c (i * 5 + 3)
def yT (g : ChF) (z : Int) (A B : ByteArray) (x : Nat) : List Prop := [(!decide (g.de z A B x = g.ce z A B x)) = false, (!eqS (g.dk z A B x) (g.dc z A B x) (g.ck z A B x) (g.cc z A B x)) = false, inI (z + 1)]
def yF (g : ChF) (z : Int) (A B : ByteArray) (x : Nat) : List Prop := [(!decide (g.de z A B x = 1)) = false, (!eqS (g.dk z A B x) (g.dc z A B x) e0 e0) = false, inI (z + 1)]
theorem tc00t (g : ChF) (c : Cells) (len cap n cp : Nat) (z : Int) (xs : Nat → Atom) (q : Nat → Nat) (p2 p3 p4 : List Piece) : runTo (ECv g) 1000 ((ECv g).S 3) (bodyOf Tryz.prog 3 10) (TC (len + 1) cap 0 0 z) (MR c (xsW 0 (.sl 1 0 (n + 1) cp) xs) (len + 1) (qPs q (n + 1)) p2 p3 p4) [true, true, false, false] (TC (len + 1) cap 0 0 (z + 1)) 5 =
    some ([decide (z ≤ 3) = true, inB 0 (len + 1), inB 0 (len + 1), inB 0 (n + 1), inB 0 (len + 1), g.b z (ndK c 0) (ndC c 0) = true, inB 0 (len + 1), inB 0 (len + 1), inB 0 (n + 1), g.b z (ndK c 0) (ndC c 0) = true] ++ yT g z (ndK c 0) (ndC c 0) (q 0), .normal, TC (len + 1) cap 0 0 (z + 1), MR c (xsW 0 (.sl 1 0 (n + 1) cp) xs) (len + 1) (qPs q (n + 1)) p2 p3 p4) := by kernel_rfl
theorem tc00f (g : ChF) (c : Cells) (len cap n cp : Nat) (z : Int) (xs : Nat → Atom) (q : Nat → Nat) (p2 p3 p4 : List Piece) : runTo (ECv g) 1000 ((ECv g).S 3) (bodyOf Tryz.prog 3 10) (TC (len + 1) cap 0 0 z) (MR c (xsW 0 (.sl 1 0 (n + 1) cp) xs) (len + 1) (qPs q (n + 1)) p2 p3 p4) [true, false, false, false] (TC (len + 1) cap 0 0 (z + 1)) 5 =
    some ([decide (z ≤ 3) = true, inB 0 (len + 1), inB 0 (len + 1), inB 0 (n + 1), inB 0 (len + 1), g.b z (ndK c 0) (ndC c 0) = false] ++ yF g z (ndK c 0) (ndC c 0) (q 0), .normal, TC (len + 1) cap 0 0 (z + 1), MR c (xsW 0 (.sl 1 0 (n + 1) cp) xs) (len + 1) (qPs q (n + 1)) p2 p3 p4) := by kernel_rfl
theorem tc00x (g : ChF) (c : Cells) (len cap n cp : Nat) (z : Int) (xs : Nat → Atom) (q : Nat → Nat) (p2 p3 p4 : List Piece) : runTo (ECv g) 1000 ((ECv g).S 3) (bodyOf Tryz.prog 3 10) (TC (len + 1) cap 0 0 z) (MR c (xsW 0 (.sl 1 0 (n + 1) cp) xs) (len + 1) (qPs q (n + 1)) p2 p3 p4) [false] (TK (len + 1) cap 0 0) 5 =
    some ([decide (z ≤ 3) = false], .exit 4, TK (len + 1) cap 0 0, MR c (xsW 0 (.sl 1 0 (n + 1) cp) xs) (len + 1) (qPs q (n + 1)) p2 p3 p4) := by kernel_rfl
theorem tk00 (g : ChF) (c : Cells) (len cap n cp : Nat) (xs : Nat → Atom) (q : Nat → Nat) (p2 p3 p4 : List Piece) : runTo (addLp (ECv g) 10 (bodyOf Tryz.prog 3 10) (sumC (TC (len + 1) cap 0 0 0) (MR c (xsW 0 (.sl 1 0 (n + 1) cp) xs) (len + 1) (qPs q (n + 1)) p2 p3 p4) (TK (len + 1) cap 0 0) (MR c (xsW 0 (.sl 1 0 (n + 1) cp) xs) (len + 1) (qPs q (n + 1)) p2 p3 p4) (.exit 4))) 1000 ((ECv g).S 3) (bodyOf Tryz.prog 3 7) (TK (len + 1) cap 0 0) (MR c (xsW 0 (.sl 1 0 (n + 1) cp) xs) (len + 1) (qPs q (n + 1)) p2 p3 p4) [true, true] (TK (len + 1) cap 0 1) 5 =
    some ([inB 0 (len + 1), decide ((0 : Int) < ((n + 1 : Nat) : Int)) = true, decide ((0 : Int) < 2) = true, bodyOf Tryz.prog 3 10 = bodyOf Tryz.prog 3 10, (TC (len + 1) cap 0 0 0, MR c (xsW 0 (.sl 1 0 (n + 1) cp) xs) (len + 1) (qPs q (n + 1)) p2 p3 p4) = (TC (len + 1) cap 0 0 0, MR c (xsW 0 (.sl 1 0 (n + 1) cp) xs) (len + 1) (qPs q (n + 1)) p2 p3 p4), wfS (TC (len + 1) cap 0 0 0) (MR c (xsW 0 (.sl 1 0 (n + 1) cp) xs) (len + 1) (qPs q (n + 1)) p2 p3 p4) = true, inI ((0 : Int) + 1)], .normal, TK (len + 1) cap 0 1, MR c (xsW 0 (.sl 1 0 (n + 1) cp) xs) (len + 1) (qPs q (n + 1)) p2 p3 p4) := by kernel_rfl
theorem tc01t (g : ChF) (c : Cells) (len cap n cp : Nat) (z : Int) (xs : Nat → Atom) (q : Nat → Nat) (p2 p3 p4 : List Piece) : runTo (ECv g) 1000 ((ECv g).S 3) (bodyOf Tryz.prog 3 10) (TC (len + 1) cap 0 1 z) (MR c (xsW 0 (.sl 1 0 (n + 1 + 1) cp) xs) (len + 1) (qPs q (n + 1 + 1)) p2 p3 p4) [true, true, false, false] (TC (len + 1) cap 0 1 (z + 1)) 5 =
    some ([decide (z ≤ 3) = true, inB 0 (len + 1), inB 0 (len + 1), inB 1 (n + 1 + 1), inB 0 (len + 1), g.b z (ndK c 0) (ndC c 0) = true, inB 0 (len + 1), inB 0 (len + 1), inB 1 (n + 1 + 1), g.b z (ndK c 0) (ndC c 0) = true] ++ yT g z (ndK c 0) (ndC c 0) (q 1), .normal, TC (len + 1) cap 0 1 (z + 1), MR c (xsW 0 (.sl 1 0 (n + 1 + 1) cp) xs) (len + 1) (qPs q (n + 1 + 1)) p2 p3 p4) := by kernel_rfl
theorem tc01f (g : ChF) (c : Cells) (len cap n cp : Nat) (z : Int) (xs : Nat → Atom) (q : Nat → Nat) (p2 p3 p4 : List Piece) : runTo (ECv g) 1000 ((ECv g).S 3) (bodyOf Tryz.prog 3 10) (TC (len + 1) cap 0 1 z) (MR c (xsW 0 (.sl 1 0 (n + 1 + 1) cp) xs) (len + 1) (qPs q (n + 1 + 1)) p2 p3 p4) [true, false, false, false] (TC (len + 1) cap 0 1 (z + 1)) 5 =
    some ([decide (z ≤ 3) = true, inB 0 (len + 1), inB 0 (len + 1), inB 1 (n + 1 + 1), inB 0 (len + 1), g.b z (ndK c 0) (ndC c 0) = false] ++ yF g z (ndK c 0) (ndC c 0) (q 1), .normal, TC (len + 1) cap 0 1 (z + 1), MR c (xsW 0 (.sl 1 0 (n + 1 + 1) cp) xs) (len + 1) (qPs q (n + 1 + 1)) p2 p3 p4) := by kernel_rfl
theorem tc01x (g : ChF) (c : Cells) (len cap n cp : Nat) (z : Int) (xs : Nat → Atom) (q : Nat → Nat) (p2 p3 p4 : List Piece) : runTo (ECv g) 1000 ((ECv g).S 3) (bodyOf Tryz.prog 3 10) (TC (len + 1) cap 0 1 z) (MR c (xsW 0 (.sl 1 0 (n + 1 + 1) cp) xs) (len + 1) (qPs q (n + 1 + 1)) p2 p3 p4) [false] (TK (len + 1) cap 0 1) 5 =
    some ([decide (z ≤ 3) = false], .exit 4, TK (len + 1) cap 0 1, MR c (xsW 0 (.sl 1 0 (n + 1 + 1) cp) xs) (len + 1) (qPs q (n + 1 + 1)) p2 p3 p4) := by kernel_rfl
theorem tk01 (g : ChF) (c : Cells) (len cap n cp : Nat) (xs : Nat → Atom) (q : Nat → Nat) (p2 p3 p4 : List Piece) : runTo (addLp (ECv g) 10 (bodyOf Tryz.prog 3 10) (sumC (TC (len + 1) cap 0 1 0) (MR c (xsW 0 (.sl 1 0 (n + 1 + 1) cp) xs) (len + 1) (qPs q (n + 1 + 1)) p2 p3 p4) (TK (len + 1) cap 0 1) (MR c (xsW 0 (.sl 1 0 (n + 1 + 1) cp) xs) (len + 1) (qPs q (n + 1 + 1)) p2 p3 p4) (.exit 4))) 1000 ((ECv g).S 3) (bodyOf Tryz.prog 3 7) (TK (len + 1) cap 0 1) (MR c (xsW 0 (.sl 1 0 (n + 1 + 1) cp) xs) (len + 1) (qPs q (n + 1 + 1)) p2 p3 p4) [true, true] (TK (len + 1) cap 0 2) 5 =
    some ([inB 0 (len + 1), decide ((1 : Int) < ((n + 1 + 1 : Nat) : Int)) = true, decide ((1 : Int) < 2) = true, bodyOf Tryz.prog 3 10 = bodyOf Tryz.prog 3 10, (TC (len + 1) cap 0 1 0, MR c (xsW 0 (.sl 1 0 (n + 1 + 1) cp) xs) (len + 1) (qPs q (n + 1 + 1)) p2 p3 p4) = (TC (len + 1) cap 0 1 0, MR c (xsW 0 (.sl 1 0 (n + 1 + 1) cp) xs) (len + 1) (qPs q (n + 1 + 1)) p2 p3 p4), wfS (TC (len + 1) cap 0 1 0) (MR c (xsW 0 (.sl 1 0 (n + 1 + 1) cp) xs) (len + 1) (qPs q (n + 1 + 1)) p2 p3 p4) = true, inI ((1 : Int) + 1)], .normal, TK (len + 1) cap 0 2, MR c (xsW 0 (.sl 1 0 (n + 1 + 1) cp) xs) (len + 1) (qPs q (n + 1 + 1)) p2 p3 p4) := by kernel_rfl
theorem te00 (g : ChF) (c : Cells) (len cap n cp : Nat) (xs : Nat → Atom) (q : Nat → Nat) (p2 p3 p4 : List Piece) : runTo (ECv g) 1000 ((ECv g).S 3) (bodyOf Tryz.prog 3 7) (TK (len + 1) cap 0 0) (MR c (xsW 0 (.sl 1 0 n cp) xs) (len + 1) (qPs q n) p2 p3 p4) [false] (TJ (len + 1) cap 0) 5 =
    some ([inB 0 (len + 1), decide ((0 : Int) < (n : Int)) = false], .exit 2, TJ (len + 1) cap 0, MR c (xsW 0 (.sl 1 0 n cp) xs) (len + 1) (qPs q n) p2 p3 p4) := by kernel_rfl
theorem te01 (g : ChF) (c : Cells) (len cap n cp : Nat) (xs : Nat → Atom) (q : Nat → Nat) (p2 p3 p4 : List Piece) : runTo (ECv g) 1000 ((ECv g).S 3) (bodyOf Tryz.prog 3 7) (TK (len + 1) cap 0 1) (MR c (xsW 0 (.sl 1 0 n cp) xs) (len + 1) (qPs q n) p2 p3 p4) [false] (TJ (len + 1) cap 0) 5 =
    some ([inB 0 (len + 1), decide ((1 : Int) < (n : Int)) = false], .exit 2, TJ (len + 1) cap 0, MR c (xsW 0 (.sl 1 0 n cp) xs) (len + 1) (qPs q n) p2 p3 p4) := by kernel_rfl
theorem te02 (g : ChF) (c : Cells) (len cap n cp : Nat) (xs : Nat → Atom) (q : Nat → Nat) (p2 p3 p4 : List Piece) : runTo (ECv g) 1000 ((ECv g).S 3) (bodyOf Tryz.prog 3 7) (TK (len + 1) cap 0 2) (MR c (xsW 0 (.sl 1 0 n cp) xs) (len + 1) (qPs q n) p2 p3 p4) [true, false] (TJ (len + 1) cap 0) 5 =
    some ([inB 0 (len + 1), decide ((2 : Int) < (n : Int)) = true, decide ((2 : Int) < 2) = false], .exit 2, TJ (len + 1) cap 0, MR c (xsW 0 (.sl 1 0 n cp) xs) (len + 1) (qPs q n) p2 p3 p4) := by kernel_rfl
theorem tg0 (g : ChF) (c : Cells) (len cap n cp : Nat) (xs : Nat → Atom) (q : Nat → Nat) (p2 p3 p4 : List Piece) : runTo (ECv g) 1000 ((ECv g).S 3) (bodyOf Tryz.prog 3 7) (TK (len + 1) cap 0 2) (MR c (xsW 0 (.sl 1 0 n cp) xs) (len + 1) (qPs q n) p2 p3 p4) [false] (TJ (len + 1) cap 0) 5 =
    some ([inB 0 (len + 1), decide ((2 : Int) < (n : Int)) = false], .exit 2, TJ (len + 1) cap 0, MR c (xsW 0 (.sl 1 0 n cp) xs) (len + 1) (qPs q n) p2 p3 p4) := by kernel_rfl
theorem tj0 (g : ChF) (c : Cells) (len cap n cp : Nat) (xs : Nat → Atom) (q : Nat → Nat) (p2 p3 p4 : List Piece) : runTo (addLp (ECv g) 7 (bodyOf Tryz.prog 3 7) (sumC (TK (len + 1) cap 0 0) (MR c (xsW 0 (.sl 1 0 n cp) xs) (len + 1) (qPs q n) p2 p3 p4) (TJ (len + 1) cap 0) (MR c (xsW 0 (.sl 1 0 n cp) xs) (len + 1) (qPs q n) p2 p3 p4) (.exit 2))) 1000 ((ECv g).S 3) (bodyOf Tryz.prog 3 4) (TJ (len + 1) cap 0) (MR c (xsW 0 (.sl 1 0 n cp) xs) (len + 1) (qPs q n) p2 p3 p4) [true, true] (TJ (len + 1) cap 1) 5 =
    some ([decide ((0 : Int) < ((len + 1 : Nat) : Int)) = true, decide ((0 : Int) < 2) = true, bodyOf Tryz.prog 3 7 = bodyOf Tryz.prog 3 7, (TK (len + 1) cap 0 0, MR c (xsW 0 (.sl 1 0 n cp) xs) (len + 1) (qPs q n) p2 p3 p4) = (TK (len + 1) cap 0 0, MR c (xsW 0 (.sl 1 0 n cp) xs) (len + 1) (qPs q n) p2 p3 p4), wfS (TK (len + 1) cap 0 0) (MR c (xsW 0 (.sl 1 0 n cp) xs) (len + 1) (qPs q n) p2 p3 p4) = true, inI ((0 : Int) + 1)], .normal, TJ (len + 1) cap 1, MR c (xsW 0 (.sl 1 0 n cp) xs) (len + 1) (qPs q n) p2 p3 p4) := by kernel_rfl
theorem tn30 (g : ChF) (c : Cells) (len cap : Nat) (o : Option Addr) (cp : Nat) (xs : Nat → Atom) (p1 p2 p3 p4 : List Piece) : runTo (ECv g) 1000 ((ECv g).S 3) (bodyOf Tryz.prog 3 4) (TJ (len + 1) cap 0) (MR c (xsW 0 (.v (.slice o 0 cp)) xs) (len + 1) p1 p2 p3 p4) [true, true, false] (TJ (len + 1) cap 1) 5 =
    some ([decide ((0 : Int) < ((len + 1 : Nat) : Int)) = true, decide ((0 : Int) < 2) = true, inB 0 (len + 1), decide ((0 : Int) < ((0 : Nat) : Int)) = false, inI ((0 : Int) + 1)], .normal, TJ (len + 1) cap 1, MR c (xsW 0 (.v (.slice o 0 cp)) xs) (len + 1) p1 p2 p3 p4) := by kernel_rfl
theorem tc10t (g : ChF) (c : Cells) (len cap n cp : Nat) (z : Int) (xs : Nat → Atom) (q : Nat → Nat) (p1 p3 p4 : List Piece) : runTo (ECv g) 1000 ((ECv g).S 3) (bodyOf Tryz.prog 3 10) (TC (len + 2) cap 1 0 z) (MR c (xsW 1 (.sl 2 0 (n + 1) cp) xs) (len + 2) p1 (qPs q (n + 1)) p3 p4) [true, true, false, false] (TC (len + 2) cap 1 0 (z + 1)) 5 =
    some ([decide (z ≤ 3) = true, inB 1 (len + 2), inB 1 (len + 2), inB 0 (n + 1), inB 1 (len + 2), g.b z (ndK c 1) (ndC c 1) = true, inB 1 (len + 2), inB 1 (len + 2), inB 0 (n + 1), g.b z (ndK c 1) (ndC c 1) = true] ++ yT g z (ndK c 1) (ndC c 1) (q 0), .normal, TC (len + 2) cap 1 0 (z + 1), MR c (xsW 1 (.sl 2 0 (n + 1) cp) xs) (len + 2) p1 (qPs q (n + 1)) p3 p4) := by kernel_rfl
theorem tc10f (g : ChF) (c : Cells) (len cap n cp : Nat) (z : Int) (xs : Nat → Atom) (q : Nat → Nat) (p1 p3 p4 : List Piece) : runTo (ECv g) 1000 ((ECv g).S 3) (bodyOf Tryz.prog 3 10) (TC (len + 2) cap 1 0 z) (MR c (xsW 1 (.sl 2 0 (n + 1) cp) xs) (len + 2) p1 (qPs q (n + 1)) p3 p4) [true, false, false, false] (TC (len + 2) cap 1 0 (z + 1)) 5 =
    some ([decide (z ≤ 3) = true, inB 1 (len + 2), inB 1 (len + 2), inB 0 (n + 1), inB 1 (len + 2), g.b z (ndK c 1) (ndC c 1) = false] ++ yF g z (ndK c 1) (ndC c 1) (q 0), .normal, TC (len + 2) cap 1 0 (z + 1), MR c (xsW 1 (.sl 2 0 (n + 1) cp) xs) (len + 2) p1 (qPs q (n + 1)) p3 p4) := by kernel_rfl
theorem tc10x (g : ChF) (c : Cells) (len cap n cp : Nat) (z : Int) (xs : Nat → Atom) (q : Nat → Nat) (p1 p3 p4 : List Piece) : runTo (ECv g) 1000 ((ECv g).S 3) (bodyOf Tryz.prog 3 10) (TC (len + 2) cap 1 0 z) (MR c (xsW 1 (.sl 2 0 (n + 1) cp) xs) (len + 2) p1 (qPs q (n + 1)) p3 p4) [false] (TK (len + 2) cap 1 0) 5 =
    some ([decide (z ≤ 3) = false], .exit 4, TK (len + 2) cap 1 0, MR c (xsW 1 (.sl 2 0 (n + 1) cp) xs) (len + 2) p1 (qPs q (n + 1)) p3 p4) := by kernel_rfl
theorem tk10 (g : ChF) (c : Cells) (len cap n cp : Nat) (xs : Nat → Atom) (q : Nat → Nat) (p1 p3 p4 : List Piece) : runTo (addLp (ECv g) 10 (bodyOf Tryz.prog 3 10) (sumC (TC (len + 2) cap 1 0 0) (MR c (xsW 1 (.sl 2 0 (n + 1) cp) xs) (len + 2) p1 (qPs q (n + 1)) p3 p4) (TK (len + 2) cap 1 0) (MR c (xsW 1 (.sl 2 0 (n + 1) cp) xs) (len + 2) p1 (qPs q (n + 1)) p3 p4) (.exit 4))) 1000 ((ECv g).S 3) (bodyOf Tryz.prog 3 7) (TK (len + 2) cap 1 0) (MR c (xsW 1 (.sl 2 0 (n + 1) cp) xs) (len + 2) p1 (qPs q (n + 1)) p3 p4) [true, true] (TK (len + 2) cap 1 1) 5 =
    some ([inB 1 (len + 2), decide ((0 : Int) < ((n + 1 : Nat) : Int)) = true, decide ((0 : Int) < 2) = true, bodyOf Tryz.prog 3 10 = bodyOf Tryz.prog 3 10, (TC (len + 2) cap 1 0 0, MR c (xsW 1 (.sl 2 0 (n + 1) cp) xs) (len + 2) p1 (qPs q (n + 1)) p3 p4) = (TC (len + 2) cap 1 0 0, MR c (xsW 1 (.sl 2 0 (n + 1) cp) xs) (len + 2) p1 (qPs q (n + 1)) p3 p4), wfS (TC (len + 2) cap 1 0 0) (MR c (xsW 1 (.sl 2 0 (n + 1) cp) xs) (len + 2) p1 (qPs q (n + 1)) p3 p4) = true, inI ((0 : Int) + 1)], .normal, TK (len + 2) cap 1 1, MR c (xsW 1 (.sl 2 0 (n + 1) cp) xs) (len + 2) p1 (qPs q (n + 1)) p3 p4) := by kernel_rfl
theorem tc11t (g : ChF) (c : Cells) (len cap n cp : Nat) (z : Int) (xs : Nat → Atom) (q : Nat → Nat) (p1 p3 p4 : List Piece) : runTo (ECv g) 1000 ((ECv g).S 3) (bodyOf Tryz.prog 3 10) (TC (len + 2) cap 1 1 z) (MR c (xsW 1 (.sl 2 0 (n + 1 + 1) cp) xs) (len + 2) p1 (qPs q (n + 1 + 1)) p3 p4) [true, true, false, false] (TC (len + 2) cap 1 1 (z + 1)) 5 =
    some ([decide (z ≤ 3) = true, inB 1 (len + 2), inB 1 (len + 2), inB 1 (n + 1 + 1), inB 1 (len + 2), g.b z (ndK c 1) (ndC c 1) = true, inB 1 (len + 2), inB 1 (len + 2), inB 1 (n + 1 + 1), g.b z (ndK c 1) (ndC c 1) = true] ++ yT g z (ndK c 1) (ndC c 1) (q 1), .normal, TC (len + 2) cap 1 1 (z + 1), MR c (xsW 1 (.sl 2 0 (n + 1 + 1) cp) xs) (len + 2) p1 (qPs q (n + 1 + 1)) p3 p4) := by kernel_rfl
theorem tc11f (g : ChF) (c : Cells) (len cap n cp : Nat) (z : Int) (xs : Nat → Atom) (q : Nat → Nat) (p1 p3 p4 : List Piece) : runTo (ECv g) 1000 ((ECv g).S 3) (bodyOf Tryz.prog 3 10) (TC (len + 2) cap 1 1 z) (MR c (xsW 1 (.sl 2 0 (n + 1 + 1) cp) xs) (len + 2) p1 (qPs q (n + 1 + 1)) p3 p4) [true, false, false, false] (TC (len + 2) cap 1 1 (z + 1)) 5 =
    some ([decide (z ≤ 3) = true, inB 1 (len + 2), inB 1 (len + 2), inB 1 (n + 1 + 1), inB 1 (len + 2), g.b z (ndK c 1) (ndC c 1) = false] ++ yF g z (ndK c 1) (ndC c 1) (q 1), .normal, TC (len + 2) cap 1 1 (z + 1), MR c (xsW 1 (.sl 2 0 (n + 1 + 1) cp) xs) (len + 2) p1 (qPs q (n + 1 + 1)) p3 p4) := by kernel_rfl
theorem tc11x (g : ChF) (c : Cells) (len cap n cp : Nat) (z : Int) (xs : Nat → Atom) (q : Nat → Nat) (p1 p3 p4 : List Piece) : runTo (ECv g) 1000 ((ECv g).S 3) (bodyOf Tryz.prog 3 10) (TC (len + 2) cap 1 1 z) (MR c (xsW 1 (.sl 2 0 (n + 1 + 1) cp) xs) (len + 2) p1 (qPs q (n + 1 + 1)) p3 p4) [false] (TK (len + 2) cap 1 1) 5 =
    some ([decide (z ≤ 3) = false], .exit 4, TK (len + 2) cap 1 1, MR c (xsW 1 (.sl 2 0 (n + 1 + 1) cp) xs) (len + 2) p1 (qPs q (n + 1 + 1)) p3 p4) := by kernel_rfl
theorem tk11 (g : ChF) (c : Cells) (len cap n cp : Nat) (xs : Nat → Atom) (q : Nat → Nat) (p1 p3 p4 : List Piece) : runTo (addLp (ECv g) 10 (bodyOf Tryz.prog 3 10) (sumC (TC (len + 2) cap 1 1 0) (MR c (xsW 1 (.sl 2 0 (n + 1 + 1) cp) xs) (len + 2) p1 (qPs q (n + 1 + 1)) p3 p4) (TK (len + 2) cap 1 1) (MR c (xsW 1 (.sl 2 0 (n + 1 + 1) cp) xs) (len + 2) p1 (qPs q (n + 1 + 1)) p3 p4) (.exit 4))) 1000 ((ECv g).S 3) (bodyOf Tryz.prog 3 7) (TK (len + 2) cap 1 1) (MR c (xsW 1 (.sl 2 0 (n + 1 + 1) cp) xs) (len + 2) p1 (qPs q (n + 1 + 1)) p3 p4) [true, true] (TK (len + 2) cap 1 2) 5 =
    some ([inB 1 (len + 2), decide ((1 : Int) < ((n + 1 + 1 : Nat) : Int)) = true, decide ((1 : Int) < 2) = true, bodyOf Tryz.prog 3 10 = bodyOf Tryz.prog 3 10, (TC (len + 2) cap 1 1 0, MR c (xsW 1 (.sl 2 0 (n + 1 + 1) cp) xs) (len + 2) p1 (qPs q (n + 1 + 1)) p3 p4) = (TC (len + 2) cap 1 1 0, MR c (xsW 1 (.sl 2 0 (n + 1 + 1) cp) xs) (len + 2) p1 (qPs q (n + 1 + 1)) p3 p4), wfS (TC (len + 2) cap 1 1 0) (MR c (xsW 1 (.sl 2 0 (n + 1 + 1) cp) xs) (len + 2) p1 (qPs q (n + 1 + 1)) p3 p4) = true, inI ((1 : Int) + 1)], .normal, TK (len + 2) cap 1 2, MR c (xsW 1 (.sl 2 0 (n + 1 + 1) cp) xs) (len + 2) p1 (qPs q (n + 1 + 1)) p3 p4) := by kernel_rfl
theorem te10 (g : ChF) (c : Cells) (len cap n cp : Nat) (xs : Nat → Atom) (q : Nat → Nat) (p1 p3 p4 : List Piece) : runTo (ECv g) 1000 ((ECv g).S 3) (bodyOf Tryz.prog 3 7) (TK (len + 2) cap 1 0) (MR c (xsW 1 (.sl 2 0 n cp) xs) (len + 2) p1 (qPs q n) p3 p4) [false] (TJ (len + 2) cap 1) 5 =
    some ([inB 1 (len + 2), decide ((0 : Int) < (n : Int)) = false], .exit 2, TJ (len + 2) cap 1, MR c (xsW 1 (.sl 2 0 n cp) xs) (len + 2) p1 (qPs q n) p3 p4) := by kernel_rfl
theorem te11 (g : ChF) (c : Cells) (len cap n cp : Nat) (xs : Nat → Atom) (q : Nat → Nat) (p1 p3 p4 : List Piece) : runTo (ECv g) 1000 ((ECv g).S 3) (bodyOf Tryz.prog 3 7) (TK (len + 2) cap 1 1) (MR c (xsW 1 (.sl 2 0 n cp) xs) (len + 2) p1 (qPs q n) p3 p4) [false] (TJ (len + 2) cap 1) 5 =
    some ([inB 1 (len + 2), decide ((1 : Int) < (n : Int)) = false], .exit 2, TJ (len + 2) cap 1, MR c (xsW 1 (.sl 2 0 n cp) xs) (len + 2) p1 (qPs q n) p3 p4) := by kernel_rfl
theorem te12 (g : ChF) (c : Cells) (len cap n cp : Nat) (xs : Nat → Atom) (q : Nat → Nat) (p1 p3 p4 : List Piece) : runTo (ECv g) 1000 ((ECv g).S 3) (bodyOf Tryz.prog 3 7) (TK (len + 2) cap 1 2) (MR c (xsW 1 (.sl 2 0 n cp) xs) (len + 2) p1 (qPs q n) p3 p4) [true, false] (TJ (len + 2) cap 1) 5 =
    some ([inB 1 (len + 2), decide ((2 : Int) < (n : Int)) = true, decide ((2 : Int) < 2) = false], .exit 2, TJ (len + 2) cap 1, MR c (xsW 1 (.sl 2 0 n cp) xs) (len + 2) p1 (qPs q n) p3 p4) := by kernel_rfl
theorem tg1 (g : ChF) (c : Cells) (len cap n cp : Nat) (xs : Nat → Atom) (q : Nat → Nat) (p1 p3 p4 : List Piece) : runTo (ECv g) 1000 ((ECv g).S 3) (bodyOf Tryz.prog 3 7) (TK (len + 2) cap 1 2) (MR c (xsW 1 (.sl 2 0 n cp) xs) (len + 2) p1 (qPs q n) p3 p4) [false] (TJ (len + 2) cap 1) 5 =
    some ([inB 1 (len + 2), decide ((2 : Int) < (n : Int)) = false], .exit 2, TJ (len + 2) cap 1, MR c (xsW 1 (.sl 2 0 n cp) xs) (len + 2) p1 (qPs q n) p3 p4) := by kernel_rfl
theorem tj1 (g : ChF) (c : Cells) (len cap n cp : Nat) (xs : Nat → Atom) (q : Nat → Nat) (p1 p3 p4 : List Piece) : runTo (addLp (ECv g) 7 (bodyOf Tryz.prog 3 7) (sumC (TK (len + 2) cap 1 0) (MR c (xsW 1 (.sl 2 0 n cp) xs) (len + 2) p1 (qPs q n) p3 p4) (TJ (len + 2) cap 1) (MR c (xsW 1 (.sl 2 0 n cp) xs) (len + 2) p1 (qPs q n) p3 p4) (.exit 2))) 1000 ((ECv g).S 3) (bodyOf Tryz.prog 3 4) (TJ (len + 2) cap 1) (MR c (xsW 1 (.sl 2 0 n cp) xs) (len + 2) p1 (qPs q n) p3 p4) [true, true] (TJ (len + 2) cap 2) 5 =
    some ([decide ((1 : Int) < ((len + 2 : Nat) : Int)) = true, decide ((1 : Int) < 2) = true, bodyOf Tryz.prog 3 7 = bodyOf Tryz.prog 3 7, (TK (len + 2) cap 1 0, MR c (xsW 1 (.sl 2 0 n cp) xs) (len + 2) p1 (qPs q n) p3 p4) = (TK (len + 2) cap 1 0, MR c (xsW 1 (.sl 2 0 n cp) xs) (len + 2) p1 (qPs q n) p3 p4), wfS (TK (len + 2) cap 1 0) (MR c (xsW 1 (.sl 2 0 n cp) xs) (len + 2) p1 (qPs q n) p3 p4) = true, inI ((1 : Int) + 1)], .normal, TJ (len + 2) cap 2, MR c (xsW 1 (.sl 2 0 n cp) xs) (len + 2) p1 (qPs q n) p3 p4) := by kernel_rfl
theorem tn31 (g : ChF) (c : Cells) (len cap : Nat) (o : Option Addr) (cp : Nat) (xs : Nat → Atom) (p1 p2 p3 p4 : List Piece) : runTo (ECv g) 1000 ((ECv g).S 3) (bodyOf Tryz.prog 3 4) (TJ (len + 2) cap 1) (MR c (xsW 1 (.v (.slice o 0 cp)) xs) (len + 2) p1 p2 p3 p4) [true, true, false] (TJ (len + 2) cap 2) 5 =
    some ([decide ((1 : Int) < ((len + 2 : Nat) : Int)) = true, decide ((1 : Int) < 2) = true, inB 1 (len + 2), decide ((0 : Int) < ((0 : Nat) : Int)) = false, inI ((1 : Int) + 1)], .normal, TJ (len + 2) cap 2, MR c (xsW 1 (.v (.slice o 0 cp)) xs) (len + 2) p1 p2 p3 p4) := by kernel_rfl
theorem tx3a (g : ChF) (c : Cells) (len cap : Nat) (i : Int) (xs : Nat → Atom) (p1 p2 p3 p4 : List Piece) : runTo (ECv g) 1000 ((ECv g).S 3) (bodyOf Tryz.prog 3 4) (TJ len cap i) (MR c xs len p1 p2 p3 p4) [false] (TJx len cap) 5 =
    some ([decide (i < (len : Int)) = false], .exit 0, TJx len cap, MR c xs len p1 p2 p3 p4) := by kernel_rfl
theorem tx3b (g : ChF) (c : Cells) (len cap : Nat) (i : Int) (xs : Nat → Atom) (p1 p2 p3 p4 : List Piece) : runTo (ECv g) 1000 ((ECv g).S 3) (bodyOf Tryz.prog 3 4) (TJ len cap i) (MR c xs len p1 p2 p3 p4) [true, false] (TJx len cap) 5 =
    some ([decide (i < (len : Int)) = true, decide (i < 2) = false], .exit 0, TJx len cap, MR c xs len p1 p2 p3 p4) := by kernel_rfl
end Go.Ev.H5

namespace Go.Ev.H5
open Go Go.Proofs Go.RowKit
set_option maxRecDepth 100000
theorem inB_ok {i m : Nat} (h : i < m) : inB i m := by unfold inB; omega
theorem yT_ok {z : Int} {A B : ByteArray} {x : Nat} (h : mayB z A B = true) (h0 : 0 ≤ z) (h3 : z ≤ 3) : All (yT chF z A B x) := by
  have e1 : chF.de z A B x = chF.ce z A B x := by show dE z A B x = cE z A B x; unfold dE; rw [h, cond_true]
  have e2 : chF.dk z A B x = chF.ck z A B x := by show dK z A B x = cK z A B x; unfold dK; rw [h, cond_true]
  have e3 : chF.dc z A B x = chF.cc z A B x := by show dC z A B x = cC z A B x; unfold dC; rw [h, cond_true]
  refine ⟨?_, ?_, by unfold inI; omega, trivial⟩
  · rw [e1, decide_eq_true rfl]; rfl
  · rw [e2, e3]; exact eqS_self _ _
theorem yF_ok {z : Int} {A B : ByteArray} {x : Nat} (h : mayB z A B = false) (h0 : 0 ≤ z) (h3 : z ≤ 3) : All (yF chF z A B x) := by
  have e1 : chF.de z A B x = 1 := by show dE z A B x = 1; unfold dE; rw [h, cond_false]
  have e2 : chF.dk z A B x = e0 := by show dK z A B x = e0; unfold dK; rw [h, cond_false]
  have e3 : chF.dc z A B x = e0 := by show dC z A B x = e0; unfold dC; rw [h, cond_false]
  refine ⟨?_, ?_, by unfold inI; omega, trivial⟩
  · rw [e1, decide_eq_true rfl]; rfl
  · rw [e2, e3]; exact eqS_self _ _
theorem curves {y : Code} {N : Nat} {T : Int → List AV} {Tx : List AV} {M : List Blk} (step : ∀ z : Int, 0 ≤ z → z ≤ 3 → Goes Tryz.prog y .normal (T z) M (T (z + 1)) M) (out : Goes Tryz.prog y (.exit N) (T 4) M Tx M) : Goes Tryz.prog (.loop y) (.exit N) (T 0) M Tx M := by
  have s0 : Goes Tryz.prog y .normal (T 0) M (T 1) M := step 0 (by omega) (by omega)
  have s1 : Goes Tryz.prog y .normal (T 1) M (T 2) M := step 1 (by omega) (by omega)
  have s2 : Goes Tryz.prog y .normal (T 2) M (T 3) M := step 2 (by omega) (by omega)
  have s3 : Goes Tryz.prog y .normal (T 3) M (T 4) M := step 3 (by omega) (by omega)
  exact (GoesN.cons rfl s0 (GoesN.cons rfl s1 (GoesN.cons rfl s2 (GoesN.cons rfl s3 (GoesN.out (n := 0) (by simp) out))))).loop
theorem sz00 {c : Cells} {len cap n cp : Nat} {xs : Nat → Atom} {q : Nat → Nat} {p2 p3 p4 : List Piece} (hx : XsOk xs) (f2 : Free (roB p2)) (f3 : Free (roB p3)) (f4 : Free (roB p4)) : Goes Tryz.prog (.loop (bodyOf Tryz.prog 3 10)) (.exit 4) (TC (len + 1) cap 0 0 0) (MR c (xsW 0 (.sl 1 0 (n + 1) cp) xs) (len + 1) (qPs q (n + 1)) p2 p3 p4) (TK (len + 1) cap 0 0) (MR c (xsW 0 (.sl 1 0 (n + 1) cp) xs) (len + 1) (qPs q (n + 1)) p2 p3 p4) := by
  refine curves (T := fun z => TC (len + 1) cap 0 0 z) (fun z h0 h3 => ?_) ?_
  · cases h : mayB z (ndK c 0) (ndC c 0) with
    | true => exact Runs.goes envCv ⟨_, _, tc00t chF c len cap n cp z xs q p2 p3 p4, All_ap ⟨decide_eq_true h3, inB_ok (by omega), inB_ok (by omega), inB_ok (by omega), inB_ok (by omega), h, inB_ok (by omega), inB_ok (by omega), inB_ok (by omega), h, trivial⟩ (yT_ok h h0 h3), wfR5 (hx.w fun _ h => sl_ok (by omega) h) (qPs_free _ _) f2 f3 f4 (by kernel_rfl)⟩
    | false => exact Runs.goes envCv ⟨_, _, tc00f chF c len cap n cp z xs q p2 p3 p4, All_ap ⟨decide_eq_true h3, inB_ok (by omega), inB_ok (by omega), inB_ok (by omega), inB_ok (by omega), h, trivial⟩ (yF_ok h h0 h3), wfR5 (hx.w fun _ h => sl_ok (by omega) h) (qPs_free _ _) f2 f3 f4 (by kernel_rfl)⟩
  · exact Runs.goes envCv ⟨_, _, tc00x chF c len cap n cp 4 xs q p2 p3 p4, ⟨by decide, trivial⟩, wfR5 (hx.w fun _ h => sl_ok (by omega) h) (qPs_free _ _) f2 f3 f4 (by kernel_rfl)⟩
theorem sk00 {c : Cells} {len cap n cp : Nat} {xs : Nat → Atom} {q : Nat → Nat} {p2 p3 p4 : List Piece} (hx : XsOk xs) (f2 : Free (roB p2)) (f3 : Free (roB p3)) (f4 : Free (roB p4)) : Goes Tryz.prog (bodyOf Tryz.prog 3 7) .normal (TK (len + 1) cap 0 0) (MR c (xsW 0 (.sl 1 0 (n + 1) cp) xs) (len + 1) (qPs q (n + 1)) p2 p3 p4) (TK (len + 1) cap 0 1) (MR c (xsW 0 (.sl 1 0 (n + 1) cp) xs) (len + 1) (qPs q (n + 1)) p2 p3 p4) := by
  have hE : EnvOK (addLp (ECv chF) 10 (bodyOf Tryz.prog 3 10) (sumC (TC (len + 1) cap 0 0 0) (MR c (xsW 0 (.sl 1 0 (n + 1) cp) xs) (len + 1) (qPs q (n + 1)) p2 p3 p4) (TK (len + 1) cap 0 0) (MR c (xsW 0 (.sl 1 0 (n + 1) cp) xs) (len + 1) (qPs q (n + 1)) p2 p3 p4) (.exit 4))) := envAddLp envCv (sumC_ok rfl (sz00 hx f2 f3 f4))
  exact Runs.goes hE ⟨_, _, tk00 chF c len cap n cp xs q p2 p3 p4, ⟨inB_ok (by omega), decide_eq_true (by omega), by decide, rfl, rfl, wfR5 (hx.w fun _ h => sl_ok (by omega) h) (qPs_free _ _) f2 f3 f4 (by kernel_rfl), by unfold inI; omega, trivial⟩, wfR5 (hx.w fun _ h => sl_ok (by omega) h) (qPs_free _ _) f2 f3 f4 (by kernel_rfl)⟩
theorem sz01 {c : Cells} {len cap n cp : Nat} {xs : Nat → Atom} {q : Nat → Nat} {p2 p3 p4 : List Piece} (hx : XsOk xs) (f2 : Free (roB p2)) (f3 : Free (roB p3)) (f4 : Free (roB p4)) : Goes Tryz.prog (.loop (bodyOf Tryz.prog 3 10)) (.exit 4) (TC (len + 1) cap 0 1 0) (MR c (xsW 0 (.sl 1 0 (n + 1 + 1) cp) xs) (len + 1) (qPs q (n + 1 + 1)) p2 p3 p4) (TK (len + 1) cap 0 1) (MR c (xsW 0 (.sl 1 0 (n + 1 + 1) cp) xs) (len + 1) (qPs q (n + 1 + 1)) p2 p3 p4) := by
  refine curves (T := fun z => TC (len + 1) cap 0 1 z) (fun z h0 h3 => ?_) ?_
  · cases h : mayB z (ndK c 0) (ndC c 0) with
    | true => exact Runs.goes envCv ⟨_, _, tc01t chF c len cap n cp z xs q p2 p3 p4, All_ap ⟨decide_eq_true h3, inB_ok (by omega), inB_ok (by omega), inB_ok (by omega), inB_ok (by omega), h, inB_ok (by omega), inB_ok (by omega), inB_ok (by omega), h, trivial⟩ (yT_ok h h0 h3), wfR5 (hx.w fun _ h => sl_ok (by omega) h) (qPs_free _ _) f2 f3 f4 (by kernel_rfl)⟩
    | false => exact Runs.goes envCv ⟨_, _, tc01f chF c len cap n cp z xs q p2 p3 p4, All_ap ⟨decide_eq_true h3, inB_ok (by omega), inB_ok (by omega), inB_ok (by omega), inB_ok (by omega), h, trivial⟩ (yF_ok h h0 h3), wfR5 (hx.w fun _ h => sl_ok (by omega) h) (qPs_free _ _) f2 f3 f4 (by kernel_rfl)⟩
  · exact Runs.goes envCv ⟨_, _, tc01x chF c len cap n cp 4 xs q p2 p3 p4, ⟨by decide, trivial⟩, wfR5 (hx.w fun _ h => sl_ok (by omega) h) (qPs_free _ _) f2 f3 f4 (by kernel_rfl)⟩
theorem sk01 {c : Cells} {len cap n cp : Nat} {xs : Nat → Atom} {q : Nat → Nat} {p2 p3 p4 : List Piece} (hx : XsOk xs) (f2 : Free (roB p2)) (f3 : Free (roB p3)) (f4 : Free (roB p4)) : Goes Tryz.prog (bodyOf Tryz.prog 3 7) .normal (TK (len + 1) cap 0 1) (MR c (xsW 0 (.sl 1 0 (n + 1 + 1) cp) xs) (len + 1) (qPs q (n + 1 + 1)) p2 p3 p4) (TK (len + 1) cap 0 2) (MR c (xsW 0 (.sl 1 0 (n + 1 + 1) cp) xs) (len + 1) (qPs q (n + 1 + 1)) p2 p3 p4) := by
  have hE : EnvOK (addLp (ECv chF) 10 (bodyOf Tryz.prog 3 10) (sumC (TC (len + 1) cap 0 1 0) (MR c (xsW 0 (.sl 1 0 (n + 1 + 1) cp) xs) (len + 1) (qPs q (n + 1 + 1)) p2 p3 p4) (TK (len + 1) cap 0 1) (MR c (xsW 0 (.sl 1 0 (n + 1 + 1) cp) xs) (len + 1) (qPs q (n + 1 + 1)) p2 p3 p4) (.exit 4))) := envAddLp envCv (sumC_ok rfl (sz01 hx f2 f3 f4))
  exact Runs.goes hE ⟨_, _, tk01 chF c len cap n cp xs q p2 p3 p4, ⟨inB_ok (by omega), decide_eq_true (by omega), by decide, rfl, rfl, wfR5 (hx.w fun _ h => sl_ok (by omega) h) (qPs_free _ _) f2 f3 f4 (by kernel_rfl), by unfold inI; omega, trivial⟩, wfR5 (hx.w fun _ h => sl_ok (by omega) h) (qPs_free _ _) f2 f3 f4 (by kernel_rfl)⟩
theorem kl0 {c : Cells} {len cap n cp : Nat} {xs : Nat → Atom} {q : Nat → Nat} {p2 p3 p4 : List Piece} (hx : XsOk xs) (f2 : Free (roB p2)) (f3 : Free (roB p3)) (f4 : Free (roB p4)) : Goes Tryz.prog (.loop (bodyOf Tryz.prog 3 7)) (.exit 2) (TK (len + 1) cap 0 0) (MR c (xsW 0 (.sl 1 0 n cp) xs) (len + 1) (qPs q n) p2 p3 p4) (TJ (len + 1) cap 0) (MR c (xsW 0 (.sl 1 0 n cp) xs) (len + 1) (qPs q n) p2 p3 p4) := by
  match n with
  | 0 =>
    refine GoesN.loop (n := 1) ?_
    exact GoesN.out (n := 0) (by simp) (Runs.goes envCv ⟨_, _, te00 chF c len cap _ cp xs q p2 p3 p4, ⟨inB_ok (by omega), by decide, trivial⟩, wfR5 (hx.w fun _ h => sl_ok (by omega) h) (qPs_free _ _) f2 f3 f4 (by kernel_rfl)⟩)
  | 1 =>
    refine (GoesN.cons (n := 1) (M1 := MR c (xsW 0 (.sl 1 0 1 cp) xs) (len + 1) (qPs q 1) p2 p3 p4) rfl (sk00 (n := 0) hx f2 f3 f4) ?_).loop
    exact GoesN.out (n := 0) (by simp) (Runs.goes envCv ⟨_, _, te01 chF c len cap _ cp xs q p2 p3 p4, ⟨inB_ok (by omega), by decide, trivial⟩, wfR5 (hx.w fun _ h => sl_ok (by omega) h) (qPs_free _ _) f2 f3 f4 (by kernel_rfl)⟩)
  | n + 2 =>
    refine (GoesN.cons (M1 := MR c (xsW 0 (.sl 1 0 (n + 2) cp) xs) (len + 1) (qPs q (n + 2)) p2 p3 p4) rfl (sk00 (n := n + 1) hx f2 f3 f4) (GoesN.cons (n := 1) (M1 := MR c (xsW 0 (.sl 1 0 (n + 2) cp) xs) (len + 1) (qPs q (n + 2)) p2 p3 p4) rfl (sk01 (n := n) hx f2 f3 f4) ?_)).loop
    by_cases hn : n = 0
    · subst hn
      exact GoesN.out (n := 0) (by simp) (Runs.goes envCv ⟨_, _, tg0 chF c len cap _ cp xs q p2 p3 p4, ⟨inB_ok (by omega), by decide, trivial⟩, wfR5 (hx.w fun _ h => sl_ok (by omega) h) (qPs_free _ _) f2 f3 f4 (by kernel_rfl)⟩)
    · exact GoesN.out (n := 0) (by simp) (Runs.goes envCv ⟨_, _, te02 chF c len cap _ cp xs q p2 p3 p4, ⟨inB_ok (by omega), decide_eq_true (by omega), by decide, trivial⟩, wfR5 (hx.w fun _ h => sl_ok (by omega) h) (qPs_free _ _) f2 f3 f4 (by kernel_rfl)⟩)
theorem jl0 {c : Cells} {len cap n cp : Nat} {xs : Nat → Atom} {q : Nat → Nat} {p2 p3 p4 : List Piece} (hx : XsOk xs) (f2 : Free (roB p2)) (f3 : Free (roB p3)) (f4 : Free (roB p4)) : Goes Tryz.prog (bodyOf Tryz.prog 3 4) .normal (TJ (len + 1) cap 0) (MR c (xsW 0 (.sl 1 0 n cp) xs) (len + 1) (qPs q n) p2 p3 p4) (TJ (len + 1) cap 1) (MR c (xsW 0 (.sl 1 0 n cp) xs) (len + 1) (qPs q n) p2 p3 p4) := by
  have hE : EnvOK (addLp (ECv chF) 7 (bodyOf Tryz.prog 3 7) (sumC (TK (len + 1) cap 0 0) (MR c (xsW 0 (.sl 1 0 n cp) xs) (len + 1) (qPs q n) p2 p3 p4) (TJ (len + 1) cap 0) (MR c (xsW 0 (.sl 1 0 n cp) xs) (len + 1) (qPs q n) p2 p3 p4) (.exit 2))) := envAddLp envCv (sumC_ok rfl (kl0 hx f2 f3 f4))
  exact Runs.goes hE ⟨_, _, tj0 chF c len cap _ cp xs q p2 p3 p4, ⟨decide_eq_true (by omega), by decide, rfl, rfl, wfR5 (hx.w fun _ h => sl_ok (by omega) h) (qPs_free _ _) f2 f3 f4 (by kernel_rfl), by unfold inI; omega, trivial⟩, wfR5 (hx.w fun _ h => sl_ok (by omega) h) (qPs_free _ _) f2 f3 f4 (by kernel_rfl)⟩
theorem jn0 {c : Cells} {len cap cp : Nat} {o : Option Addr} {xs : Nat → Atom} {p1 p2 p3 p4 : List Piece} (hx : XsOk xs) (f1 : Free (roB p1)) (f2 : Free (roB p2)) (f3 : Free (roB p3)) (f4 : Free (roB p4)) : Goes Tryz.prog (bodyOf Tryz.prog 3 4) .normal (TJ (len + 1) cap 0) (MR c (xsW 0 (.v (.slice o 0 cp)) xs) (len + 1) p1 p2 p3 p4) (TJ (len + 1) cap 1) (MR c (xsW 0 (.v (.slice o 0 cp)) xs) (len + 1) p1 p2 p3 p4) :=
  Runs.goes envCv ⟨_, _, tn30 chF c len cap o cp xs p1 p2 p3 p4, ⟨decide_eq_true (by omega), by decide, inB_ok (by omega), by decide, by unfold inI; omega, trivial⟩, wfR5 (hx.w fun _ _ => rfl) f1 f2 f3 f4 (by kernel_rfl)⟩
theorem js0 {c : Cells} {s : Sub} {cap : Nat} (len : Nat) (h : SubOk s (len + 1)) : Goes Tryz.prog (bodyOf Tryz.prog 3 4) .normal (TJ (len + 1) cap 0) (MW c s (len + 1)) (TJ (len + 1) cap 1) (MW c s (len + 1)) := by
  cases hl : s.lv 0 with
  | true =>
    have ep : psS s 0 = qPs (s.q 0) (s.n 0) := by unfold psS; rw [hl]; rfl
    have h1 := jl0 (c := c) (len := len) (cap := cap) (n := s.n 0) (cp := s.k 0) (q := s.q 0) (xsS_ok s) (psS_free s 1) (psS_free s 2) (psS_free s 3)
    rw [← xsS_live hl (by omega), ← ep] at h1
    exact h1
  | false =>
    have h1 := jn0 (c := c) (len := len) (cap := cap) (o := s.o 0) (cp := s.k 0) (xsS_ok s) (psS_free s 0) (psS_free s 1) (psS_free s 2) (psS_free s 3)
    rw [← xsS_none hl (h 0 (by omega) hl)] at h1
    exact h1
theorem sz10 {c : Cells} {len cap n cp : Nat} {xs : Nat → Atom} {q : Nat → Nat} {p1 p3 p4 : List Piece} (hx : XsOk xs) (f1 : Free (roB p1)) (f3 : Free (roB p3)) (f4 : Free (roB p4)) : Goes Tryz.prog (.loop (bodyOf Tryz.prog 3 10)) (.exit 4) (TC (len + 2) cap 1 0 0) (MR c (xsW 1 (.sl 2 0 (n + 1) cp) xs) (len + 2) p1 (qPs q (n + 1)) p3 p4) (TK (len + 2) cap 1 0) (MR c (xsW 1 (.sl 2 0 (n + 1) cp) xs) (len + 2) p1 (qPs q (n + 1)) p3 p4) := by
  refine curves (T := fun z => TC (len + 2) cap 1 0 z) (fun z h0 h3 => ?_) ?_
  · cases h : mayB z (ndK c 1) (ndC c 1) with
    | true => exact Runs.goes envCv ⟨_, _, tc10t chF c len cap n cp z xs q p1 p3 p4, All_ap ⟨decide_eq_true h3, inB_ok (by omega), inB_ok (by omega), inB_ok (by omega), inB_ok (by omega), h, inB_ok (by omega), inB_ok (by omega), inB_ok (by omega), h, trivial⟩ (yT_ok h h0 h3), wfR5 (hx.w fun _ h => sl_ok (by omega) h) f1 (qPs_free _ _) f3 f4 (by kernel_rfl)⟩
    | false => exact Runs.goes envCv ⟨_, _, tc10f chF c len cap n cp z xs q p1 p3 p4, All_ap ⟨decide_eq_true h3, inB_ok (by omega), inB_ok (by omega), inB_ok (by omega), inB_ok (by omega), h, trivial⟩ (yF_ok h h0 h3), wfR5 (hx.w fun _ h => sl_ok (by omega) h) f1 (qPs_free _ _) f3 f4 (by kernel_rfl)⟩
  · exact Runs.goes envCv ⟨_, _, tc10x chF c len cap n cp 4 xs q p1 p3 p4, ⟨by decide, trivial⟩, wfR5 (hx.w fun _ h => sl_ok (by omega) h) f1 (qPs_free _ _) f3 f4 (by kernel_rfl)⟩
theorem sk10 {c : Cells} {len cap n cp : Nat} {xs : Nat → Atom} {q : Nat → Nat} {p1 p3 p4 : List Piece} (hx : XsOk xs) (f1 : Free (roB p1)) (f3 : Free (roB p3)) (f4 : Free (roB p4)) : Goes Tryz.prog (bodyOf Tryz.prog 3 7) .normal (TK (len + 2) cap 1 0) (MR c (xsW 1 (.sl 2 0 (n + 1) cp) xs) (len + 2) p1 (qPs q (n + 1)) p3 p4) (TK (len + 2) cap 1 1) (MR c (xsW 1 (.sl 2 0 (n + 1) cp) xs) (len + 2) p1 (qPs q (n + 1)) p3 p4) := by
  have hE : EnvOK (addLp (ECv chF) 10 (bodyOf Tryz.prog 3 10) (sumC (TC (len + 2) cap 1 0 0) (MR c (xsW 1 (.sl 2 0 (n + 1) cp) xs) (len + 2) p1 (qPs q (n + 1)) p3 p4) (TK (len + 2) cap 1 0) (MR c (xsW 1 (.sl 2 0 (n + 1) cp) xs) (len + 2) p1 (qPs q (n + 1)) p3 p4) (.exit 4))) := envAddLp envCv (sumC_ok rfl (sz10 hx f1 f3 f4))
  exact Runs.goes hE ⟨_, _, tk10 chF c len cap n cp xs q p1 p3 p4, ⟨inB_ok (by omega), decide_eq_true (by omega), by decide, rfl, rfl, wfR5 (hx.w fun _ h => sl_ok (by omega) h) f1 (qPs_free _ _) f3 f4 (by kernel_rfl), by unfold inI; omega, trivial⟩, wfR5 (hx.w fun _ h => sl_ok (by omega) h) f1 (qPs_free _ _) f3 f4 (by kernel_rfl)⟩
theorem sz11 {c : Cells} {len cap n cp : Nat} {xs : Nat → Atom} {q : Nat → Nat} {p1 p3 p4 : List Piece} (hx : XsOk xs) (f1 : Free (roB p1)) (f3 : Free (roB p3)) (f4 : Free (roB p4)) : Goes Tryz.prog (.loop (bodyOf Tryz.prog 3 10)) (.exit 4) (TC (len + 2) cap 1 1 0) (MR c (xsW 1 (.sl 2 0 (n + 1 + 1) cp) xs) (len + 2) p1 (qPs q (n + 1 + 1)) p3 p4) (TK (len + 2) cap 1 1) (MR c (xsW 1 (.sl 2 0 (n + 1 + 1) cp) xs) (len + 2) p1 (qPs q (n + 1 + 1)) p3 p4) := by
  refine curves (T := fun z => TC (len + 2) cap 1 1 z) (fun z h0 h3 => ?_) ?_
  · cases h : mayB z (ndK c 1) (ndC c 1) with
    | true => exact Runs.goes envCv ⟨_, _, tc11t chF c len cap n cp z xs q p1 p3 p4, All_ap ⟨decide_eq_true h3, inB_ok (by omega), inB_ok (by omega), inB_ok (by omega), inB_ok (by omega), h, inB_ok (by omega), inB_ok (by omega), inB_ok (by omega), h, trivial⟩ (yT_ok h h0 h3), wfR5 (hx.w fun _ h => sl_ok (by omega) h) f1 (qPs_free _ _) f3 f4 (by kernel_rfl)⟩
    | false => exact Runs.goes envCv ⟨_, _, tc11f chF c len cap n cp z xs q p1 p3 p4, All_ap ⟨decide_eq_true h3, inB_ok (by omega), inB_ok (by omega), inB_ok (by omega), inB_ok (by omega), h, trivial⟩ (yF_ok h h0 h3), wfR5 (hx.w fun _ h => sl_ok (by omega) h) f1 (qPs_free _ _) f3 f4 (by kernel_rfl)⟩
  · exact Runs.goes envCv ⟨_, _, tc11x chF c len cap n cp 4 xs q p1 p3 p4, ⟨by decide, trivial⟩, wfR5 (hx.w fun _ h => sl_ok (by omega) h) f1 (qPs_free _ _) f3 f4 (by kernel_rfl)⟩
theorem sk11 {c : Cells} {len cap n cp : Nat} {xs : Nat → Atom} {q : Nat → Nat} {p1 p3 p4 : List Piece} (hx : XsOk xs) (f1 : Free (roB p1)) (f3 : Free (roB p3)) (f4 : Free (roB p4)) : Goes Tryz.prog (bodyOf Tryz.prog 3 7) .normal (TK (len + 2) cap 1 1) (MR c (xsW 1 (.sl 2 0 (n + 1 + 1) cp) xs) (len + 2) p1 (qPs q (n + 1 + 1)) p3 p4) (TK (len + 2) cap 1 2) (MR c (xsW 1 (.sl 2 0 (n + 1 + 1) cp) xs) (len + 2) p1 (qPs q (n + 1 + 1)) p3 p4) := by
  have hE : EnvOK (addLp (ECv chF) 10 (bodyOf Tryz.prog 3 10) (sumC (TC (len + 2) cap 1 1 0) (MR c (xsW 1 (.sl 2 0 (n + 1 + 1) cp) xs) (len + 2) p1 (qPs q (n + 1 + 1)) p3 p4) (TK (len + 2) cap 1 1) (MR c (xsW 1 (.sl 2 0 (n + 1 + 1) cp) xs) (len + 2) p1 (qPs q (n + 1 + 1)) p3 p4) (.exit 4))) := envAddLp envCv (sumC_ok rfl (sz11 hx f1 f3 f4))
  exact Runs.goes hE ⟨_, _, tk11 chF c len cap n cp xs q p1 p3 p4, ⟨inB_ok (by omega), decide_eq_true (by omega), by decide, rfl, rfl, wfR5 (hx.w fun _ h => sl_ok (by omega) h) f1 (qPs_free _ _) f3 f4 (by kernel_rfl), by unfold inI; omega, trivial⟩, wfR5 (hx.w fun _ h => sl_ok (by omega) h) f1 (qPs_free _ _) f3 f4 (by kernel_rfl)⟩
theorem kl1 {c : Cells} {len cap n cp : Nat} {xs : Nat → Atom} {q : Nat → Nat} {p1 p3 p4 : List Piece} (hx : XsOk xs) (f1 : Free (roB p1)) (f3 : Free (roB p3)) (f4 : Free (roB p4)) : Goes Tryz.prog (.loop (bodyOf Tryz.prog 3 7)) (.exit 2) (TK (len + 2) cap 1 0) (MR c (xsW 1 (.sl 2 0 n cp) xs) (len + 2) p1 (qPs q n) p3 p4) (TJ (len + 2) cap 1) (MR c (xsW 1 (.sl 2 0 n cp) xs) (len + 2) p1 (qPs q n) p3 p4) := by
  match n with
  | 0 =>
    refine GoesN.loop (n := 1) ?_
    exact GoesN.out (n := 0) (by simp) (Runs.goes envCv ⟨_, _, te10 chF c len cap _ cp xs q p1 p3 p4, ⟨inB_ok (by omega), by decide, trivial⟩, wfR5 (hx.w fun _ h => sl_ok (by omega) h) f1 (qPs_free _ _) f3 f4 (by kernel_rfl)⟩)
  | 1 =>
    refine (GoesN.cons (n := 1) (M1 := MR c (xsW 1 (.sl 2 0 1 cp) xs) (len + 2) p1 (qPs q 1) p3 p4) rfl (sk10 (n := 0) hx f1 f3 f4) ?_).loop
    exact GoesN.out (n := 0) (by simp) (Runs.goes envCv ⟨_, _, te11 chF c len cap _ cp xs q p1 p3 p4, ⟨inB_ok (by omega), by decide, trivial⟩, wfR5 (hx.w fun _ h => sl_ok (by omega) h) f1 (qPs_free _ _) f3 f4 (by kernel_rfl)⟩)
  | n + 2 =>
    refine (GoesN.cons (M1 := MR c (xsW 1 (.sl 2 0 (n + 2) cp) xs) (len + 2) p1 (qPs q (n + 2)) p3 p4) rfl (sk10 (n := n + 1) hx f1 f3 f4) (GoesN.cons (n := 1) (M1 := MR c (xsW 1 (.sl 2 0 (n + 2) cp) xs) (len + 2) p1 (qPs q (n + 2)) p3 p4) rfl (sk11 (n := n) hx f1 f3 f4) ?_)).loop
    by_cases hn : n = 0
    · subst hn
      exact GoesN.out (n := 0) (by simp) (Runs.goes envCv ⟨_, _, tg1 chF c len cap _ cp xs q p1 p3 p4, ⟨inB_ok (by omega), by decide, trivial⟩, wfR5 (hx.w fun _ h => sl_ok (by omega) h) f1 (qPs_free _ _) f3 f4 (by kernel_rfl)⟩)
    · exact GoesN.out (n := 0) (by simp) (Runs.goes envCv ⟨_, _, te12 chF c len cap _ cp xs q p1 p3 p4, ⟨inB_ok (by omega), decide_eq_true (by omega), by decide, trivial⟩, wfR5 (hx.w fun _ h => sl_ok (by omega) h) f1 (qPs_free _ _) f3 f4 (by kernel_rfl)⟩)
theorem jl1 {c : Cells} {len cap n cp : Nat} {xs : Nat → Atom} {q : Nat → Nat} {p1 p3 p4 : List Piece} (hx : XsOk xs) (f1 : Free (roB p1)) (f3 : Free (roB p3)) (f4 : Free (roB p4)) : Goes Tryz.prog (bodyOf Tryz.prog 3 4) .normal (TJ (len + 2) cap 1) (MR c (xsW 1 (.sl 2 0 n cp) xs) (len + 2) p1 (qPs q n) p3 p4) (TJ (len + 2) cap 2) (MR c (xsW 1 (.sl 2 0 n cp) xs) (len + 2) p1 (qPs q n) p3 p4) := by
  have hE : EnvOK (addLp (ECv chF) 7 (bodyOf Tryz.prog 3 7) (sumC (TK (len + 2) cap 1 0) (MR c (xsW 1 (.sl 2 0 n cp) xs) (len + 2) p1 (qPs q n) p3 p4) (TJ (len + 2) cap 1) (MR c (xsW 1 (.sl 2 0 n cp) xs) (len + 2) p1 (qPs q n) p3 p4) (.exit 2))) := envAddLp envCv (sumC_ok rfl (kl1 hx f1 f3 f4))
  exact Runs.goes hE ⟨_, _, tj1 chF c len cap _ cp xs q p1 p3 p4, ⟨decide_eq_true (by omega), by decide, rfl, rfl, wfR5 (hx.w fun _ h => sl_ok (by omega) h) f1 (qPs_free _ _) f3 f4 (by kernel_rfl), by unfold inI; omega, trivial⟩, wfR5 (hx.w fun _ h => sl_ok (by omega) h) f1 (qPs_free _ _) f3 f4 (by kernel_rfl)⟩
theorem jn1 {c : Cells} {len cap cp : Nat} {o : Option Addr} {xs : Nat → Atom} {p1 p2 p3 p4 : List Piece} (hx : XsOk xs) (f1 : Free (roB p1)) (f2 : Free (roB p2)) (f3 : Free (roB p3)) (f4 : Free (roB p4)) : Goes Tryz.prog (bodyOf Tryz.prog 3 4) .normal (TJ (len + 2) cap 1) (MR c (xsW 1 (.v (.slice o 0 cp)) xs) (len + 2) p1 p2 p3 p4) (TJ (len + 2) cap 2) (MR c (xsW 1 (.v (.slice o 0 cp)) xs) (len + 2) p1 p2 p3 p4) :=
  Runs.goes envCv ⟨_, _, tn31 chF c len cap o cp xs p1 p2 p3 p4, ⟨decide_eq_true (by omega), by decide, inB_ok (by omega), by decide, by unfold inI; omega, trivial⟩, wfR5 (hx.w fun _ _ => rfl) f1 f2 f3 f4 (by kernel_rfl)⟩
theorem js1 {c : Cells} {s : Sub} {cap : Nat} (len : Nat) (h : SubOk s (len + 2)) : Goes Tryz.prog (bodyOf Tryz.prog 3 4) .normal (TJ (len + 2) cap 1) (MW c s (len + 2)) (TJ (len + 2) cap 2) (MW c s (len + 2)) := by
  cases hl : s.lv 1 with
  | true =>
    have ep : psS s 1 = qPs (s.q 1) (s.n 1) := by unfold psS; rw [hl]; rfl
    have h1 := jl1 (c := c) (len := len) (cap := cap) (n := s.n 1) (cp := s.k 1) (q := s.q 1) (xsS_ok s) (psS_free s 0) (psS_free s 2) (psS_free s 3)
    rw [← xsS_live hl (by omega), ← ep] at h1
    exact h1
  | false =>
    have h1 := jn1 (c := c) (len := len) (cap := cap) (o := s.o 1) (cp := s.k 1) (xsS_ok s) (psS_free s 0) (psS_free s 1) (psS_free s 2) (psS_free s 3)
    rw [← xsS_none hl (h 1 (by omega) hl)] at h1
    exact h1
theorem wfJ (c : Cells) (s : Sub) (m cap : Nat) (i : Int) : wfS (TJ m cap i) (MW c s m) = true := wfR5 (xsS_ok s) (psS_free s 0) (psS_free s 1) (psS_free s 2) (psS_free s 3) (by kernel_rfl)
theorem wfJx (c : Cells) (s : Sub) (m cap : Nat) : wfS (TJx m cap) (MW c s m) = true := wfR5 (xsS_ok s) (psS_free s 0) (psS_free s 1) (psS_free s 2) (psS_free s 3) (by kernel_rfl)
theorem loopJ {c : Cells} {s : Sub} {m cap : Nat} (h : SubOk s m) : Goes Tryz.prog (.loop (bodyOf Tryz.prog 3 4)) (.exit 0) (TJ m cap ((0 : Nat) : Int)) (MW c s m) (TJx m cap) (MW c s m) := by
  refine loop_goes (N := min m 2) (k := 5) (T := fun i => TJ m cap (i : Int)) (M := fun _ => MW c s m) (by simp) (fun _ _ => rfl) (fun i hi => ?_) ?_
  · match i, hi with
    | 0, hi =>
      obtain ⟨l, rfl⟩ : ∃ l, m = l + 1 := ⟨m - 1, by omega⟩
      exact js0 l h
    | 1, hi =>
      obtain ⟨l, rfl⟩ : ∃ l, m = l + 2 := ⟨m - 2, by omega⟩
      exact js1 l h
    | i + 2, hi => omega
  · by_cases h4 : m ≤ 2
    · rw [show min m 2 = m by omega]
      exact Runs.goes envCv ⟨_, _, tx3a chF c m cap (m : Int) (xsS s) _ _ _ _, ⟨decide_eq_false (by omega), trivial⟩, wfJx _ _ _ _⟩
    · rw [show min m 2 = 2 by omega]
      exact Runs.goes envCv ⟨_, _, tx3b chF c m cap 2 (xsS s) _ _ _ _, ⟨decide_eq_true (by omega), by decide, trivial⟩, wfJx _ _ _ _⟩
noncomputable def ECy (g : ChF) (c : Cells) (s : Sub) (l : Lits) (m cap : Nat) : Env := addM' (addLp (ECv g) 4 (bodyOf Tryz.prog 3 4) (sumC (TJ m cap 0) (MW c s m) (TJx m cap) (MW c s m) (.exit 0))) (fmW c (xsS s) l m)
theorem envCy {c : Cells} {s : Sub} {l : Lits} {m cap : Nat} (h : SubOk s m) : EnvOK (ECy chF c s l m cap) := envAddM' (envAddLp envCv (sumC_ok rfl (loopJ h))) (fmW_ok _ _ _ _)
theorem w3t (g : ChF) (c : Cells) (s : Sub) (l : Lits) (m cap : Nat) : dropM (callBy (ECy g c s l m cap) (evalC (ECy g c s l m cap) 1000) 3 [.one (.sl 0 0 m cap)] (MW c s m) [true]) =
    some ([decide (2000 < hvX c l m 0 (m : Int)) = true] ++ ob9 c s l m, bV true) := by kernel_rfl
theorem w3f (g : ChF) (c : Cells) (s : Sub) (l : Lits) (m cap : Nat) : dropM (callBy (ECy g c s l m cap) (evalC (ECy g c s l m cap) 1000) 3 [.one (.sl 0 0 m cap)] (MW c s m) [false]) =
    some ([decide (2000 < hvX c l m 0 (m : Int)) = false] ++ ob9 c s l m ++ [bodyOf Tryz.prog 3 4 = bodyOf Tryz.prog 3 4, (TJ m cap 0, MW c s m) = (TJ m cap 0, MW c s m), wfS (TJ m cap 0) (MW c s m) = true], bV true) := by kernel_rfl
noncomputable def ECn (g : ChF) : Env := mkE (⟨9, fnN9⟩ :: LCv g) S3c
theorem envCn : EnvOK (ECn chF) := envMk (show AllCT (⟨9, fnN9⟩ :: LCv chF) from ⟨ctN9, LCv_ok⟩) S3c
theorem w3n (g : ChF) : dropM (callBy (ECn g) (evalC (ECn g) 1000) 3 [nilV] [] [false, false]) = some ([false = false, decide ((0 : Int) < ((0 : Nat) : Int)) = false], bV true) := by kernel_rfl
theorem law3 {H : Type} {enc : TypeId × Value → H} {r : Reach} {W : World} {base : Nat} {v : Value} {d : DataW H} {ps : List MemPlace} (hval : Value.okWide Tryz.prog W r base 22 v) (h : DataW.Trod enc Tryz.prog W 0 (fun _ => true) true 22 v d ps) (hwt : ∀ n ∈ d.weights Tryz.prog 22, n ≤ BB) :
    Calls Tryz.prog 3 #[v] W (Trues W) := by
  rcases rows_of (Nat.le_refl _) (ask_open u22 u28 rfl rfl rfl rfl cf0 cf1 cf2 cf3 c28 kf0 kf1 kf2 uf3 k32 c32 b32 b28 hval h hwt) with rfl | ⟨c, s, l, m, cap, φ, hR, rfl⟩
  · exact law_runMD (φ := fun _ => (0, 0, 0)) envCn (w3n chF) ⟨rfl, by decide, trivial⟩ ⟨Below.refl _ _, by simp, by simp, by simp, by simp, by simp⟩ rfl
  · have hE := envCy (c := c) (l := l) (cap := cap) hR.ok
    cases hv : decide (2000 < hvX c l m 0 (m : Int)) with
    | true => exact law_runMD hE (w3t chF c s l m cap) (All_ap ⟨hv, trivial⟩ (ob9_ok hR)) hR.rel rfl
    | false => exact law_runMD hE (w3f chF c s l m cap) (All_ap3 ⟨hv, trivial⟩ (ob9_ok hR) ⟨rfl, rfl, wfJ _ _ _ _ _, trivial⟩) hR.rel rfl
end Go.Ev.H5

namespace Go.Proofs.YtfcobjhnkghdjaaGreat.Laws
open Go Go.Ev Go.Ev.H5 Go.RowKit Go.ChangeShapes Go.WideShapes Go.ChangeAt

set_option maxRecDepth 100000 in
theorem lifted3 (os : Os) (started : os.Started) (H : Type) (enc : TypeId × Value → H) :
    ReturnsInHanded {} Tryz.checked os 3 .any (Rows.slipChildsSpec.pre6 enc Tryz.prog Tryz.f3 Rows.slipChildsRow.domain false) (Rows.slipChildsSpec.post enc Tryz.prog Tryz.f3 false true false false) := by
  refine returnsInHanded_of_change_sized (C := Tryz.checked) own started (by kernel_rfl) Tryz.func3
    (ChangeSpec.witness6 (enc := enc) (C := Tryz.checked) false ⟨#[], #[.slice none 0 0], []⟩ 8 (by kernel_rfl) (by kernel_rfl) (by kernel_rfl) (by kernel_rfl)) ?_
  intro W base args ds gs before hval0 hW _ hsz0 _
  have hsz : (DataW.weightsEach Tryz.prog (Tryz.f3.params.toList ++ Rows.slipChildsSpec.plain.varTypes Tryz.prog) (ds ++ gs)).all (· ≤ reachBytes) = true := hsz0
  clear hsz0
  have hval : ∀ (j : Nat) t v, Tryz.f3.params[j]? = some t → args[j]? = some v → Value.okWide Tryz.prog W .any base t v := hval0
  have hW' := hW
  obtain ⟨p, q, hA0, hV, hbef, hfz, hnd⟩ := hW
  have hp : Tryz.f3.params = #[22] := by kernel_rfl
  have hA : DataW.TrodAll enc Tryz.prog W 0 (fun _ => true) true Tryz.f3.params.toList args.toList ds p := hA0
  rw [hp] at hA hval
  obtain ⟨v0, d0, rfl, rfl, h0⟩ := trodAll_one hA
  obtain ⟨rfl, rfl⟩ := trodVars_none hV
  refine (law3 (hval 0 22 v0 rfl rfl) h0 (fun n hn => by simpa using List.all_eq_true.1 hsz n (DataW.weights_mem_each (j := 0) (t := 22) (by rw [hp]; rfl) rfl n hn))).mono ?_
  rintro e W' ⟨rfl, hb⟩
  exact ⟨_, rfl, post_true (tb := 4) rfl hp (by kernel_rfl) u4 laid rd22 row22 rfl rfl hW' hb⟩

theorem holds3 : Rows.SlipChildsSaid :=
  OpenClaim.holds_of_wide 3 Tryz.f3 rfl rfl rfl rfl rfl rfl rfl ⟨rfl, rfl, rfl, rfl, rfl⟩ rfl rfl rfl rfl rfl (by kernel_rfl) Tryz.func3 (by kernel_rfl)
    (of_decide_eq_true (by kernel_rfl)) (by unfold Func.isWrapper; first | (rw [if_pos (by decide +kernel)]; kernel_rfl) | (rw [if_neg (by decide +kernel)]; exact ⟨rfl, rfl⟩))
    (fun os started H enc _ => lifted3 os started H enc)

end Go.Proofs.YtfcobjhnkghdjaaGreat.Laws

namespace Go.Proofs.YtfcobjhnkghdjaaGreat
open Go
theorem slipChilds_holds : Rows.SlipChildsSaid := Laws.holds3
end Go.Proofs.YtfcobjhnkghdjaaGreat

