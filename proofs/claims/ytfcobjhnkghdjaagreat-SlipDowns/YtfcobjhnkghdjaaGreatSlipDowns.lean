/- Keyed sums, nodes, and the law, of every input: SlipDowns holds of every argument -/
import Derived.Test.YtfcobjhnkghdjaaGreatPartV
import Derived.Test.YtfcobjhnkghdjaaGreatPartR
import Derived.Test.YtfcobjhnkghdjaaGreatPartQ
import Derived.Test.YtfcobjhnkghdjaaGreatPartU
import Derived.JoinedOf
import Derived.SizedLaws
namespace Go.Ev.H5
open Go Go.Proofs Go.RowKit
set_option maxRecDepth 100000
theorem ct28 : CTok ⟨28, fnKy⟩ := by
  intro vs ob r h ho
  simp only [fnKy] at h
  split at h
  · simp only [Option.some.injEq, Prod.mk.injEq] at h
    obtain ⟨rfl, rfl⟩ := h
    obtain ⟨h1, _⟩ := ho
    exact spec_run (envMk LKz_ok SKz) rfl (r28 _) ⟨dec32 h1, h1, beS_lt h1, trivial⟩ rfl rfl
  · simp at h
noncomputable def LPb : List CT := ⟨28, fnKy⟩ :: ⟨43, fnKy⟩ :: ⟨65, fnS [aN, aSp] gMulP⟩ :: ⟨49, fnS [aN, aSp] gMulQ⟩ :: ⟨64, fnS [aSp] gOf58⟩ :: ⟨48, fnS [aSp] gOf58⟩ :: ⟨66, cV (.val (P3 wXN wYN false))⟩ :: ⟨50, cV (.val (P3 wXN wYN false))⟩ :: []
theorem LPb_ok : AllCT LPb := ⟨ct28, ct43, ct39q, ct15q, ct58s, ct32s, ctV spec19w, ctV spec28w, trivial⟩
def SPb : FuncId → Nat → Bool := fun f t => match f with | 41 => memN t [12] | _ => false
noncomputable def gBas (k : Nat) : Sp := gmul (Sp.mk wXN wYN false) k
theorem gBas_on (k : Nat) : (gBas k).on := gmul_on (s := Sp.mk wXN wYN false) on_base k
theorem gBas_lt (k : Nat) : (gBas k).x < 4294967296 ^ 8 ∧ (gBas k).y < 4294967296 ^ 8 := ⟨L8 (gBas_on k).lx, L8 (gBas_on k).ly⟩
noncomputable def pubS (s : ByteArray) : ByteArray := packW (gBas (beS s)).x (gBas (beS s)).y
theorem pubS_size (s : ByteArray) : (pubS s).size = 33 := by
  unfold pubS packW
  rw [ByteArray.size_append, Go.Ev.bgS_size, one_size]
theorem r41 (s : ByteArray) : callR (mkE LPb SPb) 1000 41 [sS s] [false] =
    some ([s.size = 32, (!gd (beS s)) = false, beS s < 4294967296 ^ 8, wXN < 4294967296 ^ 8, wYN < 4294967296 ^ 8, onS wXN wYN false = true, (gBas (beS s)).x < 4294967296 ^ 8, (gBas (beS s)).y < 4294967296 ^ 8], .tup [sS (pubS s), .one (.i 0)]) := by kernel_rfl
theorem r30 (s : ByteArray) : callR (mkE LPb SPb) 1000 30 [sS s] [] =
    some ([s.size = 32, beS s < 4294967296 ^ 8, wXN < 4294967296 ^ 8, wYN < 4294967296 ^ 8, onS wXN wYN false = true, (gBas (beS s)).x < 4294967296 ^ 8, (gBas (beS s)).y < 4294967296 ^ 8], .val (sS (pubS s))) := by kernel_rfl
noncomputable def fnPb (vs : List V1) : Option (List Prop × AV) := match vs with | [.one (.v (.string s))] => some ([s.size = 32, gd (beS s) = true], .tup [sS (pubS s), .one (.i 0)]) | _ => none
noncomputable def fnPc (vs : List V1) : Option (List Prop × AV) := match vs with | [.one (.v (.string s))] => some ([s.size = 32], .val (sS (pubS s))) | _ => none
theorem ct41 : CTok ⟨41, fnPb⟩ := by
  intro vs ob r h ho
  simp only [fnPb] at h
  split at h
  · simp only [Option.some.injEq, Prod.mk.injEq] at h
    obtain ⟨rfl, rfl⟩ := h
    obtain ⟨h1, h2, _⟩ := ho
    exact spec_run (envMk LPb_ok SPb) rfl (r41 _) ⟨h1, by rw [h2]; rfl, beS_lt h1, L8 wXN_lt, L8 wYN_lt, on_base, (gBas_lt _).1, (gBas_lt _).2, trivial⟩ rfl rfl
  · simp at h
theorem ct30 : CTok ⟨30, fnPc⟩ := by
  intro vs ob r h ho
  simp only [fnPc] at h
  split at h
  · simp only [Option.some.injEq, Prod.mk.injEq] at h
    obtain ⟨rfl, rfl⟩ := h
    obtain ⟨h1, _⟩ := ho
    exact spec_run (envMk LPb_ok SPb) rfl (r30 _) ⟨h1, beS_lt h1, L8 wXN_lt, L8 wYN_lt, on_base, (gBas_lt _).1, (gBas_lt _).2, trivial⟩ rfl rfl
  · simp at h
noncomputable def LMp : List CT := ⟨41, fnPb⟩ :: ⟨30, fnPc⟩ :: LMy
theorem LMp_ok : AllCT LMp := ⟨ct41, ct30, LMy_ok⟩
end Go.Ev.H5

namespace Go.Ev.H5
open Go Go.Proofs Go.RowKit
set_option maxRecDepth 100000
noncomputable def sfS (k : ByteArray) (i : Nat) : ByteArray := pubS k ++ ixS i
theorem sfS_size (k : ByteArray) (i : Nat) : (sfS k i).size = 37 := by
  unfold sfS
  rw [ByteArray.size_append, pubS_size, ixS_size]
noncomputable def E27p (s : ByteArray) (i : Nat) (k c : ByteArray) (T : List AV) (k' c' : ByteArray) (ex : Ex) : Env := addLp (mkE LMp SMs) 5 (bodyOf Tryz.prog 27 5) (sumC (T27 s i 0) [nB k c, nB e0 e0] T [nB k c, nB k' c'] ex)
noncomputable def E12p (s : ByteArray) (i : Nat) (k c : ByteArray) (T : List AV) (k' c' : ByteArray) (ex : Ex) : Env := addLp (mkE LMp SMs) 7 (bodyOf Tryz.prog 12 7) (sumC (T12 s i 0) [nB k c, nB e0 e0] T [nB k c, nB k' c'] ex)
theorem envMp : EnvOK (mkE LMp SMs) := envMk LMp_ok SMs
noncomputable def ob27s (k c : ByteArray) (i : Nat) : List Prop := [decide ((2 : Int) = 1) = false, decide (2147483648 ≤ i) = false, k.size = 32, gd (beS k) = true, (pubS k).size + (ixS i).size ≤ 9223372036854775807, bodyOf Tryz.prog 27 5 = bodyOf Tryz.prog 27 5, (T27 (sfS k i) i 0, [nB k c, nB e0 e0]) = (T27 (sfS k i) i 0, [nB k c, nB e0 e0]), wfS (T27 (sfS k i) i 0) [nB k c, nB e0 e0] = true]
theorem eS (k c k' c' : ByteArray) (i : Nat) : callR (E27p (sfS k i) i k c T27r k' c' .ret) 1000 27 [.one (.i 2), node k c, u32 i] [false, false] = some (ob27s k c i, res k' c' 0) := by kernel_rfl
theorem eN (k c : ByteArray) (i : Nat) : callR (E27p (sfS k i) i k c T27x e0 e0 (.exit 0)) 1000 27 [.one (.i 2), node k c, u32 i] [false, false] = some (ob27s k c i, res e0 e0 3) := by kernel_rfl
noncomputable def ob12s (k c : ByteArray) (i : Nat) : List Prop := [decide ((2 : Int) = 1) = false, 1 + k.size ≤ 9223372036854775807, (zer1 ++ k).size + (ixS i).size ≤ 9223372036854775807, decide (i < 2147483648) = true, k.size = 32, (pubS k).size + (ixS i).size ≤ 9223372036854775807, bodyOf Tryz.prog 12 7 = bodyOf Tryz.prog 12 7, (T12 (sfS k i) i 0, [nB k c, nB e0 e0]) = (T12 (sfS k i) i 0, [nB k c, nB e0 e0]), wfS (T12 (sfS k i) i 0) [nB k c, nB e0 e0] = true]
theorem fS (k c k' c' : ByteArray) (i : Nat) : callR (E12p (sfS k i) i k c T12r k' c' .ret) 1000 12 [.one (.i 2), node k c, u32 i] [false, true] = some (ob12s k c i, res k' c' 0) := by kernel_rfl
theorem fN (k c : ByteArray) (i : Nat) : callR (E12p (sfS k i) i k c T12x e0 e0 (.exit 0)) 1000 12 [.one (.i 2), node k c, u32 i] [false, true] = some (ob12s k c i, res e0 e0 3) := by kernel_rfl
theorem gd_parts {z : Int} {k c : ByteArray} (h : mayB z k c = true) : z = 1 ∨ gd (beS k) = true := by
  unfold mayB at h
  simp only [Bool.and_eq_true, Bool.or_eq_true, decide_eq_true_eq] at h
  exact h.2.2.2
noncomputable def bgI (k : ByteArray) (i : Nat) : ByteArray := bif decide (2147483648 ≤ i) then hdS k i else sfS k i
noncomputable def noB (z : Int) (i : Nat) : Bool := decide (z = 1) && decide (i < 2147483648)
noncomputable def cK (z : Int) (k c : ByteArray) (i : Nat) : ByteArray := bif noB z i then e0 else chK z k c (bgI k i) (ixS i)
noncomputable def cC (z : Int) (k c : ByteArray) (i : Nat) : ByteArray := bif noB z i then e0 else chC z k c (bgI k i) (ixS i)
noncomputable def cE (z : Int) (k c : ByteArray) (i : Nat) : Int := bif noB z i then 10 else chE z k c (bgI k i) (ixS i)
noncomputable def resA (z : Int) (k c : ByteArray) (i : Nat) : AV := res (cK z k c i) (cC z k c i) (cE z k c i)
theorem resA_hard {z : Int} {k c : ByteArray} {i : Nat} (hi : 2147483648 ≤ i) : resA z k c i = res (chK z k c (hdS k i) (ixS i)) (chC z k c (hdS k i) (ixS i)) (chE z k c (hdS k i) (ixS i)) := by
  unfold resA cK cC cE
  rw [show noB z i = false by unfold noB; rw [decide_eq_false (show ¬ i < 2147483648 by omega), Bool.and_false], cond_false, cond_false, cond_false]
  rw [show bgI k i = hdS k i by unfold bgI; rw [decide_eq_true hi, cond_true]]
theorem resA_none {k c : ByteArray} {i : Nat} (hi : i < 2147483648) : resA 1 k c i = res e0 e0 10 := by
  unfold resA cK cC cE
  rw [show noB 1 i = true by unfold noB; rw [decide_eq_true hi]; rfl, cond_true, cond_true, cond_true]
theorem resA_soft {k c : ByteArray} {i : Nat} (hi : i < 2147483648) : resA 2 k c i = res (chK 2 k c (sfS k i) (ixS i)) (chC 2 k c (sfS k i) (ixS i)) (chE 2 k c (sfS k i) (ixS i)) := by
  unfold resA cK cC cE
  rw [show noB 2 i = false from rfl, cond_false, cond_false, cond_false]
  rw [show bgI k i = sfS k i by unfold bgI; rw [decide_eq_false (by omega), cond_false]]
theorem spec27a (z : Int) (k c : ByteArray) (i : Nat) (hz : z = 1 ∨ z = 2) (hm : mayB z k c = true) : Spec 27 [.one (.i z), node k c, u32 i] (resA z k c i) := by
  by_cases hi : 2147483648 ≤ i
  · rw [resA_hard hi]; exact spec27h z k c i hz hm hi
  · have hi : i < 2147483648 := by omega
    have hg := gd_parts hm
    obtain ⟨hk, hc, ha⟩ := may_parts hm
    have h3 := ixS_size i
    have h4 := pubS_size k
    have h5 := sfS_size k i
    rcases hz with rfl | rfl
    · rw [resA_none hi]
      exact spec_run envMs rfl (c0f k c i) ⟨by decide, decide_eq_true hi, trivial⟩ rfl rfl
    · have ha : beS k < modN 3 := ha.resolve_left (by omega)
      have hg : gd (beS k) = true := hg.resolve_left (by omega)
      rw [resA_soft hi]
      unfold chK chC chE
      rw [show decide ((2 : Int) = 1) = false from rfl, cond_false, cond_false, cond_false]
      cases hm : chl (beS k) c (ixS i) 8 (sfS k i) with
      | some r =>
        have hE : EnvOK (E27p (sfS k i) i k c T27r r.1 r.2 .ret) := envAddLp envMp (sumC_ok rfl (loop27s hk hc ha 8 0 _ r (by omega) (by omega) hm).loop)
        exact spec_run hE rfl (eS k c _ _ i) ⟨by decide, decide_eq_false (by omega), hk, hg, by omega, rfl, rfl, wf2 _ _ _ _ (by kernel_rfl), trivial⟩ rfl rfl
      | none =>
        have hE : EnvOK (E27p (sfS k i) i k c T27x e0 e0 (.exit 0)) := envAddLp envMp (sumC_ok rfl (loop27n hk hc ha 8 0 _ (by omega) (by omega) hm).loop)
        exact spec_run hE rfl (eN k c i) ⟨by decide, decide_eq_false (by omega), hk, hg, by omega, rfl, rfl, wf2 _ _ _ _ (by kernel_rfl), trivial⟩ rfl rfl
theorem spec12a (z : Int) (k c : ByteArray) (i : Nat) (hz : z = 1 ∨ z = 2) (hm : mayB z k c = true) : Spec 12 [.one (.i z), node k c, u32 i] (resA z k c i) := by
  by_cases hi : 2147483648 ≤ i
  · rw [resA_hard hi]; exact spec12h z k c i hz hm hi
  · have hi : i < 2147483648 := by omega
    obtain ⟨hk, hc, ha⟩ := may_parts hm
    have h1 := hd1_size hk
    have h3 := ixS_size i
    have h4 := pubS_size k
    have h5 := sfS_size k i
    rcases hz with rfl | rfl
    · rw [resA_none hi]
      exact spec_run envMs rfl (d0 k c i) ⟨by decide, decide_eq_true hi, trivial⟩ rfl rfl
    · have ha : beS k < modN 3 := ha.resolve_left (by omega)
      rw [resA_soft hi]
      unfold chK chC chE
      rw [show decide ((2 : Int) = 1) = false from rfl, cond_false, cond_false, cond_false]
      cases hm : chl (beS k) c (ixS i) 8 (sfS k i) with
      | some r =>
        have hE : EnvOK (E12p (sfS k i) i k c T12r r.1 r.2 .ret) := envAddLp envMp (sumC_ok rfl (loop12s hk hc ha 8 0 _ r (by omega) (by omega) hm).loop)
        exact spec_run hE rfl (fS k c _ _ i) ⟨by decide, by omega, by omega, decide_eq_true hi, hk, by omega, rfl, rfl, wf2 _ _ _ _ (by kernel_rfl), trivial⟩ rfl rfl
      | none =>
        have hE : EnvOK (E12p (sfS k i) i k c T12x e0 e0 (.exit 0)) := envAddLp envMp (sumC_ok rfl (loop12n hk hc ha 8 0 _ (by omega) (by omega) hm).loop)
        exact spec_run hE rfl (fN k c i) ⟨by decide, by omega, by omega, decide_eq_true hi, hk, by omega, rfl, rfl, wf2 _ _ _ _ (by kernel_rfl), trivial⟩ rfl rfl
noncomputable def fnCa (vs : List V1) : Option (List Prop × AV) := match vs with | [.one (.i z), .agg [.a (.v (.string k)), .a (.v (.string c))], .one (.u .u32 i)] => some ([z = 1 ∨ z = 2, mayB z k c = true], resA z k c i) | _ => none
theorem ct27a : CTok ⟨27, fnCa⟩ := by
  intro vs ob r h ho
  simp only [fnCa] at h
  split at h
  · simp only [Option.some.injEq, Prod.mk.injEq] at h
    obtain ⟨rfl, rfl⟩ := h
    obtain ⟨h1, h2, _⟩ := ho
    exact spec27a _ _ _ _ h1 h2
  · simp at h
theorem may_z {z : Int} {k c : ByteArray} (h : mayB z k c = true) : z = 1 ∨ z = 2 := by
  unfold mayB at h
  simp only [Bool.and_eq_true, Bool.or_eq_true, decide_eq_true_eq] at h
  exact h.1
noncomputable def LCa : List CT := ⟨27, fnCa⟩ :: LMy
theorem LCa_ok : AllCT LCa := ⟨ct27a, LMy_ok⟩
noncomputable def dK (z : Int) (k c : ByteArray) (i : Nat) : ByteArray := bif mayB z k c then cK z k c i else e0
noncomputable def dC (z : Int) (k c : ByteArray) (i : Nat) : ByteArray := bif mayB z k c then cC z k c i else e0
noncomputable def dE (z : Int) (k c : ByteArray) (i : Nat) : Int := bif mayB z k c then cE z k c i else 1
theorem s10y (z : Int) (k c : ByteArray) (i : Nat) : callR (mkE LCa SMs) 1000 10 [.one (.i z), node k c, u32 i] [true] = some ([mayB z k c = true, z = 1 ∨ z = 2, mayB z k c = true], resA z k c i) := by kernel_rfl
theorem s10n (z : Int) (k c : ByteArray) (i : Nat) : callR (mkE LCa SMs) 1000 10 [.one (.i z), node k c, u32 i] [false] = some ([mayB z k c = false], res e0 e0 1) := by kernel_rfl
noncomputable def fnCb (vs : List V1) : Option (List Prop × AV) := match vs with | [.one (.i z), .agg [.a (.v (.string k)), .a (.v (.string c))], .one (.u .u32 i)] => some ([], res (dK z k c i) (dC z k c i) (dE z k c i)) | _ => none
theorem ct10a : CTok ⟨10, fnCb⟩ := by
  intro vs ob r h ho
  simp only [fnCb] at h
  split at h
  · rename_i z k c i
    simp only [Option.some.injEq, Prod.mk.injEq] at h
    obtain ⟨rfl, rfl⟩ := h
    unfold dK dC dE
    cases hm : mayB z k c with
    | true =>
      rw [cond_true, cond_true, cond_true]
      exact spec_run (envMk LCa_ok SMs) rfl (s10y _ _ _ _) ⟨hm, may_z hm, hm, trivial⟩ rfl rfl
    | false =>
      rw [cond_false, cond_false, cond_false]
      exact spec_run (envMk LCa_ok SMs) rfl (s10n _ _ _ _) ⟨hm, trivial⟩ rfl rfl
  · simp at h
end Go.Ev.H5

namespace Go.Ev.H5
open Go Go.Proofs Go.RowKit
set_option maxRecDepth 100000
structure ChF where
  dk : Int → ByteArray → ByteArray → Nat → ByteArray
  dc : Int → ByteArray → ByteArray → Nat → ByteArray
  de : Int → ByteArray → ByteArray → Nat → Int
  ck : Int → ByteArray → ByteArray → Nat → ByteArray
  cc : Int → ByteArray → ByteArray → Nat → ByteArray
  ce : Int → ByteArray → ByteArray → Nat → Int
  b : Int → ByteArray → ByteArray → Bool
noncomputable def chF : ChF := ⟨dK, dC, dE, cK, cC, cE, mayB⟩
def fv10 (g : ChF) (vs : List V1) : Option (List Prop × AV) := match vs with | [.one (.i z), .agg [.a (.v (.string k)), .a (.v (.string c))], .one (.u .u32 i)] => some ([], res (g.dk z k c i) (g.dc z k c i) (g.de z k c i)) | _ => none
def fv12 (g : ChF) (vs : List V1) : Option (List Prop × AV) := match vs with | [.one (.i z), .agg [.a (.v (.string k)), .a (.v (.string c))], .one (.u .u32 i)] => some ([g.b z k c = true], res (g.ck z k c i) (g.cc z k c i) (g.ce z k c i)) | _ => none
def fv11 (g : ChF) (vs : List V1) : Option (List Prop × AV) := match vs with | [.one (.i z), .agg [.a (.v (.string k)), .a (.v (.string c))]] => some ([], bV (g.b z k c)) | _ => none
def LCv (g : ChF) : List CT := ⟨10, fv10 g⟩ :: ⟨12, fv12 g⟩ :: ⟨11, fv11 g⟩ :: ⟨14, cV (bV true)⟩ :: []
theorem ct10v : CTok ⟨10, fv10 chF⟩ := by
  intro vs ob r h ho
  simp only [fv10] at h
  split at h
  · simp only [Option.some.injEq, Prod.mk.injEq] at h
    obtain ⟨rfl, rfl⟩ := h
    exact ct10a _ _ _ rfl trivial
  · simp at h
theorem ct12v : CTok ⟨12, fv12 chF⟩ := by
  intro vs ob r h ho
  simp only [fv12] at h
  split at h
  · simp only [Option.some.injEq, Prod.mk.injEq] at h
    obtain ⟨rfl, rfl⟩ := h
    obtain ⟨h1, _⟩ := ho
    exact spec12a _ _ _ _ (may_z h1) h1
  · simp at h
theorem ct11v : CTok ⟨11, fv11 chF⟩ := by
  intro vs ob r h ho
  simp only [fv11] at h
  split at h
  · simp only [Option.some.injEq, Prod.mk.injEq] at h
    obtain ⟨rfl, rfl⟩ := h
    exact spec11k _ _ _
  · simp at h
theorem LCv_ok : AllCT (LCv chF) := ⟨ct10v, ct12v, ct11v, ctV wakes14, trivial⟩
end Go.Ev.H5

namespace Go.Ev.H5
open Go Go.Proofs Go.RowKit
set_option maxRecDepth 100000
structure DnF where
  jk : Int → ByteArray → ByteArray
  jc : Int → ByteArray → ByteArray
  je : Int → ByteArray → Int
  pk : Int → ByteArray → ByteArray
  pc : Int → ByteArray → ByteArray
  pe : Int → ByteArray → Int
def fvM (f : DnF) (vs : List V1) : Option (List Prop × AV) := match vs with | [.one (.i z), .one (.v (.string s))] => some ([], res (f.pk z s) (f.pc z s) (f.pe z s)) | _ => none
def fvP (f : DnF) (vs : List V1) : Option (List Prop × AV) := match vs with | [.one (.i z), .one (.v (.string s))] => some ([z = 1 ∨ z = 2, s.size ≤ 1000000], res (f.jk z s) (f.jc z s) (f.je z s)) | _ => none
def LDn (f : DnF) (g : ChF) (q : Nat → Nat) : List CT := ⟨22, fvM f⟩ :: ⟨16, fvP f⟩ :: ⟨27, fv12 g⟩ :: ⟨12, fv12 g⟩ :: ldO 32 (fun off => .one (.u .u32 (q off))) :: []
def SDn : FuncId → Nat → Bool := fun f t => match f with
  | 18 => memN t [21, 25, 22, 2000023, 33] | 21 => memN t [20, 23, 32, 2000033, 26, 38] | _ => false
noncomputable def EDn (f : DnF) (g : ChF) (q : Nat → Nat) : Env := mkE (LDn f g q) SDn
def T18d (z : Int) (m cap : Nat) (E j : Int) : List AV := slots 36 [(0, iV z), (6, pV 1), (8, pV 2), (9, iV E), (18, slN m cap), (19, iV (m : Int)), (20, iV j)]
def T18x (E : Int) : List AV := slots 36 [(6, pV 1), (8, pV 2), (9, iV E)]
def M18 (q : Nat → Nat) (N : Nat) (K C : ByteArray) : List Blk := [roB (qPs q N), nB e0 e0, nB K C]
def T21d (z : Int) (m cap : Nat) (E j : Int) : List AV := slots 42 [(0, iV z), (2, slN m cap), (6, pV 1), (8, pV 2), (9, iV E), (10, iV j)]
def T21x (E : Int) : List AV := slots 42 [(6, pV 1), (8, pV 2), (9, iV E)]
end Go.Ev.H5

namespace Go.Ev.H5
open Go Go.Proofs Go.RowKit
set_option maxRecDepth 100000
def ldP (q : Nat → Nat) (N j : Nat) : Prop := LoadsAs Tryz.prog 32 (qPs q N) (0 + j * 1) (.one (.u .u32 (q (0 + j * 1))))
def inJ (j m : Nat) : Prop := (0 : Int) ≤ (j : Int) ∧ (j : Int) < (m : Int)
theorem d18t (f : DnF) (g : ChF) (q : Nat → Nat) (z : Int) (m cap N : Nat) (K C : ByteArray) (j : Nat) : runTo (EDn f g q) 1000 ((EDn f g q).S 18) (bodyOf Tryz.prog 18 3) (T18d z m cap 0 (j : Int)) (M18 q N K C) [true, false] (T18d z m cap (g.ce z K C (q (0 + j * 1))) ((j : Int) + 1)) 3 =
    some ([decide ((j : Int) < (m : Int)) = true, inJ j m, ldP q N j, (!decide ((0 : Int) = 0)) = false, g.b z K C = true, inI ((j : Int) + 1)], .normal, T18d z m cap (g.ce z K C (q (0 + j * 1))) ((j : Int) + 1), M18 q N (g.ck z K C (q (0 + j * 1))) (g.cc z K C (q (0 + j * 1)))) := by kernel_rfl
theorem d18e (f : DnF) (g : ChF) (q : Nat → Nat) (z : Int) (m cap N : Nat) (K C : ByteArray) (E : Int) (j : Nat) : runTo (EDn f g q) 1000 ((EDn f g q).S 18) (bodyOf Tryz.prog 18 3) (T18d z m cap E (j : Int)) (M18 q N K C) [true, true] (T18x E) 3 =
    some ([decide ((j : Int) < (m : Int)) = true, inJ j m, ldP q N j, (!decide (E = 0)) = true], .exit 0, T18x E, M18 q N K C) := by kernel_rfl
theorem d18n (f : DnF) (g : ChF) (q : Nat → Nat) (z : Int) (m cap N : Nat) (K C : ByteArray) (E : Int) (j : Nat) : runTo (EDn f g q) 1000 ((EDn f g q).S 18) (bodyOf Tryz.prog 18 3) (T18d z m cap E (j : Int)) (M18 q N K C) [false] (T18x E) 3 =
    some ([decide ((j : Int) < (m : Int)) = false], .exit 0, T18x E, M18 q N K C) := by kernel_rfl
theorem d21t (f : DnF) (g : ChF) (q : Nat → Nat) (z : Int) (m cap N : Nat) (K C : ByteArray) (j : Nat) : runTo (EDn f g q) 1000 ((EDn f g q).S 21) (bodyOf Tryz.prog 21 3) (T21d z m cap 0 (j : Int)) (M18 q N K C) [true, true] (T21d z m cap (g.ce z K C (q (0 + j * 1))) ((j : Int) + 1)) 3 =
    some ([decide ((j : Int) < (m : Int)) = true, decide ((0 : Int) = 0) = true, inJ j m, ldP q N j, g.b z K C = true, inI ((j : Int) + 1)], .normal, T21d z m cap (g.ce z K C (q (0 + j * 1))) ((j : Int) + 1), M18 q N (g.ck z K C (q (0 + j * 1))) (g.cc z K C (q (0 + j * 1)))) := by kernel_rfl
theorem d21e (f : DnF) (g : ChF) (q : Nat → Nat) (z : Int) (m cap N : Nat) (K C : ByteArray) (E : Int) (j : Nat) : runTo (EDn f g q) 1000 ((EDn f g q).S 21) (bodyOf Tryz.prog 21 3) (T21d z m cap E (j : Int)) (M18 q N K C) [true, false] (T21x E) 3 =
    some ([decide ((j : Int) < (m : Int)) = true, decide (E = 0) = false], .exit 0, T21x E, M18 q N K C) := by kernel_rfl
theorem d21n (f : DnF) (g : ChF) (q : Nat → Nat) (z : Int) (m cap N : Nat) (K C : ByteArray) (E : Int) (j : Nat) : runTo (EDn f g q) 1000 ((EDn f g q).S 21) (bodyOf Tryz.prog 21 3) (T21d z m cap E (j : Int)) (M18 q N K C) [false] (T21x E) 3 =
    some ([decide ((j : Int) < (m : Int)) = false], .exit 0, T21x E, M18 q N K C) := by kernel_rfl
noncomputable def dn (z : Int) (q : Nat → Nat) : Nat → Nat → ByteArray → ByteArray → Int → ByteArray × ByteArray × Int
  | 0, _, K, C, E => (K, C, E)
  | d + 1, j, K, C, E => bif decide (E = 0) then dn z q d (j + 1) (cK z K C (q (0 + j * 1))) (cC z K C (q (0 + j * 1))) (cE z K C (q (0 + j * 1))) else (K, C, E)
theorem dn_zero (z : Int) (q : Nat → Nat) (j : Nat) (K C : ByteArray) (E : Int) : dn z q 0 j K C E = (K, C, E) := rfl
theorem dn_succ (z : Int) (q : Nat → Nat) (d j : Nat) (K C : ByteArray) (E : Int) : dn z q (d + 1) j K C E = bif decide (E = 0) then dn z q d (j + 1) (cK z K C (q (0 + j * 1))) (cC z K C (q (0 + j * 1))) (cE z K C (q (0 + j * 1))) else (K, C, E) := rfl
theorem cE_may {z : Int} {K C : ByteArray} {x : Nat} (hz : z = 1 ∨ z = 2) (hm : mayB z K C = true) (h : cE z K C x = 0) : mayB z (cK z K C x) (cC z K C x) = true := by
  unfold cE at h
  unfold cK cC
  cases hn : noB z x with
  | true => rw [hn, cond_true] at h; cases h
  | false =>
    rw [hn, cond_false] at h
    rw [cond_false, cond_false]
    exact ch_may hz hm h
theorem downs {y : Code} {e m : Nat} {T : Int → Int → List AV} {Tx : Int → List AV} {M : ByteArray → ByteArray → List Blk} {z : Int} {q : Nat → Nat} (hl : ∀ K C K' C', (M K C).length = (M K' C').length)
    (step : ∀ K C (j : Nat), j < m → mayB z K C = true → Goes Tryz.prog y .normal (T 0 (j : Int)) (M K C) (T (cE z K C (q (0 + j * 1))) ((j : Int) + 1)) (M (cK z K C (q (0 + j * 1))) (cC z K C (q (0 + j * 1)))))
    (xe : ∀ K C (E : Int) (j : Nat), j < m → E ≠ 0 → Goes Tryz.prog y (.exit e) (T E (j : Int)) (M K C) (Tx E) (M K C))
    (xn : ∀ K C (E : Int), Goes Tryz.prog y (.exit e) (T E (m : Int)) (M K C) (Tx E) (M K C)) :
    ∀ (d j : Nat) (K C : ByteArray) (E : Int), j + d = m → (E = 0 → mayB z K C = true) → GoesN Tryz.prog y (d + 1) (.exit e) (T E (j : Int)) (M K C) (Tx (dn z q d j K C E).2.2) (M (dn z q d j K C E).1 (dn z q d j K C E).2.1) := by
  intro d
  induction d with
  | zero =>
    intro j K C E hj _
    rw [dn_zero]
    have : j = m := by omega
    subst this
    exact GoesN.out (by simp) (xn K C E)
  | succ d ih =>
    intro j K C E hj hm
    rw [dn_succ]
    by_cases he : E = 0
    · subst he
      rw [decide_eq_true rfl, cond_true]
      have ih := ih (j + 1) (cK z K C (q (0 + j * 1))) (cC z K C (q (0 + j * 1))) (cE z K C (q (0 + j * 1))) (by omega) (fun h => cE_may (may_z (hm rfl)) (hm rfl) h)
      rw [show ((j + 1 : Nat) : Int) = (j : Int) + 1 by omega] at ih
      exact GoesN.cons (hl _ _ _ _) (step K C j (by omega) (hm rfl)) ih
    · rw [decide_eq_false he, cond_false]
      exact GoesN.out (by simp) (xe K C E j (by omega) he)
noncomputable def dnF : DnF := ⟨msK, msC, msE, fun z s => bif sdB z s then msK z s else e0, fun z s => bif sdB z s then msC z s else e0, fun z s => bif sdB z s then msE z s else 1⟩
theorem ct22d : CTok ⟨22, fvM dnF⟩ := by
  intro vs ob r h ho
  simp only [fvM] at h
  split at h
  · simp only [Option.some.injEq, Prod.mk.injEq] at h
    obtain ⟨rfl, rfl⟩ := h
    exact spec22 _ _
  · simp at h
theorem ct16d : CTok ⟨16, fvP dnF⟩ := by
  intro vs ob r h ho
  simp only [fvP] at h
  split at h
  · simp only [Option.some.injEq, Prod.mk.injEq] at h
    obtain ⟨rfl, rfl⟩ := h
    obtain ⟨h1, h2, _⟩ := ho
    exact spec16 _ _ h1 h2
  · simp at h
theorem ct27v : CTok ⟨27, fv12 chF⟩ := by
  intro vs ob r h ho
  simp only [fv12] at h
  split at h
  · simp only [Option.some.injEq, Prod.mk.injEq] at h
    obtain ⟨rfl, rfl⟩ := h
    obtain ⟨h1, _⟩ := ho
    exact spec27a _ _ _ _ (may_z h1) h1
  · simp at h
theorem LDn_ok (q : Nat → Nat) : AllCT (LDn dnF chF q) := ⟨ct22d, ct16d, ct27v, ct12v, ldO_ok _ _, trivial⟩
theorem envDn (q : Nat → Nat) : EnvOK (EDn dnF chF q) := envMk (LDn_ok q) SDn
theorem M18_free (q : Nat → Nat) (N : Nat) (K C : ByteArray) : ∀ b ∈ M18 q N K C, Free b := by
  intro b hb
  simp only [M18, List.mem_cons, List.not_mem_nil, or_false] at hb
  rcases hb with rfl | rfl | rfl
  · exact qPs_free _ _
  · exact nB_free _ _
  · exact nB_free _ _
theorem wf18 {q : Nat → Nat} {N : Nat} {K C : ByteArray} {t : Nat} {s : List (Nat × AV)} (h : tmsWf 3 (slots t s) = true) : wfS (slots t s) (M18 q N K C) = true := wfS_of (M18_free q N K C) h
theorem down18 {z : Int} {q : Nat → Nat} {m cap N : Nat} (hN : m ≤ N) (hb : m ≤ 1000000) (K C : ByteArray) (E : Int) (hm : E = 0 → mayB z K C = true) :
    Goes Tryz.prog (.loop (bodyOf Tryz.prog 18 3)) (.exit 0) (T18d z m cap E ((0 : Nat) : Int)) (M18 q N K C) (T18x (dn z q m 0 K C E).2.2) (M18 q N (dn z q m 0 K C E).1 (dn z q m 0 K C E).2.1) := by
  refine (downs (m := m) (M := M18 q N) (T := fun E j => T18d z m cap E j) (Tx := T18x) (fun _ _ _ _ => rfl) ?_ ?_ ?_ m 0 K C E (by omega) hm).loop
  · intro K C j hj h
    exact Runs.goes (envDn q) ⟨_, _, d18t dnF chF q z m cap N K C j, ⟨decide_eq_true (by omega), by unfold inJ; omega, ldQ (by omega), rfl, h, by unfold inI; omega, trivial⟩, wf18 (by kernel_rfl)⟩
  · intro K C E j hj h
    exact Runs.goes (envDn q) ⟨_, _, d18e dnF chF q z m cap N K C E j, ⟨decide_eq_true (by omega), by unfold inJ; omega, ldQ (by omega), by rw [decide_eq_false h]; rfl, trivial⟩, wf18 (by kernel_rfl)⟩
  · intro K C E
    exact Runs.goes (envDn q) ⟨_, _, d18n dnF chF q z m cap N K C E m, ⟨decide_eq_false (by omega), trivial⟩, wf18 (by kernel_rfl)⟩
theorem down21 {z : Int} {q : Nat → Nat} {m cap N : Nat} (hN : m ≤ N) (hb : m ≤ 1000000) (K C : ByteArray) (E : Int) (hm : E = 0 → mayB z K C = true) :
    Goes Tryz.prog (.loop (bodyOf Tryz.prog 21 3)) (.exit 0) (T21d z m cap E ((0 : Nat) : Int)) (M18 q N K C) (T21x (dn z q m 0 K C E).2.2) (M18 q N (dn z q m 0 K C E).1 (dn z q m 0 K C E).2.1) := by
  refine (downs (m := m) (M := M18 q N) (T := fun E j => T21d z m cap E j) (Tx := T21x) (fun _ _ _ _ => rfl) ?_ ?_ ?_ m 0 K C E (by omega) hm).loop
  · intro K C j hj h
    exact Runs.goes (envDn q) ⟨_, _, d21t dnF chF q z m cap N K C j, ⟨decide_eq_true (by omega), rfl, by unfold inJ; omega, ldQ (by omega), h, by unfold inI; omega, trivial⟩, wf18 (by kernel_rfl)⟩
  · intro K C E j hj h
    exact Runs.goes (envDn q) ⟨_, _, d21e dnF chF q z m cap N K C E j, ⟨decide_eq_true (by omega), decide_eq_false h, trivial⟩, wf18 (by kernel_rfl)⟩
  · intro K C E
    exact Runs.goes (envDn q) ⟨_, _, d21n dnF chF q z m cap N K C E m, ⟨decide_eq_false (by omega), trivial⟩, wf18 (by kernel_rfl)⟩
end Go.Ev.H5

namespace Go.Ev.H5
open Go Go.Proofs Go.RowKit
set_option maxRecDepth 100000
noncomputable def E18d (f : DnF) (g : ChF) (q : Nat → Nat) (z : Int) (m cap N : Nat) (K C K' C' : ByteArray) (E E' : Int) : Env := addLp (EDn f g q) 3 (bodyOf Tryz.prog 18 3) (sumC (T18d z m cap E 0) (M18 q N K C) (T18x E') (M18 q N K' C') (.exit 0))
noncomputable def E21d (f : DnF) (g : ChF) (q : Nat → Nat) (z : Int) (m cap N : Nat) (K C K' C' : ByteArray) (E E' : Int) : Env := addLp (EDn f g q) 3 (bodyOf Tryz.prog 21 3) (sumC (T21d z m cap E 0) (M18 q N K C) (T21x E') (M18 q N K' C') (.exit 0))
theorem r18 (f : DnF) (g : ChF) (q : Nat → Nat) (z : Int) (s : ByteArray) (m cap N : Nat) (K' C' : ByteArray) (E' : Int) : dropM (callBy (E18d f g q z m cap N (f.pk z s) (f.pc z s) K' C' (f.pe z s) E') (evalC (E18d f g q z m cap N (f.pk z s) (f.pc z s) K' C' (f.pe z s) E') 1000) 18 [.one (.i z), sS s, .one (.sl 0 0 m cap)] [roB (qPs q N)] []) =
    some ([bodyOf Tryz.prog 18 3 = bodyOf Tryz.prog 18 3, (T18d z m cap (f.pe z s) 0, M18 q N (f.pk z s) (f.pc z s)) = (T18d z m cap (f.pe z s) 0, M18 q N (f.pk z s) (f.pc z s)), wfS (T18d z m cap (f.pe z s) 0) (M18 q N (f.pk z s) (f.pc z s)) = true], res K' C' E') := by kernel_rfl
theorem r21y (f : DnF) (g : ChF) (q : Nat → Nat) (z : Int) (s : ByteArray) (m cap N : Nat) (K' C' : ByteArray) (E' : Int) : dropM (callBy (E21d f g q z m cap N (f.jk z s) (f.jc z s) K' C' (f.je z s) E') (evalC (E21d f g q z m cap N (f.jk z s) (f.jc z s) K' C' (f.je z s) E') 1000) 21 [.one (.i z), sS s, .one (.sl 0 0 m cap)] [roB (qPs q N)] [false]) =
    some ([z = 1 ∨ z = 2, s.size ≤ 1000000, bodyOf Tryz.prog 21 3 = bodyOf Tryz.prog 21 3, (T21d z m cap (f.je z s) 0, M18 q N (f.jk z s) (f.jc z s)) = (T21d z m cap (f.je z s) 0, M18 q N (f.jk z s) (f.jc z s)), wfS (T21d z m cap (f.je z s) 0) (M18 q N (f.jk z s) (f.jc z s)) = true, (!decide (E' = 0)) = false], res K' C' 0) := by kernel_rfl
theorem r21n (f : DnF) (g : ChF) (q : Nat → Nat) (z : Int) (s : ByteArray) (m cap N : Nat) (K' C' : ByteArray) (E' : Int) : dropM (callBy (E21d f g q z m cap N (f.jk z s) (f.jc z s) K' C' (f.je z s) E') (evalC (E21d f g q z m cap N (f.jk z s) (f.jc z s) K' C' (f.je z s) E') 1000) 21 [.one (.i z), sS s, .one (.sl 0 0 m cap)] [roB (qPs q N)] [true]) =
    some ([z = 1 ∨ z = 2, s.size ≤ 1000000, bodyOf Tryz.prog 21 3 = bodyOf Tryz.prog 21 3, (T21d z m cap (f.je z s) 0, M18 q N (f.jk z s) (f.jc z s)) = (T21d z m cap (f.je z s) 0, M18 q N (f.jk z s) (f.jc z s)), wfS (T21d z m cap (f.je z s) 0) (M18 q N (f.jk z s) (f.jc z s)) = true, (!decide (E' = 0)) = true], res e0 e0 E') := by kernel_rfl
theorem ms_err {z : Int} {s : ByteArray} (h : msE z s ≠ 0) : msK z s = e0 ∧ msC z s = e0 := by
  unfold msE at h
  unfold msK msC
  cases hz : decide (z = 1) with
  | true => rw [hz, cond_true] at h; exact absurd rfl h
  | false =>
    rw [hz, cond_false] at h
    rw [cond_false, cond_false]
    cases hm : mst wP 8 s with
    | some r => rw [hm] at h; exact absurd rfl h
    | none => exact ⟨rfl, rfl⟩
theorem c_err {z : Int} {K C : ByteArray} {x : Nat} (h : cE z K C x ≠ 0) : cK z K C x = e0 ∧ cC z K C x = e0 := by
  unfold cE at h
  unfold cK cC
  cases hn : noB z x with
  | true => exact ⟨by rw [cond_true], by rw [cond_true]⟩
  | false =>
    rw [hn, cond_false] at h
    rw [cond_false, cond_false]
    unfold chE at h
    unfold chK chC
    cases hz : decide (z = 1) with
    | true => rw [hz, cond_true] at h; exact absurd rfl h
    | false =>
      rw [hz, cond_false] at h
      rw [cond_false, cond_false]
      cases hm : chl (beS K) C (ixS x) 8 (bgI K x) with
      | some r => rw [hm] at h; exact absurd rfl h
      | none => exact ⟨rfl, rfl⟩
theorem dn_err {z : Int} {q : Nat → Nat} : ∀ (d j : Nat) (K C : ByteArray) (E : Int), (E ≠ 0 → K = e0 ∧ C = e0) → (dn z q d j K C E).2.2 ≠ 0 → (dn z q d j K C E).1 = e0 ∧ (dn z q d j K C E).2.1 = e0 := by
  intro d
  induction d with
  | zero => intro j K C E h; rw [dn_zero]; exact h
  | succ d ih =>
    intro j K C E h
    rw [dn_succ]
    by_cases he : E = 0
    · rw [decide_eq_true he, cond_true]
      exact ih _ _ _ _ c_err
    · rw [decide_eq_false he, cond_false]
      exact h
theorem dn_may {z : Int} {q : Nat → Nat} : ∀ (d j : Nat) (K C : ByteArray) (E : Int), (E = 0 → mayB z K C = true) → (dn z q d j K C E).2.2 = 0 → mayB z (dn z q d j K C E).1 (dn z q d j K C E).2.1 = true := by
  intro d
  induction d with
  | zero => intro j K C E h; rw [dn_zero]; exact h
  | succ d ih =>
    intro j K C E h
    rw [dn_succ]
    by_cases he : E = 0
    · rw [decide_eq_true he, cond_true]
      exact ih _ _ _ _ (fun h' => cE_may (may_z (h he)) (h he) h')
    · rw [decide_eq_false he, cond_false]
      exact h
theorem ro_of {mem : List Blk} {b : Nat} {k : Blk} {w0 w : World} {φ : Loc} {q : Nat → Nat} {N : Nat} (hm : MRel w0 φ mem w) (hb : mem[b]? = some k) (hl : k.live = true) (hps : k.ps = qPs q N) : MRel w (fun _ => φ b) [roB (qPs q N)] w := by
  refine MRel.ofRo (Below.refl _ _) ?_ ?_ ?_
  · intro i x hx
    match i, hx with
    | 0, hx => simp only [List.getElem?_cons_zero, Option.some.injEq] at hx; subst hx; rfl
    | i + 1, hx => simp at hx
  · intro i x hx
    match i, hx with
    | 0, hx =>
      simp only [List.getElem?_cons_zero, Option.some.injEq] at hx; subst hx
      refine ⟨hm.lt hb hl, fun j v hv => ?_⟩
      have hv : (concs (fun _ => φ b) (qPs q N))[j]? = some v := hv
      have e2 : concs (fun _ => φ b) (qPs q N) = concs φ (qPs q N) := concs_agree (n := 0) (fun i hi => absurd hi (Nat.not_lt_zero _)) _ (row_free _ _ _ _ _)
      rw [e2, ← hps] at hv
      exact hm.cell hb hl hv
    | i + 1, hx => simp at hx
  · simp only [memWf, Bool.and_true]
    exact row_free _ _ _ _ _
noncomputable def pK (z : Int) (s : ByteArray) : ByteArray := bif sdB z s then msK z s else e0
noncomputable def pC (z : Int) (s : ByteArray) : ByteArray := bif sdB z s then msC z s else e0
noncomputable def pE (z : Int) (s : ByteArray) : Int := bif sdB z s then msE z s else 1
theorem sd_z {z : Int} {s : ByteArray} (h : sdB z s = true) : z = 1 ∨ z = 2 := by
  unfold sdB at h
  simp only [Bool.and_eq_true, Bool.or_eq_true, decide_eq_true_eq] at h
  exact h.1
theorem p_may {z : Int} {s : ByteArray} (h : pE z s = 0) : mayB z (pK z s) (pC z s) = true := by
  unfold pE at h
  unfold pK pC
  cases hs : sdB z s with
  | true =>
    rw [hs, cond_true] at h
    rw [cond_true, cond_true]
    exact ms_may (sd_z hs) h
  | false => rw [hs, cond_false] at h; cases h
def resT (t : ByteArray × ByteArray × Int) : AV := res t.1 t.2.1 t.2.2
theorem calls18 {z : Int} {s : ByteArray} {q : Nat → Nat} {m cap N : Nat} (hN : m ≤ N) (hb : m ≤ 1000000) {w : World} {φ : Loc} (hm : MRel w φ [roB (qPs q N)] w) :
    Calls Tryz.prog 18 (([.one (.i z), sS s, .one (.sl 0 0 m cap)] : List V1).map (V1.conc φ)).toArray w fun e w' => e = .returned ((resT (dn z q m 0 (pK z s) (pC z s) (pE z s))).conc φ) ∧ Below w.heap.size w w' := by
  obtain ⟨c', m', h'⟩ := dropM_some (r18 dnF chF q z s m cap N (dn z q m 0 (pK z s) (pC z s) (pE z s)).1 (dn z q m 0 (pK z s) (pC z s) (pE z s)).2.1 (dn z q m 0 (pK z s) (pC z s) (pE z s)).2.2)
  have hE : EnvOK (E18d dnF chF q z m cap N (pK z s) (pC z s) (dn z q m 0 (pK z s) (pC z s) (pE z s)).1 (dn z q m 0 (pK z s) (pC z s) (pE z s)).2.1 (pE z s) (dn z q m 0 (pK z s) (pC z s) (pE z s)).2.2) := envAddLp (envDn q) (sumC_ok rfl (down18 (cap := cap) hN hb (pK z s) (pC z s) (pE z s) p_may))
  exact calls_of_run hE rfl h' ⟨rfl, rfl, wf18 (by kernel_rfl), trivial⟩ rfl hm (by
    intro v hv
    simp only [List.mem_cons, List.not_mem_nil, or_false] at hv
    rcases hv with rfl | rfl | rfl <;> rfl)
theorem calls21 {z : Int} {s : ByteArray} {q : Nat → Nat} {m cap N : Nat} (hN : m ≤ N) (hb : m ≤ 1000000) (hz : z = 1 ∨ z = 2) (hs : s.size ≤ 1000000) {w : World} {φ : Loc} (hm : MRel w φ [roB (qPs q N)] w) :
    Calls Tryz.prog 21 (([.one (.i z), sS s, .one (.sl 0 0 m cap)] : List V1).map (V1.conc φ)).toArray w fun e w' => e = .returned ((resT (dn z q m 0 (msK z s) (msC z s) (msE z s))).conc φ) ∧ Below w.heap.size w w' := by
  have hE : EnvOK (E21d dnF chF q z m cap N (msK z s) (msC z s) (dn z q m 0 (msK z s) (msC z s) (msE z s)).1 (dn z q m 0 (msK z s) (msC z s) (msE z s)).2.1 (msE z s) (dn z q m 0 (msK z s) (msC z s) (msE z s)).2.2) := envAddLp (envDn q) (sumC_ok rfl (down21 (cap := cap) hN hb (msK z s) (msC z s) (msE z s) (ms_may hz)))
  have hv : ∀ v ∈ ([.one (.i z), sS s, .one (.sl 0 0 m cap)] : List V1), v.wf [roB (qPs q N)].length = true := by
    intro v hv
    simp only [List.mem_cons, List.not_mem_nil, or_false] at hv
    rcases hv with rfl | rfl | rfl <;> rfl
  by_cases he : (dn z q m 0 (msK z s) (msC z s) (msE z s)).2.2 = 0
  · obtain ⟨c', m', h'⟩ := dropM_some (r21y dnF chF q z s m cap N (dn z q m 0 (msK z s) (msC z s) (msE z s)).1 (dn z q m 0 (msK z s) (msC z s) (msE z s)).2.1 (dn z q m 0 (msK z s) (msC z s) (msE z s)).2.2)
    have := calls_of_run hE rfl h' ⟨hz, hs, rfl, rfl, wf18 (by kernel_rfl), by rw [decide_eq_true he]; rfl, trivial⟩ rfl hm hv
    unfold resT
    rw [he]
    exact this
  · obtain ⟨c', m', h'⟩ := dropM_some (r21n dnF chF q z s m cap N (dn z q m 0 (msK z s) (msC z s) (msE z s)).1 (dn z q m 0 (msK z s) (msC z s) (msE z s)).2.1 (dn z q m 0 (msK z s) (msC z s) (msE z s)).2.2)
    have := calls_of_run hE rfl h' ⟨hz, hs, rfl, rfl, wf18 (by kernel_rfl), by rw [decide_eq_false he]; rfl, trivial⟩ rfl hm hv
    unfold resT
    obtain ⟨e1, e2⟩ := dn_err m 0 (msK z s) (msC z s) (msE z s) ms_err he
    rw [e1, e2]
    exact this
end Go.Ev.H5

namespace Go.Ev.H5
open Go Go.Proofs Go.RowKit
set_option maxRecDepth 100000
def inB (i m : Nat) : Prop := (0 : Int) ≤ (i : Int) ∧ (i : Int) < (m : Int)
end Go.Ev.H5

namespace Go.Ev.H5
open Go Go.Proofs Go.RowKit
set_option maxRecDepth 100000
theorem inB_ok {i m : Nat} (h : i < m) : inB i m := by unfold inB; omega
end Go.Ev.H5

namespace Go.Ev.H5
open Go Go.Proofs Go.RowKit
set_option maxRecDepth 100000
structure DwF where
  ak : Int → ByteArray → Nat → ByteArray
  ac : Int → ByteArray → Nat → ByteArray
  ae : Int → ByteArray → Nat → Int
  bk : Int → ByteArray → Nat → ByteArray
  bc : Int → ByteArray → Nat → ByteArray
  be : Int → ByteArray → Nat → Int
def fmV (h : DwF) (q : Nat → Nat) (N : Nat) : FuncId → List V1 → List (Option Blk) → Option (List Prop × AV) := fun f vs bs => match f with
  | 18 => (match vs, bs with
    | [.one (.i z), .one (.v (.string s)), .one (.sl _ 0 m _)], [_, _, some k] => some ([k.live = true, k.ps = qPs q N, m ≤ N, m ≤ 1000000], res (h.ak z s m) (h.ac z s m) (h.ae z s m))
    | _, _ => none)
  | 21 => (match vs, bs with
    | [.one (.i z), .one (.v (.string s)), .one (.sl _ 0 m _)], [_, _, some k] => some ([k.live = true, k.ps = qPs q N, m ≤ N, m ≤ 1000000, z = 1 ∨ z = 2, s.size ≤ 1000000], res (h.bk z s m) (h.bc z s m) (h.be z s m))
    | _, _ => none)
  | _ => none
def cvB (z : Int) : Bool := decide (z = 1) || decide (z = 2)
def szB (s : ByteArray) : Bool := !decide (s.size < 16) && !decide (64 < s.size)
def fn19 (vs : List V1) : Option (List Prop × AV) := match vs with | [.one (.i z)] => some ([], bV (cvB z)) | _ => none
def fn20 (vs : List V1) : Option (List Prop × AV) := match vs with | [.one (.v (.string s))] => some ([], bV (szB s)) | _ => none
def fn13 (vs : List V1) : Option (List Prop × AV) := match vs with | [.one (.i z)] => some ([], iV z) | _ => none
noncomputable def L7d (f : DnF) (g : ChF) (q : Nat → Nat) : List CT := ⟨13, fn13⟩ :: ⟨22, fvM f⟩ :: ⟨19, fn19⟩ :: ⟨20, fn20⟩ :: ldO 32 (fun off => .one (.u .u32 (q off))) :: LCv g
def S7d : FuncId → Nat → Bool := fun f t => match f with
  | 7 => memN t [13, 17, 20, 22, 23, 26, 31, 33, 37, 42, 52, 55, 59, 62, 67, 72, 82, 86, 91, 96, 105, 109, 112, 116, 122, 2000123, 131, 135, 139, 144, 148, 152] | _ => false
noncomputable def E7d (f : DnF) (g : ChF) (h : DwF) (q : Nat → Nat) (N : Nat) : Env := addM' (mkE (L7d f g q) S7d) (fmV h q N)
def TD (len cap : Nat) (i : Int) : List AV := slots 160 [(0, slN len cap), (3, iV i)]
def TDx (len cap : Nat) : List AV := slots 160 [(0, slN len cap)]
def TDl (len cap : Nat) (i : Int) (b m cp : Nat) (e E j : Int) : List AV := slots 160 [(0, slN len cap), (3, iV i), (4, .val (.one (.sl b 0 m cp))), (5, pV 5), (6, iV e), (9, pV 7), (10, iV E), (11, iV j)]
def TDm (len cap : Nat) (i : Int) (e E : Int) : List AV := slots 160 [(0, slN len cap), (3, iV i), (5, pV 5), (6, iV e), (9, pV 7), (10, iV E)]
end Go.Ev.H5

namespace Go.Ev.H5
open Go Go.Proofs Go.RowKit
set_option maxRecDepth 100000
abbrev zI (c : Cells) (i : Nat) : Int := zA c (i * 5)
abbrev sI (c : Cells) (i : Nat) : ByteArray := sA c (i * 5 + 1)
def fmO (q : Nat → Nat) (m N : Nat) : List Prop := [true = true, qPs q N = qPs q N, m ≤ N, m ≤ 1000000]
def pgO (z : Int) (s : ByteArray) : List Prop := [z = 1 ∨ z = 2, s.size ≤ 1000000]
def eqO (K C : ByteArray) (E : Int) (K' C' : ByteArray) (E' : Int) : List Prop := [(!decide (E = E')) = false, (!eqS K C K' C') = false]
def enO (E' e : Int) (i : Nat) : List Prop := [(!decide (E' = e)) = false, decide (e = 0) = false, decide (e = 0) = false, inI ((i : Int) + 1)]
def ezO (g : ChF) (z : Int) (K' C' K C : ByteArray) (E' e : Int) (i m : Nat) : List Prop := [(!decide (E' = e)) = false, decide (e = 0) = true, (!eqS K' C' K C) = false, decide (e = 0) = true, inB i m, g.b z K C = true, inI ((i : Int) + 1)]
theorem dl0t (f : DnF) (g : ChF) (h : DwF) (c : Cells) (len cap m N cp : Nat) (e : Int) (a : Atom) (xs : Nat → Atom) (q : Nat → Nat) (p2 p3 p4 : List Piece) (A B A' B' K C : ByteArray) (j : Nat) : runTo (E7d f g h q N) 1000 ((E7d f g h q N).S 7) (bodyOf Tryz.prog 7 17) (TDl (len + 1) cap 0 1 m cp e 0 (j : Int)) (MR c (xsW 0 a xs) (len + 1) (qPs q N) p2 p3 p4 ++ [nB A B, nB A' B', nB K C]) [true, true] (TDl (len + 1) cap 0 1 m cp e (g.de (zI c 0) K C (q (0 + j * 1))) ((j : Int) + 1)) 8 =
    some ([decide ((j : Int) < (m : Int)) = true, decide ((0 : Int) = 0) = true, inB 0 (len + 1), inJ j m, ldP q N j, inI ((j : Int) + 1)], .normal, TDl (len + 1) cap 0 1 m cp e (g.de (zI c 0) K C (q (0 + j * 1))) ((j : Int) + 1), MR c (xsW 0 a xs) (len + 1) (qPs q N) p2 p3 p4 ++ [nB A B, nB A' B', nB (g.dk (zI c 0) K C (q (0 + j * 1))) (g.dc (zI c 0) K C (q (0 + j * 1)))]) := by kernel_rfl
theorem dl0e (f : DnF) (g : ChF) (h : DwF) (c : Cells) (len cap m N cp : Nat) (e : Int) (a : Atom) (xs : Nat → Atom) (q : Nat → Nat) (p2 p3 p4 : List Piece) (A B A' B' K C : ByteArray) (E : Int) (j : Nat) : runTo (E7d f g h q N) 1000 ((E7d f g h q N).S 7) (bodyOf Tryz.prog 7 17) (TDl (len + 1) cap 0 1 m cp e E (j : Int)) (MR c (xsW 0 a xs) (len + 1) (qPs q N) p2 p3 p4 ++ [nB A B, nB A' B', nB K C]) [true, false] (TDm (len + 1) cap 0 e E) 8 =
    some ([decide ((j : Int) < (m : Int)) = true, decide (E = 0) = false], .exit 2, TDm (len + 1) cap 0 e E, MR c (xsW 0 a xs) (len + 1) (qPs q N) p2 p3 p4 ++ [nB A B, nB A' B', nB K C]) := by kernel_rfl
theorem dl0n (f : DnF) (g : ChF) (h : DwF) (c : Cells) (len cap m N cp : Nat) (e : Int) (a : Atom) (xs : Nat → Atom) (q : Nat → Nat) (p2 p3 p4 : List Piece) (A B A' B' K C : ByteArray) (E : Int) (j : Nat) : runTo (E7d f g h q N) 1000 ((E7d f g h q N).S 7) (bodyOf Tryz.prog 7 17) (TDl (len + 1) cap 0 1 m cp e E (j : Int)) (MR c (xsW 0 a xs) (len + 1) (qPs q N) p2 p3 p4 ++ [nB A B, nB A' B', nB K C]) [false] (TDm (len + 1) cap 0 e E) 8 =
    some ([decide ((j : Int) < (m : Int)) = false], .exit 2, TDm (len + 1) cap 0 e E, MR c (xsW 0 a xs) (len + 1) (qPs q N) p2 p3 p4 ++ [nB A B, nB A' B', nB K C]) := by kernel_rfl
theorem dt0sa (f : DnF) (g : ChF) (h : DwF) (c : Cells) (len cap N cp : Nat) (xs : Nat → Atom) (q : Nat → Nat) (p2 p3 p4 : List Piece) (K' C' : ByteArray) (E' : Int) : runTo (addLp (E7d f g h q N) 17 (bodyOf Tryz.prog 7 17) (sumC (TDl (len + 1) cap 0 1 N cp (h.ae (zI c 0) (sI c 0) N) (f.pe (zI c 0) (sI c 0)) 0) (MR c (xsW 0 (.sl 1 0 N cp) xs) (len + 1) (qPs q N) p2 p3 p4 ++ [nB (h.ak (zI c 0) (sI c 0) N) (h.ac (zI c 0) (sI c 0) N), nB (h.bk (zI c 0) (sI c 0) N) (h.bc (zI c 0) (sI c 0) N), nB (f.pk (zI c 0) (sI c 0)) (f.pc (zI c 0) (sI c 0))]) (TDm (len + 1) cap 0 (h.ae (zI c 0) (sI c 0) N) E') (MR c (xsW 0 (.sl 1 0 N cp) xs) (len + 1) (qPs q N) p2 p3 p4 ++ [nB (h.ak (zI c 0) (sI c 0) N) (h.ac (zI c 0) (sI c 0) N), nB (h.bk (zI c 0) (sI c 0) N) (h.bc (zI c 0) (sI c 0) N), nB K' C']) (.exit 2))) 1000 ((E7d f g h q N).S 7) (bodyOf Tryz.prog 7 4) (TD (len + 1) cap 0) (MR c (xsW 0 (.sl 1 0 N cp) xs) (len + 1) (qPs q N) p2 p3 p4) [true, true, false, true, true, false, false, false, true, false, true, true] (TD (len + 1) cap 1) 5 =
    some ([decide ((0 : Int) < (((len + 1) : Nat) : Int)) = true, decide ((0 : Int) < 2) = true, inB 0 (len + 1), decide ((3 : Int) < (N : Int)) = false] ++ [inB 0 (len + 1), inB 0 (len + 1)] ++ fmO q N N ++ [inB 0 (len + 1), cvB (zI c 0) = true] ++ [inB 0 (len + 1), szB (sI c 0) = true] ++ [inB 0 (len + 1), inB 0 (len + 1)] ++ fmO q N N ++ pgO (zI c 0) (sI c 0) ++ eqO (h.ak (zI c 0) (sI c 0) N) (h.ac (zI c 0) (sI c 0) N) (h.ae (zI c 0) (sI c 0) N) (h.bk (zI c 0) (sI c 0) N) (h.bc (zI c 0) (sI c 0) N) (h.be (zI c 0) (sI c 0) N) ++ [inB 0 (len + 1), inB 0 (len + 1), bodyOf Tryz.prog 7 17 = bodyOf Tryz.prog 7 17, (TDl (len + 1) cap 0 1 N cp (h.ae (zI c 0) (sI c 0) N) (f.pe (zI c 0) (sI c 0)) 0, MR c (xsW 0 (.sl 1 0 N cp) xs) (len + 1) (qPs q N) p2 p3 p4 ++ [nB (h.ak (zI c 0) (sI c 0) N) (h.ac (zI c 0) (sI c 0) N), nB (h.bk (zI c 0) (sI c 0) N) (h.bc (zI c 0) (sI c 0) N), nB (f.pk (zI c 0) (sI c 0)) (f.pc (zI c 0) (sI c 0))]) = (TDl (len + 1) cap 0 1 N cp (h.ae (zI c 0) (sI c 0) N) (f.pe (zI c 0) (sI c 0)) 0, MR c (xsW 0 (.sl 1 0 N cp) xs) (len + 1) (qPs q N) p2 p3 p4 ++ [nB (h.ak (zI c 0) (sI c 0) N) (h.ac (zI c 0) (sI c 0) N), nB (h.bk (zI c 0) (sI c 0) N) (h.bc (zI c 0) (sI c 0) N), nB (f.pk (zI c 0) (sI c 0)) (f.pc (zI c 0) (sI c 0))]), wfS (TDl (len + 1) cap 0 1 N cp (h.ae (zI c 0) (sI c 0) N) (f.pe (zI c 0) (sI c 0)) 0) (MR c (xsW 0 (.sl 1 0 N cp) xs) (len + 1) (qPs q N) p2 p3 p4 ++ [nB (h.ak (zI c 0) (sI c 0) N) (h.ac (zI c 0) (sI c 0) N), nB (h.bk (zI c 0) (sI c 0) N) (h.bc (zI c 0) (sI c 0) N), nB (f.pk (zI c 0) (sI c 0)) (f.pc (zI c 0) (sI c 0))]) = true] ++ ezO g (zI c 0) K' C' (h.ak (zI c 0) (sI c 0) N) (h.ac (zI c 0) (sI c 0) N) E' (h.ae (zI c 0) (sI c 0) N) 0 (len + 1), .normal, TD (len + 1) cap 1, MR c (xsW 0 (.sl 1 0 N cp) xs) (len + 1) (qPs q N) p2 p3 p4) := by kernel_rfl
theorem dt0sb (f : DnF) (g : ChF) (h : DwF) (c : Cells) (len cap N cp : Nat) (xs : Nat → Atom) (q : Nat → Nat) (p2 p3 p4 : List Piece) (K' C' : ByteArray) (E' : Int) : runTo (addLp (E7d f g h q N) 17 (bodyOf Tryz.prog 7 17) (sumC (TDl (len + 1) cap 0 1 N cp (h.ae (zI c 0) (sI c 0) N) (f.pe (zI c 0) (sI c 0)) 0) (MR c (xsW 0 (.sl 1 0 N cp) xs) (len + 1) (qPs q N) p2 p3 p4 ++ [nB (h.ak (zI c 0) (sI c 0) N) (h.ac (zI c 0) (sI c 0) N), nB (h.bk (zI c 0) (sI c 0) N) (h.bc (zI c 0) (sI c 0) N), nB (f.pk (zI c 0) (sI c 0)) (f.pc (zI c 0) (sI c 0))]) (TDm (len + 1) cap 0 (h.ae (zI c 0) (sI c 0) N) E') (MR c (xsW 0 (.sl 1 0 N cp) xs) (len + 1) (qPs q N) p2 p3 p4 ++ [nB (h.ak (zI c 0) (sI c 0) N) (h.ac (zI c 0) (sI c 0) N), nB (h.bk (zI c 0) (sI c 0) N) (h.bc (zI c 0) (sI c 0) N), nB K' C']) (.exit 2))) 1000 ((E7d f g h q N).S 7) (bodyOf Tryz.prog 7 4) (TD (len + 1) cap 0) (MR c (xsW 0 (.sl 1 0 N cp) xs) (len + 1) (qPs q N) p2 p3 p4) [true, true, false, true, true, false, false, false, false, false] (TD (len + 1) cap 1) 5 =
    some ([decide ((0 : Int) < (((len + 1) : Nat) : Int)) = true, decide ((0 : Int) < 2) = true, inB 0 (len + 1), decide ((3 : Int) < (N : Int)) = false] ++ [inB 0 (len + 1), inB 0 (len + 1)] ++ fmO q N N ++ [inB 0 (len + 1), cvB (zI c 0) = true] ++ [inB 0 (len + 1), szB (sI c 0) = true] ++ [inB 0 (len + 1), inB 0 (len + 1)] ++ fmO q N N ++ pgO (zI c 0) (sI c 0) ++ eqO (h.ak (zI c 0) (sI c 0) N) (h.ac (zI c 0) (sI c 0) N) (h.ae (zI c 0) (sI c 0) N) (h.bk (zI c 0) (sI c 0) N) (h.bc (zI c 0) (sI c 0) N) (h.be (zI c 0) (sI c 0) N) ++ [inB 0 (len + 1), inB 0 (len + 1), bodyOf Tryz.prog 7 17 = bodyOf Tryz.prog 7 17, (TDl (len + 1) cap 0 1 N cp (h.ae (zI c 0) (sI c 0) N) (f.pe (zI c 0) (sI c 0)) 0, MR c (xsW 0 (.sl 1 0 N cp) xs) (len + 1) (qPs q N) p2 p3 p4 ++ [nB (h.ak (zI c 0) (sI c 0) N) (h.ac (zI c 0) (sI c 0) N), nB (h.bk (zI c 0) (sI c 0) N) (h.bc (zI c 0) (sI c 0) N), nB (f.pk (zI c 0) (sI c 0)) (f.pc (zI c 0) (sI c 0))]) = (TDl (len + 1) cap 0 1 N cp (h.ae (zI c 0) (sI c 0) N) (f.pe (zI c 0) (sI c 0)) 0, MR c (xsW 0 (.sl 1 0 N cp) xs) (len + 1) (qPs q N) p2 p3 p4 ++ [nB (h.ak (zI c 0) (sI c 0) N) (h.ac (zI c 0) (sI c 0) N), nB (h.bk (zI c 0) (sI c 0) N) (h.bc (zI c 0) (sI c 0) N), nB (f.pk (zI c 0) (sI c 0)) (f.pc (zI c 0) (sI c 0))]), wfS (TDl (len + 1) cap 0 1 N cp (h.ae (zI c 0) (sI c 0) N) (f.pe (zI c 0) (sI c 0)) 0) (MR c (xsW 0 (.sl 1 0 N cp) xs) (len + 1) (qPs q N) p2 p3 p4 ++ [nB (h.ak (zI c 0) (sI c 0) N) (h.ac (zI c 0) (sI c 0) N), nB (h.bk (zI c 0) (sI c 0) N) (h.bc (zI c 0) (sI c 0) N), nB (f.pk (zI c 0) (sI c 0)) (f.pc (zI c 0) (sI c 0))]) = true] ++ enO E' (h.ae (zI c 0) (sI c 0) N) 0, .normal, TD (len + 1) cap 1, MR c (xsW 0 (.sl 1 0 N cp) xs) (len + 1) (qPs q N) p2 p3 p4) := by kernel_rfl
theorem dt0sc (f : DnF) (g : ChF) (h : DwF) (c : Cells) (len cap N cp : Nat) (xs : Nat → Atom) (q : Nat → Nat) (p2 p3 p4 : List Piece) (K' C' : ByteArray) (E' : Int) : runTo (addLp (E7d f g h q N) 17 (bodyOf Tryz.prog 7 17) (sumC (TDl (len + 1) cap 0 1 N cp (h.ae (zI c 0) (sI c 0) N) (f.pe (zI c 0) (sI c 0)) 0) (MR c (xsW 0 (.sl 1 0 N cp) xs) (len + 1) (qPs q N) p2 p3 p4 ++ [nB (h.ak (zI c 0) (sI c 0) N) (h.ac (zI c 0) (sI c 0) N), nB e0 e0, nB (f.pk (zI c 0) (sI c 0)) (f.pc (zI c 0) (sI c 0))]) (TDm (len + 1) cap 0 (h.ae (zI c 0) (sI c 0) N) E') (MR c (xsW 0 (.sl 1 0 N cp) xs) (len + 1) (qPs q N) p2 p3 p4 ++ [nB (h.ak (zI c 0) (sI c 0) N) (h.ac (zI c 0) (sI c 0) N), nB e0 e0, nB K' C']) (.exit 2))) 1000 ((E7d f g h q N).S 7) (bodyOf Tryz.prog 7 4) (TD (len + 1) cap 0) (MR c (xsW 0 (.sl 1 0 N cp) xs) (len + 1) (qPs q N) p2 p3 p4) [true, true, false, false, false, false, false, false, false] (TD (len + 1) cap 1) 5 =
    some ([decide ((0 : Int) < (((len + 1) : Nat) : Int)) = true, decide ((0 : Int) < 2) = true, inB 0 (len + 1), decide ((3 : Int) < (N : Int)) = false] ++ [inB 0 (len + 1), inB 0 (len + 1)] ++ fmO q N N ++ [inB 0 (len + 1), cvB (zI c 0) = false] ++ eqO (h.ak (zI c 0) (sI c 0) N) (h.ac (zI c 0) (sI c 0) N) (h.ae (zI c 0) (sI c 0) N) e0 e0 1 ++ [inB 0 (len + 1), inB 0 (len + 1), bodyOf Tryz.prog 7 17 = bodyOf Tryz.prog 7 17, (TDl (len + 1) cap 0 1 N cp (h.ae (zI c 0) (sI c 0) N) (f.pe (zI c 0) (sI c 0)) 0, MR c (xsW 0 (.sl 1 0 N cp) xs) (len + 1) (qPs q N) p2 p3 p4 ++ [nB (h.ak (zI c 0) (sI c 0) N) (h.ac (zI c 0) (sI c 0) N), nB e0 e0, nB (f.pk (zI c 0) (sI c 0)) (f.pc (zI c 0) (sI c 0))]) = (TDl (len + 1) cap 0 1 N cp (h.ae (zI c 0) (sI c 0) N) (f.pe (zI c 0) (sI c 0)) 0, MR c (xsW 0 (.sl 1 0 N cp) xs) (len + 1) (qPs q N) p2 p3 p4 ++ [nB (h.ak (zI c 0) (sI c 0) N) (h.ac (zI c 0) (sI c 0) N), nB e0 e0, nB (f.pk (zI c 0) (sI c 0)) (f.pc (zI c 0) (sI c 0))]), wfS (TDl (len + 1) cap 0 1 N cp (h.ae (zI c 0) (sI c 0) N) (f.pe (zI c 0) (sI c 0)) 0) (MR c (xsW 0 (.sl 1 0 N cp) xs) (len + 1) (qPs q N) p2 p3 p4 ++ [nB (h.ak (zI c 0) (sI c 0) N) (h.ac (zI c 0) (sI c 0) N), nB e0 e0, nB (f.pk (zI c 0) (sI c 0)) (f.pc (zI c 0) (sI c 0))]) = true] ++ enO E' (h.ae (zI c 0) (sI c 0) N) 0, .normal, TD (len + 1) cap 1, MR c (xsW 0 (.sl 1 0 N cp) xs) (len + 1) (qPs q N) p2 p3 p4) := by kernel_rfl
theorem dt0sd (f : DnF) (g : ChF) (h : DwF) (c : Cells) (len cap N cp : Nat) (xs : Nat → Atom) (q : Nat → Nat) (p2 p3 p4 : List Piece) (K' C' : ByteArray) (E' : Int) : runTo (addLp (E7d f g h q N) 17 (bodyOf Tryz.prog 7 17) (sumC (TDl (len + 1) cap 0 1 N cp (h.ae (zI c 0) (sI c 0) N) (f.pe (zI c 0) (sI c 0)) 0) (MR c (xsW 0 (.sl 1 0 N cp) xs) (len + 1) (qPs q N) p2 p3 p4 ++ [nB (h.ak (zI c 0) (sI c 0) N) (h.ac (zI c 0) (sI c 0) N), nB e0 e0, nB (f.pk (zI c 0) (sI c 0)) (f.pc (zI c 0) (sI c 0))]) (TDm (len + 1) cap 0 (h.ae (zI c 0) (sI c 0) N) E') (MR c (xsW 0 (.sl 1 0 N cp) xs) (len + 1) (qPs q N) p2 p3 p4 ++ [nB (h.ak (zI c 0) (sI c 0) N) (h.ac (zI c 0) (sI c 0) N), nB e0 e0, nB K' C']) (.exit 2))) 1000 ((E7d f g h q N).S 7) (bodyOf Tryz.prog 7 4) (TD (len + 1) cap 0) (MR c (xsW 0 (.sl 1 0 N cp) xs) (len + 1) (qPs q N) p2 p3 p4) [true, true, false, true, false, false, false, false, false, false] (TD (len + 1) cap 1) 5 =
    some ([decide ((0 : Int) < (((len + 1) : Nat) : Int)) = true, decide ((0 : Int) < 2) = true, inB 0 (len + 1), decide ((3 : Int) < (N : Int)) = false] ++ [inB 0 (len + 1), inB 0 (len + 1)] ++ fmO q N N ++ [inB 0 (len + 1), cvB (zI c 0) = true] ++ [inB 0 (len + 1), szB (sI c 0) = false] ++ eqO (h.ak (zI c 0) (sI c 0) N) (h.ac (zI c 0) (sI c 0) N) (h.ae (zI c 0) (sI c 0) N) e0 e0 1 ++ [inB 0 (len + 1), inB 0 (len + 1), bodyOf Tryz.prog 7 17 = bodyOf Tryz.prog 7 17, (TDl (len + 1) cap 0 1 N cp (h.ae (zI c 0) (sI c 0) N) (f.pe (zI c 0) (sI c 0)) 0, MR c (xsW 0 (.sl 1 0 N cp) xs) (len + 1) (qPs q N) p2 p3 p4 ++ [nB (h.ak (zI c 0) (sI c 0) N) (h.ac (zI c 0) (sI c 0) N), nB e0 e0, nB (f.pk (zI c 0) (sI c 0)) (f.pc (zI c 0) (sI c 0))]) = (TDl (len + 1) cap 0 1 N cp (h.ae (zI c 0) (sI c 0) N) (f.pe (zI c 0) (sI c 0)) 0, MR c (xsW 0 (.sl 1 0 N cp) xs) (len + 1) (qPs q N) p2 p3 p4 ++ [nB (h.ak (zI c 0) (sI c 0) N) (h.ac (zI c 0) (sI c 0) N), nB e0 e0, nB (f.pk (zI c 0) (sI c 0)) (f.pc (zI c 0) (sI c 0))]), wfS (TDl (len + 1) cap 0 1 N cp (h.ae (zI c 0) (sI c 0) N) (f.pe (zI c 0) (sI c 0)) 0) (MR c (xsW 0 (.sl 1 0 N cp) xs) (len + 1) (qPs q N) p2 p3 p4 ++ [nB (h.ak (zI c 0) (sI c 0) N) (h.ac (zI c 0) (sI c 0) N), nB e0 e0, nB (f.pk (zI c 0) (sI c 0)) (f.pc (zI c 0) (sI c 0))]) = true] ++ enO E' (h.ae (zI c 0) (sI c 0) N) 0, .normal, TD (len + 1) cap 1, MR c (xsW 0 (.sl 1 0 N cp) xs) (len + 1) (qPs q N) p2 p3 p4) := by kernel_rfl
theorem dt0la (f : DnF) (g : ChF) (h : DwF) (c : Cells) (len cap N cp : Nat) (xs : Nat → Atom) (q : Nat → Nat) (p2 p3 p4 : List Piece) (K' C' : ByteArray) (E' : Int) : runTo (addLp (E7d f g h q N) 17 (bodyOf Tryz.prog 7 17) (sumC (TDl (len + 1) cap 0 1 3 cp (h.ae (zI c 0) (sI c 0) 3) (f.pe (zI c 0) (sI c 0)) 0) (MR c (xsW 0 (.sl 1 0 N cp) xs) (len + 1) (qPs q N) p2 p3 p4 ++ [nB (h.ak (zI c 0) (sI c 0) 3) (h.ac (zI c 0) (sI c 0) 3), nB (h.bk (zI c 0) (sI c 0) 3) (h.bc (zI c 0) (sI c 0) 3), nB (f.pk (zI c 0) (sI c 0)) (f.pc (zI c 0) (sI c 0))]) (TDm (len + 1) cap 0 (h.ae (zI c 0) (sI c 0) 3) E') (MR c (xsW 0 (.sl 1 0 N cp) xs) (len + 1) (qPs q N) p2 p3 p4 ++ [nB (h.ak (zI c 0) (sI c 0) 3) (h.ac (zI c 0) (sI c 0) 3), nB (h.bk (zI c 0) (sI c 0) 3) (h.bc (zI c 0) (sI c 0) 3), nB K' C']) (.exit 2))) 1000 ((E7d f g h q N).S 7) (bodyOf Tryz.prog 7 4) (TD (len + 1) cap 0) (MR c (xsW 0 (.sl 1 0 N cp) xs) (len + 1) (qPs q N) p2 p3 p4) [true, true, true, true, true, false, false, false, true, false, true, true] (TD (len + 1) cap 1) 5 =
    some ([decide ((0 : Int) < (((len + 1) : Nat) : Int)) = true, decide ((0 : Int) < 2) = true, inB 0 (len + 1), decide ((3 : Int) < (N : Int)) = true, (0 : Int) ≤ 3 ∧ (3 : Int) ≤ (cp : Int)] ++ [inB 0 (len + 1), inB 0 (len + 1)] ++ fmO q 3 N ++ [inB 0 (len + 1), cvB (zI c 0) = true] ++ [inB 0 (len + 1), szB (sI c 0) = true] ++ [inB 0 (len + 1), inB 0 (len + 1)] ++ fmO q 3 N ++ pgO (zI c 0) (sI c 0) ++ eqO (h.ak (zI c 0) (sI c 0) 3) (h.ac (zI c 0) (sI c 0) 3) (h.ae (zI c 0) (sI c 0) 3) (h.bk (zI c 0) (sI c 0) 3) (h.bc (zI c 0) (sI c 0) 3) (h.be (zI c 0) (sI c 0) 3) ++ [inB 0 (len + 1), inB 0 (len + 1), bodyOf Tryz.prog 7 17 = bodyOf Tryz.prog 7 17, (TDl (len + 1) cap 0 1 3 cp (h.ae (zI c 0) (sI c 0) 3) (f.pe (zI c 0) (sI c 0)) 0, MR c (xsW 0 (.sl 1 0 N cp) xs) (len + 1) (qPs q N) p2 p3 p4 ++ [nB (h.ak (zI c 0) (sI c 0) 3) (h.ac (zI c 0) (sI c 0) 3), nB (h.bk (zI c 0) (sI c 0) 3) (h.bc (zI c 0) (sI c 0) 3), nB (f.pk (zI c 0) (sI c 0)) (f.pc (zI c 0) (sI c 0))]) = (TDl (len + 1) cap 0 1 3 cp (h.ae (zI c 0) (sI c 0) 3) (f.pe (zI c 0) (sI c 0)) 0, MR c (xsW 0 (.sl 1 0 N cp) xs) (len + 1) (qPs q N) p2 p3 p4 ++ [nB (h.ak (zI c 0) (sI c 0) 3) (h.ac (zI c 0) (sI c 0) 3), nB (h.bk (zI c 0) (sI c 0) 3) (h.bc (zI c 0) (sI c 0) 3), nB (f.pk (zI c 0) (sI c 0)) (f.pc (zI c 0) (sI c 0))]), wfS (TDl (len + 1) cap 0 1 3 cp (h.ae (zI c 0) (sI c 0) 3) (f.pe (zI c 0) (sI c 0)) 0) (MR c (xsW 0 (.sl 1 0 N cp) xs) (len + 1) (qPs q N) p2 p3 p4 ++ [nB (h.ak (zI c 0) (sI c 0) 3) (h.ac (zI c 0) (sI c 0) 3), nB (h.bk (zI c 0) (sI c 0) 3) (h.bc (zI c 0) (sI c 0) 3), nB (f.pk (zI c 0) (sI c 0)) (f.pc (zI c 0) (sI c 0))]) = true] ++ ezO g (zI c 0) K' C' (h.ak (zI c 0) (sI c 0) 3) (h.ac (zI c 0) (sI c 0) 3) E' (h.ae (zI c 0) (sI c 0) 3) 0 (len + 1), .normal, TD (len + 1) cap 1, MR c (xsW 0 (.sl 1 0 N cp) xs) (len + 1) (qPs q N) p2 p3 p4) := by kernel_rfl
theorem dt0lb (f : DnF) (g : ChF) (h : DwF) (c : Cells) (len cap N cp : Nat) (xs : Nat → Atom) (q : Nat → Nat) (p2 p3 p4 : List Piece) (K' C' : ByteArray) (E' : Int) : runTo (addLp (E7d f g h q N) 17 (bodyOf Tryz.prog 7 17) (sumC (TDl (len + 1) cap 0 1 3 cp (h.ae (zI c 0) (sI c 0) 3) (f.pe (zI c 0) (sI c 0)) 0) (MR c (xsW 0 (.sl 1 0 N cp) xs) (len + 1) (qPs q N) p2 p3 p4 ++ [nB (h.ak (zI c 0) (sI c 0) 3) (h.ac (zI c 0) (sI c 0) 3), nB (h.bk (zI c 0) (sI c 0) 3) (h.bc (zI c 0) (sI c 0) 3), nB (f.pk (zI c 0) (sI c 0)) (f.pc (zI c 0) (sI c 0))]) (TDm (len + 1) cap 0 (h.ae (zI c 0) (sI c 0) 3) E') (MR c (xsW 0 (.sl 1 0 N cp) xs) (len + 1) (qPs q N) p2 p3 p4 ++ [nB (h.ak (zI c 0) (sI c 0) 3) (h.ac (zI c 0) (sI c 0) 3), nB (h.bk (zI c 0) (sI c 0) 3) (h.bc (zI c 0) (sI c 0) 3), nB K' C']) (.exit 2))) 1000 ((E7d f g h q N).S 7) (bodyOf Tryz.prog 7 4) (TD (len + 1) cap 0) (MR c (xsW 0 (.sl 1 0 N cp) xs) (len + 1) (qPs q N) p2 p3 p4) [true, true, true, true, true, false, false, false, false, false] (TD (len + 1) cap 1) 5 =
    some ([decide ((0 : Int) < (((len + 1) : Nat) : Int)) = true, decide ((0 : Int) < 2) = true, inB 0 (len + 1), decide ((3 : Int) < (N : Int)) = true, (0 : Int) ≤ 3 ∧ (3 : Int) ≤ (cp : Int)] ++ [inB 0 (len + 1), inB 0 (len + 1)] ++ fmO q 3 N ++ [inB 0 (len + 1), cvB (zI c 0) = true] ++ [inB 0 (len + 1), szB (sI c 0) = true] ++ [inB 0 (len + 1), inB 0 (len + 1)] ++ fmO q 3 N ++ pgO (zI c 0) (sI c 0) ++ eqO (h.ak (zI c 0) (sI c 0) 3) (h.ac (zI c 0) (sI c 0) 3) (h.ae (zI c 0) (sI c 0) 3) (h.bk (zI c 0) (sI c 0) 3) (h.bc (zI c 0) (sI c 0) 3) (h.be (zI c 0) (sI c 0) 3) ++ [inB 0 (len + 1), inB 0 (len + 1), bodyOf Tryz.prog 7 17 = bodyOf Tryz.prog 7 17, (TDl (len + 1) cap 0 1 3 cp (h.ae (zI c 0) (sI c 0) 3) (f.pe (zI c 0) (sI c 0)) 0, MR c (xsW 0 (.sl 1 0 N cp) xs) (len + 1) (qPs q N) p2 p3 p4 ++ [nB (h.ak (zI c 0) (sI c 0) 3) (h.ac (zI c 0) (sI c 0) 3), nB (h.bk (zI c 0) (sI c 0) 3) (h.bc (zI c 0) (sI c 0) 3), nB (f.pk (zI c 0) (sI c 0)) (f.pc (zI c 0) (sI c 0))]) = (TDl (len + 1) cap 0 1 3 cp (h.ae (zI c 0) (sI c 0) 3) (f.pe (zI c 0) (sI c 0)) 0, MR c (xsW 0 (.sl 1 0 N cp) xs) (len + 1) (qPs q N) p2 p3 p4 ++ [nB (h.ak (zI c 0) (sI c 0) 3) (h.ac (zI c 0) (sI c 0) 3), nB (h.bk (zI c 0) (sI c 0) 3) (h.bc (zI c 0) (sI c 0) 3), nB (f.pk (zI c 0) (sI c 0)) (f.pc (zI c 0) (sI c 0))]), wfS (TDl (len + 1) cap 0 1 3 cp (h.ae (zI c 0) (sI c 0) 3) (f.pe (zI c 0) (sI c 0)) 0) (MR c (xsW 0 (.sl 1 0 N cp) xs) (len + 1) (qPs q N) p2 p3 p4 ++ [nB (h.ak (zI c 0) (sI c 0) 3) (h.ac (zI c 0) (sI c 0) 3), nB (h.bk (zI c 0) (sI c 0) 3) (h.bc (zI c 0) (sI c 0) 3), nB (f.pk (zI c 0) (sI c 0)) (f.pc (zI c 0) (sI c 0))]) = true] ++ enO E' (h.ae (zI c 0) (sI c 0) 3) 0, .normal, TD (len + 1) cap 1, MR c (xsW 0 (.sl 1 0 N cp) xs) (len + 1) (qPs q N) p2 p3 p4) := by kernel_rfl
theorem dt0lc (f : DnF) (g : ChF) (h : DwF) (c : Cells) (len cap N cp : Nat) (xs : Nat → Atom) (q : Nat → Nat) (p2 p3 p4 : List Piece) (K' C' : ByteArray) (E' : Int) : runTo (addLp (E7d f g h q N) 17 (bodyOf Tryz.prog 7 17) (sumC (TDl (len + 1) cap 0 1 3 cp (h.ae (zI c 0) (sI c 0) 3) (f.pe (zI c 0) (sI c 0)) 0) (MR c (xsW 0 (.sl 1 0 N cp) xs) (len + 1) (qPs q N) p2 p3 p4 ++ [nB (h.ak (zI c 0) (sI c 0) 3) (h.ac (zI c 0) (sI c 0) 3), nB e0 e0, nB (f.pk (zI c 0) (sI c 0)) (f.pc (zI c 0) (sI c 0))]) (TDm (len + 1) cap 0 (h.ae (zI c 0) (sI c 0) 3) E') (MR c (xsW 0 (.sl 1 0 N cp) xs) (len + 1) (qPs q N) p2 p3 p4 ++ [nB (h.ak (zI c 0) (sI c 0) 3) (h.ac (zI c 0) (sI c 0) 3), nB e0 e0, nB K' C']) (.exit 2))) 1000 ((E7d f g h q N).S 7) (bodyOf Tryz.prog 7 4) (TD (len + 1) cap 0) (MR c (xsW 0 (.sl 1 0 N cp) xs) (len + 1) (qPs q N) p2 p3 p4) [true, true, true, false, false, false, false, false, false] (TD (len + 1) cap 1) 5 =
    some ([decide ((0 : Int) < (((len + 1) : Nat) : Int)) = true, decide ((0 : Int) < 2) = true, inB 0 (len + 1), decide ((3 : Int) < (N : Int)) = true, (0 : Int) ≤ 3 ∧ (3 : Int) ≤ (cp : Int)] ++ [inB 0 (len + 1), inB 0 (len + 1)] ++ fmO q 3 N ++ [inB 0 (len + 1), cvB (zI c 0) = false] ++ eqO (h.ak (zI c 0) (sI c 0) 3) (h.ac (zI c 0) (sI c 0) 3) (h.ae (zI c 0) (sI c 0) 3) e0 e0 1 ++ [inB 0 (len + 1), inB 0 (len + 1), bodyOf Tryz.prog 7 17 = bodyOf Tryz.prog 7 17, (TDl (len + 1) cap 0 1 3 cp (h.ae (zI c 0) (sI c 0) 3) (f.pe (zI c 0) (sI c 0)) 0, MR c (xsW 0 (.sl 1 0 N cp) xs) (len + 1) (qPs q N) p2 p3 p4 ++ [nB (h.ak (zI c 0) (sI c 0) 3) (h.ac (zI c 0) (sI c 0) 3), nB e0 e0, nB (f.pk (zI c 0) (sI c 0)) (f.pc (zI c 0) (sI c 0))]) = (TDl (len + 1) cap 0 1 3 cp (h.ae (zI c 0) (sI c 0) 3) (f.pe (zI c 0) (sI c 0)) 0, MR c (xsW 0 (.sl 1 0 N cp) xs) (len + 1) (qPs q N) p2 p3 p4 ++ [nB (h.ak (zI c 0) (sI c 0) 3) (h.ac (zI c 0) (sI c 0) 3), nB e0 e0, nB (f.pk (zI c 0) (sI c 0)) (f.pc (zI c 0) (sI c 0))]), wfS (TDl (len + 1) cap 0 1 3 cp (h.ae (zI c 0) (sI c 0) 3) (f.pe (zI c 0) (sI c 0)) 0) (MR c (xsW 0 (.sl 1 0 N cp) xs) (len + 1) (qPs q N) p2 p3 p4 ++ [nB (h.ak (zI c 0) (sI c 0) 3) (h.ac (zI c 0) (sI c 0) 3), nB e0 e0, nB (f.pk (zI c 0) (sI c 0)) (f.pc (zI c 0) (sI c 0))]) = true] ++ enO E' (h.ae (zI c 0) (sI c 0) 3) 0, .normal, TD (len + 1) cap 1, MR c (xsW 0 (.sl 1 0 N cp) xs) (len + 1) (qPs q N) p2 p3 p4) := by kernel_rfl
theorem dt0ld (f : DnF) (g : ChF) (h : DwF) (c : Cells) (len cap N cp : Nat) (xs : Nat → Atom) (q : Nat → Nat) (p2 p3 p4 : List Piece) (K' C' : ByteArray) (E' : Int) : runTo (addLp (E7d f g h q N) 17 (bodyOf Tryz.prog 7 17) (sumC (TDl (len + 1) cap 0 1 3 cp (h.ae (zI c 0) (sI c 0) 3) (f.pe (zI c 0) (sI c 0)) 0) (MR c (xsW 0 (.sl 1 0 N cp) xs) (len + 1) (qPs q N) p2 p3 p4 ++ [nB (h.ak (zI c 0) (sI c 0) 3) (h.ac (zI c 0) (sI c 0) 3), nB e0 e0, nB (f.pk (zI c 0) (sI c 0)) (f.pc (zI c 0) (sI c 0))]) (TDm (len + 1) cap 0 (h.ae (zI c 0) (sI c 0) 3) E') (MR c (xsW 0 (.sl 1 0 N cp) xs) (len + 1) (qPs q N) p2 p3 p4 ++ [nB (h.ak (zI c 0) (sI c 0) 3) (h.ac (zI c 0) (sI c 0) 3), nB e0 e0, nB K' C']) (.exit 2))) 1000 ((E7d f g h q N).S 7) (bodyOf Tryz.prog 7 4) (TD (len + 1) cap 0) (MR c (xsW 0 (.sl 1 0 N cp) xs) (len + 1) (qPs q N) p2 p3 p4) [true, true, true, true, false, false, false, false, false, false] (TD (len + 1) cap 1) 5 =
    some ([decide ((0 : Int) < (((len + 1) : Nat) : Int)) = true, decide ((0 : Int) < 2) = true, inB 0 (len + 1), decide ((3 : Int) < (N : Int)) = true, (0 : Int) ≤ 3 ∧ (3 : Int) ≤ (cp : Int)] ++ [inB 0 (len + 1), inB 0 (len + 1)] ++ fmO q 3 N ++ [inB 0 (len + 1), cvB (zI c 0) = true] ++ [inB 0 (len + 1), szB (sI c 0) = false] ++ eqO (h.ak (zI c 0) (sI c 0) 3) (h.ac (zI c 0) (sI c 0) 3) (h.ae (zI c 0) (sI c 0) 3) e0 e0 1 ++ [inB 0 (len + 1), inB 0 (len + 1), bodyOf Tryz.prog 7 17 = bodyOf Tryz.prog 7 17, (TDl (len + 1) cap 0 1 3 cp (h.ae (zI c 0) (sI c 0) 3) (f.pe (zI c 0) (sI c 0)) 0, MR c (xsW 0 (.sl 1 0 N cp) xs) (len + 1) (qPs q N) p2 p3 p4 ++ [nB (h.ak (zI c 0) (sI c 0) 3) (h.ac (zI c 0) (sI c 0) 3), nB e0 e0, nB (f.pk (zI c 0) (sI c 0)) (f.pc (zI c 0) (sI c 0))]) = (TDl (len + 1) cap 0 1 3 cp (h.ae (zI c 0) (sI c 0) 3) (f.pe (zI c 0) (sI c 0)) 0, MR c (xsW 0 (.sl 1 0 N cp) xs) (len + 1) (qPs q N) p2 p3 p4 ++ [nB (h.ak (zI c 0) (sI c 0) 3) (h.ac (zI c 0) (sI c 0) 3), nB e0 e0, nB (f.pk (zI c 0) (sI c 0)) (f.pc (zI c 0) (sI c 0))]), wfS (TDl (len + 1) cap 0 1 3 cp (h.ae (zI c 0) (sI c 0) 3) (f.pe (zI c 0) (sI c 0)) 0) (MR c (xsW 0 (.sl 1 0 N cp) xs) (len + 1) (qPs q N) p2 p3 p4 ++ [nB (h.ak (zI c 0) (sI c 0) 3) (h.ac (zI c 0) (sI c 0) 3), nB e0 e0, nB (f.pk (zI c 0) (sI c 0)) (f.pc (zI c 0) (sI c 0))]) = true] ++ enO E' (h.ae (zI c 0) (sI c 0) 3) 0, .normal, TD (len + 1) cap 1, MR c (xsW 0 (.sl 1 0 N cp) xs) (len + 1) (qPs q N) p2 p3 p4) := by kernel_rfl
theorem dl1t (f : DnF) (g : ChF) (h : DwF) (c : Cells) (len cap m N cp : Nat) (e : Int) (a : Atom) (xs : Nat → Atom) (q : Nat → Nat) (p1 p3 p4 : List Piece) (A B A' B' K C : ByteArray) (j : Nat) : runTo (E7d f g h q N) 1000 ((E7d f g h q N).S 7) (bodyOf Tryz.prog 7 17) (TDl (len + 2) cap 1 2 m cp e 0 (j : Int)) (MR c (xsW 1 a xs) (len + 2) p1 (qPs q N) p3 p4 ++ [nB A B, nB A' B', nB K C]) [true, true] (TDl (len + 2) cap 1 2 m cp e (g.de (zI c 1) K C (q (0 + j * 1))) ((j : Int) + 1)) 8 =
    some ([decide ((j : Int) < (m : Int)) = true, decide ((0 : Int) = 0) = true, inB 1 (len + 2), inJ j m, ldP q N j, inI ((j : Int) + 1)], .normal, TDl (len + 2) cap 1 2 m cp e (g.de (zI c 1) K C (q (0 + j * 1))) ((j : Int) + 1), MR c (xsW 1 a xs) (len + 2) p1 (qPs q N) p3 p4 ++ [nB A B, nB A' B', nB (g.dk (zI c 1) K C (q (0 + j * 1))) (g.dc (zI c 1) K C (q (0 + j * 1)))]) := by kernel_rfl
theorem dl1e (f : DnF) (g : ChF) (h : DwF) (c : Cells) (len cap m N cp : Nat) (e : Int) (a : Atom) (xs : Nat → Atom) (q : Nat → Nat) (p1 p3 p4 : List Piece) (A B A' B' K C : ByteArray) (E : Int) (j : Nat) : runTo (E7d f g h q N) 1000 ((E7d f g h q N).S 7) (bodyOf Tryz.prog 7 17) (TDl (len + 2) cap 1 2 m cp e E (j : Int)) (MR c (xsW 1 a xs) (len + 2) p1 (qPs q N) p3 p4 ++ [nB A B, nB A' B', nB K C]) [true, false] (TDm (len + 2) cap 1 e E) 8 =
    some ([decide ((j : Int) < (m : Int)) = true, decide (E = 0) = false], .exit 2, TDm (len + 2) cap 1 e E, MR c (xsW 1 a xs) (len + 2) p1 (qPs q N) p3 p4 ++ [nB A B, nB A' B', nB K C]) := by kernel_rfl
theorem dl1n (f : DnF) (g : ChF) (h : DwF) (c : Cells) (len cap m N cp : Nat) (e : Int) (a : Atom) (xs : Nat → Atom) (q : Nat → Nat) (p1 p3 p4 : List Piece) (A B A' B' K C : ByteArray) (E : Int) (j : Nat) : runTo (E7d f g h q N) 1000 ((E7d f g h q N).S 7) (bodyOf Tryz.prog 7 17) (TDl (len + 2) cap 1 2 m cp e E (j : Int)) (MR c (xsW 1 a xs) (len + 2) p1 (qPs q N) p3 p4 ++ [nB A B, nB A' B', nB K C]) [false] (TDm (len + 2) cap 1 e E) 8 =
    some ([decide ((j : Int) < (m : Int)) = false], .exit 2, TDm (len + 2) cap 1 e E, MR c (xsW 1 a xs) (len + 2) p1 (qPs q N) p3 p4 ++ [nB A B, nB A' B', nB K C]) := by kernel_rfl
theorem dt1sa (f : DnF) (g : ChF) (h : DwF) (c : Cells) (len cap N cp : Nat) (xs : Nat → Atom) (q : Nat → Nat) (p1 p3 p4 : List Piece) (K' C' : ByteArray) (E' : Int) : runTo (addLp (E7d f g h q N) 17 (bodyOf Tryz.prog 7 17) (sumC (TDl (len + 2) cap 1 2 N cp (h.ae (zI c 1) (sI c 1) N) (f.pe (zI c 1) (sI c 1)) 0) (MR c (xsW 1 (.sl 2 0 N cp) xs) (len + 2) p1 (qPs q N) p3 p4 ++ [nB (h.ak (zI c 1) (sI c 1) N) (h.ac (zI c 1) (sI c 1) N), nB (h.bk (zI c 1) (sI c 1) N) (h.bc (zI c 1) (sI c 1) N), nB (f.pk (zI c 1) (sI c 1)) (f.pc (zI c 1) (sI c 1))]) (TDm (len + 2) cap 1 (h.ae (zI c 1) (sI c 1) N) E') (MR c (xsW 1 (.sl 2 0 N cp) xs) (len + 2) p1 (qPs q N) p3 p4 ++ [nB (h.ak (zI c 1) (sI c 1) N) (h.ac (zI c 1) (sI c 1) N), nB (h.bk (zI c 1) (sI c 1) N) (h.bc (zI c 1) (sI c 1) N), nB K' C']) (.exit 2))) 1000 ((E7d f g h q N).S 7) (bodyOf Tryz.prog 7 4) (TD (len + 2) cap 1) (MR c (xsW 1 (.sl 2 0 N cp) xs) (len + 2) p1 (qPs q N) p3 p4) [true, true, false, true, true, false, false, false, true, false, true, true] (TD (len + 2) cap 2) 5 =
    some ([decide ((1 : Int) < (((len + 2) : Nat) : Int)) = true, decide ((1 : Int) < 2) = true, inB 1 (len + 2), decide ((3 : Int) < (N : Int)) = false] ++ [inB 1 (len + 2), inB 1 (len + 2)] ++ fmO q N N ++ [inB 1 (len + 2), cvB (zI c 1) = true] ++ [inB 1 (len + 2), szB (sI c 1) = true] ++ [inB 1 (len + 2), inB 1 (len + 2)] ++ fmO q N N ++ pgO (zI c 1) (sI c 1) ++ eqO (h.ak (zI c 1) (sI c 1) N) (h.ac (zI c 1) (sI c 1) N) (h.ae (zI c 1) (sI c 1) N) (h.bk (zI c 1) (sI c 1) N) (h.bc (zI c 1) (sI c 1) N) (h.be (zI c 1) (sI c 1) N) ++ [inB 1 (len + 2), inB 1 (len + 2), bodyOf Tryz.prog 7 17 = bodyOf Tryz.prog 7 17, (TDl (len + 2) cap 1 2 N cp (h.ae (zI c 1) (sI c 1) N) (f.pe (zI c 1) (sI c 1)) 0, MR c (xsW 1 (.sl 2 0 N cp) xs) (len + 2) p1 (qPs q N) p3 p4 ++ [nB (h.ak (zI c 1) (sI c 1) N) (h.ac (zI c 1) (sI c 1) N), nB (h.bk (zI c 1) (sI c 1) N) (h.bc (zI c 1) (sI c 1) N), nB (f.pk (zI c 1) (sI c 1)) (f.pc (zI c 1) (sI c 1))]) = (TDl (len + 2) cap 1 2 N cp (h.ae (zI c 1) (sI c 1) N) (f.pe (zI c 1) (sI c 1)) 0, MR c (xsW 1 (.sl 2 0 N cp) xs) (len + 2) p1 (qPs q N) p3 p4 ++ [nB (h.ak (zI c 1) (sI c 1) N) (h.ac (zI c 1) (sI c 1) N), nB (h.bk (zI c 1) (sI c 1) N) (h.bc (zI c 1) (sI c 1) N), nB (f.pk (zI c 1) (sI c 1)) (f.pc (zI c 1) (sI c 1))]), wfS (TDl (len + 2) cap 1 2 N cp (h.ae (zI c 1) (sI c 1) N) (f.pe (zI c 1) (sI c 1)) 0) (MR c (xsW 1 (.sl 2 0 N cp) xs) (len + 2) p1 (qPs q N) p3 p4 ++ [nB (h.ak (zI c 1) (sI c 1) N) (h.ac (zI c 1) (sI c 1) N), nB (h.bk (zI c 1) (sI c 1) N) (h.bc (zI c 1) (sI c 1) N), nB (f.pk (zI c 1) (sI c 1)) (f.pc (zI c 1) (sI c 1))]) = true] ++ ezO g (zI c 1) K' C' (h.ak (zI c 1) (sI c 1) N) (h.ac (zI c 1) (sI c 1) N) E' (h.ae (zI c 1) (sI c 1) N) 1 (len + 2), .normal, TD (len + 2) cap 2, MR c (xsW 1 (.sl 2 0 N cp) xs) (len + 2) p1 (qPs q N) p3 p4) := by kernel_rfl
theorem dt1sb (f : DnF) (g : ChF) (h : DwF) (c : Cells) (len cap N cp : Nat) (xs : Nat → Atom) (q : Nat → Nat) (p1 p3 p4 : List Piece) (K' C' : ByteArray) (E' : Int) : runTo (addLp (E7d f g h q N) 17 (bodyOf Tryz.prog 7 17) (sumC (TDl (len + 2) cap 1 2 N cp (h.ae (zI c 1) (sI c 1) N) (f.pe (zI c 1) (sI c 1)) 0) (MR c (xsW 1 (.sl 2 0 N cp) xs) (len + 2) p1 (qPs q N) p3 p4 ++ [nB (h.ak (zI c 1) (sI c 1) N) (h.ac (zI c 1) (sI c 1) N), nB (h.bk (zI c 1) (sI c 1) N) (h.bc (zI c 1) (sI c 1) N), nB (f.pk (zI c 1) (sI c 1)) (f.pc (zI c 1) (sI c 1))]) (TDm (len + 2) cap 1 (h.ae (zI c 1) (sI c 1) N) E') (MR c (xsW 1 (.sl 2 0 N cp) xs) (len + 2) p1 (qPs q N) p3 p4 ++ [nB (h.ak (zI c 1) (sI c 1) N) (h.ac (zI c 1) (sI c 1) N), nB (h.bk (zI c 1) (sI c 1) N) (h.bc (zI c 1) (sI c 1) N), nB K' C']) (.exit 2))) 1000 ((E7d f g h q N).S 7) (bodyOf Tryz.prog 7 4) (TD (len + 2) cap 1) (MR c (xsW 1 (.sl 2 0 N cp) xs) (len + 2) p1 (qPs q N) p3 p4) [true, true, false, true, true, false, false, false, false, false] (TD (len + 2) cap 2) 5 =
    some ([decide ((1 : Int) < (((len + 2) : Nat) : Int)) = true, decide ((1 : Int) < 2) = true, inB 1 (len + 2), decide ((3 : Int) < (N : Int)) = false] ++ [inB 1 (len + 2), inB 1 (len + 2)] ++ fmO q N N ++ [inB 1 (len + 2), cvB (zI c 1) = true] ++ [inB 1 (len + 2), szB (sI c 1) = true] ++ [inB 1 (len + 2), inB 1 (len + 2)] ++ fmO q N N ++ pgO (zI c 1) (sI c 1) ++ eqO (h.ak (zI c 1) (sI c 1) N) (h.ac (zI c 1) (sI c 1) N) (h.ae (zI c 1) (sI c 1) N) (h.bk (zI c 1) (sI c 1) N) (h.bc (zI c 1) (sI c 1) N) (h.be (zI c 1) (sI c 1) N) ++ [inB 1 (len + 2), inB 1 (len + 2), bodyOf Tryz.prog 7 17 = bodyOf Tryz.prog 7 17, (TDl (len + 2) cap 1 2 N cp (h.ae (zI c 1) (sI c 1) N) (f.pe (zI c 1) (sI c 1)) 0, MR c (xsW 1 (.sl 2 0 N cp) xs) (len + 2) p1 (qPs q N) p3 p4 ++ [nB (h.ak (zI c 1) (sI c 1) N) (h.ac (zI c 1) (sI c 1) N), nB (h.bk (zI c 1) (sI c 1) N) (h.bc (zI c 1) (sI c 1) N), nB (f.pk (zI c 1) (sI c 1)) (f.pc (zI c 1) (sI c 1))]) = (TDl (len + 2) cap 1 2 N cp (h.ae (zI c 1) (sI c 1) N) (f.pe (zI c 1) (sI c 1)) 0, MR c (xsW 1 (.sl 2 0 N cp) xs) (len + 2) p1 (qPs q N) p3 p4 ++ [nB (h.ak (zI c 1) (sI c 1) N) (h.ac (zI c 1) (sI c 1) N), nB (h.bk (zI c 1) (sI c 1) N) (h.bc (zI c 1) (sI c 1) N), nB (f.pk (zI c 1) (sI c 1)) (f.pc (zI c 1) (sI c 1))]), wfS (TDl (len + 2) cap 1 2 N cp (h.ae (zI c 1) (sI c 1) N) (f.pe (zI c 1) (sI c 1)) 0) (MR c (xsW 1 (.sl 2 0 N cp) xs) (len + 2) p1 (qPs q N) p3 p4 ++ [nB (h.ak (zI c 1) (sI c 1) N) (h.ac (zI c 1) (sI c 1) N), nB (h.bk (zI c 1) (sI c 1) N) (h.bc (zI c 1) (sI c 1) N), nB (f.pk (zI c 1) (sI c 1)) (f.pc (zI c 1) (sI c 1))]) = true] ++ enO E' (h.ae (zI c 1) (sI c 1) N) 1, .normal, TD (len + 2) cap 2, MR c (xsW 1 (.sl 2 0 N cp) xs) (len + 2) p1 (qPs q N) p3 p4) := by kernel_rfl
theorem dt1sc (f : DnF) (g : ChF) (h : DwF) (c : Cells) (len cap N cp : Nat) (xs : Nat → Atom) (q : Nat → Nat) (p1 p3 p4 : List Piece) (K' C' : ByteArray) (E' : Int) : runTo (addLp (E7d f g h q N) 17 (bodyOf Tryz.prog 7 17) (sumC (TDl (len + 2) cap 1 2 N cp (h.ae (zI c 1) (sI c 1) N) (f.pe (zI c 1) (sI c 1)) 0) (MR c (xsW 1 (.sl 2 0 N cp) xs) (len + 2) p1 (qPs q N) p3 p4 ++ [nB (h.ak (zI c 1) (sI c 1) N) (h.ac (zI c 1) (sI c 1) N), nB e0 e0, nB (f.pk (zI c 1) (sI c 1)) (f.pc (zI c 1) (sI c 1))]) (TDm (len + 2) cap 1 (h.ae (zI c 1) (sI c 1) N) E') (MR c (xsW 1 (.sl 2 0 N cp) xs) (len + 2) p1 (qPs q N) p3 p4 ++ [nB (h.ak (zI c 1) (sI c 1) N) (h.ac (zI c 1) (sI c 1) N), nB e0 e0, nB K' C']) (.exit 2))) 1000 ((E7d f g h q N).S 7) (bodyOf Tryz.prog 7 4) (TD (len + 2) cap 1) (MR c (xsW 1 (.sl 2 0 N cp) xs) (len + 2) p1 (qPs q N) p3 p4) [true, true, false, false, false, false, false, false, false] (TD (len + 2) cap 2) 5 =
    some ([decide ((1 : Int) < (((len + 2) : Nat) : Int)) = true, decide ((1 : Int) < 2) = true, inB 1 (len + 2), decide ((3 : Int) < (N : Int)) = false] ++ [inB 1 (len + 2), inB 1 (len + 2)] ++ fmO q N N ++ [inB 1 (len + 2), cvB (zI c 1) = false] ++ eqO (h.ak (zI c 1) (sI c 1) N) (h.ac (zI c 1) (sI c 1) N) (h.ae (zI c 1) (sI c 1) N) e0 e0 1 ++ [inB 1 (len + 2), inB 1 (len + 2), bodyOf Tryz.prog 7 17 = bodyOf Tryz.prog 7 17, (TDl (len + 2) cap 1 2 N cp (h.ae (zI c 1) (sI c 1) N) (f.pe (zI c 1) (sI c 1)) 0, MR c (xsW 1 (.sl 2 0 N cp) xs) (len + 2) p1 (qPs q N) p3 p4 ++ [nB (h.ak (zI c 1) (sI c 1) N) (h.ac (zI c 1) (sI c 1) N), nB e0 e0, nB (f.pk (zI c 1) (sI c 1)) (f.pc (zI c 1) (sI c 1))]) = (TDl (len + 2) cap 1 2 N cp (h.ae (zI c 1) (sI c 1) N) (f.pe (zI c 1) (sI c 1)) 0, MR c (xsW 1 (.sl 2 0 N cp) xs) (len + 2) p1 (qPs q N) p3 p4 ++ [nB (h.ak (zI c 1) (sI c 1) N) (h.ac (zI c 1) (sI c 1) N), nB e0 e0, nB (f.pk (zI c 1) (sI c 1)) (f.pc (zI c 1) (sI c 1))]), wfS (TDl (len + 2) cap 1 2 N cp (h.ae (zI c 1) (sI c 1) N) (f.pe (zI c 1) (sI c 1)) 0) (MR c (xsW 1 (.sl 2 0 N cp) xs) (len + 2) p1 (qPs q N) p3 p4 ++ [nB (h.ak (zI c 1) (sI c 1) N) (h.ac (zI c 1) (sI c 1) N), nB e0 e0, nB (f.pk (zI c 1) (sI c 1)) (f.pc (zI c 1) (sI c 1))]) = true] ++ enO E' (h.ae (zI c 1) (sI c 1) N) 1, .normal, TD (len + 2) cap 2, MR c (xsW 1 (.sl 2 0 N cp) xs) (len + 2) p1 (qPs q N) p3 p4) := by kernel_rfl
theorem dt1sd (f : DnF) (g : ChF) (h : DwF) (c : Cells) (len cap N cp : Nat) (xs : Nat → Atom) (q : Nat → Nat) (p1 p3 p4 : List Piece) (K' C' : ByteArray) (E' : Int) : runTo (addLp (E7d f g h q N) 17 (bodyOf Tryz.prog 7 17) (sumC (TDl (len + 2) cap 1 2 N cp (h.ae (zI c 1) (sI c 1) N) (f.pe (zI c 1) (sI c 1)) 0) (MR c (xsW 1 (.sl 2 0 N cp) xs) (len + 2) p1 (qPs q N) p3 p4 ++ [nB (h.ak (zI c 1) (sI c 1) N) (h.ac (zI c 1) (sI c 1) N), nB e0 e0, nB (f.pk (zI c 1) (sI c 1)) (f.pc (zI c 1) (sI c 1))]) (TDm (len + 2) cap 1 (h.ae (zI c 1) (sI c 1) N) E') (MR c (xsW 1 (.sl 2 0 N cp) xs) (len + 2) p1 (qPs q N) p3 p4 ++ [nB (h.ak (zI c 1) (sI c 1) N) (h.ac (zI c 1) (sI c 1) N), nB e0 e0, nB K' C']) (.exit 2))) 1000 ((E7d f g h q N).S 7) (bodyOf Tryz.prog 7 4) (TD (len + 2) cap 1) (MR c (xsW 1 (.sl 2 0 N cp) xs) (len + 2) p1 (qPs q N) p3 p4) [true, true, false, true, false, false, false, false, false, false] (TD (len + 2) cap 2) 5 =
    some ([decide ((1 : Int) < (((len + 2) : Nat) : Int)) = true, decide ((1 : Int) < 2) = true, inB 1 (len + 2), decide ((3 : Int) < (N : Int)) = false] ++ [inB 1 (len + 2), inB 1 (len + 2)] ++ fmO q N N ++ [inB 1 (len + 2), cvB (zI c 1) = true] ++ [inB 1 (len + 2), szB (sI c 1) = false] ++ eqO (h.ak (zI c 1) (sI c 1) N) (h.ac (zI c 1) (sI c 1) N) (h.ae (zI c 1) (sI c 1) N) e0 e0 1 ++ [inB 1 (len + 2), inB 1 (len + 2), bodyOf Tryz.prog 7 17 = bodyOf Tryz.prog 7 17, (TDl (len + 2) cap 1 2 N cp (h.ae (zI c 1) (sI c 1) N) (f.pe (zI c 1) (sI c 1)) 0, MR c (xsW 1 (.sl 2 0 N cp) xs) (len + 2) p1 (qPs q N) p3 p4 ++ [nB (h.ak (zI c 1) (sI c 1) N) (h.ac (zI c 1) (sI c 1) N), nB e0 e0, nB (f.pk (zI c 1) (sI c 1)) (f.pc (zI c 1) (sI c 1))]) = (TDl (len + 2) cap 1 2 N cp (h.ae (zI c 1) (sI c 1) N) (f.pe (zI c 1) (sI c 1)) 0, MR c (xsW 1 (.sl 2 0 N cp) xs) (len + 2) p1 (qPs q N) p3 p4 ++ [nB (h.ak (zI c 1) (sI c 1) N) (h.ac (zI c 1) (sI c 1) N), nB e0 e0, nB (f.pk (zI c 1) (sI c 1)) (f.pc (zI c 1) (sI c 1))]), wfS (TDl (len + 2) cap 1 2 N cp (h.ae (zI c 1) (sI c 1) N) (f.pe (zI c 1) (sI c 1)) 0) (MR c (xsW 1 (.sl 2 0 N cp) xs) (len + 2) p1 (qPs q N) p3 p4 ++ [nB (h.ak (zI c 1) (sI c 1) N) (h.ac (zI c 1) (sI c 1) N), nB e0 e0, nB (f.pk (zI c 1) (sI c 1)) (f.pc (zI c 1) (sI c 1))]) = true] ++ enO E' (h.ae (zI c 1) (sI c 1) N) 1, .normal, TD (len + 2) cap 2, MR c (xsW 1 (.sl 2 0 N cp) xs) (len + 2) p1 (qPs q N) p3 p4) := by kernel_rfl
theorem dt1la (f : DnF) (g : ChF) (h : DwF) (c : Cells) (len cap N cp : Nat) (xs : Nat → Atom) (q : Nat → Nat) (p1 p3 p4 : List Piece) (K' C' : ByteArray) (E' : Int) : runTo (addLp (E7d f g h q N) 17 (bodyOf Tryz.prog 7 17) (sumC (TDl (len + 2) cap 1 2 3 cp (h.ae (zI c 1) (sI c 1) 3) (f.pe (zI c 1) (sI c 1)) 0) (MR c (xsW 1 (.sl 2 0 N cp) xs) (len + 2) p1 (qPs q N) p3 p4 ++ [nB (h.ak (zI c 1) (sI c 1) 3) (h.ac (zI c 1) (sI c 1) 3), nB (h.bk (zI c 1) (sI c 1) 3) (h.bc (zI c 1) (sI c 1) 3), nB (f.pk (zI c 1) (sI c 1)) (f.pc (zI c 1) (sI c 1))]) (TDm (len + 2) cap 1 (h.ae (zI c 1) (sI c 1) 3) E') (MR c (xsW 1 (.sl 2 0 N cp) xs) (len + 2) p1 (qPs q N) p3 p4 ++ [nB (h.ak (zI c 1) (sI c 1) 3) (h.ac (zI c 1) (sI c 1) 3), nB (h.bk (zI c 1) (sI c 1) 3) (h.bc (zI c 1) (sI c 1) 3), nB K' C']) (.exit 2))) 1000 ((E7d f g h q N).S 7) (bodyOf Tryz.prog 7 4) (TD (len + 2) cap 1) (MR c (xsW 1 (.sl 2 0 N cp) xs) (len + 2) p1 (qPs q N) p3 p4) [true, true, true, true, true, false, false, false, true, false, true, true] (TD (len + 2) cap 2) 5 =
    some ([decide ((1 : Int) < (((len + 2) : Nat) : Int)) = true, decide ((1 : Int) < 2) = true, inB 1 (len + 2), decide ((3 : Int) < (N : Int)) = true, (0 : Int) ≤ 3 ∧ (3 : Int) ≤ (cp : Int)] ++ [inB 1 (len + 2), inB 1 (len + 2)] ++ fmO q 3 N ++ [inB 1 (len + 2), cvB (zI c 1) = true] ++ [inB 1 (len + 2), szB (sI c 1) = true] ++ [inB 1 (len + 2), inB 1 (len + 2)] ++ fmO q 3 N ++ pgO (zI c 1) (sI c 1) ++ eqO (h.ak (zI c 1) (sI c 1) 3) (h.ac (zI c 1) (sI c 1) 3) (h.ae (zI c 1) (sI c 1) 3) (h.bk (zI c 1) (sI c 1) 3) (h.bc (zI c 1) (sI c 1) 3) (h.be (zI c 1) (sI c 1) 3) ++ [inB 1 (len + 2), inB 1 (len + 2), bodyOf Tryz.prog 7 17 = bodyOf Tryz.prog 7 17, (TDl (len + 2) cap 1 2 3 cp (h.ae (zI c 1) (sI c 1) 3) (f.pe (zI c 1) (sI c 1)) 0, MR c (xsW 1 (.sl 2 0 N cp) xs) (len + 2) p1 (qPs q N) p3 p4 ++ [nB (h.ak (zI c 1) (sI c 1) 3) (h.ac (zI c 1) (sI c 1) 3), nB (h.bk (zI c 1) (sI c 1) 3) (h.bc (zI c 1) (sI c 1) 3), nB (f.pk (zI c 1) (sI c 1)) (f.pc (zI c 1) (sI c 1))]) = (TDl (len + 2) cap 1 2 3 cp (h.ae (zI c 1) (sI c 1) 3) (f.pe (zI c 1) (sI c 1)) 0, MR c (xsW 1 (.sl 2 0 N cp) xs) (len + 2) p1 (qPs q N) p3 p4 ++ [nB (h.ak (zI c 1) (sI c 1) 3) (h.ac (zI c 1) (sI c 1) 3), nB (h.bk (zI c 1) (sI c 1) 3) (h.bc (zI c 1) (sI c 1) 3), nB (f.pk (zI c 1) (sI c 1)) (f.pc (zI c 1) (sI c 1))]), wfS (TDl (len + 2) cap 1 2 3 cp (h.ae (zI c 1) (sI c 1) 3) (f.pe (zI c 1) (sI c 1)) 0) (MR c (xsW 1 (.sl 2 0 N cp) xs) (len + 2) p1 (qPs q N) p3 p4 ++ [nB (h.ak (zI c 1) (sI c 1) 3) (h.ac (zI c 1) (sI c 1) 3), nB (h.bk (zI c 1) (sI c 1) 3) (h.bc (zI c 1) (sI c 1) 3), nB (f.pk (zI c 1) (sI c 1)) (f.pc (zI c 1) (sI c 1))]) = true] ++ ezO g (zI c 1) K' C' (h.ak (zI c 1) (sI c 1) 3) (h.ac (zI c 1) (sI c 1) 3) E' (h.ae (zI c 1) (sI c 1) 3) 1 (len + 2), .normal, TD (len + 2) cap 2, MR c (xsW 1 (.sl 2 0 N cp) xs) (len + 2) p1 (qPs q N) p3 p4) := by kernel_rfl
theorem dt1lb (f : DnF) (g : ChF) (h : DwF) (c : Cells) (len cap N cp : Nat) (xs : Nat → Atom) (q : Nat → Nat) (p1 p3 p4 : List Piece) (K' C' : ByteArray) (E' : Int) : runTo (addLp (E7d f g h q N) 17 (bodyOf Tryz.prog 7 17) (sumC (TDl (len + 2) cap 1 2 3 cp (h.ae (zI c 1) (sI c 1) 3) (f.pe (zI c 1) (sI c 1)) 0) (MR c (xsW 1 (.sl 2 0 N cp) xs) (len + 2) p1 (qPs q N) p3 p4 ++ [nB (h.ak (zI c 1) (sI c 1) 3) (h.ac (zI c 1) (sI c 1) 3), nB (h.bk (zI c 1) (sI c 1) 3) (h.bc (zI c 1) (sI c 1) 3), nB (f.pk (zI c 1) (sI c 1)) (f.pc (zI c 1) (sI c 1))]) (TDm (len + 2) cap 1 (h.ae (zI c 1) (sI c 1) 3) E') (MR c (xsW 1 (.sl 2 0 N cp) xs) (len + 2) p1 (qPs q N) p3 p4 ++ [nB (h.ak (zI c 1) (sI c 1) 3) (h.ac (zI c 1) (sI c 1) 3), nB (h.bk (zI c 1) (sI c 1) 3) (h.bc (zI c 1) (sI c 1) 3), nB K' C']) (.exit 2))) 1000 ((E7d f g h q N).S 7) (bodyOf Tryz.prog 7 4) (TD (len + 2) cap 1) (MR c (xsW 1 (.sl 2 0 N cp) xs) (len + 2) p1 (qPs q N) p3 p4) [true, true, true, true, true, false, false, false, false, false] (TD (len + 2) cap 2) 5 =
    some ([decide ((1 : Int) < (((len + 2) : Nat) : Int)) = true, decide ((1 : Int) < 2) = true, inB 1 (len + 2), decide ((3 : Int) < (N : Int)) = true, (0 : Int) ≤ 3 ∧ (3 : Int) ≤ (cp : Int)] ++ [inB 1 (len + 2), inB 1 (len + 2)] ++ fmO q 3 N ++ [inB 1 (len + 2), cvB (zI c 1) = true] ++ [inB 1 (len + 2), szB (sI c 1) = true] ++ [inB 1 (len + 2), inB 1 (len + 2)] ++ fmO q 3 N ++ pgO (zI c 1) (sI c 1) ++ eqO (h.ak (zI c 1) (sI c 1) 3) (h.ac (zI c 1) (sI c 1) 3) (h.ae (zI c 1) (sI c 1) 3) (h.bk (zI c 1) (sI c 1) 3) (h.bc (zI c 1) (sI c 1) 3) (h.be (zI c 1) (sI c 1) 3) ++ [inB 1 (len + 2), inB 1 (len + 2), bodyOf Tryz.prog 7 17 = bodyOf Tryz.prog 7 17, (TDl (len + 2) cap 1 2 3 cp (h.ae (zI c 1) (sI c 1) 3) (f.pe (zI c 1) (sI c 1)) 0, MR c (xsW 1 (.sl 2 0 N cp) xs) (len + 2) p1 (qPs q N) p3 p4 ++ [nB (h.ak (zI c 1) (sI c 1) 3) (h.ac (zI c 1) (sI c 1) 3), nB (h.bk (zI c 1) (sI c 1) 3) (h.bc (zI c 1) (sI c 1) 3), nB (f.pk (zI c 1) (sI c 1)) (f.pc (zI c 1) (sI c 1))]) = (TDl (len + 2) cap 1 2 3 cp (h.ae (zI c 1) (sI c 1) 3) (f.pe (zI c 1) (sI c 1)) 0, MR c (xsW 1 (.sl 2 0 N cp) xs) (len + 2) p1 (qPs q N) p3 p4 ++ [nB (h.ak (zI c 1) (sI c 1) 3) (h.ac (zI c 1) (sI c 1) 3), nB (h.bk (zI c 1) (sI c 1) 3) (h.bc (zI c 1) (sI c 1) 3), nB (f.pk (zI c 1) (sI c 1)) (f.pc (zI c 1) (sI c 1))]), wfS (TDl (len + 2) cap 1 2 3 cp (h.ae (zI c 1) (sI c 1) 3) (f.pe (zI c 1) (sI c 1)) 0) (MR c (xsW 1 (.sl 2 0 N cp) xs) (len + 2) p1 (qPs q N) p3 p4 ++ [nB (h.ak (zI c 1) (sI c 1) 3) (h.ac (zI c 1) (sI c 1) 3), nB (h.bk (zI c 1) (sI c 1) 3) (h.bc (zI c 1) (sI c 1) 3), nB (f.pk (zI c 1) (sI c 1)) (f.pc (zI c 1) (sI c 1))]) = true] ++ enO E' (h.ae (zI c 1) (sI c 1) 3) 1, .normal, TD (len + 2) cap 2, MR c (xsW 1 (.sl 2 0 N cp) xs) (len + 2) p1 (qPs q N) p3 p4) := by kernel_rfl
theorem dt1lc (f : DnF) (g : ChF) (h : DwF) (c : Cells) (len cap N cp : Nat) (xs : Nat → Atom) (q : Nat → Nat) (p1 p3 p4 : List Piece) (K' C' : ByteArray) (E' : Int) : runTo (addLp (E7d f g h q N) 17 (bodyOf Tryz.prog 7 17) (sumC (TDl (len + 2) cap 1 2 3 cp (h.ae (zI c 1) (sI c 1) 3) (f.pe (zI c 1) (sI c 1)) 0) (MR c (xsW 1 (.sl 2 0 N cp) xs) (len + 2) p1 (qPs q N) p3 p4 ++ [nB (h.ak (zI c 1) (sI c 1) 3) (h.ac (zI c 1) (sI c 1) 3), nB e0 e0, nB (f.pk (zI c 1) (sI c 1)) (f.pc (zI c 1) (sI c 1))]) (TDm (len + 2) cap 1 (h.ae (zI c 1) (sI c 1) 3) E') (MR c (xsW 1 (.sl 2 0 N cp) xs) (len + 2) p1 (qPs q N) p3 p4 ++ [nB (h.ak (zI c 1) (sI c 1) 3) (h.ac (zI c 1) (sI c 1) 3), nB e0 e0, nB K' C']) (.exit 2))) 1000 ((E7d f g h q N).S 7) (bodyOf Tryz.prog 7 4) (TD (len + 2) cap 1) (MR c (xsW 1 (.sl 2 0 N cp) xs) (len + 2) p1 (qPs q N) p3 p4) [true, true, true, false, false, false, false, false, false] (TD (len + 2) cap 2) 5 =
    some ([decide ((1 : Int) < (((len + 2) : Nat) : Int)) = true, decide ((1 : Int) < 2) = true, inB 1 (len + 2), decide ((3 : Int) < (N : Int)) = true, (0 : Int) ≤ 3 ∧ (3 : Int) ≤ (cp : Int)] ++ [inB 1 (len + 2), inB 1 (len + 2)] ++ fmO q 3 N ++ [inB 1 (len + 2), cvB (zI c 1) = false] ++ eqO (h.ak (zI c 1) (sI c 1) 3) (h.ac (zI c 1) (sI c 1) 3) (h.ae (zI c 1) (sI c 1) 3) e0 e0 1 ++ [inB 1 (len + 2), inB 1 (len + 2), bodyOf Tryz.prog 7 17 = bodyOf Tryz.prog 7 17, (TDl (len + 2) cap 1 2 3 cp (h.ae (zI c 1) (sI c 1) 3) (f.pe (zI c 1) (sI c 1)) 0, MR c (xsW 1 (.sl 2 0 N cp) xs) (len + 2) p1 (qPs q N) p3 p4 ++ [nB (h.ak (zI c 1) (sI c 1) 3) (h.ac (zI c 1) (sI c 1) 3), nB e0 e0, nB (f.pk (zI c 1) (sI c 1)) (f.pc (zI c 1) (sI c 1))]) = (TDl (len + 2) cap 1 2 3 cp (h.ae (zI c 1) (sI c 1) 3) (f.pe (zI c 1) (sI c 1)) 0, MR c (xsW 1 (.sl 2 0 N cp) xs) (len + 2) p1 (qPs q N) p3 p4 ++ [nB (h.ak (zI c 1) (sI c 1) 3) (h.ac (zI c 1) (sI c 1) 3), nB e0 e0, nB (f.pk (zI c 1) (sI c 1)) (f.pc (zI c 1) (sI c 1))]), wfS (TDl (len + 2) cap 1 2 3 cp (h.ae (zI c 1) (sI c 1) 3) (f.pe (zI c 1) (sI c 1)) 0) (MR c (xsW 1 (.sl 2 0 N cp) xs) (len + 2) p1 (qPs q N) p3 p4 ++ [nB (h.ak (zI c 1) (sI c 1) 3) (h.ac (zI c 1) (sI c 1) 3), nB e0 e0, nB (f.pk (zI c 1) (sI c 1)) (f.pc (zI c 1) (sI c 1))]) = true] ++ enO E' (h.ae (zI c 1) (sI c 1) 3) 1, .normal, TD (len + 2) cap 2, MR c (xsW 1 (.sl 2 0 N cp) xs) (len + 2) p1 (qPs q N) p3 p4) := by kernel_rfl
theorem dt1ld (f : DnF) (g : ChF) (h : DwF) (c : Cells) (len cap N cp : Nat) (xs : Nat → Atom) (q : Nat → Nat) (p1 p3 p4 : List Piece) (K' C' : ByteArray) (E' : Int) : runTo (addLp (E7d f g h q N) 17 (bodyOf Tryz.prog 7 17) (sumC (TDl (len + 2) cap 1 2 3 cp (h.ae (zI c 1) (sI c 1) 3) (f.pe (zI c 1) (sI c 1)) 0) (MR c (xsW 1 (.sl 2 0 N cp) xs) (len + 2) p1 (qPs q N) p3 p4 ++ [nB (h.ak (zI c 1) (sI c 1) 3) (h.ac (zI c 1) (sI c 1) 3), nB e0 e0, nB (f.pk (zI c 1) (sI c 1)) (f.pc (zI c 1) (sI c 1))]) (TDm (len + 2) cap 1 (h.ae (zI c 1) (sI c 1) 3) E') (MR c (xsW 1 (.sl 2 0 N cp) xs) (len + 2) p1 (qPs q N) p3 p4 ++ [nB (h.ak (zI c 1) (sI c 1) 3) (h.ac (zI c 1) (sI c 1) 3), nB e0 e0, nB K' C']) (.exit 2))) 1000 ((E7d f g h q N).S 7) (bodyOf Tryz.prog 7 4) (TD (len + 2) cap 1) (MR c (xsW 1 (.sl 2 0 N cp) xs) (len + 2) p1 (qPs q N) p3 p4) [true, true, true, true, false, false, false, false, false, false] (TD (len + 2) cap 2) 5 =
    some ([decide ((1 : Int) < (((len + 2) : Nat) : Int)) = true, decide ((1 : Int) < 2) = true, inB 1 (len + 2), decide ((3 : Int) < (N : Int)) = true, (0 : Int) ≤ 3 ∧ (3 : Int) ≤ (cp : Int)] ++ [inB 1 (len + 2), inB 1 (len + 2)] ++ fmO q 3 N ++ [inB 1 (len + 2), cvB (zI c 1) = true] ++ [inB 1 (len + 2), szB (sI c 1) = false] ++ eqO (h.ak (zI c 1) (sI c 1) 3) (h.ac (zI c 1) (sI c 1) 3) (h.ae (zI c 1) (sI c 1) 3) e0 e0 1 ++ [inB 1 (len + 2), inB 1 (len + 2), bodyOf Tryz.prog 7 17 = bodyOf Tryz.prog 7 17, (TDl (len + 2) cap 1 2 3 cp (h.ae (zI c 1) (sI c 1) 3) (f.pe (zI c 1) (sI c 1)) 0, MR c (xsW 1 (.sl 2 0 N cp) xs) (len + 2) p1 (qPs q N) p3 p4 ++ [nB (h.ak (zI c 1) (sI c 1) 3) (h.ac (zI c 1) (sI c 1) 3), nB e0 e0, nB (f.pk (zI c 1) (sI c 1)) (f.pc (zI c 1) (sI c 1))]) = (TDl (len + 2) cap 1 2 3 cp (h.ae (zI c 1) (sI c 1) 3) (f.pe (zI c 1) (sI c 1)) 0, MR c (xsW 1 (.sl 2 0 N cp) xs) (len + 2) p1 (qPs q N) p3 p4 ++ [nB (h.ak (zI c 1) (sI c 1) 3) (h.ac (zI c 1) (sI c 1) 3), nB e0 e0, nB (f.pk (zI c 1) (sI c 1)) (f.pc (zI c 1) (sI c 1))]), wfS (TDl (len + 2) cap 1 2 3 cp (h.ae (zI c 1) (sI c 1) 3) (f.pe (zI c 1) (sI c 1)) 0) (MR c (xsW 1 (.sl 2 0 N cp) xs) (len + 2) p1 (qPs q N) p3 p4 ++ [nB (h.ak (zI c 1) (sI c 1) 3) (h.ac (zI c 1) (sI c 1) 3), nB e0 e0, nB (f.pk (zI c 1) (sI c 1)) (f.pc (zI c 1) (sI c 1))]) = true] ++ enO E' (h.ae (zI c 1) (sI c 1) 3) 1, .normal, TD (len + 2) cap 2, MR c (xsW 1 (.sl 2 0 N cp) xs) (len + 2) p1 (qPs q N) p3 p4) := by kernel_rfl
end Go.Ev.H5

namespace Go.Ev.H5
open Go Go.Proofs Go.RowKit
set_option maxRecDepth 100000
def fn18n (f : DnF) (vs : List V1) : Option (List Prop × AV) := match vs with | [.one (.i z), .one (.v (.string s)), .one (.v (.slice _ 0 _))] => some ([], res (f.pk z s) (f.pc z s) (f.pe z s)) | _ => none
def fn21n (f : DnF) (vs : List V1) : Option (List Prop × AV) := match vs with | [.one (.i z), .one (.v (.string s)), .one (.v (.slice _ 0 _))] => some ([z = 1 ∨ z = 2, s.size ≤ 1000000], res (f.jk z s) (f.jc z s) (f.je z s)) | _ => none
theorem r18n (o : Option Addr) (cp : Nat) (f : DnF) (g : ChF) (q : Nat → Nat) (z : Int) (s : ByteArray) : callR (EDn f g q) 1000 18 [.one (.i z), sS s, .one (.v (.slice o 0 cp))] [false] = some ([decide ((0 : Int) < ((0 : Nat) : Int)) = false], res (f.pk z s) (f.pc z s) (f.pe z s)) := by kernel_rfl
theorem r21ny (o : Option Addr) (cp : Nat) (f : DnF) (g : ChF) (q : Nat → Nat) (z : Int) (s : ByteArray) : callR (EDn f g q) 1000 21 [.one (.i z), sS s, .one (.v (.slice o 0 cp))] [false, false] = some ([z = 1 ∨ z = 2, s.size ≤ 1000000, decide ((0 : Int) < ((0 : Nat) : Int)) = false, (!decide (f.je z s = 0)) = false], res (f.jk z s) (f.jc z s) 0) := by kernel_rfl
theorem r21nn (o : Option Addr) (cp : Nat) (f : DnF) (g : ChF) (q : Nat → Nat) (z : Int) (s : ByteArray) : callR (EDn f g q) 1000 21 [.one (.i z), sS s, .one (.v (.slice o 0 cp))] [false, true] = some ([z = 1 ∨ z = 2, s.size ≤ 1000000, decide ((0 : Int) < ((0 : Nat) : Int)) = false, (!decide (f.je z s = 0)) = true], res e0 e0 (f.je z s)) := by kernel_rfl
theorem ct18n : CTok ⟨18, fn18n dnF⟩ := by
  intro vs ob r h ho
  simp only [fn18n] at h
  split at h
  · simp only [Option.some.injEq, Prod.mk.injEq] at h
    obtain ⟨rfl, rfl⟩ := h
    exact spec_run (envDn fun _ => 0) rfl (r18n _ _ dnF chF (fun _ => 0) _ _) ⟨by decide, trivial⟩ rfl rfl
  · simp at h
theorem ct21n : CTok ⟨21, fn21n dnF⟩ := by
  intro vs ob r h ho
  simp only [fn21n] at h
  split at h
  · rename_i z s o cp
    simp only [Option.some.injEq, Prod.mk.injEq] at h
    obtain ⟨rfl, rfl⟩ := h
    obtain ⟨h1, h2, _⟩ := ho
    by_cases he : dnF.je z s = 0
    · have := spec_run (envDn fun _ => 0) rfl (r21ny o cp dnF chF (fun _ => 0) z s) ⟨h1, h2, by decide, by rw [decide_eq_true he]; rfl, trivial⟩ rfl rfl
      rw [he]
      exact this
    · have := spec_run (envDn fun _ => 0) rfl (r21nn o cp dnF chF (fun _ => 0) z s) ⟨h1, h2, by decide, by rw [decide_eq_false he]; rfl, trivial⟩ rfl rfl
      have he' : msE z s ≠ 0 := he
      obtain ⟨e1, e2⟩ := ms_err he'
      rw [show dnF.jk z s = e0 from e1, show dnF.jc z s = e0 from e2]
      exact this
  · simp at h
noncomputable def E7n (f : DnF) (g : ChF) : Env := mkE (⟨18, fn18n f⟩ :: ⟨21, fn21n f⟩ :: L7d f g fun _ => 0) S7d
theorem dx0a (f : DnF) (g : ChF) (c : Cells) (len cap : Nat) (o : Option Addr) (cp : Nat) (xs : Nat → Atom) (p1 p2 p3 p4 : List Piece) : runTo (E7n f g) 1000 ((E7n f g).S 7) (bodyOf Tryz.prog 7 4) (TD (len + 1) cap 0) (MR c (xsW 0 (.v (.slice o 0 cp)) xs) (len + 1) p1 p2 p3 p4) [true, true, false, true, true, false, false, false, false, true, false, true, true] (TD (len + 1) cap 1) 5 =
    some ([decide ((0 : Int) < (((len + 1) : Nat) : Int)) = true, decide ((0 : Int) < 2) = true, inB 0 (len + 1), decide ((3 : Int) < ((0 : Nat) : Int)) = false] ++ [inB 0 (len + 1), inB 0 (len + 1)] ++ [inB 0 (len + 1), cvB (zI c 0) = true] ++ [inB 0 (len + 1), szB (sI c 0) = true] ++ [inB 0 (len + 1), inB 0 (len + 1)] ++ pgO (zI c 0) (sI c 0) ++ eqO (f.pk (zI c 0) (sI c 0)) (f.pc (zI c 0) (sI c 0)) (f.pe (zI c 0) (sI c 0)) (f.jk (zI c 0) (sI c 0)) (f.jc (zI c 0) (sI c 0)) (f.je (zI c 0) (sI c 0)) ++ [inB 0 (len + 1), inB 0 (len + 1), decide ((0 : Int) < ((0 : Nat) : Int)) = false] ++ ezO g (zI c 0) (f.pk (zI c 0) (sI c 0)) (f.pc (zI c 0) (sI c 0)) (f.pk (zI c 0) (sI c 0)) (f.pc (zI c 0) (sI c 0)) (f.pe (zI c 0) (sI c 0)) (f.pe (zI c 0) (sI c 0)) 0 (len + 1), .normal, TD (len + 1) cap 1, MR c (xsW 0 (.v (.slice o 0 cp)) xs) (len + 1) p1 p2 p3 p4) := by kernel_rfl
theorem dx0b (f : DnF) (g : ChF) (c : Cells) (len cap : Nat) (o : Option Addr) (cp : Nat) (xs : Nat → Atom) (p1 p2 p3 p4 : List Piece) : runTo (E7n f g) 1000 ((E7n f g).S 7) (bodyOf Tryz.prog 7 4) (TD (len + 1) cap 0) (MR c (xsW 0 (.v (.slice o 0 cp)) xs) (len + 1) p1 p2 p3 p4) [true, true, false, true, true, false, false, false, false, false, false] (TD (len + 1) cap 1) 5 =
    some ([decide ((0 : Int) < (((len + 1) : Nat) : Int)) = true, decide ((0 : Int) < 2) = true, inB 0 (len + 1), decide ((3 : Int) < ((0 : Nat) : Int)) = false] ++ [inB 0 (len + 1), inB 0 (len + 1)] ++ [inB 0 (len + 1), cvB (zI c 0) = true] ++ [inB 0 (len + 1), szB (sI c 0) = true] ++ [inB 0 (len + 1), inB 0 (len + 1)] ++ pgO (zI c 0) (sI c 0) ++ eqO (f.pk (zI c 0) (sI c 0)) (f.pc (zI c 0) (sI c 0)) (f.pe (zI c 0) (sI c 0)) (f.jk (zI c 0) (sI c 0)) (f.jc (zI c 0) (sI c 0)) (f.je (zI c 0) (sI c 0)) ++ [inB 0 (len + 1), inB 0 (len + 1), decide ((0 : Int) < ((0 : Nat) : Int)) = false] ++ enO (f.pe (zI c 0) (sI c 0)) (f.pe (zI c 0) (sI c 0)) 0, .normal, TD (len + 1) cap 1, MR c (xsW 0 (.v (.slice o 0 cp)) xs) (len + 1) p1 p2 p3 p4) := by kernel_rfl
theorem dx0c (f : DnF) (g : ChF) (c : Cells) (len cap : Nat) (o : Option Addr) (cp : Nat) (xs : Nat → Atom) (p1 p2 p3 p4 : List Piece) : runTo (E7n f g) 1000 ((E7n f g).S 7) (bodyOf Tryz.prog 7 4) (TD (len + 1) cap 0) (MR c (xsW 0 (.v (.slice o 0 cp)) xs) (len + 1) p1 p2 p3 p4) [true, true, false, false, false, false, false, false, false, false] (TD (len + 1) cap 1) 5 =
    some ([decide ((0 : Int) < (((len + 1) : Nat) : Int)) = true, decide ((0 : Int) < 2) = true, inB 0 (len + 1), decide ((3 : Int) < ((0 : Nat) : Int)) = false] ++ [inB 0 (len + 1), inB 0 (len + 1)] ++ [inB 0 (len + 1), cvB (zI c 0) = false] ++ eqO (f.pk (zI c 0) (sI c 0)) (f.pc (zI c 0) (sI c 0)) (f.pe (zI c 0) (sI c 0)) e0 e0 1 ++ [inB 0 (len + 1), inB 0 (len + 1), decide ((0 : Int) < ((0 : Nat) : Int)) = false] ++ enO (f.pe (zI c 0) (sI c 0)) (f.pe (zI c 0) (sI c 0)) 0, .normal, TD (len + 1) cap 1, MR c (xsW 0 (.v (.slice o 0 cp)) xs) (len + 1) p1 p2 p3 p4) := by kernel_rfl
theorem dx0d (f : DnF) (g : ChF) (c : Cells) (len cap : Nat) (o : Option Addr) (cp : Nat) (xs : Nat → Atom) (p1 p2 p3 p4 : List Piece) : runTo (E7n f g) 1000 ((E7n f g).S 7) (bodyOf Tryz.prog 7 4) (TD (len + 1) cap 0) (MR c (xsW 0 (.v (.slice o 0 cp)) xs) (len + 1) p1 p2 p3 p4) [true, true, false, true, false, false, false, false, false, false, false] (TD (len + 1) cap 1) 5 =
    some ([decide ((0 : Int) < (((len + 1) : Nat) : Int)) = true, decide ((0 : Int) < 2) = true, inB 0 (len + 1), decide ((3 : Int) < ((0 : Nat) : Int)) = false] ++ [inB 0 (len + 1), inB 0 (len + 1)] ++ [inB 0 (len + 1), cvB (zI c 0) = true] ++ [inB 0 (len + 1), szB (sI c 0) = false] ++ eqO (f.pk (zI c 0) (sI c 0)) (f.pc (zI c 0) (sI c 0)) (f.pe (zI c 0) (sI c 0)) e0 e0 1 ++ [inB 0 (len + 1), inB 0 (len + 1), decide ((0 : Int) < ((0 : Nat) : Int)) = false] ++ enO (f.pe (zI c 0) (sI c 0)) (f.pe (zI c 0) (sI c 0)) 0, .normal, TD (len + 1) cap 1, MR c (xsW 0 (.v (.slice o 0 cp)) xs) (len + 1) p1 p2 p3 p4) := by kernel_rfl
theorem dx1a (f : DnF) (g : ChF) (c : Cells) (len cap : Nat) (o : Option Addr) (cp : Nat) (xs : Nat → Atom) (p1 p2 p3 p4 : List Piece) : runTo (E7n f g) 1000 ((E7n f g).S 7) (bodyOf Tryz.prog 7 4) (TD (len + 2) cap 1) (MR c (xsW 1 (.v (.slice o 0 cp)) xs) (len + 2) p1 p2 p3 p4) [true, true, false, true, true, false, false, false, false, true, false, true, true] (TD (len + 2) cap 2) 5 =
    some ([decide ((1 : Int) < (((len + 2) : Nat) : Int)) = true, decide ((1 : Int) < 2) = true, inB 1 (len + 2), decide ((3 : Int) < ((0 : Nat) : Int)) = false] ++ [inB 1 (len + 2), inB 1 (len + 2)] ++ [inB 1 (len + 2), cvB (zI c 1) = true] ++ [inB 1 (len + 2), szB (sI c 1) = true] ++ [inB 1 (len + 2), inB 1 (len + 2)] ++ pgO (zI c 1) (sI c 1) ++ eqO (f.pk (zI c 1) (sI c 1)) (f.pc (zI c 1) (sI c 1)) (f.pe (zI c 1) (sI c 1)) (f.jk (zI c 1) (sI c 1)) (f.jc (zI c 1) (sI c 1)) (f.je (zI c 1) (sI c 1)) ++ [inB 1 (len + 2), inB 1 (len + 2), decide ((0 : Int) < ((0 : Nat) : Int)) = false] ++ ezO g (zI c 1) (f.pk (zI c 1) (sI c 1)) (f.pc (zI c 1) (sI c 1)) (f.pk (zI c 1) (sI c 1)) (f.pc (zI c 1) (sI c 1)) (f.pe (zI c 1) (sI c 1)) (f.pe (zI c 1) (sI c 1)) 1 (len + 2), .normal, TD (len + 2) cap 2, MR c (xsW 1 (.v (.slice o 0 cp)) xs) (len + 2) p1 p2 p3 p4) := by kernel_rfl
theorem dx1b (f : DnF) (g : ChF) (c : Cells) (len cap : Nat) (o : Option Addr) (cp : Nat) (xs : Nat → Atom) (p1 p2 p3 p4 : List Piece) : runTo (E7n f g) 1000 ((E7n f g).S 7) (bodyOf Tryz.prog 7 4) (TD (len + 2) cap 1) (MR c (xsW 1 (.v (.slice o 0 cp)) xs) (len + 2) p1 p2 p3 p4) [true, true, false, true, true, false, false, false, false, false, false] (TD (len + 2) cap 2) 5 =
    some ([decide ((1 : Int) < (((len + 2) : Nat) : Int)) = true, decide ((1 : Int) < 2) = true, inB 1 (len + 2), decide ((3 : Int) < ((0 : Nat) : Int)) = false] ++ [inB 1 (len + 2), inB 1 (len + 2)] ++ [inB 1 (len + 2), cvB (zI c 1) = true] ++ [inB 1 (len + 2), szB (sI c 1) = true] ++ [inB 1 (len + 2), inB 1 (len + 2)] ++ pgO (zI c 1) (sI c 1) ++ eqO (f.pk (zI c 1) (sI c 1)) (f.pc (zI c 1) (sI c 1)) (f.pe (zI c 1) (sI c 1)) (f.jk (zI c 1) (sI c 1)) (f.jc (zI c 1) (sI c 1)) (f.je (zI c 1) (sI c 1)) ++ [inB 1 (len + 2), inB 1 (len + 2), decide ((0 : Int) < ((0 : Nat) : Int)) = false] ++ enO (f.pe (zI c 1) (sI c 1)) (f.pe (zI c 1) (sI c 1)) 1, .normal, TD (len + 2) cap 2, MR c (xsW 1 (.v (.slice o 0 cp)) xs) (len + 2) p1 p2 p3 p4) := by kernel_rfl
theorem dx1c (f : DnF) (g : ChF) (c : Cells) (len cap : Nat) (o : Option Addr) (cp : Nat) (xs : Nat → Atom) (p1 p2 p3 p4 : List Piece) : runTo (E7n f g) 1000 ((E7n f g).S 7) (bodyOf Tryz.prog 7 4) (TD (len + 2) cap 1) (MR c (xsW 1 (.v (.slice o 0 cp)) xs) (len + 2) p1 p2 p3 p4) [true, true, false, false, false, false, false, false, false, false] (TD (len + 2) cap 2) 5 =
    some ([decide ((1 : Int) < (((len + 2) : Nat) : Int)) = true, decide ((1 : Int) < 2) = true, inB 1 (len + 2), decide ((3 : Int) < ((0 : Nat) : Int)) = false] ++ [inB 1 (len + 2), inB 1 (len + 2)] ++ [inB 1 (len + 2), cvB (zI c 1) = false] ++ eqO (f.pk (zI c 1) (sI c 1)) (f.pc (zI c 1) (sI c 1)) (f.pe (zI c 1) (sI c 1)) e0 e0 1 ++ [inB 1 (len + 2), inB 1 (len + 2), decide ((0 : Int) < ((0 : Nat) : Int)) = false] ++ enO (f.pe (zI c 1) (sI c 1)) (f.pe (zI c 1) (sI c 1)) 1, .normal, TD (len + 2) cap 2, MR c (xsW 1 (.v (.slice o 0 cp)) xs) (len + 2) p1 p2 p3 p4) := by kernel_rfl
theorem dx1d (f : DnF) (g : ChF) (c : Cells) (len cap : Nat) (o : Option Addr) (cp : Nat) (xs : Nat → Atom) (p1 p2 p3 p4 : List Piece) : runTo (E7n f g) 1000 ((E7n f g).S 7) (bodyOf Tryz.prog 7 4) (TD (len + 2) cap 1) (MR c (xsW 1 (.v (.slice o 0 cp)) xs) (len + 2) p1 p2 p3 p4) [true, true, false, true, false, false, false, false, false, false, false] (TD (len + 2) cap 2) 5 =
    some ([decide ((1 : Int) < (((len + 2) : Nat) : Int)) = true, decide ((1 : Int) < 2) = true, inB 1 (len + 2), decide ((3 : Int) < ((0 : Nat) : Int)) = false] ++ [inB 1 (len + 2), inB 1 (len + 2)] ++ [inB 1 (len + 2), cvB (zI c 1) = true] ++ [inB 1 (len + 2), szB (sI c 1) = false] ++ eqO (f.pk (zI c 1) (sI c 1)) (f.pc (zI c 1) (sI c 1)) (f.pe (zI c 1) (sI c 1)) e0 e0 1 ++ [inB 1 (len + 2), inB 1 (len + 2), decide ((0 : Int) < ((0 : Nat) : Int)) = false] ++ enO (f.pe (zI c 1) (sI c 1)) (f.pe (zI c 1) (sI c 1)) 1, .normal, TD (len + 2) cap 2, MR c (xsW 1 (.v (.slice o 0 cp)) xs) (len + 2) p1 p2 p3 p4) := by kernel_rfl
theorem dy1 (f : DnF) (g : ChF) (c : Cells) (len cap : Nat) (i : Int) (xs : Nat → Atom) (p1 p2 p3 p4 : List Piece) : runTo (E7n f g) 1000 ((E7n f g).S 7) (bodyOf Tryz.prog 7 4) (TD len cap i) (MR c xs len p1 p2 p3 p4) [false] (TDx len cap) 5 =
    some ([decide (i < (len : Int)) = false], .exit 0, TDx len cap, MR c xs len p1 p2 p3 p4) := by kernel_rfl
theorem dy2 (f : DnF) (g : ChF) (c : Cells) (len cap : Nat) (i : Int) (xs : Nat → Atom) (p1 p2 p3 p4 : List Piece) : runTo (E7n f g) 1000 ((E7n f g).S 7) (bodyOf Tryz.prog 7 4) (TD len cap i) (MR c xs len p1 p2 p3 p4) [true, false] (TDx len cap) 5 =
    some ([decide (i < (len : Int)) = true, decide (i < 2) = false], .exit 0, TDx len cap, MR c xs len p1 p2 p3 p4) := by kernel_rfl
noncomputable def E7y (f : DnF) (g : ChF) (c : Cells) (s : Sub) (l : Lits) (m cap : Nat) : Env := addM' (addLp (E7n f g) 4 (bodyOf Tryz.prog 7 4) (sumC (TD m cap 0) (MW c s m) (TDx m cap) (MW c s m) (.exit 0))) (fmW c (xsS s) l m)
theorem w7t (f : DnF) (g : ChF) (c : Cells) (s : Sub) (l : Lits) (m cap : Nat) : dropM (callBy (E7y f g c s l m cap) (evalC (E7y f g c s l m cap) 1000) 7 [.one (.sl 0 0 m cap)] (MW c s m) [true]) =
    some ([decide (2000 < hvX c l m 0 (m : Int)) = true] ++ ob9 c s l m, bV true) := by kernel_rfl
theorem w7f (f : DnF) (g : ChF) (c : Cells) (s : Sub) (l : Lits) (m cap : Nat) : dropM (callBy (E7y f g c s l m cap) (evalC (E7y f g c s l m cap) 1000) 7 [.one (.sl 0 0 m cap)] (MW c s m) [false]) =
    some ([decide (2000 < hvX c l m 0 (m : Int)) = false] ++ ob9 c s l m ++ [bodyOf Tryz.prog 7 4 = bodyOf Tryz.prog 7 4, (TD m cap 0, MW c s m) = (TD m cap 0, MW c s m), wfS (TD m cap 0) (MW c s m) = true], bV true) := by kernel_rfl
noncomputable def E7z (f : DnF) (g : ChF) : Env := mkE (⟨9, fnN9⟩ :: L7d f g fun _ => 0) S7d
theorem w7n (f : DnF) (g : ChF) : dropM (callBy (E7z f g) (evalC (E7z f g) 1000) 7 [nilV] [] [false, false]) = some ([false = false, decide ((0 : Int) < ((0 : Nat) : Int)) = false], bV true) := by kernel_rfl
end Go.Ev.H5

namespace Go.Ev.H5
open Go Go.Proofs Go.RowKit
set_option maxRecDepth 100000
theorem r13d (z : Int) : callR E0 1000 13 [.one (.i z)] [] = some ([], iV z) := by kernel_rfl
theorem ct13 : CTok ⟨13, fn13⟩ := by
  intro vs ob r h ho
  simp only [fn13] at h
  split at h
  · simp only [Option.some.injEq, Prod.mk.injEq] at h
    obtain ⟨rfl, rfl⟩ := h
    exact spec_run envE0 rfl (r13d _) trivial rfl rfl
  · simp at h
def S19 : FuncId → Nat → Bool := fun f t => match f with | 19 => memN t [4, 7] | 20 => memN t [5, 9] | _ => false
noncomputable def E19 : Env := mkE [] S19
theorem envE19 : EnvOK E19 := envMk (L := []) trivial S19
theorem r19a (z : Int) : callR E19 1000 19 [.one (.i z)] [true] = some ([decide (z = 1) = true], bV true) := by kernel_rfl
theorem r19b (z : Int) (b : Bool) : callR E19 1000 19 [.one (.i z)] [false, b] = some ([decide (z = 1) = false, decide (z = 2) = b], bV b) := by cases b <;> kernel_rfl
theorem ct19 : CTok ⟨19, fn19⟩ := by
  intro vs ob r h ho
  simp only [fn19] at h
  split at h
  · rename_i z
    simp only [Option.some.injEq, Prod.mk.injEq] at h
    obtain ⟨rfl, rfl⟩ := h
    unfold cvB
    by_cases h1 : z = 1
    · rw [decide_eq_true h1, Bool.true_or]
      exact spec_run envE19 rfl (r19a z) ⟨decide_eq_true h1, trivial⟩ rfl rfl
    · rw [decide_eq_false h1, Bool.false_or]
      exact spec_run envE19 rfl (r19b z (decide (z = 2))) ⟨decide_eq_false h1, rfl, trivial⟩ rfl rfl
  · simp at h
theorem r20a (s : ByteArray) : callR E19 1000 20 [sS s] [false] = some ([decide ((16 : Int) ≤ (s.size : Int)) = false], bV false) := by kernel_rfl
theorem r20b (s : ByteArray) (b : Bool) : callR E19 1000 20 [sS s] [true, b] = some ([decide ((16 : Int) ≤ (s.size : Int)) = true, decide ((s.size : Int) ≤ 64) = b], bV b) := by cases b <;> kernel_rfl
theorem ct20 : CTok ⟨20, fn20⟩ := by
  intro vs ob r h ho
  simp only [fn20] at h
  split at h
  · rename_i s
    simp only [Option.some.injEq, Prod.mk.injEq] at h
    obtain ⟨rfl, rfl⟩ := h
    unfold szB
    by_cases h1 : s.size < 16
    · rw [decide_eq_true h1, Bool.not_true, Bool.false_and]
      exact spec_run envE19 rfl (r20a s) ⟨decide_eq_false (by omega), trivial⟩ rfl rfl
    · rw [decide_eq_false h1, Bool.not_false, Bool.true_and]
      refine spec_run envE19 rfl (r20b s (!decide (64 < s.size))) ⟨decide_eq_true (by omega), ?_, trivial⟩ rfl rfl
      by_cases h2 : 64 < s.size
      · rw [decide_eq_true h2]; exact decide_eq_false (by omega)
      · rw [decide_eq_false h2]; exact decide_eq_true (by omega)
  · simp at h
theorem L7d_ok (q : Nat → Nat) : AllCT (L7d dnF chF q) := ⟨ct13, ct22d, ct19, ct20, ldO_ok _ _, LCv_ok⟩
noncomputable def dA (q : Nat → Nat) (z : Int) (s : ByteArray) (m : Nat) : ByteArray × ByteArray × Int := dn z q m 0 (pK z s) (pC z s) (pE z s)
noncomputable def dG (q : Nat → Nat) (z : Int) (s : ByteArray) (m : Nat) : ByteArray × ByteArray × Int := dn z q m 0 (msK z s) (msC z s) (msE z s)
noncomputable def dwF (q : Nat → Nat) : DwF := ⟨fun z s m => (dA q z s m).1, fun z s m => (dA q z s m).2.1, fun z s m => (dA q z s m).2.2, fun z s m => (dG q z s m).1, fun z s m => (dG q z s m).2.1, fun z s m => (dG q z s m).2.2⟩
theorem blks3 {mem : List Blk} {b m cap : Nat} {k : Blk} {a1 a2 : V1} {x1 x2 : Option Blk} (h : blks mem [a1, a2, .one (.sl b 0 m cap)] = [x1, x2, some k]) : mem[b]? = some k := by
  simp only [blks, List.cons.injEq, and_true] at h
  obtain ⟨_, _, h⟩ := h
  exact blks_sl (b := b) (off := 0) (n := m) (cap := cap) (by show [blkOf mem _] = [some k]; rw [h])
theorem resT_conc (t : ByteArray × ByteArray × Int) (φ ψ : Loc) : (resT t).conc φ = (resT t).conc ψ := rfl
theorem fmV_ok (q : Nat → Nat) (N : Nat) : ∀ f vs mem ob r, fmV (dwF q) q N f vs (blks mem vs) = some (ob, r) → All ob → ∀ w0 φ w, MRel w0 φ mem w → Calls Tryz.prog f (vs.map (V1.conc φ)).toArray w fun e w' => e = .returned (r.conc φ) ∧ Below w.heap.size w w' := by
  intro f vs mem ob r h ho w0 φ w hm
  unfold fmV at h
  split at h
  · split at h
    · rename_i z s b m cap x1 x2 k hb
      simp only [Option.some.injEq, Prod.mk.injEq] at h
      obtain ⟨rfl, rfl⟩ := h
      obtain ⟨hl, hps, h1, h2, _⟩ := ho
      have key := calls18 (z := z) (s := s) (cap := cap) h1 h2 (ro_of hm (blks3 hb) hl hps)
      have e : res ((dwF q).ak z s m) ((dwF q).ac z s m) ((dwF q).ae z s m) = resT (dn z q m 0 (pK z s) (pC z s) (pE z s)) := by dsimp only [dwF, dA, resT]
      rw [e, resT_conc _ φ (fun _ => φ b)]
      exact key
    · simp at h
  · split at h
    · rename_i z s b m cap x1 x2 k hb
      simp only [Option.some.injEq, Prod.mk.injEq] at h
      obtain ⟨rfl, rfl⟩ := h
      obtain ⟨hl, hps, h1, h2, h3, h4, _⟩ := ho
      have key := calls21 (z := z) (s := s) (cap := cap) h1 h2 h3 h4 (ro_of hm (blks3 hb) hl hps)
      have e : res ((dwF q).bk z s m) ((dwF q).bc z s m) ((dwF q).be z s m) = resT (dn z q m 0 (msK z s) (msC z s) (msE z s)) := by dsimp only [dwF, dG, resT]
      rw [e, resT_conc _ φ (fun _ => φ b)]
      exact key
    · simp at h
  · simp at h
theorem env7d (q : Nat → Nat) (N : Nat) : EnvOK (E7d dnF chF (dwF q) q N) := envAddM' (envMk (L7d_ok q) S7d) (fmV_ok q N)
theorem env7n : EnvOK (E7n dnF chF) := envMk (show AllCT (⟨18, fn18n dnF⟩ :: ⟨21, fn21n dnF⟩ :: L7d dnF chF fun _ => 0) from ⟨ct18n, ct21n, L7d_ok _⟩) S7d
theorem env7z : EnvOK (E7z dnF chF) := envMk (show AllCT (⟨9, fnN9⟩ :: L7d dnF chF fun _ => 0) from ⟨ctN9, L7d_ok _⟩) S7d
theorem ch_eq {z : Int} {K C : ByteArray} {x : Nat} (h : mayB z K C = true) : chF.dk z K C x = cK z K C x ∧ chF.dc z K C x = cC z K C x ∧ chF.de z K C x = cE z K C x := by
  refine ⟨?_, ?_, ?_⟩
  · show dK z K C x = cK z K C x; unfold dK; rw [h, cond_true]
  · show dC z K C x = cC z K C x; unfold dC; rw [h, cond_true]
  · show dE z K C x = cE z K C x; unfold dE; rw [h, cond_true]
theorem wfR8 {c : Cells} {xs : Nat → Atom} {m : Nat} {p1 p2 p3 p4 : List Piece} {A B A' B' K C : ByteArray} {t : Nat} {s : List (Nat × AV)} (hx : XsOk xs) (h1 : Free (roB p1)) (h2 : Free (roB p2)) (h3 : Free (roB p3)) (h4 : Free (roB p4)) (h : tmsWf 8 (slots t s) = true) : wfS (slots t s) (MR c xs m p1 p2 p3 p4 ++ [nB A B, nB A' B', nB K C]) = true := by
  have := memWf_mr (c := c) (m := m) (N := 8) (by omega) hx h1 h2 h3 h4 [nB A B, nB A' B', nB K C] rfl
  unfold wfS
  rw [show (MR c xs m p1 p2 p3 p4 ++ [nB A B, nB A' B', nB K C]).length = 8 from rfl, h, this]; rfl
theorem sdB_eq (z : Int) (s : ByteArray) : sdB z s = (cvB z && szB s) := rfl
theorem dn_no {z : Int} {q : Nat → Nat} (d j : Nat) (K C : ByteArray) {E : Int} (h : E ≠ 0) : dn z q d j K C E = (K, C, E) := by
  cases d with
  | zero => rfl
  | succ d => rw [dn_succ, decide_eq_false h, cond_false]
theorem dA_in {q : Nat → Nat} {z : Int} {s : ByteArray} (h : sdB z s = true) (m : Nat) : dA q z s m = dG q z s m := by
  unfold dA dG pK pC pE
  rw [h, cond_true, cond_true, cond_true]
theorem dA_out {q : Nat → Nat} {z : Int} {s : ByteArray} (h : sdB z s = false) (m : Nat) : dA q z s m = (e0, e0, 1) := by
  unfold dA pK pC pE
  rw [h, cond_false, cond_false, cond_false]
  exact dn_no m 0 e0 e0 (by decide)
theorem eqO_self (K C : ByteArray) (E : Int) : All (eqO K C E K C E) := ⟨by rw [decide_eq_true rfl]; rfl, eqS_self _ _, trivial⟩
theorem enO_ok {e : Int} (h : e ≠ 0) {i : Nat} (hi : i < 2) : All (enO e e i) := ⟨by rw [decide_eq_true rfl]; rfl, decide_eq_false h, decide_eq_false h, by unfold inI; omega, trivial⟩
theorem ezO_ok {z e : Int} {K C : ByteArray} (h : e = 0) (hm : mayB z K C = true) {i m : Nat} (hi : i < 2) (him : i < m) : All (ezO chF z K C K C e e i m) := ⟨by rw [decide_eq_true rfl]; rfl, decide_eq_true h, eqS_self _ _, decide_eq_true h, inB_ok him, hm, by unfold inI; omega, trivial⟩
theorem dA_may {q : Nat → Nat} {z : Int} {s : ByteArray} {m : Nat} (h : (dA q z s m).2.2 = 0) : mayB z (dA q z s m).1 (dA q z s m).2.1 = true := dn_may m 0 _ _ _ p_may h
end Go.Ev.H5

namespace Go.Ev.H5
open Go Go.Proofs Go.RowKit
set_option maxRecDepth 100000
theorem dlp0 {c : Cells} {len cap m N cp : Nat} {e : Int} {xs : Nat → Atom} {q : Nat → Nat} {p2 p3 p4 : List Piece} {A B A' B' : ByteArray} (hx : XsOk xs) (f2 : Free (roB p2)) (f3 : Free (roB p3)) (f4 : Free (roB p4)) (hN : m ≤ N) (h3 : m ≤ 3) (K C : ByteArray) (E : Int) (hm : E = 0 → mayB (zI c 0) K C = true) :
    Goes Tryz.prog (.loop (bodyOf Tryz.prog 7 17)) (.exit 2) (TDl (len + 1) cap 0 1 m cp e E ((0 : Nat) : Int)) (MR c (xsW 0 (.sl 1 0 N cp) xs) (len + 1) (qPs q N) p2 p3 p4 ++ [nB A B, nB A' B', nB K C]) (TDm (len + 1) cap 0 e (dn (zI c 0) q m 0 K C E).2.2) (MR c (xsW 0 (.sl 1 0 N cp) xs) (len + 1) (qPs q N) p2 p3 p4 ++ [nB A B, nB A' B', nB (dn (zI c 0) q m 0 K C E).1 (dn (zI c 0) q m 0 K C E).2.1]) := by
  refine (downs (m := m) (z := (zI c 0)) (M := fun K C => MR c (xsW 0 (.sl 1 0 N cp) xs) (len + 1) (qPs q N) p2 p3 p4 ++ [nB A B, nB A' B', nB K C]) (T := fun E j => TDl (len + 1) cap 0 1 m cp e E j) (Tx := fun E => TDm (len + 1) cap 0 e E) (fun _ _ _ _ => rfl) ?_ ?_ ?_ m 0 K C E (by omega) hm).loop
  · intro K C j hj h
    obtain ⟨e1, e2, e3⟩ := ch_eq (x := q (0 + j * 1)) h
    have r := dl0t dnF chF (dwF q) c len cap m N cp e (.sl 1 0 N cp) xs q p2 p3 p4 A B A' B' K C j
    rw [e1, e2, e3] at r
    exact Runs.goes (env7d q N) ⟨_, _, r, ⟨decide_eq_true (by omega), rfl, inB_ok (by omega), by unfold inJ; omega, ldQ (by omega), by unfold inI; omega, trivial⟩, wfR8 (hx.w fun _ h => sl_ok (by omega) h) (qPs_free _ _) f2 f3 f4 (by kernel_rfl)⟩
  · intro K C E j hj h
    exact Runs.goes (env7d q N) ⟨_, _, dl0e dnF chF (dwF q) c len cap m N cp e (.sl 1 0 N cp) xs q p2 p3 p4 A B A' B' K C E j, ⟨decide_eq_true (by omega), decide_eq_false h, trivial⟩, wfR8 (hx.w fun _ h => sl_ok (by omega) h) (qPs_free _ _) f2 f3 f4 (by kernel_rfl)⟩
  · intro K C E
    exact Runs.goes (env7d q N) ⟨_, _, dl0n dnF chF (dwF q) c len cap m N cp e (.sl 1 0 N cp) xs q p2 p3 p4 A B A' B' K C E m, ⟨decide_eq_false (by omega), trivial⟩, wfR8 (hx.w fun _ h => sl_ok (by omega) h) (qPs_free _ _) f2 f3 f4 (by kernel_rfl)⟩
theorem dj0s {c : Cells} {len cap N cp : Nat} {xs : Nat → Atom} {q : Nat → Nat} {p2 p3 p4 : List Piece} (hx : XsOk xs) (f2 : Free (roB p2)) (f3 : Free (roB p3)) (f4 : Free (roB p4)) (hn : N ≤ 3) : Goes Tryz.prog (bodyOf Tryz.prog 7 4) .normal (TD (len + 1) cap 0) (MR c (xsW 0 (.sl 1 0 N cp) xs) (len + 1) (qPs q N) p2 p3 p4) (TD (len + 1) cap 1) (MR c (xsW 0 (.sl 1 0 N cp) xs) (len + 1) (qPs q N) p2 p3 p4) := by
  have lp := fun (A B A' B' : ByteArray) (e : Int) => dlp0 (c := c) (len := len) (cap := cap) (m := N) (N := N) (cp := cp) (e := e) (q := q) (A := A) (B := B) (A' := A') (B' := B') hx f2 f3 f4 (by omega) (by omega) (pK (zI c 0) (sI c 0)) (pC (zI c 0) (sI c 0)) (pE (zI c 0) (sI c 0)) p_may
  have hE := fun (A B A' B' : ByteArray) (e : Int) => (show EnvOK (addLp (E7d dnF chF (dwF q) q N) 17 (bodyOf Tryz.prog 7 17) (sumC (TDl (len + 1) cap 0 1 N cp e (dnF.pe (zI c 0) (sI c 0)) 0) (MR c (xsW 0 (.sl 1 0 N cp) xs) (len + 1) (qPs q N) p2 p3 p4 ++ [nB A B, nB A' B', nB (dnF.pk (zI c 0) (sI c 0)) (dnF.pc (zI c 0) (sI c 0))]) (TDm (len + 1) cap 0 e (dn (zI c 0) q N 0 (pK (zI c 0) (sI c 0)) (pC (zI c 0) (sI c 0)) (pE (zI c 0) (sI c 0))).2.2) (MR c (xsW 0 (.sl 1 0 N cp) xs) (len + 1) (qPs q N) p2 p3 p4 ++ [nB A B, nB A' B', nB (dn (zI c 0) q N 0 (pK (zI c 0) (sI c 0)) (pC (zI c 0) (sI c 0)) (pE (zI c 0) (sI c 0))).1 (dn (zI c 0) q N 0 (pK (zI c 0) (sI c 0)) (pC (zI c 0) (sI c 0)) (pE (zI c 0) (sI c 0))).2.1]) (.exit 2))) from envAddLp (env7d q N) (sumC_ok rfl (lp A B A' B' e)))
  cases hs : sdB (zI c 0) (sI c 0) with
  | true =>
    have hcs := hs
    rw [sdB_eq, Bool.and_eq_true] at hcs
    have hsz : (sI c 0).size ≤ 1000000 := by
      have := hcs.2
      unfold szB at this
      simp only [Bool.and_eq_true, Bool.not_eq_true', decide_eq_false_iff_not] at this
      omega
    have eA := dA_in (q := q) hs N
    have heq : All (eqO ((dwF q).ak (zI c 0) (sI c 0) N) ((dwF q).ac (zI c 0) (sI c 0) N) ((dwF q).ae (zI c 0) (sI c 0) N) ((dwF q).bk (zI c 0) (sI c 0) N) ((dwF q).bc (zI c 0) (sI c 0) N) ((dwF q).be (zI c 0) (sI c 0) N)) := by
      dsimp only [dwF]
      rw [eA]
      exact eqO_self _ _ _
    by_cases he : (dA q (zI c 0) (sI c 0) N).2.2 = 0
    · exact Runs.goes (hE _ _ _ _ _) ⟨_, _, dt0sa dnF chF (dwF q) c len cap N cp xs q p2 p3 p4 (dn (zI c 0) q N 0 (pK (zI c 0) (sI c 0)) (pC (zI c 0) (sI c 0)) (pE (zI c 0) (sI c 0))).1 (dn (zI c 0) q N 0 (pK (zI c 0) (sI c 0)) (pC (zI c 0) (sI c 0)) (pE (zI c 0) (sI c 0))).2.1 (dn (zI c 0) q N 0 (pK (zI c 0) (sI c 0)) (pC (zI c 0) (sI c 0)) (pE (zI c 0) (sI c 0))).2.2, All_ap (All_ap (All_ap (All_ap (All_ap (All_ap (All_ap (All_ap (All_ap (All_ap (⟨decide_eq_true (by omega), by decide, inB_ok (by omega), decide_eq_false (by omega), trivial⟩) (⟨inB_ok (by omega), inB_ok (by omega), trivial⟩)) (⟨rfl, rfl, by omega, by omega, trivial⟩)) (⟨inB_ok (by omega), hcs.1, trivial⟩)) (⟨inB_ok (by omega), hcs.2, trivial⟩)) (⟨inB_ok (by omega), inB_ok (by omega), trivial⟩)) (⟨rfl, rfl, by omega, by omega, trivial⟩)) (⟨sd_z hs, hsz, trivial⟩)) (heq)) (⟨inB_ok (by omega), inB_ok (by omega), rfl, rfl, wfR8 (hx.w fun _ h => sl_ok (by omega) h) (qPs_free _ _) f2 f3 f4 (by kernel_rfl), trivial⟩)) (ezO_ok he (dA_may he) (by omega) (by omega)), wfR5 (hx.w fun _ h => sl_ok (by omega) h) (qPs_free _ _) f2 f3 f4 (by kernel_rfl)⟩
    · exact Runs.goes (hE _ _ _ _ _) ⟨_, _, dt0sb dnF chF (dwF q) c len cap N cp xs q p2 p3 p4 (dn (zI c 0) q N 0 (pK (zI c 0) (sI c 0)) (pC (zI c 0) (sI c 0)) (pE (zI c 0) (sI c 0))).1 (dn (zI c 0) q N 0 (pK (zI c 0) (sI c 0)) (pC (zI c 0) (sI c 0)) (pE (zI c 0) (sI c 0))).2.1 (dn (zI c 0) q N 0 (pK (zI c 0) (sI c 0)) (pC (zI c 0) (sI c 0)) (pE (zI c 0) (sI c 0))).2.2, All_ap (All_ap (All_ap (All_ap (All_ap (All_ap (All_ap (All_ap (All_ap (All_ap (⟨decide_eq_true (by omega), by decide, inB_ok (by omega), decide_eq_false (by omega), trivial⟩) (⟨inB_ok (by omega), inB_ok (by omega), trivial⟩)) (⟨rfl, rfl, by omega, by omega, trivial⟩)) (⟨inB_ok (by omega), hcs.1, trivial⟩)) (⟨inB_ok (by omega), hcs.2, trivial⟩)) (⟨inB_ok (by omega), inB_ok (by omega), trivial⟩)) (⟨rfl, rfl, by omega, by omega, trivial⟩)) (⟨sd_z hs, hsz, trivial⟩)) (heq)) (⟨inB_ok (by omega), inB_ok (by omega), rfl, rfl, wfR8 (hx.w fun _ h => sl_ok (by omega) h) (qPs_free _ _) f2 f3 f4 (by kernel_rfl), trivial⟩)) (enO_ok he (by omega)), wfR5 (hx.w fun _ h => sl_ok (by omega) h) (qPs_free _ _) f2 f3 f4 (by kernel_rfl)⟩
  | false =>
    have eA := dA_out (q := q) hs N
    have heq : All (eqO ((dwF q).ak (zI c 0) (sI c 0) N) ((dwF q).ac (zI c 0) (sI c 0) N) ((dwF q).ae (zI c 0) (sI c 0) N) e0 e0 1) := by
      dsimp only [dwF]
      rw [eA]
      exact eqO_self _ _ _
    have he : (dA q (zI c 0) (sI c 0) N).2.2 ≠ 0 := by rw [eA]; decide
    cases hc1 : cvB (zI c 0) with
    | false => exact Runs.goes (hE _ _ _ _ _) ⟨_, _, dt0sc dnF chF (dwF q) c len cap N cp xs q p2 p3 p4 (dn (zI c 0) q N 0 (pK (zI c 0) (sI c 0)) (pC (zI c 0) (sI c 0)) (pE (zI c 0) (sI c 0))).1 (dn (zI c 0) q N 0 (pK (zI c 0) (sI c 0)) (pC (zI c 0) (sI c 0)) (pE (zI c 0) (sI c 0))).2.1 (dn (zI c 0) q N 0 (pK (zI c 0) (sI c 0)) (pC (zI c 0) (sI c 0)) (pE (zI c 0) (sI c 0))).2.2, All_ap (All_ap (All_ap (All_ap (All_ap (All_ap (⟨decide_eq_true (by omega), by decide, inB_ok (by omega), decide_eq_false (by omega), trivial⟩) (⟨inB_ok (by omega), inB_ok (by omega), trivial⟩)) (⟨rfl, rfl, by omega, by omega, trivial⟩)) (⟨inB_ok (by omega), hc1, trivial⟩)) (heq)) (⟨inB_ok (by omega), inB_ok (by omega), rfl, rfl, wfR8 (hx.w fun _ h => sl_ok (by omega) h) (qPs_free _ _) f2 f3 f4 (by kernel_rfl), trivial⟩)) (enO_ok he (by omega)), wfR5 (hx.w fun _ h => sl_ok (by omega) h) (qPs_free _ _) f2 f3 f4 (by kernel_rfl)⟩
    | true =>
      have hs2 : szB (sI c 0) = false := by
        have := hs
        rw [sdB_eq, hc1, Bool.true_and] at this
        exact this
      exact Runs.goes (hE _ _ _ _ _) ⟨_, _, dt0sd dnF chF (dwF q) c len cap N cp xs q p2 p3 p4 (dn (zI c 0) q N 0 (pK (zI c 0) (sI c 0)) (pC (zI c 0) (sI c 0)) (pE (zI c 0) (sI c 0))).1 (dn (zI c 0) q N 0 (pK (zI c 0) (sI c 0)) (pC (zI c 0) (sI c 0)) (pE (zI c 0) (sI c 0))).2.1 (dn (zI c 0) q N 0 (pK (zI c 0) (sI c 0)) (pC (zI c 0) (sI c 0)) (pE (zI c 0) (sI c 0))).2.2, All_ap (All_ap (All_ap (All_ap (All_ap (All_ap (All_ap (⟨decide_eq_true (by omega), by decide, inB_ok (by omega), decide_eq_false (by omega), trivial⟩) (⟨inB_ok (by omega), inB_ok (by omega), trivial⟩)) (⟨rfl, rfl, by omega, by omega, trivial⟩)) (⟨inB_ok (by omega), hc1, trivial⟩)) (⟨inB_ok (by omega), hs2, trivial⟩)) (heq)) (⟨inB_ok (by omega), inB_ok (by omega), rfl, rfl, wfR8 (hx.w fun _ h => sl_ok (by omega) h) (qPs_free _ _) f2 f3 f4 (by kernel_rfl), trivial⟩)) (enO_ok he (by omega)), wfR5 (hx.w fun _ h => sl_ok (by omega) h) (qPs_free _ _) f2 f3 f4 (by kernel_rfl)⟩
theorem dj0l {c : Cells} {len cap N cp : Nat} {xs : Nat → Atom} {q : Nat → Nat} {p2 p3 p4 : List Piece} (hx : XsOk xs) (f2 : Free (roB p2)) (f3 : Free (roB p3)) (f4 : Free (roB p4)) (hn : 3 < N) (hc : N ≤ cp) : Goes Tryz.prog (bodyOf Tryz.prog 7 4) .normal (TD (len + 1) cap 0) (MR c (xsW 0 (.sl 1 0 N cp) xs) (len + 1) (qPs q N) p2 p3 p4) (TD (len + 1) cap 1) (MR c (xsW 0 (.sl 1 0 N cp) xs) (len + 1) (qPs q N) p2 p3 p4) := by
  have lp := fun (A B A' B' : ByteArray) (e : Int) => dlp0 (c := c) (len := len) (cap := cap) (m := 3) (N := N) (cp := cp) (e := e) (q := q) (A := A) (B := B) (A' := A') (B' := B') hx f2 f3 f4 (by omega) (by omega) (pK (zI c 0) (sI c 0)) (pC (zI c 0) (sI c 0)) (pE (zI c 0) (sI c 0)) p_may
  have hE := fun (A B A' B' : ByteArray) (e : Int) => (show EnvOK (addLp (E7d dnF chF (dwF q) q N) 17 (bodyOf Tryz.prog 7 17) (sumC (TDl (len + 1) cap 0 1 3 cp e (dnF.pe (zI c 0) (sI c 0)) 0) (MR c (xsW 0 (.sl 1 0 N cp) xs) (len + 1) (qPs q N) p2 p3 p4 ++ [nB A B, nB A' B', nB (dnF.pk (zI c 0) (sI c 0)) (dnF.pc (zI c 0) (sI c 0))]) (TDm (len + 1) cap 0 e (dn (zI c 0) q 3 0 (pK (zI c 0) (sI c 0)) (pC (zI c 0) (sI c 0)) (pE (zI c 0) (sI c 0))).2.2) (MR c (xsW 0 (.sl 1 0 N cp) xs) (len + 1) (qPs q N) p2 p3 p4 ++ [nB A B, nB A' B', nB (dn (zI c 0) q 3 0 (pK (zI c 0) (sI c 0)) (pC (zI c 0) (sI c 0)) (pE (zI c 0) (sI c 0))).1 (dn (zI c 0) q 3 0 (pK (zI c 0) (sI c 0)) (pC (zI c 0) (sI c 0)) (pE (zI c 0) (sI c 0))).2.1]) (.exit 2))) from envAddLp (env7d q N) (sumC_ok rfl (lp A B A' B' e)))
  cases hs : sdB (zI c 0) (sI c 0) with
  | true =>
    have hcs := hs
    rw [sdB_eq, Bool.and_eq_true] at hcs
    have hsz : (sI c 0).size ≤ 1000000 := by
      have := hcs.2
      unfold szB at this
      simp only [Bool.and_eq_true, Bool.not_eq_true', decide_eq_false_iff_not] at this
      omega
    have eA := dA_in (q := q) hs 3
    have heq : All (eqO ((dwF q).ak (zI c 0) (sI c 0) 3) ((dwF q).ac (zI c 0) (sI c 0) 3) ((dwF q).ae (zI c 0) (sI c 0) 3) ((dwF q).bk (zI c 0) (sI c 0) 3) ((dwF q).bc (zI c 0) (sI c 0) 3) ((dwF q).be (zI c 0) (sI c 0) 3)) := by
      dsimp only [dwF]
      rw [eA]
      exact eqO_self _ _ _
    by_cases he : (dA q (zI c 0) (sI c 0) 3).2.2 = 0
    · exact Runs.goes (hE _ _ _ _ _) ⟨_, _, dt0la dnF chF (dwF q) c len cap N cp xs q p2 p3 p4 (dn (zI c 0) q 3 0 (pK (zI c 0) (sI c 0)) (pC (zI c 0) (sI c 0)) (pE (zI c 0) (sI c 0))).1 (dn (zI c 0) q 3 0 (pK (zI c 0) (sI c 0)) (pC (zI c 0) (sI c 0)) (pE (zI c 0) (sI c 0))).2.1 (dn (zI c 0) q 3 0 (pK (zI c 0) (sI c 0)) (pC (zI c 0) (sI c 0)) (pE (zI c 0) (sI c 0))).2.2, All_ap (All_ap (All_ap (All_ap (All_ap (All_ap (All_ap (All_ap (All_ap (All_ap (⟨decide_eq_true (by omega), by decide, inB_ok (by omega), decide_eq_true (by omega), (by omega), trivial⟩) (⟨inB_ok (by omega), inB_ok (by omega), trivial⟩)) (⟨rfl, rfl, by omega, by omega, trivial⟩)) (⟨inB_ok (by omega), hcs.1, trivial⟩)) (⟨inB_ok (by omega), hcs.2, trivial⟩)) (⟨inB_ok (by omega), inB_ok (by omega), trivial⟩)) (⟨rfl, rfl, by omega, by omega, trivial⟩)) (⟨sd_z hs, hsz, trivial⟩)) (heq)) (⟨inB_ok (by omega), inB_ok (by omega), rfl, rfl, wfR8 (hx.w fun _ h => sl_ok (by omega) h) (qPs_free _ _) f2 f3 f4 (by kernel_rfl), trivial⟩)) (ezO_ok he (dA_may he) (by omega) (by omega)), wfR5 (hx.w fun _ h => sl_ok (by omega) h) (qPs_free _ _) f2 f3 f4 (by kernel_rfl)⟩
    · exact Runs.goes (hE _ _ _ _ _) ⟨_, _, dt0lb dnF chF (dwF q) c len cap N cp xs q p2 p3 p4 (dn (zI c 0) q 3 0 (pK (zI c 0) (sI c 0)) (pC (zI c 0) (sI c 0)) (pE (zI c 0) (sI c 0))).1 (dn (zI c 0) q 3 0 (pK (zI c 0) (sI c 0)) (pC (zI c 0) (sI c 0)) (pE (zI c 0) (sI c 0))).2.1 (dn (zI c 0) q 3 0 (pK (zI c 0) (sI c 0)) (pC (zI c 0) (sI c 0)) (pE (zI c 0) (sI c 0))).2.2, All_ap (All_ap (All_ap (All_ap (All_ap (All_ap (All_ap (All_ap (All_ap (All_ap (⟨decide_eq_true (by omega), by decide, inB_ok (by omega), decide_eq_true (by omega), (by omega), trivial⟩) (⟨inB_ok (by omega), inB_ok (by omega), trivial⟩)) (⟨rfl, rfl, by omega, by omega, trivial⟩)) (⟨inB_ok (by omega), hcs.1, trivial⟩)) (⟨inB_ok (by omega), hcs.2, trivial⟩)) (⟨inB_ok (by omega), inB_ok (by omega), trivial⟩)) (⟨rfl, rfl, by omega, by omega, trivial⟩)) (⟨sd_z hs, hsz, trivial⟩)) (heq)) (⟨inB_ok (by omega), inB_ok (by omega), rfl, rfl, wfR8 (hx.w fun _ h => sl_ok (by omega) h) (qPs_free _ _) f2 f3 f4 (by kernel_rfl), trivial⟩)) (enO_ok he (by omega)), wfR5 (hx.w fun _ h => sl_ok (by omega) h) (qPs_free _ _) f2 f3 f4 (by kernel_rfl)⟩
  | false =>
    have eA := dA_out (q := q) hs 3
    have heq : All (eqO ((dwF q).ak (zI c 0) (sI c 0) 3) ((dwF q).ac (zI c 0) (sI c 0) 3) ((dwF q).ae (zI c 0) (sI c 0) 3) e0 e0 1) := by
      dsimp only [dwF]
      rw [eA]
      exact eqO_self _ _ _
    have he : (dA q (zI c 0) (sI c 0) 3).2.2 ≠ 0 := by rw [eA]; decide
    cases hc1 : cvB (zI c 0) with
    | false => exact Runs.goes (hE _ _ _ _ _) ⟨_, _, dt0lc dnF chF (dwF q) c len cap N cp xs q p2 p3 p4 (dn (zI c 0) q 3 0 (pK (zI c 0) (sI c 0)) (pC (zI c 0) (sI c 0)) (pE (zI c 0) (sI c 0))).1 (dn (zI c 0) q 3 0 (pK (zI c 0) (sI c 0)) (pC (zI c 0) (sI c 0)) (pE (zI c 0) (sI c 0))).2.1 (dn (zI c 0) q 3 0 (pK (zI c 0) (sI c 0)) (pC (zI c 0) (sI c 0)) (pE (zI c 0) (sI c 0))).2.2, All_ap (All_ap (All_ap (All_ap (All_ap (All_ap (⟨decide_eq_true (by omega), by decide, inB_ok (by omega), decide_eq_true (by omega), (by omega), trivial⟩) (⟨inB_ok (by omega), inB_ok (by omega), trivial⟩)) (⟨rfl, rfl, by omega, by omega, trivial⟩)) (⟨inB_ok (by omega), hc1, trivial⟩)) (heq)) (⟨inB_ok (by omega), inB_ok (by omega), rfl, rfl, wfR8 (hx.w fun _ h => sl_ok (by omega) h) (qPs_free _ _) f2 f3 f4 (by kernel_rfl), trivial⟩)) (enO_ok he (by omega)), wfR5 (hx.w fun _ h => sl_ok (by omega) h) (qPs_free _ _) f2 f3 f4 (by kernel_rfl)⟩
    | true =>
      have hs2 : szB (sI c 0) = false := by
        have := hs
        rw [sdB_eq, hc1, Bool.true_and] at this
        exact this
      exact Runs.goes (hE _ _ _ _ _) ⟨_, _, dt0ld dnF chF (dwF q) c len cap N cp xs q p2 p3 p4 (dn (zI c 0) q 3 0 (pK (zI c 0) (sI c 0)) (pC (zI c 0) (sI c 0)) (pE (zI c 0) (sI c 0))).1 (dn (zI c 0) q 3 0 (pK (zI c 0) (sI c 0)) (pC (zI c 0) (sI c 0)) (pE (zI c 0) (sI c 0))).2.1 (dn (zI c 0) q 3 0 (pK (zI c 0) (sI c 0)) (pC (zI c 0) (sI c 0)) (pE (zI c 0) (sI c 0))).2.2, All_ap (All_ap (All_ap (All_ap (All_ap (All_ap (All_ap (⟨decide_eq_true (by omega), by decide, inB_ok (by omega), decide_eq_true (by omega), (by omega), trivial⟩) (⟨inB_ok (by omega), inB_ok (by omega), trivial⟩)) (⟨rfl, rfl, by omega, by omega, trivial⟩)) (⟨inB_ok (by omega), hc1, trivial⟩)) (⟨inB_ok (by omega), hs2, trivial⟩)) (heq)) (⟨inB_ok (by omega), inB_ok (by omega), rfl, rfl, wfR8 (hx.w fun _ h => sl_ok (by omega) h) (qPs_free _ _) f2 f3 f4 (by kernel_rfl), trivial⟩)) (enO_ok he (by omega)), wfR5 (hx.w fun _ h => sl_ok (by omega) h) (qPs_free _ _) f2 f3 f4 (by kernel_rfl)⟩
theorem dlp1 {c : Cells} {len cap m N cp : Nat} {e : Int} {xs : Nat → Atom} {q : Nat → Nat} {p1 p3 p4 : List Piece} {A B A' B' : ByteArray} (hx : XsOk xs) (f1 : Free (roB p1)) (f3 : Free (roB p3)) (f4 : Free (roB p4)) (hN : m ≤ N) (h3 : m ≤ 3) (K C : ByteArray) (E : Int) (hm : E = 0 → mayB (zI c 1) K C = true) :
    Goes Tryz.prog (.loop (bodyOf Tryz.prog 7 17)) (.exit 2) (TDl (len + 2) cap 1 2 m cp e E ((0 : Nat) : Int)) (MR c (xsW 1 (.sl 2 0 N cp) xs) (len + 2) p1 (qPs q N) p3 p4 ++ [nB A B, nB A' B', nB K C]) (TDm (len + 2) cap 1 e (dn (zI c 1) q m 0 K C E).2.2) (MR c (xsW 1 (.sl 2 0 N cp) xs) (len + 2) p1 (qPs q N) p3 p4 ++ [nB A B, nB A' B', nB (dn (zI c 1) q m 0 K C E).1 (dn (zI c 1) q m 0 K C E).2.1]) := by
  refine (downs (m := m) (z := (zI c 1)) (M := fun K C => MR c (xsW 1 (.sl 2 0 N cp) xs) (len + 2) p1 (qPs q N) p3 p4 ++ [nB A B, nB A' B', nB K C]) (T := fun E j => TDl (len + 2) cap 1 2 m cp e E j) (Tx := fun E => TDm (len + 2) cap 1 e E) (fun _ _ _ _ => rfl) ?_ ?_ ?_ m 0 K C E (by omega) hm).loop
  · intro K C j hj h
    obtain ⟨e1, e2, e3⟩ := ch_eq (x := q (0 + j * 1)) h
    have r := dl1t dnF chF (dwF q) c len cap m N cp e (.sl 2 0 N cp) xs q p1 p3 p4 A B A' B' K C j
    rw [e1, e2, e3] at r
    exact Runs.goes (env7d q N) ⟨_, _, r, ⟨decide_eq_true (by omega), rfl, inB_ok (by omega), by unfold inJ; omega, ldQ (by omega), by unfold inI; omega, trivial⟩, wfR8 (hx.w fun _ h => sl_ok (by omega) h) f1 (qPs_free _ _) f3 f4 (by kernel_rfl)⟩
  · intro K C E j hj h
    exact Runs.goes (env7d q N) ⟨_, _, dl1e dnF chF (dwF q) c len cap m N cp e (.sl 2 0 N cp) xs q p1 p3 p4 A B A' B' K C E j, ⟨decide_eq_true (by omega), decide_eq_false h, trivial⟩, wfR8 (hx.w fun _ h => sl_ok (by omega) h) f1 (qPs_free _ _) f3 f4 (by kernel_rfl)⟩
  · intro K C E
    exact Runs.goes (env7d q N) ⟨_, _, dl1n dnF chF (dwF q) c len cap m N cp e (.sl 2 0 N cp) xs q p1 p3 p4 A B A' B' K C E m, ⟨decide_eq_false (by omega), trivial⟩, wfR8 (hx.w fun _ h => sl_ok (by omega) h) f1 (qPs_free _ _) f3 f4 (by kernel_rfl)⟩
theorem dj1s {c : Cells} {len cap N cp : Nat} {xs : Nat → Atom} {q : Nat → Nat} {p1 p3 p4 : List Piece} (hx : XsOk xs) (f1 : Free (roB p1)) (f3 : Free (roB p3)) (f4 : Free (roB p4)) (hn : N ≤ 3) : Goes Tryz.prog (bodyOf Tryz.prog 7 4) .normal (TD (len + 2) cap 1) (MR c (xsW 1 (.sl 2 0 N cp) xs) (len + 2) p1 (qPs q N) p3 p4) (TD (len + 2) cap 2) (MR c (xsW 1 (.sl 2 0 N cp) xs) (len + 2) p1 (qPs q N) p3 p4) := by
  have lp := fun (A B A' B' : ByteArray) (e : Int) => dlp1 (c := c) (len := len) (cap := cap) (m := N) (N := N) (cp := cp) (e := e) (q := q) (A := A) (B := B) (A' := A') (B' := B') hx f1 f3 f4 (by omega) (by omega) (pK (zI c 1) (sI c 1)) (pC (zI c 1) (sI c 1)) (pE (zI c 1) (sI c 1)) p_may
  have hE := fun (A B A' B' : ByteArray) (e : Int) => (show EnvOK (addLp (E7d dnF chF (dwF q) q N) 17 (bodyOf Tryz.prog 7 17) (sumC (TDl (len + 2) cap 1 2 N cp e (dnF.pe (zI c 1) (sI c 1)) 0) (MR c (xsW 1 (.sl 2 0 N cp) xs) (len + 2) p1 (qPs q N) p3 p4 ++ [nB A B, nB A' B', nB (dnF.pk (zI c 1) (sI c 1)) (dnF.pc (zI c 1) (sI c 1))]) (TDm (len + 2) cap 1 e (dn (zI c 1) q N 0 (pK (zI c 1) (sI c 1)) (pC (zI c 1) (sI c 1)) (pE (zI c 1) (sI c 1))).2.2) (MR c (xsW 1 (.sl 2 0 N cp) xs) (len + 2) p1 (qPs q N) p3 p4 ++ [nB A B, nB A' B', nB (dn (zI c 1) q N 0 (pK (zI c 1) (sI c 1)) (pC (zI c 1) (sI c 1)) (pE (zI c 1) (sI c 1))).1 (dn (zI c 1) q N 0 (pK (zI c 1) (sI c 1)) (pC (zI c 1) (sI c 1)) (pE (zI c 1) (sI c 1))).2.1]) (.exit 2))) from envAddLp (env7d q N) (sumC_ok rfl (lp A B A' B' e)))
  cases hs : sdB (zI c 1) (sI c 1) with
  | true =>
    have hcs := hs
    rw [sdB_eq, Bool.and_eq_true] at hcs
    have hsz : (sI c 1).size ≤ 1000000 := by
      have := hcs.2
      unfold szB at this
      simp only [Bool.and_eq_true, Bool.not_eq_true', decide_eq_false_iff_not] at this
      omega
    have eA := dA_in (q := q) hs N
    have heq : All (eqO ((dwF q).ak (zI c 1) (sI c 1) N) ((dwF q).ac (zI c 1) (sI c 1) N) ((dwF q).ae (zI c 1) (sI c 1) N) ((dwF q).bk (zI c 1) (sI c 1) N) ((dwF q).bc (zI c 1) (sI c 1) N) ((dwF q).be (zI c 1) (sI c 1) N)) := by
      dsimp only [dwF]
      rw [eA]
      exact eqO_self _ _ _
    by_cases he : (dA q (zI c 1) (sI c 1) N).2.2 = 0
    · exact Runs.goes (hE _ _ _ _ _) ⟨_, _, dt1sa dnF chF (dwF q) c len cap N cp xs q p1 p3 p4 (dn (zI c 1) q N 0 (pK (zI c 1) (sI c 1)) (pC (zI c 1) (sI c 1)) (pE (zI c 1) (sI c 1))).1 (dn (zI c 1) q N 0 (pK (zI c 1) (sI c 1)) (pC (zI c 1) (sI c 1)) (pE (zI c 1) (sI c 1))).2.1 (dn (zI c 1) q N 0 (pK (zI c 1) (sI c 1)) (pC (zI c 1) (sI c 1)) (pE (zI c 1) (sI c 1))).2.2, All_ap (All_ap (All_ap (All_ap (All_ap (All_ap (All_ap (All_ap (All_ap (All_ap (⟨decide_eq_true (by omega), by decide, inB_ok (by omega), decide_eq_false (by omega), trivial⟩) (⟨inB_ok (by omega), inB_ok (by omega), trivial⟩)) (⟨rfl, rfl, by omega, by omega, trivial⟩)) (⟨inB_ok (by omega), hcs.1, trivial⟩)) (⟨inB_ok (by omega), hcs.2, trivial⟩)) (⟨inB_ok (by omega), inB_ok (by omega), trivial⟩)) (⟨rfl, rfl, by omega, by omega, trivial⟩)) (⟨sd_z hs, hsz, trivial⟩)) (heq)) (⟨inB_ok (by omega), inB_ok (by omega), rfl, rfl, wfR8 (hx.w fun _ h => sl_ok (by omega) h) f1 (qPs_free _ _) f3 f4 (by kernel_rfl), trivial⟩)) (ezO_ok he (dA_may he) (by omega) (by omega)), wfR5 (hx.w fun _ h => sl_ok (by omega) h) f1 (qPs_free _ _) f3 f4 (by kernel_rfl)⟩
    · exact Runs.goes (hE _ _ _ _ _) ⟨_, _, dt1sb dnF chF (dwF q) c len cap N cp xs q p1 p3 p4 (dn (zI c 1) q N 0 (pK (zI c 1) (sI c 1)) (pC (zI c 1) (sI c 1)) (pE (zI c 1) (sI c 1))).1 (dn (zI c 1) q N 0 (pK (zI c 1) (sI c 1)) (pC (zI c 1) (sI c 1)) (pE (zI c 1) (sI c 1))).2.1 (dn (zI c 1) q N 0 (pK (zI c 1) (sI c 1)) (pC (zI c 1) (sI c 1)) (pE (zI c 1) (sI c 1))).2.2, All_ap (All_ap (All_ap (All_ap (All_ap (All_ap (All_ap (All_ap (All_ap (All_ap (⟨decide_eq_true (by omega), by decide, inB_ok (by omega), decide_eq_false (by omega), trivial⟩) (⟨inB_ok (by omega), inB_ok (by omega), trivial⟩)) (⟨rfl, rfl, by omega, by omega, trivial⟩)) (⟨inB_ok (by omega), hcs.1, trivial⟩)) (⟨inB_ok (by omega), hcs.2, trivial⟩)) (⟨inB_ok (by omega), inB_ok (by omega), trivial⟩)) (⟨rfl, rfl, by omega, by omega, trivial⟩)) (⟨sd_z hs, hsz, trivial⟩)) (heq)) (⟨inB_ok (by omega), inB_ok (by omega), rfl, rfl, wfR8 (hx.w fun _ h => sl_ok (by omega) h) f1 (qPs_free _ _) f3 f4 (by kernel_rfl), trivial⟩)) (enO_ok he (by omega)), wfR5 (hx.w fun _ h => sl_ok (by omega) h) f1 (qPs_free _ _) f3 f4 (by kernel_rfl)⟩
  | false =>
    have eA := dA_out (q := q) hs N
    have heq : All (eqO ((dwF q).ak (zI c 1) (sI c 1) N) ((dwF q).ac (zI c 1) (sI c 1) N) ((dwF q).ae (zI c 1) (sI c 1) N) e0 e0 1) := by
      dsimp only [dwF]
      rw [eA]
      exact eqO_self _ _ _
    have he : (dA q (zI c 1) (sI c 1) N).2.2 ≠ 0 := by rw [eA]; decide
    cases hc1 : cvB (zI c 1) with
    | false => exact Runs.goes (hE _ _ _ _ _) ⟨_, _, dt1sc dnF chF (dwF q) c len cap N cp xs q p1 p3 p4 (dn (zI c 1) q N 0 (pK (zI c 1) (sI c 1)) (pC (zI c 1) (sI c 1)) (pE (zI c 1) (sI c 1))).1 (dn (zI c 1) q N 0 (pK (zI c 1) (sI c 1)) (pC (zI c 1) (sI c 1)) (pE (zI c 1) (sI c 1))).2.1 (dn (zI c 1) q N 0 (pK (zI c 1) (sI c 1)) (pC (zI c 1) (sI c 1)) (pE (zI c 1) (sI c 1))).2.2, All_ap (All_ap (All_ap (All_ap (All_ap (All_ap (⟨decide_eq_true (by omega), by decide, inB_ok (by omega), decide_eq_false (by omega), trivial⟩) (⟨inB_ok (by omega), inB_ok (by omega), trivial⟩)) (⟨rfl, rfl, by omega, by omega, trivial⟩)) (⟨inB_ok (by omega), hc1, trivial⟩)) (heq)) (⟨inB_ok (by omega), inB_ok (by omega), rfl, rfl, wfR8 (hx.w fun _ h => sl_ok (by omega) h) f1 (qPs_free _ _) f3 f4 (by kernel_rfl), trivial⟩)) (enO_ok he (by omega)), wfR5 (hx.w fun _ h => sl_ok (by omega) h) f1 (qPs_free _ _) f3 f4 (by kernel_rfl)⟩
    | true =>
      have hs2 : szB (sI c 1) = false := by
        have := hs
        rw [sdB_eq, hc1, Bool.true_and] at this
        exact this
      exact Runs.goes (hE _ _ _ _ _) ⟨_, _, dt1sd dnF chF (dwF q) c len cap N cp xs q p1 p3 p4 (dn (zI c 1) q N 0 (pK (zI c 1) (sI c 1)) (pC (zI c 1) (sI c 1)) (pE (zI c 1) (sI c 1))).1 (dn (zI c 1) q N 0 (pK (zI c 1) (sI c 1)) (pC (zI c 1) (sI c 1)) (pE (zI c 1) (sI c 1))).2.1 (dn (zI c 1) q N 0 (pK (zI c 1) (sI c 1)) (pC (zI c 1) (sI c 1)) (pE (zI c 1) (sI c 1))).2.2, All_ap (All_ap (All_ap (All_ap (All_ap (All_ap (All_ap (⟨decide_eq_true (by omega), by decide, inB_ok (by omega), decide_eq_false (by omega), trivial⟩) (⟨inB_ok (by omega), inB_ok (by omega), trivial⟩)) (⟨rfl, rfl, by omega, by omega, trivial⟩)) (⟨inB_ok (by omega), hc1, trivial⟩)) (⟨inB_ok (by omega), hs2, trivial⟩)) (heq)) (⟨inB_ok (by omega), inB_ok (by omega), rfl, rfl, wfR8 (hx.w fun _ h => sl_ok (by omega) h) f1 (qPs_free _ _) f3 f4 (by kernel_rfl), trivial⟩)) (enO_ok he (by omega)), wfR5 (hx.w fun _ h => sl_ok (by omega) h) f1 (qPs_free _ _) f3 f4 (by kernel_rfl)⟩
theorem dj1l {c : Cells} {len cap N cp : Nat} {xs : Nat → Atom} {q : Nat → Nat} {p1 p3 p4 : List Piece} (hx : XsOk xs) (f1 : Free (roB p1)) (f3 : Free (roB p3)) (f4 : Free (roB p4)) (hn : 3 < N) (hc : N ≤ cp) : Goes Tryz.prog (bodyOf Tryz.prog 7 4) .normal (TD (len + 2) cap 1) (MR c (xsW 1 (.sl 2 0 N cp) xs) (len + 2) p1 (qPs q N) p3 p4) (TD (len + 2) cap 2) (MR c (xsW 1 (.sl 2 0 N cp) xs) (len + 2) p1 (qPs q N) p3 p4) := by
  have lp := fun (A B A' B' : ByteArray) (e : Int) => dlp1 (c := c) (len := len) (cap := cap) (m := 3) (N := N) (cp := cp) (e := e) (q := q) (A := A) (B := B) (A' := A') (B' := B') hx f1 f3 f4 (by omega) (by omega) (pK (zI c 1) (sI c 1)) (pC (zI c 1) (sI c 1)) (pE (zI c 1) (sI c 1)) p_may
  have hE := fun (A B A' B' : ByteArray) (e : Int) => (show EnvOK (addLp (E7d dnF chF (dwF q) q N) 17 (bodyOf Tryz.prog 7 17) (sumC (TDl (len + 2) cap 1 2 3 cp e (dnF.pe (zI c 1) (sI c 1)) 0) (MR c (xsW 1 (.sl 2 0 N cp) xs) (len + 2) p1 (qPs q N) p3 p4 ++ [nB A B, nB A' B', nB (dnF.pk (zI c 1) (sI c 1)) (dnF.pc (zI c 1) (sI c 1))]) (TDm (len + 2) cap 1 e (dn (zI c 1) q 3 0 (pK (zI c 1) (sI c 1)) (pC (zI c 1) (sI c 1)) (pE (zI c 1) (sI c 1))).2.2) (MR c (xsW 1 (.sl 2 0 N cp) xs) (len + 2) p1 (qPs q N) p3 p4 ++ [nB A B, nB A' B', nB (dn (zI c 1) q 3 0 (pK (zI c 1) (sI c 1)) (pC (zI c 1) (sI c 1)) (pE (zI c 1) (sI c 1))).1 (dn (zI c 1) q 3 0 (pK (zI c 1) (sI c 1)) (pC (zI c 1) (sI c 1)) (pE (zI c 1) (sI c 1))).2.1]) (.exit 2))) from envAddLp (env7d q N) (sumC_ok rfl (lp A B A' B' e)))
  cases hs : sdB (zI c 1) (sI c 1) with
  | true =>
    have hcs := hs
    rw [sdB_eq, Bool.and_eq_true] at hcs
    have hsz : (sI c 1).size ≤ 1000000 := by
      have := hcs.2
      unfold szB at this
      simp only [Bool.and_eq_true, Bool.not_eq_true', decide_eq_false_iff_not] at this
      omega
    have eA := dA_in (q := q) hs 3
    have heq : All (eqO ((dwF q).ak (zI c 1) (sI c 1) 3) ((dwF q).ac (zI c 1) (sI c 1) 3) ((dwF q).ae (zI c 1) (sI c 1) 3) ((dwF q).bk (zI c 1) (sI c 1) 3) ((dwF q).bc (zI c 1) (sI c 1) 3) ((dwF q).be (zI c 1) (sI c 1) 3)) := by
      dsimp only [dwF]
      rw [eA]
      exact eqO_self _ _ _
    by_cases he : (dA q (zI c 1) (sI c 1) 3).2.2 = 0
    · exact Runs.goes (hE _ _ _ _ _) ⟨_, _, dt1la dnF chF (dwF q) c len cap N cp xs q p1 p3 p4 (dn (zI c 1) q 3 0 (pK (zI c 1) (sI c 1)) (pC (zI c 1) (sI c 1)) (pE (zI c 1) (sI c 1))).1 (dn (zI c 1) q 3 0 (pK (zI c 1) (sI c 1)) (pC (zI c 1) (sI c 1)) (pE (zI c 1) (sI c 1))).2.1 (dn (zI c 1) q 3 0 (pK (zI c 1) (sI c 1)) (pC (zI c 1) (sI c 1)) (pE (zI c 1) (sI c 1))).2.2, All_ap (All_ap (All_ap (All_ap (All_ap (All_ap (All_ap (All_ap (All_ap (All_ap (⟨decide_eq_true (by omega), by decide, inB_ok (by omega), decide_eq_true (by omega), (by omega), trivial⟩) (⟨inB_ok (by omega), inB_ok (by omega), trivial⟩)) (⟨rfl, rfl, by omega, by omega, trivial⟩)) (⟨inB_ok (by omega), hcs.1, trivial⟩)) (⟨inB_ok (by omega), hcs.2, trivial⟩)) (⟨inB_ok (by omega), inB_ok (by omega), trivial⟩)) (⟨rfl, rfl, by omega, by omega, trivial⟩)) (⟨sd_z hs, hsz, trivial⟩)) (heq)) (⟨inB_ok (by omega), inB_ok (by omega), rfl, rfl, wfR8 (hx.w fun _ h => sl_ok (by omega) h) f1 (qPs_free _ _) f3 f4 (by kernel_rfl), trivial⟩)) (ezO_ok he (dA_may he) (by omega) (by omega)), wfR5 (hx.w fun _ h => sl_ok (by omega) h) f1 (qPs_free _ _) f3 f4 (by kernel_rfl)⟩
    · exact Runs.goes (hE _ _ _ _ _) ⟨_, _, dt1lb dnF chF (dwF q) c len cap N cp xs q p1 p3 p4 (dn (zI c 1) q 3 0 (pK (zI c 1) (sI c 1)) (pC (zI c 1) (sI c 1)) (pE (zI c 1) (sI c 1))).1 (dn (zI c 1) q 3 0 (pK (zI c 1) (sI c 1)) (pC (zI c 1) (sI c 1)) (pE (zI c 1) (sI c 1))).2.1 (dn (zI c 1) q 3 0 (pK (zI c 1) (sI c 1)) (pC (zI c 1) (sI c 1)) (pE (zI c 1) (sI c 1))).2.2, All_ap (All_ap (All_ap (All_ap (All_ap (All_ap (All_ap (All_ap (All_ap (All_ap (⟨decide_eq_true (by omega), by decide, inB_ok (by omega), decide_eq_true (by omega), (by omega), trivial⟩) (⟨inB_ok (by omega), inB_ok (by omega), trivial⟩)) (⟨rfl, rfl, by omega, by omega, trivial⟩)) (⟨inB_ok (by omega), hcs.1, trivial⟩)) (⟨inB_ok (by omega), hcs.2, trivial⟩)) (⟨inB_ok (by omega), inB_ok (by omega), trivial⟩)) (⟨rfl, rfl, by omega, by omega, trivial⟩)) (⟨sd_z hs, hsz, trivial⟩)) (heq)) (⟨inB_ok (by omega), inB_ok (by omega), rfl, rfl, wfR8 (hx.w fun _ h => sl_ok (by omega) h) f1 (qPs_free _ _) f3 f4 (by kernel_rfl), trivial⟩)) (enO_ok he (by omega)), wfR5 (hx.w fun _ h => sl_ok (by omega) h) f1 (qPs_free _ _) f3 f4 (by kernel_rfl)⟩
  | false =>
    have eA := dA_out (q := q) hs 3
    have heq : All (eqO ((dwF q).ak (zI c 1) (sI c 1) 3) ((dwF q).ac (zI c 1) (sI c 1) 3) ((dwF q).ae (zI c 1) (sI c 1) 3) e0 e0 1) := by
      dsimp only [dwF]
      rw [eA]
      exact eqO_self _ _ _
    have he : (dA q (zI c 1) (sI c 1) 3).2.2 ≠ 0 := by rw [eA]; decide
    cases hc1 : cvB (zI c 1) with
    | false => exact Runs.goes (hE _ _ _ _ _) ⟨_, _, dt1lc dnF chF (dwF q) c len cap N cp xs q p1 p3 p4 (dn (zI c 1) q 3 0 (pK (zI c 1) (sI c 1)) (pC (zI c 1) (sI c 1)) (pE (zI c 1) (sI c 1))).1 (dn (zI c 1) q 3 0 (pK (zI c 1) (sI c 1)) (pC (zI c 1) (sI c 1)) (pE (zI c 1) (sI c 1))).2.1 (dn (zI c 1) q 3 0 (pK (zI c 1) (sI c 1)) (pC (zI c 1) (sI c 1)) (pE (zI c 1) (sI c 1))).2.2, All_ap (All_ap (All_ap (All_ap (All_ap (All_ap (⟨decide_eq_true (by omega), by decide, inB_ok (by omega), decide_eq_true (by omega), (by omega), trivial⟩) (⟨inB_ok (by omega), inB_ok (by omega), trivial⟩)) (⟨rfl, rfl, by omega, by omega, trivial⟩)) (⟨inB_ok (by omega), hc1, trivial⟩)) (heq)) (⟨inB_ok (by omega), inB_ok (by omega), rfl, rfl, wfR8 (hx.w fun _ h => sl_ok (by omega) h) f1 (qPs_free _ _) f3 f4 (by kernel_rfl), trivial⟩)) (enO_ok he (by omega)), wfR5 (hx.w fun _ h => sl_ok (by omega) h) f1 (qPs_free _ _) f3 f4 (by kernel_rfl)⟩
    | true =>
      have hs2 : szB (sI c 1) = false := by
        have := hs
        rw [sdB_eq, hc1, Bool.true_and] at this
        exact this
      exact Runs.goes (hE _ _ _ _ _) ⟨_, _, dt1ld dnF chF (dwF q) c len cap N cp xs q p1 p3 p4 (dn (zI c 1) q 3 0 (pK (zI c 1) (sI c 1)) (pC (zI c 1) (sI c 1)) (pE (zI c 1) (sI c 1))).1 (dn (zI c 1) q 3 0 (pK (zI c 1) (sI c 1)) (pC (zI c 1) (sI c 1)) (pE (zI c 1) (sI c 1))).2.1 (dn (zI c 1) q 3 0 (pK (zI c 1) (sI c 1)) (pC (zI c 1) (sI c 1)) (pE (zI c 1) (sI c 1))).2.2, All_ap (All_ap (All_ap (All_ap (All_ap (All_ap (All_ap (⟨decide_eq_true (by omega), by decide, inB_ok (by omega), decide_eq_true (by omega), (by omega), trivial⟩) (⟨inB_ok (by omega), inB_ok (by omega), trivial⟩)) (⟨rfl, rfl, by omega, by omega, trivial⟩)) (⟨inB_ok (by omega), hc1, trivial⟩)) (⟨inB_ok (by omega), hs2, trivial⟩)) (heq)) (⟨inB_ok (by omega), inB_ok (by omega), rfl, rfl, wfR8 (hx.w fun _ h => sl_ok (by omega) h) f1 (qPs_free _ _) f3 f4 (by kernel_rfl), trivial⟩)) (enO_ok he (by omega)), wfR5 (hx.w fun _ h => sl_ok (by omega) h) f1 (qPs_free _ _) f3 f4 (by kernel_rfl)⟩
end Go.Ev.H5

namespace Go.Ev.H5
open Go Go.Proofs Go.RowKit
set_option maxRecDepth 100000
theorem p_in {z : Int} {s : ByteArray} (h : sdB z s = true) : pK z s = msK z s ∧ pC z s = msC z s ∧ pE z s = msE z s := by
  unfold pK pC pE
  refine ⟨?_, ?_, ?_⟩
  · rw [h, cond_true]
  · rw [h, cond_true]
  · rw [h, cond_true]
theorem p_out {z : Int} {s : ByteArray} (h : sdB z s = false) : pK z s = e0 ∧ pC z s = e0 ∧ pE z s = 1 := by
  unfold pK pC pE
  refine ⟨?_, ?_, ?_⟩
  · rw [h, cond_false]
  · rw [h, cond_false]
  · rw [h, cond_false]
theorem eqO_of {K C K' C' : ByteArray} {E E' : Int} (h1 : K = K') (h2 : C = C') (h3 : E = E') : All (eqO K C E K' C' E') := by subst h1; subst h2; subst h3; exact eqO_self _ _ _
theorem djn0 {c : Cells} {len cap cp : Nat} {o : Option Addr} {xs : Nat → Atom} {p1 p2 p3 p4 : List Piece} (hx : XsOk xs) (f1 : Free (roB p1)) (f2 : Free (roB p2)) (f3 : Free (roB p3)) (f4 : Free (roB p4)) : Goes Tryz.prog (bodyOf Tryz.prog 7 4) .normal (TD (len + 1) cap 0) (MR c (xsW 0 (.v (.slice o 0 cp)) xs) (len + 1) p1 p2 p3 p4) (TD (len + 1) cap 1) (MR c (xsW 0 (.v (.slice o 0 cp)) xs) (len + 1) p1 p2 p3 p4) := by
  cases hs : sdB (zI c 0) (sI c 0) with
  | true =>
    have hcs := hs
    rw [sdB_eq, Bool.and_eq_true] at hcs
    have hsz : (sI c 0).size ≤ 1000000 := by
      have := hcs.2
      unfold szB at this
      simp only [Bool.and_eq_true, Bool.not_eq_true', decide_eq_false_iff_not] at this
      omega
    obtain ⟨e1, e2, e3⟩ := p_in hs
    have heq : All (eqO (dnF.pk (zI c 0) (sI c 0)) (dnF.pc (zI c 0) (sI c 0)) (dnF.pe (zI c 0) (sI c 0)) (dnF.jk (zI c 0) (sI c 0)) (dnF.jc (zI c 0) (sI c 0)) (dnF.je (zI c 0) (sI c 0))) := eqO_of e1 e2 e3
    by_cases he : pE (zI c 0) (sI c 0) = 0
    · exact Runs.goes env7n ⟨_, _, dx0a dnF chF c len cap o cp xs p1 p2 p3 p4, All_ap (All_ap (All_ap (All_ap (All_ap (All_ap (All_ap (All_ap (⟨decide_eq_true (by omega), by decide, inB_ok (by omega), by decide, trivial⟩) (⟨inB_ok (by omega), inB_ok (by omega), trivial⟩)) (⟨inB_ok (by omega), hcs.1, trivial⟩)) (⟨inB_ok (by omega), hcs.2, trivial⟩)) (⟨inB_ok (by omega), inB_ok (by omega), trivial⟩)) (⟨sd_z hs, hsz, trivial⟩)) (heq)) (⟨inB_ok (by omega), inB_ok (by omega), by decide, trivial⟩)) (ezO_ok he (p_may he) (by omega) (by omega)), wfR5 (hx.w fun _ _ => rfl) f1 f2 f3 f4 (by kernel_rfl)⟩
    · exact Runs.goes env7n ⟨_, _, dx0b dnF chF c len cap o cp xs p1 p2 p3 p4, All_ap (All_ap (All_ap (All_ap (All_ap (All_ap (All_ap (All_ap (⟨decide_eq_true (by omega), by decide, inB_ok (by omega), by decide, trivial⟩) (⟨inB_ok (by omega), inB_ok (by omega), trivial⟩)) (⟨inB_ok (by omega), hcs.1, trivial⟩)) (⟨inB_ok (by omega), hcs.2, trivial⟩)) (⟨inB_ok (by omega), inB_ok (by omega), trivial⟩)) (⟨sd_z hs, hsz, trivial⟩)) (heq)) (⟨inB_ok (by omega), inB_ok (by omega), by decide, trivial⟩)) (enO_ok he (by omega)), wfR5 (hx.w fun _ _ => rfl) f1 f2 f3 f4 (by kernel_rfl)⟩
  | false =>
    obtain ⟨e1, e2, e3⟩ := p_out hs
    have heq : All (eqO (dnF.pk (zI c 0) (sI c 0)) (dnF.pc (zI c 0) (sI c 0)) (dnF.pe (zI c 0) (sI c 0)) e0 e0 1) := eqO_of e1 e2 e3
    have he : pE (zI c 0) (sI c 0) ≠ 0 := by rw [e3]; decide
    cases hc1 : cvB (zI c 0) with
    | false => exact Runs.goes env7n ⟨_, _, dx0c dnF chF c len cap o cp xs p1 p2 p3 p4, All_ap (All_ap (All_ap (All_ap (All_ap (⟨decide_eq_true (by omega), by decide, inB_ok (by omega), by decide, trivial⟩) (⟨inB_ok (by omega), inB_ok (by omega), trivial⟩)) (⟨inB_ok (by omega), hc1, trivial⟩)) (heq)) (⟨inB_ok (by omega), inB_ok (by omega), by decide, trivial⟩)) (enO_ok he (by omega)), wfR5 (hx.w fun _ _ => rfl) f1 f2 f3 f4 (by kernel_rfl)⟩
    | true =>
      have hs2 : szB (sI c 0) = false := by
        have := hs
        rw [sdB_eq, hc1, Bool.true_and] at this
        exact this
      exact Runs.goes env7n ⟨_, _, dx0d dnF chF c len cap o cp xs p1 p2 p3 p4, All_ap (All_ap (All_ap (All_ap (All_ap (All_ap (⟨decide_eq_true (by omega), by decide, inB_ok (by omega), by decide, trivial⟩) (⟨inB_ok (by omega), inB_ok (by omega), trivial⟩)) (⟨inB_ok (by omega), hc1, trivial⟩)) (⟨inB_ok (by omega), hs2, trivial⟩)) (heq)) (⟨inB_ok (by omega), inB_ok (by omega), by decide, trivial⟩)) (enO_ok he (by omega)), wfR5 (hx.w fun _ _ => rfl) f1 f2 f3 f4 (by kernel_rfl)⟩
theorem ds0 {c : Cells} {s : Sub} {cap : Nat} (len : Nat) (h : SubOk s (len + 1)) (hc : ∀ i, s.lv i = true → s.n i ≤ s.k i) : Goes Tryz.prog (bodyOf Tryz.prog 7 4) .normal (TD (len + 1) cap 0) (MW c s (len + 1)) (TD (len + 1) cap 1) (MW c s (len + 1)) := by
  cases hl : s.lv 0 with
  | true =>
    have ep : psS s 0 = qPs (s.q 0) (s.n 0) := by unfold psS; rw [hl]; rfl
    by_cases hn : s.n 0 ≤ 3
    · have h1 := dj0s (c := c) (len := len) (cap := cap) (N := s.n 0) (cp := s.k 0) (q := s.q 0) (xsS_ok s) (psS_free s 1) (psS_free s 2) (psS_free s 3) hn
      rw [← xsS_live hl (by omega), ← ep] at h1
      exact h1
    · have h1 := dj0l (c := c) (len := len) (cap := cap) (N := s.n 0) (cp := s.k 0) (q := s.q 0) (xsS_ok s) (psS_free s 1) (psS_free s 2) (psS_free s 3) (by omega) (hc 0 hl)
      rw [← xsS_live hl (by omega), ← ep] at h1
      exact h1
  | false =>
    have h1 := djn0 (c := c) (len := len) (cap := cap) (o := s.o 0) (cp := s.k 0) (xsS_ok s) (psS_free s 0) (psS_free s 1) (psS_free s 2) (psS_free s 3)
    rw [← xsS_none hl (h 0 (by omega) hl)] at h1
    exact h1
theorem djn1 {c : Cells} {len cap cp : Nat} {o : Option Addr} {xs : Nat → Atom} {p1 p2 p3 p4 : List Piece} (hx : XsOk xs) (f1 : Free (roB p1)) (f2 : Free (roB p2)) (f3 : Free (roB p3)) (f4 : Free (roB p4)) : Goes Tryz.prog (bodyOf Tryz.prog 7 4) .normal (TD (len + 2) cap 1) (MR c (xsW 1 (.v (.slice o 0 cp)) xs) (len + 2) p1 p2 p3 p4) (TD (len + 2) cap 2) (MR c (xsW 1 (.v (.slice o 0 cp)) xs) (len + 2) p1 p2 p3 p4) := by
  cases hs : sdB (zI c 1) (sI c 1) with
  | true =>
    have hcs := hs
    rw [sdB_eq, Bool.and_eq_true] at hcs
    have hsz : (sI c 1).size ≤ 1000000 := by
      have := hcs.2
      unfold szB at this
      simp only [Bool.and_eq_true, Bool.not_eq_true', decide_eq_false_iff_not] at this
      omega
    obtain ⟨e1, e2, e3⟩ := p_in hs
    have heq : All (eqO (dnF.pk (zI c 1) (sI c 1)) (dnF.pc (zI c 1) (sI c 1)) (dnF.pe (zI c 1) (sI c 1)) (dnF.jk (zI c 1) (sI c 1)) (dnF.jc (zI c 1) (sI c 1)) (dnF.je (zI c 1) (sI c 1))) := eqO_of e1 e2 e3
    by_cases he : pE (zI c 1) (sI c 1) = 0
    · exact Runs.goes env7n ⟨_, _, dx1a dnF chF c len cap o cp xs p1 p2 p3 p4, All_ap (All_ap (All_ap (All_ap (All_ap (All_ap (All_ap (All_ap (⟨decide_eq_true (by omega), by decide, inB_ok (by omega), by decide, trivial⟩) (⟨inB_ok (by omega), inB_ok (by omega), trivial⟩)) (⟨inB_ok (by omega), hcs.1, trivial⟩)) (⟨inB_ok (by omega), hcs.2, trivial⟩)) (⟨inB_ok (by omega), inB_ok (by omega), trivial⟩)) (⟨sd_z hs, hsz, trivial⟩)) (heq)) (⟨inB_ok (by omega), inB_ok (by omega), by decide, trivial⟩)) (ezO_ok he (p_may he) (by omega) (by omega)), wfR5 (hx.w fun _ _ => rfl) f1 f2 f3 f4 (by kernel_rfl)⟩
    · exact Runs.goes env7n ⟨_, _, dx1b dnF chF c len cap o cp xs p1 p2 p3 p4, All_ap (All_ap (All_ap (All_ap (All_ap (All_ap (All_ap (All_ap (⟨decide_eq_true (by omega), by decide, inB_ok (by omega), by decide, trivial⟩) (⟨inB_ok (by omega), inB_ok (by omega), trivial⟩)) (⟨inB_ok (by omega), hcs.1, trivial⟩)) (⟨inB_ok (by omega), hcs.2, trivial⟩)) (⟨inB_ok (by omega), inB_ok (by omega), trivial⟩)) (⟨sd_z hs, hsz, trivial⟩)) (heq)) (⟨inB_ok (by omega), inB_ok (by omega), by decide, trivial⟩)) (enO_ok he (by omega)), wfR5 (hx.w fun _ _ => rfl) f1 f2 f3 f4 (by kernel_rfl)⟩
  | false =>
    obtain ⟨e1, e2, e3⟩ := p_out hs
    have heq : All (eqO (dnF.pk (zI c 1) (sI c 1)) (dnF.pc (zI c 1) (sI c 1)) (dnF.pe (zI c 1) (sI c 1)) e0 e0 1) := eqO_of e1 e2 e3
    have he : pE (zI c 1) (sI c 1) ≠ 0 := by rw [e3]; decide
    cases hc1 : cvB (zI c 1) with
    | false => exact Runs.goes env7n ⟨_, _, dx1c dnF chF c len cap o cp xs p1 p2 p3 p4, All_ap (All_ap (All_ap (All_ap (All_ap (⟨decide_eq_true (by omega), by decide, inB_ok (by omega), by decide, trivial⟩) (⟨inB_ok (by omega), inB_ok (by omega), trivial⟩)) (⟨inB_ok (by omega), hc1, trivial⟩)) (heq)) (⟨inB_ok (by omega), inB_ok (by omega), by decide, trivial⟩)) (enO_ok he (by omega)), wfR5 (hx.w fun _ _ => rfl) f1 f2 f3 f4 (by kernel_rfl)⟩
    | true =>
      have hs2 : szB (sI c 1) = false := by
        have := hs
        rw [sdB_eq, hc1, Bool.true_and] at this
        exact this
      exact Runs.goes env7n ⟨_, _, dx1d dnF chF c len cap o cp xs p1 p2 p3 p4, All_ap (All_ap (All_ap (All_ap (All_ap (All_ap (⟨decide_eq_true (by omega), by decide, inB_ok (by omega), by decide, trivial⟩) (⟨inB_ok (by omega), inB_ok (by omega), trivial⟩)) (⟨inB_ok (by omega), hc1, trivial⟩)) (⟨inB_ok (by omega), hs2, trivial⟩)) (heq)) (⟨inB_ok (by omega), inB_ok (by omega), by decide, trivial⟩)) (enO_ok he (by omega)), wfR5 (hx.w fun _ _ => rfl) f1 f2 f3 f4 (by kernel_rfl)⟩
theorem ds1 {c : Cells} {s : Sub} {cap : Nat} (len : Nat) (h : SubOk s (len + 2)) (hc : ∀ i, s.lv i = true → s.n i ≤ s.k i) : Goes Tryz.prog (bodyOf Tryz.prog 7 4) .normal (TD (len + 2) cap 1) (MW c s (len + 2)) (TD (len + 2) cap 2) (MW c s (len + 2)) := by
  cases hl : s.lv 1 with
  | true =>
    have ep : psS s 1 = qPs (s.q 1) (s.n 1) := by unfold psS; rw [hl]; rfl
    by_cases hn : s.n 1 ≤ 3
    · have h1 := dj1s (c := c) (len := len) (cap := cap) (N := s.n 1) (cp := s.k 1) (q := s.q 1) (xsS_ok s) (psS_free s 0) (psS_free s 2) (psS_free s 3) hn
      rw [← xsS_live hl (by omega), ← ep] at h1
      exact h1
    · have h1 := dj1l (c := c) (len := len) (cap := cap) (N := s.n 1) (cp := s.k 1) (q := s.q 1) (xsS_ok s) (psS_free s 0) (psS_free s 2) (psS_free s 3) (by omega) (hc 1 hl)
      rw [← xsS_live hl (by omega), ← ep] at h1
      exact h1
  | false =>
    have h1 := djn1 (c := c) (len := len) (cap := cap) (o := s.o 1) (cp := s.k 1) (xsS_ok s) (psS_free s 0) (psS_free s 1) (psS_free s 2) (psS_free s 3)
    rw [← xsS_none hl (h 1 (by omega) hl)] at h1
    exact h1
theorem wfD (c : Cells) (s : Sub) (m cap : Nat) (i : Int) : wfS (TD m cap i) (MW c s m) = true := wfR5 (xsS_ok s) (psS_free s 0) (psS_free s 1) (psS_free s 2) (psS_free s 3) (by kernel_rfl)
theorem wfDx (c : Cells) (s : Sub) (m cap : Nat) : wfS (TDx m cap) (MW c s m) = true := wfR5 (xsS_ok s) (psS_free s 0) (psS_free s 1) (psS_free s 2) (psS_free s 3) (by kernel_rfl)
theorem loopD {c : Cells} {s : Sub} {m cap : Nat} (h : SubOk s m) (hc : ∀ i, s.lv i = true → s.n i ≤ s.k i) : Goes Tryz.prog (.loop (bodyOf Tryz.prog 7 4)) (.exit 0) (TD m cap ((0 : Nat) : Int)) (MW c s m) (TDx m cap) (MW c s m) := by
  refine loop_goes (N := min m 2) (k := 5) (T := fun i => TD m cap (i : Int)) (M := fun _ => MW c s m) (by simp) (fun _ _ => rfl) (fun i hi => ?_) ?_
  · match i, hi with
    | 0, hi =>
      obtain ⟨l, rfl⟩ : ∃ l, m = l + 1 := ⟨m - 1, by omega⟩
      exact ds0 l h hc
    | 1, hi =>
      obtain ⟨l, rfl⟩ : ∃ l, m = l + 2 := ⟨m - 2, by omega⟩
      exact ds1 l h hc
    | i + 2, hi => omega
  · by_cases h4 : m ≤ 2
    · rw [show min m 2 = m by omega]
      exact Runs.goes env7n ⟨_, _, dy1 dnF chF c m cap (m : Int) (xsS s) _ _ _ _, ⟨decide_eq_false (by omega), trivial⟩, wfDx _ _ _ _⟩
    · rw [show min m 2 = 2 by omega]
      exact Runs.goes env7n ⟨_, _, dy2 dnF chF c m cap 2 (xsS s) _ _ _ _, ⟨decide_eq_true (by omega), by decide, trivial⟩, wfDx _ _ _ _⟩
theorem env7y {c : Cells} {s : Sub} {l : Lits} {m cap : Nat} (h : SubOk s m) (hc : ∀ i, s.lv i = true → s.n i ≤ s.k i) : EnvOK (E7y dnF chF c s l m cap) := envAddM' (envAddLp env7n (sumC_ok rfl (loopD h hc))) (fmW_ok _ _ _ _)
theorem law7 {H : Type} {enc : TypeId × Value → H} {r : Reach} {W : World} {base : Nat} {v : Value} {d : DataW H} {ps : List MemPlace} (hval : Value.okWide Tryz.prog W r base 22 v) (h : DataW.Trod enc Tryz.prog W 0 (fun _ => true) true 22 v d ps) (hwt : ∀ n ∈ d.weights Tryz.prog 22, n ≤ BB) :
    Calls Tryz.prog 7 #[v] W (Trues W) := by
  rcases rows_of (Nat.le_refl _) (ask_open u22 u28 rfl rfl rfl rfl cf0 cf1 cf2 cf3 c28 kf0 kf1 kf2 uf3 k32 c32 b32 b28 hval h hwt) with rfl | ⟨c, s, l, m, cap, φ, hR, rfl⟩
  · exact law_runMD (φ := fun _ => (0, 0, 0)) env7z (w7n dnF chF) ⟨rfl, by decide, trivial⟩ ⟨Below.refl _ _, by simp, by simp, by simp, by simp, by simp⟩ rfl
  · have hE := env7y (c := c) (l := l) (cap := cap) hR.ok hR.cp
    cases hv : decide (2000 < hvX c l m 0 (m : Int)) with
    | true => exact law_runMD hE (w7t dnF chF c s l m cap) (All_ap ⟨hv, trivial⟩ (ob9_ok hR)) hR.rel rfl
    | false => exact law_runMD hE (w7f dnF chF c s l m cap) (All_ap3 ⟨hv, trivial⟩ (ob9_ok hR) ⟨rfl, rfl, wfD _ _ _ _ _, trivial⟩) hR.rel rfl
end Go.Ev.H5

namespace Go.Proofs.YtfcobjhnkghdjaaGreat.Laws
open Go Go.Ev Go.Ev.H5 Go.RowKit Go.ChangeShapes Go.WideShapes Go.ChangeAt

set_option maxRecDepth 100000 in
theorem lifted7 (os : Os) (started : os.Started) (H : Type) (enc : TypeId × Value → H) :
    ReturnsInHanded {} Tryz.checked os 7 .any (Rows.slipDownsSpec.pre6 enc Tryz.prog Tryz.f7 Rows.slipDownsRow.domain false) (Rows.slipDownsSpec.post enc Tryz.prog Tryz.f7 false true false false) := by
  refine returnsInHanded_of_change_sized (C := Tryz.checked) own started (by kernel_rfl) Tryz.func7
    (ChangeSpec.witness6 (enc := enc) (C := Tryz.checked) false ⟨#[], #[.slice none 0 0], []⟩ 8 (by kernel_rfl) (by kernel_rfl) (by kernel_rfl) (by kernel_rfl)) ?_
  intro W base args ds gs before hval0 hW _ hsz0 _
  have hsz : (DataW.weightsEach Tryz.prog (Tryz.f7.params.toList ++ Rows.slipDownsSpec.plain.varTypes Tryz.prog) (ds ++ gs)).all (· ≤ reachBytes) = true := hsz0
  clear hsz0
  have hval : ∀ (j : Nat) t v, Tryz.f7.params[j]? = some t → args[j]? = some v → Value.okWide Tryz.prog W .any base t v := hval0
  have hW' := hW
  obtain ⟨p, q, hA0, hV, hbef, hfz, hnd⟩ := hW
  have hp : Tryz.f7.params = #[22] := by kernel_rfl
  have hA : DataW.TrodAll enc Tryz.prog W 0 (fun _ => true) true Tryz.f7.params.toList args.toList ds p := hA0
  rw [hp] at hA hval
  obtain ⟨v0, d0, rfl, rfl, h0⟩ := trodAll_one hA
  obtain ⟨rfl, rfl⟩ := trodVars_none hV
  refine (law7 (hval 0 22 v0 rfl rfl) h0 (fun n hn => by simpa using List.all_eq_true.1 hsz n (DataW.weights_mem_each (j := 0) (t := 22) (by rw [hp]; rfl) rfl n hn))).mono ?_
  rintro e W' ⟨rfl, hb⟩
  exact ⟨_, rfl, post_true (tb := 4) rfl hp (by kernel_rfl) u4 laid rd22 row22 rfl rfl hW' hb⟩

theorem holds7 : Rows.SlipDownsSaid :=
  OpenClaim.holds_of_wide 7 Tryz.f7 rfl rfl rfl rfl rfl rfl rfl ⟨rfl, rfl, rfl, rfl, rfl⟩ rfl rfl rfl rfl rfl (by kernel_rfl) Tryz.func7 (by kernel_rfl)
    (of_decide_eq_true (by kernel_rfl)) (by unfold Func.isWrapper; first | (rw [if_pos (by decide +kernel)]; kernel_rfl) | (rw [if_neg (by decide +kernel)]; exact ⟨rfl, rfl⟩))
    (fun os started H enc _ => lifted7 os started H enc)

end Go.Proofs.YtfcobjhnkghdjaaGreat.Laws

namespace Go.Proofs.YtfcobjhnkghdjaaGreat
open Go
theorem slipDowns_holds : Rows.SlipDownsSaid := Laws.holds7
end Go.Proofs.YtfcobjhnkghdjaaGreat

