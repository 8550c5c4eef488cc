/- Keyed sums, nodes, and the law, of every input: SlipSoft holds of every argument -/
import Derived.Test.YtfcobjhnkghdjaaGreatPartV
import Derived.Test.YtfcobjhnkghdjaaGreatPartR
import Derived.Test.YtfcobjhnkghdjaaGreatPartQ
import Derived.Test.YtfcobjhnkghdjaaGreatPartU
import Derived.JoinedOf
import Derived.SizedLaws
namespace Go.Ev.H5
open Go Go.Proofs Go.RowKit
set_option maxRecDepth 100000
theorem ct28 : CTok ⟨28, fnKy⟩ := by
  intro vs ob r h ho
  simp only [fnKy] at h
  split at h
  · simp only [Option.some.injEq, Prod.mk.injEq] at h
    obtain ⟨rfl, rfl⟩ := h
    obtain ⟨h1, _⟩ := ho
    exact spec_run (envMk LKz_ok SKz) rfl (r28 _) ⟨dec32 h1, h1, beS_lt h1, trivial⟩ rfl rfl
  · simp at h
noncomputable def LPb : List CT := ⟨28, fnKy⟩ :: ⟨43, fnKy⟩ :: ⟨65, fnS [aN, aSp] gMulP⟩ :: ⟨49, fnS [aN, aSp] gMulQ⟩ :: ⟨64, fnS [aSp] gOf58⟩ :: ⟨48, fnS [aSp] gOf58⟩ :: ⟨66, cV (.val (P3 wXN wYN false))⟩ :: ⟨50, cV (.val (P3 wXN wYN false))⟩ :: []
theorem LPb_ok : AllCT LPb := ⟨ct28, ct43, ct39q, ct15q, ct58s, ct32s, ctV spec19w, ctV spec28w, trivial⟩
def SPb : FuncId → Nat → Bool := fun f t => match f with | 41 => memN t [12] | _ => false
noncomputable def gBas (k : Nat) : Sp := gmul (Sp.mk wXN wYN false) k
theorem gBas_on (k : Nat) : (gBas k).on := gmul_on (s := Sp.mk wXN wYN false) on_base k
theorem gBas_lt (k : Nat) : (gBas k).x < 4294967296 ^ 8 ∧ (gBas k).y < 4294967296 ^ 8 := ⟨L8 (gBas_on k).lx, L8 (gBas_on k).ly⟩
noncomputable def pubS (s : ByteArray) : ByteArray := packW (gBas (beS s)).x (gBas (beS s)).y
theorem pubS_size (s : ByteArray) : (pubS s).size = 33 := by
  unfold pubS packW
  rw [ByteArray.size_append, Go.Ev.bgS_size, one_size]
theorem r41 (s : ByteArray) : callR (mkE LPb SPb) 1000 41 [sS s] [false] =
    some ([s.size = 32, (!gd (beS s)) = false, beS s < 4294967296 ^ 8, wXN < 4294967296 ^ 8, wYN < 4294967296 ^ 8, onS wXN wYN false = true, (gBas (beS s)).x < 4294967296 ^ 8, (gBas (beS s)).y < 4294967296 ^ 8], .tup [sS (pubS s), .one (.i 0)]) := by kernel_rfl
theorem r30 (s : ByteArray) : callR (mkE LPb SPb) 1000 30 [sS s] [] =
    some ([s.size = 32, beS s < 4294967296 ^ 8, wXN < 4294967296 ^ 8, wYN < 4294967296 ^ 8, onS wXN wYN false = true, (gBas (beS s)).x < 4294967296 ^ 8, (gBas (beS s)).y < 4294967296 ^ 8], .val (sS (pubS s))) := by kernel_rfl
noncomputable def fnPb (vs : List V1) : Option (List Prop × AV) := match vs with | [.one (.v (.string s))] => some ([s.size = 32, gd (beS s) = true], .tup [sS (pubS s), .one (.i 0)]) | _ => none
noncomputable def fnPc (vs : List V1) : Option (List Prop × AV) := match vs with | [.one (.v (.string s))] => some ([s.size = 32], .val (sS (pubS s))) | _ => none
theorem ct41 : CTok ⟨41, fnPb⟩ := by
  intro vs ob r h ho
  simp only [fnPb] at h
  split at h
  · simp only [Option.some.injEq, Prod.mk.injEq] at h
    obtain ⟨rfl, rfl⟩ := h
    obtain ⟨h1, h2, _⟩ := ho
    exact spec_run (envMk LPb_ok SPb) rfl (r41 _) ⟨h1, by rw [h2]; rfl, beS_lt h1, L8 wXN_lt, L8 wYN_lt, on_base, (gBas_lt _).1, (gBas_lt _).2, trivial⟩ rfl rfl
  · simp at h
theorem ct30 : CTok ⟨30, fnPc⟩ := by
  intro vs ob r h ho
  simp only [fnPc] at h
  split at h
  · simp only [Option.some.injEq, Prod.mk.injEq] at h
    obtain ⟨rfl, rfl⟩ := h
    obtain ⟨h1, _⟩ := ho
    exact spec_run (envMk LPb_ok SPb) rfl (r30 _) ⟨h1, beS_lt h1, L8 wXN_lt, L8 wYN_lt, on_base, (gBas_lt _).1, (gBas_lt _).2, trivial⟩ rfl rfl
  · simp at h
noncomputable def LMp : List CT := ⟨41, fnPb⟩ :: ⟨30, fnPc⟩ :: LMy
theorem LMp_ok : AllCT LMp := ⟨ct41, ct30, LMy_ok⟩
end Go.Ev.H5

namespace Go.Ev.H5
open Go Go.Proofs Go.RowKit
set_option maxRecDepth 100000
noncomputable def sfS (k : ByteArray) (i : Nat) : ByteArray := pubS k ++ ixS i
theorem sfS_size (k : ByteArray) (i : Nat) : (sfS k i).size = 37 := by
  unfold sfS
  rw [ByteArray.size_append, pubS_size, ixS_size]
noncomputable def E27p (s : ByteArray) (i : Nat) (k c : ByteArray) (T : List AV) (k' c' : ByteArray) (ex : Ex) : Env := addLp (mkE LMp SMs) 5 (bodyOf Tryz.prog 27 5) (sumC (T27 s i 0) [nB k c, nB e0 e0] T [nB k c, nB k' c'] ex)
noncomputable def E12p (s : ByteArray) (i : Nat) (k c : ByteArray) (T : List AV) (k' c' : ByteArray) (ex : Ex) : Env := addLp (mkE LMp SMs) 7 (bodyOf Tryz.prog 12 7) (sumC (T12 s i 0) [nB k c, nB e0 e0] T [nB k c, nB k' c'] ex)
theorem envMp : EnvOK (mkE LMp SMs) := envMk LMp_ok SMs
noncomputable def ob27s (k c : ByteArray) (i : Nat) : List Prop := [decide ((2 : Int) = 1) = false, decide (2147483648 ≤ i) = false, k.size = 32, gd (beS k) = true, (pubS k).size + (ixS i).size ≤ 9223372036854775807, bodyOf Tryz.prog 27 5 = bodyOf Tryz.prog 27 5, (T27 (sfS k i) i 0, [nB k c, nB e0 e0]) = (T27 (sfS k i) i 0, [nB k c, nB e0 e0]), wfS (T27 (sfS k i) i 0) [nB k c, nB e0 e0] = true]
theorem eS (k c k' c' : ByteArray) (i : Nat) : callR (E27p (sfS k i) i k c T27r k' c' .ret) 1000 27 [.one (.i 2), node k c, u32 i] [false, false] = some (ob27s k c i, res k' c' 0) := by kernel_rfl
theorem eN (k c : ByteArray) (i : Nat) : callR (E27p (sfS k i) i k c T27x e0 e0 (.exit 0)) 1000 27 [.one (.i 2), node k c, u32 i] [false, false] = some (ob27s k c i, res e0 e0 3) := by kernel_rfl
noncomputable def ob12s (k c : ByteArray) (i : Nat) : List Prop := [decide ((2 : Int) = 1) = false, 1 + k.size ≤ 9223372036854775807, (zer1 ++ k).size + (ixS i).size ≤ 9223372036854775807, decide (i < 2147483648) = true, k.size = 32, (pubS k).size + (ixS i).size ≤ 9223372036854775807, bodyOf Tryz.prog 12 7 = bodyOf Tryz.prog 12 7, (T12 (sfS k i) i 0, [nB k c, nB e0 e0]) = (T12 (sfS k i) i 0, [nB k c, nB e0 e0]), wfS (T12 (sfS k i) i 0) [nB k c, nB e0 e0] = true]
theorem fS (k c k' c' : ByteArray) (i : Nat) : callR (E12p (sfS k i) i k c T12r k' c' .ret) 1000 12 [.one (.i 2), node k c, u32 i] [false, true] = some (ob12s k c i, res k' c' 0) := by kernel_rfl
theorem fN (k c : ByteArray) (i : Nat) : callR (E12p (sfS k i) i k c T12x e0 e0 (.exit 0)) 1000 12 [.one (.i 2), node k c, u32 i] [false, true] = some (ob12s k c i, res e0 e0 3) := by kernel_rfl
theorem gd_parts {z : Int} {k c : ByteArray} (h : mayB z k c = true) : z = 1 ∨ gd (beS k) = true := by
  unfold mayB at h
  simp only [Bool.and_eq_true, Bool.or_eq_true, decide_eq_true_eq] at h
  exact h.2.2.2
noncomputable def bgI (k : ByteArray) (i : Nat) : ByteArray := bif decide (2147483648 ≤ i) then hdS k i else sfS k i
noncomputable def noB (z : Int) (i : Nat) : Bool := decide (z = 1) && decide (i < 2147483648)
noncomputable def cK (z : Int) (k c : ByteArray) (i : Nat) : ByteArray := bif noB z i then e0 else chK z k c (bgI k i) (ixS i)
noncomputable def cC (z : Int) (k c : ByteArray) (i : Nat) : ByteArray := bif noB z i then e0 else chC z k c (bgI k i) (ixS i)
noncomputable def cE (z : Int) (k c : ByteArray) (i : Nat) : Int := bif noB z i then 10 else chE z k c (bgI k i) (ixS i)
noncomputable def resA (z : Int) (k c : ByteArray) (i : Nat) : AV := res (cK z k c i) (cC z k c i) (cE z k c i)
theorem resA_hard {z : Int} {k c : ByteArray} {i : Nat} (hi : 2147483648 ≤ i) : resA z k c i = res (chK z k c (hdS k i) (ixS i)) (chC z k c (hdS k i) (ixS i)) (chE z k c (hdS k i) (ixS i)) := by
  unfold resA cK cC cE
  rw [show noB z i = false by unfold noB; rw [decide_eq_false (show ¬ i < 2147483648 by omega), Bool.and_false], cond_false, cond_false, cond_false]
  rw [show bgI k i = hdS k i by unfold bgI; rw [decide_eq_true hi, cond_true]]
theorem resA_none {k c : ByteArray} {i : Nat} (hi : i < 2147483648) : resA 1 k c i = res e0 e0 10 := by
  unfold resA cK cC cE
  rw [show noB 1 i = true by unfold noB; rw [decide_eq_true hi]; rfl, cond_true, cond_true, cond_true]
theorem resA_soft {k c : ByteArray} {i : Nat} (hi : i < 2147483648) : resA 2 k c i = res (chK 2 k c (sfS k i) (ixS i)) (chC 2 k c (sfS k i) (ixS i)) (chE 2 k c (sfS k i) (ixS i)) := by
  unfold resA cK cC cE
  rw [show noB 2 i = false from rfl, cond_false, cond_false, cond_false]
  rw [show bgI k i = sfS k i by unfold bgI; rw [decide_eq_false (by omega), cond_false]]
theorem spec27a (z : Int) (k c : ByteArray) (i : Nat) (hz : z = 1 ∨ z = 2) (hm : mayB z k c = true) : Spec 27 [.one (.i z), node k c, u32 i] (resA z k c i) := by
  by_cases hi : 2147483648 ≤ i
  · rw [resA_hard hi]; exact spec27h z k c i hz hm hi
  · have hi : i < 2147483648 := by omega
    have hg := gd_parts hm
    obtain ⟨hk, hc, ha⟩ := may_parts hm
    have h3 := ixS_size i
    have h4 := pubS_size k
    have h5 := sfS_size k i
    rcases hz with rfl | rfl
    · rw [resA_none hi]
      exact spec_run envMs rfl (c0f k c i) ⟨by decide, decide_eq_true hi, trivial⟩ rfl rfl
    · have ha : beS k < modN 3 := ha.resolve_left (by omega)
      have hg : gd (beS k) = true := hg.resolve_left (by omega)
      rw [resA_soft hi]
      unfold chK chC chE
      rw [show decide ((2 : Int) = 1) = false from rfl, cond_false, cond_false, cond_false]
      cases hm : chl (beS k) c (ixS i) 8 (sfS k i) with
      | some r =>
        have hE : EnvOK (E27p (sfS k i) i k c T27r r.1 r.2 .ret) := envAddLp envMp (sumC_ok rfl (loop27s hk hc ha 8 0 _ r (by omega) (by omega) hm).loop)
        exact spec_run hE rfl (eS k c _ _ i) ⟨by decide, decide_eq_false (by omega), hk, hg, by omega, rfl, rfl, wf2 _ _ _ _ (by kernel_rfl), trivial⟩ rfl rfl
      | none =>
        have hE : EnvOK (E27p (sfS k i) i k c T27x e0 e0 (.exit 0)) := envAddLp envMp (sumC_ok rfl (loop27n hk hc ha 8 0 _ (by omega) (by omega) hm).loop)
        exact spec_run hE rfl (eN k c i) ⟨by decide, decide_eq_false (by omega), hk, hg, by omega, rfl, rfl, wf2 _ _ _ _ (by kernel_rfl), trivial⟩ rfl rfl
theorem spec12a (z : Int) (k c : ByteArray) (i : Nat) (hz : z = 1 ∨ z = 2) (hm : mayB z k c = true) : Spec 12 [.one (.i z), node k c, u32 i] (resA z k c i) := by
  by_cases hi : 2147483648 ≤ i
  · rw [resA_hard hi]; exact spec12h z k c i hz hm hi
  · have hi : i < 2147483648 := by omega
    obtain ⟨hk, hc, ha⟩ := may_parts hm
    have h1 := hd1_size hk
    have h3 := ixS_size i
    have h4 := pubS_size k
    have h5 := sfS_size k i
    rcases hz with rfl | rfl
    · rw [resA_none hi]
      exact spec_run envMs rfl (d0 k c i) ⟨by decide, decide_eq_true hi, trivial⟩ rfl rfl
    · have ha : beS k < modN 3 := ha.resolve_left (by omega)
      rw [resA_soft hi]
      unfold chK chC chE
      rw [show decide ((2 : Int) = 1) = false from rfl, cond_false, cond_false, cond_false]
      cases hm : chl (beS k) c (ixS i) 8 (sfS k i) with
      | some r =>
        have hE : EnvOK (E12p (sfS k i) i k c T12r r.1 r.2 .ret) := envAddLp envMp (sumC_ok rfl (loop12s hk hc ha 8 0 _ r (by omega) (by omega) hm).loop)
        exact spec_run hE rfl (fS k c _ _ i) ⟨by decide, by omega, by omega, decide_eq_true hi, hk, by omega, rfl, rfl, wf2 _ _ _ _ (by kernel_rfl), trivial⟩ rfl rfl
      | none =>
        have hE : EnvOK (E12p (sfS k i) i k c T12x e0 e0 (.exit 0)) := envAddLp envMp (sumC_ok rfl (loop12n hk hc ha 8 0 _ (by omega) (by omega) hm).loop)
        exact spec_run hE rfl (fN k c i) ⟨by decide, by omega, by omega, decide_eq_true hi, hk, by omega, rfl, rfl, wf2 _ _ _ _ (by kernel_rfl), trivial⟩ rfl rfl
noncomputable def fnCa (vs : List V1) : Option (List Prop × AV) := match vs with | [.one (.i z), .agg [.a (.v (.string k)), .a (.v (.string c))], .one (.u .u32 i)] => some ([z = 1 ∨ z = 2, mayB z k c = true], resA z k c i) | _ => none
theorem ct27a : CTok ⟨27, fnCa⟩ := by
  intro vs ob r h ho
  simp only [fnCa] at h
  split at h
  · simp only [Option.some.injEq, Prod.mk.injEq] at h
    obtain ⟨rfl, rfl⟩ := h
    obtain ⟨h1, h2, _⟩ := ho
    exact spec27a _ _ _ _ h1 h2
  · simp at h
theorem may_z {z : Int} {k c : ByteArray} (h : mayB z k c = true) : z = 1 ∨ z = 2 := by
  unfold mayB at h
  simp only [Bool.and_eq_true, Bool.or_eq_true, decide_eq_true_eq] at h
  exact h.1
noncomputable def LCa : List CT := ⟨27, fnCa⟩ :: LMy
theorem LCa_ok : AllCT LCa := ⟨ct27a, LMy_ok⟩
noncomputable def dK (z : Int) (k c : ByteArray) (i : Nat) : ByteArray := bif mayB z k c then cK z k c i else e0
noncomputable def dC (z : Int) (k c : ByteArray) (i : Nat) : ByteArray := bif mayB z k c then cC z k c i else e0
noncomputable def dE (z : Int) (k c : ByteArray) (i : Nat) : Int := bif mayB z k c then cE z k c i else 1
theorem s10y (z : Int) (k c : ByteArray) (i : Nat) : callR (mkE LCa SMs) 1000 10 [.one (.i z), node k c, u32 i] [true] = some ([mayB z k c = true, z = 1 ∨ z = 2, mayB z k c = true], resA z k c i) := by kernel_rfl
theorem s10n (z : Int) (k c : ByteArray) (i : Nat) : callR (mkE LCa SMs) 1000 10 [.one (.i z), node k c, u32 i] [false] = some ([mayB z k c = false], res e0 e0 1) := by kernel_rfl
noncomputable def fnCb (vs : List V1) : Option (List Prop × AV) := match vs with | [.one (.i z), .agg [.a (.v (.string k)), .a (.v (.string c))], .one (.u .u32 i)] => some ([], res (dK z k c i) (dC z k c i) (dE z k c i)) | _ => none
theorem ct10a : CTok ⟨10, fnCb⟩ := by
  intro vs ob r h ho
  simp only [fnCb] at h
  split at h
  · rename_i z k c i
    simp only [Option.some.injEq, Prod.mk.injEq] at h
    obtain ⟨rfl, rfl⟩ := h
    unfold dK dC dE
    cases hm : mayB z k c with
    | true =>
      rw [cond_true, cond_true, cond_true]
      exact spec_run (envMk LCa_ok SMs) rfl (s10y _ _ _ _) ⟨hm, may_z hm, hm, trivial⟩ rfl rfl
    | false =>
      rw [cond_false, cond_false, cond_false]
      exact spec_run (envMk LCa_ok SMs) rfl (s10n _ _ _ _) ⟨hm, trivial⟩ rfl rfl
  · simp at h
end Go.Ev.H5

namespace Go.Ev.H5
open Go Go.Proofs Go.RowKit
set_option maxRecDepth 100000
structure ChF where
  dk : Int → ByteArray → ByteArray → Nat → ByteArray
  dc : Int → ByteArray → ByteArray → Nat → ByteArray
  de : Int → ByteArray → ByteArray → Nat → Int
  ck : Int → ByteArray → ByteArray → Nat → ByteArray
  cc : Int → ByteArray → ByteArray → Nat → ByteArray
  ce : Int → ByteArray → ByteArray → Nat → Int
  b : Int → ByteArray → ByteArray → Bool
noncomputable def chF : ChF := ⟨dK, dC, dE, cK, cC, cE, mayB⟩
def fv10 (g : ChF) (vs : List V1) : Option (List Prop × AV) := match vs with | [.one (.i z), .agg [.a (.v (.string k)), .a (.v (.string c))], .one (.u .u32 i)] => some ([], res (g.dk z k c i) (g.dc z k c i) (g.de z k c i)) | _ => none
def fv12 (g : ChF) (vs : List V1) : Option (List Prop × AV) := match vs with | [.one (.i z), .agg [.a (.v (.string k)), .a (.v (.string c))], .one (.u .u32 i)] => some ([g.b z k c = true], res (g.ck z k c i) (g.cc z k c i) (g.ce z k c i)) | _ => none
def fv11 (g : ChF) (vs : List V1) : Option (List Prop × AV) := match vs with | [.one (.i z), .agg [.a (.v (.string k)), .a (.v (.string c))]] => some ([], bV (g.b z k c)) | _ => none
def LCv (g : ChF) : List CT := ⟨10, fv10 g⟩ :: ⟨12, fv12 g⟩ :: ⟨11, fv11 g⟩ :: ⟨14, cV (bV true)⟩ :: []
theorem ct10v : CTok ⟨10, fv10 chF⟩ := by
  intro vs ob r h ho
  simp only [fv10] at h
  split at h
  · simp only [Option.some.injEq, Prod.mk.injEq] at h
    obtain ⟨rfl, rfl⟩ := h
    exact ct10a _ _ _ rfl trivial
  · simp at h
theorem ct12v : CTok ⟨12, fv12 chF⟩ := by
  intro vs ob r h ho
  simp only [fv12] at h
  split at h
  · simp only [Option.some.injEq, Prod.mk.injEq] at h
    obtain ⟨rfl, rfl⟩ := h
    obtain ⟨h1, _⟩ := ho
    exact spec12a _ _ _ _ (may_z h1) h1
  · simp at h
theorem ct11v : CTok ⟨11, fv11 chF⟩ := by
  intro vs ob r h ho
  simp only [fv11] at h
  split at h
  · simp only [Option.some.injEq, Prod.mk.injEq] at h
    obtain ⟨rfl, rfl⟩ := h
    exact spec11k _ _ _
  · simp at h
theorem LCv_ok : AllCT (LCv chF) := ⟨ct10v, ct12v, ct11v, ctV wakes14, trivial⟩
end Go.Ev.H5

namespace Go.Ev.H5
open Go Go.Proofs Go.RowKit
set_option maxRecDepth 100000
def inB (i m : Nat) : Prop := (0 : Int) ≤ (i : Int) ∧ (i : Int) < (m : Int)
def yT (g : ChF) (z : Int) (A B : ByteArray) (x : Nat) : List Prop := [(!decide (g.de z A B x = g.ce z A B x)) = false, (!eqS (g.dk z A B x) (g.dc z A B x) (g.ck z A B x) (g.cc z A B x)) = false, inI (z + 1)]
end Go.Ev.H5

namespace Go.Ev.H5
open Go Go.Proofs Go.RowKit
set_option maxRecDepth 100000
theorem inB_ok {i m : Nat} (h : i < m) : inB i m := by unfold inB; omega
theorem yT_ok {z : Int} {A B : ByteArray} {x : Nat} (h : mayB z A B = true) (h0 : 0 ≤ z) (h3 : z ≤ 3) : All (yT chF z A B x) := by
  have e1 : chF.de z A B x = chF.ce z A B x := by show dE z A B x = cE z A B x; unfold dE; rw [h, cond_true]
  have e2 : chF.dk z A B x = chF.ck z A B x := by show dK z A B x = cK z A B x; unfold dK; rw [h, cond_true]
  have e3 : chF.dc z A B x = chF.cc z A B x := by show dC z A B x = cC z A B x; unfold dC; rw [h, cond_true]
  refine ⟨?_, ?_, by unfold inI; omega, trivial⟩
  · rw [e1, decide_eq_true rfl]; rfl
  · rw [e2, e3]; exact eqS_self _ _
end Go.Ev.H5

namespace Go.Ev.H5
open Go Go.Proofs Go.RowKit
set_option maxRecDepth 100000
theorem first20 : gd (beS (hL wP (zs 20))) = true := by kernel_rfl
theorem msE_20 : msE 2 (zs 20) = 0 := by
  unfold msE
  rw [show decide ((2 : Int) = 1) = false from rfl, cond_false, show (8 : Nat) = 7 + 1 from rfl, mst_succ, first20, cond_true]
theorem may_20 : mayB 2 (msK 2 (zs 20)) (msC 2 (zs 20)) = true := ms_may (.inr rfl) msE_20
end Go.Ev.H5

namespace Go.Ev.H5
open Go Go.Proofs Go.RowKit
set_option maxRecDepth 100000
structure MfF where
  k : ByteArray
  c : ByteArray
  e : Int
theorem mf_ex (a b : ByteArray) (c : Int) : ∃ f : MfF, f.k = a ∧ f.c = b ∧ f.e = c := ⟨⟨a, b, c⟩, rfl, rfl, rfl⟩
structure MfOk (f : MfF) : Prop where
  k : f.k = msK 2 (zs 20)
  c : f.c = msC 2 (zs 20)
  e : f.e = msE 2 (zs 20)
def fv16 (f : MfF) (vs : List V1) : Option (List Prop × AV) := match vs with | [.one (.i z), .one (.v (.string s))] => some ([z = 2, s = zs 20], res f.k f.c f.e) | _ => none
theorem ct16s {f : MfF} (hf : MfOk f) : CTok ⟨16, fv16 f⟩ := by
  intro vs ob r h ho
  simp only [fv16] at h
  split at h
  · simp only [Option.some.injEq, Prod.mk.injEq] at h
    obtain ⟨rfl, rfl⟩ := h
    obtain ⟨rfl, rfl, _⟩ := ho
    rw [hf.k, hf.c, hf.e]
    exact spec16 2 (zs 20) (.inr rfl) (by rw [zs_size]; omega)
  · simp at h
def LSv (f : MfF) (g : ChF) : List CT := ⟨16, fv16 f⟩ :: ⟨17, fnZs⟩ :: LCv g
theorem LSv_ok {f : MfF} (hf : MfOk f) : AllCT (LSv f chF) := ⟨ct16s hf, ct21z, LCv_ok⟩
def S6c : FuncId → Nat → Bool := fun f t => match f with
  | 6 => memN t [15, 19, 22, 24, 25, 39, 29, 33, 36, 38, 42, 46, 55, 76, 81, 86] | _ => false
noncomputable def ESv (f : MfF) (g : ChF) : Env := mkE (LSv f g) S6c
theorem envSv {f : MfF} (hf : MfOk f) : EnvOK (ESv f chF) := envMk (LSv_ok hf) S6c
def UK (len cap : Nat) (i k : Int) : List AV := slots 89 [(0, slN len cap), (3, iV i), (4, iV k)]
def UJ (len cap : Nat) (i : Int) : List AV := slots 89 [(0, slN len cap), (3, iV i)]
def UJx (len cap : Nat) : List AV := slots 89 [(0, slN len cap)]
def atS (x : Nat) : Nat := x % 4294967296 &&& 2147483647
theorem atS_lt (x : Nat) : atS x < 2147483648 := Nat.lt_of_le_of_lt Nat.and_le_right (by decide)
def zT (f : MfF) (g : ChF) (x : Nat) : List Prop := [(2 : Int) = 2, zs 20 = zs 20, (!decide (f.e = 0)) = false, g.b 2 f.k f.c = true, (!decide (g.de 1 f.k f.c (atS x) = 10)) = false, (!decide (g.de 2 f.k f.c (atS x) = g.ce 2 f.k f.c (atS x))) = false, (!eqS (g.dk 2 f.k f.c (atS x)) (g.dc 2 f.k f.c (atS x)) (g.ck 2 f.k f.c (atS x)) (g.cc 2 f.k f.c (atS x))) = false, inI ((0 : Int) + 1)]
theorem zT_ok {f : MfF} (hf : MfOk f) (x : Nat) : All (zT f chF x) := by
  have hm : mayB 2 f.k f.c = true := by rw [hf.k, hf.c]; exact may_20
  obtain ⟨hk, hc, _⟩ := may_parts hm
  have h1 : mayB 1 f.k f.c = true := mayB1 hk hc
  have e1 : chF.de 1 f.k f.c (atS x) = 10 := by
    show dE 1 f.k f.c (atS x) = 10
    unfold dE
    rw [h1, cond_true]
    unfold cE
    rw [show noB 1 (atS x) = true by unfold noB; rw [decide_eq_true (atS_lt x)]; rfl, cond_true]
  have e2 : f.e = 0 := hf.e.trans msE_20
  obtain ⟨y1, y2, _⟩ := yT_ok (z := 2) (x := atS x) hm (by decide) (by decide)
  exact ⟨rfl, rfl, by rw [e2]; rfl, hm, by rw [e1]; rfl, y1, y2, by unfold inI; omega, trivial⟩
theorem u00 (f : MfF) (g : ChF) (c : Cells) (len cap n cp : Nat) (xs : Nat → Atom) (q : Nat → Nat) (p2 p3 p4 : List Piece) : runTo (ESv f g) 1000 ((ESv f g).S 6) (bodyOf Tryz.prog 6 7) (UK (len + 1) cap 0 0) (MR c (xsW 0 (.sl 1 0 (n + 1) cp) xs) (len + 1) (qPs q (n + 1)) p2 p3 p4) [true, true, false, false, false, false] (UK (len + 1) cap 0 1) 5 =
    some ([inB 0 (len + 1), decide ((0 : Int) < ((n + 1 : Nat) : Int)) = true, decide ((0 : Int) < 1) = true, inB 0 (len + 1), inB 0 (n + 1), (0 : Int) ≤ 20 ∧ (20 : Int) ≤ 1000000] ++ zT f g (q 0), .normal, UK (len + 1) cap 0 1, MR c (xsW 0 (.sl 1 0 (n + 1) cp) xs) (len + 1) (qPs q (n + 1)) p2 p3 p4) := by kernel_rfl
theorem u01 (f : MfF) (g : ChF) (c : Cells) (len cap n cp : Nat) (xs : Nat → Atom) (q : Nat → Nat) (p2 p3 p4 : List Piece) : runTo (ESv f g) 1000 ((ESv f g).S 6) (bodyOf Tryz.prog 6 7) (UK (len + 1) cap 0 0) (MR c (xsW 0 (.sl 1 0 n cp) xs) (len + 1) (qPs q n) p2 p3 p4) [false] (UJ (len + 1) cap 0) 5 =
    some ([inB 0 (len + 1), decide ((0 : Int) < (n : Int)) = false], .exit 2, UJ (len + 1) cap 0, MR c (xsW 0 (.sl 1 0 n cp) xs) (len + 1) (qPs q n) p2 p3 p4) := by kernel_rfl
theorem u02 (f : MfF) (g : ChF) (c : Cells) (len cap n cp : Nat) (xs : Nat → Atom) (q : Nat → Nat) (p2 p3 p4 : List Piece) : runTo (ESv f g) 1000 ((ESv f g).S 6) (bodyOf Tryz.prog 6 7) (UK (len + 1) cap 0 1) (MR c (xsW 0 (.sl 1 0 n cp) xs) (len + 1) (qPs q n) p2 p3 p4) [false] (UJ (len + 1) cap 0) 5 =
    some ([inB 0 (len + 1), decide ((1 : Int) < (n : Int)) = false], .exit 2, UJ (len + 1) cap 0, MR c (xsW 0 (.sl 1 0 n cp) xs) (len + 1) (qPs q n) p2 p3 p4) := by kernel_rfl
theorem u03 (f : MfF) (g : ChF) (c : Cells) (len cap n cp : Nat) (xs : Nat → Atom) (q : Nat → Nat) (p2 p3 p4 : List Piece) : runTo (ESv f g) 1000 ((ESv f g).S 6) (bodyOf Tryz.prog 6 7) (UK (len + 1) cap 0 1) (MR c (xsW 0 (.sl 1 0 n cp) xs) (len + 1) (qPs q n) p2 p3 p4) [true, false] (UJ (len + 1) cap 0) 5 =
    some ([inB 0 (len + 1), decide ((1 : Int) < (n : Int)) = true, decide ((1 : Int) < 1) = false], .exit 2, UJ (len + 1) cap 0, MR c (xsW 0 (.sl 1 0 n cp) xs) (len + 1) (qPs q n) p2 p3 p4) := by kernel_rfl
theorem u04 (f : MfF) (g : ChF) (c : Cells) (len cap n cp : Nat) (xs : Nat → Atom) (q : Nat → Nat) (p2 p3 p4 : List Piece) : runTo (addLp (ESv f g) 7 (bodyOf Tryz.prog 6 7) (sumC (UK (len + 1) cap 0 0) (MR c (xsW 0 (.sl 1 0 n cp) xs) (len + 1) (qPs q n) p2 p3 p4) (UJ (len + 1) cap 0) (MR c (xsW 0 (.sl 1 0 n cp) xs) (len + 1) (qPs q n) p2 p3 p4) (.exit 2))) 1000 ((ESv f g).S 6) (bodyOf Tryz.prog 6 4) (UJ (len + 1) cap 0) (MR c (xsW 0 (.sl 1 0 n cp) xs) (len + 1) (qPs q n) p2 p3 p4) [true, true] (UJ (len + 1) cap 1) 5 =
    some ([decide ((0 : Int) < ((len + 1 : Nat) : Int)) = true, decide ((0 : Int) < 1) = true, bodyOf Tryz.prog 6 7 = bodyOf Tryz.prog 6 7, (UK (len + 1) cap 0 0, MR c (xsW 0 (.sl 1 0 n cp) xs) (len + 1) (qPs q n) p2 p3 p4) = (UK (len + 1) cap 0 0, MR c (xsW 0 (.sl 1 0 n cp) xs) (len + 1) (qPs q n) p2 p3 p4), wfS (UK (len + 1) cap 0 0) (MR c (xsW 0 (.sl 1 0 n cp) xs) (len + 1) (qPs q n) p2 p3 p4) = true, inI ((0 : Int) + 1)], .normal, UJ (len + 1) cap 1, MR c (xsW 0 (.sl 1 0 n cp) xs) (len + 1) (qPs q n) p2 p3 p4) := by kernel_rfl
theorem u05 (f : MfF) (g : ChF) (c : Cells) (len cap : Nat) (o : Option Addr) (cp : Nat) (xs : Nat → Atom) (p1 p2 p3 p4 : List Piece) : runTo (ESv f g) 1000 ((ESv f g).S 6) (bodyOf Tryz.prog 6 4) (UJ (len + 1) cap 0) (MR c (xsW 0 (.v (.slice o 0 cp)) xs) (len + 1) p1 p2 p3 p4) [true, true, false] (UJ (len + 1) cap 1) 5 =
    some ([decide ((0 : Int) < ((len + 1 : Nat) : Int)) = true, decide ((0 : Int) < 1) = true, inB 0 (len + 1), decide ((0 : Int) < ((0 : Nat) : Int)) = false, inI ((0 : Int) + 1)], .normal, UJ (len + 1) cap 1, MR c (xsW 0 (.v (.slice o 0 cp)) xs) (len + 1) p1 p2 p3 p4) := by kernel_rfl
theorem u06 (f : MfF) (g : ChF) (c : Cells) (len cap : Nat) (i : Int) (xs : Nat → Atom) (p1 p2 p3 p4 : List Piece) : runTo (ESv f g) 1000 ((ESv f g).S 6) (bodyOf Tryz.prog 6 4) (UJ len cap i) (MR c xs len p1 p2 p3 p4) [false] (UJx len cap) 5 =
    some ([decide (i < (len : Int)) = false], .exit 0, UJx len cap, MR c xs len p1 p2 p3 p4) := by kernel_rfl
theorem u07 (f : MfF) (g : ChF) (c : Cells) (len cap : Nat) (i : Int) (xs : Nat → Atom) (p1 p2 p3 p4 : List Piece) : runTo (ESv f g) 1000 ((ESv f g).S 6) (bodyOf Tryz.prog 6 4) (UJ len cap i) (MR c xs len p1 p2 p3 p4) [true, false] (UJx len cap) 5 =
    some ([decide (i < (len : Int)) = true, decide (i < 1) = false], .exit 0, UJx len cap, MR c xs len p1 p2 p3 p4) := by kernel_rfl
theorem vk {f : MfF} (hf : MfOk f) {c : Cells} {len cap n cp : Nat} {xs : Nat → Atom} {q : Nat → Nat} {p2 p3 p4 : List Piece} (hx : XsOk xs) (f2 : Free (roB p2)) (f3 : Free (roB p3)) (f4 : Free (roB p4)) : Goes Tryz.prog (bodyOf Tryz.prog 6 7) .normal (UK (len + 1) cap 0 0) (MR c (xsW 0 (.sl 1 0 (n + 1) cp) xs) (len + 1) (qPs q (n + 1)) p2 p3 p4) (UK (len + 1) cap 0 1) (MR c (xsW 0 (.sl 1 0 (n + 1) cp) xs) (len + 1) (qPs q (n + 1)) p2 p3 p4) :=
  Runs.goes (envSv hf) ⟨_, _, u00 f chF c len cap n cp xs q p2 p3 p4, All_ap ⟨inB_ok (by omega), decide_eq_true (by omega), by decide, inB_ok (by omega), inB_ok (by omega), by omega, trivial⟩ (zT_ok hf _), wfR5 (hx.w fun _ h => sl_ok (by omega) h) (qPs_free _ _) f2 f3 f4 (by kernel_rfl)⟩
theorem vl {f : MfF} (hf : MfOk f) {c : Cells} {len cap n cp : Nat} {xs : Nat → Atom} {q : Nat → Nat} {p2 p3 p4 : List Piece} (hx : XsOk xs) (f2 : Free (roB p2)) (f3 : Free (roB p3)) (f4 : Free (roB p4)) : Goes Tryz.prog (.loop (bodyOf Tryz.prog 6 7)) (.exit 2) (UK (len + 1) cap 0 0) (MR c (xsW 0 (.sl 1 0 n cp) xs) (len + 1) (qPs q n) p2 p3 p4) (UJ (len + 1) cap 0) (MR c (xsW 0 (.sl 1 0 n cp) xs) (len + 1) (qPs q n) p2 p3 p4) := by
  match n with
  | 0 =>
    refine GoesN.loop (n := 1) ?_
    exact GoesN.out (n := 0) (by simp) (Runs.goes (envSv hf) ⟨_, _, u01 f chF c len cap _ cp xs q p2 p3 p4, ⟨inB_ok (by omega), by decide, trivial⟩, wfR5 (hx.w fun _ h => sl_ok (by omega) h) (qPs_free _ _) f2 f3 f4 (by kernel_rfl)⟩)
  | n + 1 =>
    refine (GoesN.cons (n := 1) (M1 := MR c (xsW 0 (.sl 1 0 (n + 1) cp) xs) (len + 1) (qPs q (n + 1)) p2 p3 p4) rfl (vk (n := n) hf hx f2 f3 f4) ?_).loop
    by_cases hn : n = 0
    · subst hn
      exact GoesN.out (n := 0) (by simp) (Runs.goes (envSv hf) ⟨_, _, u02 f chF c len cap _ cp xs q p2 p3 p4, ⟨inB_ok (by omega), by decide, trivial⟩, wfR5 (hx.w fun _ h => sl_ok (by omega) h) (qPs_free _ _) f2 f3 f4 (by kernel_rfl)⟩)
    · exact GoesN.out (n := 0) (by simp) (Runs.goes (envSv hf) ⟨_, _, u03 f chF c len cap _ cp xs q p2 p3 p4, ⟨inB_ok (by omega), decide_eq_true (by omega), by decide, trivial⟩, wfR5 (hx.w fun _ h => sl_ok (by omega) h) (qPs_free _ _) f2 f3 f4 (by kernel_rfl)⟩)
theorem vj {f : MfF} (hf : MfOk f) {c : Cells} {len cap n cp : Nat} {xs : Nat → Atom} {q : Nat → Nat} {p2 p3 p4 : List Piece} (hx : XsOk xs) (f2 : Free (roB p2)) (f3 : Free (roB p3)) (f4 : Free (roB p4)) : Goes Tryz.prog (bodyOf Tryz.prog 6 4) .normal (UJ (len + 1) cap 0) (MR c (xsW 0 (.sl 1 0 n cp) xs) (len + 1) (qPs q n) p2 p3 p4) (UJ (len + 1) cap 1) (MR c (xsW 0 (.sl 1 0 n cp) xs) (len + 1) (qPs q n) p2 p3 p4) := by
  have hE : EnvOK (addLp (ESv f chF) 7 (bodyOf Tryz.prog 6 7) (sumC (UK (len + 1) cap 0 0) (MR c (xsW 0 (.sl 1 0 n cp) xs) (len + 1) (qPs q n) p2 p3 p4) (UJ (len + 1) cap 0) (MR c (xsW 0 (.sl 1 0 n cp) xs) (len + 1) (qPs q n) p2 p3 p4) (.exit 2))) := envAddLp (envSv hf) (sumC_ok rfl (vl hf hx f2 f3 f4))
  exact Runs.goes hE ⟨_, _, u04 f chF c len cap _ cp xs q p2 p3 p4, ⟨decide_eq_true (by omega), by decide, rfl, rfl, wfR5 (hx.w fun _ h => sl_ok (by omega) h) (qPs_free _ _) f2 f3 f4 (by kernel_rfl), by unfold inI; omega, trivial⟩, wfR5 (hx.w fun _ h => sl_ok (by omega) h) (qPs_free _ _) f2 f3 f4 (by kernel_rfl)⟩
theorem vn {f : MfF} (hf : MfOk f) {c : Cells} {len cap cp : Nat} {o : Option Addr} {xs : Nat → Atom} {p1 p2 p3 p4 : List Piece} (hx : XsOk xs) (f1 : Free (roB p1)) (f2 : Free (roB p2)) (f3 : Free (roB p3)) (f4 : Free (roB p4)) : Goes Tryz.prog (bodyOf Tryz.prog 6 4) .normal (UJ (len + 1) cap 0) (MR c (xsW 0 (.v (.slice o 0 cp)) xs) (len + 1) p1 p2 p3 p4) (UJ (len + 1) cap 1) (MR c (xsW 0 (.v (.slice o 0 cp)) xs) (len + 1) p1 p2 p3 p4) :=
  Runs.goes (envSv hf) ⟨_, _, u05 f chF c len cap o cp xs p1 p2 p3 p4, ⟨decide_eq_true (by omega), by decide, inB_ok (by omega), by decide, by unfold inI; omega, trivial⟩, wfR5 (hx.w fun _ _ => rfl) f1 f2 f3 f4 (by kernel_rfl)⟩
theorem vs0 {f : MfF} (hf : MfOk f) {c : Cells} {s : Sub} {cap : Nat} (len : Nat) (h : SubOk s (len + 1)) : Goes Tryz.prog (bodyOf Tryz.prog 6 4) .normal (UJ (len + 1) cap 0) (MW c s (len + 1)) (UJ (len + 1) cap 1) (MW c s (len + 1)) := by
  cases hl : s.lv 0 with
  | true =>
    have ep : psS s 0 = qPs (s.q 0) (s.n 0) := by unfold psS; rw [hl]; rfl
    have h1 := vj (c := c) (len := len) (cap := cap) (n := s.n 0) (cp := s.k 0) (q := s.q 0) hf (xsS_ok s) (psS_free s 1) (psS_free s 2) (psS_free s 3)
    rw [← xsS_live hl (by omega), ← ep] at h1
    exact h1
  | false =>
    have h1 := vn (c := c) (len := len) (cap := cap) (o := s.o 0) (cp := s.k 0) hf (xsS_ok s) (psS_free s 0) (psS_free s 1) (psS_free s 2) (psS_free s 3)
    rw [← xsS_none hl (h 0 (by omega) hl)] at h1
    exact h1
theorem wfU (c : Cells) (s : Sub) (m cap : Nat) (i : Int) : wfS (UJ m cap i) (MW c s m) = true := wfR5 (xsS_ok s) (psS_free s 0) (psS_free s 1) (psS_free s 2) (psS_free s 3) (by kernel_rfl)
theorem wfUx (c : Cells) (s : Sub) (m cap : Nat) : wfS (UJx m cap) (MW c s m) = true := wfR5 (xsS_ok s) (psS_free s 0) (psS_free s 1) (psS_free s 2) (psS_free s 3) (by kernel_rfl)
theorem loopU {f : MfF} (hf : MfOk f) {c : Cells} {s : Sub} {m cap : Nat} (h : SubOk s m) : Goes Tryz.prog (.loop (bodyOf Tryz.prog 6 4)) (.exit 0) (UJ m cap ((0 : Nat) : Int)) (MW c s m) (UJx m cap) (MW c s m) := by
  refine loop_goes (N := min m 1) (k := 5) (T := fun i => UJ m cap (i : Int)) (M := fun _ => MW c s m) (by simp) (fun _ _ => rfl) (fun i hi => ?_) ?_
  · match i, hi with
    | 0, hi =>
      obtain ⟨l, rfl⟩ : ∃ l, m = l + 1 := ⟨m - 1, by omega⟩
      exact vs0 hf l h
    | i + 1, hi => omega
  · by_cases h4 : m ≤ 1
    · rw [show min m 1 = m by omega]
      exact Runs.goes (envSv hf) ⟨_, _, u06 f chF c m cap (m : Int) (xsS s) _ _ _ _, ⟨decide_eq_false (by omega), trivial⟩, wfUx _ _ _ _⟩
    · rw [show min m 1 = 1 by omega]
      exact Runs.goes (envSv hf) ⟨_, _, u07 f chF c m cap 1 (xsS s) _ _ _ _, ⟨decide_eq_true (by omega), by decide, trivial⟩, wfUx _ _ _ _⟩
noncomputable def ESy (f : MfF) (g : ChF) (c : Cells) (s : Sub) (l : Lits) (m cap : Nat) : Env := addM' (addLp (ESv f g) 4 (bodyOf Tryz.prog 6 4) (sumC (UJ m cap 0) (MW c s m) (UJx m cap) (MW c s m) (.exit 0))) (fmW c (xsS s) l m)
theorem envSy {f : MfF} (hf : MfOk f) {c : Cells} {s : Sub} {l : Lits} {m cap : Nat} (h : SubOk s m) : EnvOK (ESy f chF c s l m cap) := envAddM' (envAddLp (envSv hf) (sumC_ok rfl (loopU hf h))) (fmW_ok _ _ _ _)
theorem w6t (f : MfF) (g : ChF) (c : Cells) (s : Sub) (l : Lits) (m cap : Nat) : dropM (callBy (ESy f g c s l m cap) (evalC (ESy f g c s l m cap) 1000) 6 [.one (.sl 0 0 m cap)] (MW c s m) [true]) =
    some ([decide (2000 < hvX c l m 0 (m : Int)) = true] ++ ob9 c s l m, bV true) := by kernel_rfl
theorem w6f (f : MfF) (g : ChF) (c : Cells) (s : Sub) (l : Lits) (m cap : Nat) : dropM (callBy (ESy f g c s l m cap) (evalC (ESy f g c s l m cap) 1000) 6 [.one (.sl 0 0 m cap)] (MW c s m) [false]) =
    some ([decide (2000 < hvX c l m 0 (m : Int)) = false] ++ ob9 c s l m ++ [bodyOf Tryz.prog 6 4 = bodyOf Tryz.prog 6 4, (UJ m cap 0, MW c s m) = (UJ m cap 0, MW c s m), wfS (UJ m cap 0) (MW c s m) = true], bV true) := by kernel_rfl
noncomputable def ESn (f : MfF) (g : ChF) : Env := mkE (⟨9, fnN9⟩ :: LSv f g) S6c
theorem envSn {f : MfF} (hf : MfOk f) : EnvOK (ESn f chF) := envMk (show AllCT (⟨9, fnN9⟩ :: LSv f chF) from ⟨ctN9, LSv_ok hf⟩) S6c
theorem w6n (f : MfF) (g : ChF) : dropM (callBy (ESn f g) (evalC (ESn f g) 1000) 6 [nilV] [] [false, false]) = some ([false = false, decide ((0 : Int) < ((0 : Nat) : Int)) = false], bV true) := by kernel_rfl
theorem law6 {H : Type} {enc : TypeId × Value → H} {r : Reach} {W : World} {base : Nat} {v : Value} {d : DataW H} {ps : List MemPlace} (hval : Value.okWide Tryz.prog W r base 22 v) (h : DataW.Trod enc Tryz.prog W 0 (fun _ => true) true 22 v d ps) (hwt : ∀ n ∈ d.weights Tryz.prog 22, n ≤ BB) :
    Calls Tryz.prog 6 #[v] W (Trues W) := by
  obtain ⟨f, h1, h2, h3⟩ := mf_ex (msK 2 (zs 20)) (msC 2 (zs 20)) (msE 2 (zs 20))
  have hf : MfOk f := ⟨h1, h2, h3⟩
  rcases rows_of (Nat.le_refl _) (ask_open u22 u28 rfl rfl rfl rfl cf0 cf1 cf2 cf3 c28 kf0 kf1 kf2 uf3 k32 c32 b32 b28 hval h hwt) with rfl | ⟨c, s, l, m, cap, φ, hR, rfl⟩
  · exact law_runMD (φ := fun _ => (0, 0, 0)) (envSn hf) (w6n f chF) ⟨rfl, by decide, trivial⟩ ⟨Below.refl _ _, by simp, by simp, by simp, by simp, by simp⟩ rfl
  · have hE := envSy hf (c := c) (l := l) (cap := cap) hR.ok
    cases hv : decide (2000 < hvX c l m 0 (m : Int)) with
    | true => exact law_runMD hE (w6t f chF c s l m cap) (All_ap ⟨hv, trivial⟩ (ob9_ok hR)) hR.rel rfl
    | false => exact law_runMD hE (w6f f chF c s l m cap) (All_ap3 ⟨hv, trivial⟩ (ob9_ok hR) ⟨rfl, rfl, wfU _ _ _ _ _, trivial⟩) hR.rel rfl
end Go.Ev.H5

namespace Go.Proofs.YtfcobjhnkghdjaaGreat.Laws
open Go Go.Ev Go.Ev.H5 Go.RowKit Go.ChangeShapes Go.WideShapes Go.ChangeAt

set_option maxRecDepth 100000 in
theorem lifted6 (os : Os) (started : os.Started) (H : Type) (enc : TypeId × Value → H) :
    ReturnsInHanded {} Tryz.checked os 6 .any (Rows.slipSoftSpec.pre6 enc Tryz.prog Tryz.f6 Rows.slipSoftRow.domain false) (Rows.slipSoftSpec.post enc Tryz.prog Tryz.f6 false true false false) := by
  refine returnsInHanded_of_change_sized (C := Tryz.checked) own started (by kernel_rfl) Tryz.func6
    (ChangeSpec.witness6 (enc := enc) (C := Tryz.checked) false ⟨#[], #[.slice none 0 0], []⟩ 8 (by kernel_rfl) (by kernel_rfl) (by kernel_rfl) (by kernel_rfl)) ?_
  intro W base args ds gs before hval0 hW _ hsz0 _
  have hsz : (DataW.weightsEach Tryz.prog (Tryz.f6.params.toList ++ Rows.slipSoftSpec.plain.varTypes Tryz.prog) (ds ++ gs)).all (· ≤ reachBytes) = true := hsz0
  clear hsz0
  have hval : ∀ (j : Nat) t v, Tryz.f6.params[j]? = some t → args[j]? = some v → Value.okWide Tryz.prog W .any base t v := hval0
  have hW' := hW
  obtain ⟨p, q, hA0, hV, hbef, hfz, hnd⟩ := hW
  have hp : Tryz.f6.params = #[22] := by kernel_rfl
  have hA : DataW.TrodAll enc Tryz.prog W 0 (fun _ => true) true Tryz.f6.params.toList args.toList ds p := hA0
  rw [hp] at hA hval
  obtain ⟨v0, d0, rfl, rfl, h0⟩ := trodAll_one hA
  obtain ⟨rfl, rfl⟩ := trodVars_none hV
  refine (law6 (hval 0 22 v0 rfl rfl) h0 (fun n hn => by simpa using List.all_eq_true.1 hsz n (DataW.weights_mem_each (j := 0) (t := 22) (by rw [hp]; rfl) rfl n hn))).mono ?_
  rintro e W' ⟨rfl, hb⟩
  exact ⟨_, rfl, post_true (tb := 4) rfl hp (by kernel_rfl) u4 laid rd22 row22 rfl rfl hW' hb⟩

theorem holds6 : Rows.SlipSoftSaid :=
  OpenClaim.holds_of_wide 6 Tryz.f6 rfl rfl rfl rfl rfl rfl rfl ⟨rfl, rfl, rfl, rfl, rfl⟩ rfl rfl rfl rfl rfl (by kernel_rfl) Tryz.func6 (by kernel_rfl)
    (of_decide_eq_true (by kernel_rfl)) (by unfold Func.isWrapper; first | (rw [if_pos (by decide +kernel)]; kernel_rfl) | (rw [if_neg (by decide +kernel)]; exact ⟨rfl, rfl⟩))
    (fun os started H enc _ => lifted6 os started H enc)

end Go.Proofs.YtfcobjhnkghdjaaGreat.Laws

namespace Go.Proofs.YtfcobjhnkghdjaaGreat
open Go
theorem slipSoft_holds : Rows.SlipSoftSaid := Laws.holds6
end Go.Proofs.YtfcobjhnkghdjaaGreat

