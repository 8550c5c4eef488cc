/- Keyed sums, nodes, and the law, of every input -/
import Derived.Test.YtjiiaeljpllahaaGreatPartR
namespace Go.Ev.H5
open Go Go.Proofs Go.RowKit
set_option maxRecDepth 100000
noncomputable def fnHv (H : ByteArray → ByteArray → ByteArray) (vs : List V1) : Option (List Prop × AV) := match vs with | [.one (.v (.string k)), .one (.v (.string s))] => some ([k.size ≤ 64, s.size ≤ 10000000000000], .val (sS (H k s))) | _ => none
noncomputable def LNo (H : ByteArray → ByteArray → ByteArray) : List CT := ⟨131, fnHv H⟩ :: ⟨157, fnHv H⟩ :: LKz
theorem LNo_ok : AllCT (LNo hmac2) := ⟨ct131, ct157, LKz_ok⟩
def SNo : FuncId → Nat → Bool := fun f t => match f with
  | 32 => memN t [10, 14, 21, 25, 29, 9000000] | 71 => memN t [18, 20, 2000017] | 69 => memN t [42, 2000033, 2000035]
  | 96 => memN t [19, 29, 31, 38, 40, 50, 55, 52] | 47 => memN t [10, 20, 12] | _ => false
noncomputable def ENo (H : ByteArray → ByteArray → ByteArray) : Env := mkE (LNo H) SNo
theorem envENo : EnvOK (ENo hmac2) := envMk LNo_ok _
def mkB (k v : ByteArray) : Blk := ⟨[.a (.v (.string k)), .a (.v (.string v))], 158, true, false, 0⟩
def zer1 : ByteArray := ⟨#[0]⟩
def one1 : ByteArray := ⟨#[1]⟩
end Go.Ev.H5

namespace Go.Ev.H5
open Go Go.Proofs Go.RowKit
set_option maxRecDepth 100000
abbrev HH := ByteArray → ByteArray → ByteArray
def kN (H : HH) (k u : ByteArray) : ByteArray := H k (H k u ++ zer1)
def uN (H : HH) (k u : ByteArray) : ByteArray := H (kN H k u) (H k u)
def nP (H : HH) (k u : ByteArray) : Nat → ByteArray × ByteArray
  | 0 => (k, u)
  | j + 1 => (kN H (nP H k u j).1 (nP H k u j).2, uN H (nP H k u j).1 (nP H k u j).2)
def nC (H : HH) (k u : ByteArray) (j : Nat) : ByteArray := H (nP H k u j).1 (nP H k u j).2
theorem nP_size {k u : ByteArray} (hk : k.size = 32) (hu : u.size = 32) : ∀ j, (nP hmac2 k u j).1.size = 32 ∧ (nP hmac2 k u j).2.size = 32
  | 0 => ⟨hk, hu⟩
  | _ + 1 => ⟨hmac2_size _ _, hmac2_size _ _⟩
theorem nC_size (k u : ByteArray) (j : Nat) : (nC hmac2 k u j).size = 32 := hmac2_size _ _
end Go.Ev.H5

namespace Go.Ev.H5
open Go Go.Proofs Go.RowKit
set_option maxRecDepth 100000
def nb (a : Nat) : Blk := ⟨[.num 8 a], 32, true, false, 0⟩
def row8 (n x : Nat) : Blk := ⟨List.replicate n (.a (.u .u8 x)), 5, true, false, 0⟩
def zb : Blk := ⟨[.a (.u .u32 0), .a (.u .u32 0), .a (.u .u32 0), .a (.u .u32 0), .a (.u .u32 0), .a (.u .u32 0), .a (.u .u32 0), .a (.u .u32 0)], 32, true, false, 0⟩
def MN32 (x : Nat) (R : Blk) (d : Nat) (k u : ByteArray) : List Blk := [nb x, R, nb x, nb d, row8 32 1, row8 32 0, mkB k u, row8 1 0, row8 1 1]
def T32 (j : Int) : List AV := slots 31 [(4, pV 1), (5, iV 0), (6, pV 6), (20, iV j)]
def T32r : List AV := slots 31 [(4, pV 1), (5, iV 0)]
def T32x : List AV := slots 31 [(4, pV 1)]
def c64 (k s : ByteArray) : List Prop := [k.size ≤ 64, s.size ≤ 10000000000000]
def ob32 (H : HH) (k u : ByteArray) (j : Nat) (b : Bool) : List Prop := (decide ((j : Int) < 8) = true) :: (c64 k u ++ [(H k u).size = 32, gd (beS (H k u)) = b, beS (H k u) < 4294967296 ^ 8])
theorem y32 (H : HH) (x d j : Nat) (k u : ByteArray) : runTo (ENo H) 1000 ((ENo H).S 32) (bodyOf Tryz.prog 32 5) (T32 (j : Int)) (MN32 x zb d k u) [true, true] T32r 9 =
    some (ob32 H k u j true, .ret, T32r, MN32 x (nb (beS (H k u))) d k (H k u)) := by kernel_rfl
theorem n32 (H : HH) (x d j : Nat) (k u : ByteArray) : runTo (ENo H) 1000 ((ENo H).S 32) (bodyOf Tryz.prog 32 5) (T32 (j : Int)) (MN32 x zb d k u) [true, false] (T32 ((j : Int) + 1)) 9 =
    some (ob32 H k u j false ++ [(H k u).size + 1 ≤ 9223372036854775807, (H k u ++ zer1).size + 0 ≤ 9223372036854775807, k.size ≤ 64, (H k u ++ zer1 ++ ⟨#[]⟩).size ≤ 10000000000000, (H k (H k u ++ zer1 ++ ⟨#[]⟩)).size ≤ 64, (H k u).size ≤ 10000000000000, inI ((j : Int) + 1)], .normal, T32 ((j : Int) + 1), MN32 x zb d (H k (H k u ++ zer1 ++ ⟨#[]⟩)) (H (H k (H k u ++ zer1 ++ ⟨#[]⟩)) (H k u))) := by kernel_rfl
theorem x32 (H : HH) (x d j : Nat) (k u : ByteArray) : runTo (ENo H) 1000 ((ENo H).S 32) (bodyOf Tryz.prog 32 5) (T32 (j : Int)) (MN32 x zb d k u) [false] T32x 9 =
    some ([decide ((j : Int) < 8) = false], .exit 0, T32x, MN32 x zb d k u) := by kernel_rfl
end Go.Ev.H5

namespace Go.Ev.H5
open Go Go.Proofs Go.RowKit
set_option maxRecDepth 100000
noncomputable def nofJ (k u : ByteArray) : Nat → Nat → Option Nat
  | 0, _ => none
  | t + 1, j => bif gd (beS (nC hmac2 k u j)) then some j else nofJ k u t (j + 1)
theorem nofJ_succ (k u : ByteArray) (t j : Nat) : nofJ k u (t + 1) j = bif gd (beS (nC hmac2 k u j)) then some j else nofJ k u t (j + 1) := rfl
theorem nofJ_zero (k u : ByteArray) (j : Nat) : nofJ k u 0 j = none := rfl
theorem app_e (s : ByteArray) : s ++ (⟨#[]⟩ : ByteArray) = s := by apply ByteArray.ext; rw [ByteArray.data_append]; simp
theorem nb_free (a : Nat) : Free (nb a) := fun _ => rfl
theorem row8_free (n x : Nat) : Free (row8 n x) := by
  intro f
  unfold row8
  induction n with
  | zero => rfl
  | succ n ih => rw [List.replicate_succ]; exact ih
theorem mkB_free (k v : ByteArray) : Free (mkB k v) := fun _ => rfl
theorem MN32_free (x : Nat) (R : Blk) (hR : Free R) (d : Nat) (k u : ByteArray) : ∀ b ∈ MN32 x R d k u, Free b := by
  intro b hb
  simp only [MN32, List.mem_cons, List.not_mem_nil, or_false] at hb
  rcases hb with rfl | rfl | rfl | rfl | rfl | rfl | rfl | rfl | rfl
  · exact nb_free _
  · exact hR
  · exact nb_free _
  · exact nb_free _
  · exact row8_free _ _
  · exact row8_free _ _
  · exact mkB_free _ _
  · exact row8_free _ _
  · exact row8_free _ _
theorem zb_free : Free zb := fun _ => rfl
theorem MN32_len (x : Nat) (R : Blk) (d : Nat) (k u : ByteArray) : (MN32 x R d k u).length = 9 := by simp only [MN32, List.length_cons, List.length_nil]
theorem wfN32 {n : Nat} {l : List (Nat × AV)} (x : Nat) {R : Blk} (hR : Free R) (d : Nat) (k u : ByteArray) (h : tmsWf 9 (slots n l) = true) : wfS (slots n l) (MN32 x R d k u) = true := wfS_of (MN32_free x R hR d k u) (by rw [MN32_len]; exact h)
theorem wT32 (j : Int) : tmsWf 9 (T32 j) = true := by kernel_rfl
theorem wT32r : tmsWf 9 T32r = true := by kernel_rfl
theorem wT32x : tmsWf 9 T32x = true := by kernel_rfl
theorem ob32_ok {k u : ByteArray} {j : Nat} {b : Bool} (hk : k.size = 32) (hu : u.size = 32) (hj : j < 8) (hb : gd (beS (hmac2 k u)) = b) : All (ob32 hmac2 k u j b) := by
  have hz := hmac2_size k u
  exact ⟨decide_eq_true (by omega), by omega, by omega, hz, hb, beS_lt hz, trivial⟩
theorem yes32 (x d j : Nat) (k u : ByteArray) (hk : k.size = 32) (hu : u.size = 32) (hj : j < 8) (hg : gd (beS (hmac2 k u)) = true) : Goes Tryz.prog (bodyOf Tryz.prog 32 5) .ret (T32 (j : Int)) (MN32 x zb d k u) T32r (MN32 x (nb (beS (hmac2 k u))) d k (hmac2 k u)) :=
  Runs.goes envENo ⟨_, _, y32 hmac2 x d j k u, ob32_ok hk hu hj hg, wfN32 _ (nb_free _) _ _ _ wT32r⟩
theorem no32 (x d j : Nat) (k u : ByteArray) (hk : k.size = 32) (hu : u.size = 32) (hj : j < 8) (hg : gd (beS (hmac2 k u)) = false) : Goes Tryz.prog (bodyOf Tryz.prog 32 5) .normal (T32 (j : Int)) (MN32 x zb d k u) (T32 ((j : Int) + 1)) (MN32 x zb d (kN hmac2 k u) (uN hmac2 k u)) := by
  have hr := n32 hmac2 x d j k u
  rw [app_e] at hr
  have hz := hmac2_size k u
  have hz1 : (hmac2 k u ++ zer1).size = 33 := by rw [ByteArray.size_append, hz]; rfl
  have hz2 := hmac2_size k (hmac2 k u ++ zer1)
  exact Runs.goes envENo ⟨_, _, hr, All_app (ob32_ok hk hu hj hg) ⟨by omega, by omega, by omega, by omega, by omega, by omega, by unfold inI; omega, trivial⟩, wfN32 _ zb_free _ _ _ (wT32 _)⟩
theorem out32 (x d j : Nat) (k u : ByteArray) (hj : ¬ j < 8) : Goes Tryz.prog (bodyOf Tryz.prog 32 5) (.exit 0) (T32 (j : Int)) (MN32 x zb d k u) T32x (MN32 x zb d k u) :=
  Runs.goes envENo ⟨_, _, x32 hmac2 x d j k u, ⟨decide_eq_false (by omega), trivial⟩, wfN32 _ zb_free _ _ _ wT32x⟩
theorem loop32s (x d : Nat) (k u : ByteArray) (hk : k.size = 32) (hu : u.size = 32) : ∀ (t j r : Nat), j + t = 8 → nofJ k u t j = some r → GoesN Tryz.prog (bodyOf Tryz.prog 32 5) (t + 1) .ret (T32 (j : Int)) (MN32 x zb d (nP hmac2 k u j).1 (nP hmac2 k u j).2) T32r (MN32 x (nb (beS (nC hmac2 k u r))) d (nP hmac2 k u r).1 (nC hmac2 k u r)) := by
  intro t
  induction t with
  | zero => intro j r _ hm; rw [nofJ_zero] at hm; cases hm
  | succ t ih =>
    intro j r hj hm
    obtain ⟨h1, h2⟩ := nP_size hk hu j
    rw [nofJ_succ] at hm
    cases hg : gd (beS (nC hmac2 k u j)) with
    | true =>
      rw [hg, cond_true, Option.some.injEq] at hm
      subst hm
      exact GoesN.out (by simp) (yes32 x d j _ _ h1 h2 (by omega) hg)
    | false =>
      rw [hg, cond_false] at hm
      have ih := ih (j + 1) r (by omega) hm
      rw [show ((j + 1 : Nat) : Int) = (j : Int) + 1 by omega] at ih
      exact GoesN.cons (by rw [MN32_len, MN32_len]) (no32 x d j _ _ h1 h2 (by omega) hg) ih
theorem loop32n (x d : Nat) (k u : ByteArray) (hk : k.size = 32) (hu : u.size = 32) : ∀ (t j : Nat), j + t = 8 → nofJ k u t j = none → GoesN Tryz.prog (bodyOf Tryz.prog 32 5) (t + 1) (.exit 0) (T32 (j : Int)) (MN32 x zb d (nP hmac2 k u j).1 (nP hmac2 k u j).2) T32x (MN32 x zb d (nP hmac2 k u 8).1 (nP hmac2 k u 8).2) := by
  intro t
  induction t with
  | zero =>
    intro j hj _
    obtain rfl : j = 8 := by omega
    exact GoesN.out (by simp) (out32 x d 8 _ _ (by omega))
  | succ t ih =>
    intro j hj hm
    obtain ⟨h1, h2⟩ := nP_size hk hu j
    rw [nofJ_succ] at hm
    cases hg : gd (beS (nC hmac2 k u j)) with
    | true => rw [hg, cond_true] at hm; cases hm
    | false =>
      rw [hg, cond_false] at hm
      have ih := ih (j + 1) (by omega) hm
      rw [show ((j + 1 : Nat) : Int) = (j : Int) + 1 by omega] at ih
      exact GoesN.cons (by rw [MN32_len, MN32_len]) (no32 x d j _ _ h1 h2 (by omega) hg) ih
end Go.Ev.H5

namespace Go.Ev.H5
open Go Go.Proofs Go.RowKit
set_option maxRecDepth 100000
def k0S : ByteArray := strOf (List.replicate 32 0)
def v0S : ByteArray := strOf (List.replicate 32 1)
noncomputable def moS (x : Nat) (h : ByteArray) : ByteArray := bgS x ++ bgS (od (beS h))
def kK (H : HH) (k v : ByteArray) (z m : ByteArray) : ByteArray := H k ((v ++ z) ++ m)
def kV (H : HH) (k v : ByteArray) (z m : ByteArray) : ByteArray := H (kK H k v z m) v
noncomputable def k1S (H : HH) (x : Nat) (h : ByteArray) : ByteArray := kK H k0S v0S zer1 (moS x h)
noncomputable def v1S (H : HH) (x : Nat) (h : ByteArray) : ByteArray := kV H k0S v0S zer1 (moS x h)
noncomputable def k2S (H : HH) (x : Nat) (h : ByteArray) : ByteArray := kK H (k1S H x h) (v1S H x h) one1 (moS x h)
noncomputable def v2S (H : HH) (x : Nat) (h : ByteArray) : ByteArray := kV H (k1S H x h) (v1S H x h) one1 (moS x h)
def obK (H : HH) (k v z m : ByteArray) : List Prop := [v.size + 1 ≤ 9223372036854775807, (v ++ z).size + m.size ≤ 9223372036854775807, k.size ≤ 64, ((v ++ z) ++ m).size ≤ 10000000000000, (kK H k v z m).size ≤ 64, v.size ≤ 10000000000000]
noncomputable def obB (H : HH) (x : Nat) (h : ByteArray) : List Prop := [h.size = 32, beS h < 4294967296 ^ 8, (3 : Int) = 3, joinN (beS h) 0 < 4294967296 ^ 16, x < 4294967296 ^ 8, od (beS h) < 4294967296 ^ 8, (bgS x).size + (bgS (od (beS h))).size ≤ 9223372036854775807] ++ obK H k0S v0S zer1 (moS x h) ++ obK H (k1S H x h) (v1S H x h) one1 (moS x h)
end Go.Ev.H5

namespace Go.Ev.H5
open Go Go.Proofs Go.RowKit
set_option maxRecDepth 100000
noncomputable def E32s (H : HH) (x : Nat) (h : ByteArray) (T : List AV) (R : Blk) (d : Nat) (k u : ByteArray) (ex : Ex) : Env := addLp (ENo H) 1005 (bodyOf Tryz.prog 32 5) (sumC (T32 0) (MN32 x zb (od (beS h)) (k2S H x h) (v2S H x h)) T (MN32 x R d k u) ex)
noncomputable def ob32s (H : HH) (x : Nat) (h : ByteArray) : List Prop := [x < 4294967296 ^ 8, (!gd x) = false, (!decide ((h.size : Int) = 32)) = false] ++ obB H x h ++ [bodyOf Tryz.prog 32 5 = bodyOf Tryz.prog 32 5, (T32 0, MN32 x zb (od (beS h)) (k2S H x h) (v2S H x h)) = (T32 0, MN32 x zb (od (beS h)) (k2S H x h) (v2S H x h)), wfS (T32 0) (MN32 x zb (od (beS h)) (k2S H x h) (v2S H x h)) = true]
theorem r32s (H : HH) (x : Nat) (h : ByteArray) (r d : Nat) (k u : ByteArray) : callR (E32s H x h T32r (nb r) d k u .ret) 1000 32 [N8 x, sS h] [false, false] = some (ob32s H x h, .tup [N8 r, .one (.i 0)]) := by kernel_rfl
theorem r32n (H : HH) (x : Nat) (h : ByteArray) (r d : Nat) (k u : ByteArray) : callR (E32s H x h T32x zb d k u (.exit 0)) 1000 32 [N8 x, sS h] [false, false] = some (ob32s H x h, .tup [zK, .one (.i 3)]) := by kernel_rfl
end Go.Ev.H5

namespace Go.Ev.H5
open Go Go.Proofs Go.RowKit
set_option maxRecDepth 100000
theorem k0S_size : k0S.size = 32 := by unfold k0S; rw [strOf_size, List.length_replicate]
theorem v0S_size : v0S.size = 32 := by unfold v0S; rw [strOf_size, List.length_replicate]
theorem moS_size (x : Nat) (h : ByteArray) : (moS x h).size = 64 := by unfold moS; rw [ByteArray.size_append, Go.Ev.bgS_size, Go.Ev.bgS_size]
theorem obK_ok {H : HH} (hH : ∀ a b, (H a b).size = 32) {k v z m : ByteArray} (hk : k.size = 32) (hv : v.size = 32) (hz : z.size = 1) (hm : m.size = 64) : All (obK H k v z m) := by
  have h1 : (v ++ z).size = 33 := by rw [ByteArray.size_append, hv, hz]
  have h2 : ((v ++ z) ++ m).size = 97 := by rw [ByteArray.size_append, h1, hm]
  have h3 : (kK H k v z m).size = 32 := hH _ _
  exact ⟨by omega, by omega, by omega, by omega, by omega, by omega, trivial⟩
theorem obBg_ok {H : HH} (hH : ∀ a b, (H a b).size = 32) {x : Nat} {h : ByteArray} (hx : x < 4294967296 ^ 8) (hh : h.size = 32) : All (obB H x h) := by
  have h1 : (bgS x).size = 32 := Go.Ev.bgS_size _
  have h2 : (bgS (od (beS h))).size = 32 := Go.Ev.bgS_size _
  refine All_app (All_app ⟨hh, beS_lt hh, rfl, join0 (beS_lt hh), hx, L8 (od_lt _), by omega, trivial⟩ (obK_ok hH k0S_size v0S_size rfl (moS_size x h))) (obK_ok hH (hH _ _) (hH _ _) rfl (moS_size x h))
theorem ob32s_ok {H : HH} (hH : ∀ a b, (H a b).size = 32) {x : Nat} {h : ByteArray} (hx : x < 4294967296 ^ 8) (hg : gd x = true) (hh : h.size = 32) : All (ob32s H x h) :=
  All_app (All_app ⟨hx, by rw [hg]; rfl, by rw [hh]; rfl, trivial⟩ (obBg_ok hH hx hh)) ⟨rfl, rfl, wfN32 _ zb_free _ _ _ (wT32 _), trivial⟩
theorem spec32S {H : HH} (hE : EnvOK (ENo H)) (hH : ∀ a b, (H a b).size = 32) {x : Nat} {h : ByteArray} (hx : x < 4294967296 ^ 8) (hg : gd x = true) (hh : h.size = 32) {r d : Nat} {k u : ByteArray}
    (hl : Goes Tryz.prog (.loop (bodyOf Tryz.prog 32 5)) .ret (T32 0) (MN32 x zb (od (beS h)) (k2S H x h) (v2S H x h)) T32r (MN32 x (nb r) d k u)) : Spec 32 [N8 x, sS h] (.tup [N8 r, .one (.i 0)]) :=
  spec_run (envAddLp hE (sumC_ok (by rw [MN32_len, MN32_len]) hl)) rfl (r32s H x h r d k u) (ob32s_ok hH hx hg hh) rfl rfl
theorem spec32N {H : HH} (hE : EnvOK (ENo H)) (hH : ∀ a b, (H a b).size = 32) {x : Nat} {h : ByteArray} (hx : x < 4294967296 ^ 8) (hg : gd x = true) (hh : h.size = 32) {d : Nat} {k u : ByteArray}
    (hl : Goes Tryz.prog (.loop (bodyOf Tryz.prog 32 5)) (.exit 0) (T32 0) (MN32 x zb (od (beS h)) (k2S H x h) (v2S H x h)) T32x (MN32 x zb d k u)) : Spec 32 [N8 x, sS h] (.tup [N8 0, .one (.i 3)]) :=
  (spec_run (envAddLp hE (sumC_ok (by rw [MN32_len, MN32_len]) hl)) rfl (r32n H x h 0 d k u) (ob32s_ok hH hx hg hh) rfl rfl).congr (fun _ => rfl) (fun φ => by simp only [AV.conc, List.map_cons, zK_conc φ])
noncomputable def noJ (x : Nat) (h : ByteArray) : Option Nat := nofJ (k2S hmac2 x h) (v2S hmac2 x h) 8 0
noncomputable def caN (x : Nat) (h : ByteArray) (j : Nat) : Nat := beS (nC hmac2 (k2S hmac2 x h) (v2S hmac2 x h) j)
def elN (F : Nat → Nat) : Option Nat → Nat
  | some j => F j
  | none => 0
def elB : Option Nat → Bool
  | some _ => true
  | none => false
theorem elN_some (F : Nat → Nat) (j : Nat) : elN F (some j) = F j := rfl
theorem elN_none (F : Nat → Nat) : elN F none = 0 := rfl
theorem elB_some (j : Nat) : elB (some j) = true := rfl
theorem elB_none : elB none = false := rfl
noncomputable def noN (x : Nat) (h : ByteArray) : Nat := elN (caN x h) (noJ x h)
noncomputable def noB (x : Nat) (h : ByteArray) : Bool := elB (noJ x h)
noncomputable def noE (x : Nat) (h : ByteArray) : Int := bif noB x h then 0 else 3
theorem noN_none {x : Nat} {h : ByteArray} (hj : noJ x h = none) : noN x h = 0 := by unfold noN; rw [hj, elN_none]
theorem noN_some {x : Nat} {h : ByteArray} {j : Nat} (hj : noJ x h = some j) : noN x h = caN x h j := by unfold noN; rw [hj, elN_some]
theorem noB_none {x : Nat} {h : ByteArray} (hj : noJ x h = none) : noB x h = false := by unfold noB; rw [hj, elB_none]
theorem noB_some {x : Nat} {h : ByteArray} {j : Nat} (hj : noJ x h = some j) : noB x h = true := by unfold noB; rw [hj, elB_some]
theorem noE_none {x : Nat} {h : ByteArray} (hj : noJ x h = none) : noE x h = 3 := by unfold noE; rw [noB_none hj, cond_false]
theorem noE_some {x : Nat} {h : ByteArray} {j : Nat} (hj : noJ x h = some j) : noE x h = 0 := by unfold noE; rw [noB_some hj, cond_true]
theorem noE_eq (x : Nat) (h : ByteArray) : noE x h = bif noB x h then 0 else 3 := by unfold noE; rfl
theorem nP_zero (H : HH) (k u : ByteArray) : nP H k u 0 = (k, u) := rfl
theorem go32s (x d : Nat) (k u : ByteArray) (hk : k.size = 32) (hu : u.size = 32) (j : Nat) (hj : nofJ k u 8 0 = some j) : Goes Tryz.prog (.loop (bodyOf Tryz.prog 32 5)) .ret (T32 0) (MN32 x zb d k u) T32r (MN32 x (nb (beS (nC hmac2 k u j))) d (nP hmac2 k u j).1 (nC hmac2 k u j)) := by
  have hl := (loop32s x d k u hk hu 8 0 j (by omega) hj).loop
  rw [nP_zero] at hl
  exact hl
theorem go32n (x d : Nat) (k u : ByteArray) (hk : k.size = 32) (hu : u.size = 32) (hj : nofJ k u 8 0 = none) : Goes Tryz.prog (.loop (bodyOf Tryz.prog 32 5)) (.exit 0) (T32 0) (MN32 x zb d k u) T32x (MN32 x zb d (nP hmac2 k u 8).1 (nP hmac2 k u 8).2) := by
  have hl := (loop32n x d k u hk hu 8 0 (by omega) hj).loop
  rw [nP_zero] at hl
  exact hl
theorem k2S_size (x : Nat) (h : ByteArray) : (k2S hmac2 x h).size = 32 := hmac2_size _ _
theorem v2S_size (x : Nat) (h : ByteArray) : (v2S hmac2 x h).size = 32 := hmac2_size _ _
theorem go32t (x d : Nat) (h : ByteArray) (j : Nat) (hj : noJ x h = some j) : Goes Tryz.prog (.loop (bodyOf Tryz.prog 32 5)) .ret (T32 0) (MN32 x zb d (k2S hmac2 x h) (v2S hmac2 x h)) T32r (MN32 x (nb (caN x h j)) d (nP hmac2 (k2S hmac2 x h) (v2S hmac2 x h) j).1 (nC hmac2 (k2S hmac2 x h) (v2S hmac2 x h) j)) :=
  go32s x d (k2S hmac2 x h) (v2S hmac2 x h) (k2S_size x h) (v2S_size x h) j hj
theorem go32e (x d : Nat) (h : ByteArray) (hj : noJ x h = none) : Goes Tryz.prog (.loop (bodyOf Tryz.prog 32 5)) (.exit 0) (T32 0) (MN32 x zb d (k2S hmac2 x h) (v2S hmac2 x h)) T32x (MN32 x zb d (nP hmac2 (k2S hmac2 x h) (v2S hmac2 x h) 8).1 (nP hmac2 (k2S hmac2 x h) (v2S hmac2 x h) 8).2) :=
  go32n x d (k2S hmac2 x h) (v2S hmac2 x h) (k2S_size x h) (v2S_size x h) hj
theorem spec32 (x : Nat) (h : ByteArray) (hx : x < 4294967296 ^ 8) (hg : gd x = true) (hh : h.size = 32) : Spec 32 [N8 x, sS h] (.tup [N8 (noN x h), .one (.i (noE x h))]) := by
  cases hj : noJ x h with
  | some j =>
    rw [noN_some hj, noE_some hj]
    exact spec32S envENo hmac2_size hx hg hh (go32t x (od (beS h)) h j hj)
  | none =>
    rw [noN_none hj, noE_none hj]
    exact spec32N envENo hmac2_size hx hg hh (go32e x (od (beS h)) h hj)
end Go.Ev.H5

namespace Go.Ev.H5
open Go Go.Proofs Go.RowKit
set_option maxRecDepth 100000
theorem r52h (s : ByteArray) : callR (mkE LNn SNn) 1000 52 [sS s] [] = some ([s.size = 32, beS s < 4294967296 ^ 8, 0 < 4294967296, 0 < 4294967296, 0 < 4294967296, 0 < 4294967296, 0 < 4294967296, 0 < 4294967296, 0 < 4294967296, 0 < 4294967296, (0 : Int) ≤ 3 ∧ (3 : Int) < 4, joinN (beS s) 0 < 4294967296 ^ 16], .val (N8 (od (beS s)))) := by kernel_rfl
noncomputable def fnHs (vs : List V1) : Option (List Prop × AV) := match vs with | [.one (.v (.string s))] => some ([s.size = 32], .val (N8 (od (beS s)))) | _ => none
theorem ct52h : CTok ⟨52, fnHs⟩ := by
  intro vs ob r h ho
  simp only [fnHs] at h
  split at h
  · simp only [Option.some.injEq, Prod.mk.injEq] at h
    obtain ⟨rfl, rfl⟩ := h
    obtain ⟨h1, _⟩ := ho
    have z : (0 : Nat) < 4294967296 := by decide
    exact spec_run (envMk LNn_ok SNn) rfl (r52h _) ⟨h1, beS_lt h1, z, z, z, z, z, z, z, z, by omega, join0 (beS_lt h1), trivial⟩ rfl rfl
  · simp at h
noncomputable def LNp (H : HH) : List CT := ⟨52, fnHs⟩ :: LNo H
theorem LNp_ok : AllCT (LNp hmac2) := ⟨ct52h, LNo_ok⟩
def SNp : FuncId → Nat → Bool := fun f t => match f with
  | 96 => memN t [19, 22, 24, 26, 29, 31, 38, 40, 50, 55, 52] | 47 => memN t [10, 20, 12] | _ => false
noncomputable def ENp (H : HH) : Env := mkE (LNp H) SNp
theorem envENp : EnvOK (ENp hmac2) := envMk LNp_ok _
def sv (s : ByteArray) : AV := .val (sS s)
def TQ96 (n : Int) (b k v : ByteArray) (i : Int) : List AV := slots 68 [(2, iV n), (6, pV 1), (7, bV false), (8, sv b), (9, sv k), (10, sv v), (11, iV i)]
def TQ96b (n : Int) (k v : ByteArray) (i : Int) : List AV := slots 68 [(2, iV n), (6, pV 1), (7, bV false), (9, sv k), (10, sv v), (12, iV i)]
def MQ96 (x : Nat) : List Blk := [nb x, zb]
theorem v96 (H : HH) (x i : Nat) (n : Int) (b k v : ByteArray) : runTo (ENp H) 1000 ((ENp H).S 96) (bodyOf Tryz.prog 96 4) (TQ96 n b k v (i : Int)) (MQ96 x) [true] (TQ96 n b k (v ++ one1) ((i : Int) + 1)) 2 =
    some ([decide ((i : Int) < 32) = true, v.size + 1 ≤ 9223372036854775807, inI ((i : Int) + 1)], .normal, TQ96 n b k (v ++ one1) ((i : Int) + 1), MQ96 x) := by kernel_rfl
theorem v96x (H : HH) (x i : Nat) (n : Int) (b k v : ByteArray) : runTo (ENp H) 1000 ((ENp H).S 96) (bodyOf Tryz.prog 96 4) (TQ96 n b k v (i : Int)) (MQ96 x) [false] (TQ96 n b k v (i : Int)) 2 =
    some ([decide ((i : Int) < 32) = false], .exit 0, TQ96 n b k v (i : Int), MQ96 x) := by kernel_rfl
theorem c96 (H : HH) (x i : Nat) (n : Int) (k v : ByteArray) : runTo (ENp H) 1000 ((ENp H).S 96) (bodyOf Tryz.prog 96 13) (TQ96b n k v (i : Int)) (MQ96 x) [true] (TQ96b n (H k (v ++ zer1)) (H (H k (v ++ zer1)) (H (H k (v ++ zer1)) v)) ((i : Int) + 1)) 2 =
    some ([decide ((i : Int) < n) = true, v.size + 1 ≤ 9223372036854775807, k.size ≤ 64, (v ++ zer1).size ≤ 10000000000000, (H k (v ++ zer1)).size ≤ 64, v.size ≤ 10000000000000, (H k (v ++ zer1)).size ≤ 64, (H (H k (v ++ zer1)) v).size ≤ 10000000000000, inI ((i : Int) + 1)], .normal, TQ96b n (H k (v ++ zer1)) (H (H k (v ++ zer1)) (H (H k (v ++ zer1)) v)) ((i : Int) + 1), MQ96 x) := by kernel_rfl
theorem c96x (H : HH) (x i : Nat) (n : Int) (k v : ByteArray) : runTo (ENp H) 1000 ((ENp H).S 96) (bodyOf Tryz.prog 96 13) (TQ96b n k v (i : Int)) (MQ96 x) [false] (TQ96b n k v (i : Int)) 2 =
    some ([decide ((i : Int) < n) = false], .exit 2, TQ96b n k v (i : Int), MQ96 x) := by kernel_rfl
theorem MQ96_free (x : Nat) : ∀ b ∈ MQ96 x, Free b := by
  intro b hb
  simp only [MQ96, List.mem_cons, List.not_mem_nil, or_false] at hb
  rcases hb with rfl | rfl
  · exact nb_free _
  · exact zb_free
theorem MQ96_len (x : Nat) : (MQ96 x).length = 2 := rfl
theorem wq96 (x : Nat) (n : Int) (b k v : ByteArray) (i : Int) : wfS (TQ96 n b k v i) (MQ96 x) = true := wfS_of (MQ96_free x) (by rw [MQ96_len]; kernel_rfl)
theorem wq96b (x : Nat) (n : Int) (k v : ByteArray) (i : Int) : wfS (TQ96b n k v i) (MQ96 x) = true := wfS_of (MQ96_free x) (by rw [MQ96_len]; kernel_rfl)
def onN (j : Nat) : ByteArray := strOf (List.replicate j 1)
theorem onN_succ (j : Nat) : onN (j + 1) = onN j ++ one1 := by
  unfold onN
  rw [List.replicate_succ']
  exact strOf_append _ _
theorem onN_size (j : Nat) : (onN j).size = j := by unfold onN; rw [strOf_size, List.length_replicate]
theorem loopQ96 (x : Nat) (n : Int) (b k : ByteArray) : Goes Tryz.prog (.loop (bodyOf Tryz.prog 96 4)) (.exit 0) (TQ96 n b k (onN 0) ((0 : Nat) : Int)) (MQ96 x) (TQ96 n b k (onN 32) ((32 : Nat) : Int)) (MQ96 x) := by
  refine loop_goes (N := 32) (k := 2) (T := fun j => TQ96 n b k (onN j) (j : Int)) (M := fun _ => MQ96 x) (by simp) (fun _ _ => rfl) (fun j hj => ?_) ?_
  · have hz := onN_size j
    have hr := v96 hmac2 x j n b k (onN j)
    rw [← onN_succ] at hr
    exact Runs.goes envENp ⟨_, _, hr, ⟨decide_eq_true (by omega), by omega, by unfold inI; omega, trivial⟩, wq96 _ _ _ _ _ _⟩
  · exact Runs.goes envENp ⟨_, _, v96x hmac2 x 32 n b k (onN 32), ⟨by decide, trivial⟩, wq96 _ _ _ _ _ _⟩
theorem loopQ96b (x n : Nat) (hn : n ≤ 8) (k u : ByteArray) (hk : k.size = 32) (hu : u.size = 32) : Goes Tryz.prog (.loop (bodyOf Tryz.prog 96 13)) (.exit 2) (TQ96b (n : Int) (nP hmac2 k u 0).1 (nC hmac2 k u 0) ((0 : Nat) : Int)) (MQ96 x) (TQ96b (n : Int) (nP hmac2 k u n).1 (nC hmac2 k u n) ((n : Nat) : Int)) (MQ96 x) := by
  refine loop_goes (N := n) (k := 2) (T := fun j => TQ96b (n : Int) (nP hmac2 k u j).1 (nC hmac2 k u j) (j : Int)) (M := fun _ => MQ96 x) (by simp) (fun _ _ => rfl) (fun j hj => ?_) ?_
  · obtain ⟨h1, h2⟩ := nP_size hk hu j
    have h3 := nC_size k u j
    have h4 : (nC hmac2 k u j ++ zer1).size = 33 := by rw [ByteArray.size_append, h3]; rfl
    have h5 := hmac2_size (nP hmac2 k u j).1 (nC hmac2 k u j ++ zer1)
    have h6 := hmac2_size (hmac2 (nP hmac2 k u j).1 (nC hmac2 k u j ++ zer1)) (nC hmac2 k u j)
    exact Runs.goes envENp ⟨_, _, c96 hmac2 x j (n : Int) (nP hmac2 k u j).1 (nC hmac2 k u j), ⟨decide_eq_true (by omega), by omega, by omega, by omega, by omega, by omega, by omega, by omega, by unfold inI; omega, trivial⟩, wq96b _ _ _ _ _⟩
  · exact Runs.goes envENp ⟨_, _, c96x hmac2 x n (n : Int) _ _, ⟨decide_eq_false (by omega), trivial⟩, wq96b _ _ _ _ _⟩
end Go.Ev.H5

namespace Go.Ev.H5
open Go Go.Proofs Go.RowKit
set_option maxRecDepth 100000
noncomputable def e96 (H : HH) (x : Nat) (h : ByteArray) (n : Int) (V K U : ByteArray) : Env :=
  addLp (addLp (ENp H) 4 (bodyOf Tryz.prog 96 4) (sumC (TQ96 n (moS x h) (zs 32) ⟨#[]⟩ 0) (MQ96 x) (TQ96 n (moS x h) (zs 32) V 32) (MQ96 x) (.exit 0)))
    13 (bodyOf Tryz.prog 96 13) (sumC (TQ96b n (kK H (kK H (zs 32) V zer1 (moS x h)) (kV H (zs 32) V zer1 (moS x h)) one1 (moS x h)) (H (kK H (kK H (zs 32) V zer1 (moS x h)) (kV H (zs 32) V zer1 (moS x h)) one1 (moS x h)) (kV H (kK H (zs 32) V zer1 (moS x h)) (kV H (zs 32) V zer1 (moS x h)) one1 (moS x h))) 0) (MQ96 x) (TQ96b n K U n) (MQ96 x) (.exit 2))
noncomputable def o96a (H : HH) (x : Nat) (h : ByteArray) (n : Int) (V : ByteArray) : List Prop := [x < 4294967296 ^ 8, h.size = 32, od (beS h) < 4294967296 ^ 8, (bgS x).size + (bgS (od (beS h))).size ≤ 9223372036854775807, (0 : Int) ≤ 32 ∧ (32 : Int) ≤ 1000000,
  bodyOf Tryz.prog 96 4 = bodyOf Tryz.prog 96 4, (TQ96 n (moS x h) (zs 32) ⟨#[]⟩ 0, MQ96 x) = (TQ96 n (moS x h) (zs 32) ⟨#[]⟩ 0, MQ96 x), wfS (TQ96 n (moS x h) (zs 32) ⟨#[]⟩ 0) (MQ96 x) = true] ++ obK H (zs 32) V zer1 (moS x h) ++ obK H (kK H (zs 32) V zer1 (moS x h)) (kV H (zs 32) V zer1 (moS x h)) one1 (moS x h)
noncomputable def o96b (H : HH) (x : Nat) (n : Int) (k v U : ByteArray) : List Prop := [k.size ≤ 64, v.size ≤ 10000000000000, bodyOf Tryz.prog 96 13 = bodyOf Tryz.prog 96 13, (TQ96b n k (H k v) 0, MQ96 x) = (TQ96b n k (H k v) 0, MQ96 x), wfS (TQ96b n k (H k v) 0) (MQ96 x) = true, U.size = 32, beS U < 4294967296 ^ 8]
theorem rq96 (H : HH) (x : Nat) (h : ByteArray) (n : Int) (V K U : ByteArray) : callR (e96 H x h n V K U) 1000 96 [N8 x, sS h, .one (.i n)] [] =
    some (o96a H x h n V ++ o96b H x n (kK H (kK H (zs 32) V zer1 (moS x h)) (kV H (zs 32) V zer1 (moS x h)) one1 (moS x h)) (kV H (kK H (zs 32) V zer1 (moS x h)) (kV H (zs 32) V zer1 (moS x h)) one1 (moS x h)) U, .tup [N8 (beS U), .one (.v (.bool (gd (beS U))))]) := by kernel_rfl
theorem zs32_eq : zs 32 = k0S := by decide +kernel
theorem on32_eq : onN 32 = v0S := rfl
theorem on0_eq : onN 0 = (⟨#[]⟩ : ByteArray) := rfl
theorem caN_lt (x : Nat) (h : ByteArray) (j : Nat) : caN x h j < 4294967296 ^ 8 := beS_lt (nC_size _ _ _)
theorem spec96G {H : HH} (hE : EnvOK (ENp H)) (hH : ∀ a b, (H a b).size = 32) {x : Nat} {h : ByteArray} {n : Int} {V K U : ByteArray} (hx : x < 4294967296 ^ 8) (hh : h.size = 32) (hV : V.size = 32) (hU : U.size = 32)
    (g1 : Goes Tryz.prog (.loop (bodyOf Tryz.prog 96 4)) (.exit 0) (TQ96 n (moS x h) (zs 32) ⟨#[]⟩ 0) (MQ96 x) (TQ96 n (moS x h) (zs 32) V 32) (MQ96 x))
    (g2 : Goes Tryz.prog (.loop (bodyOf Tryz.prog 96 13)) (.exit 2) (TQ96b n (kK H (kK H (zs 32) V zer1 (moS x h)) (kV H (zs 32) V zer1 (moS x h)) one1 (moS x h)) (H (kK H (kK H (zs 32) V zer1 (moS x h)) (kV H (zs 32) V zer1 (moS x h)) one1 (moS x h)) (kV H (kK H (zs 32) V zer1 (moS x h)) (kV H (zs 32) V zer1 (moS x h)) one1 (moS x h))) 0) (MQ96 x) (TQ96b n K U n) (MQ96 x)) :
    Spec 96 [N8 x, sS h, .one (.i n)] (.tup [N8 (beS U), .one (.v (.bool (gd (beS U))))]) := by
  have h1 : (bgS x).size = 32 := Go.Ev.bgS_size _
  have h2 : (bgS (od (beS h))).size = 32 := Go.Ev.bgS_size _
  have hz : (zs 32).size = 32 := zs_size 32
  have hm := moS_size x h
  refine spec_run (envAddLp (envAddLp hE (sumC_ok rfl g1)) (sumC_ok rfl g2)) rfl (rq96 H x h n V K U) (All_app (All_app (All_app ⟨hx, hh, L8 (od_lt _), by omega, by omega, rfl, rfl, wq96 _ _ _ _ _ _, trivial⟩ (obK_ok hH hz hV rfl hm)) (obK_ok hH (hH _ _) (hH _ _) rfl hm)) ?_) rfl rfl
  have e1 := hH (kK H (zs 32) V zer1 (moS x h)) ((kV H (zs 32) V zer1 (moS x h) ++ one1) ++ moS x h)
  have e2 := hH (kK H (kK H (zs 32) V zer1 (moS x h)) (kV H (zs 32) V zer1 (moS x h)) one1 (moS x h)) (kV H (zs 32) V zer1 (moS x h))
  exact ⟨Nat.le_trans (Nat.le_of_eq e1) (by decide), Nat.le_trans (Nat.le_of_eq e2) (by decide), rfl, rfl, wq96b _ _ _ _ _, hU, beS_lt hU, trivial⟩
theorem g96b (x : Nat) (h : ByteArray) (n : Nat) (hn : n ≤ 8) : Goes Tryz.prog (.loop (bodyOf Tryz.prog 96 13)) (.exit 2) (TQ96b (n : Int) (k2S hmac2 x h) (nC hmac2 (k2S hmac2 x h) (v2S hmac2 x h) 0) 0) (MQ96 x) (TQ96b (n : Int) (nP hmac2 (k2S hmac2 x h) (v2S hmac2 x h) n).1 (nC hmac2 (k2S hmac2 x h) (v2S hmac2 x h) n) (n : Int)) (MQ96 x) :=
  loopQ96b x n hn _ _ (k2S_size x h) (v2S_size x h)
theorem specQ96 (x : Nat) (h : ByteArray) (n : Nat) (hx : x < 4294967296 ^ 8) (hh : h.size = 32) (hn : n ≤ 8) : Spec 96 [N8 x, sS h, .one (.i (n : Int))] (.tup [N8 (caN x h n), .one (.v (.bool (gd (caN x h n))))]) := by
  have g1 := loopQ96 x (n : Int) (moS x h) (zs 32)
  rw [on0_eq] at g1
  have g2 := g96b x h n hn
  refine spec96G envENp hmac2_size hx hh (onN_size 32) (nC_size _ _ n) g1 ?_ (K := (nP hmac2 (k2S hmac2 x h) (v2S hmac2 x h) n).1)
  rw [zs32_eq, on32_eq]
  exact g2
def fnTr (f : Nat → ByteArray → Nat → Nat) (vs : List V1) : Option (List Prop × AV) :=
  match vs with
  | [x, .one (.v (.string h)), .one (.i n)] => match numP 8 x with
    | some (o, a) => some ((h.size = 32) :: (0 ≤ n ∧ n ≤ 8) :: o, .tup [N8 (f a h n.toNat), .one (.v (.bool (gd (f a h n.toNat))))])
    | none => none
  | _ => none
theorem ctQ96 : CTok ⟨96, fnTr caN⟩ := by
  intro vs ob r h ho
  simp only [fnTr] at h
  split at h
  · rename_i x hs n
    split at h
    · rename_i o a hx
      simp only [Option.some.injEq, Prod.mk.injEq] at h
      obtain ⟨rfl, rfl⟩ := h
      obtain ⟨h1, ⟨h2, h3⟩, ho⟩ := ho
      obtain ⟨h4, h5⟩ := numP_spec hx ho
      have hn : ((n.toNat : Nat) : Int) = n := Int.toNat_of_nonneg h2
      have hs := specQ96 a hs n.toNat h4 h1 (by omega)
      rw [hn] at hs
      exact hs.congr (fun φ => by simp only [List.map_cons, List.map_nil]; rw [← h5 φ]; rfl) (fun _ => rfl)
    · simp at h
  · simp at h
noncomputable def ENq (f : Nat → ByteArray → Nat → Nat) : Env := mkE (⟨96, fnTr f⟩ :: []) SNp
theorem envENq : EnvOK (ENq caN) := envMk (show AllCT (⟨96, fnTr caN⟩ :: []) from ⟨ctQ96, trivial⟩) _
def MQ47 (x : Nat) (R : Blk) : List Blk := [nb x, R]
def TQ47 (h : ByteArray) (j : Int) : List AV := slots 23 [(1, sv h), (2, pV 0), (4, pV 1), (5, bV false), (6, iV j)]
def TQ47r : List AV := slots 23 [(4, pV 1), (5, bV true)]
def TQ47x : List AV := slots 23 [(4, pV 1)]
def o47 (f : Nat → ByteArray → Nat → Nat) (x : Nat) (h : ByteArray) (j : Nat) (b : Bool) : List Prop := [decide ((j : Int) < 8) = true, h.size = 32, (0 : Int) ≤ (j : Int) ∧ (j : Int) ≤ 8, x < 4294967296 ^ 8, gd (f x h j) = b]
theorem y47 (f : Nat → ByteArray → Nat → Nat) (x j : Nat) (h : ByteArray) : runTo (ENq f) 1000 ((ENq f).S 47) (bodyOf Tryz.prog 47 2) (TQ47 h (j : Int)) (MQ47 x zb) [true, true] TQ47r 2 =
    some (o47 f x h j true, .ret, TQ47r, MQ47 x (nb (f x h j))) := by kernel_rfl
theorem n47 (f : Nat → ByteArray → Nat → Nat) (x j : Nat) (h : ByteArray) : runTo (ENq f) 1000 ((ENq f).S 47) (bodyOf Tryz.prog 47 2) (TQ47 h (j : Int)) (MQ47 x zb) [true, false] (TQ47 h ((j : Int) + 1)) 2 =
    some (o47 f x h j false ++ [inI ((j : Int) + 1)], .normal, TQ47 h ((j : Int) + 1), MQ47 x zb) := by kernel_rfl
theorem x47 (f : Nat → ByteArray → Nat → Nat) (x j : Nat) (h : ByteArray) : runTo (ENq f) 1000 ((ENq f).S 47) (bodyOf Tryz.prog 47 2) (TQ47 h (j : Int)) (MQ47 x zb) [false] TQ47x 2 =
    some ([decide ((j : Int) < 8) = false], .exit 0, TQ47x, MQ47 x zb) := by kernel_rfl
end Go.Ev.H5

namespace Go.Ev.H5
open Go Go.Proofs Go.RowKit
set_option maxRecDepth 100000
theorem MQ47_len (x : Nat) (R : Blk) : (MQ47 x R).length = 2 := rfl
theorem MQ47_free (x : Nat) {R : Blk} (hR : Free R) : ∀ b ∈ MQ47 x R, Free b := by
  intro b hb
  simp only [MQ47, List.mem_cons, List.not_mem_nil, or_false] at hb
  rcases hb with rfl | rfl
  · exact nb_free _
  · exact hR
theorem wq47 (x : Nat) {R : Blk} (hR : Free R) (h : ByteArray) (j : Int) : wfS (TQ47 h j) (MQ47 x R) = true := wfS_of (MQ47_free x hR) (by show tmsWf 2 _ = true; kernel_rfl)
theorem wq47r (x : Nat) {R : Blk} (hR : Free R) : wfS TQ47r (MQ47 x R) = true := wfS_of (MQ47_free x hR) (by show tmsWf 2 _ = true; kernel_rfl)
theorem wq47x (x : Nat) {R : Blk} (hR : Free R) : wfS TQ47x (MQ47 x R) = true := wfS_of (MQ47_free x hR) (by show tmsWf 2 _ = true; kernel_rfl)
theorem o47_ok {x j : Nat} {h : ByteArray} {b : Bool} (hx : x < 4294967296 ^ 8) (hh : h.size = 32) (hj : j < 8) (hb : gd (caN x h j) = b) : All (o47 caN x h j b) :=
  ⟨decide_eq_true (by omega), hh, by omega, hx, hb, trivial⟩
noncomputable def fgJ (x : Nat) (h : ByteArray) : Nat → Nat → Option Nat
  | 0, _ => none
  | t + 1, j => bif gd (caN x h j) then some j else fgJ x h t (j + 1)
theorem fgJ_eq (x : Nat) (h : ByteArray) : ∀ t j, fgJ x h t j = nofJ (k2S hmac2 x h) (v2S hmac2 x h) t j
  | 0, _ => rfl
  | t + 1, j => by rw [fgJ, nofJ_succ, fgJ_eq x h t (j + 1)]; rfl
theorem fgJ_zero (x : Nat) (h : ByteArray) (j : Nat) : fgJ x h 0 j = none := rfl
theorem fgJ_succ (x : Nat) (h : ByteArray) (t j : Nat) : fgJ x h (t + 1) j = bif gd (caN x h j) then some j else fgJ x h t (j + 1) := rfl
theorem loopQ47s (x : Nat) (h : ByteArray) (hx : x < 4294967296 ^ 8) (hh : h.size = 32) : ∀ (t j r : Nat), j + t = 8 → fgJ x h t j = some r → GoesN Tryz.prog (bodyOf Tryz.prog 47 2) (t + 1) .ret (TQ47 h (j : Int)) (MQ47 x zb) TQ47r (MQ47 x (nb (caN x h r))) := by
  intro t
  induction t with
  | zero => intro j r _ hm; rw [fgJ_zero] at hm; exact nomatch hm
  | succ t ih =>
    intro j r hj hm
    rw [fgJ_succ] at hm
    cases hg : gd (caN x h j) with
    | true =>
      rw [hg, cond_true, Option.some.injEq] at hm
      subst hm
      exact GoesN.out (by simp) (Runs.goes envENq ⟨_, _, y47 caN x j h, o47_ok hx hh (by omega) hg, wq47r x (nb_free _)⟩)
    | false =>
      rw [hg, cond_false] at hm
      have ih := ih (j + 1) r (by omega) hm
      rw [show ((j + 1 : Nat) : Int) = (j : Int) + 1 by omega] at ih
      exact GoesN.cons rfl (Runs.goes envENq ⟨_, _, n47 caN x j h, All_app (o47_ok hx hh (by omega) hg) ⟨by unfold inI; omega, trivial⟩, wq47 x zb_free _ _⟩) ih
theorem loopQ47n (x : Nat) (h : ByteArray) (hx : x < 4294967296 ^ 8) (hh : h.size = 32) : ∀ (t j : Nat), j + t = 8 → fgJ x h t j = none → GoesN Tryz.prog (bodyOf Tryz.prog 47 2) (t + 1) (.exit 0) (TQ47 h (j : Int)) (MQ47 x zb) TQ47x (MQ47 x zb) := by
  intro t
  induction t with
  | zero =>
    intro j hj _
    obtain rfl : j = 8 := by omega
    exact GoesN.out (by simp) (Runs.goes envENq ⟨_, _, x47 caN x 8 h, ⟨by decide, trivial⟩, wq47x x zb_free⟩)
  | succ t ih =>
    intro j hj hm
    rw [fgJ_succ] at hm
    cases hg : gd (caN x h j) with
    | true => rw [hg, cond_true] at hm; cases hm
    | false =>
      rw [hg, cond_false] at hm
      have ih := ih (j + 1) (by omega) hm
      rw [show ((j + 1 : Nat) : Int) = (j : Int) + 1 by omega] at ih
      exact GoesN.cons rfl (Runs.goes envENq ⟨_, _, n47 caN x j h, All_app (o47_ok hx hh (by omega) hg) ⟨by unfold inI; omega, trivial⟩, wq47 x zb_free _ _⟩) ih
noncomputable def EQ47 (f : Nat → ByteArray → Nat → Nat) (x : Nat) (h : ByteArray) (T : List AV) (R : Blk) (ex : Ex) : Env := addLp (ENq f) 2 (bodyOf Tryz.prog 47 2) (sumC (TQ47 h 0) (MQ47 x zb) T (MQ47 x R) ex)
def o47c (x : Nat) (h : ByteArray) : List Prop := [bodyOf Tryz.prog 47 2 = bodyOf Tryz.prog 47 2, (TQ47 h 0, MQ47 x zb) = (TQ47 h 0, MQ47 x zb), wfS (TQ47 h 0) (MQ47 x zb) = true]
theorem r47s (f : Nat → ByteArray → Nat → Nat) (x r : Nat) (h : ByteArray) : callR (EQ47 f x h TQ47r (nb r) .ret) 1000 47 [N8 x, sS h] [] = some (o47c x h, .tup [N8 r, .one (.v (.bool true))]) := by kernel_rfl
theorem r47m (f : Nat → ByteArray → Nat → Nat) (x : Nat) (h : ByteArray) : callR (EQ47 f x h TQ47x zb (.exit 0)) 1000 47 [N8 x, sS h] [] = some (o47c x h, .tup [zK, .one (.v (.bool false))]) := by kernel_rfl
theorem fg_noJ (x : Nat) (h : ByteArray) : fgJ x h 8 0 = noJ x h := fgJ_eq x h 8 0
theorem fgJ_good {x : Nat} {h : ByteArray} (r : Nat) : ∀ t j : Nat, fgJ x h t j = some r → gd (caN x h r) = true := by
  intro t
  induction t with
  | zero => intro j h0; rw [fgJ_zero] at h0; exact nomatch h0
  | succ t ih =>
    intro j h0
    rw [fgJ_succ] at h0
    cases hg : gd (caN x h j) with
    | true => rw [hg, cond_true, Option.some.injEq] at h0; subst h0; exact hg
    | false => rw [hg, cond_false] at h0; exact ih (j + 1) h0
theorem noN_good {x : Nat} {h : ByteArray} (hb : noB x h = true) : gd (noN x h) = true ∧ noN x h < 4294967296 ^ 8 := by
  cases hj : noJ x h with
  | none => rw [noB_none hj] at hb; cases hb
  | some j =>
    rw [noN_some hj]
    rw [← fg_noJ] at hj
    exact ⟨fgJ_good j 8 0 hj, caN_lt _ _ _⟩
theorem spec47g (x : Nat) (h : ByteArray) (hx : x < 4294967296 ^ 8) (hh : h.size = 32) : Spec 47 [N8 x, sS h] (.tup [N8 (noN x h), .one (.v (.bool (noB x h)))]) := by
  cases hj : noJ x h with
  | some j =>
    rw [noN_some hj, noB_some hj]
    have hl := (loopQ47s x h hx hh 8 0 j (by omega) (by rw [fg_noJ]; exact hj)).loop
    exact spec_run (envAddLp envENq (sumC_ok (by rw [MQ47_len, MQ47_len]) hl)) rfl (r47s caN x _ h) ⟨rfl, rfl, wq47 x zb_free _ _, trivial⟩ rfl rfl
  | none =>
    rw [noN_none hj, noB_none hj]
    have hl := (loopQ47n x h hx hh 8 0 (by omega) (by rw [fg_noJ]; exact hj)).loop
    exact (spec_run (envAddLp envENq (sumC_ok (by rw [MQ47_len]) hl)) rfl (r47m caN x h) ⟨rfl, rfl, wq47 x zb_free _ _, trivial⟩ rfl rfl).congr (fun _ => rfl) (fun φ => by simp only [AV.conc, List.map_cons, zK_conc φ])
end Go.Ev.H5

namespace Go.Ev.H5
open Go Go.Proofs Go.RowKit
set_option maxRecDepth 100000
structure NF where
  N : Nat → ByteArray → Nat
  E : Nat → ByteArray → Int
  B : Nat → ByteArray → Bool
  S : ByteArray → ByteArray
  K : ByteArray → Nat
  Y : ByteArray → Bool
noncomputable def nf : NF := ⟨noN, noE, noB, sum2, kNu, kyB⟩
theorem mk_N (a : Nat → ByteArray → Nat) (b : Nat → ByteArray → Int) (c : Nat → ByteArray → Bool) (d : ByteArray → ByteArray) (e : ByteArray → Nat) (g : ByteArray → Bool) : (NF.mk a b c d e g).N = a ∧ (NF.mk a b c d e g).E = b ∧ (NF.mk a b c d e g).B = c ∧ (NF.mk a b c d e g).S = d ∧ (NF.mk a b c d e g).K = e ∧ (NF.mk a b c d e g).Y = g := ⟨rfl, rfl, rfl, rfl, rfl, rfl⟩
theorem nf_N : nf.N = noN := by unfold nf; exact (mk_N _ _ _ _ _ _).1
theorem nf_E : nf.E = noE := by unfold nf; exact (mk_N _ _ _ _ _ _).2.1
theorem nf_B : nf.B = noB := by unfold nf; exact (mk_N _ _ _ _ _ _).2.2.1
theorem nf_S : nf.S = sum2 := by unfold nf; exact (mk_N _ _ _ _ _ _).2.2.2.1
theorem nf_K : nf.K = kNu := by unfold nf; exact (mk_N _ _ _ _ _ _).2.2.2.2.1
theorem nf_Y : nf.Y = kyB := by unfold nf; exact (mk_N _ _ _ _ _ _).2.2.2.2.2
def fnOf (f : NF) (vs : List V1) : Option (List Prop × AV) :=
  match vs with
  | [x, .one (.v (.string h))] => match numP 8 x with
    | some (o, a) => some ((h.size = 32) :: (gd a = true) :: o, .tup [N8 (f.N a h), .one (.i (f.E a h))])
    | none => none
  | _ => none
theorem ct32o : CTok ⟨32, fnOf nf⟩ := by
  intro vs ob r h ho
  simp only [fnOf] at h
  split at h
  · split at h
    · rename_i o a hx
      simp only [Option.some.injEq, Prod.mk.injEq] at h
      obtain ⟨rfl, rfl⟩ := h
      obtain ⟨h1, h2, ho⟩ := ho
      obtain ⟨h4, h5⟩ := numP_spec hx ho
      rw [nf_N, nf_E]
      exact (spec32 a _ h4 h2 h1).congr (fun φ => by simp only [List.map_cons, List.map_nil]; rw [← h5 φ]; rfl) (fun _ => rfl)
    · simp at h
  · simp at h
def fnNo (f : NF) (vs : List V1) : Option (List Prop × AV) :=
  match vs with
  | [x, .one (.v (.string h))] => match numP 8 x with
    | some (o, a) => some ((h.size = 32) :: o, .tup [N8 (f.N a h), .one (.v (.bool (f.B a h)))])
    | none => none
  | _ => none
theorem ct47o : CTok ⟨47, fnNo nf⟩ := by
  intro vs ob r h ho
  simp only [fnNo] at h
  split at h
  · split at h
    · rename_i o a hx
      simp only [Option.some.injEq, Prod.mk.injEq] at h
      obtain ⟨rfl, rfl⟩ := h
      obtain ⟨h1, ho⟩ := ho
      obtain ⟨h4, h5⟩ := numP_spec hx ho
      rw [nf_N, nf_B]
      exact (spec47g a _ h4 h1).congr (fun φ => by simp only [List.map_cons, List.map_nil]; rw [← h5 φ]; rfl) (fun _ => rfl)
    · simp at h
  · simp at h
def fnSv (f : NF) (vs : List V1) : Option (List Prop × AV) := match vs with | [.one (.v (.string s))] => some ([s.size ≤ 100000000000000], .val (sS (f.S s))) | _ => none
theorem ct33v : CTok ⟨33, fnSv nf⟩ := ct33
theorem ct46v : CTok ⟨46, fnSv nf⟩ := ct46
def fnKe (f : NF) (vs : List V1) : Option (List Prop × AV) := match vs with | [.one (.v (.string s))] => some ([s.size ≤ 1000000], .tup [N8 (f.K s), .one (.v (.bool (f.Y s)))]) | _ => none
theorem ct28v : CTok ⟨28, fnKe nf⟩ := ct28x
theorem ct12v : CTok ⟨12, fnKe nf⟩ := ct12x
structure NFok (f : NF) : Prop where
  c32 : CTok ⟨32, fnOf f⟩
  c47 : CTok ⟨47, fnNo f⟩
  c33 : CTok ⟨33, fnSv f⟩
  c46 : CTok ⟨46, fnSv f⟩
  c28 : CTok ⟨28, fnKe f⟩
  c12 : CTok ⟨12, fnKe f⟩
  sS : ∀ s, (f.S s).size = 32
  kK : ∀ s, f.Y s = true → gd (f.K s) = true ∧ f.K s < 4294967296 ^ 8
  nN : ∀ x h, f.B x h = true → gd (f.N x h) = true ∧ f.N x h < 4294967296 ^ 8
  nE : ∀ x h, f.E x h = bif f.B x h then 0 else 3
  yY : ∀ s, f.Y s = true → s.size = 32 ∧ gd (beS s) = true
theorem kyB_parts {s : ByteArray} (h : kyB s = true) : s.size = 32 ∧ gd (beS s) = true := by
  unfold kyB at h
  rw [Bool.and_eq_true, decide_eq_true_iff] at h
  exact h
theorem kNu_good {s : ByteArray} (h : kyB s = true) : gd (kNu s) = true ∧ kNu s < 4294967296 ^ 8 := by
  obtain ⟨h1, h2⟩ := kyB_parts h
  unfold kNu
  rw [decide_eq_true h1, cond_true]
  exact ⟨h2, beS_lt h1⟩
theorem nfOk : NFok nf := by
  refine ⟨ct32o, ct47o, ct33v, ct46v, ct28v, ct12v, ?_, ?_, ?_, ?_, ?_⟩
  · rw [nf_S]; exact sum2_size
  · rw [nf_Y, nf_K]; exact fun _ h => kNu_good h
  · rw [nf_B, nf_N]; exact fun _ _ h => noN_good h
  · rw [nf_E, nf_B]; exact noE_eq
  · rw [nf_Y]; exact fun _ h => kyB_parts h
noncomputable def fnSu (f : NF) (vs : List V1) : Option (List Prop × AV) := match vs with | [.one (.v (.string s))] => some ([s.size ≤ 100000000000000], .val (N8 (od (beS (f.S s))))) | _ => none
noncomputable def L38 (f : NF) : List CT := ⟨33, fnSv f⟩ :: ⟨64, fBe61⟩ :: ⟨34, fn1 fun a => .val (N8 (od a))⟩ :: []
theorem L38_ok {f : NF} (hf : NFok f) : AllCT (L38 f) := ⟨hf.c33, ct61b, fun _ _ _ h ho => fn1_ok spec34o h ho, trivial⟩
theorem r38 (f : NF) (s : ByteArray) : callR (mkE (L38 f) fun _ _ => false) 1000 38 [sS s] [] = some ([s.size ≤ 100000000000000, (f.S s).size = 32, beS (f.S s) < 4294967296 ^ 8], .val (N8 (od (beS (f.S s))))) := by kernel_rfl
theorem ct38u {f : NF} (hf : NFok f) : CTok ⟨38, fnSu f⟩ := by
  intro vs ob r h ho
  simp only [fnSu] at h
  split at h
  · simp only [Option.some.injEq, Prod.mk.injEq] at h
    obtain ⟨rfl, rfl⟩ := h
    exact spec_run (envMk (L38_ok hf) _) rfl (r38 f _) ⟨ho.1, hf.sS _, beS_lt (hf.sS _), trivial⟩ rfl rfl
  · simp at h
noncomputable def LSg (f : NF) : List CT := ⟨28, fnKe f⟩ :: ⟨33, fnSv f⟩ :: ⟨32, fnOf f⟩ :: ⟨31, cV (.val (P3 wXN wYN false))⟩ :: ⟨30, fnS [aN, aSp] gMulP⟩ :: ⟨34, fn1 fun a => .val (N8 (od a))⟩ :: ⟨35, fnIv true⟩ :: ⟨36, fnZ3 (mulM (modN 3))⟩ :: ⟨37, fnZ3 (addM (modN 3))⟩ :: ⟨38, fnSu f⟩ :: ⟨39, gGd⟩ :: ⟨40, fBg⟩ :: []
theorem LSg_ok {f : NF} (hf : NFok f) : AllCT (LSg f) := ⟨hf.c28, hf.c33, hf.c32, ctV spec19w, ct39q, fun _ _ _ h ho => fn1_ok spec34o h ho, ct35n, ct36n, ct37n, ct38u hf, fun _ _ _ h ho => fn1_ok spec72 h ho, ct59b, trivial⟩
def SSg : FuncId → Nat → Bool := fun f t => match f with | 11 => memN t [22, 26, 35, 68, 72, 78] | 14 => memN t [28, 49, 53, 59] | _ => false
noncomputable def ESg (f : NF) : Env := mkE (LSg f) SSg
theorem envESg {f : NF} (hf : NFok f) : EnvOK (ESg f) := envMk (LSg_ok hf) _
noncomputable def sgK (f : NF) (x : Nat) (m : ByteArray) : Nat := f.N x (f.S m)
noncomputable def sgR (f : NF) (x : Nat) (m : ByteArray) : Nat := od (gBas (sgK f x m)).x
noncomputable def sgQ (f : NF) (x : Nat) (m : ByteArray) : Nat := addM (modN 3) (od (beS (f.S m))) (mulM (modN 3) (sgR f x m) x)
noncomputable def sgS (f : NF) (x : Nat) (m : ByteArray) : Nat := mulM (modN 3) (sgQ f x m) (ivN (sgK f x m))
noncomputable def oS1 (f : NF) (s m : ByteArray) : List Prop := [s.size ≤ 1000000, (!f.Y s) = false, decide ((4096 : Int) < (m.size : Int)) = false, m.size ≤ 100000000000000, (f.S m).size = 32, gd (f.K s) = true, f.K s < 4294967296 ^ 8]
noncomputable def oS2 (f : NF) (x : Nat) (m : ByteArray) : List Prop := [(!decide (f.E x (f.S m) = 0)) = false, sgK f x m < 4294967296 ^ 8, wXN < 4294967296 ^ 8, wYN < 4294967296 ^ 8, onS wXN wYN false = true, (gBas (sgK f x m)).x < 4294967296 ^ 8,
  (3 : Int) = 3, sgK f x m < modN 3, isZ (sgK f x m) = false, sgK f x m < 4294967296 ^ 8,
  (3 : Int) = 3, sgR f x m < modN 3, x < modN 3, sgR f x m < 4294967296 ^ 8, x < 4294967296 ^ 8, m.size ≤ 100000000000000,
  (3 : Int) = 3, od (beS (f.S m)) < modN 3, mulM (modN 3) (sgR f x m) x < modN 3, od (beS (f.S m)) < 4294967296 ^ 8, mulM (modN 3) (sgR f x m) x < 4294967296 ^ 8,
  (3 : Int) = 3, sgQ f x m < modN 3, ivN (sgK f x m) < modN 3, sgQ f x m < 4294967296 ^ 8, ivN (sgK f x m) < 4294967296 ^ 8, sgR f x m < 4294967296 ^ 8]
noncomputable def sgO (f : NF) (x : Nat) (m : ByteArray) : ByteArray := bgS (sgR f x m) ++ bgS (sgS f x m)
theorem r11a (f : NF) (s m : ByteArray) : callR (ESg f) 1000 11 [sS s, sS m] [true] = some ([s.size ≤ 1000000, (!f.Y s) = true], .tup [sS ⟨#[]⟩, .one (.i 1)]) := by kernel_rfl
theorem r11b (f : NF) (s m : ByteArray) : callR (ESg f) 1000 11 [sS s, sS m] [false, true] = some ([s.size ≤ 1000000, (!f.Y s) = false, decide ((4096 : Int) < (m.size : Int)) = true], .tup [sS ⟨#[]⟩, .one (.i 2)]) := by kernel_rfl
theorem r11c (f : NF) (s m : ByteArray) : callR (ESg f) 1000 11 [sS s, sS m] [false, false, true] = some (oS1 f s m ++ [(!decide (f.E (f.K s) (f.S m) = 0)) = true], .tup [sS ⟨#[]⟩, .one (.i (f.E (f.K s) (f.S m)))]) := by kernel_rfl
theorem r11d (f : NF) (s m : ByteArray) : callR (ESg f) 1000 11 [sS s, sS m] [false, false, false, true] = some (oS1 f s m ++ oS2 f (f.K s) m ++ [(!gd (sgR f (f.K s) m)) = true], .tup [sS ⟨#[]⟩, .one (.i 3)]) := by kernel_rfl
theorem r11e (f : NF) (s m : ByteArray) : callR (ESg f) 1000 11 [sS s, sS m] [false, false, false, false, true] = some (oS1 f s m ++ oS2 f (f.K s) m ++ [(!gd (sgR f (f.K s) m)) = false, sgS f (f.K s) m < 4294967296 ^ 8, (!gd (sgS f (f.K s) m)) = true], .tup [sS ⟨#[]⟩, .one (.i 3)]) := by kernel_rfl
theorem r11f (f : NF) (s m : ByteArray) : callR (ESg f) 1000 11 [sS s, sS m] [false, false, false, false, false] = some (oS1 f s m ++ oS2 f (f.K s) m ++ [(!gd (sgR f (f.K s) m)) = false, sgS f (f.K s) m < 4294967296 ^ 8, (!gd (sgS f (f.K s) m)) = false, sgR f (f.K s) m < 4294967296 ^ 8, sgS f (f.K s) m < 4294967296 ^ 8, (bgS (sgR f (f.K s) m)).size + (bgS (sgS f (f.K s) m)).size ≤ 9223372036854775807], .tup [sS (sgO f (f.K s) m), .one (.i 0)]) := by kernel_rfl
end Go.Ev.H5

namespace Go.Ev.H5
open Go Go.Proofs Go.RowKit
set_option maxRecDepth 100000
def em : ByteArray := ⟨#[]⟩
noncomputable def tgB (f : NF) (s m : ByteArray) : Bool := f.B (f.K s) (f.S m) && (gd (sgR f (f.K s) m) && gd (sgS f (f.K s) m))
noncomputable def tgE (f : NF) (s m : ByteArray) : Int := bif tgB f s m then 0 else 3
noncomputable def tgZ (f : NF) (s m : ByteArray) : ByteArray := bif tgB f s m then sgO f (f.K s) m else em
noncomputable def sgE (f : NF) (s m : ByteArray) : Int := bif f.Y s then (bif decide (m.size ≤ 4096) then tgE f s m else 2) else 1
noncomputable def sgZ (f : NF) (s m : ByteArray) : ByteArray := bif f.Y s then (bif decide (m.size ≤ 4096) then tgZ f s m else em) else em
theorem gd_parts {a : Nat} (h : gd a = true) : isZ a = false ∧ a < modN 3 := by
  unfold gd at h
  rw [Bool.and_eq_true, Bool.not_eq_true', decide_eq_true_iff] at h
  exact h
theorem gd_small {a : Nat} (h : a < modN 3) : gd a = !isZ a := by unfold gd; rw [decide_eq_true h, Bool.and_true]
theorem sgR_lt (f : NF) (x : Nat) (m : ByteArray) : sgR f x m < modN 3 := od_lt _
theorem sgQ_lt (f : NF) (x : Nat) (m : ByteArray) : sgQ f x m < modN 3 := addM_lt (modN_pos 3)
theorem sgS_lt (f : NF) (x : Nat) (m : ByteArray) : sgS f x m < modN 3 := mulM_lt (modN_pos 3)
theorem nt_f {b : Bool} (h : b = true) : (!b) = false := by rw [h]; rfl
theorem nt_t {b : Bool} (h : b = false) : (!b) = true := by rw [h]; rfl
theorem oS1_ok {s m : ByteArray} {f : NF} (hf : NFok f) (h1 : s.size ≤ 1000000) (h2 : f.Y s = true) (h3 : m.size ≤ 4096) : All (oS1 f s m) := by
  obtain ⟨g1, g2⟩ := hf.kK s h2
  exact ⟨h1, nt_f h2, decide_eq_false (by omega), by omega, hf.sS _, g1, g2, trivial⟩
theorem oS2_ok {f : NF} (hf : NFok f) {s m : ByteArray} (h2 : f.Y s = true) (h3 : m.size ≤ 4096) (hb : f.B (f.K s) (f.S m) = true) : All (oS2 f (f.K s) m) := by
  obtain ⟨g1, g2⟩ := hf.kK s h2
  obtain ⟨g3, g4⟩ := gd_parts g1
  obtain ⟨n1, n2⟩ := hf.nN _ _ hb
  obtain ⟨n3, n4⟩ := gd_parts n1
  have hE : f.E (f.K s) (f.S m) = 0 := by rw [hf.nE, hb, cond_true]
  have hm : m.size ≤ 100000000000000 := by omega
  have hr := sgR_lt f (f.K s) m
  have hq := sgQ_lt f (f.K s) m
  have ho : od (beS (f.S m)) < modN 3 := od_lt _
  have hp : mulM (modN 3) (sgR f (f.K s) m) (f.K s) < modN 3 := mulM_lt (modN_pos 3)
  have hi : ivN (sgK f (f.K s) m) < modN 3 := ivN_lt _
  exact ⟨by rw [hE]; rfl, n2, L8 wXN_lt, L8 wYN_lt, on_base, (gBas_lt _).1, rfl, n4, n3, n2, rfl, hr, g4, L8 hr, g2, hm, rfl, ho, hp, L8 ho, L8 hp, rfl, hq, hi, L8 hq, L8 hi, L8 hr, trivial⟩
theorem spec11 {f : NF} (hf : NFok f) (s m : ByteArray) (h1 : s.size ≤ 1000000) : Spec 11 [sS s, sS m] (.tup [sS (sgZ f s m), .one (.i (sgE f s m))]) := by
  have hV := envESg hf
  unfold sgZ sgE
  cases hy : f.Y s with
  | false => exact spec_run hV rfl (r11a f s m) ⟨h1, nt_t hy, trivial⟩ rfl rfl
  | true =>
    by_cases hm : m.size ≤ 4096
    · rw [decide_eq_true hm, cond_true, cond_true, cond_true, cond_true]
      unfold tgZ tgE tgB
      have o1 := oS1_ok hf h1 hy hm
      cases hb : f.B (f.K s) (f.S m) with
      | false =>
        have hE : f.E (f.K s) (f.S m) = 3 := by rw [hf.nE, hb, cond_false]
        have hr := r11c f s m
        rw [hE] at hr
        exact spec_run hV rfl hr (All_app o1 ⟨by rfl, trivial⟩) rfl rfl
      | true =>
        have o2 := oS2_ok hf hy hm hb
        have hs := L8 (sgS_lt f (f.K s) m)
        cases hr : gd (sgR f (f.K s) m) with
        | false => exact spec_run hV rfl (r11d f s m) (All_app (All_app o1 o2) ⟨nt_t hr, trivial⟩) rfl rfl
        | true =>
          cases hq : gd (sgS f (f.K s) m) with
          | false => exact spec_run hV rfl (r11e f s m) (All_app (All_app o1 o2) ⟨nt_f hr, hs, nt_t hq, trivial⟩) rfl rfl
          | true =>
            have z1 : (bgS (sgR f (f.K s) m)).size = 32 := Go.Ev.bgS_size _
            have z2 : (bgS (sgS f (f.K s) m)).size = 32 := Go.Ev.bgS_size _
            exact spec_run hV rfl (r11f f s m) (All_app (All_app o1 o2) ⟨nt_f hr, hs, nt_f hq, L8 (sgR_lt _ _ _), hs, by omega, trivial⟩) rfl rfl
    · rw [decide_eq_false hm, cond_true, cond_true, cond_false, cond_false]
      exact spec_run hV rfl (r11b f s m) ⟨h1, nt_f hy, decide_eq_true (by omega), trivial⟩ rfl rfl
end Go.Ev.H5

namespace Go.Ev.H5
open Go Go.Proofs Go.RowKit
set_option maxRecDepth 100000
noncomputable def LPs (f : NF) : List CT := ⟨12, fnKe f⟩ :: ⟨46, fnSv f⟩ :: ⟨47, fnNo f⟩ :: ⟨48, fnK fun k => .val (rgK k)⟩ :: ⟨45, cV (.val (P3 wXN wYN false))⟩ :: ⟨44, fnS [aN, aSp] gMulQ⟩ :: ⟨49, fn1 fun a => .val (N8 (od a))⟩ :: ⟨52, fnHs⟩ :: ⟨50, fnG mulM⟩ :: ⟨51, fnG addM⟩ :: ⟨53, fnIv false⟩ :: ⟨8, fBg⟩ :: []
theorem LPs_ok {f : NF} (hf : NFok f) : AllCT (LPs f) := ⟨hf.c12, hf.c46, hf.c47, fun _ _ _ h ho => fnK_ok spec41 h ho, ctV spec28w, ct15q, fun _ _ _ h ho => fn1_ok spec49o h ho, ct52h, fun _ _ _ h ho => fnG_ok spec44 h ho, fun _ _ _ h ho => fnG_ok spec42 h ho, ct53n, ct60b, trivial⟩
noncomputable def EPs (f : NF) : Env := mkE (LPs f) SSg
theorem envEPs {f : NF} (hf : NFok f) : EnvOK (EPs f) := envMk (LPs_ok hf) _
def rg3 : Prop := okR (modN 3) (facR (limb (modN 3) 0)) (r2N (modN 3))
noncomputable def oP1 (f : NF) (s m : ByteArray) : List Prop := [s.size ≤ 1000000, m.size ≤ 100000000000000, (f.S m).size = 32, f.K s < 4294967296 ^ 8]
noncomputable def oP2 (f : NF) (x : Nat) (m : ByteArray) : List Prop := [(!f.B x (f.S m)) = false, (0 : Int) ≤ 3 ∧ (3 : Int) < 4, sgK f x m < 4294967296 ^ 8, wXN < 4294967296 ^ 8, wYN < 4294967296 ^ 8, onS wXN wYN false = true, (gBas (sgK f x m)).x < 4294967296 ^ 8,
  (f.S m).size = 32, rg3, sgR f x m < modN 3, x < modN 3, sgR f x m < 4294967296 ^ 8, x < 4294967296 ^ 8,
  rg3, od (beS (f.S m)) < modN 3, mulM (modN 3) (sgR f x m) x < modN 3, od (beS (f.S m)) < 4294967296 ^ 8, mulM (modN 3) (sgR f x m) x < 4294967296 ^ 8,
  (3 : Int) = 3, sgK f x m < modN 3, isZ (sgK f x m) = false, sgK f x m < 4294967296 ^ 8,
  rg3, sgQ f x m < modN 3, ivN (sgK f x m) < modN 3, sgQ f x m < 4294967296 ^ 8, ivN (sgK f x m) < 4294967296 ^ 8]
theorem r14c (f : NF) (s m : ByteArray) : callR (EPs f) 1000 14 [sS s, sS m] [true] = some (oP1 f s m ++ [(!f.B (f.K s) (f.S m)) = true], .tup [sS ⟨#[]⟩, .one (.i 3)]) := by kernel_rfl
theorem r14d (f : NF) (s m : ByteArray) : callR (EPs f) 1000 14 [sS s, sS m] [false, true] = some (oP1 f s m ++ oP2 f (f.K s) m ++ [isZ (sgR f (f.K s) m) = true], .tup [sS ⟨#[]⟩, .one (.i 3)]) := by kernel_rfl
theorem r14e (f : NF) (s m : ByteArray) : callR (EPs f) 1000 14 [sS s, sS m] [false, false, true] = some (oP1 f s m ++ oP2 f (f.K s) m ++ [isZ (sgR f (f.K s) m) = false, isZ (sgS f (f.K s) m) = true], .tup [sS ⟨#[]⟩, .one (.i 3)]) := by kernel_rfl
theorem r14f (f : NF) (s m : ByteArray) : callR (EPs f) 1000 14 [sS s, sS m] [false, false, false] = some (oP1 f s m ++ oP2 f (f.K s) m ++ [isZ (sgR f (f.K s) m) = false, isZ (sgS f (f.K s) m) = false, sgR f (f.K s) m < 4294967296 ^ 8, sgS f (f.K s) m < 4294967296 ^ 8, (bgS (sgR f (f.K s) m)).size + (bgS (sgS f (f.K s) m)).size ≤ 9223372036854775807], .tup [sS (sgO f (f.K s) m), .one (.i 0)]) := by kernel_rfl
theorem oP2_ok {f : NF} (hf : NFok f) {s m : ByteArray} (h2 : f.Y s = true) (hb : f.B (f.K s) (f.S m) = true) : All (oP2 f (f.K s) m) := by
  obtain ⟨g1, g2⟩ := hf.kK s h2
  obtain ⟨g3, g4⟩ := gd_parts g1
  obtain ⟨n1, n2⟩ := hf.nN _ _ hb
  obtain ⟨n3, n4⟩ := gd_parts n1
  have hr := sgR_lt f (f.K s) m
  have hq := sgQ_lt f (f.K s) m
  have ho : od (beS (f.S m)) < modN 3 := od_lt _
  have hp : mulM (modN 3) (sgR f (f.K s) m) (f.K s) < modN 3 := mulM_lt (modN_pos 3)
  have hi : ivN (sgK f (f.K s) m) < modN 3 := ivN_lt _
  have k3 : rg3 := okR_K (by decide)
  exact ⟨nt_f hb, by omega, n2, L8 wXN_lt, L8 wYN_lt, on_base, (gBas_lt _).1, hf.sS _, k3, hr, g4, L8 hr, g2, k3, ho, hp, L8 ho, L8 hp, rfl, n4, n3, n2, k3, hq, hi, L8 hq, L8 hi, trivial⟩
theorem nz {b : Bool} (h : (!b) = true) : b = false := by cases b with | true => cases h | false => rfl
theorem nz' {b : Bool} (h : (!b) = false) : b = true := by cases b with | false => cases h | true => rfl
theorem spec14 {f : NF} (hf : NFok f) (s m : ByteArray) (h1 : s.size ≤ 1000000) (hy : f.Y s = true) (hm : m.size ≤ 4096) : Spec 14 [sS s, sS m] (.tup [sS (tgZ f s m), .one (.i (tgE f s m))]) := by
  have hV := envEPs hf
  unfold tgZ tgE tgB
  have o1 : All (oP1 f s m) := ⟨h1, by omega, hf.sS _, (hf.kK s hy).2, trivial⟩
  cases hb : f.B (f.K s) (f.S m) with
  | false => exact spec_run hV rfl (r14c f s m) (All_app o1 ⟨nt_t hb, trivial⟩) rfl rfl
  | true =>
    have o2 := oP2_ok hf hy hb
    have hs := L8 (sgS_lt f (f.K s) m)
    cases hr : gd (sgR f (f.K s) m) with
    | false =>
      have hr' := hr
      rw [gd_small (sgR_lt f (f.K s) m)] at hr'
      exact spec_run hV rfl (r14d f s m) (All_app (All_app o1 o2) ⟨nz' hr', trivial⟩) rfl rfl
    | true =>
      have hr' := hr
      rw [gd_small (sgR_lt f (f.K s) m)] at hr'
      cases hq : gd (sgS f (f.K s) m) with
      | false =>
        have hq' := hq
        rw [gd_small (sgS_lt f (f.K s) m)] at hq'
        exact spec_run hV rfl (r14e f s m) (All_app (All_app o1 o2) ⟨nz hr', nz' hq', trivial⟩) rfl rfl
      | true =>
        have hq' := hq
        rw [gd_small (sgS_lt f (f.K s) m)] at hq'
        have z1 : (bgS (sgR f (f.K s) m)).size = 32 := Go.Ev.bgS_size _
        have z2 : (bgS (sgS f (f.K s) m)).size = 32 := Go.Ev.bgS_size _
        exact spec_run hV rfl (r14f f s m) (All_app (All_app o1 o2) ⟨nz hr', nz hq', L8 (sgR_lt _ _ _), hs, by omega, trivial⟩) rfl rfl
theorem r9m : callR E0 1000 9 [zV 3] [] = some ([], .val (C8 (limb (modN 3)))) := by kernel_rfl
theorem spec9m : Spec 9 [zV 3] (.val (N8 (modN 3))) := (spec_run envE0 rfl r9m trivial rfl rfl).congr (fun _ => rfl) (fun φ => by kernel_rfl)
end Go.Ev.H5

