/- The spots of P-256 are a group, and which three coordinates stand for which -/
import Derived.Test.YtciiekkkldbgfaaRootB
import Derived.Test.YtciiekkkldbgfaaPoly
namespace Go.Ev
open Go Go.Proofs Go.RowKit

/-! the Weierstrass curve's number -/
def wB : Nat := 41058363725152142129326129780047268409114441015993725554835256314039467401291
abbrev C1 (a b : Int) : Prop := Cz (modN 1) a b
theorem pr1 : Go.NT.Pr (modN 1) := prK (by decide)
theorem one_ne1 : ¬ C1 1 0 := by
  intro h
  have := Cz.nat (m := modN 1) (x := 1) (y := 0) (modN_one 1) (modN_pos 1) h
  exact absurd this (by decide)
theorem two_ne1 : ¬ C1 2 0 := by
  intro h
  have := Cz.nat (m := modN 1) (x := 2) (y := 0) (modN_two 1) (modN_pos 1) h
  exact absurd this (by decide)
theorem mul_ne1 {a b : Int} (ha : ¬ C1 a 0) (hb : ¬ C1 b 0) : ¬ C1 (a * b) 0 := fun h => by
  rcases cz_euclid pr1 h with h | h
  · exact ha h
  · exact hb h

/-! the cubic has no root: polynomials modulo it -/
structure Tri3 where
  a : Nat
  b : Nat
  c : Nat
def Tri3.ev (p : Tri3) (r : Int) : Int := (p.a : Int) + p.b * r + p.c * (r * r)
/-- m - b, so that nothing is below 0. -/
def Tri3.mul (m k : Nat) (p q : Tri3) : Tri3 :=
  ⟨(p.a * q.a + k * (p.b * q.c + p.c * q.b)) % m, (p.a * q.b + p.b * q.a + 3 * (p.b * q.c + p.c * q.b) + k * (p.c * q.c)) % m, (p.a * q.c + p.b * q.b + p.c * q.a + 3 * (p.c * q.c)) % m⟩
theorem Tri3.ev_mul {m k B : Nat} (hk : Cz m k (-(B : Int))) {r : Int} (hr : Cz m (r * r * r) (3 * r - B)) (p q : Tri3) : Cz m ((Tri3.mul m k p q).ev r) (p.ev r * q.ev r) := by
  have h1 := cz_mod (m := m) (p.a * q.a + k * (p.b * q.c + p.c * q.b))
  have h2 := cz_mod (m := m) (p.a * q.b + p.b * q.a + 3 * (p.b * q.c + p.c * q.b) + k * (p.c * q.c))
  have h3 := cz_mod (m := m) (p.a * q.c + p.b * q.b + p.c * q.a + 3 * (p.c * q.c))
  unfold Tri3.ev Tri3.mul
  simp only
  generalize (p.a * q.a + k * (p.b * q.c + p.c * q.b)) % m = A at *
  generalize (p.a * q.b + p.b * q.a + 3 * (p.b * q.c + p.c * q.b) + k * (p.c * q.c)) % m = B1 at *
  generalize (p.a * q.c + p.b * q.b + p.c * q.a + 3 * (p.c * q.c)) % m = C at *
  simp only [Int.natCast_add, Int.natCast_mul] at h1 h2 h3
  have e1 : Cz m ((A : Int) + B1 * r + C * (r * r)) (((p.a : Int) * q.a + k * (p.b * q.c + p.c * q.b)) + (p.a * q.b + p.b * q.a + ((3 : Nat) : Int) * (p.b * q.c + p.c * q.b) + k * (p.c * q.c)) * r + (p.a * q.c + p.b * q.b + p.c * q.a + ((3 : Nat) : Int) * (p.c * q.c)) * (r * r)) :=
    (h1.add (h2.mul (Cz.refl m r))).add (h3.mul (Cz.refl m (r * r)))
  refine e1.trans ?_
  exact hr.lc2 hk (-((p.b : Int) * q.c + p.c * q.b) - p.c * q.c * r) ((p.b : Int) * q.c + p.c * q.b + p.c * q.c * r) (by grind)
def Tri3.pow (m k : Nat) (t : Tri3) : Nat → Nat → Tri3
  | 0, _ => ⟨1, 0, 0⟩
  | f + 1, e => let s := Tri3.pow m k t f (e / 2); bif decide (e % 2 = 1) then Tri3.mul m k (Tri3.mul m k s s) t else Tri3.mul m k s s
theorem Tri3.ev_pow {m k B : Nat} (hk : Cz m k (-(B : Int))) {r : Int} (hr : Cz m (r * r * r) (3 * r - B)) (t : Tri3) : ∀ (f e : Nat), e < 2 ^ f → Cz m ((Tri3.pow m k t f e).ev r) (t.ev r ^ e)
  | 0, e, h => by
    have : e = 0 := by simpa using h
    subst this
    exact Cz.of_eq (by simp [Tri3.pow, Tri3.ev])
  | f + 1, e, h => by
    have ih := Tri3.ev_pow hk hr t f (e / 2) (by rw [Nat.pow_succ] at h; omega)
    have h2 := (Tri3.ev_mul hk hr (Tri3.pow m k t f (e / 2)) (Tri3.pow m k t f (e / 2))).trans (ih.mul ih)
    unfold Tri3.pow
    simp only
    by_cases hb : e % 2 = 1
    · rw [decide_eq_true hb, cond_true]
      refine (Tri3.ev_mul hk hr _ t).trans ((h2.mul (Cz.refl m _)).trans (Cz.of_eq ?_))
      rw [← Int.pow_add, ← Int.pow_succ]
      congr 1; omega
    · rw [decide_eq_false hb, cond_false]
      refine h2.trans (Cz.of_eq ?_)
      rw [← Int.pow_add]
      congr 1; omega
def tP : Tri3 := ⟨0, 1, 0⟩
def kW : Nat := modN 1 - wB
def gP3 : Tri3 := Tri3.pow (modN 1) kW tP 256 (modN 1)
def uP3 : Tri3 := ⟨76626890310466861426869089647039036757962535851890885406097439786770458211455, 74462945259064871768191128030512052509059297803194871526163573358218695456204, 34768139465301476436978405170953382516735956999154666452188405812258086013549⟩
def hP3 : Tri3 := ⟨gP3.a, (gP3.b + (modN 1 - 1)) % modN 1, gP3.c⟩
theorem bez : (let q := Tri3.mul (modN 1) kW uP3 hP3; decide (q.a = 1) && (decide (q.b = 0) && decide (q.c = 0))) = true := by decide +kernel
theorem cz_pow {m : Nat} {a b : Int} (h : Cz m a b) : ∀ n, Cz m (a ^ n) (b ^ n)
  | 0 => Cz.of_eq (by simp)
  | n + 1 => by rw [Int.pow_succ, Int.pow_succ]; exact (cz_pow h n).mul h
theorem fermatZ {k r : Nat} (hk : k < 4) (hr : r < modN k) : Cz (modN k) ((r : Int) ^ modN k) r := by
  rcases Nat.eq_zero_or_pos r with h0 | h0
  · subst h0
    refine Cz.of_eq ?_
    rw [show ((0 : Nat) : Int) = 0 from rfl, Int.zero_pow (by have := modN_pos k; omega)]
  · have h := Go.NT.fermatK hk h0 (by rwa [modN_P] at hr)
    rw [← modN_P] at h
    have h1 := cz_mod (m := modN k) (r ^ (modN k - 1))
    rw [h] at h1
    have h2 : Cz (modN k) ((r : Int) ^ (modN k - 1)) 1 := by
      have := h1.symm
      rwa [Int.natCast_pow] at this
    have h3 := h2.mul (Cz.refl (modN k) (r : Int))
    rw [← Int.pow_succ, show (modN k - 1).succ = modN k by have := modN_pos k; omega, Int.one_mul] at h3
    exact h3
/-- no spot has Y 0. -/
theorem no_root {t : Int} (h : C1 (t * t * t - 3 * t + wB) 0) : False := by
  have hm := modN_pos 1
  have hc := czN_cz hm t
  have hlt : czN (modN 1) t < modN 1 := by
    unfold czN
    have := Int.emod_lt_of_pos t (show (0 : Int) < (modN 1 : Int) by omega)
    have := Int.emod_nonneg t (show ((modN 1 : Nat) : Int) ≠ 0 by omega)
    omega
  generalize czN (modN 1) t = r at *
  have hk : Cz (modN 1) (kW : Int) (-(wB : Int)) := by
    have e : (kW : Int) = (modN 1 : Int) - wB := by
      have : wB < modN 1 := by decide +kernel
      unfold kW; omega
    rw [e]
    exact ⟨1, by omega⟩
  have hr : C1 ((r : Int) * r * r) (3 * r - wB) := by
    have h1 : C1 ((r : Int) * r * r) (t * t * t) := (hc.mul hc).mul hc
    have h2 : C1 (3 * (r : Int)) (3 * t) := (Cz.refl _ 3).mul hc
    exact h1.lc3 h2 h 1 (-1) 1 (by grind)
  have hp := Tri3.ev_pow hk hr tP 256 (modN 1) (by decide +kernel)
  have et : tP.ev (r : Int) = r := by unfold Tri3.ev tP; simp only; grind
  rw [et] at hp
  have hg : C1 (gP3.ev (r : Int)) r := hp.trans (fermatZ (by decide) hlt)
  have hh : C1 (hP3.ev (r : Int)) 0 := by
    have h1 := cz_mod (m := modN 1) (gP3.b + (modN 1 - 1))
    rw [Int.natCast_add, show ((modN 1 - 1 : Nat) : Int) = (modN 1 : Int) - 1 by omega] at h1
    have h2 : C1 ((hP3.b : Int)) ((gP3.b : Int) - 1) := h1.trans ⟨1, by omega⟩
    have h3 : C1 ((hP3.b : Int) * r) (((gP3.b : Int) - 1) * r) := h2.mul (Cz.refl _ _)
    have e1 : hP3.ev (r : Int) = (gP3.a : Int) + hP3.b * r + gP3.c * ((r : Int) * r) := rfl
    have e2 : gP3.ev (r : Int) = (gP3.a : Int) + gP3.b * r + gP3.c * ((r : Int) * r) := rfl
    rw [e1]
    rw [e2] at hg
    generalize (gP3.a : Int) = ga at *
    generalize (gP3.b : Int) = gb at *
    generalize (gP3.c : Int) = gc at *
    generalize (hP3.b : Int) = hb at *
    exact h3.lc2 hg 1 1 (by grind)
  have hb := Tri3.ev_mul hk hr uP3 hP3
  have hz := bez
  simp only [Bool.and_eq_true, decide_eq_true_iff] at hz
  obtain ⟨z1, z2, z3⟩ := hz
  have ev1 : (Tri3.mul (modN 1) kW uP3 hP3).ev (r : Int) = 1 := by
    unfold Tri3.ev
    rw [z1, z2, z3]
    grind
  rw [ev1] at hb
  exact one_ne1 (hb.trans (((Cz.refl _ (uP3.ev (r : Int))).mul hh).trans (Cz.of_eq (by grind))))
end Go.Ev

namespace Go.Ev
open Go Go.Proofs Go.RowKit Go.NT

def OnW (x y : Int) : Prop := C1 (y * y) (x * x * x - 3 * x + wB)
theorem y_ne {x y : Int} (h : OnW x y) : ¬ C1 y 0 := fun h0 => no_root (t := x) (h.lc2 h0 (-1) y (by grind))

/-! the law does not tell apart what is the same -/
structure Six (m : Nat) (a b c d e g a' b' c' d' e' g' : Int) : Prop where
  a : Cz m a a'
  b : Cz m b b'
  c : Cz m c c'
  d : Cz m d d'
  e : Cz m e e'
  g : Cz m g g'
section
variable {m : Nat} {k a b c d e g a' b' c' d' e' g' : Int} (h : Six m a b c d e g a' b' c' d' e' g')
include h
theorem cxx : Cz m (wxx a b c d e g) (wxx a' b' c' d' e' g') := h.a.mul h.d
theorem cyy : Cz m (wyy a b c d e g) (wyy a' b' c' d' e' g') := h.b.mul h.e
theorem czz : Cz m (wzz a b c d e g) (wzz a' b' c' d' e' g') := h.c.mul h.g
theorem cxy : Cz m (wxy a b c d e g) (wxy a' b' c' d' e' g') := (h.a.mul h.e).add (h.b.mul h.d)
theorem cyz : Cz m (wyz a b c d e g) (wyz a' b' c' d' e' g') := (h.b.mul h.g).add (h.c.mul h.e)
theorem cxz : Cz m (wxz a b c d e g) (wxz a' b' c' d' e' g') := (h.a.mul h.g).add (h.c.mul h.d)
theorem csi : Cz m (wsi k a b c d e g) (wsi k a' b' c' d' e' g') := (Cz.refl m 3).mul ((cxz h).sub ((Cz.refl m k).mul (czz h)))
theorem cle : Cz m (wle k a b c d e g) (wle k a' b' c' d' e' g') := (cyy h).sub (csi h)
theorem cri : Cz m (wri k a b c d e g) (wri k a' b' c' d' e' g') := (cyy h).add (csi h)
theorem cz3 : Cz m (wz3 a b c d e g) (wz3 a' b' c' d' e' g') := (Cz.refl m 3).mul (czz h)
theorem cmm : Cz m (wmm k a b c d e g) (wmm k a' b' c' d' e' g') := (Cz.refl m 3).mul ((((Cz.refl m k).mul (cxz h)).sub (cz3 h)).sub (cxx h))
theorem cnn : Cz m (wnn a b c d e g) (wnn a' b' c' d' e' g') := ((Cz.refl m 3).mul (cxx h)).sub (cz3 h)
theorem cwX : Cz m (wX k a b c d e g) (wX k a' b' c' d' e' g') := ((cxy h).mul (cri h)).sub ((cyz h).mul (cmm h))
theorem cwY : Cz m (wY k a b c d e g) (wY k a' b' c' d' e' g') := ((cri h).mul (cle h)).add ((cnn h).mul (cmm h))
theorem cwZ : Cz m (wZ k a b c d e g) (wZ k a' b' c' d' e' g') := ((cyz h).mul (cle h)).add ((cxy h).mul (cnn h))
end
theorem sX (k a b c d e g s t : Int) : wX k (s * a) (s * b) (s * c) (t * d) (t * e) (t * g) = s * s * (t * t) * wX k a b c d e g := by
  unfold wX wxy wri wyz wmm wyy wsi wxz wz3 wxx wzz; grind
theorem sY (k a b c d e g s t : Int) : wY k (s * a) (s * b) (s * c) (t * d) (t * e) (t * g) = s * s * (t * t) * wY k a b c d e g := by
  unfold wY wri wle wnn wmm wyy wsi wxz wz3 wxx wzz; grind
theorem sZ (k a b c d e g s t : Int) : wZ k (s * a) (s * b) (s * c) (t * d) (t * e) (t * g) = s * s * (t * t) * wZ k a b c d e g := by
  unfold wZ wyz wle wxy wnn wyy wsi wxz wz3 wxx wzz; grind

theorem root_sc {X w : Int} (hw : ¬ C1 w 0) (h : C1 (X * X * X - 3 * X * (w * w) + wB * (w * w * w)) 0) (hs : ∃ v, w = v * v) : False := by
  have hm := modN_pos 1
  have hc := czN_cz hm w
  have hlt : czN (modN 1) w < modN 1 := by
    unfold czN
    have := Int.emod_lt_of_pos w (show (0 : Int) < (modN 1 : Int) by omega)
    have := Int.emod_nonneg w (show ((modN 1 : Nat) : Int) ≠ 0 by omega)
    omega
  have hi := inv_cz (k := 1) (by decide) hlt (fun h0 => hw (hc.symm.trans h0))
  generalize (invP 1 (czN (modN 1) w) : Int) = i at *
  have hwi : C1 (w * i) 1 := (hc.symm.mul (Cz.refl _ i)).trans hi
  have h2 : C1 (w * i * (w * i)) 1 := (hwi.mul hwi).trans (Cz.of_eq (by omega))
  have h3 : C1 (w * i * (w * i) * (w * i)) 1 := (h2.mul hwi).trans (Cz.of_eq (by omega))
  exact no_root (t := X * i) (h.lc3 h2 h3 (i * i * i) (3 * X * i) (-(wB : Int)) (by grind))
/-- a sum of two that are not at infinity is never nothing at all; whether it is at infinity its Z tells. -/
theorem sum_nz {x1 y1 x2 y2 : Int} (h1 : OnW x1 y1) (h2 : OnW x2 y2) : ¬ C1 (wZ wB x1 y1 1 x2 y2 1) 0 ∨ (C1 (wX wB x1 y1 1 x2 y2 1) 0 ∧ ¬ C1 (wY wB x1 y1 1 x2 y2 1) 0 ∧ C1 (wZ wB x1 y1 1 x2 y2 1) 0) := by
  by_cases hx : C1 (x1 - x2) 0
  · have hy : C1 ((y1 - y2) * (y1 + y2)) 0 := by
      unfold OnW at h1 h2
      exact h1.lc3 h2 hx 1 (-1) (x1 * x1 + x1 * x2 + x2 * x2 - 3) (by grind)
    rcases cz_euclid pr1 hy with hy | hy
    · left
      have h6 : Six (modN 1) x1 y1 1 x2 y2 1 x1 y1 1 x1 y1 1 := ⟨Cz.refl _ _, Cz.refl _ _, Cz.refl _ _, hx.lc1 (-1) (by omega), hy.lc1 (-1) (by omega), Cz.refl _ _⟩
      intro h0
      have h8 : C1 (wZ wB x1 y1 1 x1 y1 1 - 8 * (y1 * y1 * y1)) 0 := idD (x2 := x1) (y2 := y1) h1 h1
      have h9 := (cwZ (k := wB) h6).symm.trans h0
      have hy1 := y_ne h1
      have h10 := mul_ne1 (mul_ne1 two_ne1 (mul_ne1 two_ne1 two_ne1)) (mul_ne1 (mul_ne1 hy1 hy1) hy1)
      exact h10 (h8.lc2 h9 (-1) 1 (by grind))
    · right
      have h6 : Six (modN 1) x1 y1 1 x2 y2 1 x1 y1 1 x1 (0 - y1) 1 := ⟨Cz.refl _ _, Cz.refl _ _, Cz.refl _ _, hx.lc1 (-1) (by omega), hy.lc1 1 (by omega), Cz.refl _ _⟩
      have eX : wX wB x1 y1 1 x1 (0 - y1) 1 = 0 := by unfold wX wxy wri wyz wmm wyy wsi wxz wz3 wxx wzz; grind
      have eZ : wZ wB x1 y1 1 x1 (0 - y1) 1 = 0 := by unfold wZ wyz wle wxy wnn wyy wsi wxz wz3 wxx wzz; grind
      refine ⟨(cwX h6).trans (Cz.of_eq eX), ?_, (cwZ h6).trans (Cz.of_eq eZ)⟩
      intro h0
      have h8 := idO (m := modN 1) (x2 := x1) (y2 := y1) h1 h1
      have h9 := idM (m := modN 1) (x2 := x1) (y2 := y1) h1 h1
      have h10 := (cwY (k := wB) h6).symm.trans h0
      generalize wY wB x1 y1 1 x1 (0 - y1) 1 = V at *
      have hw := mul_ne1 (mul_ne1 two_ne1 (y_ne h1)) (mul_ne1 two_ne1 (y_ne h1))
      generalize ((3 * (x1 * x1) - 3) * (x1 * (2 * y1 * (2 * y1)) - ((3 * (x1 * x1) - 3) * (3 * (x1 * x1) - 3) - 2 * x1 * (2 * y1 * (2 * y1)))) - y1 * (2 * y1 * (2 * y1) * (2 * y1))) = N at *
      have hN : C1 N 0 := Cz.lc2 (m := modN 1) h8 h10 (-1) 1 (by grind)
      refine root_sc (X := (3 * (x1 * x1) - 3) * (3 * (x1 * x1) - 3) - 2 * x1 * (2 * y1 * (2 * y1))) hw ?_ ⟨_, rfl⟩
      exact Cz.lc2 (m := modN 1) h9 hN (-1) N (by grind)
  · left
    intro h0
    have h8 := idZ (m := modN 1) h1 h2
    have h9 := idN (m := modN 1) h1 h2
    have hw := mul_ne1 hx hx
    generalize wZ wB x1 y1 1 x2 y2 1 = V at *
    generalize ((y1 + y2) * (x1 * ((x1 - x2) * (x1 - x2)) - ((y1 + y2) * (y1 + y2) - (x1 + x2) * ((x1 - x2) * (x1 - x2)))) - y1 * ((x1 - x2) * (x1 - x2) * (x1 - x2))) = N at *
    have hN : C1 N 0 := Cz.lc2 (m := modN 1) h8 h0 1 (-1) (by grind)
    refine root_sc (X := (y1 + y2) * (y1 + y2) - (x1 + x2) * ((x1 - x2) * (x1 - x2))) hw ?_ ⟨_, rfl⟩
    exact Cz.lc2 (m := modN 1) h9 hN (-1) N (by grind)
end Go.Ev

namespace Go.Ev
open Go Go.Proofs Go.RowKit Go.NT

abbrev PtI := Option (Int × Int)
def OnO : PtI → Prop
  | none => True
  | some p => OnW p.1 p.2
def EqO : PtI → PtI → Prop
  | none, none => True
  | some p, some q => C1 p.1 q.1 ∧ C1 p.2 q.2
  | _, _ => False
def RepW (X Y Z : Int) : PtI → Prop
  | none => C1 X 0 ∧ ¬ C1 Y 0 ∧ C1 Z 0
  | some p => ¬ C1 Z 0 ∧ C1 X (p.1 * Z) ∧ C1 Y (p.2 * Z)
theorem EqO.symm {p q : PtI} (h : EqO p q) : EqO q p := by
  cases p <;> cases q <;> first | trivial | exact h.elim | exact ⟨h.1.symm, h.2.symm⟩
theorem EqO.trans {p q r : PtI} (h : EqO p q) (h' : EqO q r) : EqO p r := by
  cases p <;> cases q <;> cases r <;> first | trivial | exact h.elim | exact h'.elim | exact ⟨h.1.trans h'.1, h.2.trans h'.2⟩
theorem EqO.refl (p : PtI) : EqO p p := by
  cases p <;> first | trivial | exact ⟨Cz.refl _ _, Cz.refl _ _⟩
theorem rep_uniq {X Y Z X' Y' Z' : Int} {p q : PtI} (h : RepW X Y Z p) (h' : RepW X' Y' Z' q) (hx : C1 (X * Z') (Z * X')) (hy : C1 (Y * Z') (Z * Y')) : EqO p q := by
  cases p with
  | none =>
    obtain ⟨_, h2, h3⟩ := h
    cases q with
    | none => trivial
    | some q =>
      obtain ⟨g1, _, _⟩ := h'
      exact absurd (hy.lc2 h3 1 Y' (by grind)) (mul_ne1 h2 g1)
  | some p =>
    obtain ⟨h1, h2, h3⟩ := h
    cases q with
    | none =>
      obtain ⟨_, g2, g3⟩ := h'
      exact absurd (hy.lc2 g3 (-1) Y (by grind)) (mul_ne1 h1 g2)
    | some q =>
      obtain ⟨g1, g2, g3⟩ := h'
      have hz := mul_ne1 h1 g1
      exact ⟨cz_cancel pr1 (a := Z * Z') (hx.lc3 h2 g2 1 (-Z') Z (by grind)) hz, cz_cancel pr1 (a := Z * Z') (hy.lc3 h3 g3 1 (-Z') Z (by grind)) hz⟩
def cX : PtI → Int
  | none => 0
  | some p => p.1
def cY : PtI → Int
  | none => 1
  | some p => p.2
def cZ : PtI → Int
  | none => 0
  | some _ => 1
theorem rep_canon (p : PtI) : RepW (cX p) (cY p) (cZ p) p := by
  cases p with
  | none => exact ⟨Cz.refl _ _, one_ne1, Cz.refl _ _⟩
  | some p => exact ⟨one_ne1, Cz.of_eq (by show p.1 = p.1 * 1; omega), Cz.of_eq (by show p.2 = p.2 * 1; omega)⟩
theorem canon_eq {p q : PtI} (h : EqO p q) : C1 (cX p) (cX q) ∧ C1 (cY p) (cY q) ∧ C1 (cZ p) (cZ q) := by
  cases p <;> cases q <;> first | exact h.elim | exact ⟨Cz.refl _ _, Cz.refl _ _, Cz.refl _ _⟩ | exact ⟨h.1, h.2, Cz.refl _ _⟩
theorem cY_ne {p : PtI} (h : OnO p) : ¬ C1 (cY p) 0 := by
  cases p with
  | none => exact one_ne1
  | some p => exact y_ne h
theorem rep_scale {X Y Z : Int} {p : PtI} (h : RepW X Y Z p) : ∃ s, ¬ C1 s 0 ∧ C1 X (s * cX p) ∧ C1 Y (s * cY p) ∧ C1 Z (s * cZ p) := by
  cases p with
  | none =>
    obtain ⟨h1, h2, h3⟩ := h
    exact ⟨Y, h2, h1.trans (Cz.of_eq (by show 0 = Y * 0; omega)), Cz.of_eq (by show Y = Y * 1; omega), h3.trans (Cz.of_eq (by show 0 = Y * 0; omega))⟩
  | some p =>
    obtain ⟨h1, h2, h3⟩ := h
    exact ⟨Z, h1, h2.trans (Cz.of_eq (Int.mul_comm _ _)), h3.trans (Cz.of_eq (Int.mul_comm _ _)), Cz.of_eq (by show Z = Z * 1; omega)⟩
theorem rep_mul {X Y Z X' Y' Z' s : Int} {r : PtI} (hs : ¬ C1 s 0) (h : RepW X Y Z r) (hx : C1 X' (s * X)) (hy : C1 Y' (s * Y)) (hz : C1 Z' (s * Z)) : RepW X' Y' Z' r := by
  cases r with
  | none =>
    obtain ⟨h1, h2, h3⟩ := h
    exact ⟨hx.lc2 h1 1 s (by grind), fun h0 => mul_ne1 hs h2 (hy.symm.trans h0), hz.lc2 h3 1 s (by grind)⟩
  | some p =>
    obtain ⟨h1, h2, h3⟩ := h
    exact ⟨fun h0 => mul_ne1 hs h1 (hz.symm.trans h0), hx.lc3 h2 hz 1 s (-p.1) (by grind), hy.lc3 h3 hz 1 s (-p.2) (by grind)⟩
def tX (p q : PtI) : Int := wX wB (cX p) (cY p) (cZ p) (cX q) (cY q) (cZ q)
def tY (p q : PtI) : Int := wY wB (cX p) (cY p) (cZ p) (cX q) (cY q) (cZ q)
def tZ (p q : PtI) : Int := wZ wB (cX p) (cY p) (cZ p) (cX q) (cY q) (cZ q)
/-- r is the sum of p and q. -/
def IsS (p q r : PtI) : Prop := RepW (tX p q) (tY p q) (tZ p q) r
/-- the law finds the sum, whatever stands for the two. -/
theorem rep_wadd {X1 Y1 Z1 X2 Y2 Z2 : Int} {p q r : PtI} (hp : RepW X1 Y1 Z1 p) (hq : RepW X2 Y2 Z2 q) (h : IsS p q r) : RepW (wX wB X1 Y1 Z1 X2 Y2 Z2) (wY wB X1 Y1 Z1 X2 Y2 Z2) (wZ wB X1 Y1 Z1 X2 Y2 Z2) r := by
  obtain ⟨s, s0, s1, s2, s3⟩ := rep_scale hp
  obtain ⟨t, t0, t1, t2, t3⟩ := rep_scale hq
  have h6 : Six (modN 1) X1 Y1 Z1 X2 Y2 Z2 _ _ _ _ _ _ := ⟨s1, s2, s3, t1, t2, t3⟩
  exact rep_mul (mul_ne1 (mul_ne1 s0 s0) (mul_ne1 t0 t0)) h ((cwX h6).trans (Cz.of_eq (sX _ _ _ _ _ _ _ _ _))) ((cwY h6).trans (Cz.of_eq (sY _ _ _ _ _ _ _ _ _))) ((cwZ h6).trans (Cz.of_eq (sZ _ _ _ _ _ _ _ _ _)))
theorem isS_uniq {p q r r' : PtI} (h : IsS p q r) (h' : IsS p q r') : EqO r r' := rep_uniq h h' (Cz.of_eq (Int.mul_comm _ _)) (Cz.of_eq (Int.mul_comm _ _))
theorem isS_comm {p q r : PtI} (h : IsS p q r) : IsS q p r := by
  have e1 : tX q p = tX p q := by unfold tX wX wxy wri wyz wmm wyy wsi wxz wz3 wxx wzz; grind
  have e2 : tY q p = tY p q := by unfold tY wY wri wle wnn wmm wyy wsi wxz wz3 wxx wzz; grind
  have e3 : tZ q p = tZ p q := by unfold tZ wZ wyz wle wxy wnn wyy wsi wxz wz3 wxx wzz; grind
  unfold IsS at *
  rw [e1, e2, e3]; exact h
theorem isS_cong {p q p' q' r : PtI} (h : IsS p q r) (hp : EqO p p') (hq : EqO q q') : IsS p' q' r := by
  obtain ⟨a1, a2, a3⟩ := canon_eq hp
  obtain ⟨b1, b2, b3⟩ := canon_eq hq
  have h6 : Six (modN 1) (cX p') (cY p') (cZ p') (cX q') (cY q') (cZ q') (cX p) (cY p) (cZ p) (cX q) (cY q) (cZ q) := ⟨a1.symm, a2.symm, a3.symm, b1.symm, b2.symm, b3.symm⟩
  exact rep_mul one_ne1 h ((cwX h6).trans (Cz.of_eq (by show tX p q = 1 * tX p q; omega))) ((cwY h6).trans (Cz.of_eq (by show tY p q = 1 * tY p q; omega))) ((cwZ h6).trans (Cz.of_eq (by show tZ p q = 1 * tZ p q; omega)))
theorem isS_none {q : PtI} (hq : OnO q) : IsS none q q := by
  refine rep_mul (cY_ne hq) (rep_canon q) (Cz.of_eq ?_) (Cz.of_eq ?_) (Cz.of_eq ?_)
  · unfold tX wX wxy wri wyz wmm wyy wsi wxz wz3 wxx wzz; simp only [show cX none = 0 from rfl, show cY none = 1 from rfl, show cZ none = 0 from rfl]; grind
  · unfold tY wY wri wle wnn wmm wyy wsi wxz wz3 wxx wzz; simp only [show cX none = 0 from rfl, show cY none = 1 from rfl, show cZ none = 0 from rfl]; grind
  · unfold tZ wZ wyz wle wxy wnn wyy wsi wxz wz3 wxx wzz; simp only [show cX none = 0 from rfl, show cY none = 1 from rfl, show cZ none = 0 from rfl]; grind
theorem isS_ex {p q : PtI} (hp : OnO p) (hq : OnO q) : ∃ r, IsS p q r ∧ OnO r := by
  cases p with
  | none => exact ⟨q, isS_none hq, hq⟩
  | some p =>
    cases q with
    | none => exact ⟨some p, isS_comm (isS_none (q := some p) hp), hp⟩
    | some q =>
      rcases sum_nz hp hq with h | h
      · have hc := idC (m := modN 1) (x1 := p.1) (y1 := p.2) (x2 := q.1) (y2 := q.2) (b := wB) hp hq
        have hm := modN_pos 1
        have hk := czN_cz hm (tZ (some p) (some q))
        have hlt : czN (modN 1) (tZ (some p) (some q)) < modN 1 := by
          unfold czN
          have := Int.emod_lt_of_pos (tZ (some p) (some q)) (show (0 : Int) < (modN 1 : Int) by omega)
          have := Int.emod_nonneg (tZ (some p) (some q)) (show ((modN 1 : Nat) : Int) ≠ 0 by omega)
          omega
        have hi := inv_cz (k := 1) (by decide) hlt (fun h0 => h (hk.symm.trans h0))
        generalize (invP 1 (czN (modN 1) (tZ (some p) (some q))) : Int) = i at *
        have hzi : C1 (tZ (some p) (some q) * i) 1 := (hk.symm.mul (Cz.refl _ i)).trans hi
        change Cg' (modN 1) (tY (some p) (some q) * tY (some p) (some q) * tZ (some p) (some q) - (tX (some p) (some q) * tX (some p) (some q) * tX (some p) (some q) - 3 * tX (some p) (some q) * (tZ (some p) (some q) * tZ (some p) (some q)) + wB * (tZ (some p) (some q) * tZ (some p) (some q) * tZ (some p) (some q)))) 0 at hc
        change ¬ C1 (tZ (some p) (some q)) 0 at h
        refine ⟨some (tX (some p) (some q) * i, tY (some p) (some q) * i), ⟨h, ?_, ?_⟩, ?_⟩
        · exact hzi.lc1 (-(tX (some p) (some q))) (by show tX (some p) (some q) - tX (some p) (some q) * i * tZ (some p) (some q) = _; grind)
        · exact hzi.lc1 (-(tY (some p) (some q))) (by show tY (some p) (some q) - tY (some p) (some q) * i * tZ (some p) (some q) = _; grind)
        · show OnW (tX (some p) (some q) * i) (tY (some p) (some q) * i)
          unfold OnW
          generalize tX (some p) (some q) = X at *
          generalize tY (some p) (some q) = Y at *
          generalize tZ (some p) (some q) = Z at *
          have h2 : C1 (Z * i * (Z * i)) 1 := (hzi.mul hzi).trans (Cz.of_eq (by omega))
          have h3 : C1 (Z * i * (Z * i) * (Z * i)) 1 := (h2.mul hzi).trans (Cz.of_eq (by omega))
          exact Cz.lc4 (m := modN 1) hc hzi h2 h3 (i * i * i) (-(Y * Y * i * i)) (-(3 * X * i)) (wB : Int) (by grind)
      · exact ⟨none, h, trivial⟩
/-- the order in which three are put together does not matter. -/
theorem isS_assoc {p q s a b c d : PtI} (hp : OnO p) (hq : OnO q) (hs : OnO s) (h1 : IsS p q a) (h2 : IsS a s b) (h3 : IsS q s c) (h4 : IsS p c d) (oc : OnO c) (oa : OnO a) : EqO b d := by
  cases p with
  | none =>
    have e1 := isS_uniq h1 (isS_none hq)
    have e2 := isS_uniq h4 (isS_none oc)
    have h5 := isS_cong h2 e1 (EqO.refl s)
    exact (isS_uniq h5 h3).trans e2.symm
  | some p =>
    cases q with
    | none =>
      have e1 := isS_uniq (isS_comm h1) (isS_none (q := some p) hp)
      have e2 := isS_uniq h3 (isS_none hs)
      exact isS_uniq (isS_cong h2 e1 (EqO.refl s)) (isS_cong h4 (EqO.refl _) e2)
    | some q =>
      cases s with
      | none =>
        have e1 := isS_uniq (isS_comm h2) (isS_none oa)
        have e2 := isS_uniq (isS_comm h3) (isS_none (q := some q) hq)
        exact e1.trans (isS_uniq h1 (isS_cong h4 (EqO.refl _) e2))
      | some s =>
        have r1 := rep_wadd h1 (rep_canon (some s)) h2
        have r2 := rep_wadd (rep_canon (some p)) h3 h4
        have k1 := assoc_xz (m := modN 1) (x1 := p.1) (y1 := p.2) (x2 := q.1) (y2 := q.2) (x3 := s.1) (y3 := s.2) (b := wB) hp hq hs
        have k2 := assoc_yz (m := modN 1) (x1 := p.1) (y1 := p.2) (x2 := q.1) (y2 := q.2) (x3 := s.1) (y3 := s.2) (b := wB) hp hq hs
        exact rep_uniq r1 r2 (Cz.lc1 (m := modN 1) k1 1 (by
          simp only [tX, tY, tZ, cX, cY, cZ]
          omega)) (Cz.lc1 (m := modN 1) k2 1 (by
          simp only [tX, tY, tZ, cX, cY, cZ]
          omega))
theorem isS_neg {x y : Int} (h : OnW x y) : IsS (some (x, y)) (some (x, 0 - y)) none := by
  have h' : OnW x (0 - y) := by
    unfold OnW at *
    exact h.lc1 1 (by grind)
  have eZ : wZ wB x y 1 x (0 - y) 1 = 0 := by unfold wZ wyz wle wxy wnn wyy wsi wxz wz3 wxx wzz; grind
  rcases sum_nz h h' with h0 | h0
  · exact absurd (Cz.of_eq eZ) h0
  · exact h0
end Go.Ev

namespace Go.NT
def psJX : List SOp := [.c 1, .c 3, .mul 2 4, .mul 4 6, .mul 3 3, .mul 5 8, .mul 7 8, .add 1 0, .mul 9 7, .mul 8 12, .add 1 0, .mul 11 10, .mul 11 14, .add 1 0, .mul 20 9, .sub 1 0, .mul 14 0, .sub 13 0, .add 14 1, .mul 17 14, .mul 26 6, .sub 0 1, .sub 0 19, .mul 21 0, .mul 22 21, .sub 0 5, .mul 18 7, .mul 16 3, .sub 1 0, .mul 10 11, .mul 4 6, .add 1 0, .mul 21 14, .mul 25 7, .add 1 0, .sub 37 35, .sub 39 37, .mul 1 1, .mul 0 2, .mul 39 1, .mul 3 3, .sub 0 2, .c 2, .mul 0 3, .sub 2 0, .sub 5 0, .mul 9 0, .mul 48 8, .sub 1 0, .mul 20 11, .mul 5 15, .sub 1 0]
theorem zJX : zTest W2 psJX 0 = true := by decide +kernel
theorem bJX : bTest W2 psJX 0 = true := by decide +kernel
theorem idJX {m : Nat} {x1 y1 x2 y2 b : Int} (h1 : Cg' m (y1 * y1) (x1 * x1 * x1 - 3 * x1 + b)) (h2 : Cg' m (y2 * y2) (x2 * x2 * x2 - 3 * x2 + b)) :
    Cg' m ((wX b x1 y1 1 x2 y2 1) * ((x2 - x1) * (x2 - x1)) - ((y2 - y1) * (y2 - y1) - (((x2 - x1) * (x2 - x1)) * (x2 - x1)) - 2 * (x1 * ((x2 - x1) * (x2 - x1)))) * (wZ b x1 y1 1 x2 y2 1)) 0 := slp_zero (W4_pos _ _ _ _) zJX bJX h1 h2 h1
def psJY : List SOp := [.c 1, .c 3, .mul 2 4, .mul 4 6, .mul 3 3, .mul 5 8, .mul 7 8, .add 1 0, .mul 9 7, .mul 8 12, .add 1 0, .mul 11 10, .mul 11 14, .add 1 0, .mul 20 9, .sub 1 0, .mul 14 0, .sub 13 0, .add 14 1, .mul 17 14, .mul 26 6, .sub 0 1, .sub 0 19, .mul 21 0, .mul 22 21, .sub 0 5, .mul 18 7, .mul 16 3, .sub 1 0, .mul 10 11, .mul 4 6, .add 1 0, .mul 21 14, .mul 25 7, .add 1 0, .sub 37 35, .sub 39 37, .mul 1 1, .mul 0 2, .mul 39 1, .mul 3 3, .sub 0 2, .c 2, .mul 0 3, .sub 2 0, .sub 5 0, .mul 9 0, .mul 48 8, .sub 1 0, .mul 17 10, .mul 1 15, .sub 1 0]
theorem zJY : zTest W2 psJY 0 = true := by decide +kernel
theorem bJY : bTest W2 psJY 0 = true := by decide +kernel
theorem idJY {m : Nat} {x1 y1 x2 y2 b : Int} (h1 : Cg' m (y1 * y1) (x1 * x1 * x1 - 3 * x1 + b)) (h2 : Cg' m (y2 * y2) (x2 * x2 * x2 - 3 * x2 + b)) :
    Cg' m ((wY b x1 y1 1 x2 y2 1) * (((x2 - x1) * (x2 - x1)) * (x2 - x1)) - ((y2 - y1) * ((x1 * ((x2 - x1) * (x2 - x1))) - ((y2 - y1) * (y2 - y1) - (((x2 - x1) * (x2 - x1)) * (x2 - x1)) - 2 * (x1 * ((x2 - x1) * (x2 - x1))))) - y1 * (((x2 - x1) * (x2 - x1)) * (x2 - x1))) * (wZ b x1 y1 1 x2 y2 1)) 0 := slp_zero (W4_pos _ _ _ _) zJY bJY h1 h2 h1
def psTX : List SOp := [.c 1, .c 3, .mul 2 2, .mul 4 4, .mul 3 3, .mul 5 6, .mul 7 6, .add 1 0, .mul 9 7, .mul 8 10, .add 1 0, .mul 11 10, .mul 11 12, .add 1 0, .mul 20 9, .sub 1 0, .mul 14 0, .sub 13 0, .add 14 1, .mul 17 14, .mul 26 6, .sub 0 1, .sub 0 19, .mul 21 0, .mul 22 21, .sub 0 5, .mul 18 7, .mul 16 3, .sub 1 0, .mul 10 11, .mul 4 6, .add 1 0, .mul 21 14, .mul 25 7, .add 1 0, .mul 36 36, .c 4, .mul 37 1, .mul 1 0, .sub 39 38, .add 40 39, .mul 1 0, .mul 40 0, .mul 0 0, .c 2, .mul 0 6, .sub 2 0, .sub 8 0, .mul 5 0, .c 8, .mul 14 14, .mul 1 0, .sub 3 0, .mul 8 54, .mul 0 7, .sub 26 0]
theorem zTX : zTest W2 psTX 0 = true := by decide +kernel
theorem bTX : bTest W2 psTX 0 = true := by decide +kernel
theorem idTX {m : Nat} {x1 y1 x2 y2 b : Int} (h1 : Cg' m (y1 * y1) (x1 * x1 * x1 - 3 * x1 + b)) (h2 : Cg' m (y2 * y2) (x2 * x2 * x2 - 3 * x2 + b)) :
    Cg' m (wX b x1 y1 1 x1 y1 1 - 2 * y1 * ((3 * ((x1 - 1) * (x1 + 1))) * (3 * ((x1 - 1) * (x1 + 1))) - 2 * (4 * (x1 * (y1 * y1))))) 0 := slp_zero (W4_pos _ _ _ _) zTX bTX h1 h2 h1
def psTY : List SOp := [.c 1, .c 3, .mul 2 2, .mul 4 4, .mul 3 3, .mul 5 6, .mul 7 6, .add 1 0, .mul 9 7, .mul 8 10, .add 1 0, .mul 11 10, .mul 11 12, .add 1 0, .mul 20 9, .sub 1 0, .mul 14 0, .sub 13 0, .add 14 1, .mul 17 14, .mul 26 6, .sub 0 1, .sub 0 19, .mul 21 0, .mul 22 21, .sub 0 5, .mul 18 7, .mul 16 3, .sub 1 0, .mul 10 11, .mul 4 6, .add 1 0, .mul 21 14, .mul 25 7, .add 1 0, .mul 36 36, .c 4, .mul 37 1, .mul 1 0, .sub 39 38, .add 40 39, .mul 1 0, .mul 40 0, .mul 0 0, .c 2, .mul 0 6, .sub 2 0, .sub 8 0, .mul 5 0, .c 8, .mul 14 14, .mul 1 0, .sub 3 0, .sub 21 0]
theorem zTY : zTest W2 psTY 0 = true := by decide +kernel
theorem bTY : bTest W2 psTY 0 = true := by decide +kernel
theorem idTY {m : Nat} {x1 y1 x2 y2 b : Int} (h1 : Cg' m (y1 * y1) (x1 * x1 * x1 - 3 * x1 + b)) (h2 : Cg' m (y2 * y2) (x2 * x2 * x2 - 3 * x2 + b)) :
    Cg' m (wY b x1 y1 1 x1 y1 1 - ((3 * ((x1 - 1) * (x1 + 1))) * ((4 * (x1 * (y1 * y1))) - ((3 * ((x1 - 1) * (x1 + 1))) * (3 * ((x1 - 1) * (x1 + 1))) - 2 * (4 * (x1 * (y1 * y1))))) - 8 * (y1 * y1 * (y1 * y1)))) 0 := slp_zero (W4_pos _ _ _ _) zTY bTY h1 h2 h1
end Go.NT

namespace Go.Ev
open Go Go.Proofs Go.RowKit Go.NT

/-! three numbers that stand for a spot: X by Z squared, Y by Z cubed -/
def RepJ (X Y Z : Int) : PtI → Prop
  | none => C1 Z 0
  | some p => ¬ C1 Z 0 ∧ C1 X (p.1 * (Z * Z)) ∧ C1 Y (p.2 * (Z * Z * Z))
def jdM (X Z : Int) : Int := 3 * ((X - Z * Z) * (X + Z * Z))
def jdS (X Y : Int) : Int := 4 * (X * (Y * Y))
def jdX (X Y Z : Int) : Int := jdM X Z * jdM X Z - 2 * jdS X Y
def jdY (X Y Z : Int) : Int := jdM X Z * (jdS X Y - jdX X Y Z) - 8 * (Y * Y * (Y * Y))
def jdZ (Y Z : Int) : Int := 2 * (Y * Z)
def jcX (u s t v : Int) : Int := (v - t) * (v - t) - (s - u) * (s - u) * (s - u) - 2 * (u * ((s - u) * (s - u)))
def jcY (u s t v : Int) : Int := (v - t) * (u * ((s - u) * (s - u)) - jcX u s t v) - t * ((s - u) * (s - u) * (s - u))
theorem jdX_sc (x y Z : Int) : jdX (x * (Z * Z)) (y * (Z * Z * Z)) Z = Z * Z * (Z * Z) * (Z * Z * (Z * Z)) * jdX x y 1 := by
  unfold jdX jdM jdS; grind
theorem jdY_sc (x y Z : Int) : jdY (x * (Z * Z)) (y * (Z * Z * Z)) Z = Z * Z * (Z * Z) * (Z * Z * (Z * Z)) * (Z * Z * (Z * Z)) * jdY x y 1 := by
  unfold jdY jdX jdM jdS; grind
theorem jcX_sc (u s t v w : Int) : jcX (u * (w * w)) (s * (w * w)) (t * (w * w * w)) (v * (w * w * w)) = w * w * w * (w * w * w) * jcX u s t v := by
  unfold jcX; grind
theorem jcY_sc (u s t v w : Int) : jcY (u * (w * w)) (s * (w * w)) (t * (w * w * w)) (v * (w * w * w)) = w * w * w * (w * w * w) * (w * w * w) * jcY u s t v := by
  unfold jcY jcX; grind
section
variable {m : Nat} {a b c d a' b' c' d' : Int} (ha : Cz m a a') (hb : Cz m b b')
include ha hb
theorem jdX_c (Z : Int) : Cz m (jdX a b Z) (jdX a' b' Z) := by
  have h1 : Cz m (jdM a Z) (jdM a' Z) := (Cz.refl m 3).mul ((ha.sub (Cz.refl _ _)).mul (ha.add (Cz.refl _ _)))
  have h2 : Cz m (jdS a b) (jdS a' b') := (Cz.refl m 4).mul (ha.mul (hb.mul hb))
  exact (h1.mul h1).sub ((Cz.refl m 2).mul h2)
theorem jdY_c (Z : Int) : Cz m (jdY a b Z) (jdY a' b' Z) := by
  have h1 : Cz m (jdM a Z) (jdM a' Z) := (Cz.refl m 3).mul ((ha.sub (Cz.refl _ _)).mul (ha.add (Cz.refl _ _)))
  have h2 : Cz m (jdS a b) (jdS a' b') := (Cz.refl m 4).mul (ha.mul (hb.mul hb))
  exact (h1.mul (h2.sub (jdX_c ha hb Z))).sub ((Cz.refl m 8).mul ((hb.mul hb).mul (hb.mul hb)))
variable (hc : Cz m c c') (hd : Cz m d d')
include hc hd
theorem jcX_c : Cz m (jcX a b c d) (jcX a' b' c' d') := by
  have h := hb.sub ha
  have k := hd.sub hc
  exact ((k.mul k).sub ((h.mul h).mul h)).sub ((Cz.refl m 2).mul (ha.mul (h.mul h)))
theorem jcY_c : Cz m (jcY a b c d) (jcY a' b' c' d') := by
  have h := hb.sub ha
  have k := hd.sub hc
  exact (k.mul ((ha.mul (h.mul h)).sub (jcX_c ha hb hc hd))).sub (hc.mul ((h.mul h).mul h))
end
theorem isS_dbl_none {r : PtI} (h : IsS none none r) : r = none := by
  have := isS_uniq h (isS_none (q := none) trivial)
  cases r with
  | none => rfl
  | some r => exact this.elim
/-- doubled. -/
theorem repJ_dbl {X Y Z : Int} {p r : PtI} (h : RepJ X Y Z p) (hz : ¬ C1 Z 0) (ho : OnO p) (hs : IsS p p r) : RepJ (jdX X Y Z) (jdY X Y Z) (jdZ Y Z) r := by
  cases p with
  | none => exact absurd h hz
  | some p =>
    obtain ⟨x, y⟩ := p
    obtain ⟨_, hX, hY⟩ := h
    change C1 X (x * (Z * Z)) at hX
    change C1 Y (y * (Z * Z * Z)) at hY
    have ho' : OnW x y := ho
    have hy := y_ne ho'
    have h1 : C1 (tX (some (x, y)) (some (x, y)) - 2 * y * jdX x y 1) 0 := Cz.lc1 (m := modN 1) (idTX (m := modN 1) (x2 := x) (y2 := y) (b := wB) ho' ho') 1 (by unfold jdX jdM jdS tX cX cY cZ; grind)
    have h2 : C1 (tY (some (x, y)) (some (x, y)) - jdY x y 1) 0 := Cz.lc1 (m := modN 1) (idTY (m := modN 1) (x2 := x) (y2 := y) (b := wB) ho' ho') 1 (by unfold jdY jdX jdM jdS tY cX cY cZ; grind)
    have h3 : C1 (tZ (some (x, y)) (some (x, y)) - 8 * (y * y * y)) 0 := idD (m := modN 1) (x2 := x) (y2 := y) (b := wB) ho' ho'
    have h8 : ¬ C1 (8 * (y * y * y)) 0 := fun h0 => mul_ne1 (mul_ne1 two_ne1 (mul_ne1 two_ne1 two_ne1)) (mul_ne1 (mul_ne1 hy hy) hy) (h0.lc1 1 (by omega))
    unfold IsS at hs
    generalize tX (some (x, y)) (some (x, y)) = A at *
    generalize tY (some (x, y)) (some (x, y)) = B at *
    generalize tZ (some (x, y)) (some (x, y)) = C at *
    cases r with
    | none => exact absurd (hs.2.2.lc2 h3 1 (-1) (by omega)) h8
    | some r =>
      obtain ⟨_, g1, g2⟩ := hs
      have k1 : C1 (jdX x y 1) (r.1 * (4 * (y * y))) := by
        refine cz_cancel pr1 (a := 2 * y) ?_ (mul_ne1 two_ne1 hy)
        exact h1.lc3 g1 h3 (-1) 1 r.1 (by grind)
      have k2 : C1 (jdY x y 1) (r.2 * (8 * (y * y * y))) := h2.lc3 g2 h3 (-1) 1 r.2 (by grind)
      have hz2 : C1 (jdZ Y Z) (2 * y * (Z * Z * (Z * Z))) := hY.lc1 (2 * Z) (by unfold jdZ; grind)
      refine ⟨fun h0 => mul_ne1 (mul_ne1 two_ne1 hy) (mul_ne1 (mul_ne1 hz hz) (mul_ne1 hz hz)) (hz2.symm.trans h0), ?_, ?_⟩
      · refine ((jdX_c hX hY Z).trans (Cz.of_eq (jdX_sc x y Z))).trans ?_
        exact k1.lc2 (hz2.mul hz2) (Z * Z * (Z * Z) * (Z * Z * (Z * Z))) (-r.1) (by grind)
      · refine ((jdY_c hX hY Z).trans (Cz.of_eq (jdY_sc x y Z))).trans ?_
        exact k2.lc2 ((hz2.mul hz2).mul hz2) (Z * Z * (Z * Z) * (Z * Z * (Z * Z)) * (Z * Z * (Z * Z))) (-r.2) (by grind)
/-- two with different X. -/
theorem repJ_chord {u s t v w x1 y1 x2 y2 : Int} {r : PtI} (hw : ¬ C1 w 0) (hu : C1 u (x1 * (w * w))) (hs : C1 s (x2 * (w * w))) (ht : C1 t (y1 * (w * w * w))) (hv : C1 v (y2 * (w * w * w)))
    (o1 : OnW x1 y1) (o2 : OnW x2 y2) (hne : ¬ C1 u s) (h : IsS (some (x1, y1)) (some (x2, y2)) r) : RepJ (jcX u s t v) (jcY u s t v) ((s - u) * w) r := by
  have hx : ¬ C1 (x2 - x1) 0 := fun h0 => hne (hu.lc3 hs h0 1 (-1) (-(w * w)) (by grind))
  have h1 : C1 (tX (some (x1, y1)) (some (x2, y2)) * ((x2 - x1) * (x2 - x1)) - jcX x1 x2 y1 y2 * tZ (some (x1, y1)) (some (x2, y2))) 0 := idJX (m := modN 1) (b := wB) o1 o2
  have h2 : C1 (tY (some (x1, y1)) (some (x2, y2)) * ((x2 - x1) * (x2 - x1) * (x2 - x1)) - jcY x1 x2 y1 y2 * tZ (some (x1, y1)) (some (x2, y2))) 0 := idJY (m := modN 1) (b := wB) o1 o2
  unfold IsS at h
  generalize tX (some (x1, y1)) (some (x2, y2)) = A at *
  generalize tY (some (x1, y1)) (some (x2, y2)) = B at *
  generalize tZ (some (x1, y1)) (some (x2, y2)) = C at *
  generalize hH : x2 - x1 = H at *
  have hsu : C1 (s - u) (H * (w * w)) := (hs.sub hu).trans (Cz.of_eq (by grind))
  cases r with
  | none =>
    obtain ⟨_, g1, g2⟩ := h
    have h3 : C1 (B * (H * H * H)) 0 := h2.lc2 g2 1 (jcY x1 x2 y1 y2) (by grind)
    exact absurd h3 (mul_ne1 g1 (mul_ne1 (mul_ne1 hx hx) hx))
  | some r =>
    obtain ⟨g0, g1, g2⟩ := h
    have k1 : C1 (jcX x1 x2 y1 y2) (r.1 * (H * H)) := by
      refine cz_cancel pr1 (a := C) ?_ g0
      exact h1.lc2 g1 (-1) (H * H) (by grind)
    have k2 : C1 (jcY x1 x2 y1 y2) (r.2 * (H * H * H)) := by
      refine cz_cancel pr1 (a := C) ?_ g0
      exact h2.lc2 g2 (-1) (H * H * H) (by grind)
    have hz : C1 ((s - u) * w) (H * (w * w * w)) := hsu.lc1 w (by grind)
    refine ⟨fun h0 => mul_ne1 hx (mul_ne1 (mul_ne1 hw hw) hw) (hz.symm.trans h0), ?_, ?_⟩
    · refine ((jcX_c hu hs ht hv).trans (Cz.of_eq (jcX_sc x1 x2 y1 y2 w))).trans ?_
      exact k1.lc2 (hz.mul hz) (w * w * w * (w * w * w)) (-r.1) (by grind)
    · refine ((jcY_c hu hs ht hv).trans (Cz.of_eq (jcY_sc x1 x2 y1 y2 w))).trans ?_
      exact k2.lc2 ((hz.mul hz).mul hz) (w * w * w * (w * w * w) * (w * w * w)) (-r.2) (by grind)
/-- two with the same X that are not the same. -/
theorem isS_turned {x1 y1 x2 y2 : Int} {r : PtI} (o1 : OnW x1 y1) (o2 : OnW x2 y2) (hx : C1 x1 x2) (hy : ¬ C1 y1 y2) (h : IsS (some (x1, y1)) (some (x2, y2)) r) : r = none := by
  have h3 : C1 ((y1 - y2) * (y1 + y2)) 0 := by
    unfold OnW at o1 o2
    exact o1.lc3 o2 hx 1 (-1) (x1 * x1 + x1 * x2 + x2 * x2 - 3) (by grind)
  rcases cz_euclid pr1 h3 with h4 | h4
  · exact absurd (h4.lc1 1 (by omega)) hy
  · have h5 : EqO (some (x2, y2)) (some (x1, 0 - y1)) := ⟨hx.symm, h4.lc1 1 (by show y2 - (0 - y1) = _; omega)⟩
    have := isS_uniq (isS_cong h (EqO.refl _) h5) (isS_neg o1)
    cases r with
    | none => rfl
    | some r => exact this.elim
/-- back to two coordinates. -/
theorem repJ_down {X Y Z i : Int} {p : Int × Int} (h : RepJ X Y Z (some p)) (hi : C1 (Z * i) 1) : C1 (X * (i * i)) p.1 ∧ C1 (Y * (i * i * i)) p.2 := by
  obtain ⟨_, h1, h2⟩ := h
  have h3 : C1 (Z * i * (Z * i)) 1 := (hi.mul hi).trans (Cz.of_eq (by omega))
  have h4 : C1 (Z * i * (Z * i) * (Z * i)) 1 := (h3.mul hi).trans (Cz.of_eq (by omega))
  exact ⟨h1.lc2 h3 (i * i) p.1 (by grind), h2.lc2 h4 (i * i * i) p.2 (by grind)⟩
/-- the law's three coordinates, back to two. -/
theorem repW_down {X Y Z i : Int} {p : Int × Int} (h : RepW X Y Z (some p)) (hi : C1 (Z * i) 1) : C1 (X * i) p.1 ∧ C1 (Y * i) p.2 := by
  obtain ⟨_, h1, h2⟩ := h
  exact ⟨h1.lc2 hi i p.1 (by grind), h2.lc2 hi i p.2 (by grind)⟩
end Go.Ev

