/- The group of the spots; Sums of numbers, bytes, and spots; Bytes of numbers and of points -/
import Derived.Test.YtjiiaeljpllahaaGreatPartM
import Derived.Test.YtjiiaeljpllahaaGreatPartC
namespace Go.Ev
open Go Go.Proofs Go.RowKit Go.NT

def RepJ (X Y Z : Int) : PtI → Prop
  | none => C1 Z 0
  | some p => ¬ C1 Z 0 ∧ C1 X (p.1 * (Z * Z)) ∧ C1 Y (p.2 * (Z * Z * Z))
def jdM (X Z : Int) : Int := 3 * ((X - Z * Z) * (X + Z * Z))
def jdS (X Y : Int) : Int := 4 * (X * (Y * Y))
def jdX (X Y Z : Int) : Int := jdM X Z * jdM X Z - 2 * jdS X Y
def jdY (X Y Z : Int) : Int := jdM X Z * (jdS X Y - jdX X Y Z) - 8 * (Y * Y * (Y * Y))
def jdZ (Y Z : Int) : Int := 2 * (Y * Z)
def jcX (u s t v : Int) : Int := (v - t) * (v - t) - (s - u) * (s - u) * (s - u) - 2 * (u * ((s - u) * (s - u)))
def jcY (u s t v : Int) : Int := (v - t) * (u * ((s - u) * (s - u)) - jcX u s t v) - t * ((s - u) * (s - u) * (s - u))
theorem jdX_sc (x y Z : Int) : jdX (x * (Z * Z)) (y * (Z * Z * Z)) Z = Z * Z * (Z * Z) * (Z * Z * (Z * Z)) * jdX x y 1 := by
  unfold jdX jdM jdS; grind
theorem jdY_sc (x y Z : Int) : jdY (x * (Z * Z)) (y * (Z * Z * Z)) Z = Z * Z * (Z * Z) * (Z * Z * (Z * Z)) * (Z * Z * (Z * Z)) * jdY x y 1 := by
  unfold jdY jdX jdM jdS; grind
theorem jcX_sc (u s t v w : Int) : jcX (u * (w * w)) (s * (w * w)) (t * (w * w * w)) (v * (w * w * w)) = w * w * w * (w * w * w) * jcX u s t v := by
  unfold jcX; grind
theorem jcY_sc (u s t v w : Int) : jcY (u * (w * w)) (s * (w * w)) (t * (w * w * w)) (v * (w * w * w)) = w * w * w * (w * w * w) * (w * w * w) * jcY u s t v := by
  unfold jcY jcX; grind
section
variable {m : Nat} {a b c d a' b' c' d' : Int} (ha : Cz m a a') (hb : Cz m b b')
include ha hb
theorem jdX_c (Z : Int) : Cz m (jdX a b Z) (jdX a' b' Z) := by
  have h1 : Cz m (jdM a Z) (jdM a' Z) := (Cz.refl m 3).mul ((ha.sub (Cz.refl _ _)).mul (ha.add (Cz.refl _ _)))
  have h2 : Cz m (jdS a b) (jdS a' b') := (Cz.refl m 4).mul (ha.mul (hb.mul hb))
  exact (h1.mul h1).sub ((Cz.refl m 2).mul h2)
theorem jdY_c (Z : Int) : Cz m (jdY a b Z) (jdY a' b' Z) := by
  have h1 : Cz m (jdM a Z) (jdM a' Z) := (Cz.refl m 3).mul ((ha.sub (Cz.refl _ _)).mul (ha.add (Cz.refl _ _)))
  have h2 : Cz m (jdS a b) (jdS a' b') := (Cz.refl m 4).mul (ha.mul (hb.mul hb))
  exact (h1.mul (h2.sub (jdX_c ha hb Z))).sub ((Cz.refl m 8).mul ((hb.mul hb).mul (hb.mul hb)))
variable (hc : Cz m c c') (hd : Cz m d d')
include hc hd
theorem jcX_c : Cz m (jcX a b c d) (jcX a' b' c' d') := by
  have h := hb.sub ha
  have k := hd.sub hc
  exact ((k.mul k).sub ((h.mul h).mul h)).sub ((Cz.refl m 2).mul (ha.mul (h.mul h)))
theorem jcY_c : Cz m (jcY a b c d) (jcY a' b' c' d') := by
  have h := hb.sub ha
  have k := hd.sub hc
  exact (k.mul ((ha.mul (h.mul h)).sub (jcX_c ha hb hc hd))).sub (hc.mul ((h.mul h).mul h))
end
theorem repJ_dbl {X Y Z : Int} {p r : PtI} (h : RepJ X Y Z p) (hz : ¬ C1 Z 0) (ho : OnO p) (hs : IsS p p r) : RepJ (jdX X Y Z) (jdY X Y Z) (jdZ Y Z) r := by
  cases p with
  | none => exact absurd h hz
  | some p =>
    obtain ⟨x, y⟩ := p
    obtain ⟨_, hX, hY⟩ := h
    change C1 X (x * (Z * Z)) at hX
    change C1 Y (y * (Z * Z * Z)) at hY
    have ho' : OnW x y := ho
    have hy := y_ne ho'
    have h1 : C1 (tX (some (x, y)) (some (x, y)) - 2 * y * jdX x y 1) 0 := Cz.lc1 (m := modN 1) (idTX (m := modN 1) (x2 := x) (y2 := y) (b := wB) ho' ho') 1 (by unfold jdX jdM jdS tX cX cY cZ; grind)
    have h2 : C1 (tY (some (x, y)) (some (x, y)) - jdY x y 1) 0 := Cz.lc1 (m := modN 1) (idTY (m := modN 1) (x2 := x) (y2 := y) (b := wB) ho' ho') 1 (by unfold jdY jdX jdM jdS tY cX cY cZ; grind)
    have h3 : C1 (tZ (some (x, y)) (some (x, y)) - 8 * (y * y * y)) 0 := idD (m := modN 1) (x2 := x) (y2 := y) (b := wB) ho' ho'
    have h8 : ¬ C1 (8 * (y * y * y)) 0 := fun h0 => mul_ne1 (mul_ne1 two_ne1 (mul_ne1 two_ne1 two_ne1)) (mul_ne1 (mul_ne1 hy hy) hy) (h0.lc1 1 (by omega))
    unfold IsS at hs
    generalize tX (some (x, y)) (some (x, y)) = A at *
    generalize tY (some (x, y)) (some (x, y)) = B at *
    generalize tZ (some (x, y)) (some (x, y)) = C at *
    cases r with
    | none => exact absurd (hs.2.2.lc2 h3 1 (-1) (by omega)) h8
    | some r =>
      obtain ⟨_, g1, g2⟩ := hs
      have k1 : C1 (jdX x y 1) (r.1 * (4 * (y * y))) := by
        refine cz_cancel pr1 (a := 2 * y) ?_ (mul_ne1 two_ne1 hy)
        exact h1.lc3 g1 h3 (-1) 1 r.1 (by grind)
      have k2 : C1 (jdY x y 1) (r.2 * (8 * (y * y * y))) := h2.lc3 g2 h3 (-1) 1 r.2 (by grind)
      have hz2 : C1 (jdZ Y Z) (2 * y * (Z * Z * (Z * Z))) := hY.lc1 (2 * Z) (by unfold jdZ; grind)
      refine ⟨fun h0 => mul_ne1 (mul_ne1 two_ne1 hy) (mul_ne1 (mul_ne1 hz hz) (mul_ne1 hz hz)) (hz2.symm.trans h0), ?_, ?_⟩
      · refine ((jdX_c hX hY Z).trans (Cz.of_eq (jdX_sc x y Z))).trans ?_
        exact k1.lc2 (hz2.mul hz2) (Z * Z * (Z * Z) * (Z * Z * (Z * Z))) (-r.1) (by grind)
      · refine ((jdY_c hX hY Z).trans (Cz.of_eq (jdY_sc x y Z))).trans ?_
        exact k2.lc2 ((hz2.mul hz2).mul hz2) (Z * Z * (Z * Z) * (Z * Z * (Z * Z)) * (Z * Z * (Z * Z))) (-r.2) (by grind)
theorem repJ_chord {u s t v w x1 y1 x2 y2 : Int} {r : PtI} (hw : ¬ C1 w 0) (hu : C1 u (x1 * (w * w))) (hs : C1 s (x2 * (w * w))) (ht : C1 t (y1 * (w * w * w))) (hv : C1 v (y2 * (w * w * w)))
    (o1 : OnW x1 y1) (o2 : OnW x2 y2) (hne : ¬ C1 u s) (h : IsS (some (x1, y1)) (some (x2, y2)) r) : RepJ (jcX u s t v) (jcY u s t v) ((s - u) * w) r := by
  have hx : ¬ C1 (x2 - x1) 0 := fun h0 => hne (hu.lc3 hs h0 1 (-1) (-(w * w)) (by grind))
  have h1 : C1 (tX (some (x1, y1)) (some (x2, y2)) * ((x2 - x1) * (x2 - x1)) - jcX x1 x2 y1 y2 * tZ (some (x1, y1)) (some (x2, y2))) 0 := idJX (m := modN 1) (b := wB) o1 o2
  have h2 : C1 (tY (some (x1, y1)) (some (x2, y2)) * ((x2 - x1) * (x2 - x1) * (x2 - x1)) - jcY x1 x2 y1 y2 * tZ (some (x1, y1)) (some (x2, y2))) 0 := idJY (m := modN 1) (b := wB) o1 o2
  unfold IsS at h
  generalize tX (some (x1, y1)) (some (x2, y2)) = A at *
  generalize tY (some (x1, y1)) (some (x2, y2)) = B at *
  generalize tZ (some (x1, y1)) (some (x2, y2)) = C at *
  generalize hH : x2 - x1 = H at *
  have hsu : C1 (s - u) (H * (w * w)) := (hs.sub hu).trans (Cz.of_eq (by grind))
  cases r with
  | none =>
    obtain ⟨_, g1, g2⟩ := h
    have h3 : C1 (B * (H * H * H)) 0 := h2.lc2 g2 1 (jcY x1 x2 y1 y2) (by grind)
    exact absurd h3 (mul_ne1 g1 (mul_ne1 (mul_ne1 hx hx) hx))
  | some r =>
    obtain ⟨g0, g1, g2⟩ := h
    have k1 : C1 (jcX x1 x2 y1 y2) (r.1 * (H * H)) := by
      refine cz_cancel pr1 (a := C) ?_ g0
      exact h1.lc2 g1 (-1) (H * H) (by grind)
    have k2 : C1 (jcY x1 x2 y1 y2) (r.2 * (H * H * H)) := by
      refine cz_cancel pr1 (a := C) ?_ g0
      exact h2.lc2 g2 (-1) (H * H * H) (by grind)
    have hz : C1 ((s - u) * w) (H * (w * w * w)) := hsu.lc1 w (by grind)
    refine ⟨fun h0 => mul_ne1 hx (mul_ne1 (mul_ne1 hw hw) hw) (hz.symm.trans h0), ?_, ?_⟩
    · refine ((jcX_c hu hs ht hv).trans (Cz.of_eq (jcX_sc x1 x2 y1 y2 w))).trans ?_
      exact k1.lc2 (hz.mul hz) (w * w * w * (w * w * w)) (-r.1) (by grind)
    · refine ((jcY_c hu hs ht hv).trans (Cz.of_eq (jcY_sc x1 x2 y1 y2 w))).trans ?_
      exact k2.lc2 ((hz.mul hz).mul hz) (w * w * w * (w * w * w) * (w * w * w)) (-r.2) (by grind)
theorem isS_turned {x1 y1 x2 y2 : Int} {r : PtI} (o1 : OnW x1 y1) (o2 : OnW x2 y2) (hx : C1 x1 x2) (hy : ¬ C1 y1 y2) (h : IsS (some (x1, y1)) (some (x2, y2)) r) : r = none := by
  have h3 : C1 ((y1 - y2) * (y1 + y2)) 0 := by
    unfold OnW at o1 o2
    exact o1.lc3 o2 hx 1 (-1) (x1 * x1 + x1 * x2 + x2 * x2 - 3) (by grind)
  rcases cz_euclid pr1 h3 with h4 | h4
  · exact absurd (h4.lc1 1 (by omega)) hy
  · have h5 : EqO (some (x2, y2)) (some (x1, 0 - y1)) := ⟨hx.symm, h4.lc1 1 (by show y2 - (0 - y1) = _; omega)⟩
    have := isS_uniq (isS_cong h (EqO.refl _) h5) (isS_neg o1)
    cases r with
    | none => rfl
    | some r => exact this.elim
theorem repJ_down {X Y Z i : Int} {p : Int × Int} (h : RepJ X Y Z (some p)) (hi : C1 (Z * i) 1) : C1 (X * (i * i)) p.1 ∧ C1 (Y * (i * i * i)) p.2 := by
  obtain ⟨_, h1, h2⟩ := h
  have h3 : C1 (Z * i * (Z * i)) 1 := (hi.mul hi).trans (Cz.of_eq (by omega))
  have h4 : C1 (Z * i * (Z * i) * (Z * i)) 1 := (h3.mul hi).trans (Cz.of_eq (by omega))
  exact ⟨h1.lc2 h3 (i * i) p.1 (by grind), h2.lc2 h4 (i * i * i) p.2 (by grind)⟩
theorem repW_down {X Y Z i : Int} {p : Int × Int} (h : RepW X Y Z (some p)) (hi : C1 (Z * i) 1) : C1 (X * i) p.1 ∧ C1 (Y * i) p.2 := by
  obtain ⟨_, h1, h2⟩ := h
  exact ⟨h1.lc2 hi i p.1 (by grind), h2.lc2 hi i p.2 (by grind)⟩
end Go.Ev

namespace Go.Ev
open Go Go.Proofs Go.RowKit Go.NT

noncomputable def dv (a : Nat) : Int := ((outN (modN 1) a : Nat) : Int)
theorem q1 : goodF (modN 1) (facN 1) := good_fac (by decide)
theorem dv_mm {a b : Nat} (ha : a < modN 1) (hb : b < modN 1) : C1 (dv (mmN (modN 1) a b)) (dv a * dv b) := by
  have h := in_mul (k := 1) (by decide) (outN (modN 1) a) (outN (modN 1) b)
  rw [in_out (modN_lt 1) q1 ha, in_out (modN_lt 1) q1 hb] at h
  unfold dv
  rw [h, out_in (modN_lt 1) q1 (mulM_lt (modN_pos 1))]
  exact cz_mul _ _
theorem dv_add {a b : Nat} (ha : a < modN 1) (hb : b < modN 1) : C1 (dv (addM (modN 1) a b)) (dv a + dv b) := by
  have h := in_add (m := modN 1) (outN (modN 1) a) (outN (modN 1) b)
  rw [in_out (modN_lt 1) q1 ha, in_out (modN_lt 1) q1 hb] at h
  unfold dv
  rw [h, out_in (modN_lt 1) q1 (addM_lt (modN_pos 1))]
  exact cz_add _ _
theorem dv_sub {a b : Nat} (ha : a < modN 1) (hb : b < modN 1) : C1 (dv (subM (modN 1) a b)) (dv a - dv b) := by
  have ho := outN_lt (m := modN 1) (c := b) (modN_pos 1)
  have h := in_sub (m := modN 1) (modN_pos 1) (a := outN (modN 1) a) ho
  rw [in_out (modN_lt 1) q1 ha, in_out (modN_lt 1) q1 hb] at h
  unfold dv
  rw [h, out_in (modN_lt 1) q1 (subM_lt (modN_pos 1))]
  exact cz_sub ho
theorem dv_in {x : Nat} (hx : x < modN 1) : dv (inN (modN 1) x) = x := by unfold dv; rw [out_in (modN_lt 1) q1 hx]
theorem dv_0 : dv 0 = 0 := by
  have h := dv_in (modN_pos 1)
  rw [in_eq, Nat.zero_mul, Nat.zero_mod] at h
  exact h
theorem dv_inj {a b : Nat} (ha : a < modN 1) (hb : b < modN 1) (h : C1 (dv a) (dv b)) : a = b := by
  have h1 := Cz.nat (outN_lt (m := modN 1) (c := a) (modN_pos 1)) (outN_lt (m := modN 1) (c := b) (modN_pos 1)) h
  rw [← in_out (modN_lt 1) q1 ha, h1, in_out (modN_lt 1) q1 hb]
theorem dv_zero {a : Nat} (ha : a < modN 1) : C1 (dv a) 0 ↔ a = 0 := by
  constructor
  · intro h
    rw [← dv_0] at h
    exact dv_inj ha (modN_pos 1) h
  · rintro rfl
    rw [dv_0]; exact Cz.refl _ _
theorem dv_one : dv (inN (modN 1) 1) = 1 := dv_in (modN_one 1)
theorem dv_inv {a : Nat} (ha : a < modN 1) (h : a ≠ 0) : C1 (dv a * dv (minvN (modN 1) a)) 1 := by
  have ho := outN_lt (m := modN 1) (c := a) (modN_pos 1)
  have h1 := inv_cz (k := 1) (by decide) ho (fun h0 => h ((dv_zero ha).1 h0))
  have e : dv (minvN (modN 1) a) = ((invP 1 (outN (modN 1) a) : Nat) : Int) := by
    unfold minvN
    rw [mpow_in, dv_in (show Go.NT.pwM _ _ _ < modN 1 from Nat.mod_lt _ (modN_pos 1))]
    rfl
  rw [e]; exact h1
theorem dv_mcr {a b c d e f : Nat} (ha : a < modN 1) (hb : b < modN 1) (hc : c < modN 1) (hd : d < modN 1) (he : e < modN 1) (hf : f < modN 1) : C1 (dv (mcr a b c d e f)) ((dv a + dv b) * (dv c + dv d) - (dv e + dv f)) := by
  unfold mcr
  have hm := modN_pos 1
  exact (dv_sub (mmN_lt hm) (addM_lt hm)).trans (((dv_mm (addM_lt hm) (addM_lt hm)).trans ((dv_add ha hb).mul (dv_add hc hd))).sub (dv_add he hf))
theorem dv_mtr {a : Nat} (ha : a < modN 1) : C1 (dv (mtr a)) (3 * dv a) := by
  unfold mtr
  have hm := modN_pos 1
  exact ((dv_add (addM_lt hm) ha).trans ((dv_add ha ha).add (Cz.refl _ _))).trans (Cz.of_eq (by omega))
theorem dv_wB : dv wBi = wB := dv_in wBN_lt

section
variable {p q : J3} (hp : p.lt) (hq : q.lt)
include hp hq
theorem dXX : C1 (dv (mXX p q)) (wxx (dv p.x) (dv p.y) (dv p.z) (dv q.x) (dv q.y) (dv q.z)) := dv_mm hp.1 hq.1
theorem dYY : C1 (dv (mYY p q)) (wyy (dv p.x) (dv p.y) (dv p.z) (dv q.x) (dv q.y) (dv q.z)) := dv_mm hp.2.1 hq.2.1
theorem dZZ : C1 (dv (mZZ p q)) (wzz (dv p.x) (dv p.y) (dv p.z) (dv q.x) (dv q.y) (dv q.z)) := dv_mm hp.2.2 hq.2.2
theorem dXY : C1 (dv (mXY p q)) (wxy (dv p.x) (dv p.y) (dv p.z) (dv q.x) (dv q.y) (dv q.z)) :=
  ((dv_mcr hp.1 hp.2.1 hq.1 hq.2.1 (mmN_lt (modN_pos 1)) (mmN_lt (modN_pos 1))).trans ((Cz.refl _ _).sub ((dXX hp hq).add (dYY hp hq)))).trans (Cz.of_eq (by unfold wxy wxx wyy; grind))
theorem dYZ : C1 (dv (mYZ p q)) (wyz (dv p.x) (dv p.y) (dv p.z) (dv q.x) (dv q.y) (dv q.z)) :=
  ((dv_mcr hp.2.1 hp.2.2 hq.2.1 hq.2.2 (mmN_lt (modN_pos 1)) (mmN_lt (modN_pos 1))).trans ((Cz.refl _ _).sub ((dYY hp hq).add (dZZ hp hq)))).trans (Cz.of_eq (by unfold wyz wyy wzz; grind))
theorem dXZ : C1 (dv (mXZ p q)) (wxz (dv p.x) (dv p.y) (dv p.z) (dv q.x) (dv q.y) (dv q.z)) :=
  ((dv_mcr hp.1 hp.2.2 hq.1 hq.2.2 (mmN_lt (modN_pos 1)) (mmN_lt (modN_pos 1))).trans ((Cz.refl _ _).sub ((dXX hp hq).add (dZZ hp hq)))).trans (Cz.of_eq (by unfold wxz wxx wzz; grind))
theorem dSi : C1 (dv (mSi p q)) (wsi wB (dv p.x) (dv p.y) (dv p.z) (dv q.x) (dv q.y) (dv q.z)) := by
  have hm := modN_pos 1
  have h := (dv_mm wBi_lt (mmN_lt hm)).trans ((Cz.of_eq dv_wB).mul (dZZ hp hq))
  exact (dv_mtr (subM_lt hm)).trans ((Cz.refl _ 3).mul ((dv_sub mcr_lt (mmN_lt hm)).trans ((dXZ hp hq).sub h)))
theorem dLe : C1 (dv (mLe p q)) (wle wB (dv p.x) (dv p.y) (dv p.z) (dv q.x) (dv q.y) (dv q.z)) := (dv_sub (mmN_lt (modN_pos 1)) mtr_lt).trans ((dYY hp hq).sub (dSi hp hq))
theorem dRi : C1 (dv (mRi p q)) (wri wB (dv p.x) (dv p.y) (dv p.z) (dv q.x) (dv q.y) (dv q.z)) := (dv_add (mmN_lt (modN_pos 1)) mtr_lt).trans ((dYY hp hq).add (dSi hp hq))
theorem dZ3 : C1 (dv (mZ3 p q)) (wz3 (dv p.x) (dv p.y) (dv p.z) (dv q.x) (dv q.y) (dv q.z)) := (dv_mtr (mmN_lt (modN_pos 1))).trans ((Cz.refl _ 3).mul (dZZ hp hq))
theorem dMM : C1 (dv (mMM p q)) (wmm wB (dv p.x) (dv p.y) (dv p.z) (dv q.x) (dv q.y) (dv q.z)) := by
  have hm := modN_pos 1
  have h := (dv_mm wBi_lt mcr_lt).trans ((Cz.of_eq dv_wB).mul (dXZ hp hq))
  exact (dv_mtr (subM_lt hm)).trans ((Cz.refl _ 3).mul ((dv_sub (subM_lt hm) (mmN_lt hm)).trans (((dv_sub (mmN_lt hm) mtr_lt).trans (h.sub (dZ3 hp hq))).sub (dXX hp hq))))
theorem dNN : C1 (dv (mNN p q)) (wnn (dv p.x) (dv p.y) (dv p.z) (dv q.x) (dv q.y) (dv q.z)) :=
  (dv_sub mtr_lt mtr_lt).trans (((dv_mtr (mmN_lt (modN_pos 1))).trans ((Cz.refl _ 3).mul (dXX hp hq))).sub (dZ3 hp hq))
theorem dAx : C1 (dv (mAdd p q).x) (wX wB (dv p.x) (dv p.y) (dv p.z) (dv q.x) (dv q.y) (dv q.z)) := by
  have hm := modN_pos 1
  exact (dv_sub (mmN_lt hm) (mmN_lt hm)).trans (((dv_mm mcr_lt (addM_lt hm)).trans ((dXY hp hq).mul (dRi hp hq))).sub ((dv_mm mcr_lt mtr_lt).trans ((dYZ hp hq).mul (dMM hp hq))))
theorem dAy : C1 (dv (mAdd p q).y) (wY wB (dv p.x) (dv p.y) (dv p.z) (dv q.x) (dv q.y) (dv q.z)) := by
  have hm := modN_pos 1
  exact (dv_add (mmN_lt hm) (mmN_lt hm)).trans (((dv_mm (addM_lt hm) (subM_lt hm)).trans ((dRi hp hq).mul (dLe hp hq))).add ((dv_mm (subM_lt hm) mtr_lt).trans ((dNN hp hq).mul (dMM hp hq))))
theorem dAz : C1 (dv (mAdd p q).z) (wZ wB (dv p.x) (dv p.y) (dv p.z) (dv q.x) (dv q.y) (dv q.z)) := by
  have hm := modN_pos 1
  exact (dv_add (mmN_lt hm) (mmN_lt hm)).trans (((dv_mm mcr_lt (subM_lt hm)).trans ((dYZ hp hq).mul (dLe hp hq))).add ((dv_mm mcr_lt (subM_lt hm)).trans ((dXY hp hq).mul (dNN hp hq))))
end

structure Sp where
  x : Nat
  y : Nat
  i : Bool
def Sp.o (s : Sp) : PtI := match s.i with | true => none | false => some ((s.x : Int), (s.y : Int))
def Sp.on (s : Sp) : Prop := onS s.x s.y s.i = true
def sNo : Sp := ⟨0, 0, true⟩
theorem onW_iff {x y : Nat} (_hx : x < modN 1) (_hy : y < modN 1) : eqW x y = true ↔ OnW x y := by
  have hm := modN_pos 1
  rw [eqW_in, decide_eq_true_iff]
  have h1 := cz_mul (m := modN 1) y y
  have h2 : C1 (sqP x : Nat) ((x : Int) * x * x - 3 * x + wB) := by
    unfold sqP
    exact (cz_add _ _).trans (((cz_sub (addM_lt hm)).trans (((cz_mul _ _).trans ((Cz.refl _ _).mul (cz_mul x x))).sub ((cz_add _ _).trans ((Cz.refl _ _).add (cz_add x x))))).add (Cz.refl _ _) |>.trans (Cz.of_eq (by show (x : Int) * (x * x) - (x + (x + x)) + (wB : Int) = _; grind)))
  unfold OnW
  constructor
  · intro h
    rw [h] at h1
    exact h1.symm.trans h2
  · intro h
    exact Cz.nat (mulM_lt hm) (sqP_lt x) ((h1.trans h).trans h2.symm)
theorem Sp.on_some {x y : Nat} : Sp.on ⟨x, y, false⟩ ↔ x < modN 1 ∧ y < modN 1 ∧ OnW x y := by
  unfold Sp.on onS ltW
  simp only [cond_false, Bool.and_eq_true, decide_eq_true_iff]
  constructor
  · rintro ⟨⟨a, b⟩, c⟩; exact ⟨a, b, (onW_iff a b).1 c⟩
  · rintro ⟨a, b, c⟩; exact ⟨⟨a, b⟩, (onW_iff a b).2 c⟩
theorem Sp.on_none {x y : Nat} : Sp.on ⟨x, y, true⟩ ↔ x = 0 ∧ y = 0 := by
  unfold Sp.on onS
  simp only [cond_true, Bool.and_eq_true, decide_eq_true_iff]
theorem sNo_on : sNo.on := Sp.on_none.2 ⟨rfl, rfl⟩
theorem Sp.on.O {s : Sp} (h : s.on) : OnO s.o := by
  obtain ⟨x, y, i⟩ := s
  cases i with
  | true => trivial
  | false => exact (Sp.on_some.1 h).2.2
theorem Sp.on.lt {s : Sp} (h : s.on) : s.i = true ∨ (s.x < modN 1 ∧ s.y < modN 1) := by
  obtain ⟨x, y, i⟩ := s
  cases i with
  | true => exact .inl rfl
  | false => exact .inr ⟨(Sp.on_some.1 h).1, (Sp.on_some.1 h).2.1⟩
theorem Sp.on.lx {s : Sp} (h : s.on) : s.x < modN 1 := by
  obtain ⟨x, y, i⟩ := s
  cases i with
  | true => obtain ⟨rfl, rfl⟩ := Sp.on_none.1 h; exact modN_pos 1
  | false => exact (Sp.on_some.1 h).1
theorem Sp.on.ly {s : Sp} (h : s.on) : s.y < modN 1 := by
  obtain ⟨x, y, i⟩ := s
  cases i with
  | true => obtain ⟨rfl, rfl⟩ := Sp.on_none.1 h; exact modN_pos 1
  | false => exact (Sp.on_some.1 h).2.1
theorem Sp.on.eq {s t : Sp} (hs : s.on) (ht : t.on) (h : EqO s.o t.o) : s = t := by
  obtain ⟨x, y, i⟩ := s
  obtain ⟨u, v, j⟩ := t
  cases i with
  | true =>
    cases j with
    | true =>
      obtain ⟨rfl, rfl⟩ := Sp.on_none.1 hs
      obtain ⟨rfl, rfl⟩ := Sp.on_none.1 ht
      rfl
    | false => exact h.elim
  | false =>
    cases j with
    | true => exact h.elim
    | false =>
      obtain ⟨a, b, _⟩ := Sp.on_some.1 hs
      obtain ⟨c, d, _⟩ := Sp.on_some.1 ht
      rw [Cz.nat a c h.1, Cz.nat b d h.2]
theorem repW_cong {X Y Z : Int} {p q : PtI} (h : RepW X Y Z p) (e : EqO p q) : RepW X Y Z q := by
  cases p with
  | none =>
    cases q with
    | none => exact h
    | some q => exact e.elim
  | some p =>
    cases q with
    | none => exact e.elim
    | some q => exact ⟨h.1, h.2.1.trans (e.1.mul (Cz.refl _ _)), h.2.2.trans (e.2.mul (Cz.refl _ _))⟩
theorem repW_c {X Y Z X' Y' Z' : Int} {p : PtI} (h : RepW X Y Z p) (hx : C1 X' X) (hy : C1 Y' Y) (hz : C1 Z' Z) : RepW X' Y' Z' p :=
  rep_mul one_ne1 h (hx.trans (Cz.of_eq (by omega))) (hy.trans (Cz.of_eq (by omega))) (hz.trans (Cz.of_eq (by omega)))
theorem czN_lt1 (z : Int) : czN (modN 1) z < modN 1 := by
  have hm := modN_pos 1
  unfold czN
  have := Int.emod_lt_of_pos z (show (0 : Int) < (modN 1 : Int) by omega)
  have := Int.emod_nonneg z (show ((modN 1 : Nat) : Int) ≠ 0 by omega)
  omega
theorem sum_ex {s t : Sp} (hs : s.on) (ht : t.on) : ∃ r : Sp, r.on ∧ IsS s.o t.o r.o := by
  obtain ⟨r, h, ho⟩ := isS_ex hs.O ht.O
  cases r with
  | none => exact ⟨sNo, sNo_on, h⟩
  | some r =>
    have h1 := czN_cz (modN_pos 1) r.1
    have h2 := czN_cz (modN_pos 1) r.2
    refine ⟨⟨czN (modN 1) r.1, czN (modN 1) r.2, false⟩, Sp.on_some.2 ⟨czN_lt1 _, czN_lt1 _, ?_⟩, repW_cong h ⟨h1.symm, h2.symm⟩⟩
    have ho' : OnW r.1 r.2 := ho
    unfold OnW at *
    exact ((h2.mul h2).trans ho').trans ((((h1.mul h1).mul h1).sub ((Cz.refl _ 3).mul h1)).add (Cz.refl _ _)).symm
noncomputable def gsum (s t : Sp) : Sp := @dite Sp (∃ r : Sp, r.on ∧ IsS s.o t.o r.o) (Classical.propDecidable _) (fun h => Classical.choose h) (fun _ => sNo)
theorem gsum_spec {s t : Sp} (hs : s.on) (ht : t.on) : (gsum s t).on ∧ IsS s.o t.o (gsum s t).o := by
  have h := sum_ex hs ht
  unfold gsum
  rw [dif_pos h]
  exact Classical.choose_spec h
theorem gsum_on {s t : Sp} (hs : s.on) (ht : t.on) : (gsum s t).on := (gsum_spec hs ht).1
theorem gsum_is {s t : Sp} (hs : s.on) (ht : t.on) : IsS s.o t.o (gsum s t).o := (gsum_spec hs ht).2
theorem gsum_eq {s t r : Sp} (hs : s.on) (ht : t.on) (hr : r.on) (h : IsS s.o t.o r.o) : gsum s t = r := (gsum_on hs ht).eq hr (isS_uniq (gsum_is hs ht) h)
theorem gsum_comm {s t : Sp} (hs : s.on) (ht : t.on) : gsum s t = gsum t s := gsum_eq hs ht (gsum_on ht hs) (isS_comm (gsum_is ht hs))
theorem gsum_assoc {s t r : Sp} (hs : s.on) (ht : t.on) (hr : r.on) : gsum (gsum s t) r = gsum s (gsum t r) := by
  have h1 := gsum_on hs ht
  have h2 := gsum_on ht hr
  exact (gsum_on h1 hr).eq (gsum_on hs h2) (isS_assoc hs.O ht.O hr.O (gsum_is hs ht) (gsum_is h1 hr) (gsum_is ht hr) (gsum_is hs h2) h2.O h1.O)
theorem gsum_no_left {s : Sp} (hs : s.on) : gsum sNo s = s := gsum_eq sNo_on hs hs (isS_none hs.O)
theorem gsum_no {s : Sp} (hs : s.on) : gsum s sNo = s := by rw [gsum_comm hs sNo_on, gsum_no_left hs]
noncomputable def gmul (s : Sp) : Nat → Sp
  | 0 => sNo
  | k + 1 => gsum (gmul s k) s
theorem gmul_on {s : Sp} (h : s.on) : ∀ k, (gmul s k).on
  | 0 => sNo_on
  | k + 1 => gsum_on (gmul_on h k) h
theorem gmul_add {s : Sp} (h : s.on) (a : Nat) : ∀ b, gmul s (a + b) = gsum (gmul s a) (gmul s b)
  | 0 => (gsum_no (gmul_on h a)).symm
  | b + 1 => by
    show gsum (gmul s (a + b)) s = gsum (gmul s a) (gsum (gmul s b) s)
    rw [gmul_add h a b, gsum_assoc (gmul_on h a) (gmul_on h b) h]
theorem gmul_one {s : Sp} (h : s.on) : gmul s 1 = s := gsum_no_left h

def RW (x : J3) (s : Sp) : Prop := x.lt ∧ RepW (dv x.x) (dv x.y) (dv x.z) s.o
def RJ (x : J3) (s : Sp) : Prop := x.lt ∧ RepJ (dv x.x) (dv x.y) (dv x.z) s.o
theorem rw_add {x y : J3} {s t : Sp} (hs : s.on) (ht : t.on) (hx : RW x s) (hy : RW y t) : RW (mAdd x y) (gsum s t) :=
  ⟨mAdd_lt x y, repW_c (rep_wadd hx.2 hy.2 (gsum_is hs ht)) (dAx hx.1 hy.1) (dAy hx.1 hy.1) (dAz hx.1 hy.1)⟩
theorem rw_lift {s : Sp} (hs : s.on) : RW (wLift s.x s.y s.i) s := by
  obtain ⟨x, y, i⟩ := s
  refine ⟨wLift_lt _ _ _, ?_⟩
  cases i with
  | true =>
    show RepW (dv 0) (dv (inN (modN 1) 1)) (dv 0) none
    rw [dv_0, dv_one]
    exact rep_canon none
  | false =>
    obtain ⟨a, b, c⟩ := Sp.on_some.1 hs
    show RepW (dv (inN (modN 1) x)) (dv (inN (modN 1) y)) (dv (inN (modN 1) 1)) (some ((x : Int), (y : Int)))
    rw [dv_in a, dv_in b, dv_one]
    exact rep_canon (some ((x : Int), (y : Int)))
theorem rw_down {x : J3} {s : Sp} (hs : s.on) (h : RW x s) : wDx x = s.x ∧ wDy x = s.y ∧ wDi x = s.i := by
  obtain ⟨u, v, i⟩ := s
  obtain ⟨hl, h⟩ := h
  have hm := modN_pos 1
  unfold wDx wDy wDi
  cases i with
  | true =>
    obtain ⟨rfl, rfl⟩ := Sp.on_none.1 hs
    rw [decide_eq_true ((dv_zero hl.2.2).1 h.2.2)]
    exact ⟨rfl, rfl, rfl⟩
  | false =>
    obtain ⟨a, b, c⟩ := Sp.on_some.1 hs
    have h0 : ¬ x.z = 0 := fun h0 => h.1 ((dv_zero hl.2.2).2 h0)
    have hi := dv_inv hl.2.2 h0
    obtain ⟨k1, k2⟩ := repW_down h hi
    rw [decide_eq_false h0, cond_false, cond_false]
    refine ⟨?_, ?_, rfl⟩
    · exact Cz.nat (outN_lt hm) a (Cz.trans (dv_mm hl.1 (minvN_lt hm)) k1)
    · exact Cz.nat (outN_lt hm) b (Cz.trans (dv_mm hl.2.1 (minvN_lt hm)) k2)
end Go.Ev

namespace Go.Ev
open Go Go.Proofs Go.RowKit Go.NT

theorem rw_step {k j : Nat} {p x : J3} {s : Sp} {a : Nat} (hs : s.on) (hp : RW p s) (hx : RW x (gmul s a)) : RW (wStep k p j x) (gmul s (2 * a + bitN k j)) := by
  have h1 := rw_add (gmul_on hs a) (gmul_on hs a) hx hx
  rw [← gmul_add hs a a, ← Nat.two_mul] at h1
  unfold wStep bitB
  have hb := bitN_le k j
  by_cases h : bitN k j = 1
  · rw [decide_eq_true h, cond_true, h]
    exact rw_add (gmul_on hs (2 * a)) hs h1 hp
  · rw [decide_eq_false h, cond_false, show bitN k j = 0 by omega]
    exact h1
theorem rw_timesG {k : Nat} {p : J3} {s : Sp} (hs : s.on) (hp : RW p s) : ∀ (j : Nat) (x : J3) (a : Nat), RW x (gmul s a) → a = k / 2 ^ j → RW (wTimesG k p j x) (gmul s k)
  | 0, x, a, hx, ha => by
    rw [Nat.pow_zero, Nat.div_one] at ha
    subst ha; exact hx
  | j + 1, x, a, hx, ha => by
    refine rw_timesG hs hp j (wStep k p j x) (2 * a + bitN k j) (rw_step hs hp hx) ?_
    subst ha
    unfold bitN
    rw [Nat.pow_succ, ← Nat.div_div_eq_div_mul]
    omega
theorem rw_times {k : Nat} (hk : k < 4294967296 ^ 8) {p : J3} {s : Sp} (hs : s.on) (hp : RW p s) : RW (wTimes k p) (gmul s k) := by
  refine rw_timesG hs hp _ _ 0 ?_ ?_
  · exact rw_lift sNo_on
  · rw [Nat.div_eq_of_lt (lenN_spec hk).1]

theorem repJ_c {X Y Z X' Y' Z' : Int} {p : PtI} (h : RepJ X Y Z p) (hx : C1 X' X) (hy : C1 Y' Y) (hz : C1 Z' Z) : RepJ X' Y' Z' p := by
  cases p with
  | none => exact hz.trans h
  | some p =>
    obtain ⟨h1, h2, h3⟩ := h
    have hz2 := hz.mul hz
    exact ⟨fun h0 => h1 (hz.symm.trans h0), (hx.trans h2).trans ((Cz.refl _ _).mul hz2.symm), (hy.trans h3).trans ((Cz.refl _ _).mul (hz2.mul hz).symm)⟩
theorem repJ_none {X Y Z : Int} {s : Sp} (hs : s.on) (h : RepJ X Y Z s.o) (hz : C1 Z 0) : s = sNo := by
  obtain ⟨x, y, i⟩ := s
  cases i with
  | true => obtain ⟨rfl, rfl⟩ := Sp.on_none.1 hs; rfl
  | false => exact absurd hz h.1
theorem repJ_some {X Y Z : Int} {s : Sp} (hs : s.on) (h : RepJ X Y Z s.o) (hz : ¬ C1 Z 0) : ∃ x y : Nat, s = ⟨x, y, false⟩ ∧ OnW x y ∧ C1 X (x * (Z * Z)) ∧ C1 Y (y * (Z * Z * Z)) := by
  obtain ⟨x, y, i⟩ := s
  cases i with
  | true => exact absurd h hz
  | false => exact ⟨x, y, rfl, (Sp.on_some.1 hs).2.2, h.2.1, h.2.2⟩
theorem rj_lift {s : Sp} (hs : s.on) : RJ (jLift s.x s.y s.i) s := by
  obtain ⟨x, y, i⟩ := s
  refine ⟨jLift_lt _ _ _, ?_⟩
  cases i with
  | true =>
    show C1 (dv 0) 0
    rw [dv_0]; exact Cz.refl _ _
  | false =>
    obtain ⟨a, b, c⟩ := Sp.on_some.1 hs
    show RepJ (dv (inN (modN 1) x)) (dv (inN (modN 1) y)) (dv (inN (modN 1) 1)) (some ((x : Int), (y : Int)))
    rw [dv_in a, dv_in b, dv_one]
    exact ⟨one_ne1, Cz.of_eq (by show (x : Int) = x * (1 * 1); omega), Cz.of_eq (by show (y : Int) = y * (1 * 1 * 1); omega)⟩
section
variable {p : J3} (hp : p.lt)
include hp
theorem dRs : C1 (dv (rS p)) (jdS (dv p.x) (dv p.y)) := by
  have hm := modN_pos 1
  have h1 := (dv_mm hp.1 (mmN_lt hm)).trans ((Cz.refl _ (dv p.x)).mul (dv_mm hp.2.1 hp.2.1))
  have h2 := (dv_add (mmN_lt hm) (mmN_lt hm)).trans (h1.add h1)
  exact ((dv_add (addM_lt hm) (addM_lt hm)).trans (h2.add h2)).trans (Cz.of_eq (by unfold jdS; grind))
theorem dRm0 : C1 (dv (rM0 p)) ((dv p.x - dv p.z * dv p.z) * (dv p.x + dv p.z * dv p.z)) := by
  have hm := modN_pos 1
  have h1 := dv_mm hp.2.2 hp.2.2
  exact (dv_mm (subM_lt hm) (addM_lt hm)).trans (((dv_sub hp.1 (mmN_lt hm)).trans ((Cz.refl _ _).sub h1)).mul ((dv_add hp.1 (mmN_lt hm)).trans ((Cz.refl _ _).add h1)))
theorem dRm : C1 (dv (rM p)) (jdM (dv p.x) (dv p.z)) := by
  have hm := modN_pos 1
  have h := dRm0 hp
  exact ((dv_add (mmN_lt hm) (addM_lt hm)).trans (h.add ((dv_add (mmN_lt hm) (mmN_lt hm)).trans (h.add h)))).trans (Cz.of_eq (by unfold jdM; grind))
theorem dRx : C1 (dv (rX p)) (jdX (dv p.x) (dv p.y) (dv p.z)) := by
  have hm := modN_pos 1
  have h := dRm hp
  have k := dRs hp
  exact ((dv_sub (mmN_lt hm) (addM_lt hm)).trans (((dv_mm (addM_lt hm) (addM_lt hm)).trans (h.mul h)).sub ((dv_add (addM_lt hm) (addM_lt hm)).trans (k.add k)))).trans (Cz.of_eq (by unfold jdX; grind))
theorem dRy : C1 (dv (rY p)) (jdY (dv p.x) (dv p.y) (dv p.z)) := by
  have hm := modN_pos 1
  have h := dRm hp
  have k := dRs hp
  have x := dRx hp
  have y2 := dv_mm hp.2.1 hp.2.1
  have y4 := (dv_mm (mmN_lt hm) (mmN_lt hm)).trans (y2.mul y2)
  have z1 : C1 (dv (rY1 p)) _ := (dv_add (mmN_lt hm) (mmN_lt hm)).trans (y4.add y4)
  have z2 : C1 (dv (rY2 p)) _ := (dv_add (addM_lt hm) (addM_lt hm)).trans (z1.add z1)
  have z4 : C1 (dv (rY4 p)) _ := (dv_add (addM_lt hm) (addM_lt hm)).trans (z2.add z2)
  exact ((dv_sub (mmN_lt hm) (addM_lt hm)).trans (((dv_mm (addM_lt hm) (subM_lt hm)).trans (h.mul ((dv_sub (addM_lt hm) (subM_lt hm)).trans (k.sub x)))).sub z4)).trans (Cz.of_eq (by unfold jdY; grind))
theorem dRz : C1 (dv (rZ p)) (jdZ (dv p.y) (dv p.z)) := by
  have hm := modN_pos 1
  have h := dv_mm hp.2.1 hp.2.2
  exact ((dv_add (mmN_lt hm) (mmN_lt hm)).trans (h.add h)).trans (Cz.of_eq (by unfold jdZ; grind))
end
theorem rj_dbl {p : J3} {s : Sp} (hs : s.on) (h : RJ p s) : RJ (jDbl p) (gsum s s) := by
  obtain ⟨hl, h⟩ := h
  refine ⟨jDbl_lt hl, ?_⟩
  unfold jDbl
  by_cases hz : p.z = 0
  · rw [decide_eq_true hz, cond_true]
    have h0 := (dv_zero hl.2.2).2 hz
    have e := repJ_none hs h h0
    rw [e, gsum_no sNo_on]
    exact h0
  · rw [decide_eq_false hz, cond_false]
    exact repJ_c (repJ_dbl h (fun h0 => hz ((dv_zero hl.2.2).1 h0)) hs.O (gsum_is hs hs)) (dRx hl) (dRy hl) (dRz hl)
section
variable {p q : J3} (hp : p.lt) (hq : q.lt)
include hp hq
theorem dJu : C1 (dv (jU p q)) (dv p.x * (dv q.z * dv q.z)) := (dv_mm hp.1 (mmN_lt (modN_pos 1))).trans ((Cz.refl _ _).mul (dv_mm hq.2.2 hq.2.2))
theorem dJv : C1 (dv (jV p q)) (dv q.x * (dv p.z * dv p.z)) := (dv_mm hq.1 (mmN_lt (modN_pos 1))).trans ((Cz.refl _ _).mul (dv_mm hp.2.2 hp.2.2))
theorem dJs : C1 (dv (jS p q)) (dv p.y * (dv q.z * dv q.z * dv q.z)) := (dv_mm hp.2.1 (mmN_lt (modN_pos 1))).trans ((Cz.refl _ _).mul ((dv_mm (mmN_lt (modN_pos 1)) hq.2.2).trans ((dv_mm hq.2.2 hq.2.2).mul (Cz.refl _ _))))
theorem dJt : C1 (dv (jT p q)) (dv q.y * (dv p.z * dv p.z * dv p.z)) := (dv_mm hq.2.1 (mmN_lt (modN_pos 1))).trans ((Cz.refl _ _).mul ((dv_mm (mmN_lt (modN_pos 1)) hp.2.2).trans ((dv_mm hp.2.2 hp.2.2).mul (Cz.refl _ _))))
end
section
variable (p q : J3)
theorem dJh : C1 (dv (jH p q)) (dv (jV p q) - dv (jU p q)) := dv_sub (mmN_lt (modN_pos 1)) (mmN_lt (modN_pos 1))
theorem dJk : C1 (dv (jK p q)) (dv (jT p q) - dv (jS p q)) := dv_sub (mmN_lt (modN_pos 1)) (mmN_lt (modN_pos 1))
theorem dJh2 : C1 (dv (jH2 p q)) ((dv (jV p q) - dv (jU p q)) * (dv (jV p q) - dv (jU p q))) := (dv_mm (subM_lt (modN_pos 1)) (subM_lt (modN_pos 1))).trans ((dJh p q).mul (dJh p q))
theorem dJh3 : C1 (dv (jH3 p q)) ((dv (jV p q) - dv (jU p q)) * (dv (jV p q) - dv (jU p q)) * (dv (jV p q) - dv (jU p q))) := (dv_mm (mmN_lt (modN_pos 1)) (subM_lt (modN_pos 1))).trans ((dJh2 p q).mul (dJh p q))
theorem dJw : C1 (dv (jW p q)) (dv (jU p q) * ((dv (jV p q) - dv (jU p q)) * (dv (jV p q) - dv (jU p q)))) := (dv_mm (mmN_lt (modN_pos 1)) (mmN_lt (modN_pos 1))).trans ((Cz.refl _ _).mul (dJh2 p q))
theorem dJx : C1 (dv (jX p q)) (jcX (dv (jU p q)) (dv (jV p q)) (dv (jS p q)) (dv (jT p q))) := by
  have hm := modN_pos 1
  have hk := (dv_mm (subM_lt hm) (subM_lt hm)).trans ((dJk p q).mul (dJk p q))
  exact ((dv_sub (subM_lt hm) (addM_lt hm)).trans (((dv_sub (mmN_lt hm) (mmN_lt hm)).trans (hk.sub (dJh3 p q))).sub ((dv_add (mmN_lt hm) (mmN_lt hm)).trans ((dJw p q).add (dJw p q))))).trans (Cz.of_eq (by unfold jcX; grind))
theorem dJy : C1 (dv (jY p q)) (jcY (dv (jU p q)) (dv (jV p q)) (dv (jS p q)) (dv (jT p q))) := by
  have hm := modN_pos 1
  have h1 := (dv_mm (subM_lt hm) (subM_lt hm)).trans ((dJk p q).mul ((dv_sub (mmN_lt hm) (subM_lt hm)).trans ((dJw p q).sub (dJx p q))))
  have h2 := (dv_mm (mmN_lt hm) (mmN_lt hm)).trans ((Cz.refl _ (dv (jS p q))).mul (dJh3 p q))
  exact (dv_sub (mmN_lt hm) (mmN_lt hm)).trans (h1.sub h2)
theorem dJz {p q : J3} (hp : p.lt) (hq : q.lt) : C1 (dv (jZ p q)) ((dv (jV p q) - dv (jU p q)) * (dv p.z * dv q.z)) := (dv_mm (subM_lt (modN_pos 1)) (mmN_lt (modN_pos 1))).trans ((dJh p q).mul (dv_mm hp.2.2 hq.2.2))
end
theorem mul_ne2 {a b : Int} (ha : ¬ C1 a 0) (hb : ¬ C1 b 0) : ¬ C1 (a * b) 0 := fun h => (cz_euclid pr1 h).elim ha hb
theorem rj_join {p q : J3} {s t : Sp} (hs : s.on) (ht : t.on) (h : RJ p s) (k : RJ q t) : RJ (jJoin p q) (gsum s t) := by
  obtain ⟨hl, h⟩ := h
  obtain ⟨kl, k⟩ := k
  refine ⟨jJoin_lt hl kl, ?_⟩
  by_cases hz : p.z = 0
  · rw [jJ_p (decide_eq_true hz)]
    rw [repJ_none hs h ((dv_zero hl.2.2).2 hz), gsum_no_left ht]
    exact k
  by_cases kz : q.z = 0
  · rw [jJ_q (decide_eq_false hz) (decide_eq_true kz)]
    rw [repJ_none ht k ((dv_zero kl.2.2).2 kz), gsum_no hs]
    exact h
  have hz' : ¬ C1 (dv p.z) 0 := fun h0 => hz ((dv_zero hl.2.2).1 h0)
  have kz' : ¬ C1 (dv q.z) 0 := fun h0 => kz ((dv_zero kl.2.2).1 h0)
  obtain ⟨x1, y1, rfl, o1, hx1, hy1⟩ := repJ_some hs h hz'
  obtain ⟨x2, y2, rfl, o2, hx2, hy2⟩ := repJ_some ht k kz'
  have hw := mul_ne2 hz' kz'
  have hu : C1 (dv (jU p q)) (x1 * (dv p.z * dv q.z * (dv p.z * dv q.z))) := ((dJu hl kl).trans (hx1.mul (Cz.refl _ _))).trans (Cz.of_eq (by grind))
  have hv : C1 (dv (jV p q)) (x2 * (dv p.z * dv q.z * (dv p.z * dv q.z))) := ((dJv hl kl).trans (hx2.mul (Cz.refl _ _))).trans (Cz.of_eq (by grind))
  have hS : C1 (dv (jS p q)) (y1 * (dv p.z * dv q.z * (dv p.z * dv q.z) * (dv p.z * dv q.z))) := ((dJs hl kl).trans (hy1.mul (Cz.refl _ _))).trans (Cz.of_eq (by grind))
  have hT : C1 (dv (jT p q)) (y2 * (dv p.z * dv q.z * (dv p.z * dv q.z) * (dv p.z * dv q.z))) := ((dJt hl kl).trans (hy2.mul (Cz.refl _ _))).trans (Cz.of_eq (by grind))
  have hsum := gsum_is hs ht
  by_cases hU : jU p q = jV p q
  · have e1 : C1 (x1 : Int) x2 := by
      have e := hu.symm.trans ((Cz.of_eq (by rw [hU])).trans hv)
      exact cz_cancel pr1 (a := dv p.z * dv q.z * (dv p.z * dv q.z)) (e.lc1 1 (by grind)) (mul_ne2 hw hw)
    by_cases hV : jS p q = jT p q
    · have e2 : C1 (y1 : Int) y2 := by
        have e := hS.symm.trans ((Cz.of_eq (by rw [hV])).trans hT)
        exact cz_cancel pr1 (a := dv p.z * dv q.z * (dv p.z * dv q.z) * (dv p.z * dv q.z)) (e.lc1 1 (by grind)) (mul_ne2 (mul_ne2 hw hw) hw)
      rw [jJ_d (decide_eq_false hz) (decide_eq_false kz) (decide_eq_true hU) (decide_eq_true hV)]
      have e : (⟨x1, y1, false⟩ : Sp) = ⟨x2, y2, false⟩ := hs.eq ht ⟨e1, e2⟩
      rw [← e]
      exact (rj_dbl hs ⟨hl, h⟩).2
    · rw [jJ_n (decide_eq_false hz) (decide_eq_false kz) (decide_eq_true hU) (decide_eq_false hV)]
      have hne : ¬ C1 (y1 : Int) y2 := by
        intro e
        refine hV (dv_inj (mmN_lt (modN_pos 1)) (mmN_lt (modN_pos 1)) (hS.trans ((e.mul (Cz.refl _ _)).trans hT.symm)))
      have hn := isS_turned o1 o2 e1 hne hsum
      have hg : gsum ⟨x1, y1, false⟩ ⟨x2, y2, false⟩ = sNo := (gsum_on hs ht).eq sNo_on (by rw [hn]; trivial)
      rw [hg]
      show C1 (dv 0) 0
      rw [dv_0]; exact Cz.refl _ _
  · rw [jJ_c (decide_eq_false hz) (decide_eq_false kz) (decide_eq_false hU)]
    have hne : ¬ C1 (dv (jU p q)) (dv (jV p q)) := fun e => hU (dv_inj (mmN_lt (modN_pos 1)) (mmN_lt (modN_pos 1)) e)
    exact repJ_c (repJ_chord hw hu hv hS hT o1 o2 hne hsum) (dJx p q) (dJy p q) (dJz hl kl)
theorem rj_step {k j : Nat} {p x : J3} {s : Sp} {a : Nat} (hs : s.on) (hp : RJ p s) (hx : RJ x (gmul s a)) : RJ (jStep k p j x) (gmul s (2 * a + bitN k j)) := by
  have h1 := rj_dbl (gmul_on hs a) hx
  rw [← gmul_add hs a a, ← Nat.two_mul] at h1
  have hb := bitN_le k j
  by_cases h : bitN k j = 1
  · rw [jStep_t (decide_eq_true h), h]
    exact rj_join (gmul_on hs (2 * a)) hs h1 hp
  · rw [jStep_f (decide_eq_false h), show bitN k j = 0 by omega]
    exact h1
theorem rj_timesG {k : Nat} {p : J3} {s : Sp} (hs : s.on) (hp : RJ p s) : ∀ (j : Nat) (x : J3) (a : Nat), RJ x (gmul s a) → a = k / 2 ^ j → RJ (jTimesG k p j x) (gmul s k)
  | 0, x, a, hx, ha => by
    rw [Nat.pow_zero, Nat.div_one] at ha
    subst ha; exact hx
  | j + 1, x, a, hx, ha => by
    refine rj_timesG hs hp j (jStep k p j x) (2 * a + bitN k j) (rj_step hs hp hx) ?_
    subst ha
    unfold bitN
    rw [Nat.pow_succ, ← Nat.div_div_eq_div_mul]
    omega
theorem rj_times {k : Nat} (hk : k < 4294967296 ^ 8) {p : J3} {s : Sp} (hs : s.on) (hp : RJ p s) : RJ (jTimes k p) (gmul s k) := by
  refine rj_timesG hs hp _ _ 0 ?_ ?_
  · exact rj_lift sNo_on
  · rw [Nat.div_eq_of_lt (lenN_spec hk).1]
theorem rj_down {x : J3} {s : Sp} (hs : s.on) (h : RJ x s) : jDx x = s.x ∧ jDy x = s.y ∧ wDi x = s.i := by
  obtain ⟨hl, h⟩ := h
  have hm := modN_pos 1
  unfold jDx jDy wDi
  by_cases h0 : x.z = 0
  · rw [repJ_none hs h ((dv_zero hl.2.2).2 h0), decide_eq_true h0]
    exact ⟨rfl, rfl, rfl⟩
  · have hn : ¬ C1 (dv x.z) 0 := fun e => h0 ((dv_zero hl.2.2).1 e)
    obtain ⟨u, v, rfl, _, hx, hy⟩ := repJ_some hs h hn
    obtain ⟨a, b, c⟩ := Sp.on_some.1 hs
    obtain ⟨k1, k2⟩ := repJ_down (p := ((u : Int), (v : Int))) h (dv_inv hl.2.2 h0)
    have hi := minvN_lt (m := modN 1) (a := x.z) hm
    rw [decide_eq_false h0, cond_false, cond_false]
    refine ⟨?_, ?_, rfl⟩
    · exact Cz.nat (outN_lt hm) a (Cz.trans (dv_mm hl.1 (mmN_lt hm)) (Cz.trans ((Cz.refl _ _).mul (dv_mm hi hi)) k1))
    · exact Cz.nat (outN_lt hm) b (Cz.trans (dv_mm hl.2.1 (mmN_lt hm)) (Cz.trans ((Cz.refl _ _).mul ((dv_mm (mmN_lt hm) hi).trans ((dv_mm hi hi).mul (Cz.refl _ _)))) k2))
end Go.Ev

namespace Go.Ev
open Go Go.Proofs Go.RowKit

def spV (s : Sp) : V1 := P3 s.x s.y s.i
noncomputable def S12w : FuncId → Nat → Bool := fun f t => match f with | 122 => memN t [12, 16] | _ => false
noncomputable def E12w : Env := mkE L11w S12w
theorem envE12w : EnvOK E12w := envMk L11w_ok S12w
theorem wi15 (k : Nat) (px : Nat) (py : Nat) (pi : Bool) : callR E12w 1000 44 [N8 k, P3 px py pi] [] =
    some ([(0 : Int) ≤ (1 : Int) ∧ (1 : Int) < (4 : Int), modN 1 < 4294967296 ^ 8, facR (limb (modN 1) 0) < 4294967296, r2N (modN 1) < 4294967296 ^ 8, px < 4294967296 ^ 8, py < 4294967296 ^ 8, modN 1 = modN 1, facR (limb (modN 1) 0) = facR (limb (modN 1) 0), r2N (modN 1) = r2N (modN 1), pi = true ∨ px < modN 1 ∧ py < modN 1, modN 1 < 4294967296 ^ 8, facR (limb (modN 1) 0) < 4294967296, r2N (modN 1) < 4294967296 ^ 8, k < 4294967296 ^ 8, (jLift px py pi).1 < 4294967296 ^ 8, (jLift px py pi).2 < 4294967296 ^ 8, (jLift px py pi).3 < 4294967296 ^ 8, modN 1 = modN 1, facR (limb (modN 1) 0) = facR (limb (modN 1) 0), r2N (modN 1) = r2N (modN 1), J3.lt (J3.mk (J3.x (jLift px py pi)) (J3.y (jLift px py pi)) (J3.z (jLift px py pi))), modN 1 < 4294967296 ^ 8, facR (limb (modN 1) 0) < 4294967296, r2N (modN 1) < 4294967296 ^ 8, (jTimes k (J3.mk (J3.x (jLift px py pi)) (J3.y (jLift px py pi)) (J3.z (jLift px py pi)))).1 < 4294967296 ^ 8, (jTimes k (J3.mk (J3.x (jLift px py pi)) (J3.y (jLift px py pi)) (J3.z (jLift px py pi)))).2 < 4294967296 ^ 8, (jTimes k (J3.mk (J3.x (jLift px py pi)) (J3.y (jLift px py pi)) (J3.z (jLift px py pi)))).3 < 4294967296 ^ 8, modN 1 = modN 1, facR (limb (modN 1) 0) = facR (limb (modN 1) 0), r2N (modN 1) = r2N (modN 1), J3.lt (J3.mk (J3.x (jTimes k (J3.mk (J3.x (jLift px py pi)) (J3.y (jLift px py pi)) (J3.z (jLift px py pi))))) (J3.y (jTimes k (J3.mk (J3.x (jLift px py pi)) (J3.y (jLift px py pi)) (J3.z (jLift px py pi))))) (J3.z (jTimes k (J3.mk (J3.x (jLift px py pi)) (J3.y (jLift px py pi)) (J3.z (jLift px py pi))))))], .val (P3 (jDx (jTimes k (jLift px py pi))) (jDy (jTimes k (jLift px py pi))) (wDi (jTimes k (jLift px py pi))))) := by kernel_rfl
theorem wi39 (k : Nat) (px : Nat) (py : Nat) (pi : Bool) : callR E12w 1000 30 [N8 k, P3 px py pi] [] =
    some ([modN 1 < 4294967296 ^ 8, facN 1 < 4294967296, wBi < 4294967296 ^ 8, px < 4294967296 ^ 8, py < 4294967296 ^ 8, modN 1 = modN 1, facN 1 = facN 1, wBi = wBi, pi = true ∨ px < modN 1 ∧ py < modN 1, modN 1 < 4294967296 ^ 8, facN 1 < 4294967296, wBi < 4294967296 ^ 8, k < 4294967296 ^ 8, (wLift px py pi).1 < 4294967296 ^ 8, (wLift px py pi).2 < 4294967296 ^ 8, (wLift px py pi).3 < 4294967296 ^ 8, modN 1 = modN 1, facN 1 = facN 1, wBi = wBi, J3.lt (J3.mk (J3.x (wLift px py pi)) (J3.y (wLift px py pi)) (J3.z (wLift px py pi))), modN 1 < 4294967296 ^ 8, facN 1 < 4294967296, wBi < 4294967296 ^ 8, (wTimes k (J3.mk (J3.x (wLift px py pi)) (J3.y (wLift px py pi)) (J3.z (wLift px py pi)))).1 < 4294967296 ^ 8, (wTimes k (J3.mk (J3.x (wLift px py pi)) (J3.y (wLift px py pi)) (J3.z (wLift px py pi)))).2 < 4294967296 ^ 8, (wTimes k (J3.mk (J3.x (wLift px py pi)) (J3.y (wLift px py pi)) (J3.z (wLift px py pi)))).3 < 4294967296 ^ 8, modN 1 = modN 1, facN 1 = facN 1, wBi = wBi, J3.lt (J3.mk (J3.x (wTimes k (J3.mk (J3.x (wLift px py pi)) (J3.y (wLift px py pi)) (J3.z (wLift px py pi))))) (J3.y (wTimes k (J3.mk (J3.x (wLift px py pi)) (J3.y (wLift px py pi)) (J3.z (wLift px py pi))))) (J3.z (wTimes k (J3.mk (J3.x (wLift px py pi)) (J3.y (wLift px py pi)) (J3.z (wLift px py pi))))))], .val (P3 (wDx (wTimes k (wLift px py pi))) (wDy (wTimes k (wLift px py pi))) (wDi (wTimes k (wLift px py pi))))) := by kernel_rfl
theorem spec15g {k : Nat} (hk : k < 4294967296 ^ 8) {px py : Nat} {pi : Bool} (hp : Sp.on ⟨px, py, pi⟩) : Spec 44 [N8 k, P3 px py pi] (.val (spV (gmul ⟨px, py, pi⟩ k))) := by
  have hwb := wBi_lt
  have hx := L8 hp.lx
  have hy := L8 hp.ly
  have hl := hp.lt
  simp only at hx hy hl
  have hA := jLift_lt px py pi
  obtain ⟨hA1, hA2, hA3⟩ := id hA
  have hC := jTimes_lt (k := k) hA
  obtain ⟨hC1, hC2, hC3⟩ := id hC
  have hE := hC
  have hd := rj_down (gmul_on hp k) (rj_times hk hp (rj_lift hp))
  have hJ := hE
  obtain ⟨hJ1, hJ2, hJ3⟩ := id hJ
  have h := spec_run envE12w rfl (wi15 k px py pi) ⟨(by decide), (modN_lt _), (facR_lt32 _), (L8 (r2N_lt (by decide))), (by first | with_reducible assumption | with_reducible exact L8 (by with_reducible assumption) | exact decide_eq_true (by omega) | exact decide_eq_false (by omega) | omega), (by first | with_reducible assumption | with_reducible exact L8 (by with_reducible assumption) | exact decide_eq_true (by omega) | exact decide_eq_false (by omega) | omega), rfl, rfl, rfl, (by first | with_reducible assumption | with_reducible exact L8 (by with_reducible assumption) | exact decide_eq_true (by omega) | exact decide_eq_false (by omega) | omega), (modN_lt _), (facR_lt32 _), (L8 (r2N_lt (by decide))), (by first | with_reducible assumption | with_reducible exact L8 (by with_reducible assumption) | exact decide_eq_true (by omega) | exact decide_eq_false (by omega) | omega), (by first | with_reducible assumption | with_reducible exact L8 (by with_reducible assumption) | exact decide_eq_true (by omega) | exact decide_eq_false (by omega) | omega), (by first | with_reducible assumption | with_reducible exact L8 (by with_reducible assumption) | exact decide_eq_true (by omega) | exact decide_eq_false (by omega) | omega), (by first | with_reducible assumption | with_reducible exact L8 (by with_reducible assumption) | exact decide_eq_true (by omega) | exact decide_eq_false (by omega) | omega), rfl, rfl, rfl, (by first | with_reducible assumption | with_reducible exact L8 (by with_reducible assumption) | exact decide_eq_true (by omega) | exact decide_eq_false (by omega) | omega), (modN_lt _), (facR_lt32 _), (L8 (r2N_lt (by decide))), (by first | with_reducible assumption | with_reducible exact L8 (by with_reducible assumption) | exact decide_eq_true (by omega) | exact decide_eq_false (by omega) | omega), (by first | with_reducible assumption | with_reducible exact L8 (by with_reducible assumption) | exact decide_eq_true (by omega) | exact decide_eq_false (by omega) | omega), (by first | with_reducible assumption | with_reducible exact L8 (by with_reducible assumption) | exact decide_eq_true (by omega) | exact decide_eq_false (by omega) | omega), rfl, rfl, rfl, (by first | with_reducible assumption | with_reducible exact L8 (by with_reducible assumption) | exact decide_eq_true (by omega) | exact decide_eq_false (by omega) | omega), trivial⟩ rfl rfl
  obtain ⟨d1, d2, d3⟩ := hd
  rw [d1, d2, d3] at h
  exact h
theorem spec39g {k : Nat} (hk : k < 4294967296 ^ 8) {px py : Nat} {pi : Bool} (hp : Sp.on ⟨px, py, pi⟩) : Spec 30 [N8 k, P3 px py pi] (.val (spV (gmul ⟨px, py, pi⟩ k))) := by
  have hwb := wBi_lt
  have hx := L8 hp.lx
  have hy := L8 hp.ly
  have hl := hp.lt
  simp only at hx hy hl
  have hA := wLift_lt px py pi
  obtain ⟨hA1, hA2, hA3⟩ := id hA
  have hC := wTimes_lt k (wLift px py pi)
  obtain ⟨hC1, hC2, hC3⟩ := id hC
  have hE := hC
  have hd := rw_down (gmul_on hp k) (rw_times hk hp (rw_lift hp))
  have hJ := hE
  obtain ⟨hJ1, hJ2, hJ3⟩ := id hJ
  have h := spec_run envE12w rfl (wi39 k px py pi) ⟨(modN_lt _), (facN_lt32 1), (by first | with_reducible assumption | with_reducible exact L8 (by with_reducible assumption) | exact decide_eq_true (by omega) | exact decide_eq_false (by omega) | omega), (by first | with_reducible assumption | with_reducible exact L8 (by with_reducible assumption) | exact decide_eq_true (by omega) | exact decide_eq_false (by omega) | omega), (by first | with_reducible assumption | with_reducible exact L8 (by with_reducible assumption) | exact decide_eq_true (by omega) | exact decide_eq_false (by omega) | omega), rfl, rfl, rfl, (by first | with_reducible assumption | with_reducible exact L8 (by with_reducible assumption) | exact decide_eq_true (by omega) | exact decide_eq_false (by omega) | omega), (modN_lt _), (facN_lt32 1), (by first | with_reducible assumption | with_reducible exact L8 (by with_reducible assumption) | exact decide_eq_true (by omega) | exact decide_eq_false (by omega) | omega), (by first | with_reducible assumption | with_reducible exact L8 (by with_reducible assumption) | exact decide_eq_true (by omega) | exact decide_eq_false (by omega) | omega), (by first | with_reducible assumption | with_reducible exact L8 (by with_reducible assumption) | exact decide_eq_true (by omega) | exact decide_eq_false (by omega) | omega), (by first | with_reducible assumption | with_reducible exact L8 (by with_reducible assumption) | exact decide_eq_true (by omega) | exact decide_eq_false (by omega) | omega), (by first | with_reducible assumption | with_reducible exact L8 (by with_reducible assumption) | exact decide_eq_true (by omega) | exact decide_eq_false (by omega) | omega), rfl, rfl, rfl, (by first | with_reducible assumption | with_reducible exact L8 (by with_reducible assumption) | exact decide_eq_true (by omega) | exact decide_eq_false (by omega) | omega), (modN_lt _), (facN_lt32 1), (by first | with_reducible assumption | with_reducible exact L8 (by with_reducible assumption) | exact decide_eq_true (by omega) | exact decide_eq_false (by omega) | omega), (by first | with_reducible assumption | with_reducible exact L8 (by with_reducible assumption) | exact decide_eq_true (by omega) | exact decide_eq_false (by omega) | omega), (by first | with_reducible assumption | with_reducible exact L8 (by with_reducible assumption) | exact decide_eq_true (by omega) | exact decide_eq_false (by omega) | omega), (by first | with_reducible assumption | with_reducible exact L8 (by with_reducible assumption) | exact decide_eq_true (by omega) | exact decide_eq_false (by omega) | omega), rfl, rfl, rfl, (by first | with_reducible assumption | with_reducible exact L8 (by with_reducible assumption) | exact decide_eq_true (by omega) | exact decide_eq_false (by omega) | omega), trivial⟩ rfl rfl
  obtain ⟨d1, d2, d3⟩ := hd
  rw [d1, d2, d3] at h
  exact h
end Go.Ev

namespace Go.Ev
open Go Go.Proofs Go.RowKit

noncomputable def gMulP : List Val → Option (List Prop × AV)
  | [.n k, .n px, .n py, .b pi] => some ([onS px py pi = true], .val (spV (gmul ⟨px, py, pi⟩ k)))
  | _ => none
theorem ct39q : CTok ⟨30, fnS [aN, aSp] gMulP⟩ := ctS (by
  intro xs ob r hb h ho
  unfold gMulP at h
  split at h
  · rename_i k px py pi
    simp only [Option.some.injEq, Prod.mk.injEq] at h
    obtain ⟨rfl, rfl⟩ := h
    obtain ⟨⟨b0, _⟩, _⟩ := hb
    exact spec39g b0 ho.1
  · simp at h)
noncomputable def gMulQ : List Val → Option (List Prop × AV)
  | [.n k, .n px, .n py, .b pi] => some ([onS px py pi = true], .val (spV (gmul ⟨px, py, pi⟩ k)))
  | _ => none
theorem ct15q : CTok ⟨44, fnS [aN, aSp] gMulQ⟩ := ctS (by
  intro xs ob r hb h ho
  unfold gMulQ at h
  split at h
  · rename_i k px py pi
    simp only [Option.some.injEq, Prod.mk.injEq] at h
    obtain ⟨rfl, rfl⟩ := h
    obtain ⟨⟨b0, _⟩, _⟩ := hb
    exact spec15g b0 ho.1
  · simp at h)
theorem on_base : onS wXN wYN false = true := by
  refine Sp.on_some.2 ⟨wXN_lt, wYN_lt, (onW_iff wXN_lt wYN_lt).1 ?_⟩
  rw [eqW_in]
  decide +kernel
end Go.Ev

namespace Go.Ev
open Go Go.Proofs Go.RowKit Go.NT

section
variable (p q : J3)
end
theorem base_on : Sp.on ⟨wXN, wYN, false⟩ := on_base
end Go.Ev

namespace Go.Ev
open Go Go.Proofs Go.RowKit

theorem numsB_length (s : ByteArray) : (numsB s).length = s.size := by simp [numsB]
def leN : List Nat → Nat
  | [] => 0
  | b :: bs => b + 256 * leN bs
def leS (s : ByteArray) : Nat := leN (numsB s)
def leB (n x : Nat) : List Nat := (List.range n).map fun j => x / 256 ^ j % 256
theorem leN_lt : ∀ l : List Nat, (∀ b ∈ l, b < 256) → leN l < 256 ^ l.length
  | [], _ => by simp [leN]
  | b :: l, h => by
    have h1 := leN_lt l (fun x hx => h x (by simp [hx]))
    have h2 := h b (by simp)
    simp only [leN, List.length_cons, Nat.pow_succ]; omega
theorem numsB_lt (s : ByteArray) : ∀ b ∈ numsB s, b < 256 := by
  intro b hb
  simp only [numsB, List.mem_map] at hb
  obtain ⟨x, _, rfl⟩ := hb
  exact UInt8.toNat_lt x
theorem leS_lt (s : ByteArray) : leS s < 256 ^ s.size := by
  have := leN_lt (numsB s) (numsB_lt s)
  rwa [numsB_length] at this
theorem numsB_strOf (l : List Nat) (h : ∀ b ∈ l, b < 256) : numsB (strOf l) = l := by
  unfold numsB strOf
  rw [List.map_map]
  conv => rhs; rw [← List.map_id l]
  apply List.map_congr_left
  intro b hb
  have := h b hb
  simp [Function.comp, UInt8.toNat_ofNat', Nat.mod_eq_of_lt this]
theorem strOf_size (l : List Nat) : (strOf l).size = l.length := by simp [strOf, ByteArray.size]
theorem strOf_numsB (s : ByteArray) : strOf (numsB s) = s := by
  unfold strOf numsB
  rw [List.map_map]
  have : ((fun n => UInt8.ofNat n) ∘ UInt8.toNat) = id := by funext x; simp [Function.comp]
  rw [this]; simp
theorem leB_length (n x : Nat) : (leB n x).length = n := by simp [leB]
theorem leB_lt (n x : Nat) : ∀ b ∈ leB n x, b < 256 := by
  intro b hb
  simp only [leB, List.mem_map] at hb
  obtain ⟨j, _, rfl⟩ := hb
  exact Nat.mod_lt _ (by decide)
theorem orSh {a k : Nat} (x : Nat) (ha : a < 2 ^ k) : a ||| x * 2 ^ k = a + x * 2 ^ k := by
  have := Nat.two_pow_add_eq_or_of_lt ha x
  rw [Nat.or_comm, Nat.mul_comm x, ← this, Nat.add_comm]
def ls (acc x k : Nat) : Nat := acc % 4294967296 ||| x % 4294967296 * 2 ^ k % 4294967296 % 4294967296
theorem ls_eq {acc x k : Nat} (ha : acc < 2 ^ k) (hx : x < 256) (hk : k ≤ 24) : ls acc x k = acc + x * 2 ^ k ∧ acc + x * 2 ^ k < 2 ^ (k + 8) := by
  have h1 : acc + x * 2 ^ k < 2 ^ (k + 8) := by
    have : x * 2 ^ k ≤ 255 * 2 ^ k := Nat.mul_le_mul_right _ (by omega)
    rw [Nat.pow_add]; omega
  have h2 : 2 ^ (k + 8) ≤ 4294967296 := Nat.pow_le_pow_right (n := 2) (j := 32) (by decide) (by omega)
  refine ⟨?_, h1⟩
  unfold ls
  rw [Nat.mod_eq_of_lt (show acc < 4294967296 by omega), Nat.mod_eq_of_lt (show x < 4294967296 by omega), Nat.mod_eq_of_lt (show x * 2 ^ k < 4294967296 by omega), Nat.mod_eq_of_lt (show x * 2 ^ k < 4294967296 by omega)]
  exact orSh x ha

def strB (n : Nat) (b : Nat → UInt8) : ByteArray := ⟨((List.range n).map b).toArray⟩
theorem strB_of {s : ByteArray} {n : Nat} (h : s.size = n) : s = strB n (fun i => s.data.getD i 0) := by
  subst h
  apply ByteArray.ext
  apply Array.ext
  · simp [strB]
  · intro i h1 h2
    simp only [strB, List.getElem_toArray, List.getElem_map, List.getElem_range]
    rw [Array.getD_eq_getD_getElem?, Array.getElem?_eq_getElem h1]; rfl
theorem numsB_strB (n : Nat) (b : Nat → UInt8) : numsB (strB n b) = (List.range n).map fun i => (b i).toNat := by
  simp [numsB, strB, List.map_map, Function.comp]
end Go.Ev

namespace Go.Ev
open Go Go.Proofs Go.RowKit
def sS (s : ByteArray) : V1 := .one (.v (.string s))
def ol (b : Nat → UInt8) (i : Nat) : Nat := ls (ls (ls (ls 0 (b (4 * i)).toNat 0) (b (4 * i + 1)).toNat 8) (b (4 * i + 2)).toNat 16) (b (4 * i + 3)).toNat 24
def lbt (u : Nat → Nat) (j : Nat) : Nat := u (j / 4) / 2 ^ (8 * (j % 4)) % 256
theorem run99a (b : Nat → UInt8) : callR E0 1000 114 [sS (strB 32 b)] [] = some ([], .tup [C8 (ol b), .one (.i 0)]) := by kernel_rfl
theorem run102a (b : Nat → UInt8) : callR E0 1000 87 [sS (strB 32 b)] [] = some ([], .val (C8 (ol b))) := by kernel_rfl
theorem run98a (u : Nat → Nat) : callR E0 1000 86 [C8 u] [] = some ([], .val (sS (strOf ((List.range 32).map (lbt u))))) := by kernel_rfl
theorem ol_eq (b : Nat → UInt8) (i : Nat) : ol b i = (b (4 * i)).toNat + 256 * (b (4 * i + 1)).toNat + 65536 * (b (4 * i + 2)).toNat + 16777216 * (b (4 * i + 3)).toNat ∧ ol b i < 4294967296 := by
  have h0 := UInt8.toNat_lt (b (4 * i))
  have h1 := UInt8.toNat_lt (b (4 * i + 1))
  have h2 := UInt8.toNat_lt (b (4 * i + 2))
  have h3 := UInt8.toNat_lt (b (4 * i + 3))
  unfold ol
  rw [(ls_eq (acc := 0) (k := 0) (by decide) h0 (by decide)).1, (ls_eq (k := 8) (by omega) h1 (by decide)).1, (ls_eq (k := 16) (by omega) h2 (by decide)).1, (ls_eq (k := 24) (by omega) h3 (by decide)).1]
  omega
theorem ol_val (s : ByteArray) (b : Nat → UInt8) (e : s = strB 32 b) : valU 8 0 (ol b) = leS s := by
  rw [e, leS, numsB_strB]
  have q := fun i => (ol_eq b i).1
  simp only [valU, q, Nat.zero_add, Nat.reduceAdd, Nat.reduceMul, show List.range 32 = [0, 1, 2, 3, 4, 5, 6, 7, 8, 9, 10, 11, 12, 13, 14, 15, 16, 17, 18, 19, 20, 21, 22, 23, 24, 25, 26, 27, 28, 29, 30, 31] from rfl, List.map_cons, List.map_nil, leN]
  omega
theorem spec99s (s : ByteArray) (h : s.size = 32) : Spec 114 [sS s] (.tup [N8 (leS s), .one (.i 0)]) := by
  have e := strB_of h
  generalize hb : (fun i => s.data.getD i 0) = b at e
  have h := spec_run envE0 rfl (run99a b) trivial rfl rfl
  refine h.congr (fun φ => by rw [e]) (fun φ => ?_)
  simp only [AV.conc, List.map_cons, List.map_nil]
  rw [conc_C8v φ (fun i _ => (ol_eq b i).2) (ol_val s b e)]
theorem spec102s (s : ByteArray) (h : s.size = 32) : Spec 87 [sS s] (.val (N8 (leS s))) := by
  have e := strB_of h
  generalize hb : (fun i => s.data.getD i 0) = b at e
  have h := spec_run envE0 rfl (run102a b) trivial rfl rfl
  refine h.congr (fun φ => by rw [e]) (fun φ => ?_)
  exact conc_C8v φ (fun i _ => (ol_eq b i).2) (ol_val s b e)
theorem limb_eqD (a : Nat) : ∀ i, limb a i = a / 4294967296 ^ i % 4294967296 := fun _ => rfl
theorem lb4 (x r : Nat) (h : r < 4) : x % 4294967296 / 2 ^ (8 * r) % 256 = x / 2 ^ (8 * r) % 256 := by
  match r, h with
  | 0, _ => simp only [Nat.reduceMul, Nat.reducePow]; omega
  | 1, _ => simp only [Nat.reduceMul, Nat.reducePow]; omega
  | 2, _ => simp only [Nat.reduceMul, Nat.reducePow]; omega
  | 3, _ => simp only [Nat.reduceMul, Nat.reducePow]; omega
theorem pow4 (j : Nat) : 256 ^ j = 4294967296 ^ (j / 4) * 2 ^ (8 * (j % 4)) := by
  have h1 : (4294967296 : Nat) ^ (j / 4) = 256 ^ (4 * (j / 4)) := by rw [Nat.pow_mul]
  have h2 : (2 : Nat) ^ (8 * (j % 4)) = 256 ^ (j % 4) := by rw [Nat.pow_mul]
  rw [h1, h2, ← Nat.pow_add, Nat.div_add_mod]
theorem lbt_eq (a j : Nat) : lbt (limb a) j = a / 256 ^ j % 256 := by
  unfold lbt
  rw [limb_eqD, lb4 _ _ (Nat.mod_lt _ (by decide)), pow4, ← Nat.div_div_eq_div_mul]
theorem lbt_leB (a : Nat) : (List.range 32).map (lbt (limb a)) = leB 32 a := by
  unfold leB
  exact List.map_congr_left fun j _ => lbt_eq a j
theorem spec98s (a : Nat) : Spec 86 [N8 a] (.val (sS (strOf (leB 32 a)))) := by
  have h := spec_run envE0 rfl (run98a (limb a)) trivial rfl rfl
  rw [lbt_leB] at h
  exact h.congr (fun φ => by simp only [List.map_cons, List.map_nil, conc_C8]) (fun φ => rfl)
end Go.Ev

