/- Sums of numbers, bytes, and spots -/
import Derived.Test.YtfcobjhnkghdjaaGreatPartU
namespace Go.Ev
open Go Go.Proofs Go.RowKit Go.NT

noncomputable def dv (a : Nat) : Int := ((outN (modN 1) a : Nat) : Int)
theorem q1 : goodF (modN 1) (facN 1) := good_fac (by decide)
theorem dv_mm {a b : Nat} (ha : a < modN 1) (hb : b < modN 1) : C1 (dv (mmN (modN 1) a b)) (dv a * dv b) := by
  have h := in_mul (k := 1) (by decide) (outN (modN 1) a) (outN (modN 1) b)
  rw [in_out (modN_lt 1) q1 ha, in_out (modN_lt 1) q1 hb] at h
  unfold dv
  rw [h, out_in (modN_lt 1) q1 (mulM_lt (modN_pos 1))]
  exact cz_mul _ _
theorem dv_add {a b : Nat} (ha : a < modN 1) (hb : b < modN 1) : C1 (dv (addM (modN 1) a b)) (dv a + dv b) := by
  have h := in_add (m := modN 1) (outN (modN 1) a) (outN (modN 1) b)
  rw [in_out (modN_lt 1) q1 ha, in_out (modN_lt 1) q1 hb] at h
  unfold dv
  rw [h, out_in (modN_lt 1) q1 (addM_lt (modN_pos 1))]
  exact cz_add _ _
theorem dv_sub {a b : Nat} (ha : a < modN 1) (hb : b < modN 1) : C1 (dv (subM (modN 1) a b)) (dv a - dv b) := by
  have ho := outN_lt (m := modN 1) (c := b) (modN_pos 1)
  have h := in_sub (m := modN 1) (modN_pos 1) (a := outN (modN 1) a) ho
  rw [in_out (modN_lt 1) q1 ha, in_out (modN_lt 1) q1 hb] at h
  unfold dv
  rw [h, out_in (modN_lt 1) q1 (subM_lt (modN_pos 1))]
  exact cz_sub ho
theorem dv_in {x : Nat} (hx : x < modN 1) : dv (inN (modN 1) x) = x := by unfold dv; rw [out_in (modN_lt 1) q1 hx]
theorem dv_0 : dv 0 = 0 := by
  have h := dv_in (modN_pos 1)
  rw [in_eq, Nat.zero_mul, Nat.zero_mod] at h
  exact h
theorem dv_inj {a b : Nat} (ha : a < modN 1) (hb : b < modN 1) (h : C1 (dv a) (dv b)) : a = b := by
  have h1 := Cz.nat (outN_lt (m := modN 1) (c := a) (modN_pos 1)) (outN_lt (m := modN 1) (c := b) (modN_pos 1)) h
  rw [← in_out (modN_lt 1) q1 ha, h1, in_out (modN_lt 1) q1 hb]
theorem dv_zero {a : Nat} (ha : a < modN 1) : C1 (dv a) 0 ↔ a = 0 := by
  constructor
  · intro h
    rw [← dv_0] at h
    exact dv_inj ha (modN_pos 1) h
  · rintro rfl
    rw [dv_0]; exact Cz.refl _ _
theorem dv_one : dv (inN (modN 1) 1) = 1 := dv_in (modN_one 1)
theorem dv_inv {a : Nat} (ha : a < modN 1) (h : a ≠ 0) : C1 (dv a * dv (minvN (modN 1) a)) 1 := by
  have ho := outN_lt (m := modN 1) (c := a) (modN_pos 1)
  have h1 := inv_cz (k := 1) (by decide) ho (fun h0 => h ((dv_zero ha).1 h0))
  have e : dv (minvN (modN 1) a) = ((invP 1 (outN (modN 1) a) : Nat) : Int) := by
    unfold minvN
    rw [mpow_in, dv_in (show Go.NT.pwM _ _ _ < modN 1 from Nat.mod_lt _ (modN_pos 1))]
    rfl
  rw [e]; exact h1
theorem dv_mcr {a b c d e f : Nat} (ha : a < modN 1) (hb : b < modN 1) (hc : c < modN 1) (hd : d < modN 1) (he : e < modN 1) (hf : f < modN 1) : C1 (dv (mcr a b c d e f)) ((dv a + dv b) * (dv c + dv d) - (dv e + dv f)) := by
  unfold mcr
  have hm := modN_pos 1
  exact (dv_sub (mmN_lt hm) (addM_lt hm)).trans (((dv_mm (addM_lt hm) (addM_lt hm)).trans ((dv_add ha hb).mul (dv_add hc hd))).sub (dv_add he hf))
theorem dv_mtr {a : Nat} (ha : a < modN 1) : C1 (dv (mtr a)) (3 * dv a) := by
  unfold mtr
  have hm := modN_pos 1
  exact ((dv_add (addM_lt hm) ha).trans ((dv_add ha ha).add (Cz.refl _ _))).trans (Cz.of_eq (by omega))
theorem dv_wB : dv wBi = wB := dv_in wBN_lt

section
variable {p q : J3} (hp : p.lt) (hq : q.lt)
include hp hq
theorem dXX : C1 (dv (mXX p q)) (wxx (dv p.x) (dv p.y) (dv p.z) (dv q.x) (dv q.y) (dv q.z)) := dv_mm hp.1 hq.1
theorem dYY : C1 (dv (mYY p q)) (wyy (dv p.x) (dv p.y) (dv p.z) (dv q.x) (dv q.y) (dv q.z)) := dv_mm hp.2.1 hq.2.1
theorem dZZ : C1 (dv (mZZ p q)) (wzz (dv p.x) (dv p.y) (dv p.z) (dv q.x) (dv q.y) (dv q.z)) := dv_mm hp.2.2 hq.2.2
theorem dXY : C1 (dv (mXY p q)) (wxy (dv p.x) (dv p.y) (dv p.z) (dv q.x) (dv q.y) (dv q.z)) :=
  ((dv_mcr hp.1 hp.2.1 hq.1 hq.2.1 (mmN_lt (modN_pos 1)) (mmN_lt (modN_pos 1))).trans ((Cz.refl _ _).sub ((dXX hp hq).add (dYY hp hq)))).trans (Cz.of_eq (by unfold wxy wxx wyy; grind))
theorem dYZ : C1 (dv (mYZ p q)) (wyz (dv p.x) (dv p.y) (dv p.z) (dv q.x) (dv q.y) (dv q.z)) :=
  ((dv_mcr hp.2.1 hp.2.2 hq.2.1 hq.2.2 (mmN_lt (modN_pos 1)) (mmN_lt (modN_pos 1))).trans ((Cz.refl _ _).sub ((dYY hp hq).add (dZZ hp hq)))).trans (Cz.of_eq (by unfold wyz wyy wzz; grind))
theorem dXZ : C1 (dv (mXZ p q)) (wxz (dv p.x) (dv p.y) (dv p.z) (dv q.x) (dv q.y) (dv q.z)) :=
  ((dv_mcr hp.1 hp.2.2 hq.1 hq.2.2 (mmN_lt (modN_pos 1)) (mmN_lt (modN_pos 1))).trans ((Cz.refl _ _).sub ((dXX hp hq).add (dZZ hp hq)))).trans (Cz.of_eq (by unfold wxz wxx wzz; grind))
theorem dSi : C1 (dv (mSi p q)) (wsi wB (dv p.x) (dv p.y) (dv p.z) (dv q.x) (dv q.y) (dv q.z)) := by
  have hm := modN_pos 1
  have h := (dv_mm wBi_lt (mmN_lt hm)).trans ((Cz.of_eq dv_wB).mul (dZZ hp hq))
  exact (dv_mtr (subM_lt hm)).trans ((Cz.refl _ 3).mul ((dv_sub mcr_lt (mmN_lt hm)).trans ((dXZ hp hq).sub h)))
theorem dLe : C1 (dv (mLe p q)) (wle wB (dv p.x) (dv p.y) (dv p.z) (dv q.x) (dv q.y) (dv q.z)) := (dv_sub (mmN_lt (modN_pos 1)) mtr_lt).trans ((dYY hp hq).sub (dSi hp hq))
theorem dRi : C1 (dv (mRi p q)) (wri wB (dv p.x) (dv p.y) (dv p.z) (dv q.x) (dv q.y) (dv q.z)) := (dv_add (mmN_lt (modN_pos 1)) mtr_lt).trans ((dYY hp hq).add (dSi hp hq))
theorem dZ3 : C1 (dv (mZ3 p q)) (wz3 (dv p.x) (dv p.y) (dv p.z) (dv q.x) (dv q.y) (dv q.z)) := (dv_mtr (mmN_lt (modN_pos 1))).trans ((Cz.refl _ 3).mul (dZZ hp hq))
theorem dMM : C1 (dv (mMM p q)) (wmm wB (dv p.x) (dv p.y) (dv p.z) (dv q.x) (dv q.y) (dv q.z)) := by
  have hm := modN_pos 1
  have h := (dv_mm wBi_lt mcr_lt).trans ((Cz.of_eq dv_wB).mul (dXZ hp hq))
  exact (dv_mtr (subM_lt hm)).trans ((Cz.refl _ 3).mul ((dv_sub (subM_lt hm) (mmN_lt hm)).trans (((dv_sub (mmN_lt hm) mtr_lt).trans (h.sub (dZ3 hp hq))).sub (dXX hp hq))))
theorem dNN : C1 (dv (mNN p q)) (wnn (dv p.x) (dv p.y) (dv p.z) (dv q.x) (dv q.y) (dv q.z)) :=
  (dv_sub mtr_lt mtr_lt).trans (((dv_mtr (mmN_lt (modN_pos 1))).trans ((Cz.refl _ 3).mul (dXX hp hq))).sub (dZ3 hp hq))
theorem dAx : C1 (dv (mAdd p q).x) (wX wB (dv p.x) (dv p.y) (dv p.z) (dv q.x) (dv q.y) (dv q.z)) := by
  have hm := modN_pos 1
  exact (dv_sub (mmN_lt hm) (mmN_lt hm)).trans (((dv_mm mcr_lt (addM_lt hm)).trans ((dXY hp hq).mul (dRi hp hq))).sub ((dv_mm mcr_lt mtr_lt).trans ((dYZ hp hq).mul (dMM hp hq))))
theorem dAy : C1 (dv (mAdd p q).y) (wY wB (dv p.x) (dv p.y) (dv p.z) (dv q.x) (dv q.y) (dv q.z)) := by
  have hm := modN_pos 1
  exact (dv_add (mmN_lt hm) (mmN_lt hm)).trans (((dv_mm (addM_lt hm) (subM_lt hm)).trans ((dRi hp hq).mul (dLe hp hq))).add ((dv_mm (subM_lt hm) mtr_lt).trans ((dNN hp hq).mul (dMM hp hq))))
theorem dAz : C1 (dv (mAdd p q).z) (wZ wB (dv p.x) (dv p.y) (dv p.z) (dv q.x) (dv q.y) (dv q.z)) := by
  have hm := modN_pos 1
  exact (dv_add (mmN_lt hm) (mmN_lt hm)).trans (((dv_mm mcr_lt (subM_lt hm)).trans ((dYZ hp hq).mul (dLe hp hq))).add ((dv_mm mcr_lt (subM_lt hm)).trans ((dXY hp hq).mul (dNN hp hq))))
end

structure Sp where
  x : Nat
  y : Nat
  i : Bool
def Sp.o (s : Sp) : PtI := match s.i with | true => none | false => some ((s.x : Int), (s.y : Int))
def Sp.on (s : Sp) : Prop := onS s.x s.y s.i = true
def sNo : Sp := ⟨0, 0, true⟩
theorem onW_iff {x y : Nat} (_hx : x < modN 1) (_hy : y < modN 1) : eqW x y = true ↔ OnW x y := by
  have hm := modN_pos 1
  rw [eqW_in, decide_eq_true_iff]
  have h1 := cz_mul (m := modN 1) y y
  have h2 : C1 (sqP x : Nat) ((x : Int) * x * x - 3 * x + wB) := by
    unfold sqP
    exact (cz_add _ _).trans (((cz_sub (addM_lt hm)).trans (((cz_mul _ _).trans ((Cz.refl _ _).mul (cz_mul x x))).sub ((cz_add _ _).trans ((Cz.refl _ _).add (cz_add x x))))).add (Cz.refl _ _) |>.trans (Cz.of_eq (by show (x : Int) * (x * x) - (x + (x + x)) + (wB : Int) = _; grind)))
  unfold OnW
  constructor
  · intro h
    rw [h] at h1
    exact h1.symm.trans h2
  · intro h
    exact Cz.nat (mulM_lt hm) (sqP_lt x) ((h1.trans h).trans h2.symm)
theorem Sp.on_some {x y : Nat} : Sp.on ⟨x, y, false⟩ ↔ x < modN 1 ∧ y < modN 1 ∧ OnW x y := by
  unfold Sp.on onS ltW
  simp only [cond_false, Bool.and_eq_true, decide_eq_true_iff]
  constructor
  · rintro ⟨⟨a, b⟩, c⟩; exact ⟨a, b, (onW_iff a b).1 c⟩
  · rintro ⟨a, b, c⟩; exact ⟨⟨a, b⟩, (onW_iff a b).2 c⟩
theorem Sp.on_none {x y : Nat} : Sp.on ⟨x, y, true⟩ ↔ x = 0 ∧ y = 0 := by
  unfold Sp.on onS
  simp only [cond_true, Bool.and_eq_true, decide_eq_true_iff]
theorem sNo_on : sNo.on := Sp.on_none.2 ⟨rfl, rfl⟩
theorem Sp.on.O {s : Sp} (h : s.on) : OnO s.o := by
  obtain ⟨x, y, i⟩ := s
  cases i with
  | true => trivial
  | false => exact (Sp.on_some.1 h).2.2
theorem Sp.on.lt {s : Sp} (h : s.on) : s.i = true ∨ (s.x < modN 1 ∧ s.y < modN 1) := by
  obtain ⟨x, y, i⟩ := s
  cases i with
  | true => exact .inl rfl
  | false => exact .inr ⟨(Sp.on_some.1 h).1, (Sp.on_some.1 h).2.1⟩
theorem Sp.on.lx {s : Sp} (h : s.on) : s.x < modN 1 := by
  obtain ⟨x, y, i⟩ := s
  cases i with
  | true => obtain ⟨rfl, rfl⟩ := Sp.on_none.1 h; exact modN_pos 1
  | false => exact (Sp.on_some.1 h).1
theorem Sp.on.ly {s : Sp} (h : s.on) : s.y < modN 1 := by
  obtain ⟨x, y, i⟩ := s
  cases i with
  | true => obtain ⟨rfl, rfl⟩ := Sp.on_none.1 h; exact modN_pos 1
  | false => exact (Sp.on_some.1 h).2.1
theorem Sp.on.eq {s t : Sp} (hs : s.on) (ht : t.on) (h : EqO s.o t.o) : s = t := by
  obtain ⟨x, y, i⟩ := s
  obtain ⟨u, v, j⟩ := t
  cases i with
  | true =>
    cases j with
    | true =>
      obtain ⟨rfl, rfl⟩ := Sp.on_none.1 hs
      obtain ⟨rfl, rfl⟩ := Sp.on_none.1 ht
      rfl
    | false => exact h.elim
  | false =>
    cases j with
    | true => exact h.elim
    | false =>
      obtain ⟨a, b, _⟩ := Sp.on_some.1 hs
      obtain ⟨c, d, _⟩ := Sp.on_some.1 ht
      rw [Cz.nat a c h.1, Cz.nat b d h.2]
theorem repW_cong {X Y Z : Int} {p q : PtI} (h : RepW X Y Z p) (e : EqO p q) : RepW X Y Z q := by
  cases p with
  | none =>
    cases q with
    | none => exact h
    | some q => exact e.elim
  | some p =>
    cases q with
    | none => exact e.elim
    | some q => exact ⟨h.1, h.2.1.trans (e.1.mul (Cz.refl _ _)), h.2.2.trans (e.2.mul (Cz.refl _ _))⟩
theorem repW_c {X Y Z X' Y' Z' : Int} {p : PtI} (h : RepW X Y Z p) (hx : C1 X' X) (hy : C1 Y' Y) (hz : C1 Z' Z) : RepW X' Y' Z' p :=
  rep_mul one_ne1 h (hx.trans (Cz.of_eq (by omega))) (hy.trans (Cz.of_eq (by omega))) (hz.trans (Cz.of_eq (by omega)))
theorem czN_lt1 (z : Int) : czN (modN 1) z < modN 1 := by
  have hm := modN_pos 1
  unfold czN
  have := Int.emod_lt_of_pos z (show (0 : Int) < (modN 1 : Int) by omega)
  have := Int.emod_nonneg z (show ((modN 1 : Nat) : Int) ≠ 0 by omega)
  omega
theorem sum_ex {s t : Sp} (hs : s.on) (ht : t.on) : ∃ r : Sp, r.on ∧ IsS s.o t.o r.o := by
  obtain ⟨r, h, ho⟩ := isS_ex hs.O ht.O
  cases r with
  | none => exact ⟨sNo, sNo_on, h⟩
  | some r =>
    have h1 := czN_cz (modN_pos 1) r.1
    have h2 := czN_cz (modN_pos 1) r.2
    refine ⟨⟨czN (modN 1) r.1, czN (modN 1) r.2, false⟩, Sp.on_some.2 ⟨czN_lt1 _, czN_lt1 _, ?_⟩, repW_cong h ⟨h1.symm, h2.symm⟩⟩
    have ho' : OnW r.1 r.2 := ho
    unfold OnW at *
    exact ((h2.mul h2).trans ho').trans ((((h1.mul h1).mul h1).sub ((Cz.refl _ 3).mul h1)).add (Cz.refl _ _)).symm
noncomputable def gsum (s t : Sp) : Sp := @dite Sp (∃ r : Sp, r.on ∧ IsS s.o t.o r.o) (Classical.propDecidable _) (fun h => Classical.choose h) (fun _ => sNo)
theorem gsum_spec {s t : Sp} (hs : s.on) (ht : t.on) : (gsum s t).on ∧ IsS s.o t.o (gsum s t).o := by
  have h := sum_ex hs ht
  unfold gsum
  rw [dif_pos h]
  exact Classical.choose_spec h
theorem gsum_on {s t : Sp} (hs : s.on) (ht : t.on) : (gsum s t).on := (gsum_spec hs ht).1
theorem gsum_is {s t : Sp} (hs : s.on) (ht : t.on) : IsS s.o t.o (gsum s t).o := (gsum_spec hs ht).2
theorem gsum_eq {s t r : Sp} (hs : s.on) (ht : t.on) (hr : r.on) (h : IsS s.o t.o r.o) : gsum s t = r := (gsum_on hs ht).eq hr (isS_uniq (gsum_is hs ht) h)
theorem gsum_comm {s t : Sp} (hs : s.on) (ht : t.on) : gsum s t = gsum t s := gsum_eq hs ht (gsum_on ht hs) (isS_comm (gsum_is ht hs))
theorem gsum_assoc {s t r : Sp} (hs : s.on) (ht : t.on) (hr : r.on) : gsum (gsum s t) r = gsum s (gsum t r) := by
  have h1 := gsum_on hs ht
  have h2 := gsum_on ht hr
  exact (gsum_on h1 hr).eq (gsum_on hs h2) (isS_assoc hs.O ht.O hr.O (gsum_is hs ht) (gsum_is h1 hr) (gsum_is ht hr) (gsum_is hs h2) h2.O h1.O)
theorem gsum_no_left {s : Sp} (hs : s.on) : gsum sNo s = s := gsum_eq sNo_on hs hs (isS_none hs.O)
theorem gsum_no {s : Sp} (hs : s.on) : gsum s sNo = s := by rw [gsum_comm hs sNo_on, gsum_no_left hs]
noncomputable def gmul (s : Sp) : Nat → Sp
  | 0 => sNo
  | k + 1 => gsum (gmul s k) s
theorem gmul_on {s : Sp} (h : s.on) : ∀ k, (gmul s k).on
  | 0 => sNo_on
  | k + 1 => gsum_on (gmul_on h k) h
theorem gmul_add {s : Sp} (h : s.on) (a : Nat) : ∀ b, gmul s (a + b) = gsum (gmul s a) (gmul s b)
  | 0 => (gsum_no (gmul_on h a)).symm
  | b + 1 => by
    show gsum (gmul s (a + b)) s = gsum (gmul s a) (gsum (gmul s b) s)
    rw [gmul_add h a b, gsum_assoc (gmul_on h a) (gmul_on h b) h]
def RW (x : J3) (s : Sp) : Prop := x.lt ∧ RepW (dv x.x) (dv x.y) (dv x.z) s.o
def RJ (x : J3) (s : Sp) : Prop := x.lt ∧ RepJ (dv x.x) (dv x.y) (dv x.z) s.o
theorem rw_add {x y : J3} {s t : Sp} (hs : s.on) (ht : t.on) (hx : RW x s) (hy : RW y t) : RW (mAdd x y) (gsum s t) :=
  ⟨mAdd_lt x y, repW_c (rep_wadd hx.2 hy.2 (gsum_is hs ht)) (dAx hx.1 hy.1) (dAy hx.1 hy.1) (dAz hx.1 hy.1)⟩
theorem rw_lift {s : Sp} (hs : s.on) : RW (wLift s.x s.y s.i) s := by
  obtain ⟨x, y, i⟩ := s
  refine ⟨wLift_lt _ _ _, ?_⟩
  cases i with
  | true =>
    show RepW (dv 0) (dv (inN (modN 1) 1)) (dv 0) none
    rw [dv_0, dv_one]
    exact rep_canon none
  | false =>
    obtain ⟨a, b, c⟩ := Sp.on_some.1 hs
    show RepW (dv (inN (modN 1) x)) (dv (inN (modN 1) y)) (dv (inN (modN 1) 1)) (some ((x : Int), (y : Int)))
    rw [dv_in a, dv_in b, dv_one]
    exact rep_canon (some ((x : Int), (y : Int)))
theorem rw_down {x : J3} {s : Sp} (hs : s.on) (h : RW x s) : wDx x = s.x ∧ wDy x = s.y ∧ wDi x = s.i := by
  obtain ⟨u, v, i⟩ := s
  obtain ⟨hl, h⟩ := h
  have hm := modN_pos 1
  unfold wDx wDy wDi
  cases i with
  | true =>
    obtain ⟨rfl, rfl⟩ := Sp.on_none.1 hs
    rw [decide_eq_true ((dv_zero hl.2.2).1 h.2.2)]
    exact ⟨rfl, rfl, rfl⟩
  | false =>
    obtain ⟨a, b, c⟩ := Sp.on_some.1 hs
    have h0 : ¬ x.z = 0 := fun h0 => h.1 ((dv_zero hl.2.2).2 h0)
    have hi := dv_inv hl.2.2 h0
    obtain ⟨k1, k2⟩ := repW_down h hi
    rw [decide_eq_false h0, cond_false, cond_false]
    refine ⟨?_, ?_, rfl⟩
    · exact Cz.nat (outN_lt hm) a (Cz.trans (dv_mm hl.1 (minvN_lt hm)) k1)
    · exact Cz.nat (outN_lt hm) b (Cz.trans (dv_mm hl.2.1 (minvN_lt hm)) k2)
end Go.Ev

namespace Go.Ev
open Go Go.Proofs Go.RowKit Go.NT

theorem rw_step {k j : Nat} {p x : J3} {s : Sp} {a : Nat} (hs : s.on) (hp : RW p s) (hx : RW x (gmul s a)) : RW (wStep k p j x) (gmul s (2 * a + bitN k j)) := by
  have h1 := rw_add (gmul_on hs a) (gmul_on hs a) hx hx
  rw [← gmul_add hs a a, ← Nat.two_mul] at h1
  unfold wStep bitB
  have hb := bitN_le k j
  by_cases h : bitN k j = 1
  · rw [decide_eq_true h, cond_true, h]
    exact rw_add (gmul_on hs (2 * a)) hs h1 hp
  · rw [decide_eq_false h, cond_false, show bitN k j = 0 by omega]
    exact h1
theorem rw_timesG {k : Nat} {p : J3} {s : Sp} (hs : s.on) (hp : RW p s) : ∀ (j : Nat) (x : J3) (a : Nat), RW x (gmul s a) → a = k / 2 ^ j → RW (wTimesG k p j x) (gmul s k)
  | 0, x, a, hx, ha => by
    rw [Nat.pow_zero, Nat.div_one] at ha
    subst ha; exact hx
  | j + 1, x, a, hx, ha => by
    refine rw_timesG hs hp j (wStep k p j x) (2 * a + bitN k j) (rw_step hs hp hx) ?_
    subst ha
    unfold bitN
    rw [Nat.pow_succ, ← Nat.div_div_eq_div_mul]
    omega
theorem rw_times {k : Nat} (hk : k < 4294967296 ^ 8) {p : J3} {s : Sp} (hs : s.on) (hp : RW p s) : RW (wTimes k p) (gmul s k) := by
  refine rw_timesG hs hp _ _ 0 ?_ ?_
  · exact rw_lift sNo_on
  · rw [Nat.div_eq_of_lt (lenN_spec hk).1]

theorem repJ_c {X Y Z X' Y' Z' : Int} {p : PtI} (h : RepJ X Y Z p) (hx : C1 X' X) (hy : C1 Y' Y) (hz : C1 Z' Z) : RepJ X' Y' Z' p := by
  cases p with
  | none => exact hz.trans h
  | some p =>
    obtain ⟨h1, h2, h3⟩ := h
    have hz2 := hz.mul hz
    exact ⟨fun h0 => h1 (hz.symm.trans h0), (hx.trans h2).trans ((Cz.refl _ _).mul hz2.symm), (hy.trans h3).trans ((Cz.refl _ _).mul (hz2.mul hz).symm)⟩
theorem repJ_none {X Y Z : Int} {s : Sp} (hs : s.on) (h : RepJ X Y Z s.o) (hz : C1 Z 0) : s = sNo := by
  obtain ⟨x, y, i⟩ := s
  cases i with
  | true => obtain ⟨rfl, rfl⟩ := Sp.on_none.1 hs; rfl
  | false => exact absurd hz h.1
theorem repJ_some {X Y Z : Int} {s : Sp} (hs : s.on) (h : RepJ X Y Z s.o) (hz : ¬ C1 Z 0) : ∃ x y : Nat, s = ⟨x, y, false⟩ ∧ OnW x y ∧ C1 X (x * (Z * Z)) ∧ C1 Y (y * (Z * Z * Z)) := by
  obtain ⟨x, y, i⟩ := s
  cases i with
  | true => exact absurd h hz
  | false => exact ⟨x, y, rfl, (Sp.on_some.1 hs).2.2, h.2.1, h.2.2⟩
theorem rj_lift {s : Sp} (hs : s.on) : RJ (jLift s.x s.y s.i) s := by
  obtain ⟨x, y, i⟩ := s
  refine ⟨jLift_lt _ _ _, ?_⟩
  cases i with
  | true =>
    show C1 (dv 0) 0
    rw [dv_0]; exact Cz.refl _ _
  | false =>
    obtain ⟨a, b, c⟩ := Sp.on_some.1 hs
    show RepJ (dv (inN (modN 1) x)) (dv (inN (modN 1) y)) (dv (inN (modN 1) 1)) (some ((x : Int), (y : Int)))
    rw [dv_in a, dv_in b, dv_one]
    exact ⟨one_ne1, Cz.of_eq (by show (x : Int) = x * (1 * 1); omega), Cz.of_eq (by show (y : Int) = y * (1 * 1 * 1); omega)⟩
section
variable {p : J3} (hp : p.lt)
include hp
theorem dRs : C1 (dv (rS p)) (jdS (dv p.x) (dv p.y)) := by
  have hm := modN_pos 1
  have h1 := (dv_mm hp.1 (mmN_lt hm)).trans ((Cz.refl _ (dv p.x)).mul (dv_mm hp.2.1 hp.2.1))
  have h2 := (dv_add (mmN_lt hm) (mmN_lt hm)).trans (h1.add h1)
  exact ((dv_add (addM_lt hm) (addM_lt hm)).trans (h2.add h2)).trans (Cz.of_eq (by unfold jdS; grind))
theorem dRm0 : C1 (dv (rM0 p)) ((dv p.x - dv p.z * dv p.z) * (dv p.x + dv p.z * dv p.z)) := by
  have hm := modN_pos 1
  have h1 := dv_mm hp.2.2 hp.2.2
  exact (dv_mm (subM_lt hm) (addM_lt hm)).trans (((dv_sub hp.1 (mmN_lt hm)).trans ((Cz.refl _ _).sub h1)).mul ((dv_add hp.1 (mmN_lt hm)).trans ((Cz.refl _ _).add h1)))
theorem dRm : C1 (dv (rM p)) (jdM (dv p.x) (dv p.z)) := by
  have hm := modN_pos 1
  have h := dRm0 hp
  exact ((dv_add (mmN_lt hm) (addM_lt hm)).trans (h.add ((dv_add (mmN_lt hm) (mmN_lt hm)).trans (h.add h)))).trans (Cz.of_eq (by unfold jdM; grind))
theorem dRx : C1 (dv (rX p)) (jdX (dv p.x) (dv p.y) (dv p.z)) := by
  have hm := modN_pos 1
  have h := dRm hp
  have k := dRs hp
  exact ((dv_sub (mmN_lt hm) (addM_lt hm)).trans (((dv_mm (addM_lt hm) (addM_lt hm)).trans (h.mul h)).sub ((dv_add (addM_lt hm) (addM_lt hm)).trans (k.add k)))).trans (Cz.of_eq (by unfold jdX; grind))
theorem dRy : C1 (dv (rY p)) (jdY (dv p.x) (dv p.y) (dv p.z)) := by
  have hm := modN_pos 1
  have h := dRm hp
  have k := dRs hp
  have x := dRx hp
  have y2 := dv_mm hp.2.1 hp.2.1
  have y4 := (dv_mm (mmN_lt hm) (mmN_lt hm)).trans (y2.mul y2)
  have z1 : C1 (dv (rY1 p)) _ := (dv_add (mmN_lt hm) (mmN_lt hm)).trans (y4.add y4)
  have z2 : C1 (dv (rY2 p)) _ := (dv_add (addM_lt hm) (addM_lt hm)).trans (z1.add z1)
  have z4 : C1 (dv (rY4 p)) _ := (dv_add (addM_lt hm) (addM_lt hm)).trans (z2.add z2)
  exact ((dv_sub (mmN_lt hm) (addM_lt hm)).trans (((dv_mm (addM_lt hm) (subM_lt hm)).trans (h.mul ((dv_sub (addM_lt hm) (subM_lt hm)).trans (k.sub x)))).sub z4)).trans (Cz.of_eq (by unfold jdY; grind))
theorem dRz : C1 (dv (rZ p)) (jdZ (dv p.y) (dv p.z)) := by
  have hm := modN_pos 1
  have h := dv_mm hp.2.1 hp.2.2
  exact ((dv_add (mmN_lt hm) (mmN_lt hm)).trans (h.add h)).trans (Cz.of_eq (by unfold jdZ; grind))
end
theorem rj_dbl {p : J3} {s : Sp} (hs : s.on) (h : RJ p s) : RJ (jDbl p) (gsum s s) := by
  obtain ⟨hl, h⟩ := h
  refine ⟨jDbl_lt hl, ?_⟩
  unfold jDbl
  by_cases hz : p.z = 0
  · rw [decide_eq_true hz, cond_true]
    have h0 := (dv_zero hl.2.2).2 hz
    have e := repJ_none hs h h0
    rw [e, gsum_no sNo_on]
    exact h0
  · rw [decide_eq_false hz, cond_false]
    exact repJ_c (repJ_dbl h (fun h0 => hz ((dv_zero hl.2.2).1 h0)) hs.O (gsum_is hs hs)) (dRx hl) (dRy hl) (dRz hl)
section
variable {p q : J3} (hp : p.lt) (hq : q.lt)
include hp hq
theorem dJu : C1 (dv (jU p q)) (dv p.x * (dv q.z * dv q.z)) := (dv_mm hp.1 (mmN_lt (modN_pos 1))).trans ((Cz.refl _ _).mul (dv_mm hq.2.2 hq.2.2))
theorem dJv : C1 (dv (jV p q)) (dv q.x * (dv p.z * dv p.z)) := (dv_mm hq.1 (mmN_lt (modN_pos 1))).trans ((Cz.refl _ _).mul (dv_mm hp.2.2 hp.2.2))
theorem dJs : C1 (dv (jS p q)) (dv p.y * (dv q.z * dv q.z * dv q.z)) := (dv_mm hp.2.1 (mmN_lt (modN_pos 1))).trans ((Cz.refl _ _).mul ((dv_mm (mmN_lt (modN_pos 1)) hq.2.2).trans ((dv_mm hq.2.2 hq.2.2).mul (Cz.refl _ _))))
theorem dJt : C1 (dv (jT p q)) (dv q.y * (dv p.z * dv p.z * dv p.z)) := (dv_mm hq.2.1 (mmN_lt (modN_pos 1))).trans ((Cz.refl _ _).mul ((dv_mm (mmN_lt (modN_pos 1)) hp.2.2).trans ((dv_mm hp.2.2 hp.2.2).mul (Cz.refl _ _))))
end
section
variable (p q : J3)
theorem dJh : C1 (dv (jH p q)) (dv (jV p q) - dv (jU p q)) := dv_sub (mmN_lt (modN_pos 1)) (mmN_lt (modN_pos 1))
theorem dJk : C1 (dv (jK p q)) (dv (jT p q) - dv (jS p q)) := dv_sub (mmN_lt (modN_pos 1)) (mmN_lt (modN_pos 1))
theorem dJh2 : C1 (dv (jH2 p q)) ((dv (jV p q) - dv (jU p q)) * (dv (jV p q) - dv (jU p q))) := (dv_mm (subM_lt (modN_pos 1)) (subM_lt (modN_pos 1))).trans ((dJh p q).mul (dJh p q))
theorem dJh3 : C1 (dv (jH3 p q)) ((dv (jV p q) - dv (jU p q)) * (dv (jV p q) - dv (jU p q)) * (dv (jV p q) - dv (jU p q))) := (dv_mm (mmN_lt (modN_pos 1)) (subM_lt (modN_pos 1))).trans ((dJh2 p q).mul (dJh p q))
theorem dJw : C1 (dv (jW p q)) (dv (jU p q) * ((dv (jV p q) - dv (jU p q)) * (dv (jV p q) - dv (jU p q)))) := (dv_mm (mmN_lt (modN_pos 1)) (mmN_lt (modN_pos 1))).trans ((Cz.refl _ _).mul (dJh2 p q))
theorem dJx : C1 (dv (jX p q)) (jcX (dv (jU p q)) (dv (jV p q)) (dv (jS p q)) (dv (jT p q))) := by
  have hm := modN_pos 1
  have hk := (dv_mm (subM_lt hm) (subM_lt hm)).trans ((dJk p q).mul (dJk p q))
  exact ((dv_sub (subM_lt hm) (addM_lt hm)).trans (((dv_sub (mmN_lt hm) (mmN_lt hm)).trans (hk.sub (dJh3 p q))).sub ((dv_add (mmN_lt hm) (mmN_lt hm)).trans ((dJw p q).add (dJw p q))))).trans (Cz.of_eq (by unfold jcX; grind))
theorem dJy : C1 (dv (jY p q)) (jcY (dv (jU p q)) (dv (jV p q)) (dv (jS p q)) (dv (jT p q))) := by
  have hm := modN_pos 1
  have h1 := (dv_mm (subM_lt hm) (subM_lt hm)).trans ((dJk p q).mul ((dv_sub (mmN_lt hm) (subM_lt hm)).trans ((dJw p q).sub (dJx p q))))
  have h2 := (dv_mm (mmN_lt hm) (mmN_lt hm)).trans ((Cz.refl _ (dv (jS p q))).mul (dJh3 p q))
  exact (dv_sub (mmN_lt hm) (mmN_lt hm)).trans (h1.sub h2)
theorem dJz {p q : J3} (hp : p.lt) (hq : q.lt) : C1 (dv (jZ p q)) ((dv (jV p q) - dv (jU p q)) * (dv p.z * dv q.z)) := (dv_mm (subM_lt (modN_pos 1)) (mmN_lt (modN_pos 1))).trans ((dJh p q).mul (dv_mm hp.2.2 hq.2.2))
end
theorem mul_ne2 {a b : Int} (ha : ¬ C1 a 0) (hb : ¬ C1 b 0) : ¬ C1 (a * b) 0 := fun h => (cz_euclid pr1 h).elim ha hb
theorem rj_join {p q : J3} {s t : Sp} (hs : s.on) (ht : t.on) (h : RJ p s) (k : RJ q t) : RJ (jJoin p q) (gsum s t) := by
  obtain ⟨hl, h⟩ := h
  obtain ⟨kl, k⟩ := k
  refine ⟨jJoin_lt hl kl, ?_⟩
  by_cases hz : p.z = 0
  · rw [jJ_p (decide_eq_true hz)]
    rw [repJ_none hs h ((dv_zero hl.2.2).2 hz), gsum_no_left ht]
    exact k
  by_cases kz : q.z = 0
  · rw [jJ_q (decide_eq_false hz) (decide_eq_true kz)]
    rw [repJ_none ht k ((dv_zero kl.2.2).2 kz), gsum_no hs]
    exact h
  have hz' : ¬ C1 (dv p.z) 0 := fun h0 => hz ((dv_zero hl.2.2).1 h0)
  have kz' : ¬ C1 (dv q.z) 0 := fun h0 => kz ((dv_zero kl.2.2).1 h0)
  obtain ⟨x1, y1, rfl, o1, hx1, hy1⟩ := repJ_some hs h hz'
  obtain ⟨x2, y2, rfl, o2, hx2, hy2⟩ := repJ_some ht k kz'
  have hw := mul_ne2 hz' kz'
  have hu : C1 (dv (jU p q)) (x1 * (dv p.z * dv q.z * (dv p.z * dv q.z))) := ((dJu hl kl).trans (hx1.mul (Cz.refl _ _))).trans (Cz.of_eq (by grind))
  have hv : C1 (dv (jV p q)) (x2 * (dv p.z * dv q.z * (dv p.z * dv q.z))) := ((dJv hl kl).trans (hx2.mul (Cz.refl _ _))).trans (Cz.of_eq (by grind))
  have hS : C1 (dv (jS p q)) (y1 * (dv p.z * dv q.z * (dv p.z * dv q.z) * (dv p.z * dv q.z))) := ((dJs hl kl).trans (hy1.mul (Cz.refl _ _))).trans (Cz.of_eq (by grind))
  have hT : C1 (dv (jT p q)) (y2 * (dv p.z * dv q.z * (dv p.z * dv q.z) * (dv p.z * dv q.z))) := ((dJt hl kl).trans (hy2.mul (Cz.refl _ _))).trans (Cz.of_eq (by grind))
  have hsum := gsum_is hs ht
  by_cases hU : jU p q = jV p q
  · have e1 : C1 (x1 : Int) x2 := by
      have e := hu.symm.trans ((Cz.of_eq (by rw [hU])).trans hv)
      exact cz_cancel pr1 (a := dv p.z * dv q.z * (dv p.z * dv q.z)) (e.lc1 1 (by grind)) (mul_ne2 hw hw)
    by_cases hV : jS p q = jT p q
    · have e2 : C1 (y1 : Int) y2 := by
        have e := hS.symm.trans ((Cz.of_eq (by rw [hV])).trans hT)
        exact cz_cancel pr1 (a := dv p.z * dv q.z * (dv p.z * dv q.z) * (dv p.z * dv q.z)) (e.lc1 1 (by grind)) (mul_ne2 (mul_ne2 hw hw) hw)
      rw [jJ_d (decide_eq_false hz) (decide_eq_false kz) (decide_eq_true hU) (decide_eq_true hV)]
      have e : (⟨x1, y1, false⟩ : Sp) = ⟨x2, y2, false⟩ := hs.eq ht ⟨e1, e2⟩
      rw [← e]
      exact (rj_dbl hs ⟨hl, h⟩).2
    · rw [jJ_n (decide_eq_false hz) (decide_eq_false kz) (decide_eq_true hU) (decide_eq_false hV)]
      have hne : ¬ C1 (y1 : Int) y2 := by
        intro e
        refine hV (dv_inj (mmN_lt (modN_pos 1)) (mmN_lt (modN_pos 1)) (hS.trans ((e.mul (Cz.refl _ _)).trans hT.symm)))
      have hn := isS_turned o1 o2 e1 hne hsum
      have hg : gsum ⟨x1, y1, false⟩ ⟨x2, y2, false⟩ = sNo := (gsum_on hs ht).eq sNo_on (by rw [hn]; trivial)
      rw [hg]
      show C1 (dv 0) 0
      rw [dv_0]; exact Cz.refl _ _
  · rw [jJ_c (decide_eq_false hz) (decide_eq_false kz) (decide_eq_false hU)]
    have hne : ¬ C1 (dv (jU p q)) (dv (jV p q)) := fun e => hU (dv_inj (mmN_lt (modN_pos 1)) (mmN_lt (modN_pos 1)) e)
    exact repJ_c (repJ_chord hw hu hv hS hT o1 o2 hne hsum) (dJx p q) (dJy p q) (dJz hl kl)
theorem rj_step {k j : Nat} {p x : J3} {s : Sp} {a : Nat} (hs : s.on) (hp : RJ p s) (hx : RJ x (gmul s a)) : RJ (jStep k p j x) (gmul s (2 * a + bitN k j)) := by
  have h1 := rj_dbl (gmul_on hs a) hx
  rw [← gmul_add hs a a, ← Nat.two_mul] at h1
  have hb := bitN_le k j
  by_cases h : bitN k j = 1
  · rw [jStep_t (decide_eq_true h), h]
    exact rj_join (gmul_on hs (2 * a)) hs h1 hp
  · rw [jStep_f (decide_eq_false h), show bitN k j = 0 by omega]
    exact h1
theorem rj_timesG {k : Nat} {p : J3} {s : Sp} (hs : s.on) (hp : RJ p s) : ∀ (j : Nat) (x : J3) (a : Nat), RJ x (gmul s a) → a = k / 2 ^ j → RJ (jTimesG k p j x) (gmul s k)
  | 0, x, a, hx, ha => by
    rw [Nat.pow_zero, Nat.div_one] at ha
    subst ha; exact hx
  | j + 1, x, a, hx, ha => by
    refine rj_timesG hs hp j (jStep k p j x) (2 * a + bitN k j) (rj_step hs hp hx) ?_
    subst ha
    unfold bitN
    rw [Nat.pow_succ, ← Nat.div_div_eq_div_mul]
    omega
theorem rj_times {k : Nat} (hk : k < 4294967296 ^ 8) {p : J3} {s : Sp} (hs : s.on) (hp : RJ p s) : RJ (jTimes k p) (gmul s k) := by
  refine rj_timesG hs hp _ _ 0 ?_ ?_
  · exact rj_lift sNo_on
  · rw [Nat.div_eq_of_lt (lenN_spec hk).1]
theorem rj_down {x : J3} {s : Sp} (hs : s.on) (h : RJ x s) : jDx x = s.x ∧ jDy x = s.y ∧ wDi x = s.i := by
  obtain ⟨hl, h⟩ := h
  have hm := modN_pos 1
  unfold jDx jDy wDi
  by_cases h0 : x.z = 0
  · rw [repJ_none hs h ((dv_zero hl.2.2).2 h0), decide_eq_true h0]
    exact ⟨rfl, rfl, rfl⟩
  · have hn : ¬ C1 (dv x.z) 0 := fun e => h0 ((dv_zero hl.2.2).1 e)
    obtain ⟨u, v, rfl, _, hx, hy⟩ := repJ_some hs h hn
    obtain ⟨a, b, c⟩ := Sp.on_some.1 hs
    obtain ⟨k1, k2⟩ := repJ_down (p := ((u : Int), (v : Int))) h (dv_inv hl.2.2 h0)
    have hi := minvN_lt (m := modN 1) (a := x.z) hm
    rw [decide_eq_false h0, cond_false, cond_false]
    refine ⟨?_, ?_, rfl⟩
    · exact Cz.nat (outN_lt hm) a (Cz.trans (dv_mm hl.1 (mmN_lt hm)) (Cz.trans ((Cz.refl _ _).mul (dv_mm hi hi)) k1))
    · exact Cz.nat (outN_lt hm) b (Cz.trans (dv_mm hl.2.1 (mmN_lt hm)) (Cz.trans ((Cz.refl _ _).mul ((dv_mm (mmN_lt hm) hi).trans ((dv_mm hi hi).mul (Cz.refl _ _)))) k2))
end Go.Ev

namespace Go.Ev
open Go Go.Proofs Go.RowKit

def spV (s : Sp) : V1 := P3 s.x s.y s.i
noncomputable def S12w : FuncId → Nat → Bool := fun f t => match f with | _ => false
noncomputable def E12w : Env := mkE L11w S12w
theorem envE12w : EnvOK E12w := envMk L11w_ok S12w
theorem wi15 (k : Nat) (px : Nat) (py : Nat) (pi : Bool) : callR E12w 1000 49 [N8 k, P3 px py pi] [] =
    some ([(0 : Int) ≤ (1 : Int) ∧ (1 : Int) < (4 : Int), modN 1 < 4294967296 ^ 8, facR (limb (modN 1) 0) < 4294967296, r2N (modN 1) < 4294967296 ^ 8, px < 4294967296 ^ 8, py < 4294967296 ^ 8, modN 1 = modN 1, facR (limb (modN 1) 0) = facR (limb (modN 1) 0), r2N (modN 1) = r2N (modN 1), pi = true ∨ px < modN 1 ∧ py < modN 1, modN 1 < 4294967296 ^ 8, facR (limb (modN 1) 0) < 4294967296, r2N (modN 1) < 4294967296 ^ 8, k < 4294967296 ^ 8, (jLift px py pi).1 < 4294967296 ^ 8, (jLift px py pi).2 < 4294967296 ^ 8, (jLift px py pi).3 < 4294967296 ^ 8, modN 1 = modN 1, facR (limb (modN 1) 0) = facR (limb (modN 1) 0), r2N (modN 1) = r2N (modN 1), J3.lt (J3.mk (J3.x (jLift px py pi)) (J3.y (jLift px py pi)) (J3.z (jLift px py pi))), modN 1 < 4294967296 ^ 8, facR (limb (modN 1) 0) < 4294967296, r2N (modN 1) < 4294967296 ^ 8, (jTimes k (J3.mk (J3.x (jLift px py pi)) (J3.y (jLift px py pi)) (J3.z (jLift px py pi)))).1 < 4294967296 ^ 8, (jTimes k (J3.mk (J3.x (jLift px py pi)) (J3.y (jLift px py pi)) (J3.z (jLift px py pi)))).2 < 4294967296 ^ 8, (jTimes k (J3.mk (J3.x (jLift px py pi)) (J3.y (jLift px py pi)) (J3.z (jLift px py pi)))).3 < 4294967296 ^ 8, modN 1 = modN 1, facR (limb (modN 1) 0) = facR (limb (modN 1) 0), r2N (modN 1) = r2N (modN 1), J3.lt (J3.mk (J3.x (jTimes k (J3.mk (J3.x (jLift px py pi)) (J3.y (jLift px py pi)) (J3.z (jLift px py pi))))) (J3.y (jTimes k (J3.mk (J3.x (jLift px py pi)) (J3.y (jLift px py pi)) (J3.z (jLift px py pi))))) (J3.z (jTimes k (J3.mk (J3.x (jLift px py pi)) (J3.y (jLift px py pi)) (J3.z (jLift px py pi))))))], .val (P3 (jDx (jTimes k (jLift px py pi))) (jDy (jTimes k (jLift px py pi))) (wDi (jTimes k (jLift px py pi))))) := by kernel_rfl
theorem wi39 (k : Nat) (px : Nat) (py : Nat) (pi : Bool) : callR E12w 1000 65 [N8 k, P3 px py pi] [] =
    some ([modN 1 < 4294967296 ^ 8, facN 1 < 4294967296, wBi < 4294967296 ^ 8, px < 4294967296 ^ 8, py < 4294967296 ^ 8, modN 1 = modN 1, facN 1 = facN 1, wBi = wBi, pi = true ∨ px < modN 1 ∧ py < modN 1, modN 1 < 4294967296 ^ 8, facN 1 < 4294967296, wBi < 4294967296 ^ 8, k < 4294967296 ^ 8, (wLift px py pi).1 < 4294967296 ^ 8, (wLift px py pi).2 < 4294967296 ^ 8, (wLift px py pi).3 < 4294967296 ^ 8, modN 1 = modN 1, facN 1 = facN 1, wBi = wBi, J3.lt (J3.mk (J3.x (wLift px py pi)) (J3.y (wLift px py pi)) (J3.z (wLift px py pi))), modN 1 < 4294967296 ^ 8, facN 1 < 4294967296, wBi < 4294967296 ^ 8, (wTimes k (J3.mk (J3.x (wLift px py pi)) (J3.y (wLift px py pi)) (J3.z (wLift px py pi)))).1 < 4294967296 ^ 8, (wTimes k (J3.mk (J3.x (wLift px py pi)) (J3.y (wLift px py pi)) (J3.z (wLift px py pi)))).2 < 4294967296 ^ 8, (wTimes k (J3.mk (J3.x (wLift px py pi)) (J3.y (wLift px py pi)) (J3.z (wLift px py pi)))).3 < 4294967296 ^ 8, modN 1 = modN 1, facN 1 = facN 1, wBi = wBi, J3.lt (J3.mk (J3.x (wTimes k (J3.mk (J3.x (wLift px py pi)) (J3.y (wLift px py pi)) (J3.z (wLift px py pi))))) (J3.y (wTimes k (J3.mk (J3.x (wLift px py pi)) (J3.y (wLift px py pi)) (J3.z (wLift px py pi))))) (J3.z (wTimes k (J3.mk (J3.x (wLift px py pi)) (J3.y (wLift px py pi)) (J3.z (wLift px py pi))))))], .val (P3 (wDx (wTimes k (wLift px py pi))) (wDy (wTimes k (wLift px py pi))) (wDi (wTimes k (wLift px py pi))))) := by kernel_rfl
theorem spec15g {k : Nat} (hk : k < 4294967296 ^ 8) {px py : Nat} {pi : Bool} (hp : Sp.on ⟨px, py, pi⟩) : Spec 49 [N8 k, P3 px py pi] (.val (spV (gmul ⟨px, py, pi⟩ k))) := by
  have hwb := wBi_lt
  have hx := L8 hp.lx
  have hy := L8 hp.ly
  have hl := hp.lt
  simp only at hx hy hl
  have hA := jLift_lt px py pi
  obtain ⟨hA1, hA2, hA3⟩ := id hA
  have hC := jTimes_lt (k := k) hA
  obtain ⟨hC1, hC2, hC3⟩ := id hC
  have hE := hC
  have hd := rj_down (gmul_on hp k) (rj_times hk hp (rj_lift hp))
  have hJ := hE
  obtain ⟨hJ1, hJ2, hJ3⟩ := id hJ
  have h := spec_run envE12w rfl (wi15 k px py pi) ⟨(by decide), (modN_lt _), (facR_lt32 _), (L8 (r2N_lt (by decide))), (by first | with_reducible assumption | with_reducible exact L8 (by with_reducible assumption) | exact decide_eq_true (by omega) | exact decide_eq_false (by omega) | omega), (by first | with_reducible assumption | with_reducible exact L8 (by with_reducible assumption) | exact decide_eq_true (by omega) | exact decide_eq_false (by omega) | omega), rfl, rfl, rfl, (by first | with_reducible assumption | with_reducible exact L8 (by with_reducible assumption) | exact decide_eq_true (by omega) | exact decide_eq_false (by omega) | omega), (modN_lt _), (facR_lt32 _), (L8 (r2N_lt (by decide))), (by first | with_reducible assumption | with_reducible exact L8 (by with_reducible assumption) | exact decide_eq_true (by omega) | exact decide_eq_false (by omega) | omega), (by first | with_reducible assumption | with_reducible exact L8 (by with_reducible assumption) | exact decide_eq_true (by omega) | exact decide_eq_false (by omega) | omega), (by first | with_reducible assumption | with_reducible exact L8 (by with_reducible assumption) | exact decide_eq_true (by omega) | exact decide_eq_false (by omega) | omega), (by first | with_reducible assumption | with_reducible exact L8 (by with_reducible assumption) | exact decide_eq_true (by omega) | exact decide_eq_false (by omega) | omega), rfl, rfl, rfl, (by first | with_reducible assumption | with_reducible exact L8 (by with_reducible assumption) | exact decide_eq_true (by omega) | exact decide_eq_false (by omega) | omega), (modN_lt _), (facR_lt32 _), (L8 (r2N_lt (by decide))), (by first | with_reducible assumption | with_reducible exact L8 (by with_reducible assumption) | exact decide_eq_true (by omega) | exact decide_eq_false (by omega) | omega), (by first | with_reducible assumption | with_reducible exact L8 (by with_reducible assumption) | exact decide_eq_true (by omega) | exact decide_eq_false (by omega) | omega), (by first | with_reducible assumption | with_reducible exact L8 (by with_reducible assumption) | exact decide_eq_true (by omega) | exact decide_eq_false (by omega) | omega), rfl, rfl, rfl, (by first | with_reducible assumption | with_reducible exact L8 (by with_reducible assumption) | exact decide_eq_true (by omega) | exact decide_eq_false (by omega) | omega), trivial⟩ rfl rfl
  obtain ⟨d1, d2, d3⟩ := hd
  rw [d1, d2, d3] at h
  exact h
theorem spec39g {k : Nat} (hk : k < 4294967296 ^ 8) {px py : Nat} {pi : Bool} (hp : Sp.on ⟨px, py, pi⟩) : Spec 65 [N8 k, P3 px py pi] (.val (spV (gmul ⟨px, py, pi⟩ k))) := by
  have hwb := wBi_lt
  have hx := L8 hp.lx
  have hy := L8 hp.ly
  have hl := hp.lt
  simp only at hx hy hl
  have hA := wLift_lt px py pi
  obtain ⟨hA1, hA2, hA3⟩ := id hA
  have hC := wTimes_lt k (wLift px py pi)
  obtain ⟨hC1, hC2, hC3⟩ := id hC
  have hE := hC
  have hd := rw_down (gmul_on hp k) (rw_times hk hp (rw_lift hp))
  have hJ := hE
  obtain ⟨hJ1, hJ2, hJ3⟩ := id hJ
  have h := spec_run envE12w rfl (wi39 k px py pi) ⟨(modN_lt _), (facN_lt32 1), (by first | with_reducible assumption | with_reducible exact L8 (by with_reducible assumption) | exact decide_eq_true (by omega) | exact decide_eq_false (by omega) | omega), (by first | with_reducible assumption | with_reducible exact L8 (by with_reducible assumption) | exact decide_eq_true (by omega) | exact decide_eq_false (by omega) | omega), (by first | with_reducible assumption | with_reducible exact L8 (by with_reducible assumption) | exact decide_eq_true (by omega) | exact decide_eq_false (by omega) | omega), rfl, rfl, rfl, (by first | with_reducible assumption | with_reducible exact L8 (by with_reducible assumption) | exact decide_eq_true (by omega) | exact decide_eq_false (by omega) | omega), (modN_lt _), (facN_lt32 1), (by first | with_reducible assumption | with_reducible exact L8 (by with_reducible assumption) | exact decide_eq_true (by omega) | exact decide_eq_false (by omega) | omega), (by first | with_reducible assumption | with_reducible exact L8 (by with_reducible assumption) | exact decide_eq_true (by omega) | exact decide_eq_false (by omega) | omega), (by first | with_reducible assumption | with_reducible exact L8 (by with_reducible assumption) | exact decide_eq_true (by omega) | exact decide_eq_false (by omega) | omega), (by first | with_reducible assumption | with_reducible exact L8 (by with_reducible assumption) | exact decide_eq_true (by omega) | exact decide_eq_false (by omega) | omega), (by first | with_reducible assumption | with_reducible exact L8 (by with_reducible assumption) | exact decide_eq_true (by omega) | exact decide_eq_false (by omega) | omega), rfl, rfl, rfl, (by first | with_reducible assumption | with_reducible exact L8 (by with_reducible assumption) | exact decide_eq_true (by omega) | exact decide_eq_false (by omega) | omega), (modN_lt _), (facN_lt32 1), (by first | with_reducible assumption | with_reducible exact L8 (by with_reducible assumption) | exact decide_eq_true (by omega) | exact decide_eq_false (by omega) | omega), (by first | with_reducible assumption | with_reducible exact L8 (by with_reducible assumption) | exact decide_eq_true (by omega) | exact decide_eq_false (by omega) | omega), (by first | with_reducible assumption | with_reducible exact L8 (by with_reducible assumption) | exact decide_eq_true (by omega) | exact decide_eq_false (by omega) | omega), (by first | with_reducible assumption | with_reducible exact L8 (by with_reducible assumption) | exact decide_eq_true (by omega) | exact decide_eq_false (by omega) | omega), rfl, rfl, rfl, (by first | with_reducible assumption | with_reducible exact L8 (by with_reducible assumption) | exact decide_eq_true (by omega) | exact decide_eq_false (by omega) | omega), trivial⟩ rfl rfl
  obtain ⟨d1, d2, d3⟩ := hd
  rw [d1, d2, d3] at h
  exact h
end Go.Ev

namespace Go.Ev
open Go Go.Proofs Go.RowKit

noncomputable def gMulP : List Val → Option (List Prop × AV)
  | [.n k, .n px, .n py, .b pi] => some ([onS px py pi = true], .val (spV (gmul ⟨px, py, pi⟩ k)))
  | _ => none
theorem ct39q : CTok ⟨65, fnS [aN, aSp] gMulP⟩ := ctS (by
  intro xs ob r hb h ho
  unfold gMulP at h
  split at h
  · rename_i k px py pi
    simp only [Option.some.injEq, Prod.mk.injEq] at h
    obtain ⟨rfl, rfl⟩ := h
    obtain ⟨⟨b0, _⟩, _⟩ := hb
    exact spec39g b0 ho.1
  · simp at h)
noncomputable def gMulQ : List Val → Option (List Prop × AV)
  | [.n k, .n px, .n py, .b pi] => some ([onS px py pi = true], .val (spV (gmul ⟨px, py, pi⟩ k)))
  | _ => none
theorem ct15q : CTok ⟨49, fnS [aN, aSp] gMulQ⟩ := ctS (by
  intro xs ob r hb h ho
  unfold gMulQ at h
  split at h
  · rename_i k px py pi
    simp only [Option.some.injEq, Prod.mk.injEq] at h
    obtain ⟨rfl, rfl⟩ := h
    obtain ⟨⟨b0, _⟩, _⟩ := hb
    exact spec15g b0 ho.1
  · simp at h)
theorem on_base : onS wXN wYN false = true := by
  refine Sp.on_some.2 ⟨wXN_lt, wYN_lt, (onW_iff wXN_lt wYN_lt).1 ?_⟩
  rw [eqW_in]
  decide +kernel
end Go.Ev

