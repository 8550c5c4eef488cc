/- Sums of numbers, bytes, and spots; Bytes of numbers and of points -/
import Derived.Test.YtkjohncaajammaaPartM
import Derived.Test.YtkjohncaajammaaPartC
namespace Go.Ev
open Go Go.Proofs Go.RowKit Go.NT

noncomputable def dv (a : Nat) : Int := ((outN (modN 1) a : Nat) : Int)
theorem q1 : goodF (modN 1) (facN 1) := good_fac (by decide)
theorem dv_mm {a b : Nat} (ha : a < modN 1) (hb : b < modN 1) : C1 (dv (mmN (modN 1) a b)) (dv a * dv b) := by
  have h := in_mul (k := 1) (by decide) (outN (modN 1) a) (outN (modN 1) b)
  rw [in_out (modN_lt 1) q1 ha, in_out (modN_lt 1) q1 hb] at h
  unfold dv
  rw [h, out_in (modN_lt 1) q1 (mulM_lt (modN_pos 1))]
  exact cz_mul _ _
theorem dv_add {a b : Nat} (ha : a < modN 1) (hb : b < modN 1) : C1 (dv (addM (modN 1) a b)) (dv a + dv b) := by
  have h := in_add (m := modN 1) (outN (modN 1) a) (outN (modN 1) b)
  rw [in_out (modN_lt 1) q1 ha, in_out (modN_lt 1) q1 hb] at h
  unfold dv
  rw [h, out_in (modN_lt 1) q1 (addM_lt (modN_pos 1))]
  exact cz_add _ _
theorem dv_sub {a b : Nat} (ha : a < modN 1) (hb : b < modN 1) : C1 (dv (subM (modN 1) a b)) (dv a - dv b) := by
  have ho := outN_lt (m := modN 1) (c := b) (modN_pos 1)
  have h := in_sub (m := modN 1) (modN_pos 1) (a := outN (modN 1) a) ho
  rw [in_out (modN_lt 1) q1 ha, in_out (modN_lt 1) q1 hb] at h
  unfold dv
  rw [h, out_in (modN_lt 1) q1 (subM_lt (modN_pos 1))]
  exact cz_sub ho
theorem dv_in {x : Nat} (hx : x < modN 1) : dv (inN (modN 1) x) = x := by unfold dv; rw [out_in (modN_lt 1) q1 hx]
theorem dv_0 : dv 0 = 0 := by
  have h := dv_in (modN_pos 1)
  rw [in_eq, Nat.zero_mul, Nat.zero_mod] at h
  exact h
theorem dv_inj {a b : Nat} (ha : a < modN 1) (hb : b < modN 1) (h : C1 (dv a) (dv b)) : a = b := by
  have h1 := Cz.nat (outN_lt (m := modN 1) (c := a) (modN_pos 1)) (outN_lt (m := modN 1) (c := b) (modN_pos 1)) h
  rw [← in_out (modN_lt 1) q1 ha, h1, in_out (modN_lt 1) q1 hb]
theorem dv_zero {a : Nat} (ha : a < modN 1) : C1 (dv a) 0 ↔ a = 0 := by
  constructor
  · intro h
    rw [← dv_0] at h
    exact dv_inj ha (modN_pos 1) h
  · rintro rfl
    rw [dv_0]; exact Cz.refl _ _
theorem dv_one : dv (inN (modN 1) 1) = 1 := dv_in (modN_one 1)
theorem dv_inv {a : Nat} (ha : a < modN 1) (h : a ≠ 0) : C1 (dv a * dv (minvN (modN 1) a)) 1 := by
  have ho := outN_lt (m := modN 1) (c := a) (modN_pos 1)
  have h1 := inv_cz (k := 1) (by decide) ho (fun h0 => h ((dv_zero ha).1 h0))
  have e : dv (minvN (modN 1) a) = ((invP 1 (outN (modN 1) a) : Nat) : Int) := by
    unfold minvN
    rw [mpow_in, dv_in (show Go.NT.pwM _ _ _ < modN 1 from Nat.mod_lt _ (modN_pos 1))]
    rfl
  rw [e]; exact h1
theorem dv_mcr {a b c d e f : Nat} (ha : a < modN 1) (hb : b < modN 1) (hc : c < modN 1) (hd : d < modN 1) (he : e < modN 1) (hf : f < modN 1) : C1 (dv (mcr a b c d e f)) ((dv a + dv b) * (dv c + dv d) - (dv e + dv f)) := by
  unfold mcr
  have hm := modN_pos 1
  exact (dv_sub (mmN_lt hm) (addM_lt hm)).trans (((dv_mm (addM_lt hm) (addM_lt hm)).trans ((dv_add ha hb).mul (dv_add hc hd))).sub (dv_add he hf))
theorem dv_mtr {a : Nat} (ha : a < modN 1) : C1 (dv (mtr a)) (3 * dv a) := by
  unfold mtr
  have hm := modN_pos 1
  exact ((dv_add (addM_lt hm) ha).trans ((dv_add ha ha).add (Cz.refl _ _))).trans (Cz.of_eq (by omega))
theorem dv_wB : dv wBi = wB := dv_in wBN_lt

section
variable {p q : J3} (hp : p.lt) (hq : q.lt)
include hp hq
theorem dXX : C1 (dv (mXX p q)) (wxx (dv p.x) (dv p.y) (dv p.z) (dv q.x) (dv q.y) (dv q.z)) := dv_mm hp.1 hq.1
theorem dYY : C1 (dv (mYY p q)) (wyy (dv p.x) (dv p.y) (dv p.z) (dv q.x) (dv q.y) (dv q.z)) := dv_mm hp.2.1 hq.2.1
theorem dZZ : C1 (dv (mZZ p q)) (wzz (dv p.x) (dv p.y) (dv p.z) (dv q.x) (dv q.y) (dv q.z)) := dv_mm hp.2.2 hq.2.2
theorem dXY : C1 (dv (mXY p q)) (wxy (dv p.x) (dv p.y) (dv p.z) (dv q.x) (dv q.y) (dv q.z)) :=
  ((dv_mcr hp.1 hp.2.1 hq.1 hq.2.1 (mmN_lt (modN_pos 1)) (mmN_lt (modN_pos 1))).trans ((Cz.refl _ _).sub ((dXX hp hq).add (dYY hp hq)))).trans (Cz.of_eq (by unfold wxy wxx wyy; grind))
theorem dYZ : C1 (dv (mYZ p q)) (wyz (dv p.x) (dv p.y) (dv p.z) (dv q.x) (dv q.y) (dv q.z)) :=
  ((dv_mcr hp.2.1 hp.2.2 hq.2.1 hq.2.2 (mmN_lt (modN_pos 1)) (mmN_lt (modN_pos 1))).trans ((Cz.refl _ _).sub ((dYY hp hq).add (dZZ hp hq)))).trans (Cz.of_eq (by unfold wyz wyy wzz; grind))
theorem dXZ : C1 (dv (mXZ p q)) (wxz (dv p.x) (dv p.y) (dv p.z) (dv q.x) (dv q.y) (dv q.z)) :=
  ((dv_mcr hp.1 hp.2.2 hq.1 hq.2.2 (mmN_lt (modN_pos 1)) (mmN_lt (modN_pos 1))).trans ((Cz.refl _ _).sub ((dXX hp hq).add (dZZ hp hq)))).trans (Cz.of_eq (by unfold wxz wxx wzz; grind))
theorem dSi : C1 (dv (mSi p q)) (wsi wB (dv p.x) (dv p.y) (dv p.z) (dv q.x) (dv q.y) (dv q.z)) := by
  have hm := modN_pos 1
  have h := (dv_mm wBi_lt (mmN_lt hm)).trans ((Cz.of_eq dv_wB).mul (dZZ hp hq))
  exact (dv_mtr (subM_lt hm)).trans ((Cz.refl _ 3).mul ((dv_sub mcr_lt (mmN_lt hm)).trans ((dXZ hp hq).sub h)))
theorem dLe : C1 (dv (mLe p q)) (wle wB (dv p.x) (dv p.y) (dv p.z) (dv q.x) (dv q.y) (dv q.z)) := (dv_sub (mmN_lt (modN_pos 1)) mtr_lt).trans ((dYY hp hq).sub (dSi hp hq))
theorem dRi : C1 (dv (mRi p q)) (wri wB (dv p.x) (dv p.y) (dv p.z) (dv q.x) (dv q.y) (dv q.z)) := (dv_add (mmN_lt (modN_pos 1)) mtr_lt).trans ((dYY hp hq).add (dSi hp hq))
theorem dZ3 : C1 (dv (mZ3 p q)) (wz3 (dv p.x) (dv p.y) (dv p.z) (dv q.x) (dv q.y) (dv q.z)) := (dv_mtr (mmN_lt (modN_pos 1))).trans ((Cz.refl _ 3).mul (dZZ hp hq))
theorem dMM : C1 (dv (mMM p q)) (wmm wB (dv p.x) (dv p.y) (dv p.z) (dv q.x) (dv q.y) (dv q.z)) := by
  have hm := modN_pos 1
  have h := (dv_mm wBi_lt mcr_lt).trans ((Cz.of_eq dv_wB).mul (dXZ hp hq))
  exact (dv_mtr (subM_lt hm)).trans ((Cz.refl _ 3).mul ((dv_sub (subM_lt hm) (mmN_lt hm)).trans (((dv_sub (mmN_lt hm) mtr_lt).trans (h.sub (dZ3 hp hq))).sub (dXX hp hq))))
theorem dNN : C1 (dv (mNN p q)) (wnn (dv p.x) (dv p.y) (dv p.z) (dv q.x) (dv q.y) (dv q.z)) :=
  (dv_sub mtr_lt mtr_lt).trans (((dv_mtr (mmN_lt (modN_pos 1))).trans ((Cz.refl _ 3).mul (dXX hp hq))).sub (dZ3 hp hq))
theorem dAx : C1 (dv (mAdd p q).x) (wX wB (dv p.x) (dv p.y) (dv p.z) (dv q.x) (dv q.y) (dv q.z)) := by
  have hm := modN_pos 1
  exact (dv_sub (mmN_lt hm) (mmN_lt hm)).trans (((dv_mm mcr_lt (addM_lt hm)).trans ((dXY hp hq).mul (dRi hp hq))).sub ((dv_mm mcr_lt mtr_lt).trans ((dYZ hp hq).mul (dMM hp hq))))
theorem dAy : C1 (dv (mAdd p q).y) (wY wB (dv p.x) (dv p.y) (dv p.z) (dv q.x) (dv q.y) (dv q.z)) := by
  have hm := modN_pos 1
  exact (dv_add (mmN_lt hm) (mmN_lt hm)).trans (((dv_mm (addM_lt hm) (subM_lt hm)).trans ((dRi hp hq).mul (dLe hp hq))).add ((dv_mm (subM_lt hm) mtr_lt).trans ((dNN hp hq).mul (dMM hp hq))))
theorem dAz : C1 (dv (mAdd p q).z) (wZ wB (dv p.x) (dv p.y) (dv p.z) (dv q.x) (dv q.y) (dv q.z)) := by
  have hm := modN_pos 1
  exact (dv_add (mmN_lt hm) (mmN_lt hm)).trans (((dv_mm mcr_lt (subM_lt hm)).trans ((dYZ hp hq).mul (dLe hp hq))).add ((dv_mm mcr_lt (subM_lt hm)).trans ((dXY hp hq).mul (dNN hp hq))))
end

structure Sp where
  x : Nat
  y : Nat
  i : Bool
def Sp.o (s : Sp) : PtI := match s.i with | true => none | false => some ((s.x : Int), (s.y : Int))
def Sp.on (s : Sp) : Prop := onS s.x s.y s.i = true
def sNo : Sp := ⟨0, 0, true⟩
theorem onW_iff {x y : Nat} (_hx : x < modN 1) (_hy : y < modN 1) : eqW x y = true ↔ OnW x y := by
  have hm := modN_pos 1
  rw [eqW_in, decide_eq_true_iff]
  have h1 := cz_mul (m := modN 1) y y
  have h2 : C1 (sqP x : Nat) ((x : Int) * x * x - 3 * x + wB) := by
    unfold sqP
    exact (cz_add _ _).trans (((cz_sub (addM_lt hm)).trans (((cz_mul _ _).trans ((Cz.refl _ _).mul (cz_mul x x))).sub ((cz_add _ _).trans ((Cz.refl _ _).add (cz_add x x))))).add (Cz.refl _ _) |>.trans (Cz.of_eq (by show (x : Int) * (x * x) - (x + (x + x)) + (wB : Int) = _; grind)))
  unfold OnW
  constructor
  · intro h
    rw [h] at h1
    exact h1.symm.trans h2
  · intro h
    exact Cz.nat (mulM_lt hm) (sqP_lt x) ((h1.trans h).trans h2.symm)
theorem Sp.on_some {x y : Nat} : Sp.on ⟨x, y, false⟩ ↔ x < modN 1 ∧ y < modN 1 ∧ OnW x y := by
  unfold Sp.on onS ltW
  simp only [cond_false, Bool.and_eq_true, decide_eq_true_iff]
  constructor
  · rintro ⟨⟨a, b⟩, c⟩; exact ⟨a, b, (onW_iff a b).1 c⟩
  · rintro ⟨a, b, c⟩; exact ⟨⟨a, b⟩, (onW_iff a b).2 c⟩
theorem Sp.on_none {x y : Nat} : Sp.on ⟨x, y, true⟩ ↔ x = 0 ∧ y = 0 := by
  unfold Sp.on onS
  simp only [cond_true, Bool.and_eq_true, decide_eq_true_iff]
theorem sNo_on : sNo.on := Sp.on_none.2 ⟨rfl, rfl⟩
theorem Sp.on.O {s : Sp} (h : s.on) : OnO s.o := by
  obtain ⟨x, y, i⟩ := s
  cases i with
  | true => trivial
  | false => exact (Sp.on_some.1 h).2.2
theorem Sp.on.lt {s : Sp} (h : s.on) : s.i = true ∨ (s.x < modN 1 ∧ s.y < modN 1) := by
  obtain ⟨x, y, i⟩ := s
  cases i with
  | true => exact .inl rfl
  | false => exact .inr ⟨(Sp.on_some.1 h).1, (Sp.on_some.1 h).2.1⟩
theorem Sp.on.lx {s : Sp} (h : s.on) : s.x < modN 1 := by
  obtain ⟨x, y, i⟩ := s
  cases i with
  | true => obtain ⟨rfl, rfl⟩ := Sp.on_none.1 h; exact modN_pos 1
  | false => exact (Sp.on_some.1 h).1
theorem Sp.on.ly {s : Sp} (h : s.on) : s.y < modN 1 := by
  obtain ⟨x, y, i⟩ := s
  cases i with
  | true => obtain ⟨rfl, rfl⟩ := Sp.on_none.1 h; exact modN_pos 1
  | false => exact (Sp.on_some.1 h).2.1
theorem Sp.on.eq {s t : Sp} (hs : s.on) (ht : t.on) (h : EqO s.o t.o) : s = t := by
  obtain ⟨x, y, i⟩ := s
  obtain ⟨u, v, j⟩ := t
  cases i with
  | true =>
    cases j with
    | true =>
      obtain ⟨rfl, rfl⟩ := Sp.on_none.1 hs
      obtain ⟨rfl, rfl⟩ := Sp.on_none.1 ht
      rfl
    | false => exact h.elim
  | false =>
    cases j with
    | true => exact h.elim
    | false =>
      obtain ⟨a, b, _⟩ := Sp.on_some.1 hs
      obtain ⟨c, d, _⟩ := Sp.on_some.1 ht
      rw [Cz.nat a c h.1, Cz.nat b d h.2]
theorem repW_cong {X Y Z : Int} {p q : PtI} (h : RepW X Y Z p) (e : EqO p q) : RepW X Y Z q := by
  cases p with
  | none =>
    cases q with
    | none => exact h
    | some q => exact e.elim
  | some p =>
    cases q with
    | none => exact e.elim
    | some q => exact ⟨h.1, h.2.1.trans (e.1.mul (Cz.refl _ _)), h.2.2.trans (e.2.mul (Cz.refl _ _))⟩
theorem repW_c {X Y Z X' Y' Z' : Int} {p : PtI} (h : RepW X Y Z p) (hx : C1 X' X) (hy : C1 Y' Y) (hz : C1 Z' Z) : RepW X' Y' Z' p :=
  rep_mul one_ne1 h (hx.trans (Cz.of_eq (by omega))) (hy.trans (Cz.of_eq (by omega))) (hz.trans (Cz.of_eq (by omega)))
theorem czN_lt1 (z : Int) : czN (modN 1) z < modN 1 := by
  have hm := modN_pos 1
  unfold czN
  have := Int.emod_lt_of_pos z (show (0 : Int) < (modN 1 : Int) by omega)
  have := Int.emod_nonneg z (show ((modN 1 : Nat) : Int) ≠ 0 by omega)
  omega
theorem sum_ex {s t : Sp} (hs : s.on) (ht : t.on) : ∃ r : Sp, r.on ∧ IsS s.o t.o r.o := by
  obtain ⟨r, h, ho⟩ := isS_ex hs.O ht.O
  cases r with
  | none => exact ⟨sNo, sNo_on, h⟩
  | some r =>
    have h1 := czN_cz (modN_pos 1) r.1
    have h2 := czN_cz (modN_pos 1) r.2
    refine ⟨⟨czN (modN 1) r.1, czN (modN 1) r.2, false⟩, Sp.on_some.2 ⟨czN_lt1 _, czN_lt1 _, ?_⟩, repW_cong h ⟨h1.symm, h2.symm⟩⟩
    have ho' : OnW r.1 r.2 := ho
    unfold OnW at *
    exact ((h2.mul h2).trans ho').trans ((((h1.mul h1).mul h1).sub ((Cz.refl _ 3).mul h1)).add (Cz.refl _ _)).symm
noncomputable def gsum (s t : Sp) : Sp := @dite Sp (∃ r : Sp, r.on ∧ IsS s.o t.o r.o) (Classical.propDecidable _) (fun h => Classical.choose h) (fun _ => sNo)
theorem gsum_spec {s t : Sp} (hs : s.on) (ht : t.on) : (gsum s t).on ∧ IsS s.o t.o (gsum s t).o := by
  have h := sum_ex hs ht
  unfold gsum
  rw [dif_pos h]
  exact Classical.choose_spec h
theorem gsum_on {s t : Sp} (hs : s.on) (ht : t.on) : (gsum s t).on := (gsum_spec hs ht).1
theorem gsum_is {s t : Sp} (hs : s.on) (ht : t.on) : IsS s.o t.o (gsum s t).o := (gsum_spec hs ht).2
theorem gsum_eq {s t r : Sp} (hs : s.on) (ht : t.on) (hr : r.on) (h : IsS s.o t.o r.o) : gsum s t = r := (gsum_on hs ht).eq hr (isS_uniq (gsum_is hs ht) h)
theorem gsum_comm {s t : Sp} (hs : s.on) (ht : t.on) : gsum s t = gsum t s := gsum_eq hs ht (gsum_on ht hs) (isS_comm (gsum_is ht hs))
theorem gsum_assoc {s t r : Sp} (hs : s.on) (ht : t.on) (hr : r.on) : gsum (gsum s t) r = gsum s (gsum t r) := by
  have h1 := gsum_on hs ht
  have h2 := gsum_on ht hr
  exact (gsum_on h1 hr).eq (gsum_on hs h2) (isS_assoc hs.O ht.O hr.O (gsum_is hs ht) (gsum_is h1 hr) (gsum_is ht hr) (gsum_is hs h2) h2.O h1.O)
theorem gsum_no_left {s : Sp} (hs : s.on) : gsum sNo s = s := gsum_eq sNo_on hs hs (isS_none hs.O)
theorem gsum_no {s : Sp} (hs : s.on) : gsum s sNo = s := by rw [gsum_comm hs sNo_on, gsum_no_left hs]
noncomputable def gmul (s : Sp) : Nat → Sp
  | 0 => sNo
  | k + 1 => gsum (gmul s k) s
theorem gmul_on {s : Sp} (h : s.on) : ∀ k, (gmul s k).on
  | 0 => sNo_on
  | k + 1 => gsum_on (gmul_on h k) h
theorem gmul_add {s : Sp} (h : s.on) (a : Nat) : ∀ b, gmul s (a + b) = gsum (gmul s a) (gmul s b)
  | 0 => (gsum_no (gmul_on h a)).symm
  | b + 1 => by
    show gsum (gmul s (a + b)) s = gsum (gmul s a) (gsum (gmul s b) s)
    rw [gmul_add h a b, gsum_assoc (gmul_on h a) (gmul_on h b) h]
theorem gmul_one {s : Sp} (h : s.on) : gmul s 1 = s := gsum_no_left h

def RW (x : J3) (s : Sp) : Prop := x.lt ∧ RepW (dv x.x) (dv x.y) (dv x.z) s.o
theorem rw_add {x y : J3} {s t : Sp} (hs : s.on) (ht : t.on) (hx : RW x s) (hy : RW y t) : RW (mAdd x y) (gsum s t) :=
  ⟨mAdd_lt x y, repW_c (rep_wadd hx.2 hy.2 (gsum_is hs ht)) (dAx hx.1 hy.1) (dAy hx.1 hy.1) (dAz hx.1 hy.1)⟩
theorem rw_lift {s : Sp} (hs : s.on) : RW (wLift s.x s.y s.i) s := by
  obtain ⟨x, y, i⟩ := s
  refine ⟨wLift_lt _ _ _, ?_⟩
  cases i with
  | true =>
    show RepW (dv 0) (dv (inN (modN 1) 1)) (dv 0) none
    rw [dv_0, dv_one]
    exact rep_canon none
  | false =>
    obtain ⟨a, b, c⟩ := Sp.on_some.1 hs
    show RepW (dv (inN (modN 1) x)) (dv (inN (modN 1) y)) (dv (inN (modN 1) 1)) (some ((x : Int), (y : Int)))
    rw [dv_in a, dv_in b, dv_one]
    exact rep_canon (some ((x : Int), (y : Int)))
theorem rw_down {x : J3} {s : Sp} (hs : s.on) (h : RW x s) : wDx x = s.x ∧ wDy x = s.y ∧ wDi x = s.i := by
  obtain ⟨u, v, i⟩ := s
  obtain ⟨hl, h⟩ := h
  have hm := modN_pos 1
  unfold wDx wDy wDi
  cases i with
  | true =>
    obtain ⟨rfl, rfl⟩ := Sp.on_none.1 hs
    rw [decide_eq_true ((dv_zero hl.2.2).1 h.2.2)]
    exact ⟨rfl, rfl, rfl⟩
  | false =>
    obtain ⟨a, b, c⟩ := Sp.on_some.1 hs
    have h0 : ¬ x.z = 0 := fun h0 => h.1 ((dv_zero hl.2.2).2 h0)
    have hi := dv_inv hl.2.2 h0
    obtain ⟨k1, k2⟩ := repW_down h hi
    rw [decide_eq_false h0, cond_false, cond_false]
    refine ⟨?_, ?_, rfl⟩
    · exact Cz.nat (outN_lt hm) a (Cz.trans (dv_mm hl.1 (minvN_lt hm)) k1)
    · exact Cz.nat (outN_lt hm) b (Cz.trans (dv_mm hl.2.1 (minvN_lt hm)) k2)
end Go.Ev

namespace Go.Ev
open Go Go.Proofs Go.RowKit Go.NT

theorem rw_step {k j : Nat} {p x : J3} {s : Sp} {a : Nat} (hs : s.on) (hp : RW p s) (hx : RW x (gmul s a)) : RW (wStep k p j x) (gmul s (2 * a + bitN k j)) := by
  have h1 := rw_add (gmul_on hs a) (gmul_on hs a) hx hx
  rw [← gmul_add hs a a, ← Nat.two_mul] at h1
  unfold wStep bitB
  have hb := bitN_le k j
  by_cases h : bitN k j = 1
  · rw [decide_eq_true h, cond_true, h]
    exact rw_add (gmul_on hs (2 * a)) hs h1 hp
  · rw [decide_eq_false h, cond_false, show bitN k j = 0 by omega]
    exact h1
theorem rw_timesG {k : Nat} {p : J3} {s : Sp} (hs : s.on) (hp : RW p s) : ∀ (j : Nat) (x : J3) (a : Nat), RW x (gmul s a) → a = k / 2 ^ j → RW (wTimesG k p j x) (gmul s k)
  | 0, x, a, hx, ha => by
    rw [Nat.pow_zero, Nat.div_one] at ha
    subst ha; exact hx
  | j + 1, x, a, hx, ha => by
    refine rw_timesG hs hp j (wStep k p j x) (2 * a + bitN k j) (rw_step hs hp hx) ?_
    subst ha
    unfold bitN
    rw [Nat.pow_succ, ← Nat.div_div_eq_div_mul]
    omega
theorem rw_times {k : Nat} (hk : k < 4294967296 ^ 8) {p : J3} {s : Sp} (hs : s.on) (hp : RW p s) : RW (wTimes k p) (gmul s k) := by
  refine rw_timesG hs hp _ _ 0 ?_ ?_
  · exact rw_lift sNo_on
  · rw [Nat.div_eq_of_lt (lenN_spec hk).1]

section
variable {p : J3} (hp : p.lt)
include hp
end
section
variable {p q : J3} (hp : p.lt) (hq : q.lt)
include hp hq
end
section
variable (p q : J3)
end
end Go.Ev

namespace Go.Ev
open Go Go.Proofs Go.RowKit

def spV (s : Sp) : V1 := P3 s.x s.y s.i
noncomputable def S12w : FuncId → Nat → Bool := fun f t => match f with | 23 => memN t [8, 12] | 13 => memN t [7] | 14 => memN t [12, 16] | 25 => memN t [5] | 24 => memN t [4] | _ => false
noncomputable def E12w : Env := mkE L11w S12w
theorem envE12w : EnvOK E12w := envMk L11w_ok S12w
theorem wi39 (k : Nat) (px : Nat) (py : Nat) (pi : Bool) : callR E12w 1000 48 [N8 k, P3 px py pi] [] =
    some ([modN 1 < 4294967296 ^ 8, facN 1 < 4294967296, wBi < 4294967296 ^ 8, px < 4294967296 ^ 8, py < 4294967296 ^ 8, modN 1 = modN 1, facN 1 = facN 1, wBi = wBi, pi = true ∨ px < modN 1 ∧ py < modN 1, modN 1 < 4294967296 ^ 8, facN 1 < 4294967296, wBi < 4294967296 ^ 8, k < 4294967296 ^ 8, (wLift px py pi).1 < 4294967296 ^ 8, (wLift px py pi).2 < 4294967296 ^ 8, (wLift px py pi).3 < 4294967296 ^ 8, modN 1 = modN 1, facN 1 = facN 1, wBi = wBi, J3.lt (J3.mk (J3.x (wLift px py pi)) (J3.y (wLift px py pi)) (J3.z (wLift px py pi))), modN 1 < 4294967296 ^ 8, facN 1 < 4294967296, wBi < 4294967296 ^ 8, (wTimes k (J3.mk (J3.x (wLift px py pi)) (J3.y (wLift px py pi)) (J3.z (wLift px py pi)))).1 < 4294967296 ^ 8, (wTimes k (J3.mk (J3.x (wLift px py pi)) (J3.y (wLift px py pi)) (J3.z (wLift px py pi)))).2 < 4294967296 ^ 8, (wTimes k (J3.mk (J3.x (wLift px py pi)) (J3.y (wLift px py pi)) (J3.z (wLift px py pi)))).3 < 4294967296 ^ 8, modN 1 = modN 1, facN 1 = facN 1, wBi = wBi, J3.lt (J3.mk (J3.x (wTimes k (J3.mk (J3.x (wLift px py pi)) (J3.y (wLift px py pi)) (J3.z (wLift px py pi))))) (J3.y (wTimes k (J3.mk (J3.x (wLift px py pi)) (J3.y (wLift px py pi)) (J3.z (wLift px py pi))))) (J3.z (wTimes k (J3.mk (J3.x (wLift px py pi)) (J3.y (wLift px py pi)) (J3.z (wLift px py pi))))))], .val (P3 (wDx (wTimes k (wLift px py pi))) (wDy (wTimes k (wLift px py pi))) (wDi (wTimes k (wLift px py pi))))) := by kernel_rfl
theorem spec39g {k : Nat} (hk : k < 4294967296 ^ 8) {px py : Nat} {pi : Bool} (hp : Sp.on ⟨px, py, pi⟩) : Spec 48 [N8 k, P3 px py pi] (.val (spV (gmul ⟨px, py, pi⟩ k))) := by
  have hwb := wBi_lt
  have hx := L8 hp.lx
  have hy := L8 hp.ly
  have hl := hp.lt
  simp only at hx hy hl
  have hA := wLift_lt px py pi
  obtain ⟨hA1, hA2, hA3⟩ := id hA
  have hC := wTimes_lt k (wLift px py pi)
  obtain ⟨hC1, hC2, hC3⟩ := id hC
  have hE := hC
  have hd := rw_down (gmul_on hp k) (rw_times hk hp (rw_lift hp))
  have hJ := hE
  obtain ⟨hJ1, hJ2, hJ3⟩ := id hJ
  have h := spec_run envE12w rfl (wi39 k px py pi) ⟨(modN_lt _), (facN_lt32 1), (by first | with_reducible assumption | with_reducible exact L8 (by with_reducible assumption) | exact decide_eq_true (by omega) | exact decide_eq_false (by omega) | omega), (by first | with_reducible assumption | with_reducible exact L8 (by with_reducible assumption) | exact decide_eq_true (by omega) | exact decide_eq_false (by omega) | omega), (by first | with_reducible assumption | with_reducible exact L8 (by with_reducible assumption) | exact decide_eq_true (by omega) | exact decide_eq_false (by omega) | omega), rfl, rfl, rfl, (by first | with_reducible assumption | with_reducible exact L8 (by with_reducible assumption) | exact decide_eq_true (by omega) | exact decide_eq_false (by omega) | omega), (modN_lt _), (facN_lt32 1), (by first | with_reducible assumption | with_reducible exact L8 (by with_reducible assumption) | exact decide_eq_true (by omega) | exact decide_eq_false (by omega) | omega), (by first | with_reducible assumption | with_reducible exact L8 (by with_reducible assumption) | exact decide_eq_true (by omega) | exact decide_eq_false (by omega) | omega), (by first | with_reducible assumption | with_reducible exact L8 (by with_reducible assumption) | exact decide_eq_true (by omega) | exact decide_eq_false (by omega) | omega), (by first | with_reducible assumption | with_reducible exact L8 (by with_reducible assumption) | exact decide_eq_true (by omega) | exact decide_eq_false (by omega) | omega), (by first | with_reducible assumption | with_reducible exact L8 (by with_reducible assumption) | exact decide_eq_true (by omega) | exact decide_eq_false (by omega) | omega), rfl, rfl, rfl, (by first | with_reducible assumption | with_reducible exact L8 (by with_reducible assumption) | exact decide_eq_true (by omega) | exact decide_eq_false (by omega) | omega), (modN_lt _), (facN_lt32 1), (by first | with_reducible assumption | with_reducible exact L8 (by with_reducible assumption) | exact decide_eq_true (by omega) | exact decide_eq_false (by omega) | omega), (by first | with_reducible assumption | with_reducible exact L8 (by with_reducible assumption) | exact decide_eq_true (by omega) | exact decide_eq_false (by omega) | omega), (by first | with_reducible assumption | with_reducible exact L8 (by with_reducible assumption) | exact decide_eq_true (by omega) | exact decide_eq_false (by omega) | omega), (by first | with_reducible assumption | with_reducible exact L8 (by with_reducible assumption) | exact decide_eq_true (by omega) | exact decide_eq_false (by omega) | omega), rfl, rfl, rfl, (by first | with_reducible assumption | with_reducible exact L8 (by with_reducible assumption) | exact decide_eq_true (by omega) | exact decide_eq_false (by omega) | omega), trivial⟩ rfl rfl
  obtain ⟨d1, d2, d3⟩ := hd
  rw [d1, d2, d3] at h
  exact h
end Go.Ev

namespace Go.Ev
open Go Go.Proofs Go.RowKit

noncomputable def gMulP : List Val → Option (List Prop × AV)
  | [.n k, .n px, .n py, .b pi] => some ([onS px py pi = true], .val (spV (gmul ⟨px, py, pi⟩ k)))
  | _ => none
theorem ct39q : CTok ⟨48, fnS [aN, aSp] gMulP⟩ := ctS (by
  intro xs ob r hb h ho
  unfold gMulP at h
  split at h
  · rename_i k px py pi
    simp only [Option.some.injEq, Prod.mk.injEq] at h
    obtain ⟨rfl, rfl⟩ := h
    obtain ⟨⟨b0, _⟩, _⟩ := hb
    exact spec39g b0 ho.1
  · simp at h)
theorem on_base : onS wXN wYN false = true := by
  refine Sp.on_some.2 ⟨wXN_lt, wYN_lt, (onW_iff wXN_lt wYN_lt).1 ?_⟩
  rw [eqW_in]
  decide +kernel
end Go.Ev

namespace Go.Ev
open Go Go.Proofs Go.RowKit Go.NT

def qcr (a b c d e f : Nat) : Nat := subM (modN 1) (mulM (modN 1) (addM (modN 1) a b) (addM (modN 1) c d)) (addM (modN 1) e f)
def qtr (a : Nat) : Nat := addM (modN 1) (addM (modN 1) a a) a
theorem cz_qcr (a b c d e f : Nat) : C1 (qcr a b c d e f) (((a : Int) + b) * (c + d) - (e + f)) := (cz_sub (addM_lt (modN_pos 1))).trans (((cz_mul _ _).trans ((cz_add _ _).mul (cz_add _ _))).sub (cz_add _ _))
theorem cz_qtr (a : Nat) : C1 (qtr a) (3 * (a : Int)) := ((cz_add _ _).trans ((cz_add a a).add (Cz.refl _ (a : Int)))).trans (Cz.of_eq (by omega))
theorem qtr_lt {a : Nat} : qtr a < modN 1 := addM_lt (modN_pos 1)
def nXX (p q : J3) : Nat := mulM (modN 1) p.x q.x
def nYY (p q : J3) : Nat := mulM (modN 1) p.y q.y
def nZZ (p q : J3) : Nat := mulM (modN 1) p.z q.z
def nXY (p q : J3) : Nat := qcr p.x p.y q.x q.y (nXX p q) (nYY p q)
def nYZ (p q : J3) : Nat := qcr p.y p.z q.y q.z (nYY p q) (nZZ p q)
def nXZ (p q : J3) : Nat := qcr p.x p.z q.x q.z (nXX p q) (nZZ p q)
def nSi (p q : J3) : Nat := qtr (subM (modN 1) (nXZ p q) (mulM (modN 1) wB (nZZ p q)))
def nLe (p q : J3) : Nat := subM (modN 1) (nYY p q) (nSi p q)
def nRi (p q : J3) : Nat := addM (modN 1) (nYY p q) (nSi p q)
def nZ3 (p q : J3) : Nat := qtr (nZZ p q)
def nMM (p q : J3) : Nat := qtr (subM (modN 1) (subM (modN 1) (mulM (modN 1) wB (nXZ p q)) (nZ3 p q)) (nXX p q))
def nNN (p q : J3) : Nat := subM (modN 1) (qtr (nXX p q)) (nZ3 p q)
def nAdd (p q : J3) : J3 := ⟨subM (modN 1) (mulM (modN 1) (nXY p q) (nRi p q)) (mulM (modN 1) (nYZ p q) (nMM p q)), addM (modN 1) (mulM (modN 1) (nRi p q) (nLe p q)) (mulM (modN 1) (nNN p q) (nMM p q)), addM (modN 1) (mulM (modN 1) (nYZ p q) (nLe p q)) (mulM (modN 1) (nXY p q) (nNN p q))⟩
section
variable (p q : J3)
theorem eXX : C1 (nXX p q) (wxx p.x p.y p.z q.x q.y q.z) := cz_mul _ _
theorem eYY : C1 (nYY p q) (wyy p.x p.y p.z q.x q.y q.z) := cz_mul _ _
theorem eZZ : C1 (nZZ p q) (wzz p.x p.y p.z q.x q.y q.z) := cz_mul _ _
theorem eXY : C1 (nXY p q) (wxy p.x p.y p.z q.x q.y q.z) := ((cz_qcr _ _ _ _ _ _).trans ((Cz.refl _ _).sub ((eXX p q).add (eYY p q)))).trans (Cz.of_eq (by unfold wxy wxx wyy; grind))
theorem eYZ : C1 (nYZ p q) (wyz p.x p.y p.z q.x q.y q.z) := ((cz_qcr _ _ _ _ _ _).trans ((Cz.refl _ _).sub ((eYY p q).add (eZZ p q)))).trans (Cz.of_eq (by unfold wyz wyy wzz; grind))
theorem eXZ : C1 (nXZ p q) (wxz p.x p.y p.z q.x q.y q.z) := ((cz_qcr _ _ _ _ _ _).trans ((Cz.refl _ _).sub ((eXX p q).add (eZZ p q)))).trans (Cz.of_eq (by unfold wxz wxx wzz; grind))
theorem eSi : C1 (nSi p q) (wsi wB p.x p.y p.z q.x q.y q.z) := (cz_qtr _).trans ((Cz.refl _ 3).mul ((cz_sub (mulM_lt (modN_pos 1))).trans ((eXZ p q).sub ((cz_mul _ _).trans ((Cz.refl _ _).mul (eZZ p q))))))
theorem eLe : C1 (nLe p q) (wle wB p.x p.y p.z q.x q.y q.z) := (cz_sub qtr_lt).trans ((eYY p q).sub (eSi p q))
theorem eRi : C1 (nRi p q) (wri wB p.x p.y p.z q.x q.y q.z) := (cz_add _ _).trans ((eYY p q).add (eSi p q))
theorem eZ3 : C1 (nZ3 p q) (wz3 p.x p.y p.z q.x q.y q.z) := (cz_qtr _).trans ((Cz.refl _ 3).mul (eZZ p q))
theorem eMM : C1 (nMM p q) (wmm wB p.x p.y p.z q.x q.y q.z) := (cz_qtr _).trans ((Cz.refl _ 3).mul ((cz_sub (mulM_lt (modN_pos 1))).trans (((cz_sub qtr_lt).trans (((cz_mul _ _).trans ((Cz.refl _ _).mul (eXZ p q))).sub (eZ3 p q))).sub (eXX p q))))
theorem eNN : C1 (nNN p q) (wnn p.x p.y p.z q.x q.y q.z) := (cz_sub qtr_lt).trans (((cz_qtr _).trans ((Cz.refl _ 3).mul (eXX p q))).sub (eZ3 p q))
theorem eAx : C1 (nAdd p q).x (wX wB p.x p.y p.z q.x q.y q.z) := (cz_sub (mulM_lt (modN_pos 1))).trans (((cz_mul _ _).trans ((eXY p q).mul (eRi p q))).sub ((cz_mul _ _).trans ((eYZ p q).mul (eMM p q))))
theorem eAy : C1 (nAdd p q).y (wY wB p.x p.y p.z q.x q.y q.z) := (cz_add _ _).trans (((cz_mul _ _).trans ((eRi p q).mul (eLe p q))).add ((cz_mul _ _).trans ((eNN p q).mul (eMM p q))))
theorem eAz : C1 (nAdd p q).z (wZ wB p.x p.y p.z q.x q.y q.z) := (cz_add _ _).trans (((cz_mul _ _).trans ((eYZ p q).mul (eLe p q))).add ((cz_mul _ _).trans ((eXY p q).mul (eNN p q))))
end
def RP (x : J3) (s : Sp) : Prop := RepW (x.x : Int) (x.y : Int) (x.z : Int) s.o
theorem rp_add {x y : J3} {s t : Sp} (hs : s.on) (ht : t.on) (hx : RP x s) (hy : RP y t) : RP (nAdd x y) (gsum s t) :=
  repW_c (rep_wadd hx hy (gsum_is hs ht)) (eAx x y) (eAy x y) (eAz x y)
def nTimesG (k : Nat) (p : J3) : Nat → J3 → J3
  | 0, x => x
  | j + 1, x => nTimesG k p j (bif bitB k j then nAdd (nAdd x x) p else nAdd x x)
theorem rp_step {k j : Nat} {p x : J3} {s : Sp} {a : Nat} (hs : s.on) (hp : RP p s) (hx : RP x (gmul s a)) : RP (bif bitB k j then nAdd (nAdd x x) p else nAdd x x) (gmul s (2 * a + bitN k j)) := by
  have h1 := rp_add (gmul_on hs a) (gmul_on hs a) hx hx
  rw [← gmul_add hs a a, ← Nat.two_mul] at h1
  unfold bitB
  have hb := bitN_le k j
  by_cases h : bitN k j = 1
  · rw [decide_eq_true h, cond_true, h]
    exact rp_add (gmul_on hs (2 * a)) hs h1 hp
  · rw [decide_eq_false h, cond_false, show bitN k j = 0 by omega]
    exact h1
theorem rp_timesG {k : Nat} {p : J3} {s : Sp} (hs : s.on) (hp : RP p s) : ∀ (j : Nat) (x : J3) (a : Nat), RP x (gmul s a) → a = k / 2 ^ j → RP (nTimesG k p j x) (gmul s k)
  | 0, x, a, hx, ha => by
    rw [Nat.pow_zero, Nat.div_one] at ha
    subst ha; exact hx
  | j + 1, x, a, hx, ha => by
    refine rp_timesG hs hp j _ (2 * a + bitN k j) (rp_step hs hp hx) ?_
    subst ha
    unfold bitN
    rw [Nat.pow_succ, ← Nat.div_div_eq_div_mul]
    omega
def fN {α : Type} (x : Nat) (f : Nat → α) : α := match x with | 0 => f 0 | n + 1 => f (n + 1)
theorem fN_eq {α : Type} (x : Nat) (f : Nat → α) : fN x f = f x := by unfold fN; split <;> rfl
def nAddF {α : Type} (p q : J3) (f : J3 → α) : α :=
  fN (mulM (modN 1) p.x q.x) fun xx => fN (mulM (modN 1) p.y q.y) fun yy => fN (mulM (modN 1) p.z q.z) fun zz =>
  fN (qcr p.x p.y q.x q.y xx yy) fun xy => fN (qcr p.y p.z q.y q.z yy zz) fun yz => fN (qcr p.x p.z q.x q.z xx zz) fun xz =>
  fN (qtr (subM (modN 1) xz (mulM (modN 1) wB zz))) fun si => fN (subM (modN 1) yy si) fun le => fN (addM (modN 1) yy si) fun ri => fN (qtr zz) fun z3 =>
  fN (qtr (subM (modN 1) (subM (modN 1) (mulM (modN 1) wB xz) z3) xx)) fun mm => fN (subM (modN 1) (qtr xx) z3) fun nn =>
  fN (subM (modN 1) (mulM (modN 1) xy ri) (mulM (modN 1) yz mm)) fun x => fN (addM (modN 1) (mulM (modN 1) ri le) (mulM (modN 1) nn mm)) fun y => fN (addM (modN 1) (mulM (modN 1) yz le) (mulM (modN 1) xy nn)) fun z => f ⟨x, y, z⟩
theorem nAddF_eq {α : Type} (p q : J3) (f : J3 → α) : nAddF p q f = f (nAdd p q) := by unfold nAddF; simp only [fN_eq]; rfl
def nTimesF {α : Type} (k : Nat) (p : J3) (f : J3 → α) : Nat → J3 → α
  | 0, x => f x
  | j + 1, x => nAddF x x fun d => bif bitB k j then nAddF d p fun e => nTimesF k p f j e else nTimesF k p f j d
theorem nTimesF_eq {α : Type} (k : Nat) (p : J3) (f : J3 → α) : ∀ j x, nTimesF k p f j x = f (nTimesG k p j x)
  | 0, _ => rfl
  | j + 1, x => by
    unfold nTimesF nTimesG
    simp only [nAddF_eq]
    cases bitB k j with
    | true => simp only [cond_true]; exact nTimesF_eq k p f j _
    | false => simp only [cond_false]; exact nTimesF_eq k p f j _
theorem ordW : (nTimesF (modN 3) ⟨wXN, wYN, 1⟩ (fun q => decide (q.z = 0)) 256 ⟨0, 1, 0⟩) = true := by decide +kernel
theorem base_on : Sp.on ⟨wXN, wYN, false⟩ := on_base
theorem gm_order : gmul ⟨wXN, wYN, false⟩ (modN 3) = sNo := by
  have h := ordW
  rw [nTimesF_eq, decide_eq_true_iff] at h
  have hr := rp_timesG (k := modN 3) (p := ⟨wXN, wYN, 1⟩) base_on (rep_canon (some ((wXN : Int), (wYN : Int)))) 256 ⟨0, 1, 0⟩ 0 (rep_canon none) (by decide +kernel)
  have hn := gmul_on base_on (modN 3)
  generalize gmul ⟨wXN, wYN, false⟩ (modN 3) = s at *
  obtain ⟨x, y, i⟩ := s
  cases i with
  | true => obtain ⟨rfl, rfl⟩ := Sp.on_none.1 hn; rfl
  | false =>
    refine absurd ?_ hr.1
    rw [h]
    exact Cz.refl _ _
end Go.Ev

namespace Go.Ev
open Go Go.Proofs Go.RowKit

theorem numsB_length (s : ByteArray) : (numsB s).length = s.size := by simp [numsB]
def leN : List Nat → Nat
  | [] => 0
  | b :: bs => b + 256 * leN bs
def leS (s : ByteArray) : Nat := leN (numsB s)
def leB (n x : Nat) : List Nat := (List.range n).map fun j => x / 256 ^ j % 256
theorem leN_append : ∀ a b : List Nat, leN (a ++ b) = leN a + 256 ^ a.length * leN b
  | [], b => by simp [leN]
  | x :: a, b => by
    simp only [List.cons_append, leN, leN_append a b, List.length_cons, Nat.pow_succ, Nat.mul_add]
    rw [← Nat.mul_assoc, Nat.mul_comm 256 (256 ^ a.length)]; omega
theorem leN_lt : ∀ l : List Nat, (∀ b ∈ l, b < 256) → leN l < 256 ^ l.length
  | [], _ => by simp [leN]
  | b :: l, h => by
    have h1 := leN_lt l (fun x hx => h x (by simp [hx]))
    have h2 := h b (by simp)
    simp only [leN, List.length_cons, Nat.pow_succ]; omega
theorem numsB_lt (s : ByteArray) : ∀ b ∈ numsB s, b < 256 := by
  intro b hb
  simp only [numsB, List.mem_map] at hb
  obtain ⟨x, _, rfl⟩ := hb
  exact UInt8.toNat_lt x
theorem leS_lt (s : ByteArray) : leS s < 256 ^ s.size := by
  have := leN_lt (numsB s) (numsB_lt s)
  rwa [numsB_length] at this
theorem numsB_strOf (l : List Nat) (h : ∀ b ∈ l, b < 256) : numsB (strOf l) = l := by
  unfold numsB strOf
  rw [List.map_map]
  conv => rhs; rw [← List.map_id l]
  apply List.map_congr_left
  intro b hb
  have := h b hb
  simp [Function.comp, UInt8.toNat_ofNat', Nat.mod_eq_of_lt this]
theorem strOf_size (l : List Nat) : (strOf l).size = l.length := by simp [strOf, ByteArray.size]
theorem strOf_numsB (s : ByteArray) : strOf (numsB s) = s := by
  unfold strOf numsB
  rw [List.map_map]
  have : ((fun n => UInt8.ofNat n) ∘ UInt8.toNat) = id := by funext x; simp [Function.comp]
  rw [this]; simp
theorem leB_length (n x : Nat) : (leB n x).length = n := by simp [leB]
theorem leB_lt (n x : Nat) : ∀ b ∈ leB n x, b < 256 := by
  intro b hb
  simp only [leB, List.mem_map] at hb
  obtain ⟨j, _, rfl⟩ := hb
  exact Nat.mod_lt _ (by decide)
theorem orSh {a k : Nat} (x : Nat) (ha : a < 2 ^ k) : a ||| x * 2 ^ k = a + x * 2 ^ k := by
  have := Nat.two_pow_add_eq_or_of_lt ha x
  rw [Nat.or_comm, Nat.mul_comm x, ← this, Nat.add_comm]
def ls (acc x k : Nat) : Nat := acc % 4294967296 ||| x % 4294967296 * 2 ^ k % 4294967296 % 4294967296
theorem ls_eq {acc x k : Nat} (ha : acc < 2 ^ k) (hx : x < 256) (hk : k ≤ 24) : ls acc x k = acc + x * 2 ^ k ∧ acc + x * 2 ^ k < 2 ^ (k + 8) := by
  have h1 : acc + x * 2 ^ k < 2 ^ (k + 8) := by
    have : x * 2 ^ k ≤ 255 * 2 ^ k := Nat.mul_le_mul_right _ (by omega)
    rw [Nat.pow_add]; omega
  have h2 : 2 ^ (k + 8) ≤ 4294967296 := Nat.pow_le_pow_right (n := 2) (j := 32) (by decide) (by omega)
  refine ⟨?_, h1⟩
  unfold ls
  rw [Nat.mod_eq_of_lt (show acc < 4294967296 by omega), Nat.mod_eq_of_lt (show x < 4294967296 by omega), Nat.mod_eq_of_lt (show x * 2 ^ k < 4294967296 by omega), Nat.mod_eq_of_lt (show x * 2 ^ k < 4294967296 by omega)]
  exact orSh x ha

def strB (n : Nat) (b : Nat → UInt8) : ByteArray := ⟨((List.range n).map b).toArray⟩
theorem strB_of {s : ByteArray} {n : Nat} (h : s.size = n) : s = strB n (fun i => s.data.getD i 0) := by
  subst h
  apply ByteArray.ext
  apply Array.ext
  · simp [strB]
  · intro i h1 h2
    simp only [strB, List.getElem_toArray, List.getElem_map, List.getElem_range]
    rw [Array.getD_eq_getD_getElem?, Array.getElem?_eq_getElem h1]; rfl
theorem numsB_strB (n : Nat) (b : Nat → UInt8) : numsB (strB n b) = (List.range n).map fun i => (b i).toNat := by
  simp [numsB, strB, List.map_map, Function.comp]
end Go.Ev

namespace Go.Ev
open Go Go.Proofs Go.RowKit
def sS (s : ByteArray) : V1 := .one (.v (.string s))
def ol (b : Nat → UInt8) (i : Nat) : Nat := ls (ls (ls (ls 0 (b (4 * i)).toNat 0) (b (4 * i + 1)).toNat 8) (b (4 * i + 2)).toNat 16) (b (4 * i + 3)).toNat 24
def lbt (u : Nat → Nat) (j : Nat) : Nat := u (j / 4) / 2 ^ (8 * (j % 4)) % 256
theorem run99a (b : Nat → UInt8) : callR E0 1000 114 [sS (strB 32 b)] [] = some ([], .tup [C8 (ol b), .one (.i 0)]) := by kernel_rfl
theorem run102a (b : Nat → UInt8) : callR E0 1000 117 [sS (strB 32 b)] [] = some ([], .val (C8 (ol b))) := by kernel_rfl
theorem run98a (u : Nat → Nat) : callR E0 1000 113 [C8 u] [] = some ([], .val (sS (strOf ((List.range 32).map (lbt u))))) := by kernel_rfl
theorem ol_eq (b : Nat → UInt8) (i : Nat) : ol b i = (b (4 * i)).toNat + 256 * (b (4 * i + 1)).toNat + 65536 * (b (4 * i + 2)).toNat + 16777216 * (b (4 * i + 3)).toNat ∧ ol b i < 4294967296 := by
  have h0 := UInt8.toNat_lt (b (4 * i))
  have h1 := UInt8.toNat_lt (b (4 * i + 1))
  have h2 := UInt8.toNat_lt (b (4 * i + 2))
  have h3 := UInt8.toNat_lt (b (4 * i + 3))
  unfold ol
  rw [(ls_eq (acc := 0) (k := 0) (by decide) h0 (by decide)).1, (ls_eq (k := 8) (by omega) h1 (by decide)).1, (ls_eq (k := 16) (by omega) h2 (by decide)).1, (ls_eq (k := 24) (by omega) h3 (by decide)).1]
  omega
theorem ol_val (s : ByteArray) (b : Nat → UInt8) (e : s = strB 32 b) : valU 8 0 (ol b) = leS s := by
  rw [e, leS, numsB_strB]
  have q := fun i => (ol_eq b i).1
  simp only [valU, q, Nat.zero_add, Nat.reduceAdd, Nat.reduceMul, show List.range 32 = [0, 1, 2, 3, 4, 5, 6, 7, 8, 9, 10, 11, 12, 13, 14, 15, 16, 17, 18, 19, 20, 21, 22, 23, 24, 25, 26, 27, 28, 29, 30, 31] from rfl, List.map_cons, List.map_nil, leN]
  omega
theorem spec99s (s : ByteArray) (h : s.size = 32) : Spec 114 [sS s] (.tup [N8 (leS s), .one (.i 0)]) := by
  have e := strB_of h
  generalize hb : (fun i => s.data.getD i 0) = b at e
  have h := spec_run envE0 rfl (run99a b) trivial rfl rfl
  refine h.congr (fun φ => by rw [e]) (fun φ => ?_)
  simp only [AV.conc, List.map_cons, List.map_nil]
  rw [conc_C8v φ (fun i _ => (ol_eq b i).2) (ol_val s b e)]
theorem spec102s (s : ByteArray) (h : s.size = 32) : Spec 117 [sS s] (.val (N8 (leS s))) := by
  have e := strB_of h
  generalize hb : (fun i => s.data.getD i 0) = b at e
  have h := spec_run envE0 rfl (run102a b) trivial rfl rfl
  refine h.congr (fun φ => by rw [e]) (fun φ => ?_)
  exact conc_C8v φ (fun i _ => (ol_eq b i).2) (ol_val s b e)
theorem limb_eqD (a : Nat) : ∀ i, limb a i = a / 4294967296 ^ i % 4294967296 := fun _ => rfl
theorem lb4 (x r : Nat) (h : r < 4) : x % 4294967296 / 2 ^ (8 * r) % 256 = x / 2 ^ (8 * r) % 256 := by
  match r, h with
  | 0, _ => simp only [Nat.reduceMul, Nat.reducePow]; omega
  | 1, _ => simp only [Nat.reduceMul, Nat.reducePow]; omega
  | 2, _ => simp only [Nat.reduceMul, Nat.reducePow]; omega
  | 3, _ => simp only [Nat.reduceMul, Nat.reducePow]; omega
theorem pow4 (j : Nat) : 256 ^ j = 4294967296 ^ (j / 4) * 2 ^ (8 * (j % 4)) := by
  have h1 : (4294967296 : Nat) ^ (j / 4) = 256 ^ (4 * (j / 4)) := by rw [Nat.pow_mul]
  have h2 : (2 : Nat) ^ (8 * (j % 4)) = 256 ^ (j % 4) := by rw [Nat.pow_mul]
  rw [h1, h2, ← Nat.pow_add, Nat.div_add_mod]
theorem lbt_eq (a j : Nat) : lbt (limb a) j = a / 256 ^ j % 256 := by
  unfold lbt
  rw [limb_eqD, lb4 _ _ (Nat.mod_lt _ (by decide)), pow4, ← Nat.div_div_eq_div_mul]
theorem lbt_leB (a : Nat) : (List.range 32).map (lbt (limb a)) = leB 32 a := by
  unfold leB
  exact List.map_congr_left fun j _ => lbt_eq a j
theorem spec98s (a : Nat) : Spec 113 [N8 a] (.val (sS (strOf (leB 32 a)))) := by
  have h := spec_run envE0 rfl (run98a (limb a)) trivial rfl rfl
  rw [lbt_leB] at h
  exact h.congr (fun φ => by simp only [List.map_cons, List.map_nil, conc_C8]) (fun φ => rfl)
end Go.Ev

