/- Sums of numbers, bytes, and spots; Keyed sums, nodes, and the law, of every input -/
import Derived.Test.YtfcobjhnkghdjaaGreatPartT
import Derived.Test.YtfcobjhnkghdjaaGreatPartR
import Derived.Test.YtfcobjhnkghdjaaGreatPartP
namespace Go.Ev
open Go Go.Proofs Go.RowKit Go.NT
theorem rw_step {k j:Nat} {p x:J3} {s:Sp} {a:Nat} (hs:s.on) (hp:RW p s) (hx:RW x (gmul s a)):RW (wStep k p j x) (gmul s (2*a+bitN k j)):=by
 have h1:=rw_add (gmul_on hs a) (gmul_on hs a) hx hx
 rw[←gmul_add hs a a,←Nat.two_mul] at h1
 unfold wStep bitB
 have hb:=bitN_le k j
 by_cases h:bitN k j=1
 ·rw[decide_eq_true h,cond_true,h]
  exact rw_add (gmul_on hs (2*a)) hs h1 hp
 ·rw[decide_eq_false h,cond_false,show bitN k j=0 by omega]
  exact h1
theorem rw_timesG {k:Nat} {p:J3} {s:Sp} (hs:s.on) (hp:RW p s):∀(j:Nat) (x:J3) (a:Nat),RW x (gmul s a)→a=k/2^j→RW (wTimesG k p j x) (gmul s k)
 |0,x,a,hx,ha=>by
  rw[Nat.pow_zero,Nat.div_one] at ha
  subst ha;exact hx
 |j+1,x,a,hx,ha=>by
  refine rw_timesG hs hp j (wStep k p j x) (2*a+bitN k j) (rw_step hs hp hx) ?_
  subst ha
  unfold bitN
  rw[Nat.pow_succ,←Nat.div_div_eq_div_mul]
  omega
theorem rw_times {k:Nat} (hk:k<4294967296^8) {p:J3} {s:Sp} (hs:s.on) (hp:RW p s):RW (wTimes k p) (gmul s k):=by
 refine rw_timesG hs hp _ _ 0 ?_ ?_
 ·exact rw_lift sNo_on
 ·rw[Nat.div_eq_of_lt (lenN_spec hk).1]
theorem repJ_c {X Y Z X' Y' Z':Int} {p:PtI} (h:RepJ X Y Z p) (hx:C1 X' X) (hy:C1 Y' Y) (hz:C1 Z' Z):RepJ X' Y' Z' p:=by
 cases p with
 |none=>exact hz.trans h
 |some p=>
  obtain ⟨h1,h2,h3⟩:=h
  have hz2:=hz.mul hz
  exact ⟨fun h0=>h1 (hz.symm.trans h0),(hx.trans h2).trans ((Cz.refl _ _).mul hz2.symm),(hy.trans h3).trans ((Cz.refl _ _).mul (hz2.mul hz).symm)⟩
theorem repJ_none {X Y Z:Int} {s:Sp} (hs:s.on) (h:RepJ X Y Z s.o) (hz:C1 Z 0):s=sNo:=by
 obtain ⟨x,y,i⟩:=s
 cases i with
 |true=>obtain ⟨rfl,rfl⟩:=Sp.on_none.1 hs;rfl
 |false=>exact absurd hz h.1
theorem repJ_some {X Y Z:Int} {s:Sp} (hs:s.on) (h:RepJ X Y Z s.o) (hz:¬C1 Z 0):∃x y:Nat,s=⟨x,y,false⟩∧OnW x y∧C1 X (x*(Z*Z))∧C1 Y (y*(Z*Z*Z)):=by
 obtain ⟨x,y,i⟩:=s
 cases i with
 |true=>exact absurd h hz
 |false=>exact ⟨x,y,rfl,(Sp.on_some.1 hs).2.2,h.2.1,h.2.2⟩
theorem rj_lift {s:Sp} (hs:s.on):RJ (jLift s.x s.y s.i) s:=by
 obtain ⟨x,y,i⟩:=s
 refine ⟨jLift_lt _ _ _,?_⟩
 cases i with
 |true=>
  show C1 (dv 0) 0
  rw[dv_0];exact Cz.refl _ _
 |false=>
  obtain ⟨a,b,c⟩:=Sp.on_some.1 hs
  show RepJ (dv (inN (modN 1) x)) (dv (inN (modN 1) y)) (dv (inN (modN 1) 1)) (some ((x:Int),(y:Int)))
  rw[dv_in a,dv_in b,dv_one]
  exact ⟨one_ne1,Cz.of_eq (by show (x:Int)=x*(1*1);omega),Cz.of_eq (by show (y:Int)=y*(1*1*1);omega)⟩
section
variable {p:J3} (hp:p.lt)
include hp
theorem dRs:C1 (dv (rS p)) (jdS (dv p.x) (dv p.y)):=by
 have hm:=modN_pos 1
 have h1:=(dv_mm hp.1 (mmN_lt hm)).trans ((Cz.refl _ (dv p.x)).mul (dv_mm hp.2.1 hp.2.1))
 have h2:=(dv_add (mmN_lt hm) (mmN_lt hm)).trans (h1.add h1)
 exact ((dv_add (addM_lt hm) (addM_lt hm)).trans (h2.add h2)).trans (Cz.of_eq (by unfold jdS;grind))
theorem dRm0:C1 (dv (rM0 p)) ((dv p.x-dv p.z*dv p.z)*(dv p.x+dv p.z*dv p.z)):=by
 have hm:=modN_pos 1
 have h1:=dv_mm hp.2.2 hp.2.2
 exact (dv_mm (subM_lt hm) (addM_lt hm)).trans (((dv_sub hp.1 (mmN_lt hm)).trans ((Cz.refl _ _).sub h1)).mul ((dv_add hp.1 (mmN_lt hm)).trans ((Cz.refl _ _).add h1)))
theorem dRm:C1 (dv (rM p)) (jdM (dv p.x) (dv p.z)):=by
 have hm:=modN_pos 1
 have h:=dRm0 hp
 exact ((dv_add (mmN_lt hm) (addM_lt hm)).trans (h.add ((dv_add (mmN_lt hm) (mmN_lt hm)).trans (h.add h)))).trans (Cz.of_eq (by unfold jdM;grind))
theorem dRx:C1 (dv (rX p)) (jdX (dv p.x) (dv p.y) (dv p.z)):=by
 have hm:=modN_pos 1
 have h:=dRm hp
 have k:=dRs hp
 exact ((dv_sub (mmN_lt hm) (addM_lt hm)).trans (((dv_mm (addM_lt hm) (addM_lt hm)).trans (h.mul h)).sub ((dv_add (addM_lt hm) (addM_lt hm)).trans (k.add k)))).trans (Cz.of_eq (by unfold jdX;grind))
theorem dRy:C1 (dv (rY p)) (jdY (dv p.x) (dv p.y) (dv p.z)):=by
 have hm:=modN_pos 1
 have h:=dRm hp
 have k:=dRs hp
 have x:=dRx hp
 have y2:=dv_mm hp.2.1 hp.2.1
 have y4:=(dv_mm (mmN_lt hm) (mmN_lt hm)).trans (y2.mul y2)
 have z1:C1 (dv (rY1 p)) _:=(dv_add (mmN_lt hm) (mmN_lt hm)).trans (y4.add y4)
 have z2:C1 (dv (rY2 p)) _:=(dv_add (addM_lt hm) (addM_lt hm)).trans (z1.add z1)
 have z4:C1 (dv (rY4 p)) _:=(dv_add (addM_lt hm) (addM_lt hm)).trans (z2.add z2)
 exact ((dv_sub (mmN_lt hm) (addM_lt hm)).trans (((dv_mm (addM_lt hm) (subM_lt hm)).trans (h.mul ((dv_sub (addM_lt hm) (subM_lt hm)).trans (k.sub x)))).sub z4)).trans (Cz.of_eq (by unfold jdY;grind))
theorem dRz:C1 (dv (rZ p)) (jdZ (dv p.y) (dv p.z)):=by
 have hm:=modN_pos 1
 have h:=dv_mm hp.2.1 hp.2.2
 exact ((dv_add (mmN_lt hm) (mmN_lt hm)).trans (h.add h)).trans (Cz.of_eq (by unfold jdZ;grind))
end
theorem rj_dbl {p:J3} {s:Sp} (hs:s.on) (h:RJ p s):RJ (jDbl p) (gsum s s):=by
 obtain ⟨hl,h⟩:=h
 refine ⟨jDbl_lt hl,?_⟩
 unfold jDbl
 by_cases hz:p.z=0
 ·rw[decide_eq_true hz,cond_true]
  have h0:=(dv_zero hl.2.2).2 hz
  have e:=repJ_none hs h h0
  rw[e,gsum_no sNo_on]
  exact h0
 ·rw[decide_eq_false hz,cond_false]
  exact repJ_c (repJ_dbl h (fun h0=>hz ((dv_zero hl.2.2).1 h0)) hs.O (gsum_is hs hs)) (dRx hl) (dRy hl) (dRz hl)
section
variable {p q:J3} (hp:p.lt) (hq:q.lt)
include hp hq
theorem dJu:C1 (dv (jU p q)) (dv p.x*(dv q.z*dv q.z)):=(dv_mm hp.1 (mmN_lt (modN_pos 1))).trans ((Cz.refl _ _).mul (dv_mm hq.2.2 hq.2.2))
theorem dJv:C1 (dv (jV p q)) (dv q.x*(dv p.z*dv p.z)):=(dv_mm hq.1 (mmN_lt (modN_pos 1))).trans ((Cz.refl _ _).mul (dv_mm hp.2.2 hp.2.2))
theorem dJs:C1 (dv (jS p q)) (dv p.y*(dv q.z*dv q.z*dv q.z)):=(dv_mm hp.2.1 (mmN_lt (modN_pos 1))).trans ((Cz.refl _ _).mul ((dv_mm (mmN_lt (modN_pos 1)) hq.2.2).trans ((dv_mm hq.2.2 hq.2.2).mul (Cz.refl _ _))))
theorem dJt:C1 (dv (jT p q)) (dv q.y*(dv p.z*dv p.z*dv p.z)):=(dv_mm hq.2.1 (mmN_lt (modN_pos 1))).trans ((Cz.refl _ _).mul ((dv_mm (mmN_lt (modN_pos 1)) hp.2.2).trans ((dv_mm hp.2.2 hp.2.2).mul (Cz.refl _ _))))
end
section
variable (p q:J3)
theorem dJh:C1 (dv (jH p q)) (dv (jV p q)-dv (jU p q)):=dv_sub (mmN_lt (modN_pos 1)) (mmN_lt (modN_pos 1))
theorem dJk:C1 (dv (jK p q)) (dv (jT p q)-dv (jS p q)):=dv_sub (mmN_lt (modN_pos 1)) (mmN_lt (modN_pos 1))
theorem dJh2:C1 (dv (jH2 p q)) ((dv (jV p q)-dv (jU p q))*(dv (jV p q)-dv (jU p q))):=(dv_mm (subM_lt (modN_pos 1)) (subM_lt (modN_pos 1))).trans ((dJh p q).mul (dJh p q))
theorem dJh3:C1 (dv (jH3 p q)) ((dv (jV p q)-dv (jU p q))*(dv (jV p q)-dv (jU p q))*(dv (jV p q)-dv (jU p q))):=(dv_mm (mmN_lt (modN_pos 1)) (subM_lt (modN_pos 1))).trans ((dJh2 p q).mul (dJh p q))
theorem dJw:C1 (dv (jW p q)) (dv (jU p q)*((dv (jV p q)-dv (jU p q))*(dv (jV p q)-dv (jU p q)))):=(dv_mm (mmN_lt (modN_pos 1)) (mmN_lt (modN_pos 1))).trans ((Cz.refl _ _).mul (dJh2 p q))
theorem dJx:C1 (dv (jX p q)) (jcX (dv (jU p q)) (dv (jV p q)) (dv (jS p q)) (dv (jT p q))):=by
 have hm:=modN_pos 1
 have hk:=(dv_mm (subM_lt hm) (subM_lt hm)).trans ((dJk p q).mul (dJk p q))
 exact ((dv_sub (subM_lt hm) (addM_lt hm)).trans (((dv_sub (mmN_lt hm) (mmN_lt hm)).trans (hk.sub (dJh3 p q))).sub ((dv_add (mmN_lt hm) (mmN_lt hm)).trans ((dJw p q).add (dJw p q))))).trans (Cz.of_eq (by unfold jcX;grind))
theorem dJy:C1 (dv (jY p q)) (jcY (dv (jU p q)) (dv (jV p q)) (dv (jS p q)) (dv (jT p q))):=by
 have hm:=modN_pos 1
 have h1:=(dv_mm (subM_lt hm) (subM_lt hm)).trans ((dJk p q).mul ((dv_sub (mmN_lt hm) (subM_lt hm)).trans ((dJw p q).sub (dJx p q))))
 have h2:=(dv_mm (mmN_lt hm) (mmN_lt hm)).trans ((Cz.refl _ (dv (jS p q))).mul (dJh3 p q))
 exact (dv_sub (mmN_lt hm) (mmN_lt hm)).trans (h1.sub h2)
theorem dJz {p q:J3} (hp:p.lt) (hq:q.lt):C1 (dv (jZ p q)) ((dv (jV p q)-dv (jU p q))*(dv p.z*dv q.z)):=(dv_mm (subM_lt (modN_pos 1)) (mmN_lt (modN_pos 1))).trans ((dJh p q).mul (dv_mm hp.2.2 hq.2.2))
end
theorem mul_ne2 {a b:Int} (ha:¬C1 a 0) (hb:¬C1 b 0):¬C1 (a*b) 0:=fun h=>(cz_euclid pr1 h).elim ha hb
theorem rj_join {p q:J3} {s t:Sp} (hs:s.on) (ht:t.on) (h:RJ p s) (k:RJ q t):RJ (jJoin p q) (gsum s t):=by
 obtain ⟨hl,h⟩:=h
 obtain ⟨kl,k⟩:=k
 refine ⟨jJoin_lt hl kl,?_⟩
 by_cases hz:p.z=0
 ·rw[jJ_p (decide_eq_true hz)]
  rw[repJ_none hs h ((dv_zero hl.2.2).2 hz),gsum_no_left ht]
  exact k
 by_cases kz:q.z=0
 ·rw[jJ_q (decide_eq_false hz) (decide_eq_true kz)]
  rw[repJ_none ht k ((dv_zero kl.2.2).2 kz),gsum_no hs]
  exact h
 have hz':¬C1 (dv p.z) 0:=fun h0=>hz ((dv_zero hl.2.2).1 h0)
 have kz':¬C1 (dv q.z) 0:=fun h0=>kz ((dv_zero kl.2.2).1 h0)
 obtain ⟨x1,y1,rfl,o1,hx1,hy1⟩:=repJ_some hs h hz'
 obtain ⟨x2,y2,rfl,o2,hx2,hy2⟩:=repJ_some ht k kz'
 have hw:=mul_ne2 hz' kz'
 have hu:C1 (dv (jU p q)) (x1*(dv p.z*dv q.z*(dv p.z*dv q.z))):=((dJu hl kl).trans (hx1.mul (Cz.refl _ _))).trans (Cz.of_eq (by grind))
 have hv:C1 (dv (jV p q)) (x2*(dv p.z*dv q.z*(dv p.z*dv q.z))):=((dJv hl kl).trans (hx2.mul (Cz.refl _ _))).trans (Cz.of_eq (by grind))
 have hS:C1 (dv (jS p q)) (y1*(dv p.z*dv q.z*(dv p.z*dv q.z)*(dv p.z*dv q.z))):=((dJs hl kl).trans (hy1.mul (Cz.refl _ _))).trans (Cz.of_eq (by grind))
 have hT:C1 (dv (jT p q)) (y2*(dv p.z*dv q.z*(dv p.z*dv q.z)*(dv p.z*dv q.z))):=((dJt hl kl).trans (hy2.mul (Cz.refl _ _))).trans (Cz.of_eq (by grind))
 have hsum:=gsum_is hs ht
 by_cases hU:jU p q=jV p q
 ·have e1:C1 (x1:Int) x2:=by
   have e:=hu.symm.trans ((Cz.of_eq (by rw[hU])).trans hv)
   exact cz_cancel pr1 (a:=dv p.z*dv q.z*(dv p.z*dv q.z)) (e.lc1 1 (by grind)) (mul_ne2 hw hw)
  by_cases hV:jS p q=jT p q
  ·have e2:C1 (y1:Int) y2:=by
    have e:=hS.symm.trans ((Cz.of_eq (by rw[hV])).trans hT)
    exact cz_cancel pr1 (a:=dv p.z*dv q.z*(dv p.z*dv q.z)*(dv p.z*dv q.z)) (e.lc1 1 (by grind)) (mul_ne2 (mul_ne2 hw hw) hw)
   rw[jJ_d (decide_eq_false hz) (decide_eq_false kz) (decide_eq_true hU) (decide_eq_true hV)]
   have e:(⟨x1,y1,false⟩:Sp)=⟨x2,y2,false⟩:=hs.eq ht ⟨e1,e2⟩
   rw[←e]
   exact (rj_dbl hs ⟨hl,h⟩).2
  ·rw[jJ_n (decide_eq_false hz) (decide_eq_false kz) (decide_eq_true hU) (decide_eq_false hV)]
   have hne:¬C1 (y1:Int) y2:=by
    intro e
    refine hV (dv_inj (mmN_lt (modN_pos 1)) (mmN_lt (modN_pos 1)) (hS.trans ((e.mul (Cz.refl _ _)).trans hT.symm)))
   have hn:=isS_turned o1 o2 e1 hne hsum
   have hg:gsum ⟨x1,y1,false⟩ ⟨x2,y2,false⟩=sNo:=(gsum_on hs ht).eq sNo_on (by rw[hn];trivial)
   rw[hg]
   show C1 (dv 0) 0
   rw[dv_0];exact Cz.refl _ _
 ·rw[jJ_c (decide_eq_false hz) (decide_eq_false kz) (decide_eq_false hU)]
  have hne:¬C1 (dv (jU p q)) (dv (jV p q)):=fun e=>hU (dv_inj (mmN_lt (modN_pos 1)) (mmN_lt (modN_pos 1)) e)
  exact repJ_c (repJ_chord hw hu hv hS hT o1 o2 hne hsum) (dJx p q) (dJy p q) (dJz hl kl)
theorem rj_step {k j:Nat} {p x:J3} {s:Sp} {a:Nat} (hs:s.on) (hp:RJ p s) (hx:RJ x (gmul s a)):RJ (jStep k p j x) (gmul s (2*a+bitN k j)):=by
 have h1:=rj_dbl (gmul_on hs a) hx
 rw[←gmul_add hs a a,←Nat.two_mul] at h1
 have hb:=bitN_le k j
 by_cases h:bitN k j=1
 ·rw[jStep_t (decide_eq_true h),h]
  exact rj_join (gmul_on hs (2*a)) hs h1 hp
 ·rw[jStep_f (decide_eq_false h),show bitN k j=0 by omega]
  exact h1
theorem rj_timesG {k:Nat} {p:J3} {s:Sp} (hs:s.on) (hp:RJ p s):∀(j:Nat) (x:J3) (a:Nat),RJ x (gmul s a)→a=k/2^j→RJ (jTimesG k p j x) (gmul s k)
 |0,x,a,hx,ha=>by
  rw[Nat.pow_zero,Nat.div_one] at ha
  subst ha;exact hx
 |j+1,x,a,hx,ha=>by
  refine rj_timesG hs hp j (jStep k p j x) (2*a+bitN k j) (rj_step hs hp hx) ?_
  subst ha
  unfold bitN
  rw[Nat.pow_succ,←Nat.div_div_eq_div_mul]
  omega
theorem rj_times {k:Nat} (hk:k<4294967296^8) {p:J3} {s:Sp} (hs:s.on) (hp:RJ p s):RJ (jTimes k p) (gmul s k):=by
 refine rj_timesG hs hp _ _ 0 ?_ ?_
 ·exact rj_lift sNo_on
 ·rw[Nat.div_eq_of_lt (lenN_spec hk).1]
theorem rj_down {x:J3} {s:Sp} (hs:s.on) (h:RJ x s):jDx x=s.x∧jDy x=s.y∧wDi x=s.i:=by
 obtain ⟨hl,h⟩:=h
 have hm:=modN_pos 1
 unfold jDx jDy wDi
 by_cases h0:x.z=0
 ·rw[repJ_none hs h ((dv_zero hl.2.2).2 h0),decide_eq_true h0]
  exact ⟨rfl,rfl,rfl⟩
 ·have hn:¬C1 (dv x.z) 0:=fun e=>h0 ((dv_zero hl.2.2).1 e)
  obtain ⟨u,v,rfl,_,hx,hy⟩:=repJ_some hs h hn
  obtain ⟨a,b,c⟩:=Sp.on_some.1 hs
  obtain ⟨k1,k2⟩:=repJ_down (p:=((u:Int),(v:Int))) h (dv_inv hl.2.2 h0)
  have hi:=minvN_lt (m:=modN 1) (a:=x.z) hm
  rw[decide_eq_false h0,cond_false,cond_false]
  refine ⟨?_,?_,rfl⟩
  ·exact Cz.nat (outN_lt hm) a (Cz.trans (dv_mm hl.1 (mmN_lt hm)) (Cz.trans ((Cz.refl _ _).mul (dv_mm hi hi)) k1))
  ·exact Cz.nat (outN_lt hm) b (Cz.trans (dv_mm hl.2.1 (mmN_lt hm)) (Cz.trans ((Cz.refl _ _).mul ((dv_mm (mmN_lt hm) hi).trans ((dv_mm hi hi).mul (Cz.refl _ _)))) k2))
end Go.Ev

namespace Go.Ev
open Go Go.Proofs Go.RowKit
def spV (s : Sp) : V1 := P3 s.x s.y s.i
noncomputable def S12w : FuncId → Nat → Bool := fun f t => match f with | _ => false
noncomputable def E12w : Env := mkE L11w S12w
theorem envE12w : EnvOK E12w := envMk L11w_ok S12w
theorem wi15 (k : Nat) (px : Nat) (py : Nat) (pi : Bool) : callR E12w 1000 49 [N8 k, P3 px py pi] [] =
  some ([(0 : Int) ≤ (1 : Int) ∧ (1 : Int) < (4 : Int), modN 1 < 4294967296 ^ 8, facR (limb (modN 1) 0) < 4294967296, r2N (modN 1) < 4294967296 ^ 8, px < 4294967296 ^ 8, py < 4294967296 ^ 8, modN 1 = modN 1, facR (limb (modN 1) 0) = facR (limb (modN 1) 0), r2N (modN 1) = r2N (modN 1), pi = true ∨ px < modN 1 ∧ py < modN 1, modN 1 < 4294967296 ^ 8, facR (limb (modN 1) 0) < 4294967296, r2N (modN 1) < 4294967296 ^ 8, k < 4294967296 ^ 8, (jLift px py pi).1 < 4294967296 ^ 8, (jLift px py pi).2 < 4294967296 ^ 8, (jLift px py pi).3 < 4294967296 ^ 8, modN 1 = modN 1, facR (limb (modN 1) 0) = facR (limb (modN 1) 0), r2N (modN 1) = r2N (modN 1), J3.lt (J3.mk (J3.x (jLift px py pi)) (J3.y (jLift px py pi)) (J3.z (jLift px py pi))), modN 1 < 4294967296 ^ 8, facR (limb (modN 1) 0) < 4294967296, r2N (modN 1) < 4294967296 ^ 8, (jTimes k (J3.mk (J3.x (jLift px py pi)) (J3.y (jLift px py pi)) (J3.z (jLift px py pi)))).1 < 4294967296 ^ 8, (jTimes k (J3.mk (J3.x (jLift px py pi)) (J3.y (jLift px py pi)) (J3.z (jLift px py pi)))).2 < 4294967296 ^ 8, (jTimes k (J3.mk (J3.x (jLift px py pi)) (J3.y (jLift px py pi)) (J3.z (jLift px py pi)))).3 < 4294967296 ^ 8, modN 1 = modN 1, facR (limb (modN 1) 0) = facR (limb (modN 1) 0), r2N (modN 1) = r2N (modN 1), J3.lt (J3.mk (J3.x (jTimes k (J3.mk (J3.x (jLift px py pi)) (J3.y (jLift px py pi)) (J3.z (jLift px py pi))))) (J3.y (jTimes k (J3.mk (J3.x (jLift px py pi)) (J3.y (jLift px py pi)) (J3.z (jLift px py pi))))) (J3.z (jTimes k (J3.mk (J3.x (jLift px py pi)) (J3.y (jLift px py pi)) (J3.z (jLift px py pi))))))], .val (P3 (jDx (jTimes k (jLift px py pi))) (jDy (jTimes k (jLift px py pi))) (wDi (jTimes k (jLift px py pi))))) := by kernel_rfl
theorem wi39 (k : Nat) (px : Nat) (py : Nat) (pi : Bool) : callR E12w 1000 65 [N8 k, P3 px py pi] [] =
  some ([modN 1 < 4294967296 ^ 8, facN 1 < 4294967296, wBi < 4294967296 ^ 8, px < 4294967296 ^ 8, py < 4294967296 ^ 8, modN 1 = modN 1, facN 1 = facN 1, wBi = wBi, pi = true ∨ px < modN 1 ∧ py < modN 1, modN 1 < 4294967296 ^ 8, facN 1 < 4294967296, wBi < 4294967296 ^ 8, k < 4294967296 ^ 8, (wLift px py pi).1 < 4294967296 ^ 8, (wLift px py pi).2 < 4294967296 ^ 8, (wLift px py pi).3 < 4294967296 ^ 8, modN 1 = modN 1, facN 1 = facN 1, wBi = wBi, J3.lt (J3.mk (J3.x (wLift px py pi)) (J3.y (wLift px py pi)) (J3.z (wLift px py pi))), modN 1 < 4294967296 ^ 8, facN 1 < 4294967296, wBi < 4294967296 ^ 8, (wTimes k (J3.mk (J3.x (wLift px py pi)) (J3.y (wLift px py pi)) (J3.z (wLift px py pi)))).1 < 4294967296 ^ 8, (wTimes k (J3.mk (J3.x (wLift px py pi)) (J3.y (wLift px py pi)) (J3.z (wLift px py pi)))).2 < 4294967296 ^ 8, (wTimes k (J3.mk (J3.x (wLift px py pi)) (J3.y (wLift px py pi)) (J3.z (wLift px py pi)))).3 < 4294967296 ^ 8, modN 1 = modN 1, facN 1 = facN 1, wBi = wBi, J3.lt (J3.mk (J3.x (wTimes k (J3.mk (J3.x (wLift px py pi)) (J3.y (wLift px py pi)) (J3.z (wLift px py pi))))) (J3.y (wTimes k (J3.mk (J3.x (wLift px py pi)) (J3.y (wLift px py pi)) (J3.z (wLift px py pi))))) (J3.z (wTimes k (J3.mk (J3.x (wLift px py pi)) (J3.y (wLift px py pi)) (J3.z (wLift px py pi))))))], .val (P3 (wDx (wTimes k (wLift px py pi))) (wDy (wTimes k (wLift px py pi))) (wDi (wTimes k (wLift px py pi))))) := by kernel_rfl
theorem spec15g {k : Nat} (hk : k < 4294967296 ^ 8) {px py : Nat} {pi : Bool} (hp : Sp.on ⟨px, py, pi⟩) : Spec 49 [N8 k, P3 px py pi] (.val (spV (gmul ⟨px, py, pi⟩ k))) := by
 have hwb := wBi_lt
 have hx := L8 hp.lx
 have hy := L8 hp.ly
 have hl := hp.lt
 simp only at hx hy hl
 have hA := jLift_lt px py pi
 obtain ⟨hA1, hA2, hA3⟩ := id hA
 have hC := jTimes_lt (k := k) hA
 obtain ⟨hC1, hC2, hC3⟩ := id hC
 have hE := hC
 have hd := rj_down (gmul_on hp k) (rj_times hk hp (rj_lift hp))
 have hJ := hE
 obtain ⟨hJ1, hJ2, hJ3⟩ := id hJ
 have h := spec_run envE12w rfl (wi15 k px py pi) ⟨(by decide), (modN_lt _), (facR_lt32 _), (L8 (r2N_lt (by decide))), (by first | with_reducible assumption | with_reducible exact L8 (by with_reducible assumption) | exact decide_eq_true (by omega) | exact decide_eq_false (by omega) | omega), (by first | with_reducible assumption | with_reducible exact L8 (by with_reducible assumption) | exact decide_eq_true (by omega) | exact decide_eq_false (by omega) | omega), rfl, rfl, rfl, (by first | with_reducible assumption | with_reducible exact L8 (by with_reducible assumption) | exact decide_eq_true (by omega) | exact decide_eq_false (by omega) | omega), (modN_lt _), (facR_lt32 _), (L8 (r2N_lt (by decide))), (by first | with_reducible assumption | with_reducible exact L8 (by with_reducible assumption) | exact decide_eq_true (by omega) | exact decide_eq_false (by omega) | omega), (by first | with_reducible assumption | with_reducible exact L8 (by with_reducible assumption) | exact decide_eq_true (by omega) | exact decide_eq_false (by omega) | omega), (by first | with_reducible assumption | with_reducible exact L8 (by with_reducible assumption) | exact decide_eq_true (by omega) | exact decide_eq_false (by omega) | omega), (by first | with_reducible assumption | with_reducible exact L8 (by with_reducible assumption) | exact decide_eq_true (by omega) | exact decide_eq_false (by omega) | omega), rfl, rfl, rfl, (by first | with_reducible assumption | with_reducible exact L8 (by with_reducible assumption) | exact decide_eq_true (by omega) | exact decide_eq_false (by omega) | omega), (modN_lt _), (facR_lt32 _), (L8 (r2N_lt (by decide))), (by first | with_reducible assumption | with_reducible exact L8 (by with_reducible assumption) | exact decide_eq_true (by omega) | exact decide_eq_false (by omega) | omega), (by first | with_reducible assumption | with_reducible exact L8 (by with_reducible assumption) | exact decide_eq_true (by omega) | exact decide_eq_false (by omega) | omega), (by first | with_reducible assumption | with_reducible exact L8 (by with_reducible assumption) | exact decide_eq_true (by omega) | exact decide_eq_false (by omega) | omega), rfl, rfl, rfl, (by first | with_reducible assumption | with_reducible exact L8 (by with_reducible assumption) | exact decide_eq_true (by omega) | exact decide_eq_false (by omega) | omega), trivial⟩ rfl rfl
 obtain ⟨d1, d2, d3⟩ := hd
 rw [d1, d2, d3] at h
 exact h
theorem spec39g {k : Nat} (hk : k < 4294967296 ^ 8) {px py : Nat} {pi : Bool} (hp : Sp.on ⟨px, py, pi⟩) : Spec 65 [N8 k, P3 px py pi] (.val (spV (gmul ⟨px, py, pi⟩ k))) := by
 have hwb := wBi_lt
 have hx := L8 hp.lx
 have hy := L8 hp.ly
 have hl := hp.lt
 simp only at hx hy hl
 have hA := wLift_lt px py pi
 obtain ⟨hA1, hA2, hA3⟩ := id hA
 have hC := wTimes_lt k (wLift px py pi)
 obtain ⟨hC1, hC2, hC3⟩ := id hC
 have hE := hC
 have hd := rw_down (gmul_on hp k) (rw_times hk hp (rw_lift hp))
 have hJ := hE
 obtain ⟨hJ1, hJ2, hJ3⟩ := id hJ
 have h := spec_run envE12w rfl (wi39 k px py pi) ⟨(modN_lt _), (facN_lt32 1), (by first | with_reducible assumption | with_reducible exact L8 (by with_reducible assumption) | exact decide_eq_true (by omega) | exact decide_eq_false (by omega) | omega), (by first | with_reducible assumption | with_reducible exact L8 (by with_reducible assumption) | exact decide_eq_true (by omega) | exact decide_eq_false (by omega) | omega), (by first | with_reducible assumption | with_reducible exact L8 (by with_reducible assumption) | exact decide_eq_true (by omega) | exact decide_eq_false (by omega) | omega), rfl, rfl, rfl, (by first | with_reducible assumption | with_reducible exact L8 (by with_reducible assumption) | exact decide_eq_true (by omega) | exact decide_eq_false (by omega) | omega), (modN_lt _), (facN_lt32 1), (by first | with_reducible assumption | with_reducible exact L8 (by with_reducible assumption) | exact decide_eq_true (by omega) | exact decide_eq_false (by omega) | omega), (by first | with_reducible assumption | with_reducible exact L8 (by with_reducible assumption) | exact decide_eq_true (by omega) | exact decide_eq_false (by omega) | omega), (by first | with_reducible assumption | with_reducible exact L8 (by with_reducible assumption) | exact decide_eq_true (by omega) | exact decide_eq_false (by omega) | omega), (by first | with_reducible assumption | with_reducible exact L8 (by with_reducible assumption) | exact decide_eq_true (by omega) | exact decide_eq_false (by omega) | omega), (by first | with_reducible assumption | with_reducible exact L8 (by with_reducible assumption) | exact decide_eq_true (by omega) | exact decide_eq_false (by omega) | omega), rfl, rfl, rfl, (by first | with_reducible assumption | with_reducible exact L8 (by with_reducible assumption) | exact decide_eq_true (by omega) | exact decide_eq_false (by omega) | omega), (modN_lt _), (facN_lt32 1), (by first | with_reducible assumption | with_reducible exact L8 (by with_reducible assumption) | exact decide_eq_true (by omega) | exact decide_eq_false (by omega) | omega), (by first | with_reducible assumption | with_reducible exact L8 (by with_reducible assumption) | exact decide_eq_true (by omega) | exact decide_eq_false (by omega) | omega), (by first | with_reducible assumption | with_reducible exact L8 (by with_reducible assumption) | exact decide_eq_true (by omega) | exact decide_eq_false (by omega) | omega), (by first | with_reducible assumption | with_reducible exact L8 (by with_reducible assumption) | exact decide_eq_true (by omega) | exact decide_eq_false (by omega) | omega), rfl, rfl, rfl, (by first | with_reducible assumption | with_reducible exact L8 (by with_reducible assumption) | exact decide_eq_true (by omega) | exact decide_eq_false (by omega) | omega), trivial⟩ rfl rfl
 obtain ⟨d1, d2, d3⟩ := hd
 rw [d1, d2, d3] at h
 exact h
end Go.Ev

namespace Go.Ev
open Go Go.Proofs Go.RowKit
noncomputable def gMulP : List Val → Option (List Prop × AV)
 | [.n k, .n px, .n py, .b pi] => some ([onS px py pi = true], .val (spV (gmul ⟨px, py, pi⟩ k)))
 | _ => none
theorem ct39q : CTok ⟨65, fnS [aN, aSp] gMulP⟩ := ctS (by
 intro xs ob r hb h ho
 unfold gMulP at h
 split at h
 ·rename_i k px py pi
  simp only [Option.some.injEq, Prod.mk.injEq] at h
  obtain ⟨rfl, rfl⟩ := h
  obtain ⟨⟨b0, _⟩, _⟩ := hb
  exact spec39g b0 ho.1
 ·simp at h)
noncomputable def gMulQ : List Val → Option (List Prop × AV)
 | [.n k, .n px, .n py, .b pi] => some ([onS px py pi = true], .val (spV (gmul ⟨px, py, pi⟩ k)))
 | _ => none
theorem ct15q : CTok ⟨49, fnS [aN, aSp] gMulQ⟩ := ctS (by
 intro xs ob r hb h ho
 unfold gMulQ at h
 split at h
 ·rename_i k px py pi
  simp only [Option.some.injEq, Prod.mk.injEq] at h
  obtain ⟨rfl, rfl⟩ := h
  obtain ⟨⟨b0, _⟩, _⟩ := hb
  exact spec15g b0 ho.1
 ·simp at h)
theorem on_base : onS wXN wYN false = true := by
 refine Sp.on_some.2 ⟨wXN_lt, wYN_lt, (onW_iff wXN_lt wYN_lt).1 ?_⟩
 rw [eqW_in]
 decide +kernel
end Go.Ev

namespace Go.Ev.H5
open Go Go.Proofs Go.RowKit
set_option maxRecDepth 100000
theorem ct28 : CTok ⟨28, fnKy⟩ := by
 intro vs ob r h ho
 simp only [fnKy] at h
 split at h
 ·simp only [Option.some.injEq, Prod.mk.injEq] at h
  obtain ⟨rfl, rfl⟩ := h
  obtain ⟨h1, _⟩ := ho
  exact spec_run (envMk LKz_ok SKz) rfl (r28 _) ⟨dec32 h1, h1, beS_lt h1, trivial⟩ rfl rfl
 ·simp at h
noncomputable def LPb : List CT := ⟨28, fnKy⟩ :: ⟨43, fnKy⟩ :: ⟨65, fnS [aN, aSp] gMulP⟩ :: ⟨49, fnS [aN, aSp] gMulQ⟩ :: ⟨64, fnS [aSp] gOf58⟩ :: ⟨48, fnS [aSp] gOf58⟩ :: ⟨66, cV (.val (P3 wXN wYN false))⟩ :: ⟨50, cV (.val (P3 wXN wYN false))⟩ :: []
theorem LPb_ok : AllCT LPb := ⟨ct28, ct43, ct39q, ct15q, ct58s, ct32s, ctV spec19w, ctV spec28w, trivial⟩
def SPb : FuncId → Nat → Bool := fun f t => match f with | 41 => memN t [12] | _ => false
noncomputable def gBas (k : Nat) : Sp := gmul (Sp.mk wXN wYN false) k
theorem gBas_on (k : Nat) : (gBas k).on := gmul_on (s := Sp.mk wXN wYN false) on_base k
theorem gBas_lt (k : Nat) : (gBas k).x < 4294967296 ^ 8 ∧ (gBas k).y < 4294967296 ^ 8 := ⟨L8 (gBas_on k).lx, L8 (gBas_on k).ly⟩
noncomputable def pubS (s : ByteArray) : ByteArray := packW (gBas (beS s)).x (gBas (beS s)).y
theorem r41 (s : ByteArray) : callR (mkE LPb SPb) 1000 41 [sS s] [false] =
  some ([s.size = 32, (!gd (beS s)) = false, beS s < 4294967296 ^ 8, wXN < 4294967296 ^ 8, wYN < 4294967296 ^ 8, onS wXN wYN false = true, (gBas (beS s)).x < 4294967296 ^ 8, (gBas (beS s)).y < 4294967296 ^ 8], .tup [sS (pubS s), .one (.i 0)]) := by kernel_rfl
theorem r30 (s : ByteArray) : callR (mkE LPb SPb) 1000 30 [sS s] [] =
  some ([s.size = 32, beS s < 4294967296 ^ 8, wXN < 4294967296 ^ 8, wYN < 4294967296 ^ 8, onS wXN wYN false = true, (gBas (beS s)).x < 4294967296 ^ 8, (gBas (beS s)).y < 4294967296 ^ 8], .val (sS (pubS s))) := by kernel_rfl
noncomputable def fnPb (vs : List V1) : Option (List Prop × AV) := match vs with | [.one (.v (.string s))] => some ([s.size = 32, gd (beS s) = true], .tup [sS (pubS s), .one (.i 0)]) | _ => none
noncomputable def fnPc (vs : List V1) : Option (List Prop × AV) := match vs with | [.one (.v (.string s))] => some ([s.size = 32], .val (sS (pubS s))) | _ => none
theorem ct41 : CTok ⟨41, fnPb⟩ := by
 intro vs ob r h ho
 simp only [fnPb] at h
 split at h
 ·simp only [Option.some.injEq, Prod.mk.injEq] at h
  obtain ⟨rfl, rfl⟩ := h
  obtain ⟨h1, h2, _⟩ := ho
  exact spec_run (envMk LPb_ok SPb) rfl (r41 _) ⟨h1, by rw [h2]; rfl, beS_lt h1, L8 wXN_lt, L8 wYN_lt, on_base, (gBas_lt _).1, (gBas_lt _).2, trivial⟩ rfl rfl
 ·simp at h
theorem ct30 : CTok ⟨30, fnPc⟩ := by
 intro vs ob r h ho
 simp only [fnPc] at h
 split at h
 ·simp only [Option.some.injEq, Prod.mk.injEq] at h
  obtain ⟨rfl, rfl⟩ := h
  obtain ⟨h1, _⟩ := ho
  exact spec_run (envMk LPb_ok SPb) rfl (r30 _) ⟨h1, beS_lt h1, L8 wXN_lt, L8 wYN_lt, on_base, (gBas_lt _).1, (gBas_lt _).2, trivial⟩ rfl rfl
 ·simp at h
end Go.Ev.H5

