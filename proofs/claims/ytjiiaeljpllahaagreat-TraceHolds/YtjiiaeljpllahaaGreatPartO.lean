/- T; M; Sums of numbers, bytes, and spots; Keyed sums, nodes, and the law, of every input -/
import Derived.Test.YtjiiaeljpllahaaGreatPartN
import Derived.Test.YtjiiaeljpllahaaGreatPartL
import Derived.Test.YtjiiaeljpllahaaGreatPartK
import Derived.Test.YtjiiaeljpllahaaGreatPartM
namespace Go.Ev.H5
open Go Go.Proofs Go.RowKit
set_option maxRecDepth 100000
theorem Zj {a b:Nat} (h:jC a b false=true):jC a (aw (ab 1) 0 b) false=true:=As (s:=Sp.mk a b false) h
theorem aeC {x:Nat} (hx:x<ab 1) (o:Bool) (h:qu x=0):jC (xB x) (wz x o) false=true:=by
 have hr:Mt x=true:=by
  unfold qu at h
  cases hr:Mt x with
  |true=>rfl
  |false=>rw[hr,cond_false] at h;exact absurd h (by decide)
 have h0:jC x (Oq x) false=true:=QR.2 ⟨hx,pN (by decide),ac' hr⟩
 unfold xB wz
 rw[hr,cond_true,cond_true]
 cases o with
 |false=>rw[cond_false];exact h0
 |true=>rw[cond_true];exact Zj h0
theorem aaV {s:ByteArray} (h:wE s=0):jC (wX s) (wY s) false=true:=by
 unfold wX wY
 rw[decide_eq_true h,cond_true,cond_true]
 by_cases h33:s.size=33
 ·rw[decide_eq_true h33,cond_true]
  rw[vz h33] at h
  cases hc:(decide (k0 s=2)||decide (k0 s=3))&&decide (bx s<ab 1) with
  |false=>rw[hc,cond_false] at h;exact absurd h (by decide)
  |true=>
   rw[hc,cond_true] at h
   rw[Bool.and_eq_true,decide_eq_true_iff] at hc
   have hf:=aeC hc.2 (decide (2<k0 s)) h
   have hr:Mt (bx s)=true:=by
    unfold qu at h
    cases hr:Mt (bx s) with
    |true=>rfl
    |false=>rw[hr,cond_false] at h;exact absurd h (by decide)
   rw[show xB (bx s)=bx s from by unfold xB;rw[hr,cond_true]] at hf
   exact hf
 ·rw[decide_eq_false h33,cond_false]
  by_cases h65:s.size=65
  ·rw[CY h65] at h
   cases hc:decide (k0 s=4)&&(decide (bx s<ab 1)&&decide (yb s<ab 1)) with
   |false=>rw[hc,cond_false] at h;exact absurd h (by decide)
   |true=>
    rw[hc,cond_true] at h
    cases ho:jC (bx s) (yb s) false with
    |true=>rfl
    |false=>rw[ho,cond_false] at h;exact absurd h (by decide)
  ·rw[Bj h33 h65] at h;exact absurd h (by decide)
structure VF where
 X:ByteArray→Nat
 Y:ByteArray→Nat
 E:ByteArray→Int
 S:ByteArray→ByteArray
noncomputable def vf:VF:=⟨wX,wY,wE,nF⟩
def Xv (f:VF) (vs:List V1):Option (List Prop×AV):=match vs with|[.one (.v (.string s))]=>some ([],.tup [P3 (f.X s) (f.Y s) false,.one (.i (f.E s))])|_=>none
def fvS (f:VF) (vs:List V1):Option (List Prop×AV):=match vs with|[.one (.v (.string s))]=>some ([s.size≤100000000000000],.val (sS (f.S s)))|_=>none
noncomputable def fvH (f:VF) (vs:List V1):Option (List Prop×AV):=match vs with|[.one (.v (.string s))]=>some ([s.size≤100000000000000],.val (N8 (od (gT (f.S s)))))|_=>none
structure VFok (f:VF):Prop where
 c121:aU ⟨121,Xv f⟩
 c182:aU ⟨182,Xv f⟩
 c38:aU ⟨38,fvH f⟩
 c46:aU ⟨46,fvS f⟩
 sS:∀s,(f.S s).size=32
 on:∀s,f.E s=0→jC (f.X s) (f.Y s) false=true
theorem agM:aU ⟨121,Xv vf⟩:=by
 intro vs ob r h ho
 simp only[Xv] at h
 split at h
 ·obtain ⟨rfl,rfl⟩:=sI h
  exact Wf _
 ·simp at h
theorem ai0:aU ⟨182,Xv vf⟩:=by
 intro vs ob r h ho
 simp only[Xv] at h
 split at h
 ·obtain ⟨rfl,rfl⟩:=sI h
  exact Qy _
 ·simp at h
theorem RV (a b:ByteArray→Nat) (c:ByteArray→Int) (d:ByteArray→ByteArray):(VF.mk a b c d).X=a∧(VF.mk a b c d).Y=b∧(VF.mk a b c d).E=c∧(VF.mk a b c d).S=d:=⟨rfl,rfl,rfl,rfl⟩
theorem anN:vf.X=wX:=by unfold vf;exact (RV _ _ _ _).1
theorem aoR:vf.Y=wY:=by unfold vf;exact (RV _ _ _ _).2.1
theorem aoL:vf.E=wE:=by unfold vf;exact (RV _ _ _ _).2.2.1
theorem aeX:vf.S=nF:=by unfold vf;exact (RV _ _ _ _).2.2.2
theorem cvH {f:VF} {g:NF} (h:f.S=g.S) (hc:aU ⟨38,abf g⟩):aU ⟨38,fvH f⟩:=by
 intro vs ob r hr ho
 simp only[fvH] at hr
 split at hr
 ·obtain ⟨rfl,rfl⟩:=sI hr
  rw[h]
  exact hc _ _ _ rfl ho
 ·simp at hr
theorem cvS {f:VF} {g:NF} (h:f.S=g.S) (hc:aU ⟨46,Fx g⟩):aU ⟨46,fvS f⟩:=by
 intro vs ob r hr ho
 simp only[fvS] at hr
 split at hr
 ·obtain ⟨rfl,rfl⟩:=sI hr
  rw[h]
  exact hc _ _ _ rfl ho
 ·simp at hr
theorem anm:VFok vf:=by
 have h:vf.S=nf.S:=by rw[aeX,agH]
 refine ⟨agM,ai0,cvH h (agl afr),cvS h Xd,?_,?_⟩
 ·rw[aeX];exact oh
 ·rw[aoL,anN,aoR];exact fun _ h=>aaV h
noncomputable def LVp (f:VF):List CT:=⟨121,Xv f⟩::⟨38,fvH f⟩::⟨64,yh⟩::⟨39,gGd⟩::⟨35,Bf true⟩::⟨36,G' (bK (ab 3))⟩::⟨31,cV (.val (P3 xS xV false))⟩::⟨122,dU [aN,qg,aN,qg] (ZY true true)⟩::⟨34,xA fun a=> .val (N8 (od a))⟩::[]
theorem abH {f:VF} (hf:VFok f):bw (LVp f):=⟨hf.c121,hf.c38,HI,fun _ _ _ h ho=>ej zw h ho,XH,Xi,tG Au,ahC true true,fun _ _ _ h ho=>ej AF h ho,trivial⟩
noncomputable def LVq (f:VF):List CT:=⟨182,Xv f⟩::⟨46,fvS f⟩::⟨41,Df⟩::⟨42,gGd⟩::⟨48,Ln fun k=> .val (BP k)⟩::⟨53,Bf false⟩::⟨52,Mj⟩::⟨50,OS bK⟩::⟨45,cV (.val (P3 xS xV false))⟩::⟨183,dU [aN,qg,aN,qg] Jm⟩::⟨49,xA fun a=> .val (N8 (od a))⟩::[]
theorem Zz {f:VF} (hf:VFok f):bw (LVq f):=⟨hf.c182,hf.c46,Ol,fun _ _ _ h ho=>ej Hw h ho,fun _ _ _ h ho=>lX GR h ho,Nd,OR,fun _ _ _ h ho=>ma GZ h ho,tG uI,Xg,fun _ _ _ h ho=>ej BE h ho,trivial⟩
def SVe:FuncId→Nat→Bool:=fun f t=>match f with|60=>bf t [25,29,36,40,46,52,56,86]|124=>bf t [17,20,27,30,33,37,41,61]|_=>false
noncomputable def WD (f:VF):Env:=cd (LVp f) SVe
noncomputable def Xx (f:VF):Env:=cd (LVq f) SVe
theorem YF {f:VF} (hf:VFok f):EnvOK (WD f):=aF (abH hf) _
theorem aa7 {f:VF} (hf:VFok f):EnvOK (Xx f):=aF (Zz hf) _
noncomputable def yT (s:ByteArray):Nat:=gT (s.extract 0 32)
noncomputable def xw (s:ByteArray):Nat:=gT (s.extract 32 s.size)
noncomputable def vW (s:ByteArray):Nat:=PK (xw s)
noncomputable def vH (f:VF) (m:ByteArray):Nat:=od (gT (f.S m))
noncomputable def vU (f:VF) (m s:ByteArray):Nat:=bK (ab 3) (vH f m) (vW s)
noncomputable def vV (s:ByteArray):Nat:=bK (ab 3) (yT s) (vW s)
noncomputable def vP (f:VF) (p m s:ByteArray):Sp:=iC (gr ⟨xS,xV,false⟩ (vU f m s)) (gr ⟨f.X p,f.Y p,false⟩ (vV s))
noncomputable def vQ (f:VF) (p m s:ByteArray):Bool:=decide (od (vP f p m s).x%4294967296^8=yT s%4294967296^8)&&true
def u7 (s:ByteArray) (b:Bool):Prop:=(!decide ((s.size:Int)=64))=b
def mx4 (m:ByteArray) (b:Bool):Prop:=decide ((4096:Int)<(m.size:Int))=b
def er0 (f:VF) (p:ByteArray) (b:Bool):Prop:=(!decide (f.E p=0))=b
def UY (s:ByteArray):Prop:=(0:Int)≤32∧(32:Int)≤(s.size:Int)
noncomputable def UA (f:VF) (p m s:ByteArray):List Prop:=[u7 s false,mx4 m false,er0 f p false,UY s,(s.extract 0 32).size=32,UY s,(s.extract 32 s.size).size=32,yT s<4294967296^8]
noncomputable def oVb (f:VF) (m s:ByteArray):List Prop:=[(!gd (yT s))=false,xw s<4294967296^8,(!gd (xw s))=false,(3:Int)=3,xw s<ab 3,gX (xw s)=false,xw s<4294967296^8,m.size≤100000000000000,
 (3:Int)=3,vH f m<ab 3,vW s<ab 3,vH f m<4294967296^8,vW s<4294967296^8,(3:Int)=3,yT s<ab 3,vW s<ab 3,yT s<4294967296^8,vW s<4294967296^8]
noncomputable def oVc (f:VF) (p m s:ByteArray):List Prop:=[vU f m s<4294967296^8,xS<4294967296^8,xV<4294967296^8,vV s<4294967296^8,f.X p<4294967296^8,f.Y p<4294967296^8,jC xS xV false=true,jC (f.X p) (f.Y p) false=true]
noncomputable def oVd (f:VF) (m s:ByteArray):List Prop:=[(!gd (yT s))=false,xw s<4294967296^8,(!gd (xw s))=false,(0:Int)≤3∧(3:Int)<4,(3:Int)=3,xw s<ab 3,gX (xw s)=false,xw s<4294967296^8,m.size≤100000000000000,(f.S m).size=32,
 PX,vH f m<ab 3,vW s<ab 3,vH f m<4294967296^8,vW s<4294967296^8,PX,yT s<ab 3,vW s<ab 3,yT s<4294967296^8,vW s<4294967296^8]
def q0 (b:Bool) (e:Int):AV:= .tup [.one (.v (.bool b)),.one (.i e)]
theorem aqi (f:VF) (p m s:ByteArray):al (WD f) 1000 60 [sS p,sS m,sS s] [true]=some ([u7 s true],q0 false 1):=by kernel_rfl
theorem apD (f:VF) (p m s:ByteArray):al (WD f) 1000 60 [sS p,sS m,sS s] [false,true]=some ([u7 s false,mx4 m true],q0 false 2):=by kernel_rfl
theorem aly (f:VF) (p m s:ByteArray):al (WD f) 1000 60 [sS p,sS m,sS s] [false,false,true]=some ([u7 s false,mx4 m false,er0 f p true],q0 false (f.E p)):=by kernel_rfl
theorem al3 (f:VF) (p m s:ByteArray):al (WD f) 1000 60 [sS p,sS m,sS s] [false,false,false,true]=some (UA f p m s++[(!gd (yT s))=true],q0 false 6):=by kernel_rfl
theorem am9 (f:VF) (p m s:ByteArray):al (WD f) 1000 60 [sS p,sS m,sS s] [false,false,false,false,true]=some (UA f p m s++[(!gd (yT s))=false,xw s<4294967296^8,(!gd (xw s))=true],q0 false 6):=by kernel_rfl
theorem aqm (f:VF) (p m s:ByteArray):al (WD f) 1000 60 [sS p,sS m,sS s] [false,false,false,false,false,false]=some (UA f p m s++oVb f m s++oVc f p m s++[(!(vP f p m s).i)=false],q0 false 0):=by kernel_rfl
theorem alm (f:VF) (p m s:ByteArray):al (WD f) 1000 60 [sS p,sS m,sS s] [false,false,false,false,false,true]=some (UA f p m s++oVb f m s++oVc f p m s++[(!(vP f p m s).i)=true,(vP f p m s).x<4294967296^8],q0 (vQ f p m s) 0):=by kernel_rfl
theorem al5 (f:VF) (p m s:ByteArray):al (Xx f) 1000 124 [sS p,sS m,sS s] [true]=some ([u7 s true],q0 false 1):=by kernel_rfl
theorem amB (f:VF) (p m s:ByteArray):al (Xx f) 1000 124 [sS p,sS m,sS s] [false,true]=some ([u7 s false,mx4 m true],q0 false 2):=by kernel_rfl
theorem aoF (f:VF) (p m s:ByteArray):al (Xx f) 1000 124 [sS p,sS m,sS s] [false,false,true]=some ([u7 s false,mx4 m false,er0 f p true],q0 false (f.E p)):=by kernel_rfl
theorem ao4 (f:VF) (p m s:ByteArray):al (Xx f) 1000 124 [sS p,sS m,sS s] [false,false,false,true]=some (UA f p m s++[(!gd (yT s))=true],q0 false 6):=by kernel_rfl
theorem apq (f:VF) (p m s:ByteArray):al (Xx f) 1000 124 [sS p,sS m,sS s] [false,false,false,false,true]=some (UA f p m s++[(!gd (yT s))=false,xw s<4294967296^8,(!gd (xw s))=true],q0 false 6):=by kernel_rfl
theorem aqH (f:VF) (p m s:ByteArray):al (Xx f) 1000 124 [sS p,sS m,sS s] [false,false,false,false,false,false]=some (UA f p m s++oVd f m s++oVc f p m s++[(!(vP f p m s).i)=false],q0 false 0):=by kernel_rfl
theorem aqF (f:VF) (p m s:ByteArray):al (Xx f) 1000 124 [sS p,sS m,sS s] [false,false,false,false,false,true]=some (UA f p m s++oVd f m s++oVc f p m s++[(!(vP f p m s).i)=true,(vP f p m s).x<4294967296^8],q0 (vQ f p m s) 0):=by kernel_rfl
noncomputable def veE (f:VF) (p m s:ByteArray):Int:=bif decide (s.size=64) then (bif decide (m.size≤4096) then (bif decide (f.E p=0) then (bif gd (yT s)&&gd (xw s) then 0 else 6) else f.E p) else 2) else 1
noncomputable def veB (f:VF) (p m s:ByteArray):Bool:=bif decide (s.size=64)&&(decide (m.size≤4096)&&(decide (f.E p=0)&&(gd (yT s)&&(gd (xw s)&& !(vP f p m s).i)))) then vQ f p m s else false
theorem FQ {s:ByteArray} (h:s.size=64):yT s<4294967296^8:=fu (by rw[ByteArray.size_extract];omega)
theorem rL {s:ByteArray} (h:s.size=64):xw s<4294967296^8:=fu (by rw[ByteArray.size_extract];omega)
theorem Dg {s:ByteArray} (h:s.size=64):u7 s false:=by unfold u7;rw[decide_eq_true (by omega)];rfl
theorem Mm {s:ByteArray} (h:¬s.size=64):u7 s true:=by unfold u7;rw[decide_eq_false (by omega)];rfl
theorem Nl {f:VF} {p m s:ByteArray} (h1:s.size=64) (h2:m.size≤4096) (h3:f.E p=0):cL (UA f p m s):=by
 have hi:UY s:=by unfold UY;omega
 exact ⟨Dg h1,decide_eq_false (by omega),by unfold er0;rw[h3];rfl,hi,by rw[ByteArray.size_extract];omega,hi,by rw[ByteArray.size_extract];omega,FQ h1,trivial⟩
theorem abi {f:VF} {m s:ByteArray} (h1:s.size=64) (h2:m.size≤4096) (g1:gd (yT s)=true) (g2:gd (xw s)=true):cL (oVb f m s):=by
 obtain ⟨a1,a2⟩:=lu g1
 obtain ⟨b1,b2⟩:=lu g2
 have hw:vW s<ab 3:=Hs _
 have hh:vH f m<ab 3:=EE _
 exact ⟨zH g1,rL h1,zH g2,rfl,b2,b1,rL h1,by omega,rfl,hh,hw,L8 hh,L8 hw,rfl,a2,hw,FQ h1,L8 hw,trivial⟩
theorem Ys {f:VF} (hf:VFok f) {m s:ByteArray} (h1:s.size=64) (h2:m.size≤4096) (g1:gd (yT s)=true) (g2:gd (xw s)=true):cL (oVd f m s):=by
 obtain ⟨a1,a2⟩:=lu g1
 obtain ⟨b1,b2⟩:=lu g2
 have hw:vW s<ab 3:=Hs _
 have hh:vH f m<ab 3:=EE _
 have k3:PX:=aC (by decide)
 exact ⟨zH g1,rL h1,zH g2,by omega,rfl,b2,b1,rL h1,by omega,hf.sS _,k3,hh,hw,L8 hh,L8 hw,k3,a2,hw,FQ h1,L8 hw,trivial⟩
theorem K2 {f:VF} (hf:VFok f) {p m s:ByteArray} (h3:f.E p=0):cL (oVc f p m s)∧(vP f p m s).x<4294967296^8:=by
 have hu:vU f m s<ab 3:=bi (ae 3)
 have hv:vV s<ab 3:=bi (ae 3)
 have ho:=hf.on p h3
 have h0:Sp.on ⟨f.X p,f.Y p,false⟩:=ho
 have hb:Sp.on ⟨xS,xV,false⟩:=qw
 exact ⟨⟨L8 hu,L8 vy,L8 wW,L8 hv,L8 h0.lx,L8 h0.ly,qw,ho,trivial⟩,L8 (ib (dL hb _) (dL h0 _)).lx⟩
theorem z0 {f:VF} (hf:VFok f) (p m s:ByteArray):Spec 60 [sS p,sS m,sS s] (q0 (veB f p m s) (veE f p m s)):=by
 have hV:=YF hf
 unfold veB veE
 by_cases h1:s.size=64
 ·by_cases h2:m.size≤4096
  ·by_cases h3:f.E p=0
   ·have oa:=Nl h1 h2 h3
    obtain ⟨oc,ol⟩:=K2 hf h3 (m:=m) (s:=s)
    rw[decide_eq_true h1,decide_eq_true h2,decide_eq_true h3]
    simp only[cond_true,Bool.true_and]
    cases g1:gd (yT s) with
    |false=>exact af hV rfl (al3 f p m s) (bq oa ⟨Gl g1,trivial⟩) rfl rfl
    |true=>
     cases g2:gd (xw s) with
     |false=>exact af hV rfl (am9 f p m s) (bq oa ⟨zH g1,rL h1,Gl g2,trivial⟩) rfl rfl
     |true=>
      have ob:=abi (f:=f) h1 h2 g1 g2
      cases hi:(vP f p m s).i with
      |true=>exact af hV rfl (aqm f p m s) (bq (bq (bq oa ob) oc) ⟨zH hi,trivial⟩) rfl rfl
      |false=>exact af hV rfl (alm f p m s) (bq (bq (bq oa ob) oc) ⟨Gl hi,ol,trivial⟩) rfl rfl
   ·rw[decide_eq_true h1,decide_eq_true h2,decide_eq_false h3]
    simp only[cond_true,cond_false,Bool.true_and,Bool.false_and]
    exact af hV rfl (aly f p m s) ⟨Dg h1,decide_eq_false (by omega),by unfold er0;rw[decide_eq_false h3];rfl,trivial⟩ rfl rfl
  ·rw[decide_eq_true h1,decide_eq_false h2]
   simp only[cond_true,cond_false,Bool.true_and,Bool.false_and]
   exact af hV rfl (apD f p m s) ⟨Dg h1,decide_eq_true (by omega),trivial⟩ rfl rfl
 ·rw[decide_eq_false h1]
  simp only[cond_false,Bool.false_and]
  exact af hV rfl (aqi f p m s) ⟨Mm h1,trivial⟩ rfl rfl
theorem AB {f:VF} (hf:VFok f) (p m s:ByteArray):Spec 124 [sS p,sS m,sS s] (q0 (veB f p m s) (veE f p m s)):=by
 have hV:=aa7 hf
 unfold veB veE
 by_cases h1:s.size=64
 ·by_cases h2:m.size≤4096
  ·by_cases h3:f.E p=0
   ·have oa:=Nl h1 h2 h3
    obtain ⟨oc,ol⟩:=K2 hf h3 (m:=m) (s:=s)
    rw[decide_eq_true h1,decide_eq_true h2,decide_eq_true h3]
    simp only[cond_true,Bool.true_and]
    cases g1:gd (yT s) with
    |false=>exact af hV rfl (ao4 f p m s) (bq oa ⟨Gl g1,trivial⟩) rfl rfl
    |true=>
     cases g2:gd (xw s) with
     |false=>exact af hV rfl (apq f p m s) (bq oa ⟨zH g1,rL h1,Gl g2,trivial⟩) rfl rfl
     |true=>
      have ob:=Ys hf h1 h2 g1 g2
      cases hi:(vP f p m s).i with
      |true=>exact af hV rfl (aqH f p m s) (bq (bq (bq oa ob) oc) ⟨zH hi,trivial⟩) rfl rfl
      |false=>exact af hV rfl (aqF f p m s) (bq (bq (bq oa ob) oc) ⟨Gl hi,ol,trivial⟩) rfl rfl
   ·rw[decide_eq_true h1,decide_eq_true h2,decide_eq_false h3]
    simp only[cond_true,cond_false,Bool.true_and,Bool.false_and]
    exact af hV rfl (aoF f p m s) ⟨Dg h1,decide_eq_false (by omega),by unfold er0;rw[decide_eq_false h3];rfl,trivial⟩ rfl rfl
  ·rw[decide_eq_true h1,decide_eq_false h2]
   simp only[cond_true,cond_false,Bool.true_and,Bool.false_and]
   exact af hV rfl (amB f p m s) ⟨Dg h1,decide_eq_true (by omega),trivial⟩ rfl rfl
 ·rw[decide_eq_false h1]
  simp only[cond_false,Bool.false_and]
  exact af hV rfl (al5 f p m s) ⟨Mm h1,trivial⟩ rfl rfl
theorem alb (x:Nat):al E0 1000 61 [u64 x] []=some ([],.val (sS (bm x))):=by kernel_rfl
theorem ah_:aU ⟨61,qk⟩:=by
 intro vs ob r h ho
 simp only[qk] at h
 split at h
 ·obtain ⟨rfl,rfl⟩:=sI h
  exact af envE0 rfl (alb _) trivial rfl rfl
 ·simp at h
def Bm (z:Int):Bool:=decide (z=1)||decide (z=2)
def SCu:FuncId→Nat→Bool:=fun f t=>match f with|18=>bf t [4,7]|58=>bf t [4,7]|_=>false
theorem anR (z:Int):∀f∈[18,58],al (cd [] SCu) 1000 f [.one (.i z)] [true]=some ([decide (z=1)=true],bV true):=by
 intro f hf
 simp only[List.mem_cons,List.not_mem_nil,or_false] at hf
 rcases hf with rfl|rfl<;>kernel_rfl
theorem ao5 (z:Int):∀f∈[18,58],al (cd [] SCu) 1000 f [.one (.i z)] [false,true]=some ([decide (z=1)=false,decide (z=2)=true],bV true):=by
 intro f hf
 simp only[List.mem_cons,List.not_mem_nil,or_false] at hf
 rcases hf with rfl|rfl<;>kernel_rfl
theorem aov (z:Int):∀f∈[18,58],al (cd [] SCu) 1000 f [.one (.i z)] [false,false]=some ([decide (z=1)=false,decide (z=2)=false],bV false):=by
 intro f hf
 simp only[List.mem_cons,List.not_mem_nil,or_false] at hf
 rcases hf with rfl|rfl<;>kernel_rfl
theorem aaX {f:FuncId} (hf:f∈[18,58]) (z:Int):Spec f [.one (.i z)] (bV (Bm z)):=by
 have hE:EnvOK (cd [] SCu):=aF (L:=[]) trivial SCu
 unfold Bm
 by_cases h1:z=1
 ·rw[decide_eq_true h1]
  exact af hE rfl (anR z f hf) ⟨decide_eq_true h1,trivial⟩ rfl rfl
 ·rw[decide_eq_false h1]
  by_cases h2:z=2
  ·rw[decide_eq_true h2]
   exact af hE rfl (ao5 z f hf) ⟨decide_eq_false h1,decide_eq_true h2,trivial⟩ rfl rfl
  ·rw[decide_eq_false h2]
   exact af hE rfl (aov z f hf) ⟨decide_eq_false h1,decide_eq_false h2,trivial⟩ rfl rfl
def J6 (vs:List V1):Option (List Prop×AV):=match vs with|[.one (.i z)]=>some ([],bV (Bm z))|_=>none
theorem T7 {f:FuncId} (hf:f∈[18,58]):aU ⟨f,J6⟩:=by
 intro vs ob r h ho
 simp only[J6] at h
 split at h
 ·obtain ⟨rfl,rfl⟩:=sI h
  exact aaX hf _
 ·simp at h
structure HF where
 aB:ByteArray→ByteArray→ByteArray→Bool
 aE:ByteArray→ByteArray→ByteArray→Int
 bB:ByteArray→ByteArray→ByteArray→Bool
 bE:ByteArray→ByteArray→ByteArray→Int
def CG (f:HF) (vs:List V1):Option (List Prop×AV):=match vs with|[.one (.v (.string p)),.one (.v (.string m)),.one (.v (.string s))]=>some ([],q0 (f.aB p m s) (f.aE p m s))|_=>none
def Dw (f:HF) (vs:List V1):Option (List Prop×AV):=match vs with|[.one (.v (.string p)),.one (.v (.string m)),.one (.v (.string s))]=>some ([],q0 (f.bB p m s) (f.bE p m s))|_=>none
structure HFok (f:HF):Prop where
 c59:aU ⟨59,CG f⟩
 c123:aU ⟨123,CG f⟩
 c60:aU ⟨60,Dw f⟩
 c124:aU ⟨124,Dw f⟩
noncomputable def LHo (f:HF):List CT:=⟨59,CG f⟩::⟨123,CG f⟩::⟨60,Dw f⟩::⟨124,Dw f⟩::⟨61,qk⟩::⟨23,qk⟩::⟨18,J6⟩::⟨58,J6⟩::[]
theorem Ob {f:HF} (hf:HFok f):bw (LHo f):=⟨hf.c59,hf.c123,hf.c60,hf.c124,ah_,Jn,T7 (by simp),T7 (by simp),trivial⟩
def SHo:FuncId→Nat→Bool:=fun f t=>match f with|24=>bf t [11,13,21]|25=>bf t [10,18]|62=>bf t [11]|_=>false
noncomputable def EHo (f:HF):Env:=cd (LHo f) SHo
theorem Eo {f:HF} (hf:HFok f):EnvOK (EHo f):=aF (Ob hf) _
def Yl (p:ByteArray) (n:Nat) (m s:ByteArray):V1:= .agg [.a (.v (.string p)),.a (.u .u64 n),.a (.v (.string m)),.a (.v (.string s))]
noncomputable def PP (n:Nat) (m:ByteArray):ByteArray:=bm n++m
noncomputable def hoB (f:HF) (z:Int) (pub:ByteArray) (n:Nat) (m s:ByteArray):Bool:=bif decide (z=1) then f.aB pub (PP n m) s else (bif decide (z=2) then f.bB pub (PP n m) s else false)
noncomputable def hoE (f:HF) (z:Int) (pub:ByteArray) (n:Nat) (m s:ByteArray):Int:=bif decide (z=1) then f.aE pub (PP n m) s else (bif decide (z=2) then f.bE pub (PP n m) s else 1)
def KD:Nat:=1000000000000000000
def Ws (n:Nat) (m:ByteArray):Prop:=(bm n).size+m.size≤9223372036854775807
theorem apt (f:HF) (z:Int) (u p m s:ByteArray) (n:Nat):al (EHo f) 1000 24 [.one (.i z),sS u,Yl p n m s] [true]=some ([(!Bm z)=true],q0 false 1):=by kernel_rfl
theorem acT (f:HF) (z:Int) (u p m s:ByteArray) (n:Nat):al (EHo f) 1000 24 [.one (.i z),sS u,Yl p n m s] [false,false]=some ([(!Bm z)=false,decide (z=2)=false,Ws n m],q0 (f.aB u (PP n m) s) (f.aE u (PP n m) s)):=by kernel_rfl
theorem X8 (f:HF) (z:Int) (u p m s:ByteArray) (n:Nat):al (EHo f) 1000 24 [.one (.i z),sS u,Yl p n m s] [false,true]=some ([(!Bm z)=false,decide (z=2)=true,Ws n m],q0 (f.bB u (PP n m) s) (f.bE u (PP n m) s)):=by kernel_rfl
theorem aqx (f:HF) (z:Int) (u m s:ByteArray):al (EHo f) 1000 62 [.one (.i z),sS u,sS m,sS s] [true]=some ([decide (z=1)=true],q0 (f.aB u m s) (f.aE u m s)):=by kernel_rfl
theorem al6 (f:HF) (z:Int) (u m s:ByteArray):al (EHo f) 1000 62 [.one (.i z),sS u,sS m,sS s] [false]=some ([decide (z=1)=false],q0 (f.bB u m s) (f.bE u m s)):=by kernel_rfl
def verB (f:HF) (z:Int) (u m s:ByteArray):Bool:=bif decide (z=1) then f.aB u m s else f.bB u m s
def verE (f:HF) (z:Int) (u m s:ByteArray):Int:=bif decide (z=1) then f.aE u m s else f.bE u m s
def Bu (f:HF) (vs:List V1):Option (List Prop×AV):=match vs with|[.one (.i z),.one (.v (.string u)),.one (.v (.string m)),.one (.v (.string s))]=>some ([],q0 (verB f z u m s) (verE f z u m s))|_=>none
theorem aos {f:HF} (hf:HFok f):aU ⟨62,Bu f⟩:=by
 intro vs ob r h ho
 simp only[Bu] at h
 split at h
 ·rename_i z u m s
  obtain ⟨rfl,rfl⟩:=sI h
  unfold verB verE
  by_cases h1:z=1
  ·rw[decide_eq_true h1]
   exact af (Eo hf) rfl (aqx f z u m s) ⟨decide_eq_true h1,trivial⟩ rfl rfl
  ·rw[decide_eq_false h1]
   exact af (Eo hf) rfl (al6 f z u m s) ⟨decide_eq_false h1,trivial⟩ rfl rfl
 ·simp at h
noncomputable def LHq (f:HF):List CT:=⟨62,Bu f⟩::LHo f
theorem aaS {f:HF} (hf:HFok f):bw (LHq f):=⟨aos hf,Ob hf⟩
theorem aqf (f:HF) (z:Int) (u p m s:ByteArray) (n:Nat):al (cd (LHq f) SHo) 1000 25 [.one (.i z),sS u,Yl p n m s] [true]=some ([(!Bm z)=true],q0 false 1):=by kernel_rfl
theorem aip (f:HF) (z:Int) (u p m s:ByteArray) (n:Nat):al (cd (LHq f) SHo) 1000 25 [.one (.i z),sS u,Yl p n m s] [false]=some ([(!Bm z)=false,Ws n m],q0 (verB f z u (PP n m) s) (verE f z u (PP n m) s)):=by kernel_rfl
theorem Fv {n:Nat} {m:ByteArray} (h:m.size≤KD):Ws n m:=by unfold Ws;rw[f5];unfold KD at h;omega
theorem RB {f:HF} (hf:HFok f) (z:Int) (u p m s:ByteArray) (n:Nat) (hm:m.size≤KD):Spec 24 [.one (.i z),sS u,Yl p n m s] (q0 (hoB f z u n m s) (hoE f z u n m s)):=by
 have h8:Ws n m:=Fv hm
 unfold hoB hoE
 by_cases h1:z=1
 ·rw[decide_eq_true h1]
  exact af (Eo hf) rfl (acT f z u p m s n) ⟨by subst h1;rfl,decide_eq_false (by omega),h8,trivial⟩ rfl rfl
 ·rw[decide_eq_false h1]
  by_cases h2:z=2
  ·rw[decide_eq_true h2]
   exact af (Eo hf) rfl (X8 f z u p m s n) ⟨by subst h2;rfl,decide_eq_true h2,h8,trivial⟩ rfl rfl
  ·rw[decide_eq_false h2]
   exact af (Eo hf) rfl (apt f z u p m s n) ⟨by unfold Bm;rw[decide_eq_false h1,decide_eq_false h2];rfl,trivial⟩ rfl rfl
theorem V9 {f:HF} (hf:HFok f) (z:Int) (u p m s:ByteArray) (n:Nat) (hm:m.size≤KD):Spec 25 [.one (.i z),sS u,Yl p n m s] (q0 (hoB f z u n m s) (hoE f z u n m s)):=by
 have h8:Ws n m:=Fv hm
 have hV:EnvOK (cd (LHq f) SHo):=aF (aaS hf) _
 unfold hoB hoE
 by_cases h1:z=1
 ·have hr:=aip f z u p m s n
  unfold verB verE at hr
  rw[decide_eq_true h1] at hr ⊢
  exact af hV rfl hr ⟨by subst h1;rfl,h8,trivial⟩ rfl rfl
 ·by_cases h2:z=2
  ·have hr:=aip f z u p m s n
   unfold verB verE at hr
   rw[decide_eq_false h1] at hr ⊢
   rw[decide_eq_true h2]
   exact af hV rfl hr ⟨by subst h2;rfl,h8,trivial⟩ rfl rfl
  ·rw[decide_eq_false h1,decide_eq_false h2]
   exact af hV rfl (aqf f z u p m s n) ⟨by unfold Bm;rw[decide_eq_false h1,decide_eq_false h2];rfl,trivial⟩ rfl rfl
end Go.Ev.H5
namespace Go.Ev.H5.M5
open Go Go.Proofs Go.RowKit
set_option maxRecDepth 100000
def bB (l:List Nat):Blk:=⟨[.arr .u8 l],5,true,false,0⟩
def u8V (x:Nat):AV:= .val (.one (.u .u8 x))
def slV (n:Nat):AV:= .val (.one (.sl 0 0 n n))
noncomputable def S86:FuncId→Nat→Bool:=fun f t=>match f with|107=>bf t [2000010,13,19,21,24,25,4000025,30,2000031,34,4000034,15,2000036]|_=>false
noncomputable def E86:Env:={E0 with S:=S86}
theorem jq:EnvOK E86:=⟨mixed,envE0.fns,envE0.fms,envE0.lps,envE0.fbs⟩
def jG (k:ByteArray) (x:Nat) (i:Int):List AV:=bt 37 [(0,.val (sS k)),(1,iV 128),(2,u8V x),(7,slV 128),(8,iV i)]
def xr (a x:Nat):Nat:=a%256^^^x%256
def kb (k:ByteArray) (j:Nat):Nat:=(k.data.getD j 0).toNat
theorem Yf (k:ByteArray) (x i:Nat) (l:List Nat):aH E86 1000 (E86.S 107) (ah Tryz.prog 107 3) (jG k x (i:Int)) [bB l] [true,true] (jG k x ((i:Int)+1)) 1=
  some ([decide ((i:Int)<128)=true,decide ((i:Int)<(k.size:Int))=true,(0:Int)≤(i:Int)∧(i:Int)<(k.size:Int),(0:Int)≤(i:Int)∧(i:Int)<((128:Nat):Int),0+i*1<l.length,(0:Int)≤(i:Int)∧(i:Int)<((128:Nat):Int),0+i*1<(l.set (0+i*1) (kb k i)).length,(0:Int)≤(i:Int)∧(i:Int)<((128:Nat):Int),0+i*1<(l.set (0+i*1) (kb k i)).length,br ((i:Int)+1)],.normal,jG k x ((i:Int)+1),[bB ((l.set (0+i*1) (kb k i)).set (0+i*1) (xr ((l.set (0+i*1) (kb k i)).getD (0+i*1) 0) x))]):=by kernel_rfl
theorem ZV (k:ByteArray) (x i:Nat) (l:List Nat):aH E86 1000 (E86.S 107) (ah Tryz.prog 107 3) (jG k x (i:Int)) [bB l] [true,false] (jG k x ((i:Int)+1)) 1=
  some ([decide ((i:Int)<128)=true,decide ((i:Int)<(k.size:Int))=false,(0:Int)≤(i:Int)∧(i:Int)<((128:Nat):Int),0+i*1<l.length,(0:Int)≤(i:Int)∧(i:Int)<((128:Nat):Int),0+i*1<l.length,br ((i:Int)+1)],.normal,jG k x ((i:Int)+1),[bB (l.set (0+i*1) (xr (l.getD (0+i*1) 0) x))]):=by kernel_rfl
theorem x52 (k:ByteArray) (x i:Nat) (l:List Nat):aH E86 1000 (E86.S 107) (ah Tryz.prog 107 3) (jG k x (i:Int)) [bB l] [false] (jG k x (i:Int)) 1=
  some ([decide ((i:Int)<128)=false],.exit 0,jG k x (i:Int),[bB l]):=by kernel_rfl
noncomputable def MH (k:ByteArray) (x:Nat) (l0 l1:List Nat):Env:=fY E86 3 (ah Tryz.prog 107 3) (fo (jG k x 0) [bB l0] (jG k x 128) [bB l1] (.exit 0))
def rep0:List Nat:=List.replicate 128 0
theorem r52 (x:Nat) (k:ByteArray) (l0 l1:List Nat):al (MH k x l0 l1) 1000 107 [sS k,.one (.i 128),.one (.u .u8 x)] []=
  some ([(0:Int)≤128∧(128:Int)=128∧(128:Int)≤140737488355328,ah Tryz.prog 107 3=ah Tryz.prog 107 3,(jG k x 0,[bB rep0])=(jG k x 0,[bB l0]),dl (jG k x 0) [bB l0]=true,0=0∧128=l1.length],.val (sS (bQ l1))):=by kernel_rfl
def gI (f:Nat→Nat):List Nat:=(List.range 128).map f
theorem iv (f:Nat→Nat):(gI f).length=128:=by simp[gI]
theorem oJ (f:Nat→Nat) {i:Nat} (h:i<128):(gI f).getD i 0=f i:=by
 unfold gI
 rw[List.getD_eq_getElem?_getD,List.getElem?_map,List.getElem?_range h];rfl
theorem gK {f g:Nat→Nat} (h:∀i,i<128→f i=g i):gI f=gI g:=List.map_congr_left fun i hi=>h i (List.mem_range.1 hi)
theorem k6 (f:Nat→Nat) (i v:Nat):(gI f).set i v=gI fun j=>if j=i then v else f j:=by
 apply List.ext_getElem?
 intro j
 unfold gI
 rw[List.getElem?_set]
 by_cases hj:j<128
 ·rw[List.getElem?_map,List.getElem?_map,List.getElem?_range hj]
  by_cases e:i=j
  ·subst e;simp[hj]
  ·simp[e,Ne.symm e]
 ·rw[List.getElem?_eq_none (by simp;omega),List.getElem?_eq_none (by simp;omega)]
  split
  ·split
   ·rename_i h1 h2;rw[List.length_map,List.length_range] at h2;omega
   ·rfl
  ·rfl
theorem AT {l:List Nat} {f:Nat→Nat} (hl:l.length=128) (h:∀i,i<128→l.getD i 0=f i):l=gI f:=by
 apply List.ext_getElem?
 intro j
 unfold gI
 by_cases hj:j<128
 ·rw[List.getElem?_map,List.getElem?_range hj,Option.map_some,←h j hj,List.getD_eq_getElem?_getD,List.getElem?_eq_getElem (by omega)];rfl
 ·rw[List.getElem?_eq_none (by omega),List.getElem?_eq_none (by simp;omega)]
def eb (k:ByteArray) (x:Nat):ByteArray:=bQ (gI fun j=>xr (kb k j) x)
theorem lM (k:ByteArray) (x:Nat):(eb k x).size=128:=by unfold eb;rw[dh,iv]
theorem zu {k:ByteArray} {j:Nat} (h:k.size≤j):kb k j=0:=by
 unfold kb
 rw[Array.getD,dif_neg (by show ¬j<k.size;omega)];rfl
theorem FT:rep0=gI fun _=>0:=by
 refine AT List.length_replicate fun i hi=> ?_
 unfold rep0
 rw[List.getD_eq_getElem?_getD,List.getElem?_replicate,if_pos hi];rfl
theorem ur (l:List Nat):∀b∈[bB l],er b:=by
 intro b hb
 simp only[List.mem_cons,List.not_mem_nil,or_false] at hb
 subst hb;exact fun _=>rfl
theorem AY (k:ByteArray) (x:Nat) (i:Int) (l:List Nat):dl (jG k x i) [bB l]=true:=cc (ur l) (by show cw 1 _=true;kernel_rfl)
theorem zy (k:ByteArray) (x i:Nat) (l:List Nat) (hl:l.length=128) (hi:i<128) (hk:i<k.size):Goes Tryz.prog (ah Tryz.prog 107 3) .normal (jG k x (i:Int)) [bB l] (jG k x ((i:Int)+1)) [bB ((l.set (0+i*1) (kb k i)).set (0+i*1) (xr ((l.set (0+i*1) (kb k i)).getD (0+i*1) 0) x))]:=
 Runs.goes jq ⟨_,_,Yf k x i l,⟨decide_eq_true (by omega),decide_eq_true (by omega),by omega,by omega,by omega,by omega,by rw[List.length_set];omega,by omega,by rw[List.length_set];omega,by unfold br;omega,trivial⟩,AY _ _ _ _⟩
theorem Ap (k:ByteArray) (x i:Nat) (l:List Nat) (hl:l.length=128) (hi:i<128) (hk:k.size≤i):Goes Tryz.prog (ah Tryz.prog 107 3) .normal (jG k x (i:Int)) [bB l] (jG k x ((i:Int)+1)) [bB (l.set (0+i*1) (xr (l.getD (0+i*1) 0) x))]:=
 Runs.goes jq ⟨_,_,ZV k x i l,⟨decide_eq_true (by omega),decide_eq_false (by omega),by omega,by omega,by omega,by omega,by unfold br;omega,trivial⟩,AY _ _ _ _⟩
theorem K1 (k:ByteArray) (x:Nat) (l:List Nat):Goes Tryz.prog (ah Tryz.prog 107 3) (.exit 0) (jG k x ((128:Nat):Int)) [bB l] (jG k x ((128:Nat):Int)) [bB l]:=
 Runs.goes jq ⟨_,_,x52 k x 128 l,⟨by decide,trivial⟩,AY _ _ _ _⟩
theorem GD (k:ByteArray) (x:Nat):Goes Tryz.prog (.loop (ah Tryz.prog 107 3)) (.exit 0) (jG k x ((0:Nat):Int)) [bB rep0] (jG k x ((128:Nat):Int)) [bB (gI fun j=>xr (kb k j) x)]:=by
 have e0:rep0=gI fun j=>if j<0 then xr (kb k j) x else 0:=by rw[FT];exact gK fun i _=>by simp
 have e1:(gI fun j=>xr (kb k j) x)=gI fun j=>if j<128 then xr (kb k j) x else 0:=gK fun i hi=>by simp[hi]
 rw[e0,e1]
 refine bJ (N:=128) (k:=1) (T:=fun i=>jG k x (i:Int)) (M:=fun i=>[bB (gI fun j=>if j<i then xr (kb k j) x else 0)]) (by simp) (fun _ _=>rfl) (fun i hi=> ?_) ?_
 ·have e:(gI fun j=>if j=i then xr (kb k i) x else if j<i then xr (kb k j) x else 0)=gI fun j=>if j<i+1 then xr (kb k j) x else 0:=gK fun j _=>by
   by_cases h1:j=i
   ·subst h1;simp
   ·by_cases h2:j<i
    ·simp[h1,h2,show j<i+1 by omega]
    ·simp[h1,h2,show ¬j<i+1 by omega]
  by_cases hk:i<k.size
  ·have h:=zy k x i (gI fun j=>if j<i then xr (kb k j) x else 0) (iv _) hi hk
   rw[show 0+i*1=i by omega,k6,k6,oJ _ hi,if_pos rfl] at h
   have e2:(gI fun j=>if j=i then xr (kb k i) x else if j=i then kb k i else if j<i then xr (kb k j) x else 0)=gI fun j=>if j=i then xr (kb k i) x else if j<i then xr (kb k j) x else 0:=gK fun j _=>by
    by_cases h1:j=i<;>simp[h1]
   rw[e2,e] at h
   exact h
  ·have h:=Ap k x i (gI fun j=>if j<i then xr (kb k j) x else 0) (iv _) hi (by omega)
   rw[show 0+i*1=i by omega,oJ _ hi,k6,if_neg (Nat.lt_irrefl i)] at h
   have e3:xr 0 x=xr (kb k i) x:=by rw[zu (by omega)]
   rw[e3,e] at h
   exact h
 ·exact K1 k x _
theorem rC (k:ByteArray) (x:Nat):Spec 107 [sS k,.one (.i 128),.one (.u .u8 x)] (.val (sS (eb k x))):=by
 have hE:EnvOK (MH k x rep0 (gI fun j=>xr (kb k j) x)):=da jq (bz rfl (GD k x))
 exact af hE rfl (r52 x k _ _) ⟨by omega,rfl,rfl,AY _ _ _ _,⟨rfl,(iv _).symm⟩,trivial⟩ rfl rfl
def oV (vs:List V1):Option (List Prop×AV):=match vs with|[.one (.v (.string k)),.one (.i z),.one (.u .u8 x)]=>some ([z=128,k.size≤128],.val (sS (eb k x)))|_=>none
theorem Z4:aU ⟨107,oV⟩:=by
 intro vs ob r h ho
 simp only[oV] at h
 split at h
 ·obtain ⟨rfl,rfl⟩:=sI h
  obtain ⟨rfl,_,_⟩:=ho
  exact rC _ _
 ·simp at h
noncomputable def hmac (k s:ByteArray):ByteArray:=cK (eb k 92++cK (eb k 54++s))
noncomputable def LHm:List CT:=[⟨107,oV⟩,⟨106,FA⟩]
theorem Bh:bw LHm:=⟨Z4,aiP,trivial⟩
noncomputable def Z3:FuncId→Nat→Bool:=fun f t=>match f with|54=>bf t [7,15,17]|_=>false
theorem r31 (k s:ByteArray):al (cd LHm Z3) 1000 54 [sS k,sS s] [false]=
  some ([decide ((128:Int)<(k.size:Int))=false,(128:Int)=128,k.size≤128,(128:Int)=128,k.size≤128,(eb k 54).size+s.size≤9223372036854775807,(eb k 54++s).size≤100000000000000,(eb k 92).size+(cK (eb k 54++s)).size≤9223372036854775807,(eb k 92++cK (eb k 54++s)).size≤100000000000000],.val (sS (hmac k s))):=by kernel_rfl
theorem hmac_size (k s:ByteArray):(hmac k s).size=64:=eu _
theorem Ic {k s:ByteArray} (hk:k.size≤128) (hs:s.size≤10000000000000):cL [decide ((128:Int)<(k.size:Int))=false,(128:Int)=128,k.size≤128,(128:Int)=128,k.size≤128,(eb k 54).size+s.size≤9223372036854775807,(eb k 54++s).size≤100000000000000,(eb k 92).size+(cK (eb k 54++s)).size≤9223372036854775807,(eb k 92++cK (eb k 54++s)).size≤100000000000000]:=by
 have e1:=lM k 54
 have e2:=lM k 92
 have e3:=eu (eb k 54++s)
 have e4:(eb k 54++s).size=128+s.size:=by rw[ByteArray.size_append,e1]
 have e5:(eb k 92++cK (eb k 54++s)).size=192:=by rw[ByteArray.size_append,e2,e3]
 exact ⟨decide_eq_false (by omega),rfl,hk,rfl,hk,by omega,by omega,by omega,by omega,trivial⟩
noncomputable def aeG (vs:List V1):Option (List Prop×AV):=match vs with|[.one (.v (.string k)),.one (.v (.string s))]=>some ([k.size≤128,s.size≤10000000000000],.val (sS (hmac k s)))|_=>none
theorem ct31:aU ⟨54,aeG⟩:=by
 intro vs ob r h ho
 simp only[aeG] at h
 split at h
 ·obtain ⟨rfl,rfl⟩:=sI h
  obtain ⟨h1,h2,_⟩:=ho
  exact af (aF Bh Z3) rfl (r31 _ _) (Ic h1 h2) rfl rfl
 ·simp at h
end Go.Ev.H5.M5
namespace Go.Ev.H5
open Go Go.Proofs Go.RowKit
set_option maxRecDepth 100000
def Mf (k c:ByteArray):V1:= .agg [.a (.v (.string k)),.a (.v (.string c))]
def kH (z:Int) (k:ByteArray):Bool:=Bm z&&(decide (z=1)||gd (gT k))
noncomputable def LD:List CT:=⟨12,Fn⟩::⟨18,J6⟩::[]
theorem Qw:bw LD:=⟨TX,T7 (by simp),trivial⟩
def SC:FuncId→Nat→Bool:=fun f t=>match f with|55=>bf t [14,19,25,29]|_=>false
theorem aoB (z:Int) (k c:ByteArray):al (cd LD SC) 1000 55 [.one (.i z),Mf k c] [false]=some ([k.size=32,Bm z=false],bV false):=by kernel_rfl
theorem aoA (z:Int) (k c:ByteArray):al (cd LD SC) 1000 55 [.one (.i z),Mf k c] [true,true,true,true]=some ([k.size=32,Bm z=true,decide ((k.size:Int)=32)=true,decide ((c.size:Int)=32)=true,decide (z=1)=true],bV true):=by kernel_rfl
theorem amH (z:Int) (k c:ByteArray):al (cd LD SC) 1000 55 [.one (.i z),Mf k c] [true,true,true,false]=some ([k.size=32,Bm z=true,decide ((k.size:Int)=32)=true,decide ((c.size:Int)=32)=true,decide (z=1)=false],bV (gd (gT k))):=by kernel_rfl
theorem FZ (z:Int) (k c:ByteArray) (hk:k.size=32) (hc:c.size=32):Spec 55 [.one (.i z),Mf k c] (bV (kH z k)):=by
 have hE:EnvOK (cd LD SC):=aF Qw _
 have e1:decide ((k.size:Int)=32)=true:=decide_eq_true (by omega)
 have e2:decide ((c.size:Int)=32)=true:=decide_eq_true (by omega)
 unfold kH
 cases hz:Bm z with
 |false=>exact af hE rfl (aoB z k c) ⟨hk,hz,trivial⟩ rfl rfl
 |true=>
  rw[Bool.true_and]
  by_cases h1:z=1
  ·rw[decide_eq_true h1,Bool.true_or]
   exact af hE rfl (aoA z k c) ⟨hk,hz,e1,e2,decide_eq_true h1,trivial⟩ rfl rfl
  ·rw[decide_eq_false h1,Bool.false_or]
   exact af hE rfl (amH z k c) ⟨hk,hz,e1,e2,decide_eq_false h1,trivial⟩ rfl rfl
def amf (H:HH) (vs:List V1):Option (List Prop×AV):=match vs with|[.one (.v (.string k)),.one (.v (.string s))]=>some ([k.size≤128,s.size≤10000000000000],.val (sS (H k s)))|_=>none
def X5 (B:Int→ByteArray→Bool) (vs:List V1):Option (List Prop×AV):=match vs with|[.one (.i z),.agg [.a (.v (.string k)),.a (.v (.string c))]]=>some ([k.size=32,c.size=32],bV (B z k))|_=>none
theorem afu:aU ⟨55,X5 kH⟩:=by
 intro vs ob r h ho
 simp only[X5] at h
 split at h
 ·obtain ⟨rfl,rfl⟩:=sI h
  exact FZ _ _ _ ho.1 ho.2.1
 ·simp at h
def LMs (H:HH) (B:Int→ByteArray→Bool):List CT:=⟨54,amf H⟩::⟨55,X5 B⟩::[]
theorem acG:bw (LMs M5.hmac kH):=⟨M5.ct31,afu,trivial⟩
def alf:FuncId→Nat→Bool:=fun f t=>match f with|19=>bf t [11,14,16,21,23,27]|_=>false
noncomputable def Xf (H:HH) (B:Int→ByteArray→Bool):Env:=cd (LMs H B) alf
theorem xd:EnvOK (Xf M5.hmac kH):=aF acG _
def uz (k c:ByteArray):Blk:=⟨[.a (.v (.string k)),.a (.v (.string c))],55,true,false,0⟩
def wE5:ByteArray:=⟨#[101,100,50,53,53,49,57,32,115,101,101,100]⟩
def wP5:ByteArray:=⟨#[78,105,115,116,50,53,54,112,49,32,115,101,101,100]⟩
def I3 (z:Int) (w s:ByteArray) (j:Int):List AV:=bt 30 [(0,iV z),(4,pV 0),(6,sv w),(7,sv s),(8,iV j)]
def Kr:List AV:=bt 30 [(4,pV 0),(5,iV 0)]
def JA:List AV:=bt 30 [(4,pV 0)]
def mL (H:HH) (w s:ByteArray):ByteArray:=(H w s).extract 0 32
def mR (H:HH) (w s:ByteArray):ByteArray:=(H w s).extract 32 (H w s).size
def o19 (H:HH) (B:Int→ByteArray→Bool) (z:Int) (w s:ByteArray) (j:Nat) (b:Bool):List Prop:=[decide ((j:Int)<8)=true,w.size≤128,s.size≤10000000000000,(0:Int)≤32∧(32:Int)≤((H w s).size:Int),(0:Int)≤32∧(32:Int)≤((H w s).size:Int),B z (mL H w s)=b,(mL H w s).size=32,(mR H w s).size=32]
theorem y19 (H:HH) (B:Int→ByteArray→Bool) (z:Int) (w s:ByteArray) (j:Nat):aH (Xf H B) 1000 ((Xf H B).S 19) (ah Tryz.prog 19 6) (I3 z w s (j:Int)) [uz em em] [true,true] Kr 1=
  some (o19 H B z w s j true,.ret,Kr,[uz (mL H w s) (mR H w s)]):=by kernel_rfl
theorem n19 (H:HH) (B:Int→ByteArray→Bool) (z:Int) (w s:ByteArray) (j:Nat):aH (Xf H B) 1000 ((Xf H B).S 19) (ah Tryz.prog 19 6) (I3 z w s (j:Int)) [uz em em] [true,false] (I3 z w (H w s) ((j:Int)+1)) 1=
  some (o19 H B z w s j false++[br ((j:Int)+1)],.normal,I3 z w (H w s) ((j:Int)+1),[uz em em]):=by kernel_rfl
theorem x19 (H:HH) (B:Int→ByteArray→Bool) (z:Int) (w s:ByteArray) (j:Nat):aH (Xf H B) 1000 ((Xf H B).S 19) (ah Tryz.prog 19 6) (I3 z w s (j:Int)) [uz em em] [false] JA 1=
  some ([decide ((j:Int)<8)=false],.exit 0,JA,[uz em em]):=by kernel_rfl
noncomputable def xY (z:Int) (w:ByteArray):Nat→ByteArray→Option ByteArray
 |0,_=>none
 |t+1,s=>bif kH z (mL M5.hmac w s) then some (M5.hmac w s) else xY z w t (M5.hmac w s)
theorem ya (z:Int) (w s:ByteArray):xY z w 0 s=none:=rfl
theorem rW (z:Int) (w:ByteArray) (t:Nat) (s:ByteArray):xY z w (t+1) s=bif kH z (mL M5.hmac w s) then some (M5.hmac w s) else xY z w t (M5.hmac w s):=rfl
theorem Fu {z:Int} {w s:ByteArray} {j:Nat} {b:Bool} (hw:w.size≤128) (hs:s.size≤1000000) (hj:j<8) (hb:kH z (mL M5.hmac w s)=b):cL (o19 M5.hmac kH z w s j b):=by
 have hz:=M5.hmac_size w s
 refine ⟨decide_eq_true (by omega),hw,by omega,by omega,by omega,hb,?_,?_,trivial⟩
 ·unfold mL;rw[ByteArray.size_extract,hz];rfl
 ·unfold mR;rw[ByteArray.size_extract,hz];rfl
theorem K0 (k c:ByteArray):∀b∈[uz k c],er b:=by
 intro b hb
 simp only[List.mem_cons,List.not_mem_nil,or_false] at hb
 subst hb;exact fun _=>rfl
theorem wf5 {n:Nat} {l:List (Nat×AV)} (k c:ByteArray) (h:cw 1 (bt n l)=true):dl (bt n l) [uz k c]=true:=cc (K0 k c) h
theorem SE (z:Int) {w:ByteArray} (hw:w.size≤128):∀(t j:Nat) (s r:ByteArray),j+t=8→s.size≤1000000→xY z w t s=some r→GoesN Tryz.prog (ah Tryz.prog 19 6) (t+1) .ret (I3 z w s (j:Int)) [uz em em] Kr [uz (r.extract 0 32) (r.extract 32 r.size)]:=by
 intro t
 induction t with
 |zero=>intro j s r hj hs hm;rw[ya] at hm;exact nomatch hm
 |succ t ih=>
  intro j s r hj hs hm
  rw[rW] at hm
  cases hg:kH z (mL M5.hmac w s) with
  |true=>
   rw[hg,cond_true,Option.some.injEq] at hm
   subst hm
   exact GoesN.out (by simp) (Runs.goes xd ⟨_,_,y19 M5.hmac kH z w s j,Fu hw hs (by omega) hg,wf5 _ _ (by kernel_rfl)⟩)
  |false=>
   rw[hg,cond_false] at hm
   have ih:=ih (j+1) (M5.hmac w s) r (by omega) (by rw[M5.hmac_size];omega) hm
   rw[show ((j+1:Nat):Int)=(j:Int)+1 by omega] at ih
   exact GoesN.cons rfl (Runs.goes xd ⟨_,_,n19 M5.hmac kH z w s j,bq (Fu hw hs (by omega) hg) ⟨by unfold br;omega,trivial⟩,wf5 _ _ (by kernel_rfl)⟩) ih
theorem Qq (z:Int) {w:ByteArray} (hw:w.size≤128):∀(t j:Nat) (s:ByteArray),j+t=8→s.size≤1000000→xY z w t s=none→GoesN Tryz.prog (ah Tryz.prog 19 6) (t+1) (.exit 0) (I3 z w s (j:Int)) [uz em em] JA [uz em em]:=by
 intro t
 induction t with
 |zero=>
  intro j s hj hs hm
  obtain rfl:j=8:=by omega
  exact GoesN.out (by simp) (Runs.goes xd ⟨_,_,x19 M5.hmac kH z w s 8,⟨by decide,trivial⟩,wf5 _ _ (by kernel_rfl)⟩)
 |succ t ih=>
  intro j s hj hs hm
  rw[rW] at hm
  cases hg:kH z (mL M5.hmac w s) with
  |true=>rw[hg,cond_true] at hm;exact nomatch hm
  |false=>
   rw[hg,cond_false] at hm
   have ih:=ih (j+1) (M5.hmac w s) (by omega) (by rw[M5.hmac_size];omega) hm
   rw[show ((j+1:Nat):Int)=(j:Int)+1 by omega] at ih
   exact GoesN.cons rfl (Runs.goes xd ⟨_,_,n19 M5.hmac kH z w s j,bq (Fu hw hs (by omega) hg) ⟨by unfold br;omega,trivial⟩,wf5 _ _ (by kernel_rfl)⟩) ih
def wZ (z:Int):ByteArray:=bif decide (z=2) then wP5 else wE5
theorem VE (z:Int):(wZ z).size≤128:=by unfold wZ;cases decide (z=2)<;>decide
noncomputable def Lk (H:HH) (B:Int→ByteArray→Bool) (z:Int) (w s:ByteArray) (T:List AV) (k c:ByteArray) (ex:Ex):Env:=fY (Xf H B) 6 (ah Tryz.prog 19 6) (fo (I3 z w s 0) [uz em em] T [uz k c] ex)
def Nm (z:Int) (w s:ByteArray) (b:Bool):List Prop:=[decide (z=2)=b,ah Tryz.prog 19 6=ah Tryz.prog 19 6,(I3 z w s 0,[uz em em])=(I3 z w s 0,[uz em em]),dl (I3 z w s 0) [uz em em]=true]
def CE (k c:ByteArray) (e:Int):AV:= .tup [Mf k c,.one (.i e)]
theorem anW (H:HH) (B:Int→ByteArray→Bool) (z:Int) (s k c:ByteArray):al (Lk H B z wP5 s Kr k c .ret) 1000 19 [.one (.i z),sS s] [true]=some (Nm z wP5 s true,CE k c 0):=by kernel_rfl
theorem amj (H:HH) (B:Int→ByteArray→Bool) (z:Int) (s:ByteArray):al (Lk H B z wP5 s JA em em (.exit 0)) 1000 19 [.one (.i z),sS s] [true]=some (Nm z wP5 s true,CE em em 3):=by kernel_rfl
theorem apE (H:HH) (B:Int→ByteArray→Bool) (z:Int) (s k c:ByteArray):al (Lk H B z wE5 s Kr k c .ret) 1000 19 [.one (.i z),sS s] [false]=some (Nm z wE5 s false,CE k c 0):=by kernel_rfl
theorem aoW (H:HH) (B:Int→ByteArray→Bool) (z:Int) (s:ByteArray):al (Lk H B z wE5 s JA em em (.exit 0)) 1000 19 [.one (.i z),sS s] [false]=some (Nm z wE5 s false,CE em em 3):=by kernel_rfl
def elS (F:ByteArray→ByteArray):Option ByteArray→ByteArray
 |some r=>F r
 |none=>em
def elE:Option ByteArray→Int
 |some _=>0
 |none=>3
theorem qX (F:ByteArray→ByteArray) (r:ByteArray):elS F (some r)=F r:=rfl
theorem DJ (F:ByteArray→ByteArray):elS F none=em:=rfl
theorem LQ (r:ByteArray):elE (some r)=0:=rfl
theorem EG:elE none=3:=rfl
def Q' (r:ByteArray):ByteArray:=r.extract 0 32
def aan (r:ByteArray):ByteArray:=r.extract 32 r.size
noncomputable def m9O (z:Int) (s:ByteArray):Option ByteArray:=xY z (wZ z) 8 s
noncomputable def m9K (z:Int) (s:ByteArray):ByteArray:=elS Q' (m9O z s)
noncomputable def m9C (z:Int) (s:ByteArray):ByteArray:=elS aan (m9O z s)
noncomputable def m9E (z:Int) (s:ByteArray):Int:=elE (m9O z s)
theorem Jt {z:Int} {w:ByteArray} (r:ByteArray):∀(t:Nat) (s:ByteArray),xY z w t s=some r→kH z (Q' r)=true∧r.size=64:=by
 intro t
 induction t with
 |zero=>intro s h;rw[ya] at h;exact nomatch h
 |succ t ih=>
  intro s h
  rw[rW] at h
  cases hg:kH z (mL M5.hmac w s) with
  |true=>
   rw[hg,cond_true,Option.some.injEq] at h
   subst h
   exact ⟨hg,M5.hmac_size _ _⟩
  |false=>rw[hg,cond_false] at h;exact ih _ h
theorem QG {z:Int} {s:ByteArray} (h:m9E z s=0):kH z (m9K z s)=true∧(m9K z s).size=32∧(m9C z s).size=32:=by
 unfold m9E at h
 cases hm:m9O z s with
 |none=>rw[hm,EG] at h;exact absurd h (by decide)
 |some r=>
  obtain ⟨h1,h2⟩:=Jt r 8 s hm
  unfold m9K m9C
  rw[hm,qX,qX]
  exact ⟨h1,by unfold Q';rw[ByteArray.size_extract];omega,by unfold aan;rw[ByteArray.size_extract];omega⟩
theorem Qa (z:Int) {w:ByteArray} (hw:w.size≤128) {s r:ByteArray} (hs:s.size≤1000000) (hm:xY z w 8 s=some r):Goes Tryz.prog (.loop (ah Tryz.prog 19 6)) .ret (I3 z w s 0) [uz em em] Kr [uz (Q' r) (aan r)]:=(SE z hw 8 0 s r (by omega) hs hm).loop
theorem Sx (z:Int) {w:ByteArray} (hw:w.size≤128) {s:ByteArray} (hs:s.size≤1000000) (hm:xY z w 8 s=none):Goes Tryz.prog (.loop (ah Tryz.prog 19 6)) (.exit 0) (I3 z w s 0) [uz em em] JA [uz em em]:=(Qq z hw 8 0 s (by omega) hs hm).loop
theorem uB {z:Int} {w s:ByteArray} {b:Bool} (h:decide (z=2)=b):cL (Nm z w s b):=⟨h,rfl,rfl,wf5 _ _ (by kernel_rfl),trivial⟩
theorem yO (z:Int) {w s k c:ByteArray} {T:List AV} {ex:Ex} {n:Nat} {e:Int} {ob:List Prop} {b:Bool}
  (hg:Goes Tryz.prog (.loop (ah Tryz.prog 19 6)) ex (I3 z w s 0) [uz em em] T [uz k c])
  (hr:al (Lk M5.hmac kH z w s T k c ex) n 19 [.one (.i z),sS s] [b]=some (ob,CE k c e)) (ho:cL ob):Spec 19 [.one (.i z),sS s] (CE k c e):=
 af (da xd (bz (by simp only[List.length_cons,List.length_nil]) hg)) rfl hr ho rfl rfl
theorem Ha (z:Int) (s:ByteArray) (hs:s.size≤1000000):Spec 19 [.one (.i z),sS s] (CE (m9K z s) (m9C z s) (m9E z s)):=by
 unfold m9K m9C m9E
 have hw:=VE z
 cases hm:m9O z s with
 |some r=>
  rw[qX,qX,LQ]
  unfold m9O at hm
  have hg:=Qa z hw hs hm
  cases h2:decide (z=2) with
  |true=>rw[show wZ z=wP5 from by unfold wZ;rw[h2,cond_true]] at hg;exact yO z hg (anW _ _ z s _ _) (uB h2)
  |false=>rw[show wZ z=wE5 from by unfold wZ;rw[h2,cond_false]] at hg;exact yO z hg (apE _ _ z s _ _) (uB h2)
 |none=>
  rw[DJ,DJ,EG]
  unfold m9O at hm
  have hg:=Sx z hw hs hm
  cases h2:decide (z=2) with
  |true=>rw[show wZ z=wP5 from by unfold wZ;rw[h2,cond_true]] at hg;exact yO z hg (amj _ _ z s) (uB h2)
  |false=>rw[show wZ z=wE5 from by unfold wZ;rw[h2,cond_false]] at hg;exact yO z hg (aoW _ _ z s) (uB h2)
structure GF where
 aP:ByteArray→ByteArray
 bP:ByteArray→ByteArray
 aS:ByteArray→ByteArray→ByteArray
 bS:ByteArray→ByteArray→ByteArray
 bX:ByteArray→ByteArray→Int
def Wi (g:GF) (vs:List V1):Option (List Prop×AV):=match vs with|[.one (.v (.string s))]=>some ([s.size=32],.val (sS (g.aP s)))|_=>none
def ajV (g:GF) (vs:List V1):Option (List Prop×AV):=match vs with|[.one (.v (.string s))]=>some ([s.size=32],.val (sS (g.bP s)))|_=>none
def Vc (g:GF) (vs:List V1):Option (List Prop×AV):=match vs with|[.one (.v (.string s)),.one (.v (.string m))]=>some ([s.size=32,m.size≤4096],.val (sS (g.aS s m)))|_=>none
def VX (g:GF) (vs:List V1):Option (List Prop×AV):=match vs with|[.one (.v (.string s)),.one (.v (.string m))]=>some ([s.size=32,gd (gT s)=true,m.size≤4096],.tup [sS (g.bS s m),.one (.i (g.bX s m))])|_=>none
structure GFok (g:GF):Prop where
 c56:aU ⟨56,Wi g⟩
 c13:aU ⟨13,ajV g⟩
 c57:aU ⟨57,Vc g⟩
 c14:aU ⟨14,VX g⟩
def LGf (g:GF):List CT:=⟨56,Wi g⟩::⟨13,ajV g⟩::⟨57,Vc g⟩::⟨14,VX g⟩::[]
theorem Od {g:GF} (hg:GFok g):bw (LGf g):=⟨hg.c56,hg.c13,hg.c57,hg.c14,trivial⟩
def SGf:FuncId→Nat→Bool:=fun f t=>match f with|21=>bf t [6]|22=>bf t [9]|_=>false
noncomputable def EGf (g:GF):Env:=cd (LGf g) SGf
theorem alq (g:GF) (z:Int) (k c:ByteArray):al (EGf g) 1000 21 [.one (.i z),Mf k c] [true]=some ([decide (z=1)=true,k.size=32],.val (sS (g.aP k))):=by kernel_rfl
theorem apo (g:GF) (z:Int) (k c:ByteArray):al (EGf g) 1000 21 [.one (.i z),Mf k c] [false]=some ([decide (z=1)=false,k.size=32],.val (sS (g.bP k))):=by kernel_rfl
theorem anz (g:GF) (z:Int) (k c m:ByteArray):al (EGf g) 1000 22 [.one (.i z),Mf k c,sS m] [true]=some ([decide (z=1)=true,k.size=32,m.size≤4096],.tup [sS (g.aS k m),.one (.i 0)]):=by kernel_rfl
theorem al_ (g:GF) (z:Int) (k c m:ByteArray):al (EGf g) 1000 22 [.one (.i z),Mf k c,sS m] [false]=some ([decide (z=1)=false,k.size=32,gd (gT k)=true,m.size≤4096],.tup [sS (g.bS k m),.one (.i (g.bX k m))]):=by kernel_rfl
def guP (g:GF) (z:Int) (k:ByteArray):ByteArray:=bif decide (z=1) then g.aP k else g.bP k
def guS (g:GF) (z:Int) (k m:ByteArray):ByteArray:=bif decide (z=1) then g.aS k m else g.bS k m
def guX (g:GF) (z:Int) (k m:ByteArray):Int:=bif decide (z=1) then 0 else g.bX k m
theorem wi {g:GF} (hg:GFok g) (z:Int) (k c:ByteArray) (hk:k.size=32):Spec 21 [.one (.i z),Mf k c] (.val (sS (guP g z k))):=by
 have hV:EnvOK (EGf g):=aF (Od hg) _
 unfold guP
 by_cases h1:z=1
 ·rw[decide_eq_true h1];exact af hV rfl (alq g z k c) ⟨decide_eq_true h1,hk,trivial⟩ rfl rfl
 ·rw[decide_eq_false h1];exact af hV rfl (apo g z k c) ⟨decide_eq_false h1,hk,trivial⟩ rfl rfl
theorem ZT {g:GF} (hg:GFok g) (z:Int) (k c m:ByteArray) (hk:k.size=32) (hz:kH z k=true) (hm:m.size≤4096):Spec 22 [.one (.i z),Mf k c,sS m] (.tup [sS (guS g z k m),.one (.i (guX g z k m))]):=by
 have hV:EnvOK (EGf g):=aF (Od hg) _
 unfold guS guX
 by_cases h1:z=1
 ·rw[decide_eq_true h1];exact af hV rfl (anz g z k c m) ⟨decide_eq_true h1,hk,hm,trivial⟩ rfl rfl
 ·rw[decide_eq_false h1]
  have hgd:gd (gT k)=true:=by
   unfold kH at hz
   rw[decide_eq_false h1,Bool.false_or,Bool.and_eq_true] at hz
   exact hz.2
  exact af hV rfl (al_ g z k c m) ⟨decide_eq_false h1,hk,hgd,hm,trivial⟩ rfl rfl
noncomputable def gfi (f:NF):GF:=⟨fun s=>Ed.pubB (Ed.exK s),abW,Ed.signB,tgZ f,tgE f⟩
theorem ao7 (f:NF):aU ⟨56,Wi (gfi f)⟩:=by
 intro vs ob r h ho
 simp only[Wi] at h
 split at h
 ·obtain ⟨rfl,rfl⟩:=sI h
  have h1:=ho.1
  exact Ed.spec13 _ (by omega)
 ·simp at h
theorem amS (f:NF):aU ⟨57,Vc (gfi f)⟩:=by
 intro vs ob r h ho
 simp only[Vc] at h
 split at h
 ·obtain ⟨rfl,rfl⟩:=sI h
  have h1:=ho.1
  have h2:=ho.2.1
  exact Ed.spec14 _ _ (by omega) (by omega)
 ·simp at h
theorem aoc {f:NF} (hf:NFok f) (hY:f.Y=Pi):aU ⟨14,VX (gfi f)⟩:=by
 intro vs ob r h ho
 simp only[VX] at h
 split at h
 ·obtain ⟨rfl,rfl⟩:=sI h
  obtain ⟨h1,h2,h3,_⟩:=ho
  exact spec14 hf _ _ (by omega) (by rw[hY];unfold Pi;rw[decide_eq_true h1,h2];rfl) h3
 ·simp at h
theorem ah5 {f:NF} (hf:NFok f) (hY:f.Y=Pi):GFok (gfi f):=⟨ao7 f,anx,amS f,aoc hf hY⟩
noncomputable def hfi (f:VF):HF:=⟨Ed.verB,Ed.verE,veB f,veE f⟩
theorem anu (f:VF):aU ⟨59,CG (hfi f)⟩:=by
 intro vs ob r h ho
 simp only[CG] at h
 split at h
 ·obtain ⟨rfl,rfl⟩:=sI h
  exact Ed.spec23g _ _ _
 ·simp at h
theorem ai2 (f:VF):aU ⟨123,CG (hfi f)⟩:=by
 intro vs ob r h ho
 simp only[CG] at h
 split at h
 ·obtain ⟨rfl,rfl⟩:=sI h
  exact Ed.spec24g _ _ _
 ·simp at h
theorem apv {f:VF} (hf:VFok f):aU ⟨60,Dw (hfi f)⟩:=by
 intro vs ob r h ho
 simp only[Dw] at h
 split at h
 ·obtain ⟨rfl,rfl⟩:=sI h
  exact z0 hf _ _ _
 ·simp at h
theorem ag_ {f:VF} (hf:VFok f):aU ⟨124,Dw (hfi f)⟩:=by
 intro vs ob r h ho
 simp only[Dw] at h
 split at h
 ·obtain ⟨rfl,rfl⟩:=sI h
  exact AB hf _ _ _
 ·simp at h
theorem ajj {f:VF} (hf:VFok f):HFok (hfi f):=⟨anu f,ai2 f,apv hf,ag_ hf⟩
structure QF where
 K:Int→ByteArray→ByteArray
 C:Int→ByteArray→ByteArray
 E:Int→ByteArray→Int
 P:Int→ByteArray→ByteArray
 S:Int→ByteArray→ByteArray→ByteArray
 X:Int→ByteArray→ByteArray→Int
 b:Int→ByteArray→ByteArray→Nat→ByteArray→ByteArray→Bool
 e:Int→ByteArray→ByteArray→Nat→ByteArray→ByteArray→Int
 F:ByteArray→ByteArray
 T:ByteArray→ByteArray
 M:Int→ByteArray→Bool
def UD (q:QF) (vs:List V1):Option (List Prop×AV):=match vs with|[.one (.i z),.one (.v (.string s))]=>some ([s.size≤1000000],CE (q.K z s) (q.C z s) (q.E z s))|_=>none
def Rf (q:QF) (vs:List V1):Option (List Prop×AV):=match vs with|[.one (.i z),.agg [.a (.v (.string k)),.a (.v (.string _))]]=>some ([k.size=32],.val (sS (q.P z k)))|_=>none
def RP (q:QF) (vs:List V1):Option (List Prop×AV):=match vs with|[.one (.i z),.agg [.a (.v (.string k)),.a (.v (.string _))],.one (.v (.string m))]=>some ([k.size=32,q.M z k=true,m.size≤4096],.tup [sS (q.S z k m),.one (.i (q.X z k m))])|_=>none
def Ce (q:QF) (vs:List V1):Option (List Prop×AV):=match vs with|[.one (.i z),.one (.v (.string u)),.agg [.a (.v (.string p)),.a (.u .u64 n),.a (.v (.string m)),.a (.v (.string s))]]=>some ([m.size≤KD],q0 (q.b z u p n m s) (q.e z u p n m s))|_=>none
def ajR (q:QF) (vs:List V1):Option (List Prop×AV):=
 match vs with
 |[.agg [.a (.v (.string k)),.a (.v (.string t)),.a (.v (.string x)),.a (.v (.string s)),.a (.u .u32 n),.a (.u .u32 a),.a (.u .u32 b),.a (.u .u32 c),.a (.u .u32 d)]]=>some ([k.size≤1000000,t.size≤1000000],.val (Va (q.F k) (q.T t) x s n a b c d))
 |_=>none
structure QFok (q:QF):Prop where
 c19:aU ⟨19,UD q⟩
 c21:aU ⟨21,Rf q⟩
 c22:aU ⟨22,RP q⟩
 c24:aU ⟨24,Ce q⟩
 c25:aU ⟨25,Ce q⟩
 c20:aU ⟨20,ajR q⟩
 good:∀z s,q.E z s=0→(q.K z s).size=32∧q.M z (q.K z s)=true
 fS:∀k,(q.F k).size=32
noncomputable def qfi (g:GF) (h:HF):QF:=⟨m9K,m9C,m9E,guP g,guS g,guX g,fun z u _ n m s=>hoB h z u n m s,fun z u _ n m s=>hoE h z u n m s,KZ,adv,kH⟩
theorem ane (g:GF) (h:HF):aU ⟨19,UD (qfi g h)⟩:=by
 intro vs ob r hr ho
 simp only[UD] at hr
 split at hr
 ·obtain ⟨rfl,rfl⟩:=sI hr
  exact Ha _ _ ho.1
 ·simp at hr
theorem aqt {g:GF} (hg:GFok g) (h:HF):aU ⟨21,Rf (qfi g h)⟩:=by
 intro vs ob r hr ho
 simp only[Rf] at hr
 split at hr
 ·obtain ⟨rfl,rfl⟩:=sI hr
  exact wi hg _ _ _ ho.1
 ·simp at hr
theorem amR {g:GF} (hg:GFok g) (h:HF):aU ⟨22,RP (qfi g h)⟩:=by
 intro vs ob r hr ho
 simp only[RP] at hr
 split at hr
 ·obtain ⟨rfl,rfl⟩:=sI hr
  exact ZT hg _ _ _ _ ho.1 ho.2.1 ho.2.2.1
 ·simp at hr
theorem aoX (g:GF) {h:HF} (hh:HFok h):aU ⟨24,Ce (qfi g h)⟩:=by
 intro vs ob r hr ho
 simp only[Ce] at hr
 split at hr
 ·obtain ⟨rfl,rfl⟩:=sI hr
  exact RB hh _ _ _ _ _ _ ho.1
 ·simp at hr
theorem apQ (g:GF) {h:HF} (hh:HFok h):aU ⟨25,Ce (qfi g h)⟩:=by
 intro vs ob r hr ho
 simp only[Ce] at hr
 split at hr
 ·obtain ⟨rfl,rfl⟩:=sI hr
  exact V9 hh _ _ _ _ _ _ ho.1
 ·simp at hr
theorem agY {g:GF} (hg:GFok g) {h:HF} (hh:HFok h):QFok (qfi g h):=by
 refine ⟨ane g h,aqt hg h,amR hg h,aoX g hh,apQ g hh,ct8,?_,JN⟩
 intro z s h0
 obtain ⟨h1,h2,_⟩:=QG (z:=z) (s:=s) h0
 exact ⟨h2,h1⟩
end Go.Ev.H5
namespace Go.Ev
open Go Go.Proofs Go.RowKit Go.NT
section
variable (p q:J3)
end
end Go.Ev
namespace Go.Ev.H5
open Go Go.Proofs Go.RowKit
set_option maxRecDepth 100000
end Go.Ev.H5
