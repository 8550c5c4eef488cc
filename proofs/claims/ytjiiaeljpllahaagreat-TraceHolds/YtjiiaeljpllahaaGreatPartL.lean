/- Ed25519: what the program and the page come to, and the law -/
import Derived.Test.YtjiiaeljpllahaaGreatPartK
import Derived.Test.YtjiiaeljpllahaaGreatPartI
namespace Go.Ev.H5.Ed
open Go Go.Proofs Go.RowKit
def xq (vs:List V1):Option (List Prop×AV):=
 match vs with
 |[x,y]=>match el 16 x,el 8 y with
  |some (o,a),some (o',b)=>some ((0<b)::(o++o'),.tup [N8 (dY a b),.one (.i 0)])
  |_,_=>none
 |_=>none
theorem N6:aU ⟨136,xq⟩:=by
 intro vs ob r h ho
 simp only[xq] at h
 split at h
 ·split at h
  ·rename_i o a o' b hx hy
   obtain ⟨rfl,rfl⟩:=sI h
   obtain ⟨h0,ho⟩:=ho
   rw[aY] at ho
   obtain ⟨h1,h2⟩:=aX hx ho.1
   obtain ⟨h3,h4⟩:=aX hy ho.2
   exact (v0 a b h1 h3 h0).congr (fun φ=>by simp only[List.map_cons,List.map_nil];rw[←h2 φ,←h4 φ];rfl) (fun _=>rfl)
  ·simp at h
 ·simp at h
noncomputable def LN:List CT:=⟨136,xq⟩::⟨184,mT fun a b=> .val (mO (a*b))⟩::⟨137,mT fun a b=> .val (mO (co a b))⟩::⟨76,xA fun a=> .val (mO (co a 0))⟩::LPk
theorem NA:bw LN:=⟨N6,fun _ _ _ h ho=>de uS h ho,fun _ _ _ h ho=>de Hj h ho,fun _ _ _ h ho=>ej spec73 h ho,Yx⟩
theorem r29 (a:Nat):al (cd LN iA) 1000 75 [zV 2,mO a] []=
  some ([0<ab 2,a<4294967296^16,ab 2<4294967296^8],.tup [N8 (dY a (ab 2)),.one (.i 0)]):=by kernel_rfl
theorem r60 (m q a b:Nat):al (cd LN iA) 1000 83 [xx m q,N8 a,N8 b] []=
  some ([a<4294967296^8,b<4294967296^8,0<m,a*b<4294967296^16,m<4294967296^8],.val (N8 (dY (a*b) m))):=by kernel_rfl
def abg (vs:List V1):Option (List Prop×AV):=
 match vs with
 |[.one (.i z),x]=>match el 16 x with
  |some (o,a)=>some ((z=2)::o,.tup [N8 (dY a (ab 2)),.one (.i 0)])
  |none=>none
 |_=>none
theorem aoC:aU ⟨75,abg⟩:=by
 intro vs ob r h ho
 simp only[abg] at h
 split at h
 ·split at h
  ·rename_i o a hx
   obtain ⟨rfl,rfl⟩:=sI h
   obtain ⟨rfl,ho⟩:=ho
   obtain ⟨h1,h2⟩:=aX hx ho
   exact (af (aF NA iA) rfl (r29 a) ⟨ae 2,h1,aj 2,trivial⟩ rfl rfl).congr (fun φ=>by simp only[List.map_cons,List.map_nil];rw[←h2 φ];rfl) (fun _=>rfl)
  ·simp at h
 ·simp at h
theorem CR {a b:Nat} (ha:a<4294967296^8) (hb:b<4294967296^8):a*b<4294967296^16:=by
 have:=Nat.mul_lt_mul'' ha hb
 rwa[←Nat.pow_add] at this
def aaG (vs:List V1):Option (List Prop×AV):=
 match vs with
 |[.agg [.num 8 m,.a (.u .u32 _)],x,y]=>match el 8 x,el 8 y with
  |some (o,a),some (o',b)=>some ((0<m)::(m<4294967296^8)::(o++o'),.val (N8 (dY (a*b) m)))
  |_,_=>none
 |_=>none
theorem alJ:aU ⟨83,aaG⟩:=by
 intro vs ob r h ho
 simp only[aaG] at h
 split at h
 ·rename_i m q x y
  split at h
  ·rename_i o a o' b hx hy
   obtain ⟨rfl,rfl⟩:=sI h
   obtain ⟨h0,hm,ho⟩:=ho
   rw[aY] at ho
   obtain ⟨h1,h2⟩:=aX hx ho.1
   obtain ⟨h3,h4⟩:=aX hy ho.2
   exact (af (aF NA iA) rfl (r60 m q a b) ⟨h1,h3,h0,CR h1 h3,hm,trivial⟩ rfl rfl).congr (fun φ=>by simp only[List.map_cons,List.map_nil];rw[←h2 φ,←h4 φ];rfl) (fun _=>rfl)
  ·simp at h
 ·simp at h
noncomputable def LF:List CT:=⟨75,abg⟩::⟨83,aaG⟩::LN
theorem Pf:bw LF:=⟨aoC,alJ,NA⟩
noncomputable def S31:FuncId→Nat→Bool:=fun f t=>match f with|82=>bf t [13,18]|_=>false
theorem r31 (a b:Nat):al (cd LF S31) 1000 36 [zV 2,N8 a,N8 b] [false,false]=
  some ([a<4294967296^8,(!fT 2 a)=false,b<4294967296^8,(!fT 2 b)=false,(0:Int)≤2∧(2:Int)<4,0<ab 2,ab 2<4294967296^8,a<4294967296^8,b<4294967296^8],.tup [N8 (bK (ab 2) a b),.one (.i 0)]):=by kernel_rfl
theorem r32 (a b:Nat):al (cd LF S31) 1000 37 [zV 2,N8 a,N8 b] [false,false]=
  some ([a<4294967296^8,(!fT 2 a)=false,b<4294967296^8,(!fT 2 b)=false,(0:Int)≤2∧(2:Int)<4,ab 2<4294967296^8,a<ab 2,b<ab 2,a<4294967296^8,b<4294967296^8],.tup [N8 (addM (ab 2) a b),.one (.i 0)]):=by kernel_rfl
theorem Oj {a:Nat} (h:a<ab 2):(!fT 2 a)=false:=by
 have e:fT 2 a=decide (a<ab 2):=by unfold fT mX;rfl
 rw[e,decide_eq_true h];rfl
def Kp (g:Nat→Nat→Nat) (vs:List V1):Option (List Prop×AV):=
 match vs with
 |[.one (.i z),x,y]=>match el 8 x,el 8 y with
  |some (o,a),some (o',b)=>some ((z=2)::(a<ab 2)::(b<ab 2)::(o++o'),.tup [N8 (g a b),.one (.i 0)])
  |_,_=>none
 |_=>none
theorem Iv {f:FuncId} {g:Nat→Nat→Nat} (hg:∀a b,a<ab 2→b<ab 2→Spec f [zV 2,N8 a,N8 b] (.tup [N8 (g a b),.one (.i 0)])):aU ⟨f,Kp g⟩:=by
 intro vs ob r h ho
 simp only[Kp] at h
 split at h
 ·split at h
  ·rename_i o a o' b hx hy
   obtain ⟨rfl,rfl⟩:=sI h
   obtain ⟨rfl,ha,hb,ho⟩:=ho
   rw[aY] at ho
   obtain ⟨h1,h2⟩:=aX hx ho.1
   obtain ⟨h3,h4⟩:=aX hy ho.2
   exact (hg a b ha hb).congr (fun φ=>by simp only[List.map_cons,List.map_nil];rw[←h2 φ,←h4 φ];rfl) (fun _=>rfl)
  ·simp at h
 ·simp at h
theorem ct31:aU ⟨36,Kp (bK (ab 2))⟩:=Iv fun a b ha hb=>af (aF Pf S31) rfl (r31 a b) ⟨L8 ha,Oj ha,L8 hb,Oj hb,by decide,ae 2,aj 2,L8 ha,L8 hb,trivial⟩ rfl rfl
theorem amb:aU ⟨37,Kp (addM (ab 2))⟩:=Iv fun a b ha hb=>af (aF Pf S31) rfl (r32 a b) ⟨L8 ha,Oj ha,L8 hb,Oj hb,by decide,aj 2,ha,hb,L8 ha,L8 hb,trivial⟩ rfl rfl
noncomputable def Hu:List Val→Option (List Prop×AV)
 |[.n k,.n px,.n py]=>some ([gt px py=true],.val (P2 (pM k px py) (pI k px py)))
 |_=>none
theorem ak':aU ⟨110,dU [aN,BN] Hu⟩:=jE (by
 intro xs ob r hb h ho
 unfold Hu at h
 split at h
 ·rename_i k px py
  obtain ⟨rfl,rfl⟩:=sI h
  obtain ⟨⟨b0,_⟩,⟨b1,b2,_⟩,_⟩:=hb
  obtain ⟨hu,_⟩:=ho
  have hS:=S' b0 hu
  unfold XF at hS
  rw[(EQ b0 hu).1,(EQ b0 hu).2] at hS
  exact hS
 ·simp at h)
noncomputable def acV:List Val→Option (List Prop×AV)
 |[.n k,.n px,.n py,.n m,.n qx,.n qy]=>some ([gt px py=true,gt qx qy=true],.val (P2 (CU k px py m qx qy) (CH k px py m qx qy)))
 |_=>none
theorem Z4:aU ⟨180,dU [aN,BN,aN,BN] acV⟩:=jE (by
 intro xs ob r hb h ho
 unfold acV at h
 split at h
 ·rename_i k px py m qx qy
  obtain ⟨rfl,rfl⟩:=sI h
  obtain ⟨⟨b0,_⟩,⟨b1,b2,_⟩,⟨b5,_⟩,⟨b3,b4,_⟩,_⟩:=hb
  obtain ⟨hu,hv,_⟩:=ho
  have hS:=QD b0 b5 hu hv
  unfold XF at hS
  rw[(uq b0 b5 hu hv).1,(uq b0 b5 hu hv).2] at hS
  exact hS
 ·simp at h)
noncomputable def LM:List CT:=⟨110,dU [aN,BN] Hu⟩::⟨180,dU [aN,BN,aN,BN] acV⟩::⟨118,dU [aN,BN,aN,BN] Na⟩::⟨117,dU [BN] (Yi true)⟩::⟨181,dU [BN] ZN⟩::⟨36,Kp (bK (ab 2))⟩::⟨37,Kp (addM (ab 2))⟩::LF
theorem aeD:bw LM:=⟨ak',Z4,ajm,aiQ true,ail,ct31,amb,Pf⟩
def lo3 (x:Nat):Nat:=x%4294967296&&&(4294967296-1-7%4294967296)
def hi2 (x:Nat):Nat:=(x%4294967296&&&2147483647%4294967296)%4294967296|||1073741824%4294967296
noncomputable def LX:List CT:=⟨170,FA⟩::⟨106,FA⟩::⟨114,HJ⟩::⟨87,Im⟩::⟨7,DO⟩::⟨120,dU [.s [.n8,.n8]] JQ⟩::LM
theorem WV:bw LX:=⟨amd,aiP,XB,WT,B3,ag6,aeD⟩
noncomputable def S26:FuncId→Nat→Bool:=fun f t=>match f with|108=>bf t [9,22]|116=>bf t [14,20]|112=>bf t [4,7]|_=>false
noncomputable def E26:Env:=cd LX S26
theorem Fy:EnvOK E26:=aF WV S26
def x26 (a:Nat):List Piece:=[.a (.u .u32 (lo3 (a%4294967296))),.a (.u .u32 (a/4294967296%4294967296)),.a (.u .u32 (a/4294967296/4294967296%4294967296)),.a (.u .u32 (a/4294967296/4294967296/4294967296%4294967296)),
 .a (.u .u32 (a/4294967296/4294967296/4294967296/4294967296%4294967296)),.a (.u .u32 (a/4294967296/4294967296/4294967296/4294967296/4294967296%4294967296)),.a (.u .u32 (a/4294967296/4294967296/4294967296/4294967296/4294967296/4294967296%4294967296)),
 .a (.u .u32 (hi2 (a/4294967296/4294967296/4294967296/4294967296/4294967296/4294967296/4294967296%4294967296)))]
def clL (a:Nat):Nat→Nat
 |0=>lo3 (ak a 0)
 |7=>hi2 (ak a 7)
 |i=>ak a i
theorem abl (x:Nat):lo3 x<4294967296:=Nat.lt_of_le_of_lt Nat.and_le_left (Nat.mod_lt _ (by decide))
theorem abN (x:Nat):hi2 x<4294967296:=ud (Nat.mod_lt _ (by decide)) (by decide)
theorem OJ (a i:Nat):clL a i<4294967296:=by
 unfold clL
 split
 ·exact abl _
 ·exact abN _
 ·exact ba a _
def Rd (a:Nat):Nat:=aW 8 0 (clL a)
theorem RE (a:Nat):Rd a<4294967296^8:=ip _ 8 0 fun i _ _=>OJ a i
theorem N9 (φ:c7) (a:Nat):an φ (x26 a)=an φ [.num 8 (Rd a)]:=by
 unfold Rd
 rw[mv φ (clL a) 8 fun i _=>OJ a i]
 unfold x26
 simp only[Nat.div_div_eq_div_mul,bp,clL,ak,Nat.reduceAdd,Nat.pow_zero,Nat.div_one,Nat.pow_one,Nat.reduceMul,Nat.reducePow]
noncomputable def xv (s:ByteArray):ByteArray:=s.extract 0 32
noncomputable def Pu (s:ByteArray):ByteArray:=s.extract 32 s.size
theorem kn {s:ByteArray} (h:s.size=64):(xv s).size=32:=by unfold xv;rw[fM _ _ _ (by omega)]
theorem ki {s:ByteArray} (h:s.size=64):(Pu s).size=32:=by unfold Pu;rw[fM _ _ _ (by omega)];omega
noncomputable def exK (s:ByteArray):Nat:=Rd (aQ (xv (cK s)))
noncomputable def mq (s:ByteArray):ByteArray:=Pu (cK s)
noncomputable def iS (s:ByteArray):Nat:=dY (co (aQ (xv s)) (aQ (Pu s))) (ab 2)
noncomputable def yc (s:ByteArray):Nat:=iS (cK s)
theorem r12 (s:ByteArray):al E26 1000 108 [sS s] []=
  some ([s.size≤100000000000000,(0:Int)≤32∧(32:Int)≤((cK s).size:Int),(xv (cK s)).size=32,(0:Int)≤32∧(32:Int)≤((cK s).size:Int)],.tup [.agg (x26 (aQ (xv (cK s)))),sS (mq s)]):=by kernel_rfl
theorem r28 (s:ByteArray):al E26 1000 116 [sS s] []=
  some ([s.size≤100000000000000,(0:Int)≤32∧(32:Int)≤((cK s).size:Int),(xv (cK s)).size=32,(0:Int)≤32∧(32:Int)≤((cK s).size:Int),(Pu (cK s)).size=32,aQ (xv (cK s))<4294967296^8,aQ (Pu (cK s))<4294967296^8,(2:Int)=2,co (aQ (xv (cK s))) (aQ (Pu (cK s)))<4294967296^16],.val (N8 (yc s))):=by kernel_rfl
theorem r37 (s:ByteArray):al E26 1000 112 [sS s] []=
  some ([(0:Int)≤32∧(32:Int)≤(s.size:Int),(xv s).size=32,(0:Int)≤32∧(32:Int)≤(s.size:Int),(Pu s).size=32,aQ (xv s)<4294967296^8,aQ (Pu s)<4294967296^8,(0:Int)≤2∧(2:Int)<4,co (aQ (xv s)) (aQ (Pu s))<4294967296^16],.val (N8 (iS s))):=by kernel_rfl
noncomputable def pubB (k:Nat):ByteArray:=dZ (pM k ea d9) (pI k ea d9)
theorem n9 {s:ByteArray} (h:s.size=32):aQ s<4294967296^8:=by
 have:=qc s
 rw[h] at this
 exact this
theorem vL {a b:Nat} (ha:a<4294967296^8) (hb:b<4294967296^8):co a b<4294967296^16:=by unfold co;omega
theorem abp (s:ByteArray) (h:s.size≤100000000000000):Spec 108 [sS s] (.tup [N8 (exK s),sS (mq s)]):=by
 have hz:=eu s
 refine (af Fy rfl (r12 s) ⟨h,by omega,kn hz,by omega,trivial⟩ rfl rfl).congr (fun _=>rfl) (fun φ=> ?_)
 simp only[AV.conc,List.map_cons,List.map_nil,V1.conc,N8,N9 φ,exK]
noncomputable def Zn (vs:List V1):Option (List Prop×AV):=
 match vs with
 |[.one (.v (.string s))]=>some ([s.size≤100000000000000],.tup [N8 (exK s),sS (mq s)])
 |_=>none
noncomputable def Gw (vs:List V1):Option (List Prop×AV):=
 match vs with
 |[.one (.v (.string s))]=>some ([s.size≤100000000000000],.val (N8 (yc s)))
 |_=>none
noncomputable def ZF (vs:List V1):Option (List Prop×AV):=
 match vs with
 |[.one (.v (.string s))]=>some ([s.size=64],.val (N8 (iS s)))
 |_=>none
theorem anr:aU ⟨108,Zn⟩:=by
 intro vs ob r h ho
 simp only[Zn] at h
 split at h
 ·obtain ⟨rfl,rfl⟩:=sI h
  exact abp _ ho.1
 ·simp at h
theorem TX:aU ⟨116,Gw⟩:=by
 intro vs ob r h ho
 simp only[Gw] at h
 split at h
 ·rename_i s
  obtain ⟨rfl,rfl⟩:=sI h
  have hz:=eu s
  have h1:=n9 (kn hz)
  have h2:=n9 (ki hz)
  exact af Fy rfl (r28 s) ⟨ho.1,by omega,kn hz,by omega,ki hz,h1,h2,rfl,vL h1 h2,trivial⟩ rfl rfl
 ·simp at h
theorem ao':aU ⟨112,ZF⟩:=by
 intro vs ob r h ho
 simp only[ZF] at h
 split at h
 ·rename_i s
  obtain ⟨rfl,rfl⟩:=sI h
  have hz:=ho.1
  have h1:=n9 (kn hz)
  have h2:=n9 (ki hz)
  exact af Fy rfl (r37 s) ⟨by omega,kn hz,by omega,ki hz,h1,h2,by decide,vL h1 h2,trivial⟩ rfl rfl
 ·simp at h
theorem mS (k:Nat):pM k ea d9<4294967296^8∧pI k ea d9<4294967296^8:=dN0 (vM cR)
theorem jO (k:Nat):(pubB k).size=32:=by unfold pubB dZ;rw[dh,fF]
noncomputable def LY:List CT:=⟨108,Zn⟩::⟨116,Gw⟩::⟨112,ZF⟩::LX
theorem aeS:bw LY:=⟨anr,TX,ao',WV⟩
noncomputable def yG (s m:ByteArray):Nat:=yc (mq s++m)
noncomputable def KR (s m:ByteArray):Nat:=yc ((pubB (yG s m)++pubB (exK s))++m)
noncomputable def sgA (s:ByteArray):Nat:=dY (co (exK s) 0) (ab 2)
noncomputable def Lh (s m:ByteArray):Nat:=addM (ab 2) (yG s m) (bK (ab 2) (KR s m) (sgA s))
noncomputable def signB (s m:ByteArray):ByteArray:=pubB (yG s m)++bQ (rv 32 (Lh s m))
noncomputable def S11:FuncId→Nat→Bool:=fun f t=>match f with|57=>bf t [24,33,35,52]|_=>false
noncomputable def LS:List CT:=⟨86,xg⟩::⟨113,xg⟩::LY
theorem Wr:bw LS:=⟨Cw,I5,aeS⟩
noncomputable def E11:Env:=cd LS S11
theorem OO:EnvOK E11:=aF Wr S11
theorem r13 (s:ByteArray):al E11 1000 56 [sS s] []=
  some ([ByteArray.size s≤100000000000000,exK s<4294967296^8,ea<4294967296^8,d9<4294967296^8,gt ea d9=true,pM (exK s) ea d9<4294967296^8,pI (exK s) ea d9<4294967296^8,gt (pM (exK s) ea d9) (pI (exK s) ea d9)=true],.val (sS (pubB (exK s)))):=by kernel_rfl
theorem r14 (s:ByteArray) (m:ByteArray):al E11 1000 57 [sS s,sS m] []=
  some ([ByteArray.size s≤100000000000000,exK s<4294967296^8,ea<4294967296^8,d9<4294967296^8,gt ea d9=true,pM (exK s) ea d9<4294967296^8,pI (exK s) ea d9<4294967296^8,gt (pM (exK s) ea d9) (pI (exK s) ea d9)=true,ByteArray.size (mq s)+ByteArray.size m≤9223372036854775807,ByteArray.size (mq s++m)≤100000000000000,ByteArray.size (cK (mq s++m))=64,iS (cK (mq s++m))<4294967296^8,ea<4294967296^8,d9<4294967296^8,gt ea d9=true,pM (iS (cK (mq s++m))) ea d9<4294967296^8,pI (iS (cK (mq s++m))) ea d9<4294967296^8,gt (pM (iS (cK (mq s++m))) ea d9) (pI (iS (cK (mq s++m))) ea d9)=true,ByteArray.size (dZ (pM (iS (cK (mq s++m))) ea d9) (pI (iS (cK (mq s++m))) ea d9))+ByteArray.size (dZ (pM (exK s) ea d9) (pI (exK s) ea d9))≤9223372036854775807,ByteArray.size (dZ (pM (iS (cK (mq s++m))) ea d9) (pI (iS (cK (mq s++m))) ea d9)++dZ (pM (exK s) ea d9) (pI (exK s) ea d9))+ByteArray.size m≤9223372036854775807,ByteArray.size (dZ (pM (iS (cK (mq s++m))) ea d9) (pI (iS (cK (mq s++m))) ea d9)++dZ (pM (exK s) ea d9) (pI (exK s) ea d9)++m)≤100000000000000,ByteArray.size (cK (dZ (pM (iS (cK (mq s++m))) ea d9) (pI (iS (cK (mq s++m))) ea d9)++dZ (pM (exK s) ea d9) (pI (exK s) ea d9)++m))=64,(0:Int)≤(2:Int)∧(2:Int)<(4:Int),exK s<4294967296^8,0<4294967296,0<4294967296,0<4294967296,0<4294967296,0<4294967296,0<4294967296,0<4294967296,0<4294967296,(0:Int)≤(2:Int)∧(2:Int)<(4:Int),co (exK s) 0<4294967296^16,bg (ab 2) (aA (ak (ab 2) 0)) (aO (ab 2)),iS (cK (dZ (pM (iS (cK (mq s++m))) ea d9) (pI (iS (cK (mq s++m))) ea d9)++dZ (pM (exK s) ea d9) (pI (exK s) ea d9)++m))<ab 2,dY (co (exK s) 0) (ab 2)<ab 2,iS (cK (dZ (pM (iS (cK (mq s++m))) ea d9) (pI (iS (cK (mq s++m))) ea d9)++dZ (pM (exK s) ea d9) (pI (exK s) ea d9)++m))<4294967296^8,dY (co (exK s) 0) (ab 2)<4294967296^8,bg (ab 2) (aA (ak (ab 2) 0)) (aO (ab 2)),iS (cK (mq s++m))<ab 2,bK (ab 2) (iS (cK (dZ (pM (iS (cK (mq s++m))) ea d9) (pI (iS (cK (mq s++m))) ea d9)++dZ (pM (exK s) ea d9) (pI (exK s) ea d9)++m))) (dY (co (exK s) 0) (ab 2))<ab 2,iS (cK (mq s++m))<4294967296^8,bK (ab 2) (iS (cK (dZ (pM (iS (cK (mq s++m))) ea d9) (pI (iS (cK (mq s++m))) ea d9)++dZ (pM (exK s) ea d9) (pI (exK s) ea d9)++m))) (dY (co (exK s) 0) (ab 2))<4294967296^8,addM (ab 2) (iS (cK (mq s++m))) (bK (ab 2) (iS (cK (dZ (pM (iS (cK (mq s++m))) ea d9) (pI (iS (cK (mq s++m))) ea d9)++dZ (pM (exK s) ea d9) (pI (exK s) ea d9)++m))) (dY (co (exK s) 0) (ab 2)))<4294967296^8,ByteArray.size (dZ (pM (iS (cK (mq s++m))) ea d9) (pI (iS (cK (mq s++m))) ea d9))+ByteArray.size (bQ (rv 32 (addM (ab 2) (iS (cK (mq s++m))) (bK (ab 2) (iS (cK (dZ (pM (iS (cK (mq s++m))) ea d9) (pI (iS (cK (mq s++m))) ea d9)++dZ (pM (exK s) ea d9) (pI (exK s) ea d9)++m))) (dY (co (exK s) 0) (ab 2))))))≤9223372036854775807],.val (sS (signB s m))):=by kernel_rfl
theorem jt (s:ByteArray):yc s<ab 2:=dJ (ae 2)
theorem jv (s:ByteArray):iS s<ab 2:=dJ (ae 2)
theorem gL (x:Nat):dY x (ab 2)<ab 2:=dJ (ae 2)
theorem i3 (s:ByteArray):exK s<4294967296^8:=RE _
theorem iR (x y:Nat):(dZ x y).size=32:=by unfold dZ;rw[dh,fF]
theorem lF (s:ByteArray):(mq s).size=32:=ki (eu s)
theorem ahV {s:ByteArray} (h:s.size=32):(!decide ((s.size:Int)=32))=false:=by rw[decide_eq_true (by omega)];rfl
theorem adR {s:ByteArray} (h:s.size≠32):(!decide ((s.size:Int)=32))=true:=by rw[decide_eq_false (by omega)];rfl
theorem spec13 (s:ByteArray) (hs:s.size≤100000000000000):Spec 56 [sS s] (.val (sS (pubB (exK s)))):=
 af OO rfl (r13 s) (by refine ⟨?_,?_,(L8 pw),(L8 pX),cR,?_,?_,?_,trivial⟩<;>first|with_reducible assumption|with_reducible exact jt _|with_reducible exact L8 (jt _)|with_reducible exact jv _|with_reducible exact L8 (jv _)|with_reducible exact bi (ae 2)|with_reducible exact L8 (bi (ae 2))|with_reducible exact L8 (ao (ae 2))|with_reducible exact gL _|with_reducible exact L8 (gL _)|with_reducible exact i3 _|with_reducible exact gV (i3 _)|with_reducible exact cR|with_reducible exact vM cR|with_reducible exact (mS _).1|with_reducible exact (mS _).2|with_reducible exact eu _|with_reducible exact bL|(simp only[ByteArray.size_append,jO,iR,lF,dh,fF];omega)|exact decide_eq_true (by omega)|exact decide_eq_false (by omega)|omega) rfl rfl
theorem spec14 (s m:ByteArray) (hs:s.size≤100000000000000) (hm:m.size≤10000000000):Spec 57 [sS s,sS m] (.val (sS (signB s m))):=by
 have hk:=i3 s
 exact af OO rfl (r14 s m) (by refine ⟨?_,?_,(L8 pw),(L8 pX),cR,?_,?_,?_,?_,?_,?_,?_,(L8 pw),(L8 pX),cR,?_,?_,?_,?_,?_,?_,?_,(by decide),?_,bL,bL,bL,bL,bL,bL,bL,bL,(by decide),(gV (by with_reducible assumption)),(aC (by decide)),?_,(dJ (ae _)),?_,(L8 (dJ (ae _))),(aC (by decide)),?_,(bi (ae _)),?_,(L8 (bi (ae _))),(L8 (ao (ae _))),?_,trivial⟩<;>first|with_reducible assumption|with_reducible exact jt _|with_reducible exact L8 (jt _)|with_reducible exact jv _|with_reducible exact L8 (jv _)|with_reducible exact bi (ae 2)|with_reducible exact L8 (bi (ae 2))|with_reducible exact L8 (ao (ae 2))|with_reducible exact gL _|with_reducible exact L8 (gL _)|with_reducible exact i3 _|with_reducible exact gV (i3 _)|with_reducible exact cR|with_reducible exact vM cR|with_reducible exact (mS _).1|with_reducible exact (mS _).2|with_reducible exact eu _|with_reducible exact bL|(simp only[ByteArray.size_append,jO,iR,lF,dh,fF];omega)|exact decide_eq_true (by omega)|exact decide_eq_false (by omega)|omega) rfl rfl
noncomputable def vrS (s:ByteArray):Nat:=aQ (Pu s)
noncomputable def vrK (p m s:ByteArray):Nat:=yc ((xv s++p)++m)
noncomputable def So (p m s:ByteArray):ByteArray:=dZ (CU (vrS s) ea d9 (vrK p m s) (aw (ab 0) 0 (dE p)) (dX p)) (CH (vrS s) ea d9 (vrK p m s) (aw (ab 0) 0 (dE p)) (dX p))
noncomputable def verE (p m s:ByteArray):Int:=bif decide (p.size=32)&&decide (s.size=64) then (bif decide (m.size≤4096) then (bif decide (vrS s<ab 2) then dI p else 6) else 2) else 1
noncomputable def verB (p m s:ByteArray):Bool:=decide (verE p m s=0)&&((So p m s).toList==(xv s).toList)
noncomputable def Aa:FuncId→Nat→Bool:=fun f t=>match f with|59=>bf t [18,22,27,30,36,43,46,48,50,68,69]|123=>bf t [14,18,22,24,29,36,39,41,43,54,55]|88=>bf t [21]|_=>false
noncomputable def FU:Env:=cd LS Aa
theorem ij:EnvOK FU:=aF Wr Aa
theorem alv (p:ByteArray) (m:ByteArray) (s:ByteArray):al FU 1000 59 [sS p,sS m,sS s] [true]=
  some ([(!decide ((↑(ByteArray.size p):Int)=(32:Int)))=true],.tup [.one (.v (.bool false)),.one (.i 1)]):=by kernel_rfl
theorem aoz (p:ByteArray) (m:ByteArray) (s:ByteArray):al FU 1000 59 [sS p,sS m,sS s] [false,true]=
  some ([(!decide ((↑(ByteArray.size p):Int)=(32:Int)))=false,(!decide ((↑(ByteArray.size s):Int)=(64:Int)))=true],.tup [.one (.v (.bool false)),.one (.i 1)]):=by kernel_rfl
theorem am' (p:ByteArray) (m:ByteArray) (s:ByteArray):al FU 1000 59 [sS p,sS m,sS s] [false,false,true]=
  some ([(!decide ((↑(ByteArray.size p):Int)=(32:Int)))=false,(!decide ((↑(ByteArray.size s):Int)=(64:Int)))=false,decide ((4096:Int)<(↑(ByteArray.size m):Int))=true],.tup [.one (.v (.bool false)),.one (.i 2)]):=by kernel_rfl
theorem amD (p:ByteArray) (m:ByteArray) (s:ByteArray):al FU 1000 59 [sS p,sS m,sS s] [false,false,false,true]=
  some ([(!decide ((↑(ByteArray.size p):Int)=(32:Int)))=false,(!decide ((↑(ByteArray.size s):Int)=(64:Int)))=false,decide ((4096:Int)<(↑(ByteArray.size m):Int))=false,(0:Int)≤(32:Int)∧(32:Int)≤(↑(ByteArray.size s):Int),ByteArray.size (ByteArray.extract s 32 (ByteArray.size s))=32,aQ (ByteArray.extract s 32 (ByteArray.size s))<4294967296^8,(!fT (2:Int) (aQ (ByteArray.extract s 32 (ByteArray.size s))))=true],.tup [.one (.v (.bool false)),.one (.i 6)]):=by kernel_rfl
theorem alF (p:ByteArray) (m:ByteArray) (s:ByteArray):al FU 1000 59 [sS p,sS m,sS s] [false,false,false,false,true]=
  some ([(!decide ((↑(ByteArray.size p):Int)=(32:Int)))=false,(!decide ((↑(ByteArray.size s):Int)=(64:Int)))=false,decide ((4096:Int)<(↑(ByteArray.size m):Int))=false,(0:Int)≤(32:Int)∧(32:Int)≤(↑(ByteArray.size s):Int),ByteArray.size (ByteArray.extract s 32 (ByteArray.size s))=32,aQ (ByteArray.extract s 32 (ByteArray.size s))<4294967296^8,(!fT (2:Int) (aQ (ByteArray.extract s 32 (ByteArray.size s))))=false,(!decide (dI p=(0:Int)))=true],.tup [.one (.v (.bool false)),.one (.i (dI p))]):=by kernel_rfl
theorem aoi (p:ByteArray) (m:ByteArray) (s:ByteArray):al FU 1000 59 [sS p,sS m,sS s] [false,false,false,false,false,true]=
  some ([(!decide ((↑(ByteArray.size p):Int)=(32:Int)))=false,(!decide ((↑(ByteArray.size s):Int)=(64:Int)))=false,decide ((4096:Int)<(↑(ByteArray.size m):Int))=false,(0:Int)≤(32:Int)∧(32:Int)≤(↑(ByteArray.size s):Int),ByteArray.size (ByteArray.extract s 32 (ByteArray.size s))=32,aQ (ByteArray.extract s 32 (ByteArray.size s))<4294967296^8,(!fT (2:Int) (aQ (ByteArray.extract s 32 (ByteArray.size s))))=false,(!decide (dI p=(0:Int)))=false,(0:Int)≤(32:Int)∧(32:Int)≤(↑(ByteArray.size s):Int),ByteArray.size (ByteArray.extract s 0 32)+ByteArray.size p≤9223372036854775807,ByteArray.size (ByteArray.extract s 0 32++p)+ByteArray.size m≤9223372036854775807,ByteArray.size (ByteArray.extract s 0 32++p++m)≤100000000000000,dE p<4294967296^8,dX p<4294967296^8,gt (dE p) (dX p)=true,aQ (ByteArray.extract s 32 (ByteArray.size s))<4294967296^8,ea<4294967296^8,d9<4294967296^8,yc (ByteArray.extract s 0 32++p++m)<4294967296^8,aw (ab 0) 0 (dE p)<4294967296^8,dX p<4294967296^8,gt ea d9=true,gt (aw (ab 0) 0 (dE p)) (dX p)=true,CU (aQ (ByteArray.extract s 32 (ByteArray.size s))) ea d9 (yc (ByteArray.extract s 0 32++p++m)) (aw (ab 0) 0 (dE p)) (dX p)<4294967296^8,CH (aQ (ByteArray.extract s 32 (ByteArray.size s))) ea d9 (yc (ByteArray.extract s 0 32++p++m)) (aw (ab 0) 0 (dE p)) (dX p)<4294967296^8,gt (CU (aQ (ByteArray.extract s 32 (ByteArray.size s))) ea d9 (yc (ByteArray.extract s 0 32++p++m)) (aw (ab 0) 0 (dE p)) (dX p)) (CH (aQ (ByteArray.extract s 32 (ByteArray.size s))) ea d9 (yc (ByteArray.extract s 0 32++p++m)) (aw (ab 0) 0 (dE p)) (dX p))=true,(0:Int)≤(32:Int)∧(32:Int)≤(↑(ByteArray.size s):Int),(ByteArray.toList (dZ (CU (aQ (ByteArray.extract s 32 (ByteArray.size s))) ea d9 (yc (ByteArray.extract s 0 32++p++m)) (aw (ab 0) 0 (dE p)) (dX p)) (CH (aQ (ByteArray.extract s 32 (ByteArray.size s))) ea d9 (yc (ByteArray.extract s 0 32++p++m)) (aw (ab 0) 0 (dE p)) (dX p)))==ByteArray.toList (ByteArray.extract s 0 32))=true],.tup [.one (.v (.bool true)),.one (.i 0)]):=by kernel_rfl
theorem aqo (p:ByteArray) (m:ByteArray) (s:ByteArray):al FU 1000 59 [sS p,sS m,sS s] [false,false,false,false,false,false]=
  some ([(!decide ((↑(ByteArray.size p):Int)=(32:Int)))=false,(!decide ((↑(ByteArray.size s):Int)=(64:Int)))=false,decide ((4096:Int)<(↑(ByteArray.size m):Int))=false,(0:Int)≤(32:Int)∧(32:Int)≤(↑(ByteArray.size s):Int),ByteArray.size (ByteArray.extract s 32 (ByteArray.size s))=32,aQ (ByteArray.extract s 32 (ByteArray.size s))<4294967296^8,(!fT (2:Int) (aQ (ByteArray.extract s 32 (ByteArray.size s))))=false,(!decide (dI p=(0:Int)))=false,(0:Int)≤(32:Int)∧(32:Int)≤(↑(ByteArray.size s):Int),ByteArray.size (ByteArray.extract s 0 32)+ByteArray.size p≤9223372036854775807,ByteArray.size (ByteArray.extract s 0 32++p)+ByteArray.size m≤9223372036854775807,ByteArray.size (ByteArray.extract s 0 32++p++m)≤100000000000000,dE p<4294967296^8,dX p<4294967296^8,gt (dE p) (dX p)=true,aQ (ByteArray.extract s 32 (ByteArray.size s))<4294967296^8,ea<4294967296^8,d9<4294967296^8,yc (ByteArray.extract s 0 32++p++m)<4294967296^8,aw (ab 0) 0 (dE p)<4294967296^8,dX p<4294967296^8,gt ea d9=true,gt (aw (ab 0) 0 (dE p)) (dX p)=true,CU (aQ (ByteArray.extract s 32 (ByteArray.size s))) ea d9 (yc (ByteArray.extract s 0 32++p++m)) (aw (ab 0) 0 (dE p)) (dX p)<4294967296^8,CH (aQ (ByteArray.extract s 32 (ByteArray.size s))) ea d9 (yc (ByteArray.extract s 0 32++p++m)) (aw (ab 0) 0 (dE p)) (dX p)<4294967296^8,gt (CU (aQ (ByteArray.extract s 32 (ByteArray.size s))) ea d9 (yc (ByteArray.extract s 0 32++p++m)) (aw (ab 0) 0 (dE p)) (dX p)) (CH (aQ (ByteArray.extract s 32 (ByteArray.size s))) ea d9 (yc (ByteArray.extract s 0 32++p++m)) (aw (ab 0) 0 (dE p)) (dX p))=true,(0:Int)≤(32:Int)∧(32:Int)≤(↑(ByteArray.size s):Int),(ByteArray.toList (dZ (CU (aQ (ByteArray.extract s 32 (ByteArray.size s))) ea d9 (yc (ByteArray.extract s 0 32++p++m)) (aw (ab 0) 0 (dE p)) (dX p)) (CH (aQ (ByteArray.extract s 32 (ByteArray.size s))) ea d9 (yc (ByteArray.extract s 0 32++p++m)) (aw (ab 0) 0 (dE p)) (dX p)))==ByteArray.toList (ByteArray.extract s 0 32))=false],.tup [.one (.v (.bool false)),.one (.i 0)]):=by kernel_rfl
theorem acT (p:ByteArray) (m:ByteArray) (s:ByteArray):al FU 1000 123 [sS p,sS m,sS s] [true]=
  some ([(!decide ((↑(ByteArray.size p):Int)=(32:Int)))=true],.tup [.one (.v (.bool false)),.one (.i 1)]):=by kernel_rfl
theorem X8 (p:ByteArray) (m:ByteArray) (s:ByteArray):al FU 1000 123 [sS p,sS m,sS s] [false,true]=
  some ([(!decide ((↑(ByteArray.size p):Int)=(32:Int)))=false,(!decide ((↑(ByteArray.size s):Int)=(64:Int)))=true],.tup [.one (.v (.bool false)),.one (.i 1)]):=by kernel_rfl
theorem apz (p:ByteArray) (m:ByteArray) (s:ByteArray):al FU 1000 123 [sS p,sS m,sS s] [false,false,true]=
  some ([(!decide ((↑(ByteArray.size p):Int)=(32:Int)))=false,(!decide ((↑(ByteArray.size s):Int)=(64:Int)))=false,decide ((4096:Int)<(↑(ByteArray.size m):Int))=true],.tup [.one (.v (.bool false)),.one (.i 2)]):=by kernel_rfl
theorem an3 (p:ByteArray) (m:ByteArray) (s:ByteArray):al FU 1000 123 [sS p,sS m,sS s] [false,false,false,false,true]=
  some ([(!decide ((↑(ByteArray.size p):Int)=(32:Int)))=false,(!decide ((↑(ByteArray.size s):Int)=(64:Int)))=false,decide ((4096:Int)<(↑(ByteArray.size m):Int))=false,(0:Int)≤(32:Int)∧(32:Int)≤(↑(ByteArray.size s):Int),ByteArray.size (ByteArray.extract s 32 (ByteArray.size s))=32,(0:Int)≤(2:Int)∧(2:Int)<(4:Int),decide (aQ (ByteArray.extract s 32 (ByteArray.size s))<ab 2)=false,aQ (ByteArray.extract s 32 (ByteArray.size s))<4294967296^8,ab 2<4294967296^8,(!false)=true],.tup [.one (.v (.bool false)),.one (.i 6)]):=by kernel_rfl
theorem aol (p:ByteArray) (m:ByteArray) (s:ByteArray):al FU 1000 123 [sS p,sS m,sS s] [false,false,false,true,false,true]=
  some ([(!decide ((↑(ByteArray.size p):Int)=(32:Int)))=false,(!decide ((↑(ByteArray.size s):Int)=(64:Int)))=false,decide ((4096:Int)<(↑(ByteArray.size m):Int))=false,(0:Int)≤(32:Int)∧(32:Int)≤(↑(ByteArray.size s):Int),ByteArray.size (ByteArray.extract s 32 (ByteArray.size s))=32,(0:Int)≤(2:Int)∧(2:Int)<(4:Int),decide (aQ (ByteArray.extract s 32 (ByteArray.size s))<ab 2)=true,aQ (ByteArray.extract s 32 (ByteArray.size s))<4294967296^8,ab 2<4294967296^8,(!true)=false,(!decide (dI p=(0:Int)))=true],.tup [.one (.v (.bool false)),.one (.i (dI p))]):=by kernel_rfl
theorem apA (p:ByteArray) (m:ByteArray) (s:ByteArray):al FU 1000 123 [sS p,sS m,sS s] [false,false,false,true,false,false,true]=
  some ([(!decide ((↑(ByteArray.size p):Int)=(32:Int)))=false,(!decide ((↑(ByteArray.size s):Int)=(64:Int)))=false,decide ((4096:Int)<(↑(ByteArray.size m):Int))=false,(0:Int)≤(32:Int)∧(32:Int)≤(↑(ByteArray.size s):Int),ByteArray.size (ByteArray.extract s 32 (ByteArray.size s))=32,(0:Int)≤(2:Int)∧(2:Int)<(4:Int),decide (aQ (ByteArray.extract s 32 (ByteArray.size s))<ab 2)=true,aQ (ByteArray.extract s 32 (ByteArray.size s))<4294967296^8,ab 2<4294967296^8,(!true)=false,(!decide (dI p=(0:Int)))=false,(0:Int)≤(32:Int)∧(32:Int)≤(↑(ByteArray.size s):Int),ByteArray.size (ByteArray.extract s 0 32)+ByteArray.size p≤9223372036854775807,ByteArray.size (ByteArray.extract s 0 32++p)+ByteArray.size m≤9223372036854775807,ByteArray.size (ByteArray.extract s 0 32++p++m)≤100000000000000,ByteArray.size (cK (ByteArray.extract s 0 32++p++m))=64,dE p<4294967296^8,dX p<4294967296^8,gt (dE p) (dX p)=true,aQ (ByteArray.extract s 32 (ByteArray.size s))<4294967296^8,ea<4294967296^8,d9<4294967296^8,iS (cK (ByteArray.extract s 0 32++p++m))<4294967296^8,aw (ab 0) 0 (dE p)<4294967296^8,dX p<4294967296^8,gt ea d9=true,gt (aw (ab 0) 0 (dE p)) (dX p)=true,CU (aQ (ByteArray.extract s 32 (ByteArray.size s))) ea d9 (iS (cK (ByteArray.extract s 0 32++p++m))) (aw (ab 0) 0 (dE p)) (dX p)<4294967296^8,CH (aQ (ByteArray.extract s 32 (ByteArray.size s))) ea d9 (iS (cK (ByteArray.extract s 0 32++p++m))) (aw (ab 0) 0 (dE p)) (dX p)<4294967296^8,gt (CU (aQ (ByteArray.extract s 32 (ByteArray.size s))) ea d9 (iS (cK (ByteArray.extract s 0 32++p++m))) (aw (ab 0) 0 (dE p)) (dX p)) (CH (aQ (ByteArray.extract s 32 (ByteArray.size s))) ea d9 (iS (cK (ByteArray.extract s 0 32++p++m))) (aw (ab 0) 0 (dE p)) (dX p))=true,(0:Int)≤(32:Int)∧(32:Int)≤(↑(ByteArray.size s):Int),(ByteArray.toList (dZ (CU (aQ (ByteArray.extract s 32 (ByteArray.size s))) ea d9 (iS (cK (ByteArray.extract s 0 32++p++m))) (aw (ab 0) 0 (dE p)) (dX p)) (CH (aQ (ByteArray.extract s 32 (ByteArray.size s))) ea d9 (iS (cK (ByteArray.extract s 0 32++p++m))) (aw (ab 0) 0 (dE p)) (dX p)))==ByteArray.toList (ByteArray.extract s 0 32))=true],.tup [.one (.v (.bool true)),.one (.i 0)]):=by kernel_rfl
theorem aoy (p:ByteArray) (m:ByteArray) (s:ByteArray):al FU 1000 123 [sS p,sS m,sS s] [false,false,false,true,false,false,false]=
  some ([(!decide ((↑(ByteArray.size p):Int)=(32:Int)))=false,(!decide ((↑(ByteArray.size s):Int)=(64:Int)))=false,decide ((4096:Int)<(↑(ByteArray.size m):Int))=false,(0:Int)≤(32:Int)∧(32:Int)≤(↑(ByteArray.size s):Int),ByteArray.size (ByteArray.extract s 32 (ByteArray.size s))=32,(0:Int)≤(2:Int)∧(2:Int)<(4:Int),decide (aQ (ByteArray.extract s 32 (ByteArray.size s))<ab 2)=true,aQ (ByteArray.extract s 32 (ByteArray.size s))<4294967296^8,ab 2<4294967296^8,(!true)=false,(!decide (dI p=(0:Int)))=false,(0:Int)≤(32:Int)∧(32:Int)≤(↑(ByteArray.size s):Int),ByteArray.size (ByteArray.extract s 0 32)+ByteArray.size p≤9223372036854775807,ByteArray.size (ByteArray.extract s 0 32++p)+ByteArray.size m≤9223372036854775807,ByteArray.size (ByteArray.extract s 0 32++p++m)≤100000000000000,ByteArray.size (cK (ByteArray.extract s 0 32++p++m))=64,dE p<4294967296^8,dX p<4294967296^8,gt (dE p) (dX p)=true,aQ (ByteArray.extract s 32 (ByteArray.size s))<4294967296^8,ea<4294967296^8,d9<4294967296^8,iS (cK (ByteArray.extract s 0 32++p++m))<4294967296^8,aw (ab 0) 0 (dE p)<4294967296^8,dX p<4294967296^8,gt ea d9=true,gt (aw (ab 0) 0 (dE p)) (dX p)=true,CU (aQ (ByteArray.extract s 32 (ByteArray.size s))) ea d9 (iS (cK (ByteArray.extract s 0 32++p++m))) (aw (ab 0) 0 (dE p)) (dX p)<4294967296^8,CH (aQ (ByteArray.extract s 32 (ByteArray.size s))) ea d9 (iS (cK (ByteArray.extract s 0 32++p++m))) (aw (ab 0) 0 (dE p)) (dX p)<4294967296^8,gt (CU (aQ (ByteArray.extract s 32 (ByteArray.size s))) ea d9 (iS (cK (ByteArray.extract s 0 32++p++m))) (aw (ab 0) 0 (dE p)) (dX p)) (CH (aQ (ByteArray.extract s 32 (ByteArray.size s))) ea d9 (iS (cK (ByteArray.extract s 0 32++p++m))) (aw (ab 0) 0 (dE p)) (dX p))=true,(0:Int)≤(32:Int)∧(32:Int)≤(↑(ByteArray.size s):Int),(ByteArray.toList (dZ (CU (aQ (ByteArray.extract s 32 (ByteArray.size s))) ea d9 (iS (cK (ByteArray.extract s 0 32++p++m))) (aw (ab 0) 0 (dE p)) (dX p)) (CH (aQ (ByteArray.extract s 32 (ByteArray.size s))) ea d9 (iS (cK (ByteArray.extract s 0 32++p++m))) (aw (ab 0) 0 (dE p)) (dX p)))==ByteArray.toList (ByteArray.extract s 0 32))=false],.tup [.one (.v (.bool false)),.one (.i 0)]):=by kernel_rfl
theorem fq {x y:Nat} (h:gt x y=true):gt (aw (ab 0) 0 x) y=true:=(As (wQ h)).e
theorem B4 {k x y m:Nat} (h:gt x y=true):CU k ea d9 m x y<4294967296^8∧CH k ea d9 m x y<4294967296^8:=dN0 (EJ cR h)
theorem ajZ {s:ByteArray} (h:s.size=64):(!decide ((s.size:Int)=64))=false:=by rw[decide_eq_true (by omega)];rfl
theorem ah2 {s:ByteArray} (h:s.size≠64):(!decide ((s.size:Int)=64))=true:=by rw[decide_eq_false (by omega)];rfl
theorem ap3 {a:Nat} (h:¬a<ab 2):(!fT 2 a)=true:=by
 have:fT 2 a=false:=by
  unfold fT mX
  rw[show (2:Int).toNat=2 from rfl,decide_eq_false h,Bool.and_false]
 rw[this];rfl
theorem spec23g (p m s:ByteArray):Spec 59 [sS p,sS m,sS s] (.tup [.one (.v (.bool (verB p m s))),.one (.i (verE p m s))]):=by
 by_cases e1:p.size=32
 ·have hp:=ahV e1
  by_cases e2:s.size=64
  ·have hs:=ajZ e2
   have h3s:(0:Int)≤32∧(32:Int)≤(s.size:Int):=by omega
   have hz1:(s.extract 0 32).size=32:=kn e2
   have hz2:(s.extract 32 s.size).size=32:=ki e2
   have hl8:aQ (s.extract 32 s.size)<4294967296^8:=n9 hz2
   by_cases e3:m.size≤4096
   ·have hm:decide ((4096:Int)<(m.size:Int))=false:=decide_eq_false (by omega)
    by_cases e4:vrS s<ab 2
    ·have hv1:(!fT 2 (aQ (s.extract 32 s.size)))=false:=Oj e4
     by_cases e5:dI p=0
     ·have hu:(!decide (dI p=0))=false:=by rw[e5];rfl
      obtain ⟨hon,_⟩:=Cx e5
      obtain ⟨hx8,hy8⟩:=dN0 hon
      have hE:verE p m s=0:=by unfold verE;rw[decide_eq_true e1,decide_eq_true e2,Bool.and_self,cond_true,decide_eq_true e3,cond_true,decide_eq_true e4,cond_true,e5]
      have hB:verB p m s=((So p m s).toList==(xv s).toList):=by unfold verB;rw[hE];rfl
      rw[hE]
      cases hf:((So p m s).toList==(xv s).toList) with
      |true=>
       have hfin:((So p m s).toList==(xv s).toList)=true:=hf
       rw[hB,hf]
       exact af ij rfl (aoi p m s) ⟨hp,hs,hm,h3s,hz2,hl8,hv1,hu,h3s,(by simp only[ByteArray.size_append,hz1];omega),(by simp only[ByteArray.size_append,hz1];omega),(by simp only[ByteArray.size_append,hz1];omega),hx8,hy8,hon,hl8,(L8 pw),(L8 pX),(by first|with_reducible assumption|with_reducible exact jt _|with_reducible exact L8 (jt _)|with_reducible exact jv _|with_reducible exact L8 (jv _)|with_reducible exact bi (ae 2)|with_reducible exact L8 (bi (ae 2))|with_reducible exact L8 (ao (ae 2))|with_reducible exact gL _|with_reducible exact L8 (gL _)|with_reducible exact i3 _|with_reducible exact gV (i3 _)|with_reducible exact cR|with_reducible exact vM cR|with_reducible exact (mS _).1|with_reducible exact (mS _).2|with_reducible exact eu _|with_reducible exact bL|(simp only[ByteArray.size_append,jO,iR,lF,dh,fF];omega)|exact decide_eq_true (by omega)|exact decide_eq_false (by omega)|omega),(L8 (av (ae _))),hy8,cR,(fq hon),(B4 (fq hon)).1,(B4 (fq hon)).2,(EJ cR (fq hon)),h3s,hfin,trivial⟩ rfl rfl
      |false=>
       have hfin:((So p m s).toList==(xv s).toList)=false:=hf
       rw[hB,hf]
       exact af ij rfl (aqo p m s) ⟨hp,hs,hm,h3s,hz2,hl8,hv1,hu,h3s,(by simp only[ByteArray.size_append,hz1];omega),(by simp only[ByteArray.size_append,hz1];omega),(by simp only[ByteArray.size_append,hz1];omega),hx8,hy8,hon,hl8,(L8 pw),(L8 pX),(by first|with_reducible assumption|with_reducible exact jt _|with_reducible exact L8 (jt _)|with_reducible exact jv _|with_reducible exact L8 (jv _)|with_reducible exact bi (ae 2)|with_reducible exact L8 (bi (ae 2))|with_reducible exact L8 (ao (ae 2))|with_reducible exact gL _|with_reducible exact L8 (gL _)|with_reducible exact i3 _|with_reducible exact gV (i3 _)|with_reducible exact cR|with_reducible exact vM cR|with_reducible exact (mS _).1|with_reducible exact (mS _).2|with_reducible exact eu _|with_reducible exact bL|(simp only[ByteArray.size_append,jO,iR,lF,dh,fF];omega)|exact decide_eq_true (by omega)|exact decide_eq_false (by omega)|omega),(L8 (av (ae _))),hy8,cR,(fq hon),(B4 (fq hon)).1,(B4 (fq hon)).2,(EJ cR (fq hon)),h3s,hfin,trivial⟩ rfl rfl
     ·have hu:(!decide (dI p=0))=true:=by rw[decide_eq_false e5];rfl
      have hE:verE p m s=dI p:=by unfold verE;rw[decide_eq_true e1,decide_eq_true e2,Bool.and_self,cond_true,decide_eq_true e3,cond_true,decide_eq_true e4,cond_true]
      have hB:verB p m s=false:=by unfold verB;rw[hE,decide_eq_false e5,Bool.false_and]
      rw[hE,hB]
      exact af ij rfl (alF p m s) ⟨hp,hs,hm,h3s,hz2,hl8,hv1,hu,trivial⟩ rfl rfl
    ·have hv1:(!fT 2 (aQ (s.extract 32 s.size)))=true:=ap3 e4
     have hE:verE p m s=6:=by unfold verE;rw[decide_eq_true e1,decide_eq_true e2,Bool.and_self,cond_true,decide_eq_true e3,cond_true,decide_eq_false e4,cond_false]
     have hB:verB p m s=false:=by unfold verB;rw[hE];rfl
     rw[hE,hB]
     exact af ij rfl (amD p m s) ⟨hp,hs,hm,h3s,hz2,hl8,hv1,trivial⟩ rfl rfl
   ·have hnm:decide ((4096:Int)<(m.size:Int))=true:=decide_eq_true (by omega)
    have hE:verE p m s=2:=by unfold verE;rw[decide_eq_true e1,decide_eq_true e2,Bool.and_self,cond_true,decide_eq_false e3,cond_false]
    have hB:verB p m s=false:=by unfold verB;rw[hE];rfl
    rw[hE,hB]
    exact af ij rfl (am' p m s) ⟨hp,hs,hnm,trivial⟩ rfl rfl
  ·have hns:=ah2 e2
   have hE:verE p m s=1:=by unfold verE;rw[decide_eq_false e2,Bool.and_false,cond_false]
   have hB:verB p m s=false:=by unfold verB;rw[hE];rfl
   rw[hE,hB]
   exact af ij rfl (aoz p m s) ⟨hp,hns,trivial⟩ rfl rfl
 ·have hnp:=adR e1
  have hE:verE p m s=1:=by unfold verE;rw[decide_eq_false e1,Bool.false_and,cond_false]
  have hB:verB p m s=false:=by unfold verB;rw[hE];rfl
  rw[hE,hB]
  exact af ij rfl (alv p m s) ⟨hnp,trivial⟩ rfl rfl
theorem spec24g (p m s:ByteArray):Spec 123 [sS p,sS m,sS s] (.tup [.one (.v (.bool (verB p m s))),.one (.i (verE p m s))]):=by
 by_cases e1:p.size=32
 ·have hp:=ahV e1
  by_cases e2:s.size=64
  ·have hs:=ajZ e2
   have h3s:(0:Int)≤32∧(32:Int)≤(s.size:Int):=by omega
   have hz1:(s.extract 0 32).size=32:=kn e2
   have hz2:(s.extract 32 s.size).size=32:=ki e2
   have hl8:aQ (s.extract 32 s.size)<4294967296^8:=n9 hz2
   by_cases e3:m.size≤4096
   ·have hm:decide ((4096:Int)<(m.size:Int))=false:=decide_eq_false (by omega)
    by_cases e4:vrS s<ab 2
    ·have hv2:decide (aQ (s.extract 32 s.size)<ab 2)=true:=decide_eq_true e4
     by_cases e5:dI p=0
     ·have hu:(!decide (dI p=0))=false:=by rw[e5];rfl
      obtain ⟨hon,_⟩:=Cx e5
      obtain ⟨hx8,hy8⟩:=dN0 hon
      have hE:verE p m s=0:=by unfold verE;rw[decide_eq_true e1,decide_eq_true e2,Bool.and_self,cond_true,decide_eq_true e3,cond_true,decide_eq_true e4,cond_true,e5]
      have hB:verB p m s=((So p m s).toList==(xv s).toList):=by unfold verB;rw[hE];rfl
      rw[hE]
      cases hf:((So p m s).toList==(xv s).toList) with
      |true=>
       have hfin:((So p m s).toList==(xv s).toList)=true:=hf
       rw[hB,hf]
       exact af ij rfl (apA p m s) ⟨hp,hs,hm,h3s,hz2,(by decide),hv2,hl8,(aj _),rfl,hu,h3s,(by simp only[ByteArray.size_append,hz1];omega),(by simp only[ByteArray.size_append,hz1];omega),(by simp only[ByteArray.size_append,hz1];omega),(eu _),hx8,hy8,hon,hl8,(L8 pw),(L8 pX),(by first|with_reducible assumption|with_reducible exact jt _|with_reducible exact L8 (jt _)|with_reducible exact jv _|with_reducible exact L8 (jv _)|with_reducible exact bi (ae 2)|with_reducible exact L8 (bi (ae 2))|with_reducible exact L8 (ao (ae 2))|with_reducible exact gL _|with_reducible exact L8 (gL _)|with_reducible exact i3 _|with_reducible exact gV (i3 _)|with_reducible exact cR|with_reducible exact vM cR|with_reducible exact (mS _).1|with_reducible exact (mS _).2|with_reducible exact eu _|with_reducible exact bL|(simp only[ByteArray.size_append,jO,iR,lF,dh,fF];omega)|exact decide_eq_true (by omega)|exact decide_eq_false (by omega)|omega),(L8 (av (ae _))),hy8,cR,(fq hon),(B4 (fq hon)).1,(B4 (fq hon)).2,(EJ cR (fq hon)),h3s,hfin,trivial⟩ rfl rfl
      |false=>
       have hfin:((So p m s).toList==(xv s).toList)=false:=hf
       rw[hB,hf]
       exact af ij rfl (aoy p m s) ⟨hp,hs,hm,h3s,hz2,(by decide),hv2,hl8,(aj _),rfl,hu,h3s,(by simp only[ByteArray.size_append,hz1];omega),(by simp only[ByteArray.size_append,hz1];omega),(by simp only[ByteArray.size_append,hz1];omega),(eu _),hx8,hy8,hon,hl8,(L8 pw),(L8 pX),(by first|with_reducible assumption|with_reducible exact jt _|with_reducible exact L8 (jt _)|with_reducible exact jv _|with_reducible exact L8 (jv _)|with_reducible exact bi (ae 2)|with_reducible exact L8 (bi (ae 2))|with_reducible exact L8 (ao (ae 2))|with_reducible exact gL _|with_reducible exact L8 (gL _)|with_reducible exact i3 _|with_reducible exact gV (i3 _)|with_reducible exact cR|with_reducible exact vM cR|with_reducible exact (mS _).1|with_reducible exact (mS _).2|with_reducible exact eu _|with_reducible exact bL|(simp only[ByteArray.size_append,jO,iR,lF,dh,fF];omega)|exact decide_eq_true (by omega)|exact decide_eq_false (by omega)|omega),(L8 (av (ae _))),hy8,cR,(fq hon),(B4 (fq hon)).1,(B4 (fq hon)).2,(EJ cR (fq hon)),h3s,hfin,trivial⟩ rfl rfl
     ·have hu:(!decide (dI p=0))=true:=by rw[decide_eq_false e5];rfl
      have hE:verE p m s=dI p:=by unfold verE;rw[decide_eq_true e1,decide_eq_true e2,Bool.and_self,cond_true,decide_eq_true e3,cond_true,decide_eq_true e4,cond_true]
      have hB:verB p m s=false:=by unfold verB;rw[hE,decide_eq_false e5,Bool.false_and]
      rw[hE,hB]
      exact af ij rfl (aol p m s) ⟨hp,hs,hm,h3s,hz2,(by decide),hv2,hl8,(aj _),rfl,hu,trivial⟩ rfl rfl
    ·have hv2:decide (aQ (s.extract 32 s.size)<ab 2)=false:=decide_eq_false e4
     have hE:verE p m s=6:=by unfold verE;rw[decide_eq_true e1,decide_eq_true e2,Bool.and_self,cond_true,decide_eq_true e3,cond_true,decide_eq_false e4,cond_false]
     have hB:verB p m s=false:=by unfold verB;rw[hE];rfl
     rw[hE,hB]
     exact af ij rfl (an3 p m s) ⟨hp,hs,hm,h3s,hz2,(by decide),hv2,hl8,(aj _),rfl,trivial⟩ rfl rfl
   ·have hnm:decide ((4096:Int)<(m.size:Int))=true:=decide_eq_true (by omega)
    have hE:verE p m s=2:=by unfold verE;rw[decide_eq_true e1,decide_eq_true e2,Bool.and_self,cond_true,decide_eq_false e3,cond_false]
    have hB:verB p m s=false:=by unfold verB;rw[hE];rfl
    rw[hE,hB]
    exact af ij rfl (apz p m s) ⟨hp,hs,hnm,trivial⟩ rfl rfl
  ·have hns:=ah2 e2
   have hE:verE p m s=1:=by unfold verE;rw[decide_eq_false e2,Bool.and_false,cond_false]
   have hB:verB p m s=false:=by unfold verB;rw[hE];rfl
   rw[hE,hB]
   exact af ij rfl (X8 p m s) ⟨hp,hns,trivial⟩ rfl rfl
 ·have hnp:=adR e1
  have hE:verE p m s=1:=by unfold verE;rw[decide_eq_false e1,Bool.false_and,cond_false]
  have hB:verB p m s=false:=by unfold verB;rw[hE];rfl
  rw[hE,hB]
  exact af ij rfl (acT p m s) ⟨hnp,trivial⟩ rfl rfl
end Go.Ev.H5.Ed
