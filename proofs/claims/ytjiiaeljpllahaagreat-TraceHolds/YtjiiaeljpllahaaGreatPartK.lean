/- Sums of numbers, bytes, and spots; Bytes of numbers and of points; SHA-512: the program and the page come to one sum -/
import Derived.Test.YtjiiaeljpllahaaGreatPartJ
import Derived.Test.YtjiiaeljpllahaaGreatPartI
namespace Go.Ev
open Go Go.Proofs Go.RowKit
def m8:Nat:=41058363725152142129326129780047268409114441015993725554835256314039467401291
def xS:Nat:=48439561293906451759052585252797914202762949526041747995844080717082404635286
def xV:Nat:=36134250956749795798585127919587881956611106672985015071877198253568414405109
theorem rJ:m8<ab 1:=by decide+kernel
theorem vy:xS<ab 1:=by decide+kernel
theorem wW:xV<ab 1:=by decide+kernel
def P3 (x y:Nat) (i:Bool):V1:= .agg [.num 8 x,.num 8 y,.a (.v (.bool i))]
theorem amI (a:Nat):al E0 1000 125 [] []=
  some ([],AV.val (V1.agg [Piece.a (Atom.u IntKind.u32 668098635),Piece.a (Atom.u IntKind.u32 1003371582),Piece.a (Atom.u IntKind.u32 3428036854),Piece.a (Atom.u IntKind.u32 1696401072),Piece.a (Atom.u IntKind.u32 1989707452),Piece.a (Atom.u IntKind.u32 3018571093),Piece.a (Atom.u IntKind.u32 2855965671),Piece.a (Atom.u IntKind.u32 1522939352)])):=by kernel_rfl
theorem Ta:Spec 125 [] (.val (N8 m8)):=(af envE0 rfl (amI 0) trivial rfl rfl).congr (fun _=>rfl) (fun _=>by kernel_rfl)
theorem apG (a:Nat):al E0 1000 221 [] []=
  some ([],AV.val (V1.agg [Piece.a (Atom.u IntKind.u32 668098635),Piece.a (Atom.u IntKind.u32 1003371582),Piece.a (Atom.u IntKind.u32 3428036854),Piece.a (Atom.u IntKind.u32 1696401072),Piece.a (Atom.u IntKind.u32 1989707452),Piece.a (Atom.u IntKind.u32 3018571093),Piece.a (Atom.u IntKind.u32 2855965671),Piece.a (Atom.u IntKind.u32 1522939352)])):=by kernel_rfl
theorem VT:Spec 221 [] (.val (N8 m8)):=(af envE0 rfl (apG 0) trivial rfl rfl).congr (fun _=>rfl) (fun _=>by kernel_rfl)
theorem al7 (a:Nat):al E0 1000 31 [] []=
  some ([],AV.val (V1.agg [Piece.a (Atom.u IntKind.u32 3633889942),Piece.a (Atom.u IntKind.u32 4104206661),Piece.a (Atom.u IntKind.u32 770388896),Piece.a (Atom.u IntKind.u32 1996717441),Piece.a (Atom.u IntKind.u32 1671708914),Piece.a (Atom.u IntKind.u32 4173129445),Piece.a (Atom.u IntKind.u32 3777774151),Piece.a (Atom.u IntKind.u32 1796723186),Piece.a (Atom.u IntKind.u32 935285237),Piece.a (Atom.u IntKind.u32 3417718888),Piece.a (Atom.u IntKind.u32 1798397646),Piece.a (Atom.u IntKind.u32 734933847),Piece.a (Atom.u IntKind.u32 2081398294),Piece.a (Atom.u IntKind.u32 2397563722),Piece.a (Atom.u IntKind.u32 4263149467),Piece.a (Atom.u IntKind.u32 1340293858),Piece.a (Atom.v (Value.bool false))])):=by kernel_rfl
theorem Au:Spec 31 [] (.val (P3 xS xV false)):=(af envE0 rfl (al7 0) trivial rfl rfl).congr (fun _=>rfl) (fun _=>by kernel_rfl)
theorem aoS (a:Nat):al E0 1000 45 [] []=
  some ([],AV.val (V1.agg [Piece.a (Atom.u IntKind.u32 3633889942),Piece.a (Atom.u IntKind.u32 4104206661),Piece.a (Atom.u IntKind.u32 770388896),Piece.a (Atom.u IntKind.u32 1996717441),Piece.a (Atom.u IntKind.u32 1671708914),Piece.a (Atom.u IntKind.u32 4173129445),Piece.a (Atom.u IntKind.u32 3777774151),Piece.a (Atom.u IntKind.u32 1796723186),Piece.a (Atom.u IntKind.u32 935285237),Piece.a (Atom.u IntKind.u32 3417718888),Piece.a (Atom.u IntKind.u32 1798397646),Piece.a (Atom.u IntKind.u32 734933847),Piece.a (Atom.u IntKind.u32 2081398294),Piece.a (Atom.u IntKind.u32 2397563722),Piece.a (Atom.u IntKind.u32 4263149467),Piece.a (Atom.u IntKind.u32 1340293858),Piece.a (Atom.v (Value.bool false))])):=by kernel_rfl
theorem uI:Spec 45 [] (.val (P3 xS xV false)):=(af envE0 rfl (aoS 0) trivial rfl rfl).congr (fun _=>rfl) (fun _=>by kernel_rfl)
noncomputable def Ww:List CT:=[⟨125,cV (.val (N8 m8))⟩,⟨221,cV (.val (N8 m8))⟩,⟨31,cV (.val (P3 xS xV false))⟩,⟨45,cV (.val (P3 xS xV false))⟩,⟨77,dU [.z,.s [.n8]] J9⟩]++L0
theorem rD:bw Ww:=⟨tG Ta,tG VT,tG Au,tG uI,VQ,Dj⟩
def oZ:V1:=BP 1
noncomputable def eL:Nat:=aq (ab 1) m8
noncomputable def Wo (x:Nat):Nat:=addM (ab 1) (aw (ab 1) (ap (ab 1) (ap (ab 1) (aq (ab 1) x) (aq (ab 1) x)) (aq (ab 1) x)) (addM (ab 1) (addM (ab 1) (aq (ab 1) x) (aq (ab 1) x)) (aq (ab 1) x))) (aq (ab 1) m8)
theorem ame (x:Nat):al (cd Ww iA) 1000 209 [N8 x] []=
  some ([(0:Int)≤(1:Int)∧(1:Int)<(4:Int),ab 1<4294967296^8,0<ab 1,x<4294967296^8,ab 1<4294967296^8,aq (ab 1) x<ab 1,aq (ab 1) x<ab 1,aq (ab 1) x<4294967296^8,aq (ab 1) x<4294967296^8,ab 1<4294967296^8,addM (ab 1) (aq (ab 1) x) (aq (ab 1) x)<ab 1,aq (ab 1) x<ab 1,addM (ab 1) (aq (ab 1) x) (aq (ab 1) x)<4294967296^8,aq (ab 1) x<4294967296^8,ab 1<4294967296^8,aq (ab 1) x<ab 1,aq (ab 1) x<ab 1,bc (ab 1) (aT 1),aq (ab 1) x<4294967296^8,aq (ab 1) x<4294967296^8,ab 1<4294967296^8,ap (ab 1) (aq (ab 1) x) (aq (ab 1) x)<ab 1,aq (ab 1) x<ab 1,bc (ab 1) (aT 1),ap (ab 1) (aq (ab 1) x) (aq (ab 1) x)<4294967296^8,aq (ab 1) x<4294967296^8,ab 1<4294967296^8,ap (ab 1) (ap (ab 1) (aq (ab 1) x) (aq (ab 1) x)) (aq (ab 1) x)<ab 1,addM (ab 1) (addM (ab 1) (aq (ab 1) x) (aq (ab 1) x)) (aq (ab 1) x)<ab 1,ap (ab 1) (ap (ab 1) (aq (ab 1) x) (aq (ab 1) x)) (aq (ab 1) x)<4294967296^8,addM (ab 1) (addM (ab 1) (aq (ab 1) x) (aq (ab 1) x)) (aq (ab 1) x)<4294967296^8,ab 1<4294967296^8,0<ab 1,m8<4294967296^8,ab 1<4294967296^8,aw (ab 1) (ap (ab 1) (ap (ab 1) (aq (ab 1) x) (aq (ab 1) x)) (aq (ab 1) x)) (addM (ab 1) (addM (ab 1) (aq (ab 1) x) (aq (ab 1) x)) (aq (ab 1) x))<ab 1,aq (ab 1) m8<ab 1,aw (ab 1) (ap (ab 1) (ap (ab 1) (aq (ab 1) x) (aq (ab 1) x)) (aq (ab 1) x)) (addM (ab 1) (addM (ab 1) (aq (ab 1) x) (aq (ab 1) x)) (aq (ab 1) x))<4294967296^8,aq (ab 1) m8<4294967296^8,ab 1<4294967296^8,addM (ab 1) (aw (ab 1) (ap (ab 1) (ap (ab 1) (aq (ab 1) x) (aq (ab 1) x)) (aq (ab 1) x)) (addM (ab 1) (addM (ab 1) (aq (ab 1) x) (aq (ab 1) x)) (aq (ab 1) x))) (aq (ab 1) m8)<ab 1,bc (ab 1) (aT 1),addM (ab 1) (aw (ab 1) (ap (ab 1) (ap (ab 1) (aq (ab 1) x) (aq (ab 1) x)) (aq (ab 1) x)) (addM (ab 1) (addM (ab 1) (aq (ab 1) x) (aq (ab 1) x)) (aq (ab 1) x))) (aq (ab 1) m8)<4294967296^8],.val (N8 (ci (ab 1) (Wo x)))):=by kernel_rfl
theorem IW (x:Nat) (hx:x<ab 1):Spec 209 [N8 x] (.val (N8 (ci (ab 1) (Wo x)))):=by
 have h0:=rJ
 exact af (aF rD iA) rfl (ame x) (by refine ⟨(by decide),(aj _),(ae _),?_,(aj _),(au (ae _)),(au (ae _)),(L8 (au (ae _))),(L8 (au (ae _))),(aj _),(ao (ae _)),(au (ae _)),(L8 (ao (ae _))),(L8 (au (ae _))),(aj _),(au (ae _)),(au (ae _)),(aK (by decide)),(L8 (au (ae _))),(L8 (au (ae _))),(aj _),(ai (ae _)),(au (ae _)),(aK (by decide)),(L8 (ai (ae _))),(L8 (au (ae _))),(aj _),(ai (ae _)),(ao (ae _)),(L8 (ai (ae _))),(L8 (ao (ae _))),(aj _),(ae _),?_,(aj _),(av (ae _)),(au (ae _)),(L8 (av (ae _))),(L8 (au (ae _))),(aj _),(ao (ae _)),(aK (by decide)),(L8 (ao (ae _))),trivial⟩<;>first|with_reducible assumption|with_reducible exact L8 (by with_reducible assumption)|exact decide_eq_true (by omega)|exact decide_eq_false (by omega)|omega) rfl rfl
theorem HB {x:Nat}:fT 1 x=decide (x<ab 1):=by
 unfold fT mX;rfl
def api (V m:Nat):AV:= .tup [N8 (dY V m),.one (.i 0)]
noncomputable def L67:List CT:=[⟨136,xk api⟩,⟨184,mT (fun a b=> .val (mO (a*b)))⟩]++Ww
theorem aat:bw L67:=⟨fun _ _ _ h ho=>nS v0 h ho,fun _ _ _ h ho=>de uS h ho,rD⟩
theorem CR {a b:Nat} (ha:a<4294967296^8) (hb:b<4294967296^8):a*b<4294967296^16:=by
 rw[show (4294967296:Nat)^16=4294967296^8*4294967296^8 by rw[←Nat.pow_add]]
 exact Nat.mul_lt_mul'' ha hb
theorem aln (m:Nat) (a:Nat) (b:Nat):al (cd L67 iA) 1000 143 [N8 m,N8 a,N8 b] []=
  some ([a<4294967296^8,b<4294967296^8,a*b<4294967296^16,0<m,m<4294967296^8],.val (N8 (dY (a*b) m))):=by kernel_rfl
theorem Qm (m a b:Nat) (hm:m<4294967296^8) (h0:0<m) (ha:a<4294967296^8) (hb:b<4294967296^8):Spec 143 [N8 m,N8 a,N8 b] (.val (N8 (dY (a*b) m))):=by
 have h16:=CR ha hb
 exact af (aF aat iA) rfl (aln m a b) (by refine ⟨?_,?_,?_,?_,?_,trivial⟩<;>first|with_reducible assumption|with_reducible exact L8 (by with_reducible assumption)|exact decide_eq_true (by omega)|exact decide_eq_false (by omega)|omega) rfl rfl
def gPr:List Val→Option (List Prop×AV)
 |[.n m,.n a,.n b]=>some ([0<m],.val (N8 (dY (a*b) m)))
 |_=>none
theorem agh:aU ⟨143,dU [aN,aN,aN] gPr⟩:=jE (by
 intro xs ob r hb h ho
 unfold gPr at h
 split at h
 ·rename_i m a b
  obtain ⟨rfl,rfl⟩:=sI h
  obtain ⟨⟨h1,_⟩,⟨h2,_⟩,⟨h3,_⟩,_⟩:=hb
  exact Qm m a b h1 ho.1 h2 h3
 ·simp at h)
noncomputable def gSq:List Val→Option (List Prop×AV)
 |[.n x]=>some ([x<ab 1],.val (N8 (ci (ab 1) (Wo x))))
 |_=>none
theorem afD:aU ⟨209,dU [aN] gSq⟩:=jE (by
 intro xs ob r hb h ho
 unfold gSq at h
 split at h
 ·rename_i x
  obtain ⟨rfl,rfl⟩:=sI h
  exact IW x ho.1
 ·simp at h)
noncomputable def Av (x:Nat):Nat:=addM (ab 1) (aw (ab 1) (ap (ab 1) x (ap (ab 1) x x)) (addM (ab 1) x (addM (ab 1) x x))) (aq (ab 1) m8)
theorem anh (x:Nat):al (cd Ww iA) 1000 212 [oZ,N8 x] []=
  some ([bg (ab 1) (aA (ak (ab 1) 0)) (aO (ab 1)),x<ab 1,x<ab 1,x<4294967296^8,x<4294967296^8,bg (ab 1) (aA (ak (ab 1) 0)) (aO (ab 1)),x<ab 1,addM (ab 1) x x<ab 1,x<4294967296^8,addM (ab 1) x x<4294967296^8,bg (ab 1) (aA (ak (ab 1) 0)) (aO (ab 1)),x<ab 1,x<ab 1,x<4294967296^8,x<4294967296^8,bg (ab 1) (aA (ak (ab 1) 0)) (aO (ab 1)),x<ab 1,ap (ab 1) x x<ab 1,x<4294967296^8,ap (ab 1) x x<4294967296^8,bg (ab 1) (aA (ak (ab 1) 0)) (aO (ab 1)),ap (ab 1) x (ap (ab 1) x x)<ab 1,addM (ab 1) x (addM (ab 1) x x)<ab 1,ap (ab 1) x (ap (ab 1) x x)<4294967296^8,addM (ab 1) x (addM (ab 1) x x)<4294967296^8,bg (ab 1) (aA (ak (ab 1) 0)) (aO (ab 1)),m8<ab 1,m8<4294967296^8,bg (ab 1) (aA (ak (ab 1) 0)) (aO (ab 1)),aw (ab 1) (ap (ab 1) x (ap (ab 1) x x)) (addM (ab 1) x (addM (ab 1) x x))<ab 1,aq (ab 1) m8<ab 1,aw (ab 1) (ap (ab 1) x (ap (ab 1) x x)) (addM (ab 1) x (addM (ab 1) x x))<4294967296^8,aq (ab 1) m8<4294967296^8],.val (N8 (Av x))):=by kernel_rfl
theorem Vj (x:Nat) (hx:x<ab 1):Spec 212 [oZ,N8 x] (.val (N8 (Av x))):=by
 have h0:=rJ
 exact af (aF rD iA) rfl (anh x) (by refine ⟨(aC (by decide)),?_,?_,?_,?_,(aC (by decide)),?_,(ao (ae _)),?_,(L8 (ao (ae _))),(aC (by decide)),?_,?_,?_,?_,(aC (by decide)),?_,(ai (ae _)),?_,(L8 (ai (ae _))),(aC (by decide)),(ai (ae _)),(ao (ae _)),(L8 (ai (ae _))),(L8 (ao (ae _))),(aC (by decide)),?_,?_,(aC (by decide)),(av (ae _)),(au (ae _)),(L8 (av (ae _))),(L8 (au (ae _))),trivial⟩<;>first|with_reducible assumption|with_reducible exact L8 (by with_reducible assumption)|exact decide_eq_true (by omega)|exact decide_eq_false (by omega)|omega) rfl rfl
noncomputable def Ge:List Val→Option (List Prop×AV)
 |[.n m,.n q,.n w,.n x]=>some ([m=ab 1,q=aA (ak (ab 1) 0),w=aO (ab 1),x<ab 1],.val (N8 (Av x)))
 |_=>none
theorem ae2:aU ⟨212,dU [fd,aN] Ge⟩:=jE (by
 intro xs ob r hb h ho
 unfold Ge at h
 split at h
 ·rename_i m q w x
  obtain ⟨rfl,rfl⟩:=sI h
  obtain ⟨e0,e1,e2,h1,_⟩:=ho
  have hS:=Vj x h1
  unfold oZ BP rg at hS
  rw[←e2,←e1,←e0] at hS
  exact hS
 ·simp at h)
noncomputable def PO:List CT:=[⟨143,dU [aN,aN,aN] gPr⟩,⟨209,dU [aN] gSq⟩,⟨212,dU [fd,aN] Ge⟩]++Ww
theorem l7:bw PO:=⟨agh,afD,ae2,rD⟩
def isI (x y:Nat):Bool:=match SH [.num 8 x,.num 8 y,.a (.v (.bool true))] (bp 16 0 zF++[.a (.v (.bool true))]) with|some b=>b|none=>true
theorem O7 {x y:Nat} (hx:x<4294967296^8) (hy:y<4294967296^8):isI x y=(decide (x=0)&&decide (y=0)):=by
 have h1:∃b,SH [.num 8 x,.num 8 y,.a (.v (.bool true))] (bp 16 0 zF++[.a (.v (.bool true))])=some b:=⟨_,rfl⟩
 obtain ⟨b,hb⟩:=h1
 have h2:=ns (φ:=fun _=>(0,0,0)) _ _ hb
 have h3:SH [.num 8 x,.num 8 y,.a (.v (.bool true))] [.num 8 0,.num 8 0,.a (.v (.bool true))]=some (decide (x%4294967296^8=0%4294967296^8)&&(decide (y%4294967296^8=0%4294967296^8)&&(true==true&&true))):=rfl
 have h4:=ns (φ:=fun _=>(0,0,0)) _ _ h3
 rw[show an (fun _=>((0:Nat),(0:Nat),(0:Nat))) [.num 8 0,.num 8 0,.a (.v (.bool true))]=an (fun _=>((0:Nat),(0:Nat),(0:Nat))) (bp 16 0 zF++[.a (.v (.bool true))]) by kernel_rfl] at h4
 rw[h4] at h2
 unfold isI
 rw[hb]
 simp only
 rw[←h2,Nat.mod_eq_of_lt hx,Nat.mod_eq_of_lt hy]
 simp
noncomputable def Wq:FuncId→Nat→Bool:=fun f t=>match f with|178=>bf t [11,16]|_=>false
noncomputable def Wy:FuncId→Nat→Bool:=fun f t=>match f with|88=>bf t [21]|_=>false
def ltW (x y:Nat):Bool:=decide (x<ab 1)&&decide (y<ab 1)
noncomputable def eqW (x y:Nat):Bool:=decide (ap (ab 1) (aq (ab 1) y) (aq (ab 1) y)=Av (aq (ab 1) x))
noncomputable def jC (x y:Nat) (i:Bool):Bool:=bif i then (decide (x=0)&&decide (y=0)) else (ltW x y&&eqW x y)
theorem WX (x:Nat):Wo x=Av (aq (ab 1) x):=by
 unfold Wo Av addM ap fj oM
 rw[Nat.mul_comm (aq (ab 1) x) (_%_),Nat.add_mod_mod,Nat.mod_add_mod]
 rw[show aq (ab 1) x+aq (ab 1) x+aq (ab 1) x=aq (ab 1) x+(aq (ab 1) x+aq (ab 1) x) by omega]
theorem aj2 (x:Nat) (y:Nat):al (cd PO Wq) 1000 178 [P3 x y true] []=
  some ([],bV (isI x y)):=by kernel_rfl
theorem ae3 (x:Nat) (y:Nat):al (cd PO Wq) 1000 178 [P3 x y false] [true,true]=
  some ([fT (1:Int) x=true,x<4294967296^8,fT (1:Int) y=true,y<4294967296^8,(0:Int)≤(1:Int)∧(1:Int)<(4:Int),ab 1<4294967296^8,y<4294967296^8,y<4294967296^8,0<ab 1,x<4294967296^8,x<ab 1],bV (decide (dY (y*y) (ab 1)%4294967296^8=ci (ab 1) (Wo x)%4294967296^8)&&true)):=by kernel_rfl
theorem aiS (x:Nat) (y:Nat):al (cd PO Wq) 1000 178 [P3 x y false] [true,false]=
  some ([fT (1:Int) x=true,x<4294967296^8,fT (1:Int) y=false,y<4294967296^8],bV false):=by kernel_rfl
theorem afq (x:Nat) (y:Nat):al (cd PO Wq) 1000 178 [P3 x y false] [false]=
  some ([fT (1:Int) x=false,x<4294967296^8],bV false):=by kernel_rfl
theorem afZ (x:Nat) (y:Nat):al (cd PO Wy) 1000 211 [P3 x y true] []=
  some ([],bV (isI x y)):=by kernel_rfl
theorem aiL (x:Nat) (y:Nat):al (cd PO Wy) 1000 211 [P3 x y false] [true,true]=
  some ([(0:Int)≤(1:Int)∧(1:Int)<(4:Int),decide (x<ab 1)=true,x<4294967296^8,ab 1<4294967296^8,(0:Int)≤(1:Int)∧(1:Int)<(4:Int),decide (y<ab 1)=true,y<4294967296^8,ab 1<4294967296^8,(0:Int)≤(1:Int)∧(1:Int)<(4:Int),bg (ab 1) (aA (ak (ab 1) 0)) (aO (ab 1)),y<ab 1,y<4294967296^8,bg (ab 1) (aA (ak (ab 1) 0)) (aO (ab 1)),aq (ab 1) y<ab 1,aq (ab 1) y<ab 1,aq (ab 1) y<4294967296^8,aq (ab 1) y<4294967296^8,bg (ab 1) (aA (ak (ab 1) 0)) (aO (ab 1)),x<ab 1,x<4294967296^8,ab 1<4294967296^8,aA (ak (ab 1) 0)<4294967296,aO (ab 1)<4294967296^8,aq (ab 1) x<4294967296^8,ab 1=ab 1,aA (ak (ab 1) 0)=aA (ak (ab 1) 0),aO (ab 1)=aO (ab 1),aq (ab 1) x<ab 1],bV (decide (ap (ab 1) (aq (ab 1) y) (aq (ab 1) y)%4294967296^8=Av (aq (ab 1) x)%4294967296^8)&&true)):=by kernel_rfl
theorem agU (x:Nat) (y:Nat):al (cd PO Wy) 1000 211 [P3 x y false] [true,false]=
  some ([(0:Int)≤(1:Int)∧(1:Int)<(4:Int),decide (x<ab 1)=true,x<4294967296^8,ab 1<4294967296^8,(0:Int)≤(1:Int)∧(1:Int)<(4:Int),decide (y<ab 1)=false,y<4294967296^8,ab 1<4294967296^8],bV false):=by kernel_rfl
theorem ai3 (x:Nat) (y:Nat):al (cd PO Wy) 1000 211 [P3 x y false] [false]=
  some ([(0:Int)≤(1:Int)∧(1:Int)<(4:Int),decide (x<ab 1)=false,x<4294967296^8,ab 1<4294967296^8],bV false):=by kernel_rfl
def E8 (x:Nat):Nat:=addM (ab 1) (aw (ab 1) (bK (ab 1) x (bK (ab 1) x x)) (addM (ab 1) x (addM (ab 1) x x))) m8
theorem pq (x:Nat):E8 x<ab 1:=ao (ae 1)
theorem Be (x:Nat):Av (aq (ab 1) x)=aq (ab 1) (E8 x):=by
 unfold Av E8
 rw[eO (by decide),eO (by decide),gQ,gQ,my (ae 1) (ao (ae 1)),gQ]
theorem AG {x y:Nat}:eqW x y=decide (bK (ab 1) y y=E8 x):=by
 unfold eqW
 rw[Be,eO (by decide),Bool.eq_iff_iff,decide_eq_true_iff,decide_eq_true_iff]
 exact ⟨fun h=>A9 (aj 1) (aK (by decide)) (bi (ae 1)) (pq x) h,fun h=>by rw[h]⟩
theorem Vu (x y:Nat) (i:Bool) (hx:x<4294967296^8) (hy:y<4294967296^8):Spec 178 [P3 x y i] (bV (jC x y i)):=by
 have h0:=rJ
 unfold jC
 cases i with
 |true=>
  rw[cond_true,←O7 hx hy]
  exact af (aF l7 Wq) rfl (aj2 x y) trivial rfl rfl
 |false=>
 rw[cond_false]
 unfold ltW
 cases h1:decide (x<ab 1) with
 |false=>
  have h1':fT 1 x=false:=by rw[HB];exact h1
  rw[Bool.false_and,Bool.false_and]
  exact af (aF l7 Wq) rfl (afq x y) (by refine ⟨?_,?_,trivial⟩<;>first|with_reducible assumption|with_reducible exact L8 (by with_reducible assumption)|exact decide_eq_true (by omega)|exact decide_eq_false (by omega)|omega) rfl rfl
 |true=>
  have h1':fT 1 x=true:=by rw[HB];exact h1
  cases h2:decide (y<ab 1) with
  |false=>
   have h2':fT 1 y=false:=by rw[HB];exact h2
   rw[Bool.and_false,Bool.false_and]
   exact af (aF l7 Wq) rfl (aiS x y) (by refine ⟨?_,?_,?_,?_,trivial⟩<;>first|with_reducible assumption|with_reducible exact L8 (by with_reducible assumption)|exact decide_eq_true (by omega)|exact decide_eq_false (by omega)|omega) rfl rfl
  |true=>
   have h2':fT 1 y=true:=by rw[HB];exact h2
   have hx':=of_decide_eq_true h1
   have hy':=of_decide_eq_true h2
   have hp:=ae 1
   have hm8:=aj 1
   rw[Bool.and_true,Bool.true_and]
   have h:=af (aF l7 Wq) rfl (ae3 x y) (by refine ⟨?_,?_,?_,?_,(by decide),(aj _),?_,?_,(ae _),?_,?_,trivial⟩<;>first|with_reducible assumption|with_reducible exact L8 (by with_reducible assumption)|exact decide_eq_true (by omega)|exact decide_eq_false (by omega)|omega) rfl rfl
   have e1:dY (y*y) (ab 1)=bK (ab 1) y y:=rfl
   have e2:ci (ab 1) (Wo x)=E8 x:=by rw[WX,Be,fi (aj 1) (aK (by decide)) (pq x)]
   rw[e1,e2,nL (L8 (bi hp)) (L8 (pq x))] at h
   rw[AG]
   exact h
theorem R5 (x y:Nat) (i:Bool) (hx:x<4294967296^8) (hy:y<4294967296^8):Spec 211 [P3 x y i] (bV (jC x y i)):=by
 have h0:=rJ
 unfold jC
 cases i with
 |true=>
  rw[cond_true,←O7 hx hy]
  exact af (aF l7 Wy) rfl (afZ x y) trivial rfl rfl
 |false=>
 rw[cond_false]
 unfold ltW
 cases h1:decide (x<ab 1) with
 |false=>
  have h1':mX 1 x=false:=h1
  rw[Bool.false_and,Bool.false_and]
  exact af (aF l7 Wy) rfl (ai3 x y) (by refine ⟨(by decide),?_,?_,(aj _),trivial⟩<;>first|with_reducible assumption|with_reducible exact L8 (by with_reducible assumption)|exact decide_eq_true (by omega)|exact decide_eq_false (by omega)|omega) rfl rfl
 |true=>
  have h1':mX 1 x=true:=h1
  cases h2:decide (y<ab 1) with
  |false=>
   have h2':mX 1 y=false:=h2
   rw[Bool.and_false,Bool.false_and]
   exact af (aF l7 Wy) rfl (agU x y) (by refine ⟨(by decide),?_,?_,(aj _),(by decide),?_,?_,(aj _),trivial⟩<;>first|with_reducible assumption|with_reducible exact L8 (by with_reducible assumption)|exact decide_eq_true (by omega)|exact decide_eq_false (by omega)|omega) rfl rfl
  |true=>
   have h2':mX 1 y=true:=h2
   have hx':=of_decide_eq_true h1
   have hy':=of_decide_eq_true h2
   have hp:=ae 1
   rw[Bool.and_true,Bool.true_and]
   have h:=af (aF l7 Wy) rfl (aiL x y) (by refine ⟨(by decide),?_,?_,(aj _),(by decide),?_,?_,(aj _),(by decide),(aC (by decide)),?_,?_,(aC (by decide)),(au (ae _)),(au (ae _)),(L8 (au (ae _))),(L8 (au (ae _))),(aC (by decide)),?_,?_,(aj _),(bv _),(L8 (du (by decide))),(L8 (au (ae _))),rfl,rfl,rfl,(au (ae _)),trivial⟩<;>first|with_reducible assumption|with_reducible exact L8 (by with_reducible assumption)|exact decide_eq_true (by omega)|exact decide_eq_false (by omega)|omega) rfl rfl
   rw[nL (L8 (ai hp)) (L8 (show Av (aq (ab 1) x)<ab 1 from ao hp))] at h
   exact h
def gOn (b:Nat→Nat→Bool→Bool):List Val→Option (List Prop×AV)
 |[.n x,.n y,.b i]=>some ([],bV (b x y i))
 |_=>none
def qg:Arg:= .s [.n8,.n8,.b]
theorem Vv {f:FuncId} (hf:∀x y i,x<4294967296^8→y<4294967296^8→Spec f [P3 x y i] (bV (jC x y i))):aU ⟨f,dU [qg] (gOn jC)⟩:=jE (by
 intro xs ob r hb h ho
 unfold gOn at h
 split at h
 ·rename_i x y i
  obtain ⟨rfl,rfl⟩:=sI h
  obtain ⟨⟨hx,hy,_⟩,_⟩:=hb
  exact hf x y i hx hy
 ·simp at h)
noncomputable def PU:List CT:=[⟨178,dU [qg] (gOn jC)⟩,⟨211,dU [qg] (gOn jC)⟩]++PO
theorem lT:bw PU:=⟨Vv Vu,Vv R5,l7⟩
def qm (s:ByteArray):ByteArray:=bQ (aZ s).reverse
def t8 (x:Nat):ByteArray:=qm (bQ (rv 32 x))
def gT (s:ByteArray):Nat:=aQ (qm s)
theorem lK (s:ByteArray):(qm s).size=s.size:=by unfold qm;rw[dh,List.length_reverse,mm]
theorem aa' (b:Nat→UInt8):al E0 1000 85 [sS (si 32 b)] []=some ([],.val (sS (bQ ((List.range 32).map fun j=>(b (31-j)).toNat)))):=by kernel_rfl
theorem Mc (f:Nat→Nat):((List.range 32).map f).reverse=(List.range 32).map fun j=>f (31-j):=rfl
theorem VP (s:ByteArray) (h:s.size=32):Spec 85 [sS s] (.val (sS (qm s))):=by
 have e:=oq h
 generalize hb:(fun i=>s.data.getD i 0)=b at e
 have h:=af envE0 rfl (aa' b) trivial rfl rfl
 have h2:bQ ((List.range 32).map fun j=>(b (31-j)).toNat)=qm s:=by
  unfold qm
  rw[e,mc,Mc]
 rw[h2] at h
 exact h.congr (fun φ=>by rw[e]) (fun φ=>rfl)
def Zu (vs:List V1):Option (List Prop×AV):=match vs with|[.one (.v (.string s))]=>some ([s.size=32],.val (sS (qm s)))|_=>none
theorem aje:aU ⟨85,Zu⟩:=by
 intro vs ob r h ho
 simp only[Zu] at h
 split at h
 ·obtain ⟨rfl,rfl⟩:=sI h
  exact VP _ ho.1
 ·simp at h
def fOl (vs:List V1):Option (List Prop×AV):=match vs with|[.one (.v (.string s))]=>some ([s.size=32],.tup [N8 (aQ s),.one (.i 0)])|_=>none
theorem agC:aU ⟨114,fOl⟩:=by
 intro vs ob r h ho
 simp only[fOl] at h
 split at h
 ·obtain ⟨rfl,rfl⟩:=sI h
  exact Wg _ ho.1
 ·simp at h
def fOp (vs:List V1):Option (List Prop×AV):=match vs with|[.one (.v (.string s))]=>some ([s.size=32],.val (N8 (aQ s)))|_=>none
theorem abu:aU ⟨87,fOp⟩:=by
 intro vs ob r h ho
 simp only[fOp] at h
 split at h
 ·obtain ⟨rfl,rfl⟩:=sI h
  exact NJ _ ho.1
 ·simp at h
def xg:List V1→Option (List Prop×AV):=xA fun a=> .val (sS (bQ (rv 32 a)))
theorem SF:aU ⟨86,xg⟩:=fun _ _ _ h ho=>ej (fun a _=>RL a) h ho
noncomputable def LBg:List CT:=[⟨86,xg⟩,⟨85,Zu⟩,⟨114,fOl⟩,⟨87,fOp⟩]
theorem Hl:bw LBg:=⟨SF,aje,agC,abu,trivial⟩
theorem ZO (x:Nat):al (cd LBg iA) 1000 40 [N8 x] []=some ([x<4294967296^8,(bQ (rv 32 x)).size=32],.val (sS (t8 x))):=by kernel_rfl
theorem aaq (u:Nat→Nat):al E0 1000 8 [C8 u] []=some ([],.val (sS (bQ ((List.range 32).map fun j=>KN u (31-j))))):=by kernel_rfl
theorem acs (s:ByteArray):al (cd LBg iA) 1000 64 [sS s] []=some ([s.size=32,(qm s).size=32],.tup [N8 (gT s),.one (.i 0)]):=by kernel_rfl
theorem adl (b:Nat→UInt8):al (cd LBg iA) 1000 41 [sS (si 32 b)] []=some ([(bQ ((List.range 32).map fun j=>(b (31-j)).toNat)).size=32],.val (N8 (aQ (bQ ((List.range 32).map fun j=>(b (31-j)).toNat))))):=by kernel_rfl
theorem DP (n x:Nat):(bQ (rv n x)).size=n:=by rw[dh,fF]
theorem QB (x:Nat) (h:x<4294967296^8):Spec 40 [N8 x] (.val (sS (t8 x))):=af (aF Hl iA) rfl (ZO x) ⟨h,DP 32 x,trivial⟩ rfl rfl
theorem Vt (a:Nat):Spec 8 [N8 a] (.val (sS (t8 a))):=by
 have h:=af envE0 rfl (aaq (ak a)) trivial rfl rfl
 have h2:bQ ((List.range 32).map fun j=>KN (ak a) (31-j))=t8 a:=by
  unfold t8 qm
  rw[Dy _ (aaW 32 a),←qD,Mc]
 rw[h2] at h
 exact h.congr (fun φ=>by simp only[List.map_cons,List.map_nil,c8]) (fun φ=>rfl)
theorem Vx (s:ByteArray) (h:s.size=32):Spec 64 [sS s] (.tup [N8 (gT s),.one (.i 0)]):=af (aF Hl iA) rfl (acs s) ⟨h,by rw[lK,h],trivial⟩ rfl rfl
theorem Ug (s:ByteArray) (h:s.size=32):Spec 41 [sS s] (.val (N8 (gT s))):=by
 have e:=oq h
 generalize hb:(fun i=>s.data.getD i 0)=b at e
 have h2:bQ ((List.range 32).map fun j=>(b (31-j)).toNat)=qm s:=by
  unfold qm
  rw[e,mc,Mc]
 have q:=af (aF Hl iA) rfl (adl b) ⟨by rw[h2,lK,h],trivial⟩ rfl rfl
 rw[h2] at q
 exact q.congr (fun φ=>by rw[e]) (fun φ=>rfl)
end Go.Ev
namespace Go.Ev.H5
open Go Go.Proofs Go.RowKit
theorem Vg (e:TypeId) (h:W8) (s:ByteArray) (c:Nat) (hs:128≤s.size) (hl:s.size≤4611686018427387904) {w:World} {φ:c7} (hm:MRel w φ [tB e] w):
  Calls Tryz.prog 163 (([aV h,sS s,slK c]:List V1).map (V1.conc φ)).toArray w fun x w'=>x= .returned ((AV.val (aV (ss h s))).conc φ)∧Below w.heap.size w w':=by
 obtain ⟨c',m',h'⟩:=mo (r65 e h s c)
 refine rj (TZ e h s c hs hl) rfl h' ⟨rfl,rfl,y6 _ _ _ (oF _) _ _ _,rfl,rfl,NQ _ _ _ _ _ _,trivial⟩ rfl hm ?_
 intro v hv
 simp only[List.mem_cons,List.not_mem_nil,or_false] at hv
 rcases hv with rfl|rfl|rfl<;>rfl
noncomputable def adw (vs:List V1) (bs:List (Option Blk)):Option (List Prop×AV):=
 match vs,bs with
 |[.agg [.a (.u .u64 a),.a (.u .u64 b),.a (.u .u64 c),.a (.u .u64 d),.a (.u .u64 e),.a (.u .u64 f),.a (.u .u64 g),.a (.u .u64 h)],.one (.v (.string s)),.one (.sl _ 0 80 _)],[_,_,some k]=>
  some ([k.ps=eg 80 0 jd,128≤s.size∧s.size≤4611686018427387904],.val (aV (ss ⟨a,b,c,d,e,f,g,h⟩ s)))
 |_,_=>none
theorem Qe {vs:List V1} {mem:List Blk} {ob:List Prop} {r:AV} (h:adw vs (jF mem vs)=some (ob,r)) (ho:cL ob) (w0:World) (φ:c7) (w:World) (hm:MRel w0 φ mem w):
  Calls Tryz.prog 163 (vs.map (V1.conc φ)).toArray w fun e w'=>e= .returned (r.conc φ)∧Below w.heap.size w w':=by
 unfold adw at h
 split at h
 ·rename_i a b c d e f g h8 s bl cp y1 y2 k hbs
  obtain ⟨rfl,rfl⟩:=sI h
  simp only[jF,List.cons.injEq,and_true] at hbs
  obtain ⟨_,_,hb⟩:=hbs
  replace hb:(match mem[bl]? with|some k=>(match k.live with|true=>some k|false=>none)|none=>none)=some k:=hb
  split at hb
  ·rename_i k' hk
   split at hb
   ·rename_i hl
    simp only[Option.some.injEq] at hb
    subst hb
    obtain ⟨hps,⟨h1,h2⟩,_⟩:=ho
    have hw:=hm.window hk hl (fun f=>by rw[hps];exact dV _ f _ _)
    rw[hps] at hw
    have:=Vg k'.elem ⟨a,b,c,d,e,f,g,h8⟩ s cp h1 h2 hw
    simpa[aV,W8.cells,sS,slK,V1.conc,Atom.conc,AV.conc,an,Piece.conc] using this
   ·simp at hb
  ·simp at hb
 ·simp at h
noncomputable def fm5:FuncId→List V1→List (Option Blk)→Option (List Prop×AV):=fun f vs bs=>match f with|163=>adw vs bs|_=>none
theorem XL:∀f vs mem ob r,fm5 f vs (jF mem vs)=some (ob,r)→cL ob→∀w0 φ w,MRel w0 φ mem w→Calls Tryz.prog f (vs.map (V1.conc φ)).toArray w fun e w'=>e= .returned (r.conc φ)∧Below w.heap.size w w':=by
 intro f vs mem ob r h ho w0 φ w hm
 unfold fm5 at h
 split at h
 ·exact Qe h ho w0 φ w hm
 ·simp at h
def zs (n:Nat):ByteArray:=bQ (List.replicate n 0)
theorem i9 (n:Nat):(zs n).size=n:=by unfold zs;rw[dh,List.length_replicate]
noncomputable def E21:Env:={E0 with S:=fun f t=>match f with|7=>bf t [2000004,2000005]|_=>false}
theorem aa1:EnvOK E21:=⟨mixed,envE0.fns,envE0.fms,envE0.lps,envE0.fbs⟩
theorem YW (z:Int):al E21 1000 7 [.one (.i z)] []=some ([0≤z∧z=z∧z≤140737488355328,0=0∧z.toNat=(List.replicate z.toNat 0).length],.val (sS (zs z.toNat))):=by kernel_rfl
def DO (vs:List V1):Option (List Prop×AV):=
 match vs with
 |[.one (.i z)]=>some ([0≤z∧z≤1000000],.val (sS (zs z.toNat)))
 |_=>none
theorem B3:aU ⟨7,DO⟩:=by
 intro vs ob r h ho
 simp only[DO] at h
 split at h
 ·rename_i z
  obtain ⟨rfl,rfl⟩:=sI h
  have h1:=ho.1
  exact af aa1 rfl (YW z) ⟨by omega,⟨rfl,by simp⟩,trivial⟩ rfl rfl
 ·simp at h
def gu (x:Nat):List Nat:=[x/2^56%256,x/2^48%256,x/2^40%256,x/2^32%256,x/2^24%256,x/2^16%256,x/2^8%256,x/2^0%256]
def s8 (x:Nat):Nat:=x/2^8
theorem aeN (x:Nat):al E0 1000 23 [u64 x] []=some ([],.val (sS (bQ [s8 (s8 (s8 (s8 (s8 (s8 (s8 x))))))%256,s8 (s8 (s8 (s8 (s8 (s8 x)))))%256,s8 (s8 (s8 (s8 (s8 x))))%256,s8 (s8 (s8 (s8 x)))%256,s8 (s8 (s8 x))%256,s8 (s8 x)%256,s8 x%256,x%256]))):=by kernel_rfl
theorem Tk (x:Nat):[s8 (s8 (s8 (s8 (s8 (s8 (s8 x))))))%256,s8 (s8 (s8 (s8 (s8 (s8 x)))))%256,s8 (s8 (s8 (s8 (s8 x))))%256,s8 (s8 (s8 (s8 x)))%256,s8 (s8 (s8 x))%256,s8 (s8 x)%256,s8 x%256,x%256]=gu x:=by
 unfold s8 gu
 simp only[Nat.div_div_eq_div_mul,←Nat.pow_add,Nat.reduceAdd,Nat.pow_zero,Nat.div_one]
def bm (x:Nat):ByteArray:=bQ (gu x)
theorem acO (x:Nat):Spec 23 [u64 x] (.val (sS (bm x))):=by
 have h:=af envE0 rfl (aeN x) trivial rfl rfl
 rw[Tk] at h
 exact h
def qk (vs:List V1):Option (List Prop×AV):=
 match vs with
 |[.one (.u .u64 x)]=>some ([],.val (sS (bm x)))
 |_=>none
theorem Jn:aU ⟨23,qk⟩:=by
 intro vs ob r h _
 simp only[qk] at h
 split at h
 ·obtain ⟨_,rfl⟩:=sI h
  exact acO _
 ·simp at h
def BT:W8:=⟨7640891576956012808,13503953896175478587,4354685564936845355,11912009170470909681,5840696475078001361,11170449401992604703,2270897969802886507,6620516959819538809⟩
theorem r94:al E0 1000 204 [] []=some ([],.val (aV BT)):=by kernel_rfl
theorem r64:al E0 1000 155 [] []=some ([],.val (aV BT)):=by kernel_rfl
theorem agE:aU ⟨204,cV (.val (aV BT))⟩:=tG (af envE0 rfl r94 trivial rfl rfl)
theorem an6:aU ⟨155,cV (.val (aV BT))⟩:=tG (af envE0 rfl r64 trivial rfl rfl)
noncomputable def L34:List CT:=[⟨7,DO⟩,⟨23,qk⟩,⟨204,cV (.val (aV BT))⟩,⟨155,cV (.val (aV BT))⟩]
theorem acD:bw L34:=⟨B3,Jn,agE,an6,trivial⟩
noncomputable def S34:FuncId→Nat→Bool:=fun f t=>match f with|106=>bf t [13,16,19,21,26,31,38,39,33,51]|_=>false
noncomputable def E34:Env:=mkF L34 fm5 S34
theorem Gf:EnvOK E34:=MJ acD XL S34
def Bc (F:ByteArray) (i:Int):List AV:=bt 53 [(0,.val (sS F)),(3,.val (.one (.sl 0 0 80 80))),(5,pV 1),(6,iV i)]
def kB:Blk:=⟨eg 80 0 jd,50,true,false,0⟩
def xF (h:W8):List Blk:=[kB,hB h]
theorem alG (h:W8) (F:ByteArray) (i:Nat):aH E34 1000 (Env.S E34 106) (ah Tryz.prog 106 6) (Bc F (↑i:Int)) (xF h) [true] (Bc F ((↑i:Int)+(128:Int))) 2=
  some ([decide ((↑i:Int)<(↑(ByteArray.size F):Int))=true,br ((↑i:Int)+(128:Int)),(0:Int)≤(↑i:Int)+(128:Int)∧(↑i:Int)+(128:Int)≤(↑(ByteArray.size F):Int),(0:Int)≤(↑i:Int)∧(↑i:Int)≤(↑(Int.toNat ((↑i:Int)+(128:Int))):Int),Piece.a (Atom.u IntKind.u64 (jd 0))::eg (79) (0+1) jd=Piece.a (Atom.u IntKind.u64 (jd 0))::eg (79) (0+1) jd,128≤ByteArray.size (ByteArray.extract F i (Int.toNat ((↑i:Int)+(128:Int))))∧ByteArray.size (ByteArray.extract F i (Int.toNat ((↑i:Int)+(128:Int))))≤4611686018427387904,br ((↑i:Int)+(128:Int))],.normal,Bc F ((i:Int)+128),xF (ss h (F.extract i (i+128)))):=by kernel_rfl
theorem alI (h:W8) (F:ByteArray) (i:Nat):aH E34 1000 (Env.S E34 106) (ah Tryz.prog 106 6) (Bc F (↑i:Int)) (xF h) [false] (Bc F (↑i:Int)) 2=
  some ([decide ((↑i:Int)<(↑(ByteArray.size F):Int))=false],(.exit 0),Bc F (i:Int),xF h):=by kernel_rfl
def x80:ByteArray:=⟨#[128]⟩
def tS (n:Nat):Int:=Int.tmod (239-Int.tmod (n:Int) 128) 128
def Ds (n:Nat):Nat:=8*((n:Int)%18446744073709551616).toNat%t4
noncomputable def eJ (s:ByteArray):ByteArray:=(((s++x80)++zs (tS s.size).toNat)++zs 8)++bm (Ds s.size)
noncomputable def J0 (h:W8):ByteArray:=(((((((⟨#[]⟩++bm h.a)++bm h.b)++bm h.c)++bm h.d)++bm h.e)++bm h.f)++bm h.g)++bm h.h
noncomputable def ahR (s:ByteArray) (n:Int) (h:W8):Env:=fY E34 6 (ah Tryz.prog 106 6) (fo (Bc (eJ s) ((0:Nat):Int)) (xF BT) (Bc (eJ s) n) (xF h) (.exit 0))
theorem r34 (s:ByteArray) (n:Int) (h:W8):al (ahR s n h) 1000 106 [sS s] []=
  some ([s.size+x80.size≤9223372036854775807,br (239-Int.tmod (s.size:Int) 128),0≤tS s.size∧tS s.size≤1000000,(s++x80).size+(zs (tS s.size).toNat).size≤9223372036854775807,(0:Int)≤8∧(8:Int)≤1000000,
   ((s++x80)++zs (tS s.size).toNat).size+(zs 8).size≤9223372036854775807,(((s++x80)++zs (tS s.size).toNat)++zs 8).size+(bm (Ds s.size)).size≤9223372036854775807,
   ah Tryz.prog 106 6=ah Tryz.prog 106 6,(Bc (eJ s) ((0:Nat):Int),xF BT)=(Bc (eJ s) ((0:Nat):Int),xF BT),dl (Bc (eJ s) ((0:Nat):Int)) (xF BT)=true,
   (⟨#[]⟩:ByteArray).size+(bm h.a).size≤9223372036854775807,(⟨#[]⟩++bm h.a:ByteArray).size+(bm h.b).size≤9223372036854775807,((⟨#[]⟩++bm h.a)++bm h.b:ByteArray).size+(bm h.c).size≤9223372036854775807,
   (((⟨#[]⟩++bm h.a)++bm h.b)++bm h.c:ByteArray).size+(bm h.d).size≤9223372036854775807,((((⟨#[]⟩++bm h.a)++bm h.b)++bm h.c)++bm h.d:ByteArray).size+(bm h.e).size≤9223372036854775807,
   (((((⟨#[]⟩++bm h.a)++bm h.b)++bm h.c)++bm h.d)++bm h.e:ByteArray).size+(bm h.f).size≤9223372036854775807,((((((⟨#[]⟩++bm h.a)++bm h.b)++bm h.c)++bm h.d)++bm h.e)++bm h.f:ByteArray).size+(bm h.g).size≤9223372036854775807,
   (((((((⟨#[]⟩++bm h.a)++bm h.b)++bm h.c)++bm h.d)++bm h.e)++bm h.f)++bm h.g:ByteArray).size+(bm h.h).size≤9223372036854775807],.val (sS (J0 h))):=by kernel_rfl
theorem f5 (x:Nat):(bm x).size=8:=by unfold bm;rw[dh];rfl
theorem ll:x80.size=1:=rfl
theorem uv:(⟨#[]⟩:ByteArray).size=0:=rfl
theorem BC (n:Nat):tS n=(((239-n%128)%128:Nat):Int):=by
 unfold tS
 have e1:Int.tmod (n:Int) 128=((n%128:Nat):Int):=by
  rw[Int.tmod_eq_emod_of_nonneg (by omega)];omega
 rw[e1,Int.tmod_eq_emod_of_nonneg (by omega)];omega
def GA (n:Nat):Nat:=(n+144)/128
theorem l6 (s:ByteArray):(eJ s).size=128*GA s.size:=by
 unfold eJ GA
 simp only[ByteArray.size_append,f5,i9,ll,BC,Int.toNat_natCast]
 omega
noncomputable def il (F:ByteArray):Nat→W8
 |0=>BT
 |j+1=>ss (il F j) (F.extract (128*j) (128*j+128))
noncomputable def cK (s:ByteArray):ByteArray:=J0 (il (eJ s) (GA s.size))
theorem Nq (h:W8):∀b∈xF h,er b:=by
 intro b hb
 simp only[xF,List.mem_cons,List.not_mem_nil,or_false] at hb
 rcases hb with rfl|rfl
 ·exact fun f=>dV _ f _ _
 ·exact i4 _
theorem uw (h:W8):(xF h).length=2:=by simp only[xF,List.length_cons,List.length_nil]
theorem YO (F:ByteArray) (h:W8) (i:Int):dl (Bc F i) (xF h)=true:=cc (Nq h) (by rw[uw];kernel_rfl)
theorem acL (F:ByteArray) (h:W8) (j:Nat) (h1:128*j+128≤F.size) (h2:F.size≤1000000000000000):Goes Tryz.prog (ah Tryz.prog 106 6) .normal (Bc F ((128*j:Nat):Int)) (xF h) (Bc F ((128*(j+1):Nat):Int)) (xF (ss h (F.extract (128*j) (128*j+128)))):=by
 have hr:=alG h F (128*j)
 rw[show Int.toNat (((128*j:Nat):Int)+128)=128*j+128 by omega] at hr
 rw[show ((128*(j+1):Nat):Int)=((128*j:Nat):Int)+128 by omega]
 have hz:=fM F (128*j) (128*j+128) h1
 exact Runs.goes Gf ⟨_,_,hr,⟨decide_eq_true (by omega),by unfold br;omega,by omega,by omega,rfl,by omega,by unfold br;omega,trivial⟩,YO _ _ _⟩
theorem X0 (F:ByteArray) (n:Nat) (hn:F.size=128*n) (h2:F.size≤1000000000000000) (V:Nat→W8) (hV:∀j,V (j+1)=ss (V j) (F.extract (128*j) (128*j+128))):
  Goes Tryz.prog (.loop (ah Tryz.prog 106 6)) (.exit 0) (Bc F ((128*0:Nat):Int)) (xF (V 0)) (Bc F ((128*n:Nat):Int)) (xF (V n)):=by
 refine bJ (N:=n) (k:=2) (T:=fun j=>Bc F ((128*j:Nat):Int)) (M:=fun j=>xF (V j)) (by simp) (fun _ _=>uw _) (fun j hj=> ?_) ?_
 ·have:=acL F (V j) j (by omega) h2
  rw[←hV j] at this
  exact this
 ·exact Runs.goes Gf ⟨_,_,alI (V n) F (128*n),⟨decide_eq_false (by omega),trivial⟩,YO _ _ _⟩
theorem aab (s:ByteArray) (h2:s.size≤100000000000000):Goes Tryz.prog (.loop (ah Tryz.prog 106 6)) (.exit 0) (Bc (eJ s) ((0:Nat):Int)) (xF BT) (Bc (eJ s) ((128*GA s.size:Nat):Int)) (xF (il (eJ s) (GA s.size))):=
 X0 (eJ s) (GA s.size) (l6 s) (by rw[l6];unfold GA;omega) (il (eJ s)) (fun _=>rfl)
theorem UR (s:ByteArray) (h2:s.size≤100000000000000):EnvOK (ahR s ((128*GA s.size:Nat):Int) (il (eJ s) (GA s.size))):=da Gf (bz (by rw[uw,uw]) (aab s h2))
theorem Qz (s:ByteArray) (h2:s.size≤100000000000000):Spec 106 [sS s] (.val (sS (cK s))):=by
 have hz:=BC s.size
 refine af (UR s h2) rfl (r34 s _ _) ⟨?_,?_,?_,?_,by decide,?_,?_,rfl,rfl,YO _ _ _,?_,?_,?_,?_,?_,?_,?_,?_,trivial⟩ rfl rfl
 ·rw[ll];omega
 ·rw[Int.tmod_eq_emod_of_nonneg (by omega)];unfold br;omega
 ·omega
 all_goals (simp only[ByteArray.size_append,f5,i9,ll,uv];omega)
noncomputable def FA (vs:List V1):Option (List Prop×AV):=
 match vs with
 |[.one (.v (.string s))]=>some ([s.size≤100000000000000],.val (sS (cK s)))
 |_=>none
theorem aiP:aU ⟨106,FA⟩:=by
 intro vs ob r h ho
 simp only[FA] at h
 split at h
 ·obtain ⟨rfl,rfl⟩:=sI h
  exact Qz _ ho.1
 ·simp at h
theorem Kq (h:W8):(J0 h).size=64:=by
 unfold J0
 simp only[ByteArray.size_append,f5,uv]
theorem eu (s:ByteArray):(cK s).size=64:=Kq _
def Ri (T0:List AV) (M0:List Blk) (TF:List AV) (MF:List Blk) (ex:Ex):List AV→List Blk→List Bool→E7:=fun tm mem c=>
 some ([(kt T0 tm,mem)=(T0,M0),dl T0 M0=true],c,ex,TF,MF)
theorem IO {P:Program} {y:Code} {T0 TF:List AV} {M0 MF:List Blk} {ex:Ex} (hl:M0.length≤MF.length) (h:Goes P (.loop y) ex T0 M0 TF MF):pa P (.loop y) (Ri T0 M0 TF MF ex):=by
 intro tm mem c ob c' ex' tm' mem' hf ho w0 φ a w hr Q hQ
 simp only[Ri,Option.some.injEq,Prod.mk.injEq] at hf
 obtain ⟨rfl,rfl,rfl,rfl,rfl⟩:=hf
 obtain ⟨h1,h2,_⟩:=ho
 obtain ⟨h1,rfl⟩:=h1
 refine h w0 φ a w (hr.fit (ra (by rw[h1,List.take_length]) h2)) Q ?_
 intro φ' a' w' hag hr'
 exact hQ φ' a' w' hag hl hr'
def slX (b n:Nat):AV:= .val (.one (.sx b n))
def dB (l:List Nat):Blk:=⟨[.arr .u8 l],5,false,false,1⟩
def aB (l:List Nat):Blk:=⟨[.arr .u8 l],5,true,false,1⟩
def oB (x:Nat):Blk:=⟨[.a (.u .u8 x)],5,true,false,0⟩
def rQ (s:ByteArray) (b n:Nat):List AV:=bt 28 [(0,.val (sS s)),(3,slX b n)]
noncomputable def S95:FuncId→Nat→Bool:=fun f t=>match f with|205=>bf t [2000006,2000008,12,2000015,2000026,2000027,9000000]|_=>false
noncomputable def E95:Env:={E0 with S:=S95}
theorem He:EnvOK E95:=⟨mixed,envE0.fns,envE0.fms,envE0.lps,envE0.fbs⟩
theorem anj (s:ByteArray) (l:List Nat) (n:Nat):aH E95 1000 (Env.S E95 205) (ah Tryz.prog 205 2) (rQ s 2 n) [dB (aZ s),oB 128,aB l] [true] (rQ s 4 (n+1)) 5=
  some ([(!decide (Int.ofNat (n%128)=(112:Int)))=true,n=List.length l∧0<1∧(n+1)*1≤140737488355328∧n+1≤140737488355328],.normal,rQ s 4 (n+1),[dB (aZ s),oB 128,dB l,oB 0,aB (l++[0])]):=by kernel_rfl
theorem an5 (s:ByteArray) (l:List Nat) (n:Nat):aH E95 1000 (Env.S E95 205) (ah Tryz.prog 205 2) (rQ s 2 n) [dB (aZ s),oB 128,aB l] [false] (rQ s 2 n) 3=
  some ([(!decide (Int.ofNat (n%128)=(112:Int)))=false],(.exit 0),rQ s 2 n,[dB (aZ s),oB 128,aB l]):=by kernel_rfl
theorem acv {n:Nat} (h:n%128≠112):(!decide (Int.ofNat (n%128)=(112:Int)))=true:=by
 have:Int.ofNat (n%128)≠(112:Int):=by simp only[Int.ofNat_eq_natCast];omega
 rw[decide_eq_false this];rfl
theorem ad0 {n:Nat} (h:n%128=112):(!decide (Int.ofNat (n%128)=(112:Int)))=false:=by
 have:Int.ofNat (n%128)=(112:Int):=by simp only[Int.ofNat_eq_natCast];omega
 rw[decide_eq_true this];rfl
theorem WB (s:ByteArray) (l:List Nat):∀b∈[dB (aZ s),oB 128,aB l],er b:=by
 intro b hb
 simp only[List.mem_cons,List.not_mem_nil,or_false] at hb
 rcases hb with rfl|rfl|rfl<;>exact fun _=>rfl
theorem Wk (s:ByteArray) (l:List Nat):∀b∈[dB (aZ s),oB 128,dB l,oB 0,aB (l++[0])],er b:=by
 intro b hb
 simp only[List.mem_cons,List.not_mem_nil,or_false] at hb
 rcases hb with rfl|rfl|rfl|rfl|rfl<;>exact fun _=>rfl
theorem Xe (s:ByteArray) (l:List Nat):∀b∈[dB (aZ s),oB 128,dB [],aB l],er b:=by
 intro b hb
 simp only[List.mem_cons,List.not_mem_nil,or_false] at hb
 rcases hb with rfl|rfl|rfl|rfl<;>exact fun _=>rfl
theorem GW (s:ByteArray) (l:List Nat) (n:Nat):dl (rQ s 2 n) [dB (aZ s),oB 128,aB l]=true:=cc (WB s l) (by show cw 3 _=true;kernel_rfl)
theorem acC (s:ByteArray) (l:List Nat) (n:Nat):dl (rQ s 4 n) [dB (aZ s),oB 128,dB l,oB 0,aB (l++[0])]=true:=cc (Wk s l) (by show cw 5 _=true;kernel_rfl)
theorem adV (s:ByteArray) (l:List Nat) (n:Nat):dl (rQ s 3 n) [dB (aZ s),oB 128,dB [],aB l]=true:=cc (Xe s l) (by show cw 4 _=true;kernel_rfl)
theorem aic (s:ByteArray) (b b' n:Nat):Nn 2 b b' (rQ s b n) (rQ s b' n):=by
 show Nn 2 b b' [_,.junk,.junk,_,.junk,.junk,.junk,.junk,.junk,.junk,.junk,.junk,.junk,.junk,.junk,.junk,.junk,.junk,.junk,.junk,.junk,.junk,.junk,.junk,.junk,.junk,.junk,.junk] [_,.junk,.junk,_,.junk,.junk,.junk,.junk,.junk,.junk,.junk,.junk,.junk,.junk,.junk,.junk,.junk,.junk,.junk,.junk,.junk,.junk,.junk,.junk,.junk,.junk,.junk,.junk]
 simp only[Nn,and_true,true_or,true_and]
 exact ⟨.inr (.inl rfl),.inr (.inr ⟨n,rfl,rfl⟩)⟩
set_option maxRecDepth 100000 in
theorem adN (s:ByteArray) (l:List Nat) (n:Nat) (hn:n=l.length) (h:n%128≠112) (hb:n+1≤140737488355328):
  GoesK Tryz.prog 2 (ah Tryz.prog 205 2) .normal (rQ s 2 n) [dB (aZ s),oB 128,aB l] (rQ s 2 (n+1)) [dB (aZ s),oB 128,aB (l++[0])]:=by
 have h1:Goes Tryz.prog (ah Tryz.prog 205 2) .normal (rQ s 2 n) [dB (aZ s),oB 128,aB l] (rQ s 4 (n+1)) [dB (aZ s),oB 128,dB l,oB 0,aB (l++[0])]:=Runs.goes He ⟨_,_,anj s l n,⟨acv h,⟨hn,by decide,by omega,hb⟩,trivial⟩,acC _ _ _⟩
 refine (h1.toK (K:=2) (by simp only[List.length_cons,List.length_nil];omega)).move (b:=4) (b':=2) (aic s 4 2 (n+1)) (by omega) (by omega) ?_ (GW _ _ _)
 intro i k hk hl
 match i,hk with
 |0,hk=>simp only[List.getElem?_cons_zero,Option.some.injEq] at hk;subst hk;exact absurd hl (by simp[dB])
 |1,hk=>simp only[List.getElem?_cons_succ,List.getElem?_cons_zero,Option.some.injEq] at hk;subst hk;exact ⟨fun _=>rfl,.inl ⟨by omega,rfl⟩⟩
 |2,hk=>simp only[List.getElem?_cons_succ,List.getElem?_cons_zero,Option.some.injEq] at hk;subst hk;exact ⟨fun _=>rfl,.inr ⟨rfl,by omega,rfl⟩⟩
 |i+3,hk=>simp at hk
set_option maxRecDepth 100000 in
theorem Ye (s:ByteArray) (l:List Nat) (z:Nat) (hz:∀j,j<z→(l.length+j)%128≠112) (h:(l.length+z)%128=112) (hb:l.length+z≤140737488355328):
  Goes Tryz.prog (.loop (ah Tryz.prog 205 2)) (.exit 0) (rQ s 2 l.length) [dB (aZ s),oB 128,aB l] (rQ s 3 (l.length+z)) [dB (aZ s),oB 128,dB [],aB (l++List.replicate z 0)]:=by
 have hK:GoesK Tryz.prog 2 (.loop (ah Tryz.prog 205 2)) (.exit 0) (rQ s 2 (l.length+0)) [dB (aZ s),oB 128,aB (l++List.replicate 0 0)] (rQ s 2 (l.length+z)) [dB (aZ s),oB 128,aB (l++List.replicate z 0)]:=by
  refine wH (N:=z) (T:=fun j=>rQ s 2 (l.length+j)) (M:=fun j=>[dB (aZ s),oB 128,aB (l++List.replicate j 0)]) (by simp) (fun j hj=> ?_) ?_
  ·have:=adN s (l++List.replicate j 0) (l.length+j) (by simp) (hz j hj) (by omega)
   rw[List.append_assoc,←List.replicate_succ'] at this
   exact this
  ·have h2:Goes Tryz.prog (ah Tryz.prog 205 2) (.exit 0) (rQ s 2 (l.length+z)) [dB (aZ s),oB 128,aB (l++List.replicate z 0)] (rQ s 2 (l.length+z)) [dB (aZ s),oB 128,aB (l++List.replicate z 0)]:=Runs.goes He ⟨_,_,an5 s (l++List.replicate z 0) (l.length+z),⟨ad0 h,trivial⟩,GW _ _ _⟩
   exact h2.toK (by simp only[List.length_cons,List.length_nil];omega)
 rw[List.replicate_zero,List.append_nil,Nat.add_zero] at hK
 refine GoesK.goes (K:=3) (hK.move (b:=2) (b':=3) (aic s 2 3 (l.length+z)) (by omega) (by omega) ?_ (adV _ _ _)) (by simp only[List.length_cons,List.length_nil])
 intro i k hk hl
 match i,hk with
 |0,hk=>simp only[List.getElem?_cons_zero,Option.some.injEq] at hk;subst hk;exact absurd hl (by simp[dB])
 |1,hk=>simp only[List.getElem?_cons_succ,List.getElem?_cons_zero,Option.some.injEq] at hk;subst hk;exact ⟨fun _=>rfl,.inl ⟨by omega,rfl⟩⟩
 |2,hk=>simp only[List.getElem?_cons_succ,List.getElem?_cons_zero,Option.some.injEq] at hk;subst hk;exact absurd hl (by simp[dB])
 |3,hk=>simp only[List.getElem?_cons_succ,List.getElem?_cons_zero,Option.some.injEq] at hk;subst hk;exact ⟨fun _=>rfl,.inr ⟨rfl,by omega,rfl⟩⟩
 |i+4,hk=>simp at hk
noncomputable def ahU (s:ByteArray) (n m:Nat) (l l':List Nat):Env:=fY E95 1002 (ah Tryz.prog 205 2) (Ri (rQ s 2 n) [dB (aZ s),oB 128,aB l] (rQ s 3 m) [dB (aZ s),oB 128,dB [],aB l'] (.exit 0))
def iO (n:Nat):Nat:=((n:Int)%18446744073709551616).toNat
def Db (n:Nat):List Nat:=gu (iO n/2^61)++gu (iO n*2^3%t4)
set_option maxRecDepth 100000 in
theorem r95 (s:ByteArray) (m:Nat) (l':List Nat):al (ahU s (s.size+1) m (aZ s++[128]) l') 1000 205 [sS s] []=
  some ([s.size≤140737488355328,s.size=(aZ s).length∧0<1∧(s.size+1)*1≤140737488355328∧s.size+1≤140737488355328,ah Tryz.prog 205 2=ah Tryz.prog 205 2,
   (rQ s 2 (s.size+1),[dB (aZ s),oB 128,aB (aZ s++[128])])=(rQ s 2 (s.size+1),[dB (aZ s),oB 128,aB (aZ s++[128])]),dl (rQ s 2 (s.size+1)) [dB (aZ s),oB 128,aB (aZ s++[128])]=true,
   m=l'.length∧0<16∧(m+16)*1≤140737488355328∧m+16≤140737488355328,0=0∧m+16=(l'++Db s.size).length],.val (sS (bQ (l'++Db s.size)))):=by kernel_rfl
theorem P0 (s:ByteArray) (l:List Nat) (z:Nat) (hz:∀j,j<z→(l.length+j)%128≠112) (h:(l.length+z)%128=112) (hb:l.length+z≤140737488355328):EnvOK (ahU s l.length (l.length+z) l (l++List.replicate z 0)):=
 da He (IO (by simp only[List.length_cons,List.length_nil];omega) (Ye s l z hz h hb))
theorem lC (s:ByteArray):(aZ s).length=s.size:=by simp[aZ]
theorem dT (a b:List Nat):bQ (a++b)=bQ a++bQ b:=by
 apply ByteArray.ext
 rw[ByteArray.data_append]
 unfold bQ
 simp
theorem EL:gu 0=List.replicate 8 0:=by decide
theorem Td (s:ByteArray) (h:s.size≤100000000000000):bQ (((aZ s++[128])++List.replicate (tS s.size).toNat 0)++Db s.size)=eJ s:=by
 have e1:iO s.size=s.size:=by unfold iO;omega
 have e2:iO s.size/2^61=0:=by rw[e1];exact Nat.div_eq_of_lt (by omega)
 have e3:iO s.size*2^3%t4=Ds s.size:=by unfold Ds;show iO s.size*2^3%t4=8*iO s.size%t4;rw[show iO s.size*2^3=8*iO s.size by omega]
 unfold Db eJ
 rw[e2,e3,EL]
 rw[dT,dT,dT,dT,nB,←ByteArray.append_assoc]
 rfl
theorem adq (s:ByteArray) (h:s.size≤100000000000000):Spec 205 [sS s] (.val (sS (eJ s))):=by
 rw[←Td s h]
 have hl:(aZ s++[128]).length=s.size+1:=by rw[List.length_append,lC];rfl
 have hp:=BC s.size
 have hE:=P0 s (aZ s++[128]) (tS s.size).toNat (by rw[hl];intro j hj;omega) (by rw[hl];omega) (by rw[hl];omega)
 rw[hl] at hE
 have hlen:((aZ s++[128])++List.replicate (tS s.size).toNat 0).length=s.size+1+(tS s.size).toNat:=by rw[List.length_append,hl,List.length_replicate]
 have h16:(Db s.size).length=16:=rfl
 refine af hE rfl (r95 s _ _) ⟨by omega,⟨(lC s).symm,by decide,by omega,by omega⟩,rfl,rfl,GW _ _ _,⟨hlen.symm,by decide,by omega,by omega⟩,⟨rfl,?_⟩,trivial⟩ rfl rfl
 rw[List.length_append,hlen,h16]
noncomputable def Yk (vs:List V1):Option (List Prop×AV):=
 match vs with
 |[.one (.v (.string s))]=>some ([s.size≤100000000000000],.val (sS (eJ s)))
 |_=>none
theorem anD:aU ⟨205,Yk⟩:=by
 intro vs ob r h ho
 simp only[Yk] at h
 split at h
 ·obtain ⟨rfl,rfl⟩:=sI h
  exact adq _ ho.1
 ·simp at h
noncomputable def L54:List CT:=[⟨204,cV (.val (aV BT))⟩,⟨205,Yk⟩,⟨206,Pm⟩]
theorem XI:bw L54:=⟨agE,anD,amu,trivial⟩
noncomputable def S54:FuncId→Nat→Bool:=fun f t=>match f with|170=>bf t [8,13,10,9000000]|_=>false
noncomputable def E54:Env:=cd L54 S54
theorem Hg:EnvOK E54:=aF XI _
def An (F:ByteArray):List AV:=bt 18 [(0,.val (sS F)),(3,pV 0)]
theorem anS (h:W8) (F:ByteArray):aH E54 1000 (Env.S E54 170) (ah Tryz.prog 170 3) (An F) [hB h] [true] (An (ByteArray.extract F 128 (ByteArray.size F))) 1=
  some ([(!ByteArray.toList F==ByteArray.toList (ByteArray.mk #[]))=true,(0:Int)≤(128:Int)∧(128:Int)≤(↑(ByteArray.size F):Int),128≤ByteArray.size (ByteArray.extract F 0 128)∧ByteArray.size (ByteArray.extract F 0 128)≤4611686018427387904,(0:Int)≤(128:Int)∧(128:Int)≤(↑(ByteArray.size F):Int)],.normal,An (F.extract 128 F.size),[hB (ss h (F.extract 0 128))]):=by kernel_rfl
theorem apV (h:W8) (F:ByteArray):aH E54 1000 (Env.S E54 170) (ah Tryz.prog 170 3) (An F) [hB h] [false] (An F) 1=
  some ([(!ByteArray.toList F==ByteArray.toList (ByteArray.mk #[]))=false],(.exit 0),An F,[hB h]):=by kernel_rfl
def ab2 (h:W8):ByteArray:=bQ (gu h.a++gu h.b++gu h.c++gu h.d++gu h.e++gu h.f++gu h.g++gu h.h)
noncomputable def afF (s G:ByteArray) (h:W8):Env:=fY E54 1003 (ah Tryz.prog 170 3) (fo (An (eJ s)) [hB BT] (An G) [hB h] (.exit 0))
theorem r54 (s:ByteArray) (G:ByteArray) (h:W8):al (afF s G h) 1000 170 [sS s] []=
  some ([ByteArray.size s≤100000000000000,ah Tryz.prog 170 3=ah Tryz.prog 170 3,(An (eJ s),[hB BT])=(An (eJ s),[hB BT]),dl (An (eJ s)) [hB BT]=true],.val (sS (ab2 h))):=by kernel_rfl
theorem Yz (F:ByteArray) (h:W8):dl (An F) [hB h]=true:=cc (by
 intro b hb
 simp only[List.mem_cons,List.not_mem_nil,or_false] at hb
 subst hb
 exact i4 _) (by show cw 1 _=true;kernel_rfl)
theorem toList_inj {a b:ByteArray} (h:a.toList=b.toList):a=b:=by
 rw[ByteArray.toList_eq,ByteArray.toList_eq] at h
 exact ByteArray.ext (Array.ext' h)
theorem EC {F:ByteArray} (h:0<F.size):(!(F.toList==(⟨#[]⟩:ByteArray).toList))=true:=by
 rw[Bool.not_eq_true',beq_eq_false_iff_ne]
 intro e
 rw[toList_inj e] at h
 exact absurd h (by decide)
theorem Kk {F:ByteArray} (h:F.size=0):F=⟨#[]⟩:=by
 apply ByteArray.ext
 exact Array.eq_empty_of_size_eq_zero h
theorem Dt {F:ByteArray} (h:F.size=0):(!(F.toList==(⟨#[]⟩:ByteArray).toList))=false:=by
 rw[Kk h];simp
theorem ut (F:ByteArray) (a b c:Nat) (h:a+c≤F.size):(F.extract a F.size).extract b c=F.extract (a+b) (a+c):=by
 apply ByteArray.ext
 rw[ByteArray.data_extract,ByteArray.data_extract,ByteArray.data_extract]
 rw[Array.extract_extract]
 congr 1
 have:F.data.size=F.size:=rfl
 omega
theorem Ia (F:ByteArray):F.extract 0 F.size=F:=by
 apply ByteArray.ext
 rw[ByteArray.data_extract]
 have:F.data.size=F.size:=rfl
 rw[←this,Array.extract_size]
theorem ack (F:ByteArray) (h:W8) (j:Nat) (h1:128*j+128≤F.size) (h2:F.size≤1000000000000000):
  Goes Tryz.prog (ah Tryz.prog 170 3) .normal (An (F.extract (128*j) F.size)) [hB h] (An (F.extract (128*(j+1)) F.size)) [hB (ss h (F.extract (128*j) (128*j+128)))]:=by
 have hr:=anS h (F.extract (128*j) F.size)
 have hz:=fM F (128*j) F.size (Nat.le_refl _)
 have hz2:(F.extract (128*j) (128*j+128)).size=128:=by rw[fM F (128*j) (128*j+128) h1];omega
 rw[hz,ut F _ _ _ (by omega),ut F _ _ _ (by omega),show 128*j+(F.size-128*j)=F.size by omega,show 128*j+0=128*j by omega,show 128*j+128=128*(j+1) by omega] at hr
 rw[show 128*j+128=128*(j+1) by omega] at hz2 ⊢
 exact Runs.goes Hg ⟨_,_,hr,⟨EC (by rw[hz];omega),by omega,⟨by rw[hz2];omega,by rw[hz2];omega⟩,by omega,trivial⟩,Yz _ _⟩
theorem Gu (F:ByteArray) (n:Nat) (hn:F.size=128*n) (h2:F.size≤1000000000000000) (V:Nat→W8) (hV:∀j,V (j+1)=ss (V j) (F.extract (128*j) (128*j+128))):
  Goes Tryz.prog (.loop (ah Tryz.prog 170 3)) (.exit 0) (An (F.extract (128*0) F.size)) [hB (V 0)] (An (F.extract (128*n) F.size)) [hB (V n)]:=by
 refine bJ (N:=n) (k:=1) (T:=fun j=>An (F.extract (128*j) F.size)) (M:=fun j=>[hB (V j)]) (by simp) (fun _ _=>by simp only[List.length_cons,List.length_nil]) (fun j hj=> ?_) ?_
 ·have:=ack F (V j) j (by omega) h2
  rw[←hV j] at this
  exact this
 ·exact Runs.goes Hg ⟨_,_,apV (V n) _,⟨Dt (by rw[fM F _ _ (Nat.le_refl _)];omega),trivial⟩,Yz _ _⟩
theorem aa5 (s:ByteArray) (h2:s.size≤100000000000000):Goes Tryz.prog (.loop (ah Tryz.prog 170 3)) (.exit 0) (An (eJ s)) [hB BT] (An ((eJ s).extract (128*GA s.size) (eJ s).size)) [hB (il (eJ s) (GA s.size))]:=by
 have h:=Gu (eJ s) (GA s.size) (l6 s) (by rw[l6];unfold GA;omega) (il (eJ s)) (fun _=>rfl)
 rw[Nat.mul_zero,Ia] at h
 exact h
theorem VW (s:ByteArray) (h2:s.size≤100000000000000):EnvOK (afF s ((eJ s).extract (128*GA s.size) (eJ s).size) (il (eJ s) (GA s.size))):=
 da Hg (bz (by simp only[List.length_cons,List.length_nil]) (aa5 s h2))
theorem yK (s:ByteArray):(⟨#[]⟩:ByteArray)++s=s:=by apply ByteArray.ext;rw[ByteArray.data_append];simp
theorem Tu (h:W8):ab2 h=J0 h:=by
 unfold ab2 J0 bm
 rw[yK]
 simp only[dT]
theorem Bq (s:ByteArray) (h2:s.size≤100000000000000):Spec 170 [sS s] (.val (sS (cK s))):=by
 have h:=af (VW s h2) rfl (r54 s _ _) ⟨h2,rfl,rfl,Yz _ _,trivial⟩ rfl rfl
 rw[Tu] at h
 exact h
theorem amd:aU ⟨170,FA⟩:=by
 intro vs ob r h ho
 simp only[FA] at h
 split at h
 ·obtain ⟨rfl,rfl⟩:=sI h
  exact Bq _ ho.1
 ·simp at h
end Go.Ev.H5
