/- Roots, and points of the curve: what the functions on them come to; Bytes of numbers and of points; The points of the curve are a group; Ed25519: what the program and the page come to, and the law; An evaluator of the model's code with values known in part, and its soundness -/
import Derived.Test.YtjiiaeljpllahaaGreatPartH
import Derived.Test.YtjiiaeljpllahaaGreatPartC
import Derived.SizedLaws
import Derived.Test.YtjiiaeljpllahaaGreatPartA
namespace Go.Ev.H5.Ed
open Go Go.Proofs Go.RowKit
def dN:Nat:=37095705934669439343138083508754565189542113879843219016388785533085940283555
def ea:Nat:=15112221349535400772501151409588531511454012693041857206046113283949847762202
def d9:Nat:=46316835694926478169428394003475163141307993866256225615783033603165251855960
theorem iE:dN<ab 0:=by decide+kernel
theorem pw:ea<ab 0:=by decide+kernel
theorem pX:d9<ab 0:=by decide+kernel
def cV (v:AV):List V1→Option (List Prop×AV):=fun vs=>match vs with|[]=>some ([],v)|_=>none
theorem tG {f:FuncId} {v:AV} (h:Spec f [] v):aU ⟨f,cV v⟩:=by
 intro vs ob r hv ho
 simp only[cV] at hv
 split at hv
 ·obtain ⟨rfl,rfl⟩:=sI hv
  exact h
 ·simp at hv
def P2 (x y:Nat):V1:= .agg [.num 8 x,.num 8 y]
theorem aik:al E0 1000 202 [] []=some ([],.val (.agg [.a (.u .u32 324630691),.a (.u .u32 1978355146),.a (.u .u32 1094834347),.a (.u .u32 7342669),.a (.u .u32 2004478104),.a (.u .u32 2361868409),.a (.u .u32 728759923),.a (.u .u32 1375956206)])):=by kernel_rfl
theorem C5:Spec 202 [] (.val (N8 dN)):=(af envE0 rfl aik trivial rfl rfl).congr (fun _=>rfl) (fun _=>by kernel_rfl)
theorem alW:al E0 1000 201 [] []=some ([],.val (.agg [.a (.u .u32 324630691),.a (.u .u32 1978355146),.a (.u .u32 1094834347),.a (.u .u32 7342669),.a (.u .u32 2004478104),.a (.u .u32 2361868409),.a (.u .u32 728759923),.a (.u .u32 1375956206)])):=by kernel_rfl
theorem Iu:Spec 201 [] (.val (N8 dN)):=(af envE0 rfl alW trivial rfl rfl).congr (fun _=>rfl) (fun _=>by kernel_rfl)
theorem aod:al E0 1000 119 [] []=some ([],.val (.agg [.a (.u .u32 2401621274),.a (.u .u32 3377868128),.a (.u .u32 2502272946),.a (.u .u32 1764542304),.a (.u .u32 4258716764),.a (.u .u32 3232031281),.a (.u .u32 3446559742),.a (.u .u32 560543443),.a (.u .u32 1717986904),.a (.u .u32 1717986918),.a (.u .u32 1717986918),.a (.u .u32 1717986918),.a (.u .u32 1717986918),.a (.u .u32 1717986918),.a (.u .u32 1717986918),.a (.u .u32 1717986918)])):=by kernel_rfl
theorem Sk:Spec 119 [] (.val (P2 ea d9)):=(af envE0 rfl aod trivial rfl rfl).congr (fun _=>rfl) (fun _=>by kernel_rfl)
theorem anZ:al E0 1000 111 [] []=some ([],.val (.agg [.a (.u .u32 2401621274),.a (.u .u32 3377868128),.a (.u .u32 2502272946),.a (.u .u32 1764542304),.a (.u .u32 4258716764),.a (.u .u32 3232031281),.a (.u .u32 3446559742),.a (.u .u32 560543443),.a (.u .u32 1717986904),.a (.u .u32 1717986918),.a (.u .u32 1717986918),.a (.u .u32 1717986918),.a (.u .u32 1717986918),.a (.u .u32 1717986918),.a (.u .u32 1717986918),.a (.u .u32 1717986918)])):=by kernel_rfl
theorem QL:Spec 111 [] (.val (P2 ea d9)):=(af envE0 rfl anZ trivial rfl rfl).congr (fun _=>rfl) (fun _=>by kernel_rfl)
theorem anw:al E0 1000 208 [] []=some ([],.val (.agg [.a (.u .u32 0),.a (.u .u32 0),.a (.u .u32 0),.a (.u .u32 0),.a (.u .u32 0),.a (.u .u32 0),.a (.u .u32 0),.a (.u .u32 0),.a (.u .u32 1),.a (.u .u32 0),.a (.u .u32 0),.a (.u .u32 0),.a (.u .u32 0),.a (.u .u32 0),.a (.u .u32 0),.a (.u .u32 0)])):=by kernel_rfl
theorem RZ:Spec 208 [] (.val (P2 0 1)):=(af envE0 rfl anw trivial rfl rfl).congr (fun _=>rfl) (fun _=>by kernel_rfl)
theorem amQ:al (cd L0 iA) 1000 199 [] []=some ([1<4294967296],.val (.agg (.a (.u .u32 0):: .a (.u .u32 0):: .a (.u .u32 0):: .a (.u .u32 0):: .a (.u .u32 0):: .a (.u .u32 0):: .a (.u .u32 0):: .a (.u .u32 0)::[.num 8 1]))):=by kernel_rfl
theorem UH:Spec 199 [] (.val (P2 0 1)):=(af (aF Dj iA) rfl amQ ⟨tR,trivial⟩ rfl rfl).congr (fun _=>rfl) (fun _=>by kernel_rfl)
noncomputable def Ww:List CT:=[⟨202,cV (.val (N8 dN))⟩,⟨201,cV (.val (N8 dN))⟩,⟨119,cV (.val (P2 ea d9))⟩,⟨111,cV (.val (P2 ea d9))⟩,⟨208,cV (.val (P2 0 1))⟩,⟨199,cV (.val (P2 0 1))⟩]++L0
theorem rD:bw Ww:=⟨tG C5,tG Iu,tG Sk,tG QL,tG RZ,tG UH,Dj⟩
structure E4 where
 x:Nat
 y:Nat
 z:Nat
 t:Nat
def E4.lt (p:E4):Prop:=p.x<ab 0∧p.y<ab 0∧p.z<ab 0∧p.t<ab 0
def dO:Nat:=addM (ab 0) (aq (ab 0) dN) (aq (ab 0) dN)
noncomputable def eA (p q:E4):Nat:=ap (ab 0) (aw (ab 0) p.y p.x) (aw (ab 0) q.y q.x)
noncomputable def eB (p q:E4):Nat:=ap (ab 0) (addM (ab 0) p.y p.x) (addM (ab 0) q.y q.x)
noncomputable def eC (p q:E4):Nat:=ap (ab 0) (ap (ab 0) p.t dO) q.t
noncomputable def eD (p q:E4):Nat:=ap (ab 0) (addM (ab 0) p.z p.z) q.z
noncomputable def eE (p q:E4):Nat:=aw (ab 0) (eB p q) (eA p q)
noncomputable def eF (p q:E4):Nat:=aw (ab 0) (eD p q) (eC p q)
noncomputable def eG (p q:E4):Nat:=addM (ab 0) (eD p q) (eC p q)
noncomputable def eH (p q:E4):Nat:=addM (ab 0) (eB p q) (eA p q)
noncomputable def ix (p q:E4):E4:=⟨ap (ab 0) (eE p q) (eF p q),ap (ab 0) (eG p q) (eH p q),ap (ab 0) (eF p q) (eG p q),ap (ab 0) (eE p q) (eH p q)⟩
noncomputable def dS (x y:Nat):E4:=⟨aq (ab 0) x,aq (ab 0) y,aq (ab 0) 1,ap (ab 0) (aq (ab 0) x) (aq (ab 0) y)⟩
noncomputable def iU (p:E4):Nat:=ci (ab 0) (ap (ab 0) p.x (cI (ab 0) p.z))
noncomputable def iG (p:E4):Nat:=ci (ab 0) (ap (ab 0) p.y (cI (ab 0) p.z))
theorem fe:dO<ab 0:=ao (ae 0)
theorem eT (p q:E4):(ix p q).lt:=⟨ai (ae 0),ai (ae 0),ai (ae 0),ai (ae 0)⟩
theorem dW (x y:Nat):(dS x y).lt:=⟨au (ae 0),au (ae 0),au (ae 0),ai (ae 0)⟩
noncomputable def eqE (x y:Nat):Bool:=decide (aw (ab 0) (ap (ab 0) (aq (ab 0) y) (aq (ab 0) y)) (ap (ab 0) (aq (ab 0) x) (aq (ab 0) x))=
 addM (ab 0) (aq (ab 0) 1) (ap (ab 0) (aq (ab 0) dN) (ap (ab 0) (ap (ab 0) (aq (ab 0) x) (aq (ab 0) x)) (ap (ab 0) (aq (ab 0) y) (aq (ab 0) y)))))
def ltE (x y:Nat):Bool:=decide (x<ab 0)&&decide (y<ab 0)
noncomputable def gt (x y:Nat):Bool:=ltE x y&&eqE x y
theorem ka {x y:Nat} (h:gt x y=true):x<ab 0∧y<ab 0:=by
 simp only[gt,ltE,Bool.and_eq_true,decide_eq_true_iff] at h
 exact h.1
noncomputable def L8b:List CT:=⟨77,dU [.z,.s [.n8]] J9⟩::Ww
theorem zY:bw L8b:=⟨VQ,rD⟩
noncomputable def S66:FuncId→Nat→Bool:=fun f t=>match f with|171=>bf t [9,14]|_=>false
theorem ahm (x:Nat) (y:Nat):al (cd L8b S66) 1000 171 [P2 x y] [true,true]=
  some ([fT (0:Int) x=true,x<4294967296^8,fT (0:Int) y=true,y<4294967296^8,(0:Int)≤(0:Int)∧(0:Int)<(4:Int),ab 0<4294967296^8,0<ab 0,x<4294967296^8,ab 0<4294967296^8,0<ab 0,y<4294967296^8,ab 0<4294967296^8,aq (ab 0) x<ab 0,aq (ab 0) x<ab 0,bc (ab 0) (aT 0),aq (ab 0) x<4294967296^8,aq (ab 0) x<4294967296^8,ab 0<4294967296^8,aq (ab 0) y<ab 0,aq (ab 0) y<ab 0,bc (ab 0) (aT 0),aq (ab 0) y<4294967296^8,aq (ab 0) y<4294967296^8,ab 0<4294967296^8,0<ab 0,1<4294967296,0<4294967296,0<4294967296,0<4294967296,0<4294967296,0<4294967296,0<4294967296,0<4294967296,ab 0<4294967296^8,0<ab 0,dN<4294967296^8,ab 0<4294967296^8,ap (ab 0) (aq (ab 0) x) (aq (ab 0) x)<ab 0,ap (ab 0) (aq (ab 0) y) (aq (ab 0) y)<ab 0,bc (ab 0) (aT 0),ap (ab 0) (aq (ab 0) x) (aq (ab 0) x)<4294967296^8,ap (ab 0) (aq (ab 0) y) (aq (ab 0) y)<4294967296^8,ab 0<4294967296^8,aq (ab 0) dN<ab 0,ap (ab 0) (ap (ab 0) (aq (ab 0) x) (aq (ab 0) x)) (ap (ab 0) (aq (ab 0) y) (aq (ab 0) y))<ab 0,bc (ab 0) (aT 0),aq (ab 0) dN<4294967296^8,ap (ab 0) (ap (ab 0) (aq (ab 0) x) (aq (ab 0) x)) (ap (ab 0) (aq (ab 0) y) (aq (ab 0) y))<4294967296^8,ab 0<4294967296^8,aq (ab 0) 1<ab 0,ap (ab 0) (aq (ab 0) dN) (ap (ab 0) (ap (ab 0) (aq (ab 0) x) (aq (ab 0) x)) (ap (ab 0) (aq (ab 0) y) (aq (ab 0) y)))<ab 0,aq (ab 0) 1<4294967296^8,ap (ab 0) (aq (ab 0) dN) (ap (ab 0) (ap (ab 0) (aq (ab 0) x) (aq (ab 0) x)) (ap (ab 0) (aq (ab 0) y) (aq (ab 0) y)))<4294967296^8,ab 0<4294967296^8,ap (ab 0) (aq (ab 0) y) (aq (ab 0) y)<ab 0,ap (ab 0) (aq (ab 0) x) (aq (ab 0) x)<ab 0,ap (ab 0) (aq (ab 0) y) (aq (ab 0) y)<4294967296^8,ap (ab 0) (aq (ab 0) x) (aq (ab 0) x)<4294967296^8],bV (decide (aw (ab 0) (ap (ab 0) (aq (ab 0) y) (aq (ab 0) y)) (ap (ab 0) (aq (ab 0) x) (aq (ab 0) x))%4294967296^8=addM (ab 0) (aq (ab 0) 1) (ap (ab 0) (aq (ab 0) dN) (ap (ab 0) (ap (ab 0) (aq (ab 0) x) (aq (ab 0) x)) (ap (ab 0) (aq (ab 0) y) (aq (ab 0) y))))%4294967296^8)&&true)):=by kernel_rfl
theorem ajH (x:Nat) (y:Nat):al (cd L8b S66) 1000 171 [P2 x y] [true,false]=
  some ([fT (0:Int) x=true,x<4294967296^8,fT (0:Int) y=false,y<4294967296^8],bV false):=by kernel_rfl
theorem ahp (x:Nat) (y:Nat):al (cd L8b S66) 1000 171 [P2 x y] [false]=
  some ([fT (0:Int) x=false,x<4294967296^8],bV false):=by kernel_rfl
theorem Ej {x:Nat}:fT 0 x=decide (x<ab 0):=by
 unfold fT mX;rfl
theorem P5 (x y:Nat) (hx:x<4294967296^8) (hy:y<4294967296^8):Spec 171 [P2 x y] (bV (gt x y)):=by
 unfold gt ltE
 cases h1:decide (x<ab 0) with
 |false=>
  have h1':fT 0 x=false:=by rw[Ej];exact h1
  rw[Bool.false_and,Bool.false_and]
  exact af (aF zY S66) rfl (ahp x y) (by refine ⟨?_,?_,trivial⟩<;>first|with_reducible assumption|exact decide_eq_true (by omega)|exact decide_eq_false (by omega)|omega) rfl rfl
 |true=>
  have h1':fT 0 x=true:=by rw[Ej];exact h1
  cases h2:decide (y<ab 0) with
  |false=>
   have h2':fT 0 y=false:=by rw[Ej];exact h2
   rw[Bool.and_false,Bool.false_and]
   exact af (aF zY S66) rfl (ajH x y) (by refine ⟨?_,?_,?_,?_,trivial⟩<;>first|with_reducible assumption|exact decide_eq_true (by omega)|exact decide_eq_false (by omega)|omega) rfl rfl
  |true=>
   have h2':fT 0 y=true:=by rw[Ej];exact h2
   have hx':=of_decide_eq_true h1
   have hy':=of_decide_eq_true h2
   have hp:=ae 0
   rw[Bool.and_true,Bool.true_and]
   have h:=af (aF zY S66) rfl (ahm x y) (by refine ⟨?_,?_,?_,?_,(by decide),(aj _),(ae _),?_,(aj _),(ae _),?_,(aj _),(au (ae _)),(au (ae _)),(aK (by decide)),(L8 (au (ae _))),(L8 (au (ae _))),(aj _),(au (ae _)),(au (ae _)),(aK (by decide)),(L8 (au (ae _))),(L8 (au (ae _))),(aj _),(ae _),tR,bL,bL,bL,bL,bL,bL,bL,(aj _),(ae _),(L8 iE),(aj _),(ai (ae _)),(ai (ae _)),(aK (by decide)),(L8 (ai (ae _))),(L8 (ai (ae _))),(aj _),(au (ae _)),(ai (ae _)),(aK (by decide)),(L8 (au (ae _))),(L8 (ai (ae _))),(aj _),(au (ae _)),(ai (ae _)),(L8 (au (ae _))),(L8 (ai (ae _))),(aj _),(ai (ae _)),(ai (ae _)),(L8 (ai (ae _))),(L8 (ai (ae _))),trivial⟩<;>first|with_reducible assumption|exact decide_eq_true (by omega)|exact decide_eq_false (by omega)|omega) rfl rfl
   rw[nL (L8 (av hp)) (L8 (ao hp))] at h
   exact h
noncomputable def KT:List CT:=⟨171,dU [.s [.n8,.n8]] (fun xs=>match xs with|[.n x,.n y]=>some ([],bV (gt x y))|_=>none)⟩::L8b
theorem Vv {f:FuncId} (hf:∀x y,x<4294967296^8→y<4294967296^8→Spec f [P2 x y] (bV (gt x y))):aU ⟨f,dU [.s [.n8,.n8]] (fun xs=>match xs with|[.n x,.n y]=>some ([],bV (gt x y))|_=>none)⟩:=jE (by
 intro xs ob r hb h ho
 split at h
 ·rename_i x y
  obtain ⟨rfl,rfl⟩:=sI h
  obtain ⟨⟨hx,hy,_⟩,_⟩:=hb
  exact hf x y hx hy
 ·simp at h)
theorem lk:bw KT:=⟨Vv P5,zY⟩
noncomputable def ii:V1:= .agg [.num 8 (ab 0),.a (.u .u32 (aT 0)),.num 8 dO]
def og (p:E4):V1:= .agg [.num 8 p.x,.num 8 p.y,.num 8 p.z,.num 8 p.t]
def DN:V1:=BP 0
theorem aqI (a:Nat):al (cd KT iA) 1000 172 [] []=
  some ([(0:Int)≤(0:Int)∧(0:Int)<(4:Int),ab 0<4294967296^8,0<ab 0,dN<4294967296^8,ab 0<4294967296^8,aq (ab 0) dN<ab 0,aq (ab 0) dN<ab 0,aq (ab 0) dN<4294967296^8,aq (ab 0) dN<4294967296^8],.val ii):=by kernel_rfl
theorem Um:Spec 172 [] (.val ii):=af (aF lk iA) rfl (aqI 0) ⟨(by decide),(aj _),(ae _),(L8 iE),(aj _),(au (ae _)),(au (ae _)),(L8 (au (ae _))),(L8 (au (ae _))),trivial⟩ rfl rfl
theorem aqD (a:Nat):al (cd KT iA) 1000 166 [DN] []=
  some ([bg (ab 0) (aA (ak (ab 0) 0)) (aO (ab 0)),dN<ab 0,dN<4294967296^8,bg (ab 0) (aA (ak (ab 0) 0)) (aO (ab 0)),aq (ab 0) dN<ab 0,aq (ab 0) dN<ab 0,aq (ab 0) dN<4294967296^8,aq (ab 0) dN<4294967296^8],.val (N8 dO)):=by kernel_rfl
theorem Ue:Spec 166 [DN] (.val (N8 dO)):=af (aF lk iA) rfl (aqD 0) ⟨(aC (by decide)),iE,(L8 iE),(aC (by decide)),(au (ae _)),(au (ae _)),(L8 (au (ae _))),(L8 (au (ae _))),trivial⟩ rfl rfl
theorem anl (x:Nat) (y:Nat):al (cd KT iA) 1000 176 [ii,P2 x y] []=
  some ([ab 0<4294967296^8,0<ab 0,x<4294967296^8,ab 0<4294967296^8,0<ab 0,y<4294967296^8,ab 0<4294967296^8,0<ab 0,1<4294967296,0<4294967296,0<4294967296,0<4294967296,0<4294967296,0<4294967296,0<4294967296,0<4294967296,ab 0<4294967296^8,aq (ab 0) x<ab 0,aq (ab 0) y<ab 0,bc (ab 0) (aT 0),aq (ab 0) x<4294967296^8,aq (ab 0) y<4294967296^8],.val (og (dS x y))):=by kernel_rfl
theorem U3 (x y:Nat) (hx:x<ab 0) (hy:y<ab 0):Spec 176 [ii,P2 x y] (.val (og (dS x y))):=af (aF lk iA) rfl (anl x y) (by refine ⟨(aj _),(ae _),?_,(aj _),(ae _),?_,(aj _),(ae _),tR,bL,bL,bL,bL,bL,bL,bL,(aj _),(au (ae _)),(au (ae _)),(aK (by decide)),(L8 (au (ae _))),(L8 (au (ae _))),trivial⟩<;>first|with_reducible assumption|with_reducible exact L8 (by with_reducible assumption)|exact decide_eq_true (by omega)|exact decide_eq_false (by omega)|omega) rfl rfl
theorem apl (x:Nat) (y:Nat):al (cd KT iA) 1000 167 [DN,P2 x y] []=
  some ([bg (ab 0) (aA (ak (ab 0) 0)) (aO (ab 0)),x<ab 0,x<4294967296^8,bg (ab 0) (aA (ak (ab 0) 0)) (aO (ab 0)),y<ab 0,y<4294967296^8,1<4294967296,bg (ab 0) (aA (ak (ab 0) 0)) (aO (ab 0)),1<ab 0,1<4294967296^8,bg (ab 0) (aA (ak (ab 0) 0)) (aO (ab 0)),aq (ab 0) x<ab 0,aq (ab 0) y<ab 0,aq (ab 0) x<4294967296^8,aq (ab 0) y<4294967296^8],.val (og (dS x y))):=by kernel_rfl
theorem Ua (x y:Nat) (hx:x<ab 0) (hy:y<ab 0):Spec 167 [DN,P2 x y] (.val (og (dS x y))):=af (aF lk iA) rfl (apl x y) (by refine ⟨(aC (by decide)),?_,?_,(aC (by decide)),?_,?_,tR,(aC (by decide)),(a9 _),nk,(aC (by decide)),(au (ae _)),(au (ae _)),(L8 (au (ae _))),(L8 (au (ae _))),trivial⟩<;>first|with_reducible assumption|with_reducible exact L8 (by with_reducible assumption)|exact decide_eq_true (by omega)|exact decide_eq_false (by omega)|omega) rfl rfl
theorem amE (p:E4) (q:E4):al (cd KT iA) 1000 174 [ii,og p,og q] []=
  some ([ab 0<4294967296^8,p.2<ab 0,p.1<ab 0,p.2<4294967296^8,p.1<4294967296^8,ab 0<4294967296^8,q.2<ab 0,q.1<ab 0,q.2<4294967296^8,q.1<4294967296^8,ab 0<4294967296^8,aw (ab 0) p.2 p.1<ab 0,aw (ab 0) q.2 q.1<ab 0,bc (ab 0) (aT 0),aw (ab 0) p.2 p.1<4294967296^8,aw (ab 0) q.2 q.1<4294967296^8,ab 0<4294967296^8,p.2<ab 0,p.1<ab 0,p.2<4294967296^8,p.1<4294967296^8,ab 0<4294967296^8,q.2<ab 0,q.1<ab 0,q.2<4294967296^8,q.1<4294967296^8,ab 0<4294967296^8,addM (ab 0) p.2 p.1<ab 0,addM (ab 0) q.2 q.1<ab 0,bc (ab 0) (aT 0),addM (ab 0) p.2 p.1<4294967296^8,addM (ab 0) q.2 q.1<4294967296^8,ab 0<4294967296^8,p.4<ab 0,dO<ab 0,bc (ab 0) (aT 0),p.4<4294967296^8,dO<4294967296^8,ab 0<4294967296^8,ap (ab 0) p.4 dO<ab 0,q.4<ab 0,bc (ab 0) (aT 0),ap (ab 0) p.4 dO<4294967296^8,q.4<4294967296^8,ab 0<4294967296^8,p.3<ab 0,p.3<ab 0,p.3<4294967296^8,p.3<4294967296^8,ab 0<4294967296^8,addM (ab 0) p.3 p.3<ab 0,q.3<ab 0,bc (ab 0) (aT 0),addM (ab 0) p.3 p.3<4294967296^8,q.3<4294967296^8,ab 0<4294967296^8,ap (ab 0) (addM (ab 0) p.2 p.1) (addM (ab 0) q.2 q.1)<ab 0,ap (ab 0) (aw (ab 0) p.2 p.1) (aw (ab 0) q.2 q.1)<ab 0,ap (ab 0) (addM (ab 0) p.2 p.1) (addM (ab 0) q.2 q.1)<4294967296^8,ap (ab 0) (aw (ab 0) p.2 p.1) (aw (ab 0) q.2 q.1)<4294967296^8,ab 0<4294967296^8,ap (ab 0) (addM (ab 0) p.3 p.3) q.3<ab 0,ap (ab 0) (ap (ab 0) p.4 dO) q.4<ab 0,ap (ab 0) (addM (ab 0) p.3 p.3) q.3<4294967296^8,ap (ab 0) (ap (ab 0) p.4 dO) q.4<4294967296^8,ab 0<4294967296^8,ap (ab 0) (addM (ab 0) p.3 p.3) q.3<ab 0,ap (ab 0) (ap (ab 0) p.4 dO) q.4<ab 0,ap (ab 0) (addM (ab 0) p.3 p.3) q.3<4294967296^8,ap (ab 0) (ap (ab 0) p.4 dO) q.4<4294967296^8,ab 0<4294967296^8,ap (ab 0) (addM (ab 0) p.2 p.1) (addM (ab 0) q.2 q.1)<ab 0,ap (ab 0) (aw (ab 0) p.2 p.1) (aw (ab 0) q.2 q.1)<ab 0,ap (ab 0) (addM (ab 0) p.2 p.1) (addM (ab 0) q.2 q.1)<4294967296^8,ap (ab 0) (aw (ab 0) p.2 p.1) (aw (ab 0) q.2 q.1)<4294967296^8,ab 0<4294967296^8,aw (ab 0) (ap (ab 0) (addM (ab 0) p.2 p.1) (addM (ab 0) q.2 q.1)) (ap (ab 0) (aw (ab 0) p.2 p.1) (aw (ab 0) q.2 q.1))<ab 0,aw (ab 0) (ap (ab 0) (addM (ab 0) p.3 p.3) q.3) (ap (ab 0) (ap (ab 0) p.4 dO) q.4)<ab 0,bc (ab 0) (aT 0),aw (ab 0) (ap (ab 0) (addM (ab 0) p.2 p.1) (addM (ab 0) q.2 q.1)) (ap (ab 0) (aw (ab 0) p.2 p.1) (aw (ab 0) q.2 q.1))<4294967296^8,aw (ab 0) (ap (ab 0) (addM (ab 0) p.3 p.3) q.3) (ap (ab 0) (ap (ab 0) p.4 dO) q.4)<4294967296^8,ab 0<4294967296^8,addM (ab 0) (ap (ab 0) (addM (ab 0) p.3 p.3) q.3) (ap (ab 0) (ap (ab 0) p.4 dO) q.4)<ab 0,addM (ab 0) (ap (ab 0) (addM (ab 0) p.2 p.1) (addM (ab 0) q.2 q.1)) (ap (ab 0) (aw (ab 0) p.2 p.1) (aw (ab 0) q.2 q.1))<ab 0,bc (ab 0) (aT 0),addM (ab 0) (ap (ab 0) (addM (ab 0) p.3 p.3) q.3) (ap (ab 0) (ap (ab 0) p.4 dO) q.4)<4294967296^8,addM (ab 0) (ap (ab 0) (addM (ab 0) p.2 p.1) (addM (ab 0) q.2 q.1)) (ap (ab 0) (aw (ab 0) p.2 p.1) (aw (ab 0) q.2 q.1))<4294967296^8,ab 0<4294967296^8,aw (ab 0) (ap (ab 0) (addM (ab 0) p.3 p.3) q.3) (ap (ab 0) (ap (ab 0) p.4 dO) q.4)<ab 0,addM (ab 0) (ap (ab 0) (addM (ab 0) p.3 p.3) q.3) (ap (ab 0) (ap (ab 0) p.4 dO) q.4)<ab 0,bc (ab 0) (aT 0),aw (ab 0) (ap (ab 0) (addM (ab 0) p.3 p.3) q.3) (ap (ab 0) (ap (ab 0) p.4 dO) q.4)<4294967296^8,addM (ab 0) (ap (ab 0) (addM (ab 0) p.3 p.3) q.3) (ap (ab 0) (ap (ab 0) p.4 dO) q.4)<4294967296^8,ab 0<4294967296^8,aw (ab 0) (ap (ab 0) (addM (ab 0) p.2 p.1) (addM (ab 0) q.2 q.1)) (ap (ab 0) (aw (ab 0) p.2 p.1) (aw (ab 0) q.2 q.1))<ab 0,addM (ab 0) (ap (ab 0) (addM (ab 0) p.2 p.1) (addM (ab 0) q.2 q.1)) (ap (ab 0) (aw (ab 0) p.2 p.1) (aw (ab 0) q.2 q.1))<ab 0,bc (ab 0) (aT 0),aw (ab 0) (ap (ab 0) (addM (ab 0) p.2 p.1) (addM (ab 0) q.2 q.1)) (ap (ab 0) (aw (ab 0) p.2 p.1) (aw (ab 0) q.2 q.1))<4294967296^8,addM (ab 0) (ap (ab 0) (addM (ab 0) p.2 p.1) (addM (ab 0) q.2 q.1)) (ap (ab 0) (aw (ab 0) p.2 p.1) (aw (ab 0) q.2 q.1))<4294967296^8],.val (og (ix p q))):=by kernel_rfl
theorem Ql (p q:E4) (hp:p.lt) (hq:q.lt):Spec 174 [ii,og p,og q] (.val (og (ix p q))):=by
 obtain ⟨h1,h2,h3,h4⟩:=hp
 obtain ⟨h5,h6,h7,h8⟩:=hq
 exact af (aF lk iA) rfl (amE p q) (by refine ⟨(aj _),?_,?_,?_,?_,(aj _),?_,?_,?_,?_,(aj _),(av (ae _)),(av (ae _)),(aK (by decide)),(L8 (av (ae _))),(L8 (av (ae _))),(aj _),?_,?_,?_,?_,(aj _),?_,?_,?_,?_,(aj _),(ao (ae _)),(ao (ae _)),(aK (by decide)),(L8 (ao (ae _))),(L8 (ao (ae _))),(aj _),?_,fe,(aK (by decide)),?_,(L8 fe),(aj _),(ai (ae _)),?_,(aK (by decide)),(L8 (ai (ae _))),?_,(aj _),?_,?_,?_,?_,(aj _),(ao (ae _)),?_,(aK (by decide)),(L8 (ao (ae _))),?_,(aj _),(ai (ae _)),(ai (ae _)),(L8 (ai (ae _))),(L8 (ai (ae _))),(aj _),(ai (ae _)),(ai (ae _)),(L8 (ai (ae _))),(L8 (ai (ae _))),(aj _),(ai (ae _)),(ai (ae _)),(L8 (ai (ae _))),(L8 (ai (ae _))),(aj _),(ai (ae _)),(ai (ae _)),(L8 (ai (ae _))),(L8 (ai (ae _))),(aj _),(av (ae _)),(av (ae _)),(aK (by decide)),(L8 (av (ae _))),(L8 (av (ae _))),(aj _),(ao (ae _)),(ao (ae _)),(aK (by decide)),(L8 (ao (ae _))),(L8 (ao (ae _))),(aj _),(av (ae _)),(ao (ae _)),(aK (by decide)),(L8 (av (ae _))),(L8 (ao (ae _))),(aj _),(av (ae _)),(ao (ae _)),(aK (by decide)),(L8 (av (ae _))),(L8 (ao (ae _))),trivial⟩<;>first|with_reducible assumption|with_reducible exact L8 (by with_reducible assumption)|exact decide_eq_true (by omega)|exact decide_eq_false (by omega)|omega) rfl rfl
theorem apT (p:E4) (q:E4):al (cd KT iA) 1000 200 [DN,N8 dO,og p,og q] []=
  some ([bg (ab 0) (aA (ak (ab 0) 0)) (aO (ab 0)),p.2<ab 0,p.1<ab 0,p.2<4294967296^8,p.1<4294967296^8,bg (ab 0) (aA (ak (ab 0) 0)) (aO (ab 0)),q.2<ab 0,q.1<ab 0,q.2<4294967296^8,q.1<4294967296^8,bg (ab 0) (aA (ak (ab 0) 0)) (aO (ab 0)),aw (ab 0) p.2 p.1<ab 0,aw (ab 0) q.2 q.1<ab 0,aw (ab 0) p.2 p.1<4294967296^8,aw (ab 0) q.2 q.1<4294967296^8,bg (ab 0) (aA (ak (ab 0) 0)) (aO (ab 0)),p.2<ab 0,p.1<ab 0,p.2<4294967296^8,p.1<4294967296^8,bg (ab 0) (aA (ak (ab 0) 0)) (aO (ab 0)),q.2<ab 0,q.1<ab 0,q.2<4294967296^8,q.1<4294967296^8,bg (ab 0) (aA (ak (ab 0) 0)) (aO (ab 0)),addM (ab 0) p.2 p.1<ab 0,addM (ab 0) q.2 q.1<ab 0,addM (ab 0) p.2 p.1<4294967296^8,addM (ab 0) q.2 q.1<4294967296^8,bg (ab 0) (aA (ak (ab 0) 0)) (aO (ab 0)),p.4<ab 0,dO<ab 0,p.4<4294967296^8,dO<4294967296^8,bg (ab 0) (aA (ak (ab 0) 0)) (aO (ab 0)),ap (ab 0) p.4 dO<ab 0,q.4<ab 0,ap (ab 0) p.4 dO<4294967296^8,q.4<4294967296^8,bg (ab 0) (aA (ak (ab 0) 0)) (aO (ab 0)),p.3<ab 0,p.3<ab 0,p.3<4294967296^8,p.3<4294967296^8,bg (ab 0) (aA (ak (ab 0) 0)) (aO (ab 0)),addM (ab 0) p.3 p.3<ab 0,q.3<ab 0,addM (ab 0) p.3 p.3<4294967296^8,q.3<4294967296^8,bg (ab 0) (aA (ak (ab 0) 0)) (aO (ab 0)),ap (ab 0) (addM (ab 0) p.2 p.1) (addM (ab 0) q.2 q.1)<ab 0,ap (ab 0) (aw (ab 0) p.2 p.1) (aw (ab 0) q.2 q.1)<ab 0,ap (ab 0) (addM (ab 0) p.2 p.1) (addM (ab 0) q.2 q.1)<4294967296^8,ap (ab 0) (aw (ab 0) p.2 p.1) (aw (ab 0) q.2 q.1)<4294967296^8,bg (ab 0) (aA (ak (ab 0) 0)) (aO (ab 0)),ap (ab 0) (addM (ab 0) p.3 p.3) q.3<ab 0,ap (ab 0) (ap (ab 0) p.4 dO) q.4<ab 0,ap (ab 0) (addM (ab 0) p.3 p.3) q.3<4294967296^8,ap (ab 0) (ap (ab 0) p.4 dO) q.4<4294967296^8,bg (ab 0) (aA (ak (ab 0) 0)) (aO (ab 0)),ap (ab 0) (addM (ab 0) p.3 p.3) q.3<ab 0,ap (ab 0) (ap (ab 0) p.4 dO) q.4<ab 0,ap (ab 0) (addM (ab 0) p.3 p.3) q.3<4294967296^8,ap (ab 0) (ap (ab 0) p.4 dO) q.4<4294967296^8,bg (ab 0) (aA (ak (ab 0) 0)) (aO (ab 0)),ap (ab 0) (addM (ab 0) p.2 p.1) (addM (ab 0) q.2 q.1)<ab 0,ap (ab 0) (aw (ab 0) p.2 p.1) (aw (ab 0) q.2 q.1)<ab 0,ap (ab 0) (addM (ab 0) p.2 p.1) (addM (ab 0) q.2 q.1)<4294967296^8,ap (ab 0) (aw (ab 0) p.2 p.1) (aw (ab 0) q.2 q.1)<4294967296^8,bg (ab 0) (aA (ak (ab 0) 0)) (aO (ab 0)),aw (ab 0) (ap (ab 0) (addM (ab 0) p.2 p.1) (addM (ab 0) q.2 q.1)) (ap (ab 0) (aw (ab 0) p.2 p.1) (aw (ab 0) q.2 q.1))<ab 0,aw (ab 0) (ap (ab 0) (addM (ab 0) p.3 p.3) q.3) (ap (ab 0) (ap (ab 0) p.4 dO) q.4)<ab 0,aw (ab 0) (ap (ab 0) (addM (ab 0) p.2 p.1) (addM (ab 0) q.2 q.1)) (ap (ab 0) (aw (ab 0) p.2 p.1) (aw (ab 0) q.2 q.1))<4294967296^8,aw (ab 0) (ap (ab 0) (addM (ab 0) p.3 p.3) q.3) (ap (ab 0) (ap (ab 0) p.4 dO) q.4)<4294967296^8,bg (ab 0) (aA (ak (ab 0) 0)) (aO (ab 0)),addM (ab 0) (ap (ab 0) (addM (ab 0) p.3 p.3) q.3) (ap (ab 0) (ap (ab 0) p.4 dO) q.4)<ab 0,addM (ab 0) (ap (ab 0) (addM (ab 0) p.2 p.1) (addM (ab 0) q.2 q.1)) (ap (ab 0) (aw (ab 0) p.2 p.1) (aw (ab 0) q.2 q.1))<ab 0,addM (ab 0) (ap (ab 0) (addM (ab 0) p.3 p.3) q.3) (ap (ab 0) (ap (ab 0) p.4 dO) q.4)<4294967296^8,addM (ab 0) (ap (ab 0) (addM (ab 0) p.2 p.1) (addM (ab 0) q.2 q.1)) (ap (ab 0) (aw (ab 0) p.2 p.1) (aw (ab 0) q.2 q.1))<4294967296^8,bg (ab 0) (aA (ak (ab 0) 0)) (aO (ab 0)),aw (ab 0) (ap (ab 0) (addM (ab 0) p.3 p.3) q.3) (ap (ab 0) (ap (ab 0) p.4 dO) q.4)<ab 0,addM (ab 0) (ap (ab 0) (addM (ab 0) p.3 p.3) q.3) (ap (ab 0) (ap (ab 0) p.4 dO) q.4)<ab 0,aw (ab 0) (ap (ab 0) (addM (ab 0) p.3 p.3) q.3) (ap (ab 0) (ap (ab 0) p.4 dO) q.4)<4294967296^8,addM (ab 0) (ap (ab 0) (addM (ab 0) p.3 p.3) q.3) (ap (ab 0) (ap (ab 0) p.4 dO) q.4)<4294967296^8,bg (ab 0) (aA (ak (ab 0) 0)) (aO (ab 0)),aw (ab 0) (ap (ab 0) (addM (ab 0) p.2 p.1) (addM (ab 0) q.2 q.1)) (ap (ab 0) (aw (ab 0) p.2 p.1) (aw (ab 0) q.2 q.1))<ab 0,addM (ab 0) (ap (ab 0) (addM (ab 0) p.2 p.1) (addM (ab 0) q.2 q.1)) (ap (ab 0) (aw (ab 0) p.2 p.1) (aw (ab 0) q.2 q.1))<ab 0,aw (ab 0) (ap (ab 0) (addM (ab 0) p.2 p.1) (addM (ab 0) q.2 q.1)) (ap (ab 0) (aw (ab 0) p.2 p.1) (aw (ab 0) q.2 q.1))<4294967296^8,addM (ab 0) (ap (ab 0) (addM (ab 0) p.2 p.1) (addM (ab 0) q.2 q.1)) (ap (ab 0) (aw (ab 0) p.2 p.1) (aw (ab 0) q.2 q.1))<4294967296^8],.val (og (ix p q))):=by kernel_rfl
theorem QI (p q:E4) (hp:p.lt) (hq:q.lt):Spec 200 [DN,N8 dO,og p,og q] (.val (og (ix p q))):=by
 obtain ⟨h1,h2,h3,h4⟩:=hp
 obtain ⟨h5,h6,h7,h8⟩:=hq
 exact af (aF lk iA) rfl (apT p q) (by refine ⟨(aC (by decide)),?_,?_,?_,?_,(aC (by decide)),?_,?_,?_,?_,(aC (by decide)),(av (ae _)),(av (ae _)),(L8 (av (ae _))),(L8 (av (ae _))),(aC (by decide)),?_,?_,?_,?_,(aC (by decide)),?_,?_,?_,?_,(aC (by decide)),(ao (ae _)),(ao (ae _)),(L8 (ao (ae _))),(L8 (ao (ae _))),(aC (by decide)),?_,fe,?_,(L8 fe),(aC (by decide)),(ai (ae _)),?_,(L8 (ai (ae _))),?_,(aC (by decide)),?_,?_,?_,?_,(aC (by decide)),(ao (ae _)),?_,(L8 (ao (ae _))),?_,(aC (by decide)),(ai (ae _)),(ai (ae _)),(L8 (ai (ae _))),(L8 (ai (ae _))),(aC (by decide)),(ai (ae _)),(ai (ae _)),(L8 (ai (ae _))),(L8 (ai (ae _))),(aC (by decide)),(ai (ae _)),(ai (ae _)),(L8 (ai (ae _))),(L8 (ai (ae _))),(aC (by decide)),(ai (ae _)),(ai (ae _)),(L8 (ai (ae _))),(L8 (ai (ae _))),(aC (by decide)),(av (ae _)),(av (ae _)),(L8 (av (ae _))),(L8 (av (ae _))),(aC (by decide)),(ao (ae _)),(ao (ae _)),(L8 (ao (ae _))),(L8 (ao (ae _))),(aC (by decide)),(av (ae _)),(ao (ae _)),(L8 (av (ae _))),(L8 (ao (ae _))),(aC (by decide)),(av (ae _)),(ao (ae _)),(L8 (av (ae _))),(L8 (ao (ae _))),trivial⟩<;>first|with_reducible assumption|with_reducible exact L8 (by with_reducible assumption)|exact decide_eq_true (by omega)|exact decide_eq_false (by omega)|omega) rfl rfl
theorem aoI (p:E4):al (cd KT iA) 1000 173 [ii,og p] []=
  some ([ab 0<4294967296^8,p.3<ab 0,bc (ab 0) (aT 0),p.3<4294967296^8,ab 0<4294967296^8,p.1<ab 0,cI (ab 0) p.3<ab 0,bc (ab 0) (aT 0),p.1<4294967296^8,cI (ab 0) p.3<4294967296^8,ab 0<4294967296^8,ap (ab 0) p.1 (cI (ab 0) p.3)<ab 0,bc (ab 0) (aT 0),ap (ab 0) p.1 (cI (ab 0) p.3)<4294967296^8,ab 0<4294967296^8,p.2<ab 0,cI (ab 0) p.3<ab 0,bc (ab 0) (aT 0),p.2<4294967296^8,cI (ab 0) p.3<4294967296^8,ab 0<4294967296^8,ap (ab 0) p.2 (cI (ab 0) p.3)<ab 0,bc (ab 0) (aT 0),ap (ab 0) p.2 (cI (ab 0) p.3)<4294967296^8],.val (P2 (iU p) (iG p))):=by kernel_rfl
theorem U4 (p:E4) (hp:p.lt):Spec 173 [ii,og p] (.val (P2 (iU p) (iG p))):=by
 obtain ⟨h1,h2,h3,h4⟩:=hp
 exact af (aF lk iA) rfl (aoI p) (by refine ⟨(aj _),?_,(aK (by decide)),?_,(aj _),?_,(cg (ae _)),(aK (by decide)),?_,(L8 (cg (ae _))),(aj _),(ai (ae _)),(aK (by decide)),(L8 (ai (ae _))),(aj _),?_,(cg (ae _)),(aK (by decide)),?_,(L8 (cg (ae _))),(aj _),(ai (ae _)),(aK (by decide)),(L8 (ai (ae _))),trivial⟩<;>first|with_reducible assumption|with_reducible exact L8 (by with_reducible assumption)|exact decide_eq_true (by omega)|exact decide_eq_false (by omega)|omega) rfl rfl
theorem an9 (p:E4):al (cd KT iA) 1000 164 [DN,og p] []=
  some ([2<4294967296,ab 0<4294967296^8,2<4294967296^8,bg (ab 0) (aA (ak (ab 0) 0)) (aO (ab 0)),1<ab 0,p.3<ab 0,p.3<4294967296^8,bh (ab 0) (2)<4294967296^8,bg (ab 0) (aA (ak (ab 0) 0)) (aO (ab 0)),p.1<ab 0,am (ab 0) p.3 (bh (ab 0) (2))<ab 0,p.1<4294967296^8,am (ab 0) p.3 (bh (ab 0) (2))<4294967296^8,bg (ab 0) (aA (ak (ab 0) 0)) (aO (ab 0)),ap (ab 0) p.1 (am (ab 0) p.3 (bh (ab 0) (2)))<ab 0,ap (ab 0) p.1 (am (ab 0) p.3 (bh (ab 0) (2)))<4294967296^8,bg (ab 0) (aA (ak (ab 0) 0)) (aO (ab 0)),p.2<ab 0,am (ab 0) p.3 (bh (ab 0) (2))<ab 0,p.2<4294967296^8,am (ab 0) p.3 (bh (ab 0) (2))<4294967296^8,bg (ab 0) (aA (ak (ab 0) 0)) (aO (ab 0)),ap (ab 0) p.2 (am (ab 0) p.3 (bh (ab 0) (2)))<ab 0,ap (ab 0) p.2 (am (ab 0) p.3 (bh (ab 0) (2)))<4294967296^8],.val (P2 (iU p) (iG p))):=by kernel_rfl
theorem Uu (p:E4) (hp:p.lt):Spec 164 [DN,og p] (.val (P2 (iU p) (iG p))):=by
 obtain ⟨h1,h2,h3,h4⟩:=hp
 exact af (aF lk iA) rfl (an9 p) (by refine ⟨afV,(aj _),OW,(aC (by decide)),(a9 _),?_,?_,(cJ _ _),(aC (by decide)),?_,(bk (ae _)),?_,(L8 (bk (ae _))),(aC (by decide)),(ai (ae _)),(L8 (ai (ae _))),(aC (by decide)),?_,(bk (ae _)),?_,(L8 (bk (ae _))),(aC (by decide)),(ai (ae _)),(L8 (ai (ae _))),trivial⟩<;>first|with_reducible assumption|with_reducible exact L8 (by with_reducible assumption)|exact decide_eq_true (by omega)|exact decide_eq_false (by omega)|omega) rfl rfl
noncomputable def gOf:List Val→Option (List Prop×AV)
 |[.n m,.n q,.n w,.n x,.n y]=>some ([m=ab 0,q=aT 0,w=dO,x<ab 0,y<ab 0],.val (og (dS x y)))
 |_=>none
noncomputable def acr:List Val→Option (List Prop×AV)
 |[.n m,.n q,.n w,.n x,.n y]=>some ([m=ab 0,q=aA (ak (ab 0) 0),w=aO (ab 0),x<ab 0,y<ab 0],.val (og (dS x y)))
 |_=>none
noncomputable def Ok:List Val→Option (List Prop×AV)
 |[.n m,.n q,.n w,.n x1,.n y1,.n z1,.n t1,.n x2,.n y2,.n z2,.n t2]=>some ([m=ab 0,q=aT 0,w=dO,E4.lt ⟨x1,y1,z1,t1⟩,E4.lt ⟨x2,y2,z2,t2⟩],.val (og (ix ⟨x1,y1,z1,t1⟩ ⟨x2,y2,z2,t2⟩)))
 |_=>none
noncomputable def Gb:List Val→Option (List Prop×AV)
 |[.n m,.n q,.n w,.n d,.n x1,.n y1,.n z1,.n t1,.n x2,.n y2,.n z2,.n t2]=>some ([m=ab 0,q=aA (ak (ab 0) 0),w=aO (ab 0),d=dO,E4.lt ⟨x1,y1,z1,t1⟩,E4.lt ⟨x2,y2,z2,t2⟩],.val (og (ix ⟨x1,y1,z1,t1⟩ ⟨x2,y2,z2,t2⟩)))
 |_=>none
noncomputable def Mw:List Val→Option (List Prop×AV)
 |[.n m,.n q,.n w,.n x1,.n y1,.n z1,.n t1]=>some ([m=ab 0,q=aT 0,w=dO,E4.lt ⟨x1,y1,z1,t1⟩],.val (P2 (iU ⟨x1,y1,z1,t1⟩) (iG ⟨x1,y1,z1,t1⟩)))
 |_=>none
noncomputable def GH:List Val→Option (List Prop×AV)
 |[.n m,.n q,.n w,.n x1,.n y1,.n z1,.n t1]=>some ([m=ab 0,q=aA (ak (ab 0) 0),w=aO (ab 0),E4.lt ⟨x1,y1,z1,t1⟩],.val (P2 (iU ⟨x1,y1,z1,t1⟩) (iG ⟨x1,y1,z1,t1⟩)))
 |_=>none
def gTw:List Val→Option (List Prop×AV)
 |[.n m,.n q,.n w]=>some ([m=ab 0,q=aA (ak (ab 0) 0),w=aO (ab 0)],.val (N8 dO))
 |_=>none
def fd:Arg:= .s [.n8,.u32,.n8]
def Fa:Arg:= .s [.n8,.n8,.n8,.n8]
def BN:Arg:= .s [.n8,.n8]
def aN:Arg:= .s [.n8]
theorem apY:aU ⟨176,dU [fd,BN] gOf⟩:=jE (by
 intro xs ob r hb h ho
 unfold gOf at h
 split at h
 ·rename_i m q w x y
  obtain ⟨rfl,rfl⟩:=sI h
  obtain ⟨e0,e1,e2,h1,h2,_⟩:=ho
  subst e0 e1 e2
  have hS:=U3 x y h1 h2
  exact hS
 ·simp at h)
theorem ama:aU ⟨167,dU [fd,BN] acr⟩:=jE (by
 intro xs ob r hb h ho
 unfold acr at h
 split at h
 ·rename_i m q w x y
  obtain ⟨rfl,rfl⟩:=sI h
  obtain ⟨e0,e1,e2,h1,h2,_⟩:=ho
  have hS:=Ua x y h1 h2
  unfold DN BP rg at hS
  rw[←e2,←e1,←e0] at hS
  exact hS
 ·simp at h)
theorem anL:aU ⟨174,dU [fd,Fa,Fa] Ok⟩:=jE (by
 intro xs ob r hb h ho
 unfold Ok at h
 split at h
 ·rename_i m q w x1 y1 z1 t1 x2 y2 z2 t2
  obtain ⟨rfl,rfl⟩:=sI h
  obtain ⟨e0,e1,e2,h1,h2,_⟩:=ho
  subst e0 e1 e2
  have hS:=Ql ⟨x1,y1,z1,t1⟩ ⟨x2,y2,z2,t2⟩ h1 h2
  exact hS
 ·simp at h)
theorem anO:aU ⟨200,dU [fd,aN,Fa,Fa] Gb⟩:=jE (by
 intro xs ob r hb h ho
 unfold Gb at h
 split at h
 ·rename_i m q w d x1 y1 z1 t1 x2 y2 z2 t2
  obtain ⟨rfl,rfl⟩:=sI h
  obtain ⟨e0,e1,e2,e3,h1,h2,_⟩:=ho
  have hS:=QI ⟨x1,y1,z1,t1⟩ ⟨x2,y2,z2,t2⟩ h1 h2
  unfold DN BP rg at hS
  rw[←e2,←e1,←e0] at hS
  subst e3
  exact hS
 ·simp at h)
theorem amU:aU ⟨173,dU [fd,Fa] Mw⟩:=jE (by
 intro xs ob r hb h ho
 unfold Mw at h
 split at h
 ·rename_i m q w x1 y1 z1 t1
  obtain ⟨rfl,rfl⟩:=sI h
  obtain ⟨e0,e1,e2,h1,_⟩:=ho
  subst e0 e1 e2
  have hS:=U4 ⟨x1,y1,z1,t1⟩ h1
  exact hS
 ·simp at h)
theorem Yg:aU ⟨164,dU [fd,Fa] GH⟩:=jE (by
 intro xs ob r hb h ho
 unfold GH at h
 split at h
 ·rename_i m q w x1 y1 z1 t1
  obtain ⟨rfl,rfl⟩:=sI h
  obtain ⟨e0,e1,e2,h1,_⟩:=ho
  have hS:=Uu ⟨x1,y1,z1,t1⟩ h1
  unfold DN BP rg at hS
  rw[←e2,←e1,←e0] at hS
  exact hS
 ·simp at h)
theorem aqj:aU ⟨166,dU [fd] gTw⟩:=jE (by
 intro xs ob r hb h ho
 unfold gTw at h
 split at h
 ·rename_i m q w
  obtain ⟨rfl,rfl⟩:=sI h
  obtain ⟨e0,e1,e2,_⟩:=ho
  have hS:=Ue
  unfold DN BP rg at hS
  rw[←e2,←e1,←e0] at hS
  exact hS
 ·simp at h)
noncomputable def L10:List CT:=[⟨172,cV (.val ii)⟩,⟨166,dU [fd] gTw⟩,⟨176,dU [fd,BN] gOf⟩,⟨167,dU [fd,BN] acr⟩,⟨174,dU [fd,Fa,Fa] Ok⟩,⟨200,dU [fd,aN,Fa,Fa] Gb⟩,⟨173,dU [fd,Fa] Mw⟩,⟨164,dU [fd,Fa] GH⟩]++KT
theorem GB:bw L10:=⟨tG Um,aqj,apY,ama,anL,anO,amU,Yg,lk⟩
theorem bu (k:Nat):aT k<4294967296:=by unfold aT JD;omega
theorem bv (u:Nat):aA u<4294967296:=by unfold aA;omega
theorem du {k:Nat} (hk:k<4):aO (ab k)<ab k:=(aC hk).2.2.1
noncomputable def kL (k:Nat) (p:E4) (j:Nat) (x:E4):E4:=bif eY k j then ix (ix x x) p else ix x x
noncomputable def io (k:Nat) (p:E4):Nat→E4→E4
 |0,x=>x
 |j+1,x=>io k p j (kL k p j x)
noncomputable def jr (k:Nat) (p:E4):E4:=io k p (dp k) (dS 0 1)
theorem wR (k:Nat) (p:E4) (j:Nat) (x:E4):(kL k p j x).lt:=by
 unfold kL;cases eY k j<;>exact eT _ _
theorem v8 (k:Nat) (p:E4):∀j x,x.lt→(io k p j x).lt
 |0,_,h=>h
 |j+1,x,_=>v8 k p j _ (wR k p j x)
theorem az (k:Nat) (p:E4):(jr k p).lt:=v8 k p _ _ (dW 0 1)
def yH (i:Int):List AV:=bt 31 [(3,pV 0),(4,pV 1),(5,pV 2),(6,pV 3),(7,pV 4),(8,iV i)]
noncomputable def B0 (k:Nat) (p x:E4):List Blk:=[⟨[.num 8 (ab 0),.a (.u .u32 (aT 0)),.num 8 dO],189,true,false,0⟩,⟨[.num 8 k],32,true,false,0⟩,⟨[.num 8 p.x,.num 8 p.y,.num 8 p.z,.num 8 p.t],193,true,false,0⟩,⟨bp 32 0 zF,193,true,false,0⟩,⟨[.num 8 x.x,.num 8 x.y,.num 8 x.z,.num 8 x.t],193,true,false,0⟩]
noncomputable def S71:FuncId→Nat→Bool:=fun f t=>match f with|175=>bf t [14,16,18,25]|_=>false
noncomputable def Xo:Env:=cd L10 S71
theorem Ae:EnvOK Xo:=aF GB S71
theorem Iq (k:Nat) (p x:E4) (i:Int):dl (yH i) (B0 k p x)=true:=by
 unfold dl
 rw[show cw (B0 k p x).length (yH i)=true by show cw 5 _=true;kernel_rfl,Bool.true_and]
 kernel_rfl
theorem aih (k:Nat) (p:E4) (x:E4) (j:Nat):aH Xo 1000 (Env.S Xo 175) (ah Tryz.prog 175 3) (yH (↑j:Int)) (B0 k p x) [true,true] (yH ((↑j:Int)-(1:Int))) 5=
  some ([decide ((0:Int)≤(↑j:Int))=true,ab 0<4294967296^8,aT 0<4294967296,dO<4294967296^8,x.1<4294967296^8,x.2<4294967296^8,x.3<4294967296^8,x.4<4294967296^8,x.1<4294967296^8,x.2<4294967296^8,x.3<4294967296^8,x.4<4294967296^8,ab 0=ab 0,aT 0=aT 0,dO=dO,E4.lt x,E4.lt x,eY k j=true,k<4294967296^8,(0:Int)≤(↑j:Int)∧(↑j:Int)<(256:Int),ab 0<4294967296^8,aT 0<4294967296,dO<4294967296^8,ap (ab 0) (aw (ab 0) (ap (ab 0) (addM (ab 0) x.2 x.1) (addM (ab 0) x.2 x.1)) (ap (ab 0) (aw (ab 0) x.2 x.1) (aw (ab 0) x.2 x.1))) (aw (ab 0) (ap (ab 0) (addM (ab 0) x.3 x.3) x.3) (ap (ab 0) (ap (ab 0) x.4 dO) x.4))<4294967296^8,ap (ab 0) (addM (ab 0) (ap (ab 0) (addM (ab 0) x.3 x.3) x.3) (ap (ab 0) (ap (ab 0) x.4 dO) x.4)) (addM (ab 0) (ap (ab 0) (addM (ab 0) x.2 x.1) (addM (ab 0) x.2 x.1)) (ap (ab 0) (aw (ab 0) x.2 x.1) (aw (ab 0) x.2 x.1)))<4294967296^8,ap (ab 0) (aw (ab 0) (ap (ab 0) (addM (ab 0) x.3 x.3) x.3) (ap (ab 0) (ap (ab 0) x.4 dO) x.4)) (addM (ab 0) (ap (ab 0) (addM (ab 0) x.3 x.3) x.3) (ap (ab 0) (ap (ab 0) x.4 dO) x.4))<4294967296^8,ap (ab 0) (aw (ab 0) (ap (ab 0) (addM (ab 0) x.2 x.1) (addM (ab 0) x.2 x.1)) (ap (ab 0) (aw (ab 0) x.2 x.1) (aw (ab 0) x.2 x.1))) (addM (ab 0) (ap (ab 0) (addM (ab 0) x.2 x.1) (addM (ab 0) x.2 x.1)) (ap (ab 0) (aw (ab 0) x.2 x.1) (aw (ab 0) x.2 x.1)))<4294967296^8,p.1<4294967296^8,p.2<4294967296^8,p.3<4294967296^8,p.4<4294967296^8,ab 0=ab 0,aT 0=aT 0,dO=dO,E4.lt (E4.mk (E4.x (ix (x) (x))) (E4.y (ix (x) (x))) (E4.z (ix (x) (x))) (E4.t (ix (x) (x)))),E4.lt p,br ((↑j:Int)-(1:Int))],.normal,yH ((j:Int)-1),B0 k p (ix (ix x x) p)):=by kernel_rfl
theorem ai' (k:Nat) (p:E4) (x:E4) (j:Nat):aH Xo 1000 (Env.S Xo 175) (ah Tryz.prog 175 3) (yH (↑j:Int)) (B0 k p x) [true,false] (yH ((↑j:Int)-(1:Int))) 5=
  some ([decide ((0:Int)≤(↑j:Int))=true,ab 0<4294967296^8,aT 0<4294967296,dO<4294967296^8,x.1<4294967296^8,x.2<4294967296^8,x.3<4294967296^8,x.4<4294967296^8,x.1<4294967296^8,x.2<4294967296^8,x.3<4294967296^8,x.4<4294967296^8,ab 0=ab 0,aT 0=aT 0,dO=dO,E4.lt x,E4.lt x,eY k j=false,k<4294967296^8,(0:Int)≤(↑j:Int)∧(↑j:Int)<(256:Int),br ((↑j:Int)-(1:Int))],.normal,yH ((j:Int)-1),B0 k p (ix x x)):=by kernel_rfl
theorem aj4 (k:Nat) (p:E4) (x:E4):aH Xo 1000 (Env.S Xo 175) (ah Tryz.prog 175 3) (yH (-1:Int)) (B0 k p x) [false] (yH (-1:Int)) 5=
  some ([decide ((0:Int)≤(-1:Int))=false],.exit 0,yH (-1),B0 k p x):=by kernel_rfl
theorem KX {k:Nat} {p:E4} (hk:k<4294967296^8) (hp:p.lt):∀(j:Nat) (x:E4),j≤256→x.lt→GoesN Tryz.prog (ah Tryz.prog 175 3) (j+1) (.exit 0) (yH ((j:Int)-1)) (B0 k p x) (yH (-1)) (B0 k p (io k p j x))
 |0,x,_,hx=>by
  obtain ⟨hx1,hx2,hx3,hx4⟩:=id hx
  obtain ⟨hp1,hp2,hp3,hp4⟩:=id hp
  exact GoesN.out (by simp) (Runs.goes Ae ⟨[false],_,aj4 k p x,⟨(by first|with_reducible assumption|with_reducible exact L8 (by with_reducible assumption)|exact decide_eq_true (by omega)|exact decide_eq_false (by omega)|omega),trivial⟩,Iq _ _ _ _⟩)
 |j+1,x,hj,hx=>by
  have ih:=KX hk hp j (kL k p j x) (by omega) (wR k p j x)
  have hxx:=eT x x
  obtain ⟨hx1,hx2,hx3,hx4⟩:=id hx
  obtain ⟨hp1,hp2,hp3,hp4⟩:=id hp
  obtain ⟨hq1,hq2,hq3,hq4⟩:=id hxx
  have h0:decide (0≤(j:Int))=true:=decide_eq_true (by omega)
  have hr:0≤(j:Int)∧(j:Int)<256:=by omega
  have hI:br ((j:Int)-1):=by unfold br;omega
  rw[show ((j+1:Nat):Int)-1=(j:Int) by omega]
  have hs:Goes Tryz.prog (ah Tryz.prog 175 3) .normal (yH (j:Int)) (B0 k p x) (yH ((j:Int)-1)) (B0 k p (kL k p j x)):=by
   unfold kL
   cases hb:eY k j with
   |true=>exact Runs.goes Ae ⟨_,_,aih k p x j,(by refine ⟨?_,(aj _),(bu 0),(L8 fe),?_,?_,?_,?_,?_,?_,?_,?_,rfl,rfl,rfl,?_,?_,?_,?_,?_,(aj _),(bu 0),(L8 fe),(L8 (ai (ae _))),(L8 (ai (ae _))),(L8 (ai (ae _))),(L8 (ai (ae _))),?_,?_,?_,?_,rfl,rfl,rfl,(by first|with_reducible assumption|exact eT _ _|exact dW _ _|exact hxx),?_,?_,trivial⟩<;>first|with_reducible assumption|with_reducible exact L8 (by with_reducible assumption)|exact decide_eq_true (by omega)|exact decide_eq_false (by omega)|omega),Iq _ _ _ _⟩
   |false=>exact Runs.goes Ae ⟨_,_,ai' k p x j,(by refine ⟨?_,(aj _),(bu 0),(L8 fe),?_,?_,?_,?_,?_,?_,?_,?_,rfl,rfl,rfl,?_,?_,?_,?_,?_,?_,trivial⟩<;>first|with_reducible assumption|with_reducible exact L8 (by with_reducible assumption)|exact decide_eq_true (by omega)|exact decide_eq_false (by omega)|omega),Iq _ _ _ _⟩
  exact GoesN.cons (M1:=B0 k p (kL k p j x)) rfl hs ih
noncomputable def ahB (k:Nat) (p:E4):Env:=nR Xo 3 (ah Tryz.prog 175 3) (fo (yH ((dp k:Int)-1)) (B0 k p (dS 0 1)) (yH (-1)) (B0 k p (io k p (dp k) (dS 0 1))) (.exit 0))
theorem Qx {k:Nat} {p:E4} (hk:k<4294967296^8) (hp:p.lt):EnvOK (ahB k p):=gy Ae (bz rfl (KX hk hp (dp k) _ ((fU hk).2) (dW 0 1)).loop)
def zl (i:Int):List AV:=bt 35 [(4,pV 0),(5,pV 1),(6,pV 2),(7,pV 3),(8,pV 4),(9,pV 5),(10,iV i)]
noncomputable def BW (k:Nat) (p x:E4):List Blk:=[⟨[.num 8 (ab 0),.a (.u .u32 (aA (ak (ab 0) 0))),.num 8 (aO (ab 0))],81,true,false,0⟩,⟨[.num 8 dO],32,true,false,0⟩,⟨[.num 8 k],32,true,false,0⟩,⟨[.num 8 p.x,.num 8 p.y,.num 8 p.z,.num 8 p.t],182,true,false,0⟩,⟨bp 32 0 zF,182,true,false,0⟩,⟨[.num 8 x.x,.num 8 x.y,.num 8 x.z,.num 8 x.t],182,true,false,0⟩]
noncomputable def S76:FuncId→Nat→Bool:=fun f t=>match f with|165=>bf t [16,18,20,28]|_=>false
noncomputable def WZ:Env:=cd L10 S76
theorem Bn:EnvOK WZ:=aF GB S76
theorem Jf (k:Nat) (p x:E4) (i:Int):dl (zl i) (BW k p x)=true:=by
 unfold dl
 rw[show cw (BW k p x).length (zl i)=true by show cw 6 _=true;kernel_rfl,Bool.true_and]
 kernel_rfl
theorem ajz (k:Nat) (p:E4) (x:E4) (j:Nat):aH WZ 1000 (Env.S WZ 165) (ah Tryz.prog 165 3) (zl (↑j:Int)) (BW k p x) [true,true] (zl ((↑j:Int)-(1:Int))) 6=
  some ([decide ((0:Int)≤(↑j:Int))=true,ab 0<4294967296^8,aA (ak (ab 0) 0)<4294967296,aO (ab 0)<4294967296^8,dO<4294967296^8,x.1<4294967296^8,x.2<4294967296^8,x.3<4294967296^8,x.4<4294967296^8,x.1<4294967296^8,x.2<4294967296^8,x.3<4294967296^8,x.4<4294967296^8,ab 0=ab 0,aA (ak (ab 0) 0)=aA (ak (ab 0) 0),aO (ab 0)=aO (ab 0),dO=dO,E4.lt x,E4.lt x,eY k j=true,(0:Int)≤(↑j:Int)∧(↑j:Int)<(256:Int),k<4294967296^8,ab 0<4294967296^8,aA (ak (ab 0) 0)<4294967296,aO (ab 0)<4294967296^8,dO<4294967296^8,ap (ab 0) (aw (ab 0) (ap (ab 0) (addM (ab 0) x.2 x.1) (addM (ab 0) x.2 x.1)) (ap (ab 0) (aw (ab 0) x.2 x.1) (aw (ab 0) x.2 x.1))) (aw (ab 0) (ap (ab 0) (addM (ab 0) x.3 x.3) x.3) (ap (ab 0) (ap (ab 0) x.4 dO) x.4))<4294967296^8,ap (ab 0) (addM (ab 0) (ap (ab 0) (addM (ab 0) x.3 x.3) x.3) (ap (ab 0) (ap (ab 0) x.4 dO) x.4)) (addM (ab 0) (ap (ab 0) (addM (ab 0) x.2 x.1) (addM (ab 0) x.2 x.1)) (ap (ab 0) (aw (ab 0) x.2 x.1) (aw (ab 0) x.2 x.1)))<4294967296^8,ap (ab 0) (aw (ab 0) (ap (ab 0) (addM (ab 0) x.3 x.3) x.3) (ap (ab 0) (ap (ab 0) x.4 dO) x.4)) (addM (ab 0) (ap (ab 0) (addM (ab 0) x.3 x.3) x.3) (ap (ab 0) (ap (ab 0) x.4 dO) x.4))<4294967296^8,ap (ab 0) (aw (ab 0) (ap (ab 0) (addM (ab 0) x.2 x.1) (addM (ab 0) x.2 x.1)) (ap (ab 0) (aw (ab 0) x.2 x.1) (aw (ab 0) x.2 x.1))) (addM (ab 0) (ap (ab 0) (addM (ab 0) x.2 x.1) (addM (ab 0) x.2 x.1)) (ap (ab 0) (aw (ab 0) x.2 x.1) (aw (ab 0) x.2 x.1)))<4294967296^8,p.1<4294967296^8,p.2<4294967296^8,p.3<4294967296^8,p.4<4294967296^8,ab 0=ab 0,aA (ak (ab 0) 0)=aA (ak (ab 0) 0),aO (ab 0)=aO (ab 0),dO=dO,E4.lt (E4.mk (E4.x (ix (x) (x))) (E4.y (ix (x) (x))) (E4.z (ix (x) (x))) (E4.t (ix (x) (x)))),E4.lt p,br ((↑j:Int)-(1:Int))],.normal,zl ((j:Int)-1),BW k p (ix (ix x x) p)):=by kernel_rfl
theorem aiM (k:Nat) (p:E4) (x:E4) (j:Nat):aH WZ 1000 (Env.S WZ 165) (ah Tryz.prog 165 3) (zl (↑j:Int)) (BW k p x) [true,false] (zl ((↑j:Int)-(1:Int))) 6=
  some ([decide ((0:Int)≤(↑j:Int))=true,ab 0<4294967296^8,aA (ak (ab 0) 0)<4294967296,aO (ab 0)<4294967296^8,dO<4294967296^8,x.1<4294967296^8,x.2<4294967296^8,x.3<4294967296^8,x.4<4294967296^8,x.1<4294967296^8,x.2<4294967296^8,x.3<4294967296^8,x.4<4294967296^8,ab 0=ab 0,aA (ak (ab 0) 0)=aA (ak (ab 0) 0),aO (ab 0)=aO (ab 0),dO=dO,E4.lt x,E4.lt x,eY k j=false,(0:Int)≤(↑j:Int)∧(↑j:Int)<(256:Int),k<4294967296^8,br ((↑j:Int)-(1:Int))],.normal,zl ((j:Int)-1),BW k p (ix x x)):=by kernel_rfl
theorem aiu (k:Nat) (p:E4) (x:E4):aH WZ 1000 (Env.S WZ 165) (ah Tryz.prog 165 3) (zl (-1:Int)) (BW k p x) [false] (zl (-1:Int)) 6=
  some ([decide ((0:Int)≤(-1:Int))=false],.exit 0,zl (-1),BW k p x):=by kernel_rfl
theorem O4 {k:Nat} {p:E4} (hk:k<4294967296^8) (hp:p.lt):∀(j:Nat) (x:E4),j≤256→x.lt→GoesN Tryz.prog (ah Tryz.prog 165 3) (j+1) (.exit 0) (zl ((j:Int)-1)) (BW k p x) (zl (-1)) (BW k p (io k p j x))
 |0,x,_,hx=>by
  obtain ⟨hx1,hx2,hx3,hx4⟩:=id hx
  obtain ⟨hp1,hp2,hp3,hp4⟩:=id hp
  exact GoesN.out (by simp) (Runs.goes Bn ⟨[false],_,aiu k p x,⟨(by first|with_reducible assumption|with_reducible exact L8 (by with_reducible assumption)|exact decide_eq_true (by omega)|exact decide_eq_false (by omega)|omega),trivial⟩,Jf _ _ _ _⟩)
 |j+1,x,hj,hx=>by
  have ih:=O4 hk hp j (kL k p j x) (by omega) (wR k p j x)
  have hxx:=eT x x
  obtain ⟨hx1,hx2,hx3,hx4⟩:=id hx
  obtain ⟨hp1,hp2,hp3,hp4⟩:=id hp
  obtain ⟨hq1,hq2,hq3,hq4⟩:=id hxx
  have h0:decide (0≤(j:Int))=true:=decide_eq_true (by omega)
  have hr:0≤(j:Int)∧(j:Int)<256:=by omega
  have hI:br ((j:Int)-1):=by unfold br;omega
  rw[show ((j+1:Nat):Int)-1=(j:Int) by omega]
  have hs:Goes Tryz.prog (ah Tryz.prog 165 3) .normal (zl (j:Int)) (BW k p x) (zl ((j:Int)-1)) (BW k p (kL k p j x)):=by
   unfold kL
   cases hb:eY k j with
   |true=>exact Runs.goes Bn ⟨_,_,ajz k p x j,(by refine ⟨?_,(aj _),(bv _),(L8 (du (by decide))),(L8 fe),?_,?_,?_,?_,?_,?_,?_,?_,rfl,rfl,rfl,rfl,?_,?_,?_,?_,?_,(aj _),(bv _),(L8 (du (by decide))),(L8 fe),(L8 (ai (ae _))),(L8 (ai (ae _))),(L8 (ai (ae _))),(L8 (ai (ae _))),?_,?_,?_,?_,rfl,rfl,rfl,rfl,(by first|with_reducible assumption|exact eT _ _|exact dW _ _|exact hxx),?_,?_,trivial⟩<;>first|with_reducible assumption|with_reducible exact L8 (by with_reducible assumption)|exact decide_eq_true (by omega)|exact decide_eq_false (by omega)|omega),Jf _ _ _ _⟩
   |false=>exact Runs.goes Bn ⟨_,_,aiM k p x j,(by refine ⟨?_,(aj _),(bv _),(L8 (du (by decide))),(L8 fe),?_,?_,?_,?_,?_,?_,?_,?_,rfl,rfl,rfl,rfl,?_,?_,?_,?_,?_,?_,trivial⟩<;>first|with_reducible assumption|with_reducible exact L8 (by with_reducible assumption)|exact decide_eq_true (by omega)|exact decide_eq_false (by omega)|omega),Jf _ _ _ _⟩
  exact GoesN.cons (M1:=BW k p (kL k p j x)) rfl hs ih
noncomputable def ahu (k:Nat) (p:E4):Env:=nR WZ 3 (ah Tryz.prog 165 3) (fo (zl ((eP k 256:Int)-1)) (BW k p (dS 0 1)) (zl (-1)) (BW k p (io k p (eP k 256) (dS 0 1))) (.exit 0))
theorem Uo {k:Nat} {p:E4} (hk:k<4294967296^8) (hp:p.lt):EnvOK (ahu k p):=gy Bn (bz rfl (O4 hk hp (eP k 256) _ ((i2 k 256 hk).2) (dW 0 1)).loop)
theorem aqJ (k:Nat) (p:E4):al (ahB k p) 1000 175 [ii,N8 k,og p] []=
  some ([ab 0<4294967296^8,aT 0<4294967296,dO<4294967296^8,0<4294967296^8,1<4294967296^8,ab 0=ab 0,aT 0=aT 0,dO=dO,0<ab 0,1<ab 0,k<4294967296^8,br ((↑(dp k):Int)-(1:Int)),(ah Tryz.prog 175 3)=(ah Tryz.prog 175 3),(yH ((dp k:Int)-1),B0 k p (dS 0 1))=(yH ((dp k:Int)-1),B0 k p (dS 0 1)),dl (yH ((dp k:Int)-1)) (B0 k p (dS 0 1))=true],.val (og (io k p (dp k) (dS 0 1)))):=by kernel_rfl
theorem U6 (k:Nat) (p:E4) (hk:k<4294967296^8) (hp:p.lt):Spec 175 [ii,N8 k,og p] (.val (og (jr k p))):=by
 obtain ⟨hp1,hp2,hp3,hp4⟩:=id hp
 have hl:=(fU hk).2
 have hI:br ((dp k:Int)-1):=by unfold br;omega
 have hw:=Iq k p (dS 0 1) ((dp k:Int)-1)
 have h:=af (Qx hk hp) rfl (aqJ k p) (by refine ⟨(aj _),(bu 0),(L8 fe),K3,nk,rfl,rfl,rfl,(ae _),(a9 _),?_,?_,rfl,rfl,(by assumption),trivial⟩<;>first|with_reducible assumption|with_reducible exact L8 (by with_reducible assumption)|exact decide_eq_true (by omega)|exact decide_eq_false (by omega)|omega) rfl rfl
 exact h
theorem alQ (k:Nat) (p:E4):al (ahu k p) 1000 165 [DN,N8 dO,N8 k,og p] []=
  some ([ab 0<4294967296^8,aA (ak (ab 0) 0)<4294967296,aO (ab 0)<4294967296^8,0<4294967296^8,1<4294967296^8,ab 0=ab 0,aA (ak (ab 0) 0)=aA (ak (ab 0) 0),aO (ab 0)=aO (ab 0),0<ab 0,1<ab 0,k<4294967296^8,br ((↑(eP k 256):Int)-(1:Int)),(ah Tryz.prog 165 3)=(ah Tryz.prog 165 3),(zl ((eP k 256:Int)-1),BW k p (dS 0 1))=(zl ((eP k 256:Int)-1),BW k p (dS 0 1)),dl (zl ((eP k 256:Int)-1)) (BW k p (dS 0 1))=true],.val (og (io k p (eP k 256) (dS 0 1)))):=by kernel_rfl
theorem Qs (k:Nat) (p:E4) (hk:k<4294967296^8) (hp:p.lt):Spec 165 [DN,N8 dO,N8 k,og p] (.val (og (jr k p))):=by
 obtain ⟨hp1,hp2,hp3,hp4⟩:=id hp
 have hl:=(i2 k 256 hk).2
 have hI:br ((eP k 256:Int)-1):=by unfold br;omega
 have hw:=Jf k p (dS 0 1) ((eP k 256:Int)-1)
 have h:=af (Uo hk hp) rfl (alQ k p) (by refine ⟨(aj _),(bv _),(L8 (du (by decide))),K3,nk,rfl,rfl,rfl,(ae _),(a9 _),?_,?_,rfl,rfl,(by assumption),trivial⟩<;>first|with_reducible assumption|with_reducible exact L8 (by with_reducible assumption)|exact decide_eq_true (by omega)|exact decide_eq_false (by omega)|omega) rfl rfl
 rw[M7 hk] at h
 exact h
theorem nm {m a b:Nat} (hb:b<m):(aw m a b+b)%m=a%m:=by
 unfold aw
 rw[Nat.mod_add_mod,Nat.sub_add_cancel (by omega),Nat.add_mod_right]
theorem zJ {m r s y:Nat} (hr:r<m) (hs:s<m) (h:(r+y)%m=(s+y)%m):r=s:=by
 have h1:∀{r s:Nat},r<m→s<m→r≤s→(r+y)%m=(s+y)%m→r=s:=by
  intro r s _ hs hle h
  have h2:(s+y-(r+y))%m=0:=Nat.sub_mod_eq_zero_of_mod_eq h.symm
  rw[show s+y-(r+y)=s-r by omega,Nat.mod_eq_of_lt (by omega)] at h2
  omega
 rcases Nat.le_total r s with hle|hle
 ·exact h1 hr hs hle h
 ·exact (h1 hs hr hle h.symm).symm
theorem vX (m a:Nat):aq m (a%m)=aq m a:=by rw[jw,jw,Nat.mod_mul_mod]
theorem gQ {m:Nat} (a b:Nat):addM m (aq m a) (aq m b)=aq m (addM m a b):=by
 unfold addM
 rw[vX,jw,jw,jw,←Nat.add_mod,Nat.add_mul]
theorem my {m:Nat} (hm:0<m) {a b:Nat} (hb:b<m):aw m (aq m a) (aq m b)=aq m (aw m a b):=by
 refine zJ (y:=aq m b) (av hm) (au hm) ?_
 rw[nm (au hm)]
 have h:=gQ (m:=m) (aw m a b) b
 unfold addM at h
 rw[h,nm hb,vX,Nat.mod_eq_of_lt (au hm)]
theorem eO {k:Nat} (hk:k<4) (x y:Nat):ap (ab k) (aq (ab k) x) (aq (ab k) y)=aq (ab k) (bK (ab k) x y):=rh (aj k) (aK hk)
def pTw:Nat:=addM (ab 0) dN dN
def pA (p q:E4):Nat:=bK (ab 0) (aw (ab 0) p.y p.x) (aw (ab 0) q.y q.x)
def pB (p q:E4):Nat:=bK (ab 0) (addM (ab 0) p.y p.x) (addM (ab 0) q.y q.x)
def pC (p q:E4):Nat:=bK (ab 0) (bK (ab 0) p.t pTw) q.t
def pD (p q:E4):Nat:=bK (ab 0) (addM (ab 0) p.z p.z) q.z
def pE (p q:E4):Nat:=aw (ab 0) (pB p q) (pA p q)
def pF (p q:E4):Nat:=aw (ab 0) (pD p q) (pC p q)
def pG (p q:E4):Nat:=addM (ab 0) (pD p q) (pC p q)
def pH (p q:E4):Nat:=addM (ab 0) (pB p q) (pA p q)
def oR (p q:E4):E4:=⟨bK (ab 0) (pE p q) (pF p q),bK (ab 0) (pG p q) (pH p q),bK (ab 0) (pF p q) (pG p q),bK (ab 0) (pE p q) (pH p q)⟩
def yg (x y:Nat):E4:=⟨x,y,1,bK (ab 0) x y⟩
def kO (p:E4):E4:=⟨aq (ab 0) p.x,aq (ab 0) p.y,aq (ab 0) p.z,aq (ab 0) p.t⟩
def qY (k:Nat) (p:E4) (j:Nat) (x:E4):E4:=bif eY k j then oR (oR x x) p else oR x x
def oL (k:Nat) (p:E4):Nat→E4→E4
 |0,x=>x
 |j+1,x=>oL k p j (qY k p j x)
def AJ (k:Nat) (p:E4):E4:=oL k p (dp k) (yg 0 1)
theorem Ac (p q:E4):(oR p q).lt:=⟨bi (ae 0),bi (ae 0),bi (ae 0),bi (ae 0)⟩
theorem iq {x y:Nat} (hx:x<ab 0) (hy:y<ab 0):(yg x y).lt:=⟨hx,hy,a9 0,bi (ae 0)⟩
theorem abc:dO=aq (ab 0) pTw:=gQ dN dN
theorem qL {p q:E4} (hp:p.lt) (hq:q.lt):ix (kO p) (kO q)=kO (oR p q):=by
 obtain ⟨h1,h2,h3,h4⟩:=hp
 obtain ⟨h5,h6,h7,h8⟩:=hq
 have hm:=ae 0
 have hA:eA (kO p) (kO q)=aq (ab 0) (pA p q):=by
  simp only[eA,kO,pA];rw[my hm h1,my hm h5,eO (by decide)]
 have hB:eB (kO p) (kO q)=aq (ab 0) (pB p q):=by
  simp only[eB,kO,pB];rw[gQ,gQ,eO (by decide)]
 have hC:eC (kO p) (kO q)=aq (ab 0) (pC p q):=by
  simp only[eC,kO,pC];rw[abc,eO (by decide),eO (by decide)]
 have hD:eD (kO p) (kO q)=aq (ab 0) (pD p q):=by
  simp only[eD,kO,pD];rw[gQ,eO (by decide)]
 have hE:eE (kO p) (kO q)=aq (ab 0) (pE p q):=by
  unfold eE pE;rw[hA,hB,my hm (show pA p q<ab 0 from bi hm)]
 have hF:eF (kO p) (kO q)=aq (ab 0) (pF p q):=by
  unfold eF pF;rw[hC,hD,my hm (show pC p q<ab 0 from bi hm)]
 have hG:eG (kO p) (kO q)=aq (ab 0) (pG p q):=by
  unfold eG pG;rw[hC,hD,gQ]
 have hH:eH (kO p) (kO q)=aq (ab 0) (pH p q):=by
  unfold eH pH;rw[hA,hB,gQ]
 unfold ix oR kO
 rw[←kO,←kO,hE,hF,hG,hH,eO (by decide),eO (by decide),eO (by decide),eO (by decide)]
theorem i' (x y:Nat):dS x y=kO (yg x y):=by
 unfold dS kO yg
 rw[eO (by decide)]
theorem Lw {k j:Nat} {p x:E4} (hp:p.lt) (hx:x.lt):kL k (kO p) j (kO x)=kO (qY k p j x):=by
 unfold kL qY
 rw[qL hx hx,qL (Ac x x) hp]
 cases eY k j<;>rfl
theorem ES (k:Nat) (p:E4) (j:Nat) (x:E4):(qY k p j x).lt:=by
 unfold qY;cases eY k j<;>exact Ac _ _
theorem uW {k:Nat} {p:E4} (hp:p.lt):∀(j:Nat) (x:E4),x.lt→io k (kO p) j (kO x)=kO (oL k p j x)
 |0,_,_=>rfl
 |j+1,x,hx=>by
  show io k (kO p) j (kL k (kO p) j (kO x))=kO (oL k p j (qY k p j x))
  rw[Lw hp hx]
  exact uW hp j _ (ES k p j x)
theorem ww (k:Nat) (p:E4):∀(j:Nat) (x:E4),x.lt→(oL k p j x).lt
 |0,_,h=>h
 |j+1,x,_=>ww k p j _ (ES k p j x)
theorem Iz:(yg 0 1).lt:=iq (ae 0) (a9 0)
theorem zf (k:Nat) (p:E4):(AJ k p).lt:=ww k p _ _ Iz
theorem sO {k:Nat} {p:E4} (hp:p.lt):jr k (kO p)=kO (AJ k p):=by
 unfold jr AJ
 rw[i']
 exact uW hp _ _ Iz
def agn (z:Nat):Nat:=Go.NT.pwM (ab 0) z (bh (ab 0) 2)
def za (p:E4) (c:Nat):Nat:=bK (ab 0) c (agn p.z)
theorem Bs {p:E4} (hp:p.lt) (c:Nat):ci (ab 0) (ap (ab 0) (aq (ab 0) c) (cI (ab 0) (aq (ab 0) p.z)))=za p c:=by
 unfold cI za agn
 rw[i6,fi (aj 0) (aK (by decide)) hp.2.2.1,eO (by decide),fi (aj 0) (aK (by decide)) (bi (ae 0))]
theorem Kv {p:E4} (hp:p.lt):iU (kO p)=za p p.x:=Bs hp p.x
theorem Ko {p:E4} (hp:p.lt):iG (kO p)=za p p.y:=Bs hp p.y
def pOn (x y:Nat):Bool:=decide (aw (ab 0) (bK (ab 0) y y) (bK (ab 0) x x)=addM (ab 0) 1 (bK (ab 0) dN (bK (ab 0) (bK (ab 0) x x) (bK (ab 0) y y))))
theorem FK {x y:Nat}:eqE x y=pOn x y:=by
 have hm:=ae 0
 unfold eqE pOn
 rw[eO (by decide),eO (by decide),eO (by decide),eO (by decide),gQ,my hm (bi hm),Bool.eq_iff_iff,decide_eq_true_iff,decide_eq_true_iff]
 exact ⟨fun h=>A9 (aj 0) (aK (by decide)) (av hm) (ao hm) h,fun h=>by rw[h]⟩
theorem cR:gt ea d9=true:=by
 unfold gt
 rw[FK]
 decide+kernel
theorem Mz:gt 0 1=true:=by
 unfold gt
 rw[FK]
 decide+kernel
theorem E4.ltx {p:E4} (h:p.lt):p.x<4294967296^8:=L8 h.1
theorem E4.lty {p:E4} (h:p.lt):p.y<4294967296^8:=L8 h.2.1
theorem E4.ltz {p:E4} (h:p.lt):p.z<4294967296^8:=L8 h.2.2.1
theorem E4.ltt {p:E4} (h:p.lt):p.t<4294967296^8:=L8 h.2.2.2
noncomputable def A1:List Val→Option (List Prop×AV)
 |[.n m,.n q,.n w,.n k,.n x1,.n y1,.n z1,.n t1]=>some ([m=ab 0,q=aT 0,w=dO,E4.lt ⟨x1,y1,z1,t1⟩],.val (og (jr k ⟨x1,y1,z1,t1⟩)))
 |_=>none
noncomputable def vS:List Val→Option (List Prop×AV)
 |[.n m,.n q,.n w,.n d,.n k,.n x1,.n y1,.n z1,.n t1]=>some ([m=ab 0,q=aA (ak (ab 0) 0),w=aO (ab 0),d=dO,E4.lt ⟨x1,y1,z1,t1⟩],.val (og (jr k ⟨x1,y1,z1,t1⟩)))
 |_=>none
theorem apj:aU ⟨175,dU [fd,aN,Fa] A1⟩:=jE (by
 intro xs ob r hb h ho
 unfold A1 at h
 split at h
 ·rename_i m q w k x1 y1 z1 t1
  obtain ⟨rfl,rfl⟩:=sI h
  obtain ⟨e0,e1,e2,h1,_⟩:=ho
  obtain ⟨_,⟨hk,_⟩,_⟩:=hb
  subst e0 e1 e2
  have hS:=U6 k ⟨x1,y1,z1,t1⟩ hk h1
  exact hS
 ·simp at h)
theorem an':aU ⟨165,dU [fd,aN,aN,Fa] vS⟩:=jE (by
 intro xs ob r hb h ho
 unfold vS at h
 split at h
 ·rename_i m q w d k x1 y1 z1 t1
  obtain ⟨rfl,rfl⟩:=sI h
  obtain ⟨e0,e1,e2,e3,h1,_⟩:=ho
  obtain ⟨_,_,⟨hk,_⟩,_⟩:=hb
  have hS:=Qs k ⟨x1,y1,z1,t1⟩ hk h1
  unfold DN BP rg at hS
  rw[←e2,←e1,←e0] at hS
  subst e3
  exact hS
 ·simp at h)
noncomputable def L12:List CT:=[⟨175,dU [fd,aN,Fa] A1⟩,⟨165,dU [fd,aN,aN,Fa] vS⟩]++L10
theorem abB:bw L12:=⟨apj,an',GB⟩
noncomputable def JZ (px py qx qy:Nat):E4:=ix (dS px py) (dS qx qy)
noncomputable def Mr (k px py:Nat):E4:=jr k (dS px py)
noncomputable def Kh (k px py m qx qy:Nat):E4:=ix (jr k (dS px py)) (jr m (dS qx qy))
noncomputable def XF (p:E4):V1:=P2 (iU p) (iG p)
noncomputable def S12:FuncId→Nat→Bool:=fun f t=>match f with|117=>bf t [5]|118=>bf t [12,16]|_=>false
noncomputable def E12:Env:=cd L12 S12
theorem rN:EnvOK E12:=aF abB S12
def noP:V1:=P2 0 0
def noC:V1:= .agg [.a (.u .u32 0),.a (.u .u32 0),.a (.u .u32 0),.a (.u .u32 0),.a (.u .u32 0),.a (.u .u32 0),.a (.u .u32 0),.a (.u .u32 0),.a (.u .u32 0),.a (.u .u32 0),.a (.u .u32 0),.a (.u .u32 0),.a (.u .u32 0),.a (.u .u32 0),.a (.u .u32 0),.a (.u .u32 0)]
theorem OX (φ:c7):noC.conc φ=noP.conc φ:=rfl
noncomputable abbrev gn:=ak (ab 0) 0
theorem apF (px:Nat) (py:Nat):al E12 1000 181 [P2 px py] []=
  some ([(0:Int)≤(0:Int)∧(0:Int)<(4:Int),bg (ab 0) (aA gn) (aO (ab 0)),0<ab 0,px<ab 0,0<4294967296,0<4294967296,0<4294967296,0<4294967296,0<4294967296,0<4294967296,0<4294967296,0<4294967296,px<4294967296^8],.val (P2 (aw (ab 0) 0 px) py)):=by kernel_rfl
noncomputable abbrev kx (k px py:Nat):=jr k (dS px py)
noncomputable abbrev Ru (k px py:Nat):=E4.mk (E4.x (kx k px py)) (E4.y (kx k px py)) (E4.z (kx k px py)) (E4.t (kx k px py))
theorem aoj (k:Nat) (px:Nat) (py:Nat):al E12 1000 110 [N8 k,P2 px py] []=
  some ([(0:Int)≤(0:Int)∧(0:Int)<(4:Int),ab 0<4294967296^8,aA gn<4294967296,aO (ab 0)<4294967296^8,ab 0=ab 0,aA gn=aA gn,aO (ab 0)=aO (ab 0),ab 0<4294967296^8,aA gn<4294967296,aO (ab 0)<4294967296^8,px<4294967296^8,py<4294967296^8,ab 0=ab 0,aA gn=aA gn,aO (ab 0)=aO (ab 0),px<ab 0,py<ab 0,ab 0<4294967296^8,aA gn<4294967296,aO (ab 0)<4294967296^8,dO<4294967296^8,k<4294967296^8,aq (ab 0) px<4294967296^8,aq (ab 0) py<4294967296^8,aq (ab 0) 1<4294967296^8,ap (ab 0) (aq (ab 0) px) (aq (ab 0) py)<4294967296^8,ab 0=ab 0,aA gn=aA gn,aO (ab 0)=aO (ab 0),dO=dO,E4.lt (dS px py),ab 0<4294967296^8,aA gn<4294967296,aO (ab 0)<4294967296^8,(kx k px py).1<4294967296^8,(kx k px py).2<4294967296^8,(kx k px py).3<4294967296^8,(kx k px py).4<4294967296^8,ab 0=ab 0,aA gn=aA gn,aO (ab 0)=aO (ab 0),E4.lt (Ru k px py)],.val (XF (Mr k px py))):=by kernel_rfl
noncomputable abbrev m6 (m qx qy:Nat):=jr m (dS qx qy)
noncomputable abbrev acW (m qx qy:Nat):=E4.mk (E4.x (m6 m qx qy)) (E4.y (m6 m qx qy)) (E4.z (m6 m qx qy)) (E4.t (m6 m qx qy))
noncomputable abbrev Er (k px py m qx qy:Nat):=ap (ab 0) (addM (ab 0) (kx k px py).2 (kx k px py).1) (addM (ab 0) (m6 m qx qy).2 (m6 m qx qy).1)
noncomputable abbrev DU (k px py m qx qy:Nat):=ap (ab 0) (aw (ab 0) (kx k px py).2 (kx k px py).1) (aw (ab 0) (m6 m qx qy).2 (m6 m qx qy).1)
noncomputable abbrev Dc (k px py m qx qy:Nat):=ap (ab 0) (addM (ab 0) (kx k px py).3 (kx k px py).3) (m6 m qx qy).3
noncomputable abbrev Dq (k px py m qx qy:Nat):=ap (ab 0) (ap (ab 0) (kx k px py).4 dO) (m6 m qx qy).4
noncomputable abbrev DH (k px py m qx qy:Nat):=ix (Ru k px py) (acW m qx qy)
theorem ana (k:Nat) (px:Nat) (py:Nat) (m:Nat) (qx:Nat) (qy:Nat):al E12 1000 180 [N8 k,P2 px py,N8 m,P2 qx qy] []=
  some ([(0:Int)≤(0:Int)∧(0:Int)<(4:Int),ab 0<4294967296^8,aA gn<4294967296,aO (ab 0)<4294967296^8,ab 0=ab 0,aA gn=aA gn,aO (ab 0)=aO (ab 0),ab 0<4294967296^8,aA gn<4294967296,aO (ab 0)<4294967296^8,px<4294967296^8,py<4294967296^8,ab 0=ab 0,aA gn=aA gn,aO (ab 0)=aO (ab 0),px<ab 0,py<ab 0,ab 0<4294967296^8,aA gn<4294967296,aO (ab 0)<4294967296^8,dO<4294967296^8,k<4294967296^8,aq (ab 0) px<4294967296^8,aq (ab 0) py<4294967296^8,aq (ab 0) 1<4294967296^8,ap (ab 0) (aq (ab 0) px) (aq (ab 0) py)<4294967296^8,ab 0=ab 0,aA gn=aA gn,aO (ab 0)=aO (ab 0),dO=dO,E4.lt (dS px py),ab 0<4294967296^8,aA gn<4294967296,aO (ab 0)<4294967296^8,qx<4294967296^8,qy<4294967296^8,ab 0=ab 0,aA gn=aA gn,aO (ab 0)=aO (ab 0),qx<ab 0,qy<ab 0,ab 0<4294967296^8,aA gn<4294967296,aO (ab 0)<4294967296^8,dO<4294967296^8,m<4294967296^8,aq (ab 0) qx<4294967296^8,aq (ab 0) qy<4294967296^8,aq (ab 0) 1<4294967296^8,ap (ab 0) (aq (ab 0) qx) (aq (ab 0) qy)<4294967296^8,ab 0=ab 0,aA gn=aA gn,aO (ab 0)=aO (ab 0),dO=dO,E4.lt (dS qx qy),ab 0<4294967296^8,aA gn<4294967296,aO (ab 0)<4294967296^8,dO<4294967296^8,(kx k px py).1<4294967296^8,(kx k px py).2<4294967296^8,(kx k px py).3<4294967296^8,(kx k px py).4<4294967296^8,(m6 m qx qy).1<4294967296^8,(m6 m qx qy).2<4294967296^8,(m6 m qx qy).3<4294967296^8,(m6 m qx qy).4<4294967296^8,ab 0=ab 0,aA gn=aA gn,aO (ab 0)=aO (ab 0),dO=dO,E4.lt (Ru k px py),E4.lt (acW m qx qy),ab 0<4294967296^8,aA gn<4294967296,aO (ab 0)<4294967296^8,ap (ab 0) (aw (ab 0) (Er k px py m qx qy) (DU k px py m qx qy)) (aw (ab 0) (Dc k px py m qx qy) (Dq k px py m qx qy))<4294967296^8,ap (ab 0) (addM (ab 0) (Dc k px py m qx qy) (Dq k px py m qx qy)) (addM (ab 0) (Er k px py m qx qy) (DU k px py m qx qy))<4294967296^8,ap (ab 0) (aw (ab 0) (Dc k px py m qx qy) (Dq k px py m qx qy)) (addM (ab 0) (Dc k px py m qx qy) (Dq k px py m qx qy))<4294967296^8,ap (ab 0) (aw (ab 0) (Er k px py m qx qy) (DU k px py m qx qy)) (addM (ab 0) (Er k px py m qx qy) (DU k px py m qx qy))<4294967296^8,ab 0=ab 0,aA gn=aA gn,aO (ab 0)=aO (ab 0),E4.lt (E4.mk (E4.x (DH k px py m qx qy)) (E4.y (DH k px py m qx qy)) (E4.z (DH k px py m qx qy)) (E4.t (DH k px py m qx qy)))],.val (XF (Kh k px py m qx qy))):=by kernel_rfl
theorem ahM (px:Nat) (py:Nat):al E12 1000 117 [P2 px py] [true]=
  some ([gt px py=true,px<4294967296^8,py<4294967296^8,(0:Int)≤(0:Int)∧(0:Int)<(4:Int),ab 0<4294967296^8,0<ab 0,px<ab 0,0<4294967296,0<4294967296,0<4294967296,0<4294967296,0<4294967296,0<4294967296,0<4294967296,0<4294967296,px<4294967296^8],.tup [P2 (aw (ab 0) 0 px) py,.one (.i 0)]):=by kernel_rfl
theorem aid (px:Nat) (py:Nat):al E12 1000 117 [P2 px py] [false]=
  some ([gt px py=false,px<4294967296^8,py<4294967296^8],.tup [noC,.one (.i 7)]):=by kernel_rfl
theorem agK (k:Nat) (px:Nat) (py:Nat) (m:Nat) (qx:Nat) (qy:Nat):al E12 1000 118 [N8 k,P2 px py,N8 m,P2 qx qy] [true,true]=
  some ([gt px py=true,px<4294967296^8,py<4294967296^8,gt qx qy=true,qx<4294967296^8,qy<4294967296^8,ab 0<4294967296^8,aT 0<4294967296,dO<4294967296^8,px<4294967296^8,py<4294967296^8,ab 0=ab 0,aT 0=aT 0,dO=dO,px<ab 0,py<ab 0,ab 0<4294967296^8,aT 0<4294967296,dO<4294967296^8,k<4294967296^8,aq (ab 0) px<4294967296^8,aq (ab 0) py<4294967296^8,aq (ab 0) 1<4294967296^8,ap (ab 0) (aq (ab 0) px) (aq (ab 0) py)<4294967296^8,ab 0=ab 0,aT 0=aT 0,dO=dO,E4.lt (dS px py),ab 0<4294967296^8,aT 0<4294967296,dO<4294967296^8,qx<4294967296^8,qy<4294967296^8,ab 0=ab 0,aT 0=aT 0,dO=dO,qx<ab 0,qy<ab 0,ab 0<4294967296^8,aT 0<4294967296,dO<4294967296^8,m<4294967296^8,aq (ab 0) qx<4294967296^8,aq (ab 0) qy<4294967296^8,aq (ab 0) 1<4294967296^8,ap (ab 0) (aq (ab 0) qx) (aq (ab 0) qy)<4294967296^8,ab 0=ab 0,aT 0=aT 0,dO=dO,E4.lt (dS qx qy),ab 0<4294967296^8,aT 0<4294967296,dO<4294967296^8,(kx k px py).1<4294967296^8,(kx k px py).2<4294967296^8,(kx k px py).3<4294967296^8,(kx k px py).4<4294967296^8,(m6 m qx qy).1<4294967296^8,(m6 m qx qy).2<4294967296^8,(m6 m qx qy).3<4294967296^8,(m6 m qx qy).4<4294967296^8,ab 0=ab 0,aT 0=aT 0,dO=dO,E4.lt (Ru k px py),E4.lt (acW m qx qy),ab 0<4294967296^8,aT 0<4294967296,dO<4294967296^8,ap (ab 0) (aw (ab 0) (Er k px py m qx qy) (DU k px py m qx qy)) (aw (ab 0) (Dc k px py m qx qy) (Dq k px py m qx qy))<4294967296^8,ap (ab 0) (addM (ab 0) (Dc k px py m qx qy) (Dq k px py m qx qy)) (addM (ab 0) (Er k px py m qx qy) (DU k px py m qx qy))<4294967296^8,ap (ab 0) (aw (ab 0) (Dc k px py m qx qy) (Dq k px py m qx qy)) (addM (ab 0) (Dc k px py m qx qy) (Dq k px py m qx qy))<4294967296^8,ap (ab 0) (aw (ab 0) (Er k px py m qx qy) (DU k px py m qx qy)) (addM (ab 0) (Er k px py m qx qy) (DU k px py m qx qy))<4294967296^8,ab 0=ab 0,aT 0=aT 0,dO=dO,E4.lt (E4.mk (E4.x (DH k px py m qx qy)) (E4.y (DH k px py m qx qy)) (E4.z (DH k px py m qx qy)) (E4.t (DH k px py m qx qy)))],.tup [XF (Kh k px py m qx qy),.one (.i 0)]):=by kernel_rfl
theorem SB {px py:Nat} (hp:gt px py=true):Spec 181 [P2 px py] (.val (P2 (aw (ab 0) 0 px) py)):=by
 obtain ⟨h1,h2⟩:=ka hp
 exact af rN rfl (apF px py) (by refine ⟨(by decide),(aC (by decide)),(ae _),?_,bL,bL,bL,bL,bL,bL,bL,bL,?_,trivial⟩<;>first|with_reducible assumption|with_reducible exact L8 (by with_reducible assumption)|exact decide_eq_true (by omega)|exact decide_eq_false (by omega)|omega) rfl rfl
theorem S' {k px py:Nat} (hk:k<4294967296^8) (hp:gt px py=true):Spec 110 [N8 k,P2 px py] (.val (XF (Mr k px py))):=by
 obtain ⟨h1,h2⟩:=ka hp
 exact af rN rfl (aoj k px py) (by refine ⟨(by decide),(aj _),(bv _),(L8 (du (by decide))),rfl,rfl,rfl,(aj _),(bv _),(L8 (du (by decide))),?_,?_,rfl,rfl,rfl,?_,?_,(aj _),(bv _),(L8 (du (by decide))),(L8 fe),?_,(L8 (au (ae _))),(L8 (au (ae _))),(L8 (au (ae _))),(L8 (ai (ae _))),rfl,rfl,rfl,rfl,(by first|with_reducible assumption|exact eT _ _|exact dW _ _|exact az _ _|exact hxx),(aj _),(bv _),(L8 (du (by decide))),(by first|with_reducible exact E4.ltx (az _ _)|with_reducible exact E4.lty (az _ _)|with_reducible exact E4.ltz (az _ _)|with_reducible exact E4.ltt (az _ _)),(by first|with_reducible exact E4.ltx (az _ _)|with_reducible exact E4.lty (az _ _)|with_reducible exact E4.ltz (az _ _)|with_reducible exact E4.ltt (az _ _)),(by first|with_reducible exact E4.ltx (az _ _)|with_reducible exact E4.lty (az _ _)|with_reducible exact E4.ltz (az _ _)|with_reducible exact E4.ltt (az _ _)),(by first|with_reducible exact E4.ltx (az _ _)|with_reducible exact E4.lty (az _ _)|with_reducible exact E4.ltz (az _ _)|with_reducible exact E4.ltt (az _ _)),rfl,rfl,rfl,(by first|with_reducible assumption|exact eT _ _|exact dW _ _|exact az _ _|exact hxx),trivial⟩<;>first|with_reducible assumption|with_reducible exact L8 (by with_reducible assumption)|exact decide_eq_true (by omega)|exact decide_eq_false (by omega)|omega) rfl rfl
theorem QD {k px py m qx qy:Nat} (hk:k<4294967296^8) (hm:m<4294967296^8) (hp:gt px py=true) (hq:gt qx qy=true):Spec 180 [N8 k,P2 px py,N8 m,P2 qx qy] (.val (XF (Kh k px py m qx qy))):=by
 obtain ⟨h1,h2⟩:=ka hp
 obtain ⟨h3,h4⟩:=ka hq
 exact af rN rfl (ana k px py m qx qy) (by refine ⟨(by decide),(aj _),(bv _),(L8 (du (by decide))),rfl,rfl,rfl,(aj _),(bv _),(L8 (du (by decide))),?_,?_,rfl,rfl,rfl,?_,?_,(aj _),(bv _),(L8 (du (by decide))),(L8 fe),?_,(L8 (au (ae _))),(L8 (au (ae _))),(L8 (au (ae _))),(L8 (ai (ae _))),rfl,rfl,rfl,rfl,(by first|with_reducible assumption|exact eT _ _|exact dW _ _|exact az _ _|exact hxx),(aj _),(bv _),(L8 (du (by decide))),?_,?_,rfl,rfl,rfl,?_,?_,(aj _),(bv _),(L8 (du (by decide))),(L8 fe),?_,(L8 (au (ae _))),(L8 (au (ae _))),(L8 (au (ae _))),(L8 (ai (ae _))),rfl,rfl,rfl,rfl,(by first|with_reducible assumption|exact eT _ _|exact dW _ _|exact az _ _|exact hxx),(aj _),(bv _),(L8 (du (by decide))),(L8 fe),(by first|with_reducible exact E4.ltx (az _ _)|with_reducible exact E4.lty (az _ _)|with_reducible exact E4.ltz (az _ _)|with_reducible exact E4.ltt (az _ _)),(by first|with_reducible exact E4.ltx (az _ _)|with_reducible exact E4.lty (az _ _)|with_reducible exact E4.ltz (az _ _)|with_reducible exact E4.ltt (az _ _)),(by first|with_reducible exact E4.ltx (az _ _)|with_reducible exact E4.lty (az _ _)|with_reducible exact E4.ltz (az _ _)|with_reducible exact E4.ltt (az _ _)),(by first|with_reducible exact E4.ltx (az _ _)|with_reducible exact E4.lty (az _ _)|with_reducible exact E4.ltz (az _ _)|with_reducible exact E4.ltt (az _ _)),(by first|with_reducible exact E4.ltx (az _ _)|with_reducible exact E4.lty (az _ _)|with_reducible exact E4.ltz (az _ _)|with_reducible exact E4.ltt (az _ _)),(by first|with_reducible exact E4.ltx (az _ _)|with_reducible exact E4.lty (az _ _)|with_reducible exact E4.ltz (az _ _)|with_reducible exact E4.ltt (az _ _)),(by first|with_reducible exact E4.ltx (az _ _)|with_reducible exact E4.lty (az _ _)|with_reducible exact E4.ltz (az _ _)|with_reducible exact E4.ltt (az _ _)),(by first|with_reducible exact E4.ltx (az _ _)|with_reducible exact E4.lty (az _ _)|with_reducible exact E4.ltz (az _ _)|with_reducible exact E4.ltt (az _ _)),rfl,rfl,rfl,rfl,(by first|with_reducible assumption|exact eT _ _|exact dW _ _|exact az _ _|exact hxx),(by first|with_reducible assumption|exact eT _ _|exact dW _ _|exact az _ _|exact hxx),(aj _),(bv _),(L8 (du (by decide))),(L8 (ai (ae _))),(L8 (ai (ae _))),(L8 (ai (ae _))),(L8 (ai (ae _))),rfl,rfl,rfl,(by first|with_reducible assumption|exact eT _ _|exact dW _ _|exact az _ _|exact hxx),trivial⟩<;>first|with_reducible assumption|with_reducible exact L8 (by with_reducible assumption)|exact decide_eq_true (by omega)|exact decide_eq_false (by omega)|omega) rfl rfl
noncomputable def Yi (u:Bool):List Val→Option (List Prop×AV)
 |[.n px,.n py]=>some ([gt px py=u],.tup [bif u then P2 (aw (ab 0) 0 px) py else noP,.one (.i (bif u then 0 else 7))])
 |_=>none
theorem aiQ (u:Bool):aU ⟨117,dU [BN] (Yi u)⟩:=jE (by
 intro xs ob r hb h ho
 unfold Yi at h
 split at h
 ·rename_i px py
  obtain ⟨rfl,rfl⟩:=sI h
  obtain ⟨⟨b1,b2,_⟩,_⟩:=hb
  obtain ⟨hu,_⟩:=ho
  cases u with
  |false=>exact (af rN rfl (aid px py) (by refine ⟨?_,?_,?_,trivial⟩<;>first|with_reducible assumption|with_reducible exact L8 (by with_reducible assumption)|exact decide_eq_true (by omega)|exact decide_eq_false (by omega)|omega) rfl rfl).congr (fun _=>rfl) (fun _=>by simp only[AV.conc,List.map_cons,List.map_nil,OX,Bool.false_and,Bool.and_false,cond_false])
  |true=>
   obtain ⟨h1,h2⟩:=ka hu
   exact af rN rfl (ahM px py) (by refine ⟨?_,?_,?_,(by decide),(aj _),(ae _),?_,bL,bL,bL,bL,bL,bL,bL,bL,?_,trivial⟩<;>first|with_reducible assumption|with_reducible exact L8 (by with_reducible assumption)|exact decide_eq_true (by omega)|exact decide_eq_false (by omega)|omega) rfl rfl
 ·simp at h)
noncomputable def ZN:List Val→Option (List Prop×AV)
 |[.n px,.n py]=>some ([gt px py=true],.val (P2 (aw (ab 0) 0 px) py))
 |_=>none
theorem ail:aU ⟨181,dU [BN] ZN⟩:=jE (by
 intro xs ob r hb h ho
 unfold ZN at h
 split at h
 ·rename_i px py
  obtain ⟨rfl,rfl⟩:=sI h
  obtain _:=hb
  exact SB ho.1
 ·simp at h)
def xg:List V1→Option (List Prop×AV):=xA fun a=> .val (sS (bQ (rv 32 a)))
theorem Cw:aU ⟨86,xg⟩:=fun _ _ _ h ho=>ej (fun a _=>LZ a) h ho
theorem I5:aU ⟨113,xg⟩:=fun _ _ _ h ho=>ej (fun a _=>QX a) h ho
noncomputable def EOf:Env:=cd [⟨86,xg⟩,⟨113,xg⟩] iA
theorem M9:EnvOK EOf:=aF (L:=[⟨86,xg⟩,⟨113,xg⟩]) ⟨Cw,I5,trivial⟩ _
def Cr (y t:Nat):Nat:=(y%4294967296+4294967296*(y/4294967296%4294967296+4294967296*(y/4294967296/4294967296%4294967296+4294967296*(y/4294967296/4294967296/4294967296%4294967296+4294967296*(y/4294967296/4294967296/4294967296/4294967296%4294967296+4294967296*(y/4294967296/4294967296/4294967296/4294967296/4294967296%4294967296+4294967296*(y/4294967296/4294967296/4294967296/4294967296/4294967296/4294967296%4294967296+4294967296*(t+4294967296*0))))))))
def g9 (y:Nat):Nat:=y/4294967296/4294967296/4294967296/4294967296/4294967296/4294967296/4294967296%4294967296
theorem IZ (y t:Nat):Cr y t=y%26959946667150639794667015087019630673637144422540572481103610249216+26959946667150639794667015087019630673637144422540572481103610249216*t:=by
 have hv:aW 7 0 (ak y)=y%26959946667150639794667015087019630673637144422540572481103610249216:=by
  rw[sM,Nat.pow_zero,Nat.div_one]
 have e:Cr y t=aW 7 0 (ak y)+26959946667150639794667015087019630673637144422540572481103610249216*t:=by
  unfold Cr
  simp only[Nat.div_div_eq_div_mul,aW,ak,Nat.zero_add,Nat.reduceAdd,Nat.pow_zero,Nat.div_one,Nat.pow_one,Nat.reducePow,Nat.reduceMul]
  generalize y/6277101735386680763835789423207666416102355444464034512896%4294967296=d6
  generalize y/1461501637330902918203684832716283019655932542976%4294967296=d5
  generalize y/340282366920938463463374607431768211456%4294967296=d4
  generalize y/79228162514264337593543950336%4294967296=d3
  generalize y/18446744073709551616%4294967296=d2
  generalize y/4294967296%4294967296=d1
  generalize y%4294967296=d0
  omega
 rw[e,hv]
theorem uF (y:Nat) (h:y<4294967296^8):g9 y=y/26959946667150639794667015087019630673637144422540572481103610249216∧y=y%26959946667150639794667015087019630673637144422540572481103610249216+26959946667150639794667015087019630673637144422540572481103610249216*g9 y:=by
 have hq:y/26959946667150639794667015087019630673637144422540572481103610249216=y/4294967296/4294967296/4294967296/4294967296/4294967296/4294967296/4294967296:=by simp only[Nat.div_div_eq_div_mul,Nat.reduceMul]
 have hm:=Nat.div_add_mod y 26959946667150639794667015087019630673637144422540572481103610249216
 have hlt:y/26959946667150639794667015087019630673637144422540572481103610249216<4294967296:=Nat.div_lt_of_lt_mul (by clear hq;omega)
 have:g9 y=y/26959946667150639794667015087019630673637144422540572481103610249216:=by unfold g9;rw[←hq,Nat.mod_eq_of_lt hlt]
 clear hq
 exact ⟨this,by rw[this];omega⟩
def tpk (x y:Nat):Nat:=g9 y%4294967296|||(x%4294967296%4294967296&&&1%4294967296)*2^31%4294967296%4294967296
def dZ (x y:Nat):ByteArray:=bQ (rv 32 (y+57896044618658097711785492504343953926634992332820282019728792003956564819968*(x%2)))
theorem C7 (x:Nat):x%4294967296%4294967296&&&1%4294967296=x%2:=by
 rw[show (1%4294967296:Nat)=2^1-1 from rfl,Nat.and_two_pow_sub_one_eq_mod];omega
theorem aa8 (x y:Nat) (h:y<57896044618658097711785492504343953926634992332820282019728792003956564819968):Cr y (tpk x y)=y+57896044618658097711785492504343953926634992332820282019728792003956564819968*(x%2):=by
 obtain ⟨h1,h2⟩:=uF y (by omega)
 have hlt:g9 y<2^31:=by omega
 have hx:x%2<2:=Nat.mod_lt _ (by decide)
 have:tpk x y=g9 y+x%2*2^31:=by
  unfold tpk
  rw[C7,Nat.mod_eq_of_lt (show g9 y<4294967296 by omega),Nat.mod_eq_of_lt (show x%2*2^31<4294967296 by omega),Nat.mod_eq_of_lt (show x%2*2^31<4294967296 by omega)]
  exact YR (k:=31) _ hlt
 rw[IZ,this]
 omega
theorem YH (x y:Nat):tpk x y<4294967296:=ud (Nat.mod_lt _ (by decide)) (Nat.mod_lt _ (by decide))
theorem bn (x:Nat):x%4294967296<4294967296:=Nat.mod_lt _ (by decide)
theorem r82 (x:Nat) (y:Nat):al EOf 1000 120 [P2 x y] []=
  some ([y%4294967296<4294967296,y/4294967296%4294967296<4294967296,y/4294967296/4294967296%4294967296<4294967296,y/4294967296/4294967296/4294967296%4294967296<4294967296,y/4294967296/4294967296/4294967296/4294967296%4294967296<4294967296,y/4294967296/4294967296/4294967296/4294967296/4294967296%4294967296<4294967296,y/4294967296/4294967296/4294967296/4294967296/4294967296/4294967296%4294967296<4294967296,y/4294967296/4294967296/4294967296/4294967296/4294967296/4294967296/4294967296%4294967296%4294967296|||(x%4294967296%4294967296&&&1%4294967296)*2147483648%4294967296%4294967296<4294967296],.val (sS (bQ (rv 32 (Cr y (tpk x y)))))):=by kernel_rfl
theorem RC (x y:Nat) (h:y<57896044618658097711785492504343953926634992332820282019728792003956564819968):Spec 120 [P2 x y] (.val (sS (dZ x y))):=by
 have:=af M9 rfl (r82 x y) ⟨bn _,bn _,bn _,bn _,bn _,bn _,bn _,YH x y,trivial⟩ rfl rfl
 rw[aa8 x y h] at this
 exact this
def byU (n:Nat):Nat:=(UInt8.ofNat n).toNat
def pkL (x y:Nat):List Nat:=(List.range 31).map (fun j=>byU (y/256^j%256))++[byU (y/256^31%256)%256|||(x%4294967296%4294967296&&&1%4294967296)%256*2^7%256%256]
theorem r48 (x y:Nat):al EOf 1000 109 [P2 x y] []=some ([y<4294967296^8],.val (sS (bQ (pkL x y)))):=by kernel_rfl
theorem MV (n:Nat):byU (n%256)=n%256:=by unfold byU;simp
theorem adQ (x y:Nat) (h:y<57896044618658097711785492504343953926634992332820282019728792003956564819968):pkL x y=rv 32 (y+57896044618658097711785492504343953926634992332820282019728792003956564819968*(x%2)):=by
 have hx:x%2<2:=Nat.mod_lt _ (by decide)
 unfold pkL rv
 have e31:List.range 32=List.range 31++[31]:=rfl
 rw[e31,List.map_append]
 congr 1
 ·refine List.map_congr_left fun j hj=> ?_
  have hj:j<31:=by simpa using hj
  rw[MV]
  have e:57896044618658097711785492504343953926634992332820282019728792003956564819968*(x%2)=256^j*(256*(256^(30-j)*(128*(x%2)))):=by
   rw[←Nat.mul_assoc,←Nat.mul_assoc,←Nat.pow_succ,←Nat.pow_add,show j+1+(30-j)=31 by omega,←Nat.mul_assoc]
  rw[e,Nat.add_mul_div_left _ _ (Nat.pow_pos (by decide))]
  omega
 ·simp only[List.map_cons,List.map_nil,List.cons.injEq,and_true]
  rw[MV,C7]
  have hz:y/256^31<128:=Nat.div_lt_of_lt_mul (by omega)
  have e:57896044618658097711785492504343953926634992332820282019728792003956564819968*(x%2)=256^31*(128*(x%2)):=by rw[←Nat.mul_assoc]
  rw[e,Nat.add_mul_div_left _ _ (by decide)]
  generalize y/256^31=z at*
  rw[Nat.mod_eq_of_lt (show z%256<256 by omega),Nat.mod_eq_of_lt (show z<256 by omega),Nat.mod_eq_of_lt (show x%2<256 by omega),Nat.mod_eq_of_lt (show x%2*2^7<256 by omega),Nat.mod_eq_of_lt (show x%2*2^7<256 by omega)]
  rw[YR (k:=7) (x%2) (show z<2^7 by omega)]
  omega
theorem R8 (x y:Nat) (h:y<57896044618658097711785492504343953926634992332820282019728792003956564819968):Spec 109 [P2 x y] (.val (sS (dZ x y))):=by
 have:=af M9 rfl (r48 x y) ⟨by omega,trivial⟩ rfl rfl
 rw[adQ x y h] at this
 exact this
noncomputable def pQ (y:Nat):Nat:=ap (ab 0) (aq (ab 0) y) (aq (ab 0) y)
noncomputable def bwE (y:Nat):Nat:=addM (ab 0) (aq (ab 0) 1) (ap (ab 0) (aq (ab 0) dN) (pQ y))
noncomputable def uE (y:Nat):Nat:=ci (ab 0) (ap (ab 0) (aw (ab 0) (pQ y) (aq (ab 0) 1)) (cI (ab 0) (bwE y)))
noncomputable def L86:List CT:=⟨202,cV (.val (N8 dN))⟩::L4
theorem Yt:bw L86:=⟨tG C5,IV⟩
theorem r86 (y:Nat):al (cd L86 iA) 1000 168 [N8 y] []=
  some ([(0:Int)≤(0:Int)∧(0:Int)<(4:Int),ab 0<4294967296^8,0<ab 0,1<4294967296,0<4294967296,0<4294967296,0<4294967296,0<4294967296,0<4294967296,0<4294967296,0<4294967296,ab 0<4294967296^8,0<ab 0,y<4294967296^8,ab 0<4294967296^8,aq (ab 0) y<ab 0,aq (ab 0) y<ab 0,bc (ab 0) (aT 0),aq (ab 0) y<4294967296^8,aq (ab 0) y<4294967296^8,ab 0<4294967296^8,0<ab 0,dN<4294967296^8,ab 0<4294967296^8,aq (ab 0) dN<ab 0,ap (ab 0) (aq (ab 0) y) (aq (ab 0) y)<ab 0,bc (ab 0) (aT 0),aq (ab 0) dN<4294967296^8,ap (ab 0) (aq (ab 0) y) (aq (ab 0) y)<4294967296^8,ab 0<4294967296^8,aq (ab 0) 1<ab 0,ap (ab 0) (aq (ab 0) dN) (ap (ab 0) (aq (ab 0) y) (aq (ab 0) y))<ab 0,aq (ab 0) 1<4294967296^8,ap (ab 0) (aq (ab 0) dN) (ap (ab 0) (aq (ab 0) y) (aq (ab 0) y))<4294967296^8,ab 0<4294967296^8,ap (ab 0) (aq (ab 0) y) (aq (ab 0) y)<ab 0,aq (ab 0) 1<ab 0,ap (ab 0) (aq (ab 0) y) (aq (ab 0) y)<4294967296^8,aq (ab 0) 1<4294967296^8,ab 0<4294967296^8,addM (ab 0) (aq (ab 0) 1) (ap (ab 0) (aq (ab 0) dN) (ap (ab 0) (aq (ab 0) y) (aq (ab 0) y)))<ab 0,bc (ab 0) (aT 0),addM (ab 0) (aq (ab 0) 1) (ap (ab 0) (aq (ab 0) dN) (ap (ab 0) (aq (ab 0) y) (aq (ab 0) y)))<4294967296^8,ab 0<4294967296^8,aw (ab 0) (ap (ab 0) (aq (ab 0) y) (aq (ab 0) y)) (aq (ab 0) 1)<ab 0,cI (ab 0) (addM (ab 0) (aq (ab 0) 1) (ap (ab 0) (aq (ab 0) dN) (ap (ab 0) (aq (ab 0) y) (aq (ab 0) y))))<ab 0,bc (ab 0) (aT 0),aw (ab 0) (ap (ab 0) (aq (ab 0) y) (aq (ab 0) y)) (aq (ab 0) 1)<4294967296^8,cI (ab 0) (addM (ab 0) (aq (ab 0) 1) (ap (ab 0) (aq (ab 0) dN) (ap (ab 0) (aq (ab 0) y) (aq (ab 0) y))))<4294967296^8,ab 0<4294967296^8,ap (ab 0) (aw (ab 0) (ap (ab 0) (aq (ab 0) y) (aq (ab 0) y)) (aq (ab 0) 1)) (cI (ab 0) (addM (ab 0) (aq (ab 0) 1) (ap (ab 0) (aq (ab 0) dN) (ap (ab 0) (aq (ab 0) y) (aq (ab 0) y)))))<ab 0,bc (ab 0) (aT 0),ap (ab 0) (aw (ab 0) (ap (ab 0) (aq (ab 0) y) (aq (ab 0) y)) (aq (ab 0) 1)) (cI (ab 0) (addM (ab 0) (aq (ab 0) 1) (ap (ab 0) (aq (ab 0) dN) (ap (ab 0) (aq (ab 0) y) (aq (ab 0) y)))))<4294967296^8,ci (ab 0) (ap (ab 0) (aw (ab 0) (ap (ab 0) (aq (ab 0) y) (aq (ab 0) y)) (aq (ab 0) 1)) (cI (ab 0) (addM (ab 0) (aq (ab 0) 1) (ap (ab 0) (aq (ab 0) dN) (ap (ab 0) (aq (ab 0) y) (aq (ab 0) y))))))<4294967296^8,(0:Int)≤(0:Int)∧(0:Int)<(2:Int),ci (ab 0) (ap (ab 0) (aw (ab 0) (ap (ab 0) (aq (ab 0) y) (aq (ab 0) y)) (aq (ab 0) 1)) (cI (ab 0) (addM (ab 0) (aq (ab 0) 1) (ap (ab 0) (aq (ab 0) dN) (ap (ab 0) (aq (ab 0) y) (aq (ab 0) y))))))<ab 0],.tup [N8 (oS 0 (uE y)),.one (.v (.bool (oE 0 (uE y))))]):=by kernel_rfl
theorem Uc (y:Nat) (h:y<ab 0):Spec 168 [N8 y] (.tup [N8 (oS 0 (uE y)),.one (.v (.bool (oE 0 (uE y))))]):=by
 have hy8:=L8 h
 exact af (aF Yt iA) rfl (r86 y) ⟨(by decide),(aj _),(ae _),tR,bL,bL,bL,bL,bL,bL,bL,(aj _),(ae _),(by first|with_reducible assumption|with_reducible exact L8 (by with_reducible assumption)|exact decide_eq_true (by omega)|exact decide_eq_false (by omega)|omega),(aj _),(au (ae _)),(au (ae _)),(aK (by decide)),(L8 (au (ae _))),(L8 (au (ae _))),(aj _),(ae _),(L8 iE),(aj _),(au (ae _)),(ai (ae _)),(aK (by decide)),(L8 (au (ae _))),(L8 (ai (ae _))),(aj _),(au (ae _)),(ai (ae _)),(L8 (au (ae _))),(L8 (ai (ae _))),(aj _),(ai (ae _)),(au (ae _)),(L8 (ai (ae _))),(L8 (au (ae _))),(aj _),(ao (ae _)),(aK (by decide)),(L8 (ao (ae _))),(aj _),(av (ae _)),(cg (ae _)),(aK (by decide)),(L8 (av (ae _))),(L8 (cg (ae _))),(aj _),(ai (ae _)),(aK (by decide)),(L8 (ai (ae _))),(L8 (bj (ae _))),(by decide),(bj (ae _)),trivial⟩ rfl rfl
noncomputable def E84:Env:={E0 with S:=fun f t=>match f with|114=>bf t [7]|_=>false}
theorem ab4:EnvOK E84:=⟨mixed,envE0.fns,envE0.fms,envE0.lps,envE0.fbs⟩
theorem ank (s:ByteArray):al E84 1000 114 [sS s] [true]=some ([(!decide ((s.size:Int)=32))=true],.tup [C8 zF,.one (.i 1)]):=by kernel_rfl
def HJ (vs:List V1):Option (List Prop×AV):=match vs with|[.one (.v (.string s))]=>some ([s.size=32],.tup [N8 (aQ s),.one (.i 0)])|_=>none
def OM (vs:List V1):Option (List Prop×AV):=match vs with|[.one (.v (.string s))]=>some ([s.size≠32],.tup [N8 0,.one (.i 1)])|_=>none
def Im (vs:List V1):Option (List Prop×AV):=match vs with|[.one (.v (.string s))]=>some ([s.size=32],.val (N8 (aQ s)))|_=>none
theorem XB:aU ⟨114,HJ⟩:=by
 intro vs ob r h ho
 simp only[HJ] at h
 split at h
 ·obtain ⟨rfl,rfl⟩:=sI h
  exact Ur _ ho.1
 ·simp at h
theorem ajJ:aU ⟨114,OM⟩:=by
 intro vs ob r h ho
 simp only[OM] at h
 split at h
 ·rename_i s
  obtain ⟨rfl,rfl⟩:=sI h
  have h1:=ho.1
  refine (af ab4 rfl (ank s) ⟨by simp;omega,trivial⟩ rfl rfl).congr (fun _=>rfl) (fun φ=> ?_)
  simp only[AV.conc,List.map_cons,List.map_nil,IT]
 ·simp at h
theorem WT:aU ⟨87,Im⟩:=by
 intro vs ob r h ho
 simp only[Im] at h
 split at h
 ·obtain ⟨rfl,rfl⟩:=sI h
  exact Ux _ ho.1
 ·simp at h
def YD (q:Nat→List Prop) (g:Nat→AV) (vs:List V1):Option (List Prop×AV):=
 match vs with
 |[x]=>match el 8 x with
  |some (o,a)=>some (o++q a,g a)
  |_=>none
 |_=>none
theorem Sv {f:FuncId} {q:Nat→List Prop} {g:Nat→AV} (hg:∀a,a<4294967296^8→cL (q a)→Spec f [N8 a] (g a)):aU ⟨f,YD q g⟩:=by
 intro vs ob r h ho
 simp only[YD] at h
 split at h
 ·rename_i x
  split at h
  ·rename_i o a hx
   obtain ⟨rfl,rfl⟩:=sI h
   rw[aY] at ho
   obtain ⟨h1,h2⟩:=aX hx ho.1
   exact (hg a h1 ho.2).congr (fun φ=>by simp only[List.map_cons,List.map_nil];rw[←h2 φ];rfl) (fun _=>rfl)
  ·simp at h
 ·simp at h
noncomputable def ahD:List V1→Option (List Prop×AV):=YD (fun y=>[y<ab 0]) (fun y=> .tup [N8 (oS 0 (uE y)),.one (.v (.bool (oE 0 (uE y))))])
theorem alL:aU ⟨168,ahD⟩:=Sv fun y _ h=>Uc y h.1
noncomputable def xC:FuncId→Nat→Bool:=fun f t=>match f with|115=>bf t [20,26,33,43]|_=>false
noncomputable def Xy:List CT:=⟨114,HJ⟩::⟨168,ahD⟩::L4
theorem pU:bw Xy:=⟨XB,alL,IV⟩
noncomputable def ah4:List CT:=⟨114,OM⟩::L4
theorem RQ:bw ah4:=⟨ajJ,IV⟩
def fc (Y:Nat):Nat:=g9 Y%4294967296&&&2147483647
def ycs (Y t:Nat):List Piece:=[.a (.u .u32 (Y%4294967296)),.a (.u .u32 (Y/4294967296%4294967296)),.a (.u .u32 (Y/4294967296/4294967296%4294967296)),.a (.u .u32 (Y/4294967296/4294967296/4294967296%4294967296)),.a (.u .u32 (Y/4294967296/4294967296/4294967296/4294967296%4294967296)),.a (.u .u32 (Y/4294967296/4294967296/4294967296/4294967296/4294967296%4294967296)),.a (.u .u32 (Y/4294967296/4294967296/4294967296/4294967296/4294967296/4294967296%4294967296)),.a (.u .u32 t)]
def XT (X:Nat) (Y:Nat):V1:= .agg (.num 8 X::ycs Y (fc Y))
theorem aqk (s:ByteArray):al (cd ah4 xC) 1000 115 [sS s] []=some ([s.size≠32],.tup [m5 zF,.one (.i 1)]):=by kernel_rfl
noncomputable def yU (s:ByteArray):Nat:=Cr (aQ s) (fc (aQ s))
def mb (s:ByteArray):Bool:=decide (aQ s/57896044618658097711785492504343953926634992332820282019728792003956564819968=1)
noncomputable def xl (s:ByteArray):Nat:=oS 0 (uE (yU s))
noncomputable def KP (s:ByteArray):Bool:=oE 0 (uE (yU s))
noncomputable def dI (s:ByteArray):Int:=bif decide (s.size=32) then (bif decide (yU s<ab 0) then (bif KP s then (bif mb s&&decide (xl s=0) then 6 else 0) else 7) else 6) else 1
noncomputable def dE (s:ByteArray):Nat:=bif decide (dI s=0) then (bif mb s then aw (ab 0) 0 (xl s) else xl s) else 0
noncomputable def dX (s:ByteArray):Nat:=bif decide (dI s=0) then yU s else 0
theorem IB (Y:Nat):fc Y=g9 Y%2147483648:=by
 unfold fc
 rw[show (2147483647:Nat)=2^31-1 from rfl,Nat.and_two_pow_sub_one_eq_mod]
 have:g9 Y<4294967296:=Nat.mod_lt _ (by decide)
 rw[Nat.mod_eq_of_lt this]
theorem cm (Y:Nat):fc Y<4294967296:=by rw[IB];omega
theorem ahv (s:ByteArray) (h:s.size=32):yU s=aQ s%57896044618658097711785492504343953926634992332820282019728792003956564819968:=by
 have hl:=qc s
 rw[h] at hl
 obtain ⟨h1,h2⟩:=uF (aQ s) (by omega)
 unfold yU
 rw[IZ,IB]
 generalize g9 (aQ s)=t at*
 have hm:aQ s%26959946667150639794667015087019630673637144422540572481103610249216<26959946667150639794667015087019630673637144422540572481103610249216:=Nat.mod_lt _ (by decide)
 have hd:=Nat.div_add_mod (aQ s) 26959946667150639794667015087019630673637144422540572481103610249216
 omega
theorem ahW (x:Nat) (h:x<4294967296):(!decide (x%4294967296&&&2147483648%4294967296=0))=decide (x/2147483648=1):=by
 rw[Nat.mod_eq_of_lt h,show (2147483648%4294967296:Nat)=2^31 from rfl]
 have ha:x&&&2^31=2147483648*(x/2147483648%2):=by
  apply Nat.eq_of_testBit_eq
  intro i
  rw[Nat.testBit_and,Nat.testBit_two_pow,show (2147483648:Nat)=2^31 from rfl,Nat.testBit_two_pow_mul]
  by_cases hi:31=i
  ·subst hi
   simp[Nat.testBit_eq_decide_div_mod_eq]
  ·rw[decide_eq_false hi,Bool.and_false]
   by_cases h2:31≤i
   ·have:1≤i-31:=by omega
    have hl:x/2^31%2<2^(i-31):=Nat.lt_of_lt_of_le (Nat.mod_lt _ (by decide)) (Nat.le_trans (by decide:2≤2^1) (Nat.pow_le_pow_right (by decide) this))
    rw[Nat.testBit_lt_two_pow hl,Bool.and_false]
   ·simp[h2]
 rw[ha]
 by_cases h1:x/2147483648=1
 ·rw[h1];rfl
 ·have h0:x/2147483648=0:=by omega
  simp[h0]
theorem aaN (s:ByteArray) (h:s.size=32):(!decide (g9 (aQ s)%4294967296&&&2147483648%4294967296=0))=mb s:=by
 have hl:=qc s
 rw[h] at hl
 obtain ⟨h1,h2⟩:=uF (aQ s) (by omega)
 rw[ahW (g9 (aQ s)) (Nat.mod_lt _ (by decide))]
 unfold mb
 rw[h1,Nat.div_div_eq_div_mul]
theorem app (s:ByteArray):al (cd Xy xC) 1000 115 [sS s] [true,false]=
 some ([s.size=32,(!decide (g9 (aQ s)%4294967296&&&2147483648%4294967296=0))=true,fT 0 (yU s)=false,aQ s%4294967296<4294967296,aQ s/4294967296%4294967296<4294967296,aQ s/4294967296/4294967296%4294967296<4294967296,aQ s/4294967296/4294967296/4294967296%4294967296<4294967296,aQ s/4294967296/4294967296/4294967296/4294967296%4294967296<4294967296,aQ s/4294967296/4294967296/4294967296/4294967296/4294967296%4294967296<4294967296,aQ s/4294967296/4294967296/4294967296/4294967296/4294967296/4294967296%4294967296<4294967296,fc (aQ s)<4294967296],.tup [m5 zF,.one (.i 6)]):=by kernel_rfl
theorem alw (s:ByteArray):al (cd Xy xC) 1000 115 [sS s] [false,false]=
 some ([s.size=32,(!decide (g9 (aQ s)%4294967296&&&2147483648%4294967296=0))=false,fT 0 (yU s)=false,aQ s%4294967296<4294967296,aQ s/4294967296%4294967296<4294967296,aQ s/4294967296/4294967296%4294967296<4294967296,aQ s/4294967296/4294967296/4294967296%4294967296<4294967296,aQ s/4294967296/4294967296/4294967296/4294967296%4294967296<4294967296,aQ s/4294967296/4294967296/4294967296/4294967296/4294967296%4294967296<4294967296,aQ s/4294967296/4294967296/4294967296/4294967296/4294967296/4294967296%4294967296<4294967296,fc (aQ s)<4294967296],.tup [m5 zF,.one (.i 6)]):=by kernel_rfl
theorem ao3 (s:ByteArray):al (cd Xy xC) 1000 115 [sS s] [true,true,false]=
 some ([s.size=32,(!decide (g9 (aQ s)%4294967296&&&2147483648%4294967296=0))=true,fT 0 (yU s)=true,aQ s%4294967296<4294967296,aQ s/4294967296%4294967296<4294967296,aQ s/4294967296/4294967296%4294967296<4294967296,aQ s/4294967296/4294967296/4294967296%4294967296<4294967296,aQ s/4294967296/4294967296/4294967296/4294967296%4294967296<4294967296,aQ s/4294967296/4294967296/4294967296/4294967296/4294967296%4294967296<4294967296,aQ s/4294967296/4294967296/4294967296/4294967296/4294967296/4294967296%4294967296<4294967296,fc (aQ s)<4294967296,aQ s%4294967296<4294967296,aQ s/4294967296%4294967296<4294967296,aQ s/4294967296/4294967296%4294967296<4294967296,aQ s/4294967296/4294967296/4294967296%4294967296<4294967296,aQ s/4294967296/4294967296/4294967296/4294967296%4294967296<4294967296,aQ s/4294967296/4294967296/4294967296/4294967296/4294967296%4294967296<4294967296,aQ s/4294967296/4294967296/4294967296/4294967296/4294967296/4294967296%4294967296<4294967296,fc (aQ s)<4294967296,yU s<ab 0,KP s=false],.tup [m5 zF,.one (.i 7)]):=by kernel_rfl
theorem aoQ (s:ByteArray):al (cd Xy xC) 1000 115 [sS s] [false,true,false]=
 some ([s.size=32,(!decide (g9 (aQ s)%4294967296&&&2147483648%4294967296=0))=false,fT 0 (yU s)=true,aQ s%4294967296<4294967296,aQ s/4294967296%4294967296<4294967296,aQ s/4294967296/4294967296%4294967296<4294967296,aQ s/4294967296/4294967296/4294967296%4294967296<4294967296,aQ s/4294967296/4294967296/4294967296/4294967296%4294967296<4294967296,aQ s/4294967296/4294967296/4294967296/4294967296/4294967296%4294967296<4294967296,aQ s/4294967296/4294967296/4294967296/4294967296/4294967296/4294967296%4294967296<4294967296,fc (aQ s)<4294967296,aQ s%4294967296<4294967296,aQ s/4294967296%4294967296<4294967296,aQ s/4294967296/4294967296%4294967296<4294967296,aQ s/4294967296/4294967296/4294967296%4294967296<4294967296,aQ s/4294967296/4294967296/4294967296/4294967296%4294967296<4294967296,aQ s/4294967296/4294967296/4294967296/4294967296/4294967296%4294967296<4294967296,aQ s/4294967296/4294967296/4294967296/4294967296/4294967296/4294967296%4294967296<4294967296,fc (aQ s)<4294967296,yU s<ab 0,KP s=false],.tup [m5 zF,.one (.i 7)]):=by kernel_rfl
theorem ap2 (s:ByteArray):al (cd Xy xC) 1000 115 [sS s] [true,true,true,true]=
 some ([s.size=32,(!decide (g9 (aQ s)%4294967296&&&2147483648%4294967296=0))=true,fT 0 (yU s)=true,aQ s%4294967296<4294967296,aQ s/4294967296%4294967296<4294967296,aQ s/4294967296/4294967296%4294967296<4294967296,aQ s/4294967296/4294967296/4294967296%4294967296<4294967296,aQ s/4294967296/4294967296/4294967296/4294967296%4294967296<4294967296,aQ s/4294967296/4294967296/4294967296/4294967296/4294967296%4294967296<4294967296,aQ s/4294967296/4294967296/4294967296/4294967296/4294967296/4294967296%4294967296<4294967296,fc (aQ s)<4294967296,aQ s%4294967296<4294967296,aQ s/4294967296%4294967296<4294967296,aQ s/4294967296/4294967296%4294967296<4294967296,aQ s/4294967296/4294967296/4294967296%4294967296<4294967296,aQ s/4294967296/4294967296/4294967296/4294967296%4294967296<4294967296,aQ s/4294967296/4294967296/4294967296/4294967296/4294967296%4294967296<4294967296,aQ s/4294967296/4294967296/4294967296/4294967296/4294967296/4294967296%4294967296<4294967296,fc (aQ s)<4294967296,yU s<ab 0,KP s=true,gX (xl s)=true],.tup [m5 zF,.one (.i 6)]):=by kernel_rfl
theorem amL (s:ByteArray):al (cd Xy xC) 1000 115 [sS s] [true,true,true,false]=
 some ([s.size=32,(!decide (g9 (aQ s)%4294967296&&&2147483648%4294967296=0))=true,fT 0 (yU s)=true,aQ s%4294967296<4294967296,aQ s/4294967296%4294967296<4294967296,aQ s/4294967296/4294967296%4294967296<4294967296,aQ s/4294967296/4294967296/4294967296%4294967296<4294967296,aQ s/4294967296/4294967296/4294967296/4294967296%4294967296<4294967296,aQ s/4294967296/4294967296/4294967296/4294967296/4294967296%4294967296<4294967296,aQ s/4294967296/4294967296/4294967296/4294967296/4294967296/4294967296%4294967296<4294967296,fc (aQ s)<4294967296,aQ s%4294967296<4294967296,aQ s/4294967296%4294967296<4294967296,aQ s/4294967296/4294967296%4294967296<4294967296,aQ s/4294967296/4294967296/4294967296%4294967296<4294967296,aQ s/4294967296/4294967296/4294967296/4294967296%4294967296<4294967296,aQ s/4294967296/4294967296/4294967296/4294967296/4294967296%4294967296<4294967296,aQ s/4294967296/4294967296/4294967296/4294967296/4294967296/4294967296%4294967296<4294967296,fc (aQ s)<4294967296,yU s<ab 0,KP s=true,gX (xl s)=false,(0:Int)≤0∧(0:Int)<4,ab 0<4294967296^8,0<ab 0,xl s<ab 0,0<4294967296,0<4294967296,0<4294967296,0<4294967296,0<4294967296,0<4294967296,0<4294967296,0<4294967296,xl s<4294967296^8],.tup [XT (aw (ab 0) 0 (xl s)) (aQ s),.one (.i 0)]):=by kernel_rfl
theorem amF (s:ByteArray):al (cd Xy xC) 1000 115 [sS s] [false,true,true]=
 some ([s.size=32,(!decide (g9 (aQ s)%4294967296&&&2147483648%4294967296=0))=false,fT 0 (yU s)=true,aQ s%4294967296<4294967296,aQ s/4294967296%4294967296<4294967296,aQ s/4294967296/4294967296%4294967296<4294967296,aQ s/4294967296/4294967296/4294967296%4294967296<4294967296,aQ s/4294967296/4294967296/4294967296/4294967296%4294967296<4294967296,aQ s/4294967296/4294967296/4294967296/4294967296/4294967296%4294967296<4294967296,aQ s/4294967296/4294967296/4294967296/4294967296/4294967296/4294967296%4294967296<4294967296,fc (aQ s)<4294967296,aQ s%4294967296<4294967296,aQ s/4294967296%4294967296<4294967296,aQ s/4294967296/4294967296%4294967296<4294967296,aQ s/4294967296/4294967296/4294967296%4294967296<4294967296,aQ s/4294967296/4294967296/4294967296/4294967296%4294967296<4294967296,aQ s/4294967296/4294967296/4294967296/4294967296/4294967296%4294967296<4294967296,aQ s/4294967296/4294967296/4294967296/4294967296/4294967296/4294967296%4294967296<4294967296,fc (aQ s)<4294967296,yU s<ab 0,KP s=true],.tup [XT (xl s) (aQ s),.one (.i 0)]):=by kernel_rfl
theorem Oc (φ:c7) (Y:Nat):an φ (ycs Y (fc Y))=an φ [.num 8 (Cr Y (fc Y))]:=by
 have h:=se 8 (ycs Y (fc Y)) (o:=[Y%4294967296<4294967296,Y/4294967296%4294967296<4294967296,Y/4294967296/4294967296%4294967296<4294967296,Y/4294967296/4294967296/4294967296%4294967296<4294967296,Y/4294967296/4294967296/4294967296/4294967296%4294967296<4294967296,Y/4294967296/4294967296/4294967296/4294967296/4294967296%4294967296<4294967296,Y/4294967296/4294967296/4294967296/4294967296/4294967296/4294967296%4294967296<4294967296,fc (Y)<4294967296]) (x:=Cr Y (fc Y)) rfl ⟨bn _,bn _,bn _,bn _,bn _,bn _,bn _,cm _,trivial⟩
 rw[h.2 φ]
 simp[an,Piece.conc]
theorem Lv (φ:c7) (X:Nat) (s:ByteArray):(XT X (aQ s)).conc φ=(P2 X (yU s)).conc φ:=by
 have e:an φ ([.num 8 X]++ycs (aQ s) (fc (aQ s)))=an φ ([.num 8 X]++[.num 8 (yU s)]):=by
  rw[bb,Oc,bb];rfl
 exact congrArg (fun l=>Value.agg (List.toArray l)) e
theorem OF (φ:c7):(m5 zF).conc φ=(P2 0 0).conc φ:=by
 have e:an φ (bp 8 0 zF++bp 8 0 zF)=an φ ([.num 8 0]++[.num 8 0]):=by
  rw[bb,←gU,←fv,bb]
 exact congrArg (fun l=>Value.agg (List.toArray l)) e
theorem ov (x:Nat) (h:x<4294967296^8):gX x=decide (x=0):=jo h
theorem nv (φ:c7) (X:Nat) (s:ByteArray):(AV.tup [XT X (aQ s),.one (.i 0)]).conc φ=(AV.tup [P2 X (yU s),.one (.i 0)]).conc φ:=by
 simp only[AV.conc,List.map_cons,List.map_nil,Lv]
theorem fO (φ:c7) (z:Int):(AV.tup [m5 zF,.one (.i z)]).conc φ=(AV.tup [P2 0 0,.one (.i z)]).conc φ:=by
 simp only[AV.conc,List.map_cons,List.map_nil,OF]
theorem Il (s:ByteArray) {z:Int} (h:dI s=z) (h0:z≠0):dE s=0∧dX s=0:=by
 have hd:decide (dI s=0)=false:=decide_eq_false (by rw[h];exact h0)
 constructor
 ·unfold dE;rw[hd,cond_false]
 ·unfold dX;rw[hd,cond_false]
theorem rE (s:ByteArray) (h:dI s=0):dE s=(bif mb s then aw (ab 0) 0 (xl s) else xl s)∧dX s=yU s:=by
 have hd:decide (dI s=0)=true:=decide_eq_true h
 constructor
 ·unfold dE;rw[hd,cond_true]
 ·unfold dX;rw[hd,cond_true]
theorem Wz (x:Nat):fT 0 x=decide (x<ab 0):=Ej
theorem Wd (s:ByteArray):Spec 115 [sS s] (.tup [P2 (dE s) (dX s),.one (.i (dI s))]):=by
 have hE0:∀{z:Int},dI s=z→z≠0→dE s=0∧dX s=0:=fun h h0=>Il s h h0
 by_cases h:s.size=32
 ·have ho:=aaN s h
  by_cases hy:yU s<ab 0
  ·have hy':fT 0 (yU s)=true:=by rw[Wz];exact decide_eq_true hy
   have hev:xl s<ab 0:=pN (by decide)
   cases hs:KP s with
   |false=>
    have e:dI s=7:=by unfold dI;rw[decide_eq_true h,decide_eq_true hy,hs];rfl
    obtain ⟨e1,e2⟩:=hE0 e (by decide)
    rw[e,e1,e2]
    cases hod:mb s with
    |true=>exact (af (aF pU xC) rfl (ao3 s) ⟨h,by rw[ho,hod],hy',bn _,bn _,bn _,bn _,bn _,bn _,bn _,cm _,bn _,bn _,bn _,bn _,bn _,bn _,bn _,cm _,hy,hs,trivial⟩ rfl rfl).congr (fun _=>rfl) (fun φ=>fO φ 7)
    |false=>exact (af (aF pU xC) rfl (aoQ s) ⟨h,by rw[ho,hod],hy',bn _,bn _,bn _,bn _,bn _,bn _,bn _,cm _,bn _,bn _,bn _,bn _,bn _,bn _,bn _,cm _,hy,hs,trivial⟩ rfl rfl).congr (fun _=>rfl) (fun φ=>fO φ 7)
   |true=>
    cases hod:mb s with
    |true=>
     by_cases hz:xl s=0
     ·have e:dI s=6:=by unfold dI;rw[decide_eq_true h,decide_eq_true hy,hs,hod,decide_eq_true hz];rfl
      obtain ⟨e1,e2⟩:=hE0 e (by decide)
      rw[e,e1,e2]
      exact (af (aF pU xC) rfl (ap2 s) ⟨h,by rw[ho,hod],hy',bn _,bn _,bn _,bn _,bn _,bn _,bn _,cm _,bn _,bn _,bn _,bn _,bn _,bn _,bn _,cm _,hy,hs,by rw[ov _ (L8 hev)];exact decide_eq_true hz,trivial⟩ rfl rfl).congr (fun _=>rfl) (fun φ=>fO φ 6)
     ·have e:dI s=0:=by unfold dI;rw[decide_eq_true h,decide_eq_true hy,hs,hod,decide_eq_false hz];rfl
      obtain ⟨e1,e2⟩:=rE s e
      rw[e,e1,e2,hod,cond_true]
      exact (af (aF pU xC) rfl (amL s) ⟨h,by rw[ho,hod],hy',bn _,bn _,bn _,bn _,bn _,bn _,bn _,cm _,bn _,bn _,bn _,bn _,bn _,bn _,bn _,cm _,hy,hs,by rw[ov _ (L8 hev)];exact decide_eq_false hz,by decide,aj _,ae _,hev,by decide,by decide,by decide,by decide,by decide,by decide,by decide,by decide,L8 hev,trivial⟩ rfl rfl).congr (fun _=>rfl) (fun φ=>nv φ _ s)
    |false=>
     have e:dI s=0:=by unfold dI;rw[decide_eq_true h,decide_eq_true hy,hs,hod];rfl
     obtain ⟨e1,e2⟩:=rE s e
     rw[e,e1,e2,hod,cond_false]
     exact (af (aF pU xC) rfl (amF s) ⟨h,by rw[ho,hod],hy',bn _,bn _,bn _,bn _,bn _,bn _,bn _,cm _,bn _,bn _,bn _,bn _,bn _,bn _,bn _,cm _,hy,hs,trivial⟩ rfl rfl).congr (fun _=>rfl) (fun φ=>nv φ _ s)
  ·have hy':fT 0 (yU s)=false:=by rw[Wz];exact decide_eq_false hy
   have e:dI s=6:=by unfold dI;rw[decide_eq_true h,decide_eq_false hy];rfl
   obtain ⟨e1,e2⟩:=hE0 e (by decide)
   rw[e,e1,e2]
   cases hod:mb s with
   |true=>exact (af (aF pU xC) rfl (app s) ⟨h,by rw[ho,hod],hy',bn _,bn _,bn _,bn _,bn _,bn _,bn _,cm _,trivial⟩ rfl rfl).congr (fun _=>rfl) (fun φ=>fO φ 6)
   |false=>exact (af (aF pU xC) rfl (alw s) ⟨h,by rw[ho,hod],hy',bn _,bn _,bn _,bn _,bn _,bn _,bn _,cm _,trivial⟩ rfl rfl).congr (fun _=>rfl) (fun φ=>fO φ 6)
 ·have e:dI s=1:=by unfold dI;rw[decide_eq_false h];rfl
  obtain ⟨e1,e2⟩:=hE0 e (by decide)
  rw[e,e1,e2]
  exact (af (aF RQ xC) rfl (aqk s) ⟨h,trivial⟩ rfl rfl).congr (fun _=>rfl) (fun φ=>fO φ 1)
def acQ:List Val→Option (List Prop×AV)
 |[.z z,.n a]=>some ([z=0,a<ab 0],.tup [N8 (bif oE 0 a then oS 0 a else 0),.one (.v (.bool (oE 0 a)))])
 |_=>none
theorem aig:aU ⟨210,dU [.z,.s [.n8]] acQ⟩:=jE (by
 intro xs ob r hb h ho
 unfold acQ at h
 split at h
 ·obtain ⟨rfl,rfl⟩:=sI h
  obtain ⟨rfl,ha,_⟩:=ho
  exact Nb _ ha
 ·simp at h)
noncomputable def PR:List CT:=⟨87,Im⟩::⟨201,cV (.val (N8 dN))⟩::⟨210,dU [.z,.s [.n8]] acQ⟩::L4
theorem mC:bw PR:=⟨WT,tG Iu,aig,IV⟩
noncomputable def xG:FuncId→Nat→Bool:=fun f t=>match f with|179=>bf t [17,24,78,84]|88=>bf t [21]|_=>false
noncomputable def pp (y:Nat):Nat:=addM (ab 0) (ap (ab 0) (aq (ab 0) dN) (pQ y)) (aq (ab 0) 1)
noncomputable def DS (y:Nat):Nat:=ci (ab 0) (ap (ab 0) (aw (ab 0) (pQ y) (aq (ab 0) 1)) (cI (ab 0) (pp y)))
noncomputable def t6:Nat:=aq (ab 0) 1
noncomputable def Jq:Nat:=aq (ab 0) dN
noncomputable def ue (y:Nat):Nat:=aq (ab 0) y
noncomputable def KG (y:Nat):Nat:=ap (ab 0) Jq (pQ y)
noncomputable def JU (y:Nat):Nat:=am (ab 0) (pp y) (bh (ab 0) 2)
noncomputable def rI (y:Nat):Nat:=aw (ab 0) (pQ y) t6
noncomputable def tM (y:Nat):Nat:=ap (ab 0) (rI y) (JU y)
noncomputable def PY (y:Nat):Nat:=bif oE 0 (DS y) then oS 0 (DS y) else 0
noncomputable def Xq (y:Nat):Bool:=oE 0 (DS y)
theorem anH (s:ByteArray):al (cd PR xG) 1000 179 [sS s] [true]=some ([(!decide ((s.size:Int)=32))=true],.tup [m5 zF,.one (.i 1)]):=by kernel_rfl
theorem aiJ (s:ByteArray):al (cd PR xG) 1000 179 [sS s] [false,true,false]=
 some ([(!decide ((s.size:Int)=32))=false,s.size=32,decide (g9 (aQ s)/2147483648=1)=true,(0:Int)≤0∧(0:Int)<4,decide (yU s<ab 0)=false,aQ s%4294967296<4294967296,aQ s/4294967296%4294967296<4294967296,aQ s/4294967296/4294967296%4294967296<4294967296,aQ s/4294967296/4294967296/4294967296%4294967296<4294967296,aQ s/4294967296/4294967296/4294967296/4294967296%4294967296<4294967296,aQ s/4294967296/4294967296/4294967296/4294967296/4294967296%4294967296<4294967296,aQ s/4294967296/4294967296/4294967296/4294967296/4294967296/4294967296%4294967296<4294967296,fc (aQ s)<4294967296,ab 0<4294967296^8],.tup [m5 zF,.one (.i 6)]):=by kernel_rfl
theorem afX (s:ByteArray):al (cd PR xG) 1000 179 [sS s] [false,false,false]=
 some ([(!decide ((s.size:Int)=32))=false,s.size=32,decide (g9 (aQ s)/2147483648=1)=false,(0:Int)≤0∧(0:Int)<4,decide (yU s<ab 0)=false,aQ s%4294967296<4294967296,aQ s/4294967296%4294967296<4294967296,aQ s/4294967296/4294967296%4294967296<4294967296,aQ s/4294967296/4294967296/4294967296%4294967296<4294967296,aQ s/4294967296/4294967296/4294967296/4294967296%4294967296<4294967296,aQ s/4294967296/4294967296/4294967296/4294967296/4294967296%4294967296<4294967296,aQ s/4294967296/4294967296/4294967296/4294967296/4294967296/4294967296%4294967296<4294967296,fc (aQ s)<4294967296,ab 0<4294967296^8],.tup [m5 zF,.one (.i 6)]):=by kernel_rfl
theorem aiR (s:ByteArray):al (cd PR xG) 1000 179 [sS s] [false,true,true,false]=
 some ([(!decide ((s.size:Int)=32))=false,s.size=32,decide (g9 (aQ s)/2147483648=1)=true,(0:Int)≤0∧(0:Int)<4,decide (yU s<ab 0)=true,aQ s%4294967296<4294967296,aQ s/4294967296%4294967296<4294967296,aQ s/4294967296/4294967296%4294967296<4294967296,aQ s/4294967296/4294967296/4294967296%4294967296<4294967296,aQ s/4294967296/4294967296/4294967296/4294967296%4294967296<4294967296,aQ s/4294967296/4294967296/4294967296/4294967296/4294967296%4294967296<4294967296,aQ s/4294967296/4294967296/4294967296/4294967296/4294967296/4294967296%4294967296<4294967296,fc (aQ s)<4294967296,ab 0<4294967296^8,(0:Int)≤0∧(0:Int)<4,1<4294967296,bg (ab 0) (aA (ak (ab 0) 0)) (aO (ab 0)),1<ab 0,1<4294967296^8,bg (ab 0) (aA (ak (ab 0) 0)) (aO (ab 0)),yU s<ab 0,aQ s%4294967296<4294967296,aQ s/4294967296%4294967296<4294967296,aQ s/4294967296/4294967296%4294967296<4294967296,aQ s/4294967296/4294967296/4294967296%4294967296<4294967296,aQ s/4294967296/4294967296/4294967296/4294967296%4294967296<4294967296,aQ s/4294967296/4294967296/4294967296/4294967296/4294967296%4294967296<4294967296,aQ s/4294967296/4294967296/4294967296/4294967296/4294967296/4294967296%4294967296<4294967296,fc (aQ s)<4294967296,bg (ab 0) (aA (ak (ab 0) 0)) (aO (ab 0)),yU s<ab 0,aQ s%4294967296<4294967296,aQ s/4294967296%4294967296<4294967296,aQ s/4294967296/4294967296%4294967296<4294967296,aQ s/4294967296/4294967296/4294967296%4294967296<4294967296,aQ s/4294967296/4294967296/4294967296/4294967296%4294967296<4294967296,aQ s/4294967296/4294967296/4294967296/4294967296/4294967296%4294967296<4294967296,aQ s/4294967296/4294967296/4294967296/4294967296/4294967296/4294967296%4294967296<4294967296,fc (aQ s)<4294967296,bg (ab 0) (aA (ak (ab 0) 0)) (aO (ab 0)),ue (yU s)<ab 0,ue (yU s)<ab 0,ue (yU s)<4294967296^8,ue (yU s)<4294967296^8,bg (ab 0) (aA (ak (ab 0) 0)) (aO (ab 0)),dN<ab 0,dN<4294967296^8,bg (ab 0) (aA (ak (ab 0) 0)) (aO (ab 0)),Jq<ab 0,pQ (yU s)<ab 0,Jq<4294967296^8,pQ (yU s)<4294967296^8,bg (ab 0) (aA (ak (ab 0) 0)) (aO (ab 0)),KG (yU s)<ab 0,t6<ab 0,KG (yU s)<4294967296^8,t6<4294967296^8,2<4294967296,ab 0<4294967296^8,2<4294967296^8,bg (ab 0) (aA (ak (ab 0) 0)) (aO (ab 0)),pQ (yU s)<ab 0,t6<ab 0,pQ (yU s)<4294967296^8,t6<4294967296^8,bg (ab 0) (aA (ak (ab 0) 0)) (aO (ab 0)),1<ab 0,pp (yU s)<ab 0,pp (yU s)<4294967296^8,bh (ab 0) 2<4294967296^8,bg (ab 0) (aA (ak (ab 0) 0)) (aO (ab 0)),rI (yU s)<ab 0,JU (yU s)<ab 0,rI (yU s)<4294967296^8,JU (yU s)<4294967296^8,bg (ab 0) (aA (ak (ab 0) 0)) (aO (ab 0)),tM (yU s)<ab 0,tM (yU s)<4294967296^8,DS (yU s)<4294967296^8,(0:Int)=0,DS (yU s)<ab 0,Xq (yU s)=false],.tup [m5 zF,.one (.i 7)]):=by kernel_rfl
theorem afi (s:ByteArray):al (cd PR xG) 1000 179 [sS s] [false,false,true,false]=
 some ([(!decide ((s.size:Int)=32))=false,s.size=32,decide (g9 (aQ s)/2147483648=1)=false,(0:Int)≤0∧(0:Int)<4,decide (yU s<ab 0)=true,aQ s%4294967296<4294967296,aQ s/4294967296%4294967296<4294967296,aQ s/4294967296/4294967296%4294967296<4294967296,aQ s/4294967296/4294967296/4294967296%4294967296<4294967296,aQ s/4294967296/4294967296/4294967296/4294967296%4294967296<4294967296,aQ s/4294967296/4294967296/4294967296/4294967296/4294967296%4294967296<4294967296,aQ s/4294967296/4294967296/4294967296/4294967296/4294967296/4294967296%4294967296<4294967296,fc (aQ s)<4294967296,ab 0<4294967296^8,(0:Int)≤0∧(0:Int)<4,1<4294967296,bg (ab 0) (aA (ak (ab 0) 0)) (aO (ab 0)),1<ab 0,1<4294967296^8,bg (ab 0) (aA (ak (ab 0) 0)) (aO (ab 0)),yU s<ab 0,aQ s%4294967296<4294967296,aQ s/4294967296%4294967296<4294967296,aQ s/4294967296/4294967296%4294967296<4294967296,aQ s/4294967296/4294967296/4294967296%4294967296<4294967296,aQ s/4294967296/4294967296/4294967296/4294967296%4294967296<4294967296,aQ s/4294967296/4294967296/4294967296/4294967296/4294967296%4294967296<4294967296,aQ s/4294967296/4294967296/4294967296/4294967296/4294967296/4294967296%4294967296<4294967296,fc (aQ s)<4294967296,bg (ab 0) (aA (ak (ab 0) 0)) (aO (ab 0)),yU s<ab 0,aQ s%4294967296<4294967296,aQ s/4294967296%4294967296<4294967296,aQ s/4294967296/4294967296%4294967296<4294967296,aQ s/4294967296/4294967296/4294967296%4294967296<4294967296,aQ s/4294967296/4294967296/4294967296/4294967296%4294967296<4294967296,aQ s/4294967296/4294967296/4294967296/4294967296/4294967296%4294967296<4294967296,aQ s/4294967296/4294967296/4294967296/4294967296/4294967296/4294967296%4294967296<4294967296,fc (aQ s)<4294967296,bg (ab 0) (aA (ak (ab 0) 0)) (aO (ab 0)),ue (yU s)<ab 0,ue (yU s)<ab 0,ue (yU s)<4294967296^8,ue (yU s)<4294967296^8,bg (ab 0) (aA (ak (ab 0) 0)) (aO (ab 0)),dN<ab 0,dN<4294967296^8,bg (ab 0) (aA (ak (ab 0) 0)) (aO (ab 0)),Jq<ab 0,pQ (yU s)<ab 0,Jq<4294967296^8,pQ (yU s)<4294967296^8,bg (ab 0) (aA (ak (ab 0) 0)) (aO (ab 0)),KG (yU s)<ab 0,t6<ab 0,KG (yU s)<4294967296^8,t6<4294967296^8,2<4294967296,ab 0<4294967296^8,2<4294967296^8,bg (ab 0) (aA (ak (ab 0) 0)) (aO (ab 0)),pQ (yU s)<ab 0,t6<ab 0,pQ (yU s)<4294967296^8,t6<4294967296^8,bg (ab 0) (aA (ak (ab 0) 0)) (aO (ab 0)),1<ab 0,pp (yU s)<ab 0,pp (yU s)<4294967296^8,bh (ab 0) 2<4294967296^8,bg (ab 0) (aA (ak (ab 0) 0)) (aO (ab 0)),rI (yU s)<ab 0,JU (yU s)<ab 0,rI (yU s)<4294967296^8,JU (yU s)<4294967296^8,bg (ab 0) (aA (ak (ab 0) 0)) (aO (ab 0)),tM (yU s)<ab 0,tM (yU s)<4294967296^8,DS (yU s)<4294967296^8,(0:Int)=0,DS (yU s)<ab 0,Xq (yU s)=false],.tup [m5 zF,.one (.i 7)]):=by kernel_rfl
theorem aix (s:ByteArray):al (cd PR xG) 1000 179 [sS s] [false,true,true,true,true]=
 some ([(!decide ((s.size:Int)=32))=false,s.size=32,decide (g9 (aQ s)/2147483648=1)=true,(0:Int)≤0∧(0:Int)<4,decide (yU s<ab 0)=true,aQ s%4294967296<4294967296,aQ s/4294967296%4294967296<4294967296,aQ s/4294967296/4294967296%4294967296<4294967296,aQ s/4294967296/4294967296/4294967296%4294967296<4294967296,aQ s/4294967296/4294967296/4294967296/4294967296%4294967296<4294967296,aQ s/4294967296/4294967296/4294967296/4294967296/4294967296%4294967296<4294967296,aQ s/4294967296/4294967296/4294967296/4294967296/4294967296/4294967296%4294967296<4294967296,fc (aQ s)<4294967296,ab 0<4294967296^8,(0:Int)≤0∧(0:Int)<4,1<4294967296,bg (ab 0) (aA (ak (ab 0) 0)) (aO (ab 0)),1<ab 0,1<4294967296^8,bg (ab 0) (aA (ak (ab 0) 0)) (aO (ab 0)),yU s<ab 0,aQ s%4294967296<4294967296,aQ s/4294967296%4294967296<4294967296,aQ s/4294967296/4294967296%4294967296<4294967296,aQ s/4294967296/4294967296/4294967296%4294967296<4294967296,aQ s/4294967296/4294967296/4294967296/4294967296%4294967296<4294967296,aQ s/4294967296/4294967296/4294967296/4294967296/4294967296%4294967296<4294967296,aQ s/4294967296/4294967296/4294967296/4294967296/4294967296/4294967296%4294967296<4294967296,fc (aQ s)<4294967296,bg (ab 0) (aA (ak (ab 0) 0)) (aO (ab 0)),yU s<ab 0,aQ s%4294967296<4294967296,aQ s/4294967296%4294967296<4294967296,aQ s/4294967296/4294967296%4294967296<4294967296,aQ s/4294967296/4294967296/4294967296%4294967296<4294967296,aQ s/4294967296/4294967296/4294967296/4294967296%4294967296<4294967296,aQ s/4294967296/4294967296/4294967296/4294967296/4294967296%4294967296<4294967296,aQ s/4294967296/4294967296/4294967296/4294967296/4294967296/4294967296%4294967296<4294967296,fc (aQ s)<4294967296,bg (ab 0) (aA (ak (ab 0) 0)) (aO (ab 0)),ue (yU s)<ab 0,ue (yU s)<ab 0,ue (yU s)<4294967296^8,ue (yU s)<4294967296^8,bg (ab 0) (aA (ak (ab 0) 0)) (aO (ab 0)),dN<ab 0,dN<4294967296^8,bg (ab 0) (aA (ak (ab 0) 0)) (aO (ab 0)),Jq<ab 0,pQ (yU s)<ab 0,Jq<4294967296^8,pQ (yU s)<4294967296^8,bg (ab 0) (aA (ak (ab 0) 0)) (aO (ab 0)),KG (yU s)<ab 0,t6<ab 0,KG (yU s)<4294967296^8,t6<4294967296^8,2<4294967296,ab 0<4294967296^8,2<4294967296^8,bg (ab 0) (aA (ak (ab 0) 0)) (aO (ab 0)),pQ (yU s)<ab 0,t6<ab 0,pQ (yU s)<4294967296^8,t6<4294967296^8,bg (ab 0) (aA (ak (ab 0) 0)) (aO (ab 0)),1<ab 0,pp (yU s)<ab 0,pp (yU s)<4294967296^8,bh (ab 0) 2<4294967296^8,bg (ab 0) (aA (ak (ab 0) 0)) (aO (ab 0)),rI (yU s)<ab 0,JU (yU s)<ab 0,rI (yU s)<4294967296^8,JU (yU s)<4294967296^8,bg (ab 0) (aA (ak (ab 0) 0)) (aO (ab 0)),tM (yU s)<ab 0,tM (yU s)<4294967296^8,DS (yU s)<4294967296^8,(0:Int)=0,DS (yU s)<ab 0,Xq (yU s)=true,gX (PY (yU s))=true],.tup [m5 zF,.one (.i 6)]):=by kernel_rfl
theorem ahX (s:ByteArray):al (cd PR xG) 1000 179 [sS s] [false,false,true,true,true]=
 some ([(!decide ((s.size:Int)=32))=false,s.size=32,decide (g9 (aQ s)/2147483648=1)=false,(0:Int)≤0∧(0:Int)<4,decide (yU s<ab 0)=true,aQ s%4294967296<4294967296,aQ s/4294967296%4294967296<4294967296,aQ s/4294967296/4294967296%4294967296<4294967296,aQ s/4294967296/4294967296/4294967296%4294967296<4294967296,aQ s/4294967296/4294967296/4294967296/4294967296%4294967296<4294967296,aQ s/4294967296/4294967296/4294967296/4294967296/4294967296%4294967296<4294967296,aQ s/4294967296/4294967296/4294967296/4294967296/4294967296/4294967296%4294967296<4294967296,fc (aQ s)<4294967296,ab 0<4294967296^8,(0:Int)≤0∧(0:Int)<4,1<4294967296,bg (ab 0) (aA (ak (ab 0) 0)) (aO (ab 0)),1<ab 0,1<4294967296^8,bg (ab 0) (aA (ak (ab 0) 0)) (aO (ab 0)),yU s<ab 0,aQ s%4294967296<4294967296,aQ s/4294967296%4294967296<4294967296,aQ s/4294967296/4294967296%4294967296<4294967296,aQ s/4294967296/4294967296/4294967296%4294967296<4294967296,aQ s/4294967296/4294967296/4294967296/4294967296%4294967296<4294967296,aQ s/4294967296/4294967296/4294967296/4294967296/4294967296%4294967296<4294967296,aQ s/4294967296/4294967296/4294967296/4294967296/4294967296/4294967296%4294967296<4294967296,fc (aQ s)<4294967296,bg (ab 0) (aA (ak (ab 0) 0)) (aO (ab 0)),yU s<ab 0,aQ s%4294967296<4294967296,aQ s/4294967296%4294967296<4294967296,aQ s/4294967296/4294967296%4294967296<4294967296,aQ s/4294967296/4294967296/4294967296%4294967296<4294967296,aQ s/4294967296/4294967296/4294967296/4294967296%4294967296<4294967296,aQ s/4294967296/4294967296/4294967296/4294967296/4294967296%4294967296<4294967296,aQ s/4294967296/4294967296/4294967296/4294967296/4294967296/4294967296%4294967296<4294967296,fc (aQ s)<4294967296,bg (ab 0) (aA (ak (ab 0) 0)) (aO (ab 0)),ue (yU s)<ab 0,ue (yU s)<ab 0,ue (yU s)<4294967296^8,ue (yU s)<4294967296^8,bg (ab 0) (aA (ak (ab 0) 0)) (aO (ab 0)),dN<ab 0,dN<4294967296^8,bg (ab 0) (aA (ak (ab 0) 0)) (aO (ab 0)),Jq<ab 0,pQ (yU s)<ab 0,Jq<4294967296^8,pQ (yU s)<4294967296^8,bg (ab 0) (aA (ak (ab 0) 0)) (aO (ab 0)),KG (yU s)<ab 0,t6<ab 0,KG (yU s)<4294967296^8,t6<4294967296^8,2<4294967296,ab 0<4294967296^8,2<4294967296^8,bg (ab 0) (aA (ak (ab 0) 0)) (aO (ab 0)),pQ (yU s)<ab 0,t6<ab 0,pQ (yU s)<4294967296^8,t6<4294967296^8,bg (ab 0) (aA (ak (ab 0) 0)) (aO (ab 0)),1<ab 0,pp (yU s)<ab 0,pp (yU s)<4294967296^8,bh (ab 0) 2<4294967296^8,bg (ab 0) (aA (ak (ab 0) 0)) (aO (ab 0)),rI (yU s)<ab 0,JU (yU s)<ab 0,rI (yU s)<4294967296^8,JU (yU s)<4294967296^8,bg (ab 0) (aA (ak (ab 0) 0)) (aO (ab 0)),tM (yU s)<ab 0,tM (yU s)<4294967296^8,DS (yU s)<4294967296^8,(0:Int)=0,DS (yU s)<ab 0,Xq (yU s)=true,gX (PY (yU s))=true],.tup [XT (PY (yU s)) (aQ s),.one (.i 0)]):=by kernel_rfl
theorem agV (s:ByteArray):al (cd PR xG) 1000 179 [sS s] [false,true,true,true,false]=
 some ([(!decide ((s.size:Int)=32))=false,s.size=32,decide (g9 (aQ s)/2147483648=1)=true,(0:Int)≤0∧(0:Int)<4,decide (yU s<ab 0)=true,aQ s%4294967296<4294967296,aQ s/4294967296%4294967296<4294967296,aQ s/4294967296/4294967296%4294967296<4294967296,aQ s/4294967296/4294967296/4294967296%4294967296<4294967296,aQ s/4294967296/4294967296/4294967296/4294967296%4294967296<4294967296,aQ s/4294967296/4294967296/4294967296/4294967296/4294967296%4294967296<4294967296,aQ s/4294967296/4294967296/4294967296/4294967296/4294967296/4294967296%4294967296<4294967296,fc (aQ s)<4294967296,ab 0<4294967296^8,(0:Int)≤0∧(0:Int)<4,1<4294967296,bg (ab 0) (aA (ak (ab 0) 0)) (aO (ab 0)),1<ab 0,1<4294967296^8,bg (ab 0) (aA (ak (ab 0) 0)) (aO (ab 0)),yU s<ab 0,aQ s%4294967296<4294967296,aQ s/4294967296%4294967296<4294967296,aQ s/4294967296/4294967296%4294967296<4294967296,aQ s/4294967296/4294967296/4294967296%4294967296<4294967296,aQ s/4294967296/4294967296/4294967296/4294967296%4294967296<4294967296,aQ s/4294967296/4294967296/4294967296/4294967296/4294967296%4294967296<4294967296,aQ s/4294967296/4294967296/4294967296/4294967296/4294967296/4294967296%4294967296<4294967296,fc (aQ s)<4294967296,bg (ab 0) (aA (ak (ab 0) 0)) (aO (ab 0)),yU s<ab 0,aQ s%4294967296<4294967296,aQ s/4294967296%4294967296<4294967296,aQ s/4294967296/4294967296%4294967296<4294967296,aQ s/4294967296/4294967296/4294967296%4294967296<4294967296,aQ s/4294967296/4294967296/4294967296/4294967296%4294967296<4294967296,aQ s/4294967296/4294967296/4294967296/4294967296/4294967296%4294967296<4294967296,aQ s/4294967296/4294967296/4294967296/4294967296/4294967296/4294967296%4294967296<4294967296,fc (aQ s)<4294967296,bg (ab 0) (aA (ak (ab 0) 0)) (aO (ab 0)),ue (yU s)<ab 0,ue (yU s)<ab 0,ue (yU s)<4294967296^8,ue (yU s)<4294967296^8,bg (ab 0) (aA (ak (ab 0) 0)) (aO (ab 0)),dN<ab 0,dN<4294967296^8,bg (ab 0) (aA (ak (ab 0) 0)) (aO (ab 0)),Jq<ab 0,pQ (yU s)<ab 0,Jq<4294967296^8,pQ (yU s)<4294967296^8,bg (ab 0) (aA (ak (ab 0) 0)) (aO (ab 0)),KG (yU s)<ab 0,t6<ab 0,KG (yU s)<4294967296^8,t6<4294967296^8,2<4294967296,ab 0<4294967296^8,2<4294967296^8,bg (ab 0) (aA (ak (ab 0) 0)) (aO (ab 0)),pQ (yU s)<ab 0,t6<ab 0,pQ (yU s)<4294967296^8,t6<4294967296^8,bg (ab 0) (aA (ak (ab 0) 0)) (aO (ab 0)),1<ab 0,pp (yU s)<ab 0,pp (yU s)<4294967296^8,bh (ab 0) 2<4294967296^8,bg (ab 0) (aA (ak (ab 0) 0)) (aO (ab 0)),rI (yU s)<ab 0,JU (yU s)<ab 0,rI (yU s)<4294967296^8,JU (yU s)<4294967296^8,bg (ab 0) (aA (ak (ab 0) 0)) (aO (ab 0)),tM (yU s)<ab 0,tM (yU s)<4294967296^8,DS (yU s)<4294967296^8,(0:Int)=0,DS (yU s)<ab 0,Xq (yU s)=true,gX (PY (yU s))=false,ab 0<4294967296^8,PY (yU s)<4294967296^8],.tup [XT (bh (ab 0) (PY (yU s))) (aQ s),.one (.i 0)]):=by kernel_rfl
theorem af8 (s:ByteArray):al (cd PR xG) 1000 179 [sS s] [false,false,true,true,false]=
 some ([(!decide ((s.size:Int)=32))=false,s.size=32,decide (g9 (aQ s)/2147483648=1)=false,(0:Int)≤0∧(0:Int)<4,decide (yU s<ab 0)=true,aQ s%4294967296<4294967296,aQ s/4294967296%4294967296<4294967296,aQ s/4294967296/4294967296%4294967296<4294967296,aQ s/4294967296/4294967296/4294967296%4294967296<4294967296,aQ s/4294967296/4294967296/4294967296/4294967296%4294967296<4294967296,aQ s/4294967296/4294967296/4294967296/4294967296/4294967296%4294967296<4294967296,aQ s/4294967296/4294967296/4294967296/4294967296/4294967296/4294967296%4294967296<4294967296,fc (aQ s)<4294967296,ab 0<4294967296^8,(0:Int)≤0∧(0:Int)<4,1<4294967296,bg (ab 0) (aA (ak (ab 0) 0)) (aO (ab 0)),1<ab 0,1<4294967296^8,bg (ab 0) (aA (ak (ab 0) 0)) (aO (ab 0)),yU s<ab 0,aQ s%4294967296<4294967296,aQ s/4294967296%4294967296<4294967296,aQ s/4294967296/4294967296%4294967296<4294967296,aQ s/4294967296/4294967296/4294967296%4294967296<4294967296,aQ s/4294967296/4294967296/4294967296/4294967296%4294967296<4294967296,aQ s/4294967296/4294967296/4294967296/4294967296/4294967296%4294967296<4294967296,aQ s/4294967296/4294967296/4294967296/4294967296/4294967296/4294967296%4294967296<4294967296,fc (aQ s)<4294967296,bg (ab 0) (aA (ak (ab 0) 0)) (aO (ab 0)),yU s<ab 0,aQ s%4294967296<4294967296,aQ s/4294967296%4294967296<4294967296,aQ s/4294967296/4294967296%4294967296<4294967296,aQ s/4294967296/4294967296/4294967296%4294967296<4294967296,aQ s/4294967296/4294967296/4294967296/4294967296%4294967296<4294967296,aQ s/4294967296/4294967296/4294967296/4294967296/4294967296%4294967296<4294967296,aQ s/4294967296/4294967296/4294967296/4294967296/4294967296/4294967296%4294967296<4294967296,fc (aQ s)<4294967296,bg (ab 0) (aA (ak (ab 0) 0)) (aO (ab 0)),ue (yU s)<ab 0,ue (yU s)<ab 0,ue (yU s)<4294967296^8,ue (yU s)<4294967296^8,bg (ab 0) (aA (ak (ab 0) 0)) (aO (ab 0)),dN<ab 0,dN<4294967296^8,bg (ab 0) (aA (ak (ab 0) 0)) (aO (ab 0)),Jq<ab 0,pQ (yU s)<ab 0,Jq<4294967296^8,pQ (yU s)<4294967296^8,bg (ab 0) (aA (ak (ab 0) 0)) (aO (ab 0)),KG (yU s)<ab 0,t6<ab 0,KG (yU s)<4294967296^8,t6<4294967296^8,2<4294967296,ab 0<4294967296^8,2<4294967296^8,bg (ab 0) (aA (ak (ab 0) 0)) (aO (ab 0)),pQ (yU s)<ab 0,t6<ab 0,pQ (yU s)<4294967296^8,t6<4294967296^8,bg (ab 0) (aA (ak (ab 0) 0)) (aO (ab 0)),1<ab 0,pp (yU s)<ab 0,pp (yU s)<4294967296^8,bh (ab 0) 2<4294967296^8,bg (ab 0) (aA (ak (ab 0) 0)) (aO (ab 0)),rI (yU s)<ab 0,JU (yU s)<ab 0,rI (yU s)<4294967296^8,JU (yU s)<4294967296^8,bg (ab 0) (aA (ak (ab 0) 0)) (aO (ab 0)),tM (yU s)<ab 0,tM (yU s)<4294967296^8,DS (yU s)<4294967296^8,(0:Int)=0,DS (yU s)<ab 0,Xq (yU s)=true,gX (PY (yU s))=false],.tup [XT (PY (yU s)) (aQ s),.one (.i 0)]):=by kernel_rfl
theorem WE (y:Nat):DS y=uE y:=by
 unfold DS uE pp bwE addM
 rw[Nat.add_comm]
theorem ahn {s:ByteArray} (h:KP s=true):PY (yU s)=xl s:=by
 have h':oE 0 (uE (yU s))=true:=h
 unfold PY;rw[WE,h',cond_true];rfl
theorem Vh (s:ByteArray) (h:s.size=32):decide (g9 (aQ s)/2147483648=1)=mb s:=by
 have hl:=qc s
 rw[h] at hl
 obtain ⟨h1,h2⟩:=uF (aQ s) (by omega)
 unfold mb
 rw[h1,Nat.div_div_eq_div_mul]
theorem XW {a:Nat} (h0:a≠0) (h:a<ab 0):bh (ab 0) a=aw (ab 0) 0 a:=by
 have hm:=aj 0
 unfold bh aw
 rw[show ab 0+4294967296^8-a=(ab 0-a)+4294967296^8 by omega,Nat.add_mod_right,Nat.mod_eq_of_lt (by omega),Nat.mod_eq_of_lt (by omega)]
 omega
theorem SG (s:ByteArray):Spec 179 [sS s] (.tup [P2 (dE s) (dX s),.one (.i (dI s))]):=by
 have hE0:∀{z:Int},dI s=z→z≠0→dE s=0∧dX s=0:=fun h h0=>Il s h h0
 by_cases h:s.size=32
 ·have ho:=Vh s h
  by_cases hy:yU s<ab 0
  ·have hy':decide (yU s<ab 0)=true:=decide_eq_true hy
   have hev:xl s<ab 0:=pN (by decide)
   have hq:Xq (yU s)=KP s:=by unfold Xq KP;rw[WE]
   cases hs:KP s with
   |false=>
    have e:dI s=7:=by unfold dI;rw[decide_eq_true h,hy',hs];rfl
    obtain ⟨e1,e2⟩:=hE0 e (by decide)
    rw[e,e1,e2]
    cases hod:mb s with
    |true=>exact (af (aF mC xG) rfl (aiR s) ⟨by rw[decide_eq_true (show (s.size:Int)=32 by omega)];rfl,h,by rw[ho,hod],by decide,hy',bn _,bn _,bn _,bn _,bn _,bn _,bn _,cm _,aj 0,by decide,by decide,aC (k:=0) (by decide),a9 0,by decide,aC (k:=0) (by decide),hy,bn _,bn _,bn _,bn _,bn _,bn _,bn _,cm _,aC (k:=0) (by decide),hy,bn _,bn _,bn _,bn _,bn _,bn _,bn _,cm _,aC (k:=0) (by decide),au (ae 0),au (ae 0),L8 (au (ae 0)),L8 (au (ae 0)),aC (k:=0) (by decide),iE,L8 iE,aC (k:=0) (by decide),au (ae 0),ai (ae 0),L8 (au (ae 0)),L8 (ai (ae 0)),aC (k:=0) (by decide),ai (ae 0),au (ae 0),L8 (ai (ae 0)),L8 (au (ae 0)),by decide,aj 0,by decide,aC (k:=0) (by decide),ai (ae 0),au (ae 0),L8 (ai (ae 0)),L8 (au (ae 0)),aC (k:=0) (by decide),a9 0,ao (ae 0),L8 (ao (ae 0)),cJ _ _,aC (k:=0) (by decide),av (ae 0),bk (ae 0),L8 (av (ae 0)),L8 (bk (ae 0)),aC (k:=0) (by decide),ai (ae 0),L8 (ai (ae 0)),L8 (bj (ae 0)),rfl,bj (ae 0),by rw[hq,hs],trivial⟩ rfl rfl).congr (fun _=>rfl) (fun φ=>fO φ 7)
    |false=>exact (af (aF mC xG) rfl (afi s) ⟨by rw[decide_eq_true (show (s.size:Int)=32 by omega)];rfl,h,by rw[ho,hod],by decide,hy',bn _,bn _,bn _,bn _,bn _,bn _,bn _,cm _,aj 0,by decide,by decide,aC (k:=0) (by decide),a9 0,by decide,aC (k:=0) (by decide),hy,bn _,bn _,bn _,bn _,bn _,bn _,bn _,cm _,aC (k:=0) (by decide),hy,bn _,bn _,bn _,bn _,bn _,bn _,bn _,cm _,aC (k:=0) (by decide),au (ae 0),au (ae 0),L8 (au (ae 0)),L8 (au (ae 0)),aC (k:=0) (by decide),iE,L8 iE,aC (k:=0) (by decide),au (ae 0),ai (ae 0),L8 (au (ae 0)),L8 (ai (ae 0)),aC (k:=0) (by decide),ai (ae 0),au (ae 0),L8 (ai (ae 0)),L8 (au (ae 0)),by decide,aj 0,by decide,aC (k:=0) (by decide),ai (ae 0),au (ae 0),L8 (ai (ae 0)),L8 (au (ae 0)),aC (k:=0) (by decide),a9 0,ao (ae 0),L8 (ao (ae 0)),cJ _ _,aC (k:=0) (by decide),av (ae 0),bk (ae 0),L8 (av (ae 0)),L8 (bk (ae 0)),aC (k:=0) (by decide),ai (ae 0),L8 (ai (ae 0)),L8 (bj (ae 0)),rfl,bj (ae 0),by rw[hq,hs],trivial⟩ rfl rfl).congr (fun _=>rfl) (fun φ=>fO φ 7)
   |true=>
    have hevs:=ahn hs
    cases hod:mb s with
    |true=>
     by_cases hz:xl s=0
     ·have e:dI s=6:=by unfold dI;rw[decide_eq_true h,hy',hs,hod,decide_eq_true hz];rfl
      obtain ⟨e1,e2⟩:=hE0 e (by decide)
      rw[e,e1,e2]
      exact (af (aF mC xG) rfl (aix s) ⟨by rw[decide_eq_true (show (s.size:Int)=32 by omega)];rfl,h,by rw[ho,hod],by decide,hy',bn _,bn _,bn _,bn _,bn _,bn _,bn _,cm _,aj 0,by decide,by decide,aC (k:=0) (by decide),a9 0,by decide,aC (k:=0) (by decide),hy,bn _,bn _,bn _,bn _,bn _,bn _,bn _,cm _,aC (k:=0) (by decide),hy,bn _,bn _,bn _,bn _,bn _,bn _,bn _,cm _,aC (k:=0) (by decide),au (ae 0),au (ae 0),L8 (au (ae 0)),L8 (au (ae 0)),aC (k:=0) (by decide),iE,L8 iE,aC (k:=0) (by decide),au (ae 0),ai (ae 0),L8 (au (ae 0)),L8 (ai (ae 0)),aC (k:=0) (by decide),ai (ae 0),au (ae 0),L8 (ai (ae 0)),L8 (au (ae 0)),by decide,aj 0,by decide,aC (k:=0) (by decide),ai (ae 0),au (ae 0),L8 (ai (ae 0)),L8 (au (ae 0)),aC (k:=0) (by decide),a9 0,ao (ae 0),L8 (ao (ae 0)),cJ _ _,aC (k:=0) (by decide),av (ae 0),bk (ae 0),L8 (av (ae 0)),L8 (bk (ae 0)),aC (k:=0) (by decide),ai (ae 0),L8 (ai (ae 0)),L8 (bj (ae 0)),rfl,bj (ae 0),by rw[hq,hs],by rw[hevs,ov _ (L8 hev)];exact decide_eq_true hz,trivial⟩ rfl rfl).congr (fun _=>rfl) (fun φ=>fO φ 6)
     ·have e:dI s=0:=by unfold dI;rw[decide_eq_true h,hy',hs,hod,decide_eq_false hz];rfl
      obtain ⟨e1,e2⟩:=rE s e
      rw[e,e1,e2,hod,cond_true,←XW hz hev]
      have:=(af (aF mC xG) rfl (agV s) ⟨by rw[decide_eq_true (show (s.size:Int)=32 by omega)];rfl,h,by rw[ho,hod],by decide,hy',bn _,bn _,bn _,bn _,bn _,bn _,bn _,cm _,aj 0,by decide,by decide,aC (k:=0) (by decide),a9 0,by decide,aC (k:=0) (by decide),hy,bn _,bn _,bn _,bn _,bn _,bn _,bn _,cm _,aC (k:=0) (by decide),hy,bn _,bn _,bn _,bn _,bn _,bn _,bn _,cm _,aC (k:=0) (by decide),au (ae 0),au (ae 0),L8 (au (ae 0)),L8 (au (ae 0)),aC (k:=0) (by decide),iE,L8 iE,aC (k:=0) (by decide),au (ae 0),ai (ae 0),L8 (au (ae 0)),L8 (ai (ae 0)),aC (k:=0) (by decide),ai (ae 0),au (ae 0),L8 (ai (ae 0)),L8 (au (ae 0)),by decide,aj 0,by decide,aC (k:=0) (by decide),ai (ae 0),au (ae 0),L8 (ai (ae 0)),L8 (au (ae 0)),aC (k:=0) (by decide),a9 0,ao (ae 0),L8 (ao (ae 0)),cJ _ _,aC (k:=0) (by decide),av (ae 0),bk (ae 0),L8 (av (ae 0)),L8 (bk (ae 0)),aC (k:=0) (by decide),ai (ae 0),L8 (ai (ae 0)),L8 (bj (ae 0)),rfl,bj (ae 0),by rw[hq,hs],by rw[hevs,ov _ (L8 hev)];exact decide_eq_false hz,aj 0,by rw[hevs];exact L8 hev,trivial⟩ rfl rfl).congr (fun _=>rfl) (fun φ=>nv φ _ s)
      rw[hevs] at this
      exact this
    |false=>
     have e:dI s=0:=by unfold dI;rw[decide_eq_true h,hy',hs,hod];rfl
     obtain ⟨e1,e2⟩:=rE s e
     rw[e,e1,e2,hod,cond_false]
     rw[←hevs]
     by_cases hz:xl s=0
     ·exact (af (aF mC xG) rfl (ahX s) ⟨by rw[decide_eq_true (show (s.size:Int)=32 by omega)];rfl,h,by rw[ho,hod],by decide,hy',bn _,bn _,bn _,bn _,bn _,bn _,bn _,cm _,aj 0,by decide,by decide,aC (k:=0) (by decide),a9 0,by decide,aC (k:=0) (by decide),hy,bn _,bn _,bn _,bn _,bn _,bn _,bn _,cm _,aC (k:=0) (by decide),hy,bn _,bn _,bn _,bn _,bn _,bn _,bn _,cm _,aC (k:=0) (by decide),au (ae 0),au (ae 0),L8 (au (ae 0)),L8 (au (ae 0)),aC (k:=0) (by decide),iE,L8 iE,aC (k:=0) (by decide),au (ae 0),ai (ae 0),L8 (au (ae 0)),L8 (ai (ae 0)),aC (k:=0) (by decide),ai (ae 0),au (ae 0),L8 (ai (ae 0)),L8 (au (ae 0)),by decide,aj 0,by decide,aC (k:=0) (by decide),ai (ae 0),au (ae 0),L8 (ai (ae 0)),L8 (au (ae 0)),aC (k:=0) (by decide),a9 0,ao (ae 0),L8 (ao (ae 0)),cJ _ _,aC (k:=0) (by decide),av (ae 0),bk (ae 0),L8 (av (ae 0)),L8 (bk (ae 0)),aC (k:=0) (by decide),ai (ae 0),L8 (ai (ae 0)),L8 (bj (ae 0)),rfl,bj (ae 0),by rw[hq,hs],by rw[hevs,ov _ (L8 hev)];exact decide_eq_true hz,trivial⟩ rfl rfl).congr (fun _=>rfl) (fun φ=>nv φ _ s)
     ·exact (af (aF mC xG) rfl (af8 s) ⟨by rw[decide_eq_true (show (s.size:Int)=32 by omega)];rfl,h,by rw[ho,hod],by decide,hy',bn _,bn _,bn _,bn _,bn _,bn _,bn _,cm _,aj 0,by decide,by decide,aC (k:=0) (by decide),a9 0,by decide,aC (k:=0) (by decide),hy,bn _,bn _,bn _,bn _,bn _,bn _,bn _,cm _,aC (k:=0) (by decide),hy,bn _,bn _,bn _,bn _,bn _,bn _,bn _,cm _,aC (k:=0) (by decide),au (ae 0),au (ae 0),L8 (au (ae 0)),L8 (au (ae 0)),aC (k:=0) (by decide),iE,L8 iE,aC (k:=0) (by decide),au (ae 0),ai (ae 0),L8 (au (ae 0)),L8 (ai (ae 0)),aC (k:=0) (by decide),ai (ae 0),au (ae 0),L8 (ai (ae 0)),L8 (au (ae 0)),by decide,aj 0,by decide,aC (k:=0) (by decide),ai (ae 0),au (ae 0),L8 (ai (ae 0)),L8 (au (ae 0)),aC (k:=0) (by decide),a9 0,ao (ae 0),L8 (ao (ae 0)),cJ _ _,aC (k:=0) (by decide),av (ae 0),bk (ae 0),L8 (av (ae 0)),L8 (bk (ae 0)),aC (k:=0) (by decide),ai (ae 0),L8 (ai (ae 0)),L8 (bj (ae 0)),rfl,bj (ae 0),by rw[hq,hs],by rw[hevs,ov _ (L8 hev)];exact decide_eq_false hz,trivial⟩ rfl rfl).congr (fun _=>rfl) (fun φ=>nv φ _ s)
  ·have hy':decide (yU s<ab 0)=false:=decide_eq_false hy
   have e:dI s=6:=by unfold dI;rw[decide_eq_true h,hy'];rfl
   obtain ⟨e1,e2⟩:=hE0 e (by decide)
   rw[e,e1,e2]
   cases hod:mb s with
   |true=>exact (af (aF mC xG) rfl (aiJ s) ⟨by rw[decide_eq_true (show (s.size:Int)=32 by omega)];rfl,h,by rw[ho,hod],by decide,hy',bn _,bn _,bn _,bn _,bn _,bn _,bn _,cm _,aj 0,trivial⟩ rfl rfl).congr (fun _=>rfl) (fun φ=>fO φ 6)
   |false=>exact (af (aF mC xG) rfl (afX s) ⟨by rw[decide_eq_true (show (s.size:Int)=32 by omega)];rfl,h,by rw[ho,hod],by decide,hy',bn _,bn _,bn _,bn _,bn _,bn _,bn _,cm _,aj 0,trivial⟩ rfl rfl).congr (fun _=>rfl) (fun φ=>fO φ 6)
 ·have e:dI s=1:=by unfold dI;rw[decide_eq_false h];rfl
  obtain ⟨e1,e2⟩:=hE0 e (by decide)
  rw[e,e1,e2]
  exact (af (aF mC xG) rfl (anH s) ⟨by rw[decide_eq_false (show ¬(s.size:Int)=32 by omega)];rfl,trivial⟩ rfl rfl).congr (fun _=>rfl) (fun φ=>fO φ 1)
noncomputable def JQ:List Val→Option (List Prop×AV)
 |[.n x,.n y]=>some ([gt x y=true],.val (sS (dZ x y)))
 |_=>none
theorem Ip:ab 0<57896044618658097711785492504343953926634992332820282019728792003956564819968:=by decide+kernel
theorem ag6:aU ⟨120,dU [.s [.n8,.n8]] JQ⟩:=jE (by
 intro xs ob r hb h ho
 unfold JQ at h
 split at h
 ·obtain ⟨rfl,rfl⟩:=sI h
  exact RC _ _ (Nat.lt_trans (ka ho.1).2 Ip)
 ·simp at h)
theorem afT:aU ⟨109,dU [.s [.n8,.n8]] JQ⟩:=jE (by
 intro xs ob r hb h ho
 unfold JQ at h
 split at h
 ·obtain ⟨rfl,rfl⟩:=sI h
  exact R8 _ _ (Nat.lt_trans (ka ho.1).2 Ip)
 ·simp at h)
noncomputable def x8 (vs:List V1):Option (List Prop×AV):=match vs with|[.one (.v (.string s))]=>some ([],.tup [P2 (dE s) (dX s),.one (.i (dI s))])|_=>none
theorem agW:aU ⟨115,x8⟩:=by
 intro vs ob r h ho
 simp only[x8] at h
 split at h
 ·obtain ⟨_,rfl⟩:=sI h
  exact Wd _
 ·simp at h
theorem age:aU ⟨179,x8⟩:=by
 intro vs ob r h ho
 simp only[x8] at h
 split at h
 ·obtain ⟨_,rfl⟩:=sI h
  exact SG _
 ·simp at h
noncomputable def LPk:List CT:=⟨109,dU [.s [.n8,.n8]] JQ⟩::⟨115,x8⟩::⟨179,x8⟩::KT
theorem Yx:bw LPk:=⟨afT,agW,age,lk⟩
end Go.Ev.H5.Ed
namespace Go.Ev
open Go Go.Proofs Go.RowKit
theorem nm {m a b:Nat} (hb:b<m):(aw m a b+b)%m=a%m:=by
 unfold aw
 rw[Nat.mod_add_mod,Nat.sub_add_cancel (by omega),Nat.add_mod_right]
theorem zJ {m r s y:Nat} (hr:r<m) (hs:s<m) (h:(r+y)%m=(s+y)%m):r=s:=by
 have h1:∀{r s:Nat},r<m→s<m→r≤s→(r+y)%m=(s+y)%m→r=s:=by
  intro r s _ hs hle h
  have h2:(s+y-(r+y))%m=0:=Nat.sub_mod_eq_zero_of_mod_eq h.symm
  rw[show s+y-(r+y)=s-r by omega,Nat.mod_eq_of_lt (by omega)] at h2
  omega
 rcases Nat.le_total r s with hle|hle
 ·exact h1 hr hs hle h
 ·exact (h1 hs hr hle h.symm).symm
theorem vX (m a:Nat):aq m (a%m)=aq m a:=by rw[jw,jw,Nat.mod_mul_mod]
theorem gQ {m:Nat} (a b:Nat):addM m (aq m a) (aq m b)=aq m (addM m a b):=by
 unfold addM
 rw[vX,jw,jw,jw,←Nat.add_mod,Nat.add_mul]
theorem my {m:Nat} (hm:0<m) {a b:Nat} (hb:b<m):aw m (aq m a) (aq m b)=aq m (aw m a b):=by
 refine zJ (y:=aq m b) (av hm) (au hm) ?_
 rw[nm (au hm)]
 have h:=gQ (m:=m) (aw m a b) b
 unfold addM at h
 rw[h,nm hb,vX,Nat.mod_eq_of_lt (au hm)]
theorem eO {k:Nat} (hk:k<4) (x y:Nat):ap (ab k) (aq (ab k) x) (aq (ab k) y)=aq (ab k) (bK (ab k) x y):=rh (aj k) (aK hk)
theorem bu (k:Nat):aT k<4294967296:=by unfold aT JD;omega
theorem bv (u:Nat):aA u<4294967296:=by unfold aA;omega
theorem du {k:Nat} (hk:k<4):aO (ab k)<ab k:=(aC hk).2.2.1
def cV (v:AV):List V1→Option (List Prop×AV):=fun vs=>match vs with|[]=>some ([],v)|_=>none
theorem tG {f:FuncId} {v:AV} (h:Spec f [] v):aU ⟨f,cV v⟩:=by
 intro vs ob r hv ho
 simp only[cV] at hv
 split at hv
 ·obtain ⟨rfl,rfl⟩:=sI hv
  exact h
 ·simp at hv
def aN:Arg:= .s [.n8]
def fd:Arg:= .s [.n8,.u32,.n8]
def Cz (m:Nat) (a b:Int):Prop:=(m:Int)∣a-b
section
variable {m:Nat} {a b c d:Int}
theorem Cz.refl (m:Nat) (a:Int):Cz m a a:=by unfold Cz;rw[Int.sub_self];exact Int.dvd_zero _
theorem Cz.of_eq (h:a=b):Cz m a b:=by subst h;exact Cz.refl m a
theorem Cz.lc1 {u v:Int} (h:Cz m u v) (k:Int) (e:a-b=k*(u-v)):Cz m a b:=by
 unfold Cz at*;rw[e];exact Int.dvd_mul_of_dvd_right h
theorem Cz.lc2 {u v u' v':Int} (h:Cz m u v) (h':Cz m u' v') (k k':Int) (e:a-b=k*(u-v)+k'*(u'-v')):Cz m a b:=by
 unfold Cz at*;rw[e];exact Int.dvd_add (Int.dvd_mul_of_dvd_right h) (Int.dvd_mul_of_dvd_right h')
theorem Cz.lc3 {u v u' v' u2 v2:Int} (h:Cz m u v) (h':Cz m u' v') (h2:Cz m u2 v2) (k k' k2:Int) (e:a-b=k*(u-v)+k'*(u'-v')+k2*(u2-v2)):Cz m a b:=by
 unfold Cz at*;rw[e];exact Int.dvd_add (Int.dvd_add (Int.dvd_mul_of_dvd_right h) (Int.dvd_mul_of_dvd_right h')) (Int.dvd_mul_of_dvd_right h2)
theorem Cz.lc4 {u v u' v' u2 v2 u3 v3:Int} (h:Cz m u v) (h':Cz m u' v') (h2:Cz m u2 v2) (h3:Cz m u3 v3) (k k' k2 k3:Int) (e:a-b=k*(u-v)+k'*(u'-v')+k2*(u2-v2)+k3*(u3-v3)):Cz m a b:=by
 unfold Cz at*;rw[e];exact Int.dvd_add (Int.dvd_add (Int.dvd_add (Int.dvd_mul_of_dvd_right h) (Int.dvd_mul_of_dvd_right h')) (Int.dvd_mul_of_dvd_right h2)) (Int.dvd_mul_of_dvd_right h3)
theorem Cz.symm (h:Cz m a b):Cz m b a:=h.lc1 (-1) (by omega)
theorem Cz.trans (h:Cz m a b) (h':Cz m b c):Cz m a c:=h.lc2 h' 1 1 (by omega)
theorem Cz.add (h:Cz m a b) (h':Cz m c d):Cz m (a+c) (b+d):=h.lc2 h' 1 1 (by omega)
theorem Cz.sub (h:Cz m a b) (h':Cz m c d):Cz m (a-c) (b-d):=h.lc2 h' 1 (-1) (by omega)
theorem Cz.mul (h:Cz m a b) (h':Cz m c d):Cz m (a*c) (b*d):=h.lc2 h' c b (by grind)
theorem Cz.nat {x y:Nat} (hx:x<m) (hy:y<m) (h:Cz m x y):x=y:=by
 unfold Cz at h
 obtain ⟨k,hk⟩:=h
 rcases Int.lt_trichotomy k 0 with h0|h0|h0
 ·have:(m:Int)*k≤(m:Int)*(-1):=Int.mul_le_mul_of_nonneg_left (by omega) (by omega)
  omega
 ·subst h0;omega
 ·have:(m:Int)*1≤(m:Int)*k:=Int.mul_le_mul_of_nonneg_left (by omega) (by omega)
  omega
theorem gP (x:Nat):Cz m ((x%m:Nat):Int) x:=by
 unfold Cz
 refine ⟨-((x/m:Nat):Int),?_⟩
 have:=Nat.mod_add_div x m
 have h2:((x%m:Nat):Int)+(m:Int)*((x/m:Nat):Int)=x:=by exact_mod_cast this
 rw[Int.mul_neg];omega
theorem ei (x y:Nat):Cz m (bK m x y) ((x:Int)*y):=by
 have:=gP (m:=m) (x*y)
 unfold bK;rwa[Int.natCast_mul] at this
theorem jp (x y:Nat):Cz m (addM m x y) ((x:Int)+y):=by
 have:=gP (m:=m) (x+y)
 unfold addM;rwa[Int.natCast_add] at this
theorem lf {x y:Nat} (hy:y<m):Cz m (aw m x y) ((x:Int)-y):=by
 have:=gP (m:=m) (x+m-y)
 unfold aw
 refine this.trans ⟨1,?_⟩
 omega
theorem nr {x:Nat}:Cz m x 0↔x%m=0:=by
 unfold Cz
 rw[Int.sub_zero]
 constructor
 ·intro h;exact Nat.mod_eq_zero_of_dvd (by exact_mod_cast h)
 ·intro h;exact_mod_cast Nat.dvd_of_mod_eq_zero h
def qj (m:Nat) (z:Int):Nat:=(z%(m:Int)).toNat
theorem j5 (hm:0<m) (z:Int):Cz m (qj m z) z:=by
 unfold Cz qj
 rw[Int.toNat_of_nonneg (Int.emod_nonneg _ (by omega))]
 refine ⟨-(z/(m:Int)),?_⟩
 have:=Int.emod_add_mul_ediv z (m:Int)
 rw[Int.mul_neg];omega
theorem gZ (hp:Go.NT.Pr m) (h:Cz m (a*b) 0):Cz m a 0∨Cz m b 0:=by
 have hm:0<m:=by have:=hp.1;omega
 have ha:=j5 hm a
 have hb:=j5 hm b
 have h1:Cz m ((qj m a:Int)*(qj m b:Int)) 0:=(ha.mul hb).trans h
 have h2:(qj m a*qj m b)%m=0:=nr.1 (by rwa[Int.natCast_mul])
 rcases Go.NT.zero_of_mul hp h2 with h3|h3
 ·exact .inl (ha.symm.trans (nr.2 h3))
 ·exact .inr (hb.symm.trans (nr.2 h3))
theorem eR (hp:Go.NT.Pr m) (h:Cz m (a*b) (a*c)) (ha:¬Cz m a 0):Cz m b c:=by
 rcases gZ hp (a:=a) (b:=b-c) (h.lc1 1 (by grind)) with h1|h1
 ·exact absurd h1 ha
 ·exact h1.lc1 1 (by omega)
end
theorem prK {k:Nat} (hk:k<4):Go.NT.Pr (ab k):=by rw[fV];exact Go.NT.primeK hk
def qv (k z:Nat):Nat:=Go.NT.pwM (ab k) z (bh (ab k) 2)
theorem ab3 (k:Nat):bh (ab k) 2=ab k-2:=by
 have:=en k
 have:=aj k
 unfold bh;omega
theorem sn {k z:Nat} (hk:k<4) (hz:z<ab k) (h0:¬Cz (ab k) z 0):Cz (ab k) ((z:Int)*qv k z) 1:=by
 have hz0:0<z:=by
  rcases Nat.eq_zero_or_pos z with h|h
  ·subst h;exact absurd (Cz.refl _ _) h0
  ·exact h
 have h1:=Go.NT.inv_mul hk hz0 (by rwa[fV] at hz)
 rw[←fV] at h1
 have h2:(z*qv k z)%ab k=1%ab k:=by
  unfold qv Go.NT.pwM
  rw[ab3,Nat.mul_mod_mod,h1,Nat.mod_eq_of_lt (a9 k)]
 have h3:=gP (m:=ab k) (z*qv k z)
 rw[h2] at h3
 have h4:=gP (m:=ab k) 1
 have:=h3.symm.trans h4
 rwa[Int.natCast_mul] at this
end Go.Ev
namespace Go.Ev.H5.Ed
open Go Go.Proofs Go.RowKit
theorem aqC {p e f a:Nat} (hp:p<2^256) (he:e<p) (hf:f<p):Go.NT.rt p e f a=if Go.NT.powK 256 a e p*Go.NT.powK 256 a e p%p=a then Go.NT.powK 256 a e p else Go.NT.powK 256 a e p*Go.NT.powK 256 2 f p%p:=by
 unfold Go.NT.rt
 rw[Wt hp he,Wt hp hf]
def NR (p c:Nat):Nat:=if Go.NT.powK 256 c ((p+3)/8) p*Go.NT.powK 256 c ((p+3)/8) p%p=c then Go.NT.powK 256 c ((p+3)/8) p else Go.NT.powK 256 c ((p+3)/8) p*Go.NT.powK 256 2 (p/4) p%p
theorem Z7 (c:Nat):Go.NT.candN 0 c=NR (Go.NT.modP 0) c:=by
 rw[Go.NT.candN_0]
 exact aqC (by decide+kernel) (by decide+kernel) (by decide+kernel)
def sqK (p c:Nat):Bool:=decide (NR p c*NR p c%p=c)
theorem al' (c:Nat):Go.NT.isSq 0 c=sqK (Go.NT.modP 0) c:=by
 unfold Go.NT.isSq sqK
 rw[Z7]
theorem afe:Go.NT.isSq 0 (ab 0-dN)=false:=by
 rw[al']
 decide+kernel
abbrev C0 (a b:Int):Prop:=Cz (ab 0) a b
theorem WH:Go.NT.Pr (ab 0):=prK (by decide)
theorem nsq {s t:Int} (h:C0 (t*t) (-(dN:Int)*(s*s))):C0 s 0:=by
 have hm:=ae 0
 have hs:=j5 hm s
 have ht:=j5 hm t
 have hsl:qj (ab 0) s<ab 0:=by
  unfold qj
  have:=Int.emod_lt_of_pos s (show (0:Int)<(ab 0:Int) by omega)
  have:=Int.emod_nonneg s (show ((ab 0:Nat):Int)≠0 by omega)
  omega
 generalize qj (ab 0) s=s' at*
 generalize qj (ab 0) t=t' at*
 rcases Nat.eq_zero_or_pos s' with h0|h0
 ·subst h0;exact hs.symm
 ·exfalso
  have h1:C0 ((t'*t':Nat):Int) (((ab 0-dN)*(s'*s'%ab 0):Nat):Int):=by
   have e1:=gP (m:=ab 0) (s'*s')
   have e2:((ab 0-dN:Nat):Int)=(ab 0:Int)-dN:=by have:=iE;omega
   rw[Int.natCast_mul,Int.natCast_mul,e2]
   rw[Int.natCast_mul] at e1
   have a1:C0 ((t':Int)*t') (t*t):=ht.mul ht
   have a2:C0 ((s':Int)*s') (s*s):=hs.mul hs
   have a3:C0 (ab 0:Int) 0:=by unfold C0 Cz;exact ⟨1,by omega⟩
   have a4:C0 (((ab 0:Nat):Int)-dN) (-(dN:Int)):=a3.lc1 1 (by omega)
   exact (a1.trans h).trans (a4.mul (e1.trans a2)).symm
  have h2:t'*t'%ab 0=(ab 0-dN)*(s'*s'%ab 0)%ab 0:=by
   have b1:=gP (m:=ab 0) (t'*t')
   have b2:=gP (m:=ab 0) ((ab 0-dN)*(s'*s'%ab 0))
   exact Cz.nat (Nat.mod_lt _ hm) (Nat.mod_lt _ hm) ((b1.trans h1).trans b2.symm)
  have h3:Go.NT.isSq 0 ((ab 0-dN)*(s'*s'%ab 0)%ab 0)=true:=Go.NT.isSq_of (r:=t') (by decide) (by rw[←fV];exact h2)
  have hd:ab 0-dN<ab 0:=by
   have:0<dN:=by decide
   omega
  rw[fV] at hsl hd
  have h4:=Go.NT.isSq_mul (k:=0) (by decide) h0 hsl hd
  rw[fV] at h3
  rw[h4,←fV,afe] at h3
  exact absurd h3 (by decide)
def iN:Nat:=Go.NT.powK 256 2 (Go.NT.modP 0/4) (Go.NT.modP 0)
theorem ap6:C0 ((iN:Int)*iN) (-1):=by
 have h:iN*iN%ab 0=ab 0-1:=by decide+kernel
 have h1:=gP (m:=ab 0) (iN*iN)
 rw[h,Int.natCast_mul] at h1
 refine h1.symm.trans ⟨1,?_⟩
 have:=ae 0
 omega
def On (x y:Int):Prop:=C0 (y*y-x*x) (1+(dN:Int)*(x*x)*(y*y))
theorem vK:¬C0 1 0:=by
 intro h
 have:=Cz.nat (m:=ab 0) (x:=1) (y:=0) (a9 0) (ae 0) h
 exact absurd this (by decide)
theorem Ff:¬C0 2 0:=by
 intro h
 have:=Cz.nat (m:=ab 0) (x:=2) (y:=0) (en 0) (ae 0) h
 exact absurd this (by decide)
theorem fA {a b:Int} (ha:¬C0 a 0) (hb:¬C0 b 0):¬C0 (a*b) 0:=fun h=>by
 rcases gZ WH h with h|h
 ·exact ha h
 ·exact hb h
theorem ET {x1 y1 x2 y2:Int} (h1:On x1 y1) (h2:On x2 y2) (he:C0 ((dN:Int)*x1*x2*y1*y2*((dN:Int)*x1*x2*y1*y2)) 1):False:=by
 have hi:=ap6
 generalize (iN:Int)=i at*
 unfold On at h1 h2
 have hxy:¬C0 (x1*y1) 0:=fun h=>vK (he.symm.trans (h.lc1 (dN*x2*y2*(dN*x1*x2*y1*y2)) (by grind)))
 have hy2:¬C0 y2 0:=fun h=>vK (he.symm.trans (h.lc1 (dN*x1*x2*y1*(dN*x1*x2*y1*y2)) (by grind)))
 have hi0:¬C0 i 0:=fun h=>vK ((hi.symm.lc1 1 (by omega):C0 (-1) (i*i)).lc2 h (-1) (-i) (by grind))
 have key:∀s:Int,s=1∨s= -1→C0 (i*(x1*y1)*(i*x2+s*y2)) 0:=by
  intro s hs
  have hss:s*s=1:=by rcases hs with rfl|rfl<;>rfl
  refine nsq (t:=i*x1+s*((dN:Int)*x1*x2*y1*y2)*y1) ?_
  generalize (dN:Int)=D at*
  refine Cz.lc4 h1 h2 he hi 1 (-D*(x1*x1)*(y1*y1)) (y1*y1-1) (x1*x1+D*(x1*x1)*(y1*y1)*((i*x2+s*y2)*(i*x2+s*y2)-x2*x2)) ?_
  rcases hs with rfl|rfl<;>grind
 have ha:=key 1 (.inl rfl)
 have hb:=key (-1) (.inr rfl)
 have hn:=fA hi0 hxy
 have ha':C0 (i*x2+1*y2) 0:=by
  rcases gZ WH ha with h|h
  ·exact absurd h hn
  ·exact h
 have hb':C0 (i*x2+ -1*y2) 0:=by
  rcases gZ WH hb with h|h
  ·exact absurd h hn
  ·exact h
 exact fA Ff hy2 (ha'.lc2 hb' 1 (-1) (by omega))
end Go.Ev.H5.Ed
namespace Go.Ev.H5.Ed
def aju (d x1 y1 x2 y2 x3 y3:Int):Int:= -(d*d)*x1*(x2*x2*x2*x2)*(x3*x3)*(y2*y2*y2)*y3-(d*d)*x1*(x2*x2*x2)*x3*(y2*y2*y2*y2)*(y3*y3)+(d*d)*(x2*x2*x2*x2)*x3*y1*(y2*y2*y2)*(y3*y3)+(d*d)*(x2*x2*x2)*(x3*x3)*y1*(y2*y2*y2*y2)*y3-d*x1*(x2*x2*x2*x2)*(x3*x3)*y2*y3-d*x1*(x2*x2*x2)*(x3*x3*x3)*(y2*y2)-d*x1*(x2*x2*x2)*x3*(y2*y2)+d*x1*(x2*x2)*(y2*y2*y2)*(y3*y3*y3)-d*x1*(x2*x2)*(y2*y2*y2)*y3+d*x1*x2*x3*(y2*y2*y2*y2)*(y3*y3)+d*(x2*x2*x2*x2)*x3*y1*y2*(y3*y3)+d*(x2*x2*x2)*y1*(y2*y2)*(y3*y3*y3)-d*(x2*x2*x2)*y1*(y2*y2)*y3-d*(x2*x2)*(x3*x3*x3)*y1*(y2*y2*y2)-d*(x2*x2)*x3*y1*(y2*y2*y2)-d*x2*(x3*x3)*y1*(y2*y2*y2*y2)*y3
def agi (d x1 y1 x2 y2 x3 y3:Int):Int:=(d*d)*(x1*x1)*(x2*x2)*(x3*x3*x3)*y1*y2*(y3*y3)-(d*d)*(x1*x1)*x2*(x3*x3)*y1*(y2*y2)*(y3*y3*y3)-(d*d)*x1*(x2*x2)*(x3*x3)*(y1*y1)*y2*(y3*y3*y3)+(d*d)*x1*x2*(x3*x3*x3)*(y1*y1)*(y2*y2)*(y3*y3)+d*(x1*x1*x1)*(x2*x2)*(x3*x3)*y2*y3+d*(x1*x1*x1)*x2*(x3*x3*x3)*(y3*y3)+d*(x1*x1*x1)*x2*x3*(y2*y2)*(y3*y3)+d*(x1*x1*x1)*(x3*x3)*y2*(y3*y3*y3)-d*(x1*x1)*(x2*x2)*x3*y1*y2*(y3*y3)-d*(x1*x1)*x2*(x3*x3)*y1*(y2*y2)*y3+d*(x1*x1)*x2*(x3*x3)*y1*(y3*y3*y3)+d*(x1*x1)*(x3*x3*x3)*y1*y2*(y3*y3)-d*x1*(x2*x2)*(x3*x3)*(y1*y1)*y2*y3+d*x1*(x2*x2)*(x3*x3)*y2*y3-d*x1*x2*(x3*x3*x3)*(y1*y1)*(y3*y3)+d*x1*x2*(x3*x3*x3)*(y3*y3)-d*x1*x2*x3*(y1*y1)*(y2*y2)*(y3*y3)+d*x1*x2*x3*(y2*y2)*(y3*y3)-d*x1*(x3*x3)*(y1*y1)*y2*(y3*y3*y3)+d*x1*(x3*x3)*y2*(y3*y3*y3)+d*(x2*x2)*x3*(y1*y1*y1)*y2*(y3*y3)-d*(x2*x2)*x3*y1*y2*(y3*y3)+d*x2*(x3*x3)*(y1*y1*y1)*(y2*y2)*y3-d*x2*(x3*x3)*(y1*y1*y1)*(y3*y3*y3)-d*x2*(x3*x3)*y1*(y2*y2)*y3+d*x2*(x3*x3)*y1*(y3*y3*y3)-d*(x3*x3*x3)*(y1*y1*y1)*y2*(y3*y3)+d*(x3*x3*x3)*y1*y2*(y3*y3)+(x1*x1*x1)*x2*(x3*x3*x3)-(x1*x1*x1)*x2*x3*(y3*y3)+(x1*x1*x1)*x2*x3+(x1*x1*x1)*(x3*x3)*y2*y3-(x1*x1*x1)*y2*(y3*y3*y3)+(x1*x1*x1)*y2*y3+(x1*x1)*x2*(x3*x3)*y1*y3-(x1*x1)*x2*y1*(y3*y3*y3)+(x1*x1)*x2*y1*y3+(x1*x1)*(x3*x3*x3)*y1*y2-(x1*x1)*x3*y1*y2*(y3*y3)+(x1*x1)*x3*y1*y2-x1*x2*(x3*x3*x3)*(y1*y1)+x1*x2*(x3*x3*x3)+x1*x2*x3*(y1*y1)*(y3*y3)-x1*x2*x3*(y1*y1)-x1*x2*x3*(y3*y3)+x1*x2*x3-x1*(x3*x3)*(y1*y1)*y2*y3+x1*(x3*x3)*y2*y3+x1*(y1*y1)*y2*(y3*y3*y3)-x1*(y1*y1)*y2*y3-x1*y2*(y3*y3*y3)+x1*y2*y3-x2*(x3*x3)*(y1*y1*y1)*y3+x2*(x3*x3)*y1*y3+x2*(y1*y1*y1)*(y3*y3*y3)-x2*(y1*y1*y1)*y3-x2*y1*(y3*y3*y3)+x2*y1*y3-(x3*x3*x3)*(y1*y1*y1)*y2+(x3*x3*x3)*y1*y2+x3*(y1*y1*y1)*y2*(y3*y3)-x3*(y1*y1*y1)*y2-x3*y1*y2*(y3*y3)+x3*y1*y2
def ae9 (d x1 y1 x2 y2 x3 y3:Int):Int:= -d*(x1*x1)*(x2*x2)*x3*y1*y2+d*(x1*x1)*x2*y1*(y2*y2)*y3+d*x1*(x2*x2)*(y1*y1)*y2*y3-d*x1*x2*x3*(y1*y1)*(y2*y2)-(x1*x1*x1)*(x2*x2*x2)*x3-(x1*x1*x1)*(x2*x2)*y2*y3+(x1*x1*x1)*x2*x3*(y2*y2)-(x1*x1*x1)*x2*x3+(x1*x1*x1)*(y2*y2*y2)*y3-(x1*x1*x1)*y2*y3-(x1*x1)*(x2*x2*x2)*y1*y3-(x1*x1)*(x2*x2)*x3*y1*y2+(x1*x1)*x2*y1*(y2*y2)*y3-(x1*x1)*x2*y1*y3+(x1*x1)*x3*y1*(y2*y2*y2)-(x1*x1)*x3*y1*y2+x1*(x2*x2*x2)*x3*(y1*y1)-x1*(x2*x2*x2)*x3+x1*(x2*x2)*(y1*y1)*y2*y3-x1*(x2*x2)*y2*y3-x1*x2*x3*(y1*y1)*(y2*y2)+x1*x2*x3*(y1*y1)+x1*x2*x3*(y2*y2)-x1*x2*x3-x1*(y1*y1)*(y2*y2*y2)*y3+x1*(y1*y1)*y2*y3+x1*(y2*y2*y2)*y3-x1*y2*y3+(x2*x2*x2)*(y1*y1*y1)*y3-(x2*x2*x2)*y1*y3+(x2*x2)*x3*(y1*y1*y1)*y2-(x2*x2)*x3*y1*y2-x2*(y1*y1*y1)*(y2*y2)*y3+x2*(y1*y1*y1)*y3+x2*y1*(y2*y2)*y3-x2*y1*y3-x3*(y1*y1*y1)*(y2*y2*y2)+x3*(y1*y1*y1)*y2+x3*y1*(y2*y2*y2)-x3*y1*y2
theorem Zw (d x1 y1 x2 y2 x3 y3:Int):((x1*y2+x2*y1)*(1-d*x1*x2*y1*y2)*y3+(y1*y2+x1*x2)*(1+d*x1*x2*y1*y2)*x3)*((1+d*x2*x3*y2*y3)*(1-d*x2*x3*y2*y3)+d*(x2*y3+x3*y2)*(y2*y3+x2*x3)*x1*y1)-(x1*(y2*y3+x2*x3)*(1+d*x2*x3*y2*y3)+y1*(x2*y3+x3*y2)*(1-d*x2*x3*y2*y3))*((1+d*x1*x2*y1*y2)*(1-d*x1*x2*y1*y2)+d*(x1*y2+x2*y1)*(y1*y2+x1*x2)*x3*y3)=aju d x1 y1 x2 y2 x3 y3*((y1*y1-x1*x1)-(1+d*(x1*x1)*(y1*y1)))+agi d x1 y1 x2 y2 x3 y3*((y2*y2-x2*x2)-(1+d*(x2*x2)*(y2*y2)))+ae9 d x1 y1 x2 y2 x3 y3*((y3*y3-x3*x3)-(1+d*(x3*x3)*(y3*y3))):=by
 unfold aju agi ae9
 grind
def ajn (d x1 y1 x2 y2 x3 y3:Int):Int:=(d*d)*x1*(x2*x2*x2*x2)*x3*(y2*y2*y2)*(y3*y3)+(d*d)*x1*(x2*x2*x2)*(x3*x3)*(y2*y2*y2*y2)*y3-(d*d)*(x2*x2*x2*x2)*(x3*x3)*y1*(y2*y2*y2)*y3-(d*d)*(x2*x2*x2)*x3*y1*(y2*y2*y2*y2)*(y3*y3)+d*x1*(x2*x2*x2*x2)*x3*y2*(y3*y3)+d*x1*(x2*x2*x2)*(y2*y2)*(y3*y3*y3)-d*x1*(x2*x2*x2)*(y2*y2)*y3-d*x1*(x2*x2)*(x3*x3*x3)*(y2*y2*y2)-d*x1*(x2*x2)*x3*(y2*y2*y2)-d*x1*x2*(x3*x3)*(y2*y2*y2*y2)*y3-d*(x2*x2*x2*x2)*(x3*x3)*y1*y2*y3-d*(x2*x2*x2)*(x3*x3*x3)*y1*(y2*y2)-d*(x2*x2*x2)*x3*y1*(y2*y2)+d*(x2*x2)*y1*(y2*y2*y2)*(y3*y3*y3)-d*(x2*x2)*y1*(y2*y2*y2)*y3+d*x2*x3*y1*(y2*y2*y2*y2)*(y3*y3)
def afy (d x1 y1 x2 y2 x3 y3:Int):Int:=(d*d)*(x1*x1)*(x2*x2)*(x3*x3)*y1*y2*(y3*y3*y3)-(d*d)*(x1*x1)*x2*(x3*x3*x3)*y1*(y2*y2)*(y3*y3)-(d*d)*x1*(x2*x2)*(x3*x3*x3)*(y1*y1)*y2*(y3*y3)+(d*d)*x1*x2*(x3*x3)*(y1*y1)*(y2*y2)*(y3*y3*y3)-d*(x1*x1*x1)*(x2*x2)*x3*y2*(y3*y3)-d*(x1*x1*x1)*x2*(x3*x3)*(y2*y2)*y3+d*(x1*x1*x1)*x2*(x3*x3)*(y3*y3*y3)+d*(x1*x1*x1)*(x3*x3*x3)*y2*(y3*y3)+d*(x1*x1)*(x2*x2)*(x3*x3)*y1*y2*y3+d*(x1*x1)*x2*(x3*x3*x3)*y1*(y3*y3)+d*(x1*x1)*x2*x3*y1*(y2*y2)*(y3*y3)+d*(x1*x1)*(x3*x3)*y1*y2*(y3*y3*y3)+d*x1*(x2*x2)*x3*(y1*y1)*y2*(y3*y3)-d*x1*(x2*x2)*x3*y2*(y3*y3)+d*x1*x2*(x3*x3)*(y1*y1)*(y2*y2)*y3-d*x1*x2*(x3*x3)*(y1*y1)*(y3*y3*y3)-d*x1*x2*(x3*x3)*(y2*y2)*y3+d*x1*x2*(x3*x3)*(y3*y3*y3)-d*x1*(x3*x3*x3)*(y1*y1)*y2*(y3*y3)+d*x1*(x3*x3*x3)*y2*(y3*y3)-d*(x2*x2)*(x3*x3)*(y1*y1*y1)*y2*y3+d*(x2*x2)*(x3*x3)*y1*y2*y3-d*x2*(x3*x3*x3)*(y1*y1*y1)*(y3*y3)+d*x2*(x3*x3*x3)*y1*(y3*y3)-d*x2*x3*(y1*y1*y1)*(y2*y2)*(y3*y3)+d*x2*x3*y1*(y2*y2)*(y3*y3)-d*(x3*x3)*(y1*y1*y1)*y2*(y3*y3*y3)+d*(x3*x3)*y1*y2*(y3*y3*y3)+(x1*x1*x1)*x2*(x3*x3)*y3-(x1*x1*x1)*x2*(y3*y3*y3)+(x1*x1*x1)*x2*y3+(x1*x1*x1)*(x3*x3*x3)*y2-(x1*x1*x1)*x3*y2*(y3*y3)+(x1*x1*x1)*x3*y2+(x1*x1)*x2*(x3*x3*x3)*y1-(x1*x1)*x2*x3*y1*(y3*y3)+(x1*x1)*x2*x3*y1+(x1*x1)*(x3*x3)*y1*y2*y3-(x1*x1)*y1*y2*(y3*y3*y3)+(x1*x1)*y1*y2*y3-x1*x2*(x3*x3)*(y1*y1)*y3+x1*x2*(x3*x3)*y3+x1*x2*(y1*y1)*(y3*y3*y3)-x1*x2*(y1*y1)*y3-x1*x2*(y3*y3*y3)+x1*x2*y3-x1*(x3*x3*x3)*(y1*y1)*y2+x1*(x3*x3*x3)*y2+x1*x3*(y1*y1)*y2*(y3*y3)-x1*x3*(y1*y1)*y2-x1*x3*y2*(y3*y3)+x1*x3*y2-x2*(x3*x3*x3)*(y1*y1*y1)+x2*(x3*x3*x3)*y1+x2*x3*(y1*y1*y1)*(y3*y3)-x2*x3*(y1*y1*y1)-x2*x3*y1*(y3*y3)+x2*x3*y1-(x3*x3)*(y1*y1*y1)*y2*y3+(x3*x3)*y1*y2*y3+(y1*y1*y1)*y2*(y3*y3*y3)-(y1*y1*y1)*y2*y3-y1*y2*(y3*y3*y3)+y1*y2*y3
def ajg (d x1 y1 x2 y2 x3 y3:Int):Int:= -d*(x1*x1)*(x2*x2)*y1*y2*y3+d*(x1*x1)*x2*x3*y1*(y2*y2)+d*x1*(x2*x2)*x3*(y1*y1)*y2-d*x1*x2*(y1*y1)*(y2*y2)*y3-(x1*x1*x1)*(x2*x2*x2)*y3-(x1*x1*x1)*(x2*x2)*x3*y2+(x1*x1*x1)*x2*(y2*y2)*y3-(x1*x1*x1)*x2*y3+(x1*x1*x1)*x3*(y2*y2*y2)-(x1*x1*x1)*x3*y2-(x1*x1)*(x2*x2*x2)*x3*y1-(x1*x1)*(x2*x2)*y1*y2*y3+(x1*x1)*x2*x3*y1*(y2*y2)-(x1*x1)*x2*x3*y1+(x1*x1)*y1*(y2*y2*y2)*y3-(x1*x1)*y1*y2*y3+x1*(x2*x2*x2)*(y1*y1)*y3-x1*(x2*x2*x2)*y3+x1*(x2*x2)*x3*(y1*y1)*y2-x1*(x2*x2)*x3*y2-x1*x2*(y1*y1)*(y2*y2)*y3+x1*x2*(y1*y1)*y3+x1*x2*(y2*y2)*y3-x1*x2*y3-x1*x3*(y1*y1)*(y2*y2*y2)+x1*x3*(y1*y1)*y2+x1*x3*(y2*y2*y2)-x1*x3*y2+(x2*x2*x2)*x3*(y1*y1*y1)-(x2*x2*x2)*x3*y1+(x2*x2)*(y1*y1*y1)*y2*y3-(x2*x2)*y1*y2*y3-x2*x3*(y1*y1*y1)*(y2*y2)+x2*x3*(y1*y1*y1)+x2*x3*y1*(y2*y2)-x2*x3*y1-(y1*y1*y1)*(y2*y2*y2)*y3+(y1*y1*y1)*y2*y3+y1*(y2*y2*y2)*y3-y1*y2*y3
theorem YG (d x1 y1 x2 y2 x3 y3:Int):((y1*y2+x1*x2)*(1+d*x1*x2*y1*y2)*y3+(x1*y2+x2*y1)*(1-d*x1*x2*y1*y2)*x3)*((1+d*x2*x3*y2*y3)*(1-d*x2*x3*y2*y3)-d*(x2*y3+x3*y2)*(y2*y3+x2*x3)*x1*y1)-(y1*(y2*y3+x2*x3)*(1+d*x2*x3*y2*y3)+x1*(x2*y3+x3*y2)*(1-d*x2*x3*y2*y3))*((1+d*x1*x2*y1*y2)*(1-d*x1*x2*y1*y2)-d*(x1*y2+x2*y1)*(y1*y2+x1*x2)*x3*y3)=ajn d x1 y1 x2 y2 x3 y3*((y1*y1-x1*x1)-(1+d*(x1*x1)*(y1*y1)))+afy d x1 y1 x2 y2 x3 y3*((y2*y2-x2*x2)-(1+d*(x2*x2)*(y2*y2)))+ajg d x1 y1 x2 y2 x3 y3*((y3*y3-x3*x3)-(1+d*(x3*x3)*(y3*y3))):=by
 unfold ajn afy ajg
 grind
def cc1 (d x1 y1 x2 y2:Int):Int:=(d*d*d)*(x1*x1)*(x2*x2*x2*x2)*(y1*y1)*(y2*y2*y2*y2)-(d*d)*(x1*x1)*(x2*x2*x2*x2)*(y2*y2*y2*y2)+(d*d)*(x2*x2*x2*x2)*(y1*y1)*(y2*y2*y2*y2)-(d*d)*(x2*x2*x2*x2)*(y2*y2*y2*y2)-d*(x1*x1)*(x2*x2*x2*x2)*(y2*y2)+d*(x1*x1)*(x2*x2)*(y2*y2*y2*y2)+d*(x2*x2*x2*x2)*(y1*y1)*(y2*y2)-2*d*(x2*x2*x2*x2)*(y2*y2*y2*y2)-d*(x2*x2)*(y1*y1)*(y2*y2*y2*y2)-2*d*(x2*x2)*(y2*y2)-2*(x2*x2*x2*x2)*(y2*y2)+(x2*x2*x2*x2)+2*(x2*x2)*(y2*y2*y2*y2)-4*(x2*x2)*(y2*y2)+(y2*y2*y2*y2)
def cc2 (d x1 y1 x2 y2:Int):Int:=d*(x1*x1*x1*x1)*(x2*x2)*(y2*y2)+2*d*(x1*x1)*(x2*x2)*(y2*y2)+d*(x2*x2)*(y1*y1*y1*y1)*(y2*y2)-2*d*(x2*x2)*(y1*y1)*(y2*y2)+d*(x2*x2)*(y2*y2)+2*(x1*x1)*(x2*x2)*(y2*y2)-(x1*x1)*(x2*x2)+(x1*x1)*(y2*y2)-2*(x2*x2)*(y1*y1)*(y2*y2)+(x2*x2)*(y1*y1)+2*(x2*x2)*(y2*y2)-(x2*x2)-(y1*y1)*(y2*y2)+(y2*y2)+1
theorem acz (d x1 y1 x2 y2:Int):((y1*y2+x1*x2)*(1+d*x1*x2*y1*y2))*((y1*y2+x1*x2)*(1+d*x1*x2*y1*y2))-((x1*y2+x2*y1)*(1-d*x1*x2*y1*y2))*((x1*y2+x2*y1)*(1-d*x1*x2*y1*y2))-(((1+d*x1*x2*y1*y2)*(1-d*x1*x2*y1*y2))*((1+d*x1*x2*y1*y2)*(1-d*x1*x2*y1*y2))+d*((x1*y2+x2*y1)*(x1*y2+x2*y1))*((y1*y2+x1*x2)*(y1*y2+x1*x2)))=cc1 d x1 y1 x2 y2*((y1*y1-x1*x1)-(1+d*(x1*x1)*(y1*y1)))+cc2 d x1 y1 x2 y2*((y2*y2-x2*x2)-(1+d*(x2*x2)*(y2*y2))):=by
 unfold cc1 cc2
 grind
end Go.Ev.H5.Ed
namespace Go.Ev.H5.Ed
open Go Go.Proofs Go.RowKit
theorem cD:C0 pTw (2*(dN:Int)):=(jp dN dN).trans (Cz.of_eq (by grind))
theorem cB (p q:E4):C0 (pB p q) (((p.y:Int)+p.x)*((q.y:Int)+q.x)):=(ei _ _).trans ((jp _ _).mul (jp _ _))
theorem cC (p q:E4):C0 (pC p q) (2*(dN:Int)*p.t*q.t):=(ei _ _).trans ((((ei _ _).trans ((Cz.refl _ _).mul cD)).mul (Cz.refl _ _)).trans (Cz.of_eq (by grind)))
theorem cDD (p q:E4):C0 (pD p q) (2*(p.z:Int)*q.z):=(ei _ _).trans (((jp _ _).mul (Cz.refl _ _)).trans (Cz.of_eq (by grind)))
theorem cF (p q:E4):C0 (pF p q) (2*((p.z:Int)*q.z-dN*p.t*q.t)):=(lf (show pC p q<ab 0 from bi (ae 0))).trans (((cDD p q).sub (cC p q)).trans (Cz.of_eq (by grind)))
theorem cG (p q:E4):C0 (pG p q) (2*((p.z:Int)*q.z+dN*p.t*q.t)):=(jp _ _).trans (((cDD p q).add (cC p q)).trans (Cz.of_eq (by grind)))
theorem c3z (p q:E4):C0 (oR p q).z (2*((p.z:Int)*q.z-dN*p.t*q.t)*(2*((p.z:Int)*q.z+dN*p.t*q.t))):=(ei _ _).trans ((cF p q).mul (cG p q))
section
variable {p q:E4} (hp:p.lt) (hq:q.lt)
include hp hq
theorem cA:C0 (pA p q) (((p.y:Int)-p.x)*((q.y:Int)-q.x)):=(ei _ _).trans ((lf hp.1).mul (lf hq.1))
theorem cE:C0 (pE p q) (2*((p.x:Int)*q.y+p.y*q.x)):=(lf (show pA p q<ab 0 from bi (ae 0))).trans (((cB p q).sub (cA hp hq)).trans (Cz.of_eq (by grind)))
theorem cH:C0 (pH p q) (2*((p.y:Int)*q.y+p.x*q.x)):=(jp _ _).trans (((cB p q).add (cA hp hq)).trans (Cz.of_eq (by grind)))
theorem c3x:C0 (oR p q).x (2*((p.x:Int)*q.y+p.y*q.x)*(2*((p.z:Int)*q.z-dN*p.t*q.t))):=(ei _ _).trans ((cE hp hq).mul (cF p q))
theorem c3y:C0 (oR p q).y (2*((p.z:Int)*q.z+dN*p.t*q.t)*(2*((p.y:Int)*q.y+p.x*q.x))):=(ei _ _).trans ((cG p q).mul (cH hp hq))
theorem c3t:C0 (oR p q).t (2*((p.x:Int)*q.y+p.y*q.x)*(2*((p.y:Int)*q.y+p.x*q.x))):=(ei _ _).trans ((cE hp hq).mul (cH hp hq))
end
def EZ (P:E4) (x y:Int):Prop:=P.lt∧¬C0 P.z 0∧C0 P.x (x*P.z)∧C0 P.y (y*P.z)∧C0 P.t (x*y*P.z)
def eI (x1 y1 x2 y2:Int):Int:=(dN:Int)*x1*x2*y1*y2
theorem kQ {x1 y1 x2 y2:Int} (h1:On x1 y1) (h2:On x2 y2):¬C0 (1+eI x1 y1 x2 y2) 0:=fun h=>ET h1 h2 (by
 unfold eI at h
 exact h.lc1 ((dN:Int)*x1*x2*y1*y2-1) (by grind))
theorem ja {x1 y1 x2 y2:Int} (h1:On x1 y1) (h2:On x2 y2):¬C0 (1-eI x1 y1 x2 y2) 0:=fun h=>ET h1 h2 (by
 unfold eI at h
 exact h.lc1 (-((dN:Int)*x1*x2*y1*y2)-1) (by grind))
def mN (x1 y1 x2 y2 x3 y3:Int):Prop:=C0 (x3*(1+eI x1 y1 x2 y2)) (x1*y2+x2*y1)∧C0 (y3*(1-eI x1 y1 x2 y2)) (y1*y2+x1*x2)
theorem IE {p q:E4} {x1 y1 x2 y2 x3 y3:Int} (hp:EZ p x1 y1) (hq:EZ q x2 y2) (h1:On x1 y1) (h2:On x2 y2) (hs:mN x1 y1 x2 y2 x3 y3):EZ (oR p q) x3 y3:=by
 obtain ⟨pl,pz,px,py,pt⟩:=hp
 obtain ⟨ql,qz,qx,qy,qt⟩:=hq
 obtain ⟨s1,s2⟩:=hs
 have hplus:=kQ h1 h2
 have hminus:=ja h1 h2
 have cx:=c3x pl ql
 have cy:=c3y pl ql
 have cz:=c3z p q
 have ct:=c3t pl ql
 have tt:C0 ((p.t:Int)*q.t) (x1*y1*p.z*(x2*y2*q.z)):=pt.mul qt
 have xy:C0 ((p.x:Int)*q.y+p.y*q.x) (x1*p.z*(y2*q.z)+y1*p.z*(x2*q.z)):=(px.mul qy).add (py.mul qx)
 have yy:C0 ((p.y:Int)*q.y+p.x*q.x) (y1*p.z*(y2*q.z)+x1*p.z*(x2*q.z)):=(py.mul qy).add (px.mul qx)
 have f:C0 ((p.z:Int)*q.z-dN*p.t*q.t) (p.z*q.z*(1-eI x1 y1 x2 y2)):=tt.lc1 (-(dN:Int)) (by unfold eI;grind)
 have g:C0 ((p.z:Int)*q.z+dN*p.t*q.t) (p.z*q.z*(1+eI x1 y1 x2 y2)):=tt.lc1 (dN:Int) (by unfold eI;grind)
 have hz:C0 ((oR p q).z:Int) (2*(p.z*q.z*(1-eI x1 y1 x2 y2))*(2*(p.z*q.z*(1+eI x1 y1 x2 y2)))):=cz.trans (((Cz.refl _ 2).mul f).mul ((Cz.refl _ 2).mul g))
 have hx:C0 ((oR p q).x:Int) (2*(x1*p.z*(y2*q.z)+y1*p.z*(x2*q.z))*(2*(p.z*q.z*(1-eI x1 y1 x2 y2)))):=cx.trans (((Cz.refl _ 2).mul xy).mul ((Cz.refl _ 2).mul f))
 have hy:C0 ((oR p q).y:Int) (2*(p.z*q.z*(1+eI x1 y1 x2 y2))*(2*(y1*p.z*(y2*q.z)+x1*p.z*(x2*q.z)))):=cy.trans (((Cz.refl _ 2).mul g).mul ((Cz.refl _ 2).mul yy))
 have ht:C0 ((oR p q).t:Int) (2*(x1*p.z*(y2*q.z)+y1*p.z*(x2*q.z))*(2*(y1*p.z*(y2*q.z)+x1*p.z*(x2*q.z)))):=ct.trans (((Cz.refl _ 2).mul xy).mul ((Cz.refl _ 2).mul yy))
 refine ⟨Ac p q,fun h=>fA (fA Ff (fA (fA pz qz) hminus)) (fA Ff (fA (fA pz qz) hplus)) (hz.symm.trans h),?_,?_,?_⟩
 ·refine hx.trans (Cz.trans ?_ ((Cz.refl _ x3).mul hz).symm)
  exact s1.lc1 (-(4*(p.z*q.z)*(p.z*q.z)*(1-eI x1 y1 x2 y2))) (by generalize eI x1 y1 x2 y2=e;grind)
 ·refine hy.trans (Cz.trans ?_ ((Cz.refl _ y3).mul hz).symm)
  exact s2.lc1 (-(4*(p.z*q.z)*(p.z*q.z)*(1+eI x1 y1 x2 y2))) (by generalize eI x1 y1 x2 y2=e;grind)
 ·refine ht.trans (Cz.trans ?_ ((Cz.refl _ (x3*y3)).mul hz).symm)
  exact s1.lc2 s2 (-(4*(p.z*q.z)*(p.z*q.z)*(y1*y2+x1*x2))) (-(4*(p.z*q.z)*(p.z*q.z)*(x3*(1+eI x1 y1 x2 y2)))) (by generalize eI x1 y1 x2 y2=e;grind)
theorem NO {x1 y1 x2 y2 x3 y3 x4 y4:Int} (h1:On x1 y1) (h2:On x2 y2) (hs:mN x1 y1 x2 y2 x3 y3) (ht:mN x1 y1 x2 y2 x4 y4):C0 x3 x4∧C0 y3 y4:=by
 refine ⟨eR WH (a:=1+eI x1 y1 x2 y2) ?_ (kQ h1 h2),eR WH (a:=1-eI x1 y1 x2 y2) ?_ (ja h1 h2)⟩
 ·exact hs.1.lc2 ht.1 1 (-1) (by grind)
 ·exact hs.2.lc2 ht.2 1 (-1) (by grind)
theorem FX {x1 y1 x2 y2 x3 y3:Int} (h1:On x1 y1) (h2:On x2 y2) (hs:mN x1 y1 x2 y2 x3 y3):On x3 y3:=by
 have hplus:=kQ h1 h2
 have hminus:=ja h1 h2
 have hBD:=fA hplus hminus
 obtain ⟨s1,s2⟩:=hs
 have hc:=acz (dN:Int) x1 y1 x2 y2
 unfold On at*
 refine eR WH (a:=((1+eI x1 y1 x2 y2)*(1-eI x1 y1 x2 y2))*((1+eI x1 y1 x2 y2)*(1-eI x1 y1 x2 y2))) ?_ (fA hBD hBD)
 have a1:C0 (x3*(1+eI x1 y1 x2 y2)*(x3*(1+eI x1 y1 x2 y2))) ((x1*y2+x2*y1)*(x1*y2+x2*y1)):=s1.mul s1
 have a2:C0 (y3*(1-eI x1 y1 x2 y2)*(y3*(1-eI x1 y1 x2 y2))) ((y1*y2+x1*x2)*(y1*y2+x1*x2)):=s2.mul s2
 have a3:=a1.mul a2
 have key:C0 (((y1*y2+x1*x2)*(1+eI x1 y1 x2 y2))*((y1*y2+x1*x2)*(1+eI x1 y1 x2 y2))-((x1*y2+x2*y1)*(1-eI x1 y1 x2 y2))*((x1*y2+x2*y1)*(1-eI x1 y1 x2 y2))) (((1+eI x1 y1 x2 y2)*(1-eI x1 y1 x2 y2))*((1+eI x1 y1 x2 y2)*(1-eI x1 y1 x2 y2))+dN*((x1*y2+x2*y1)*(x1*y2+x2*y1))*((y1*y2+x1*x2)*(y1*y2+x1*x2))):=
  h1.lc2 h2 (cc1 dN x1 y1 x2 y2) (cc2 dN x1 y1 x2 y2) (by unfold eI;exact hc)
 generalize eI x1 y1 x2 y2=e at*
 exact key.lc4 a1 a2 a3 1 (-((1-e)*(1-e))) ((1+e)*(1+e)) (-(dN:Int)) (by grind)
theorem Mk {m:Nat} {B D A C ax ay x3 y3 bx d:Int} (a1:Cz m (ax*B) A) (a2:Cz m (ay*D) C) (e1:Cz m (bx*(1+d*ax*x3*ay*y3)) (ax*y3+x3*ay)):
  Cz m (bx*(B*D+d*A*C*x3*y3)) (A*D*y3+C*B*x3)∧Cz m (B*D*(1+d*ax*x3*ay*y3)) (B*D+d*A*C*x3*y3):=by
 have aa:=a1.mul a2
 exact ⟨e1.lc4 aa a1 a2 (B*D) (-(bx*d*x3*y3)) (D*y3) (x3*B) (by grind),aa.lc1 (d*x3*y3) (by grind)⟩
theorem Pe {m:Nat} {B D A C ax ay x3 y3 bx d:Int} (a1:Cz m (ax*B) A) (a2:Cz m (ay*D) C) (e1:Cz m (bx*(1-d*ax*x3*ay*y3)) (ay*y3+ax*x3)):
  Cz m (bx*(B*D-d*A*C*x3*y3)) (C*B*y3+A*D*x3)∧Cz m (B*D*(1-d*ax*x3*ay*y3)) (B*D-d*A*C*x3*y3):=by
 have aa:=a1.mul a2
 exact ⟨e1.lc4 aa a1 a2 (B*D) (bx*d*x3*y3) (D*x3) (y3*B) (by grind),aa.lc1 (-(d*x3*y3)) (by grind)⟩
theorem JO {x1 y1 x2 y2 x3 y3 ax ay bx bY cx cy dx dy:Int} (h1:On x1 y1) (h2:On x2 y2) (h3:On x3 y3) (ha:mN x1 y1 x2 y2 ax ay) (hb:mN ax ay x3 y3 bx bY) (hc:mN x2 y2 x3 y3 cx cy) (hd:mN x1 y1 cx cy dx dy):C0 bx dx∧C0 bY dy:=by
 have oa:=FX h1 h2 ha
 have oc:=FX h2 h3 hc
 have k1:=Zw (dN:Int) x1 y1 x2 y2 x3 y3
 have k2:=YG (dN:Int) x1 y1 x2 y2 x3 y3
 have n12:=fA (kQ h1 h2) (ja h1 h2)
 have n23:=fA (kQ h2 h3) (ja h2 h3)
 have ba3p:=kQ oa h3
 have ba3m:=ja oa h3
 have b1cp:=kQ h1 oc
 have b1cm:=ja h1 oc
 obtain ⟨a1,a2⟩:=ha
 obtain ⟨c1,c2⟩:=hc
 obtain ⟨e1,e2⟩:=hb
 obtain ⟨f1,f2⟩:=hd
 unfold eI at ba3p ba3m b1cp b1cm e1 e2 f1 f2
 obtain ⟨l1,l2⟩:=Mk a1 a2 e1
 obtain ⟨r1,r2⟩:=Mk (d:=(dN:Int)) (x3:=x1) (y3:=y1) (bx:=dx) c1 c2 (f1.lc1 1 (by grind))
 obtain ⟨l3,l4⟩:=Pe a1 a2 e2
 obtain ⟨r3,r4⟩:=Pe (d:=(dN:Int)) (x3:=x1) (y3:=y1) (bx:=dy) c1 c2 (f2.lc1 1 (by grind))
 have key1:=h1.lc3 h2 h3 _ _ _ k1
 have key2:=h1.lc3 h2 h3 _ _ _ k2
 have nl1:¬C0 _ 0:=fun h=>fA n12 ba3p (l2.trans h)
 have nr1:¬C0 _ 0:=fun h=>fA n23 b1cp ((Cz.of_eq (by grind)).trans (r2.trans h))
 have nl3:¬C0 _ 0:=fun h=>fA n12 ba3m (l4.trans h)
 have nr3:¬C0 _ 0:=fun h=>fA n23 b1cm ((Cz.of_eq (by grind)).trans (r4.trans h))
 unfold eI at l1 r1 l3 r3 nl1 nr1 nl3 nr3
 constructor
 ·refine eR WH ?_ (fA nl1 nr1)
  generalize (1+(dN:Int)*x1*x2*y1*y2)=B at*
  generalize (1-(dN:Int)*x1*x2*y1*y2)=D at*
  generalize (1+(dN:Int)*x2*x3*y2*y3)=B' at*
  generalize (1-(dN:Int)*x2*x3*y2*y3)=D' at*
  generalize x1*y2+x2*y1=A at*
  generalize y1*y2+x1*x2=C at*
  generalize x2*y3+x3*y2=A' at*
  generalize y2*y3+x2*x3=C' at*
  exact key1.lc3 l1 r1 1 (B'*D'+dN*A'*C'*x1*y1) (-(B*D+dN*A*C*x3*y3)) (by grind)
 ·refine eR WH ?_ (fA nl3 nr3)
  generalize (1+(dN:Int)*x1*x2*y1*y2)=B at*
  generalize (1-(dN:Int)*x1*x2*y1*y2)=D at*
  generalize (1+(dN:Int)*x2*x3*y2*y3)=B' at*
  generalize (1-(dN:Int)*x2*x3*y2*y3)=D' at*
  generalize x1*y2+x2*y1=A at*
  generalize y1*y2+x1*x2=C at*
  generalize x2*y3+x3*y2=A' at*
  generalize y2*y3+x2*x3=C' at*
  exact key2.lc3 l3 r3 1 (B'*D'-dN*A'*C'*x1*y1) (-(B*D-dN*A*C*x3*y3)) (by grind)
theorem uy {x y:Nat}:gt x y=true↔x<ab 0∧y<ab 0∧On x y:=by
 have hm:=ae 0
 have h1:C0 (aw (ab 0) (bK (ab 0) y y) (bK (ab 0) x x)) ((y:Int)*y-x*x):=(lf (bi hm)).trans ((ei y y).sub (ei x x))
 have h2:C0 (addM (ab 0) 1 (bK (ab 0) dN (bK (ab 0) (bK (ab 0) x x) (bK (ab 0) y y)))) (1+(dN:Int)*(x*x)*(y*y)):=
  (jp _ _).trans (((Cz.refl _ 1).add ((ei _ _).trans ((Cz.refl _ _).mul ((ei _ _).trans ((ei x x).mul (ei y y)))))).trans (Cz.of_eq (by grind)))
 unfold gt ltE
 rw[FK]
 unfold pOn
 simp only[Bool.and_eq_true,decide_eq_true_iff]
 constructor
 ·rintro ⟨⟨a,b⟩,c⟩
  exact ⟨a,b,h1.symm.trans ((Cz.of_eq (by rw[c])).trans h2)⟩
 ·rintro ⟨a,b,c⟩
  exact ⟨⟨a,b⟩,Cz.nat (av hm) (ao hm) (h1.trans (Cz.trans c h2.symm))⟩
theorem vo {P:E4} {x y:Nat} (h:EZ P x y) (hx:x<ab 0) (hy:y<ab 0):iU (kO P)=x∧iG (kO P)=y:=by
 obtain ⟨hl,hz,h1,h2,_⟩:=h
 have hi:=sn (k:=0) (by decide) hl.2.2.1 hz
 have hm:=ae 0
 have key:∀(c v:Nat),v<ab 0→C0 c ((v:Int)*P.z)→za P c=v:=by
  intro c v hv hc
  refine Cz.nat (bi hm) hv ((ei _ _).trans ?_)
  show C0 ((c:Int)*qv 0 P.z) v
  exact hc.lc2 hi (qv 0 P.z) v (by grind)
 rw[Kv hl,Ko hl]
 exact ⟨key _ _ hx h1,key _ _ hy h2⟩
theorem gB {x y:Nat} (hx:x<ab 0) (hy:y<ab 0):EZ (yg x y) x y:=by
 refine ⟨iq hx hy,vK,Cz.of_eq ?_,Cz.of_eq ?_,(ei x y).trans (Cz.of_eq ?_)⟩
 ·show (x:Int)=x*((1:Nat):Int);grind
 ·show (y:Int)=y*((1:Nat):Int);grind
 ·show (x:Int)*y=x*y*((1:Nat):Int);grind
theorem OD {m:Nat} (hm:0<m) (z:Int):qj m z<m:=by
 unfold qj
 have:=Int.emod_lt_of_pos z (show (0:Int)<(m:Int) by omega)
 have:=Int.emod_nonneg z (show (m:Int)≠0 by omega)
 omega
theorem GJ {x1 y1 x2 y2:Int} (h1:On x1 y1) (h2:On x2 y2):∃x3 y3:Nat,x3<ab 0∧y3<ab 0∧mN x1 y1 x2 y2 x3 y3:=by
 have hm:=ae 0
 have key:∀n d:Int,¬C0 d 0→∃q:Nat,q<ab 0∧C0 ((q:Int)*d) n:=by
  intro n d hd
  have hc:=j5 hm d
  have hi:=sn (k:=0) (by decide) (OD hm d) (fun h=>hd (hc.symm.trans h))
  refine ⟨qj (ab 0) (n*qv 0 (qj (ab 0) d)),OD hm _,?_⟩
  have hq:=j5 hm (n*qv 0 (qj (ab 0) d))
  exact hq.lc3 hi hc d n (-(n*qv 0 (qj (ab 0) d))) (by grind)
 obtain ⟨x3,a1,a2⟩:=key (x1*y2+x2*y1) _ (kQ h1 h2)
 obtain ⟨y3,b1,b2⟩:=key (y1*y2+x1*x2) _ (ja h1 h2)
 exact ⟨x3,y3,a1,b1,a2,b2⟩
abbrev Pt:=Nat×Nat
def Pt.on (p:Pt):Prop:=p.1<ab 0∧p.2<ab 0∧On p.1 p.2
noncomputable def ju (p q:Pt):Pt:=(iU (JZ p.1 p.2 q.1 q.2),iG (JZ p.1 p.2 q.1 q.2))
def gnone:Pt:=(0,1)
def CB (p:Pt):Pt:=(aw (ab 0) 0 p.1,p.2)
theorem wQ {x y:Nat} (h:gt x y=true):Pt.on (x,y):=uy.1 h
theorem Pt.on.e {p:Pt} (h:p.on):gt p.1 p.2=true:=uy.2 h
theorem qI {P Q:E4} {p q:Pt} (hp:p.on) (hq:q.on) (hP:EZ P p.1 p.2) (hQ:EZ Q q.1 q.2):(ju p q).on∧EZ (oR P Q) (ju p q).1 (ju p q).2∧mN p.1 p.2 q.1 q.2 (ju p q).1 (ju p q).2:=by
 obtain ⟨x3,y3,hx,hy,hs⟩:=GJ hp.2.2 hq.2.2
 have h1:=IE (gB hp.1 hp.2.1) (gB hq.1 hq.2.1) hp.2.2 hq.2.2 hs
 obtain ⟨d1,d2⟩:=vo h1 hx hy
 have e1:(ju p q).1=x3:=by
  show iU (JZ p.1 p.2 q.1 q.2)=x3
  unfold JZ
  rw[i',i',qL (iq hp.1 hp.2.1) (iq hq.1 hq.2.1),d1]
 have e2:(ju p q).2=y3:=by
  show iG (JZ p.1 p.2 q.1 q.2)=y3
  unfold JZ
  rw[i',i',qL (iq hp.1 hp.2.1) (iq hq.1 hq.2.1),d2]
 have hon:=FX hp.2.2 hq.2.2 hs
 have hr:=IE hP hQ hp.2.2 hq.2.2 hs
 unfold Pt.on
 rw[e1,e2]
 exact ⟨⟨hx,hy,hon⟩,hr,hs⟩
theorem mu {p q:Pt} (hp:p.on) (hq:q.on):(ju p q).on:=(qI hp hq (gB hp.1 hp.2.1) (gB hq.1 hq.2.1)).1
theorem rb {p q:Pt} (hp:p.on) (hq:q.on):mN p.1 p.2 q.1 q.2 (ju p q).1 (ju p q).2:=(qI hp hq (gB hp.1 hp.2.1) (gB hq.1 hq.2.1)).2.2
theorem Rp {p q r:Pt} (hp:p.on) (hq:q.on) (h1:r.1<ab 0) (h2:r.2<ab 0) (h:mN p.1 p.2 q.1 q.2 r.1 r.2):ju p q=r:=by
 obtain ⟨a,b⟩:=NO hp.2.2 hq.2.2 (rb hp hq) h
 have hg:=mu hp hq
 exact Prod.ext (Cz.nat hg.1 h1 a) (Cz.nat hg.2.1 h2 b)
theorem B8:gnone.on:=uy.1 Mz
theorem Hb {p q r:Pt} (hp:p.on) (hq:q.on) (hr:r.on):ju (ju p q) r=ju p (ju q r):=by
 have h1:=mu hp hq
 have h2:=mu hq hr
 have h3:=mu h1 hr
 have h4:=mu hp h2
 obtain ⟨a,b⟩:=JO hp.2.2 hq.2.2 hr.2.2 (rb hp hq) (rb h1 hr) (rb hq hr) (rb hp h2)
 exact Prod.ext (Cz.nat h3.1 h4.1 a) (Cz.nat h3.2.1 h4.2.1 b)
theorem Jr {p:Pt} (hp:p.on):ju p gnone=p:=by
 refine Rp hp B8 hp.1 hp.2.1 ⟨Cz.of_eq ?_,Cz.of_eq ?_⟩
 ·show (p.1:Int)*(1+eI p.1 p.2 ((0:Nat):Int) ((1:Nat):Int))=p.1*((1:Nat):Int)+((0:Nat):Int)*p.2
  unfold eI;grind
 ·show (p.2:Int)*(1-eI p.1 p.2 ((0:Nat):Int) ((1:Nat):Int))=p.2*((1:Nat):Int)+p.1*((0:Nat):Int)
  unfold eI;grind
theorem Rq (p:Pt) (hp:p.on):C0 (CB p).1 (-(p.1:Int)):=(lf hp.1).trans (Cz.of_eq (by show ((0:Nat):Int)-p.1= -p.1;omega))
theorem As {p:Pt} (hp:p.on):(CB p).on:=by
 have h:=Rq p hp
 refine ⟨av (ae 0),hp.2.1,?_⟩
 have h1:=hp.2.2
 unfold On at*
 have h2:=h.mul h
 exact h1.lc2 h2 1 (-(1+(dN:Int)*(p.2*p.2))) (by show ((p.2:Int)*p.2-(CB p).1*(CB p).1)-(1+(dN:Int)*((CB p).1*(CB p).1)*(p.2*p.2))=_;grind)
noncomputable def hO (p:Pt):Nat→Pt
 |0=>gnone
 |k+1=>ju (hO p k) p
theorem gp {p:Pt} (hp:p.on):∀k,(hO p k).on
 |0=>B8
 |k+1=>mu (gp hp k) hp
theorem Et {p:Pt} (hp:p.on) (a:Nat):∀b,hO p (a+b)=ju (hO p a) (hO p b)
 |0=>(Jr (gp hp a)).symm
 |b+1=>by
  show ju (hO p (a+b)) p=ju (hO p a) (ju (hO p b) p)
  rw[Et hp a b,Hb (gp hp a) (gp hp b) hp]
theorem OI {k j:Nat} {P X:E4} {p:Pt} {a:Nat} (hp:p.on) (hP:EZ P p.1 p.2) (hX:EZ X (hO p a).1 (hO p a).2):
  EZ (qY k P j X) (hO p (2*a+dw k j)).1 (hO p (2*a+dw k j)).2:=by
 have h1:=(qI (gp hp a) (gp hp a) hX hX).2.1
 rw[←Et hp a a,←Nat.two_mul] at h1
 unfold qY eY
 have hb:=kY k j
 by_cases h:dw k j=1
 ·rw[decide_eq_true h,cond_true,h]
  exact (qI (gp hp (2*a)) hp h1 hP).2.1
 ·rw[decide_eq_false h,cond_false,show dw k j=0 by omega]
  exact h1
theorem xo {k:Nat} {P:E4} {p:Pt} (hp:p.on) (hP:EZ P p.1 p.2):∀(j:Nat) (X:E4) (a:Nat),EZ X (hO p a).1 (hO p a).2→a=k/2^j→EZ (oL k P j X) (hO p k).1 (hO p k).2
 |0,X,a,hX,ha=>by
  rw[Nat.pow_zero,Nat.div_one] at ha
  subst ha;exact hX
 |j+1,X,a,hX,ha=>by
  refine xo hp hP j (qY k P j X) (2*a+dw k j) (OI hp hP hX) ?_
  subst ha
  unfold dw
  rw[Nat.pow_succ,←Nat.div_div_eq_div_mul]
  omega
theorem sN {k:Nat} (hk:k<4294967296^8) {P:E4} {p:Pt} (hp:p.on) (hP:EZ P p.1 p.2):EZ (AJ k P) (hO p k).1 (hO p k).2:=by
 refine xo hp hP _ _ 0 ?_ ?_
 ·exact gB (ae 0) (a9 0)
 ·rw[Nat.div_eq_of_lt (fU hk).1]
theorem EQ {k x y:Nat} (hk:k<4294967296^8) (h:gt x y=true):iU (Mr k x y)=(hO (x,y) k).1∧iG (Mr k x y)=(hO (x,y) k).2:=by
 have hp:=wQ h
 have hr:=sN hk hp (gB hp.1 hp.2.1)
 have hn:=gp hp k
 unfold Mr
 rw[i',sO (iq hp.1 hp.2.1)]
 exact vo hr hn.1 hn.2.1
theorem uq {k x y m u v:Nat} (hk:k<4294967296^8) (hm:m<4294967296^8) (h:gt x y=true) (h':gt u v=true):
  iU (Kh k x y m u v)=(ju (hO (x,y) k) (hO (u,v) m)).1∧iG (Kh k x y m u v)=(ju (hO (x,y) k) (hO (u,v) m)).2:=by
 have hp:=wQ h
 have hq:=wQ h'
 have hr:=sN hk hp (gB hp.1 hp.2.1)
 have hr':=sN hm hq (gB hq.1 hq.2.1)
 obtain ⟨h1,h2,_⟩:=qI (gp hp k) (gp hq m) hr hr'
 unfold Kh
 rw[i',i',sO (iq hp.1 hp.2.1),sO (iq hq.1 hq.2.1),qL (zf k _) (zf m _)]
 exact vo h2 h1.1 h1.2.1
noncomputable def pM (k px py:Nat):Nat:=(hO (px,py) k).1
noncomputable def pI (k px py:Nat):Nat:=(hO (px,py) k).2
noncomputable def CU (k px py m qx qy:Nat):Nat:=(ju (hO (px,py) k) (hO (qx,qy) m)).1
noncomputable def CH (k px py m qx qy:Nat):Nat:=(ju (hO (px,py) k) (hO (qx,qy) m)).2
noncomputable def Na:List Val→Option (List Prop×AV)
 |[.n k,.n px,.n py,.n m,.n qx,.n qy]=>some ([gt px py=true,gt qx qy=true],.tup [P2 (CU k px py m qx qy) (CH k px py m qx qy),.one (.i 0)])
 |_=>none
theorem ajm:aU ⟨118,dU [aN,BN,aN,BN] Na⟩:=jE (by
 intro xs ob r hb h ho
 unfold Na at h
 split at h
 ·rename_i k px py m qx qy
  obtain ⟨rfl,rfl⟩:=sI h
  obtain ⟨⟨b0,_⟩,⟨b1,b2,_⟩,⟨b5,_⟩,⟨b3,b4,_⟩,_⟩:=hb
  obtain ⟨hu,hv,_⟩:=ho
  obtain ⟨h1,h2⟩:=ka hu
  obtain ⟨h3,h4⟩:=ka hv
  have hS:=af rN rfl (agK k px py m qx qy) (by refine ⟨?_,?_,?_,?_,?_,?_,(aj _),(bu 0),(L8 fe),?_,?_,rfl,rfl,rfl,?_,?_,(aj _),(bu 0),(L8 fe),?_,(L8 (au (ae _))),(L8 (au (ae _))),(L8 (au (ae _))),(L8 (ai (ae _))),rfl,rfl,rfl,(by first|with_reducible assumption|exact eT _ _|exact dW _ _|exact az _ _|exact hxx),(aj _),(bu 0),(L8 fe),?_,?_,rfl,rfl,rfl,?_,?_,(aj _),(bu 0),(L8 fe),?_,(L8 (au (ae _))),(L8 (au (ae _))),(L8 (au (ae _))),(L8 (ai (ae _))),rfl,rfl,rfl,(by first|with_reducible assumption|exact eT _ _|exact dW _ _|exact az _ _|exact hxx),(aj _),(bu 0),(L8 fe),(by first|with_reducible exact E4.ltx (az _ _)|with_reducible exact E4.lty (az _ _)|with_reducible exact E4.ltz (az _ _)|with_reducible exact E4.ltt (az _ _)),(by first|with_reducible exact E4.ltx (az _ _)|with_reducible exact E4.lty (az _ _)|with_reducible exact E4.ltz (az _ _)|with_reducible exact E4.ltt (az _ _)),(by first|with_reducible exact E4.ltx (az _ _)|with_reducible exact E4.lty (az _ _)|with_reducible exact E4.ltz (az _ _)|with_reducible exact E4.ltt (az _ _)),(by first|with_reducible exact E4.ltx (az _ _)|with_reducible exact E4.lty (az _ _)|with_reducible exact E4.ltz (az _ _)|with_reducible exact E4.ltt (az _ _)),(by first|with_reducible exact E4.ltx (az _ _)|with_reducible exact E4.lty (az _ _)|with_reducible exact E4.ltz (az _ _)|with_reducible exact E4.ltt (az _ _)),(by first|with_reducible exact E4.ltx (az _ _)|with_reducible exact E4.lty (az _ _)|with_reducible exact E4.ltz (az _ _)|with_reducible exact E4.ltt (az _ _)),(by first|with_reducible exact E4.ltx (az _ _)|with_reducible exact E4.lty (az _ _)|with_reducible exact E4.ltz (az _ _)|with_reducible exact E4.ltt (az _ _)),(by first|with_reducible exact E4.ltx (az _ _)|with_reducible exact E4.lty (az _ _)|with_reducible exact E4.ltz (az _ _)|with_reducible exact E4.ltt (az _ _)),rfl,rfl,rfl,(by first|with_reducible assumption|exact eT _ _|exact dW _ _|exact az _ _|exact hxx),(by first|with_reducible assumption|exact eT _ _|exact dW _ _|exact az _ _|exact hxx),(aj _),(bu 0),(L8 fe),(L8 (ai (ae _))),(L8 (ai (ae _))),(L8 (ai (ae _))),(L8 (ai (ae _))),rfl,rfl,rfl,(by first|with_reducible assumption|exact eT _ _|exact dW _ _|exact az _ _|exact hxx),trivial⟩<;>first|with_reducible assumption|with_reducible exact L8 (by with_reducible assumption)|exact decide_eq_true (by omega)|exact decide_eq_false (by omega)|omega) rfl rfl
  unfold XF at hS
  rw[(uq b0 b5 hu hv).1,(uq b0 b5 hu hv).2] at hS
  exact hS
 ·simp at h)
theorem vM {k px py:Nat} (h1:gt px py=true):gt (pM k px py) (pI k px py)=true:=(gp (wQ h1) k).e
theorem EJ {k px py m qx qy:Nat} (h1:gt px py=true) (h2:gt qx qy=true):gt (CU k px py m qx qy) (CH k px py m qx qy)=true:=(mu (gp (wQ h1) k) (gp (wQ h2) m)).e
theorem dN0 {x y:Nat} (h:gt x y=true):x<4294967296^8∧y<4294967296^8:=⟨L8 (ka h).1,L8 (ka h).2⟩
def zE (y:Nat):Nat:=addM (ab 0) 1 (bK (ab 0) dN (bK (ab 0) y y))
def nuE (y:Nat):Nat:=aw (ab 0) (bK (ab 0) y y) 1
theorem aiV (y:Nat):C0 (zE y) (1+(dN:Int)*(y*y)):=
 (jp _ _).trans (((Cz.refl _ 1).add ((ei _ _).trans ((Cz.refl _ _).mul (ei y y)))).trans (Cz.of_eq rfl))
theorem aal (y:Nat):C0 (nuE y) ((y:Int)*y-1):=(lf (a9 0)).trans ((ei y y).sub (Cz.refl _ 1))
theorem aho (y:Int):¬C0 (1+(dN:Int)*(y*y)) 0:=by
 intro h
 have hy:C0 y 0:=nsq (s:=y) (t:=1) (h.lc1 1 (by grind))
 exact vK (h.lc2 hy 1 (-((dN:Int)*y)) (by grind))
theorem Xn (y:Nat):zE y<ab 0:=ao (ae 0)
theorem ST (y:Nat):uE y=za ⟨0,0,zE y,0⟩ (nuE y):=by
 have h:=Bs (p:=⟨0,0,zE y,0⟩) ⟨ae 0,ae 0,Xn y,ae 0⟩ (nuE y)
 rw[←h]
 have e1:pQ y=aq (ab 0) (bK (ab 0) y y):=eO (by decide) y y
 have e2:bwE y=aq (ab 0) (zE y):=by
  unfold bwE zE
  rw[e1,eO (by decide) dN (bK (ab 0) y y),gQ 1 (bK (ab 0) dN (bK (ab 0) y y))]
 unfold uE
 rw[e1,e2,my (ae 0) (a9 0)]
 rfl
theorem afx (y:Nat):C0 ((uE y:Int)*(1+(dN:Int)*(y*y))) ((y:Int)*y-1):=by
 have hz:=aiV y
 have hc:=aal y
 have hi:=sn (k:=0) (by decide) (Xn y) (fun h=>aho y (hz.symm.trans h))
 have hu:C0 (uE y) ((nuE y:Int)*qv 0 (zE y)):=by
  rw[ST]
  exact ei _ _
 exact hu.lc4 hz hc hi (1+(dN:Int)*(y*y)) (-((nuE y:Int)*qv 0 (zE y))) 1 (nuE y) (by grind)
theorem aeL {x y:Nat} (h:C0 ((x:Int)*x) (uE y)):On x y:=by
 have hu:=afx y
 unfold On
 exact hu.lc2 h (-1) (-(1+(dN:Int)*(y*y))) (by grind)
theorem x9:ab 0%2=1:=by decide+kernel
theorem RH (a:Nat):oS 0 a%2=0:=Go.NT.evenN_even x9 (by rw[fV];exact Go.NT.candN_lt (by decide))
theorem aij {a:Nat} (h:oE 0 a=true):oS 0 a*oS 0 a%ab 0=a:=by
 unfold oS
 rw[Go.NT.evenN_sq (by rw[fV];exact Go.NT.candN_lt (by decide))]
 exact (ji 0 a).1 h
theorem Nr (n x:Nat):rv (n+1) x=x%256::rv n (x/256):=by
 unfold rv
 rw[List.range_succ_eq_map,List.map_cons,List.map_map]
 rw[Nat.pow_zero,Nat.div_one]
 congr 1
 refine List.map_congr_left fun j _=> ?_
 show x/256^(j+1)%256=x/256/256^j%256
 rw[Nat.pow_succ,Nat.mul_comm,Nat.div_div_eq_div_mul]
theorem Jh:∀l:List Nat,(∀b∈l,b<256)→rv l.length (KJ l)=l
 |[],_=>rfl
 |b::l,h=>by
  have hb:=h b (List.mem_cons_self ..)
  have ih:=Jh l fun x hx=>h x (List.mem_cons_of_mem _ hx)
  show rv (l.length+1) (b+256*KJ l)=b::l
  rw[Nr,show (b+256*KJ l)%256=b by omega,show (b+256*KJ l)/256=KJ l by omega,ih]
theorem Kc {s:ByteArray} (h:s.size=32):bQ (rv 32 (aQ s))=s:=by
 have:=Jh (aZ s) (Eh s)
 rw[mm,h] at this
 unfold aQ
 rw[this,nB]
theorem ajA {x:Nat} (h0:x≠0) (hx:x<ab 0):aw (ab 0) 0 x=ab 0-x:=by
 unfold aw
 rw[Nat.mod_eq_of_lt (by omega),Nat.zero_add]
theorem anG:∀b1 b2 b3 b4 b5:Bool,(bif b1 then (bif b2 then (bif b3 then (bif b4&&b5 then 6 else 0) else 7) else 6) else 1:Int)=0→b1=true∧b2=true∧b3=true∧(b4&&b5)=false:=by decide
theorem sm {s:ByteArray} (h:dI s=0):s.size=32∧yU s<ab 0∧KP s=true∧(mb s=true→xl s≠0):=by
 unfold dI at h
 obtain ⟨h1,h2,h3,h4⟩:=anG _ _ _ _ _ h
 refine ⟨of_decide_eq_true h1,of_decide_eq_true h2,h3,fun ho h0=> ?_⟩
 rw[ho,Bool.true_and] at h4
 exact of_decide_eq_false h4 h0
theorem Dn {s:ByteArray} (h:dI s=0):dE s<ab 0∧dE s%2=(if mb s=true then 1 else 0)∧dE s*dE s%ab 0=uE (yU s):=by
 have hodd2:=x9
 obtain ⟨hs,hy,hsq,hnz⟩:=sm h
 obtain ⟨e1,e2⟩:=rE s h
 have hev:xl s<ab 0:=pN (by decide)
 have hee:xl s%2=0:=RH _
 have hq:xl s*xl s%ab 0=uE (yU s):=aij hsq
 rw[e1]
 generalize xl s=ev at*
 generalize uE (yU s)=u at*
 generalize hM:ab 0=M at*
 cases ho:mb s with
 |false=>
  rw[cond_false,if_neg (by decide)]
  exact ⟨hev,hee,hq⟩
 |true=>
  have h0:=hnz ho
  have e0:aw M 0 ev=M-ev:=by rw[←hM];exact ajA h0 (by rw[hM];exact hev)
  rw[cond_true,e0,if_pos rfl]
  exact ⟨by omega,by omega,by rw[Go.NT.neg_sq (by omega)];exact hq⟩
theorem aam {s:ByteArray} (h:dI s=0):gt (dE s) (yU s)=true:=by
 obtain ⟨hs,hy,hsq,hnz⟩:=sm h
 obtain ⟨hXl,hXp,hXq⟩:=Dn h
 refine uy.2 ⟨hXl,hy,aeL ?_⟩
 have h1:=gP (m:=ab 0) (dE s*dE s)
 rw[Int.natCast_mul,hXq] at h1
 exact h1.symm
theorem Cx {s:ByteArray} (h:dI s=0):gt (dE s) (dX s)=true∧dZ (dE s) (dX s)=s:=by
 obtain ⟨hs,hy,hsq,hnz⟩:=sm h
 obtain ⟨hXl,hXp,hXq⟩:=Dn h
 have hon:=aam h
 obtain ⟨e1,e2⟩:=rE s h
 rw[e2]
 refine ⟨hon,?_⟩
 have hl:=qc s
 rw[hs] at hl
 have hyU:=ahv s hs
 unfold dZ
 have hd:aQ s/57896044618658097711785492504343953926634992332820282019728792003956564819968=dE s%2:=by
  rw[hXp]
  cases ho:mb s with
  |true=>unfold mb at ho;rw[if_pos rfl];exact of_decide_eq_true ho
  |false=>
   unfold mb at ho
   have:=of_decide_eq_false ho
   rw[if_neg (by decide)];omega
 rw[←hd,hyU,show aQ s%57896044618658097711785492504343953926634992332820282019728792003956564819968+57896044618658097711785492504343953926634992332820282019728792003956564819968*(aQ s/57896044618658097711785492504343953926634992332820282019728792003956564819968)=aQ s by omega]
 exact Kc hs
end Go.Ev.H5.Ed
namespace Go.Ev
open Go Go.Proofs Go.RowKit
def sS (s:ByteArray):V1:= .one (.v (.string s))
def ol (b:Nat→UInt8) (i:Nat):Nat:=ls (ls (ls (ls 0 (b (4*i)).toNat 0) (b (4*i+1)).toNat 8) (b (4*i+2)).toNat 16) (b (4*i+3)).toNat 24
def KN (u:Nat→Nat) (j:Nat):Nat:=u (j/4)/2^(8*(j%4))%256
theorem ab6 (b:Nat→UInt8):al E0 1000 114 [sS (si 32 b)] []=some ([],.tup [C8 (ol b),.one (.i 0)]):=by kernel_rfl
theorem Vd (b:Nat→UInt8):al E0 1000 87 [sS (si 32 b)] []=some ([],.val (C8 (ol b))):=by kernel_rfl
theorem adb (u:Nat→Nat):al E0 1000 86 [C8 u] []=some ([],.val (sS (bQ ((List.range 32).map (KN u))))):=by kernel_rfl
theorem v9 (b:Nat→UInt8) (i:Nat):ol b i=(b (4*i)).toNat+256*(b (4*i+1)).toNat+65536*(b (4*i+2)).toNat+16777216*(b (4*i+3)).toNat∧ol b i<4294967296:=by
 have h0:=UInt8.toNat_lt (b (4*i))
 have h1:=UInt8.toNat_lt (b (4*i+1))
 have h2:=UInt8.toNat_lt (b (4*i+2))
 have h3:=UInt8.toNat_lt (b (4*i+3))
 unfold ol
 rw[(tA (acc:=0) (k:=0) (by decide) h0 (by decide)).1,(tA (k:=8) (by omega) h1 (by decide)).1,(tA (k:=16) (by omega) h2 (by decide)).1,(tA (k:=24) (by omega) h3 (by decide)).1]
 omega
theorem vk (s:ByteArray) (b:Nat→UInt8) (e:s=si 32 b):aW 8 0 (ol b)=aQ s:=by
 rw[e,aQ,mc]
 have q:=fun i=>(v9 b i).1
 simp only[aW,q,Nat.zero_add,Nat.reduceAdd,Nat.reduceMul,show List.range 32=[0,1,2,3,4,5,6,7,8,9,10,11,12,13,14,15,16,17,18,19,20,21,22,23,24,25,26,27,28,29,30,31] from rfl,List.map_cons,List.map_nil,KJ]
 omega
theorem Wg (s:ByteArray) (h:s.size=32):Spec 114 [sS s] (.tup [N8 (aQ s),.one (.i 0)]):=by
 have e:=oq h
 generalize hb:(fun i=>s.data.getD i 0)=b at e
 have h:=af envE0 rfl (ab6 b) trivial rfl rfl
 refine h.congr (fun φ=>by rw[e]) (fun φ=> ?_)
 simp only[AV.conc,List.map_cons,List.map_nil]
 rw[ew φ (fun i _=>(v9 b i).2) (vk s b e)]
theorem NJ (s:ByteArray) (h:s.size=32):Spec 87 [sS s] (.val (N8 (aQ s))):=by
 have e:=oq h
 generalize hb:(fun i=>s.data.getD i 0)=b at e
 have h:=af envE0 rfl (Vd b) trivial rfl rfl
 refine h.congr (fun φ=>by rw[e]) (fun φ=> ?_)
 exact ew φ (fun i _=>(v9 b i).2) (vk s b e)
theorem vZ (a:Nat):∀i,ak a i=a/4294967296^i%4294967296:=fun _=>rfl
theorem lb4 (x r:Nat) (h:r<4):x%4294967296/2^(8*r)%256=x/2^(8*r)%256:=by
 match r,h with
 |0,_=>simp only[Nat.reduceMul,Nat.reducePow];omega
 |1,_=>simp only[Nat.reduceMul,Nat.reducePow];omega
 |2,_=>simp only[Nat.reduceMul,Nat.reducePow];omega
 |3,_=>simp only[Nat.reduceMul,Nat.reducePow];omega
theorem ad3 (j:Nat):256^j=4294967296^(j/4)*2^(8*(j%4)):=by
 have h1:(4294967296:Nat)^(j/4)=256^(4*(j/4)):=by rw[Nat.pow_mul]
 have h2:(2:Nat)^(8*(j%4))=256^(j%4):=by rw[Nat.pow_mul]
 rw[h1,h2,←Nat.pow_add,Nat.div_add_mod]
theorem FR (a j:Nat):KN (ak a) j=a/256^j%256:=by
 unfold KN
 rw[vZ,lb4 _ _ (Nat.mod_lt _ (by decide)),ad3,←Nat.div_div_eq_div_mul]
theorem qD (a:Nat):(List.range 32).map (KN (ak a))=rv 32 a:=by
 unfold rv
 exact List.map_congr_left fun j _=>FR a j
theorem RL (a:Nat):Spec 86 [N8 a] (.val (sS (bQ (rv 32 a)))):=by
 have h:=af envE0 rfl (adb (ak a)) trivial rfl rfl
 rw[qD] at h
 exact h.congr (fun φ=>by simp only[List.map_cons,List.map_nil,c8]) (fun φ=>rfl)
end Go.Ev
namespace Go.Ev
open Go Go.RowKit
theorem yx:∀k n,(ef k n).length=k
 |0,_=>rfl
 |k+1,n=>by simp[ef,yx k]
theorem aaC (c:Cells) (φ:c7) (p:Nat) (k:SK):((k.pc c p).conc φ).length=k.sz:=by
 cases k<;>simp[SK.pc,Piece.conc,SK.sz,yx]
theorem kS (c:Cells) (φ:c7):∀(sh:List SK) (p:Nat),(an φ (eW c sh p)).length=ec sh
 |[],_=>rfl
 |k::l,p=>by simp[eW,an,ec,aaC,kS c φ l]
theorem zq (c:Cells):∀(a b:List SK) (p:Nat),eW c (a++b) p=eW c a p++eW c b (p+ec a)
 |[],b,p=>by simp[eW,ec]
 |k::l,b,p=>by simp[eW,ec,zq c l b,Nat.add_assoc]
theorem Nh (c:Cells) (φ:c7) (sh:List SK):∀(n i p:Nat),i<n→∃tl,(an φ (c9 c sh n p)).drop (i*ec sh)=an φ (eW c sh (p+i*ec sh))++tl
 |0,_,_,h=>absurd h (Nat.not_lt_zero _)
 |n+1,0,p,_=>⟨an φ (c9 c sh n (p+ec sh)),by simp[c9,bb]⟩
 |n+1,i+1,p,h=>by
  obtain ⟨tl,ih⟩:=Nh c φ sh n i (p+ec sh) (by omega)
  refine ⟨tl,?_⟩
  rw[show p+(i+1)*ec sh=p+ec sh+i*ec sh by rw[Nat.succ_mul];omega,←ih]
  simp only[c9,bb]
  rw[List.drop_append,kS,List.drop_eq_nil_of_le (by rw[kS,Nat.succ_mul];omega),List.nil_append]
  congr 1
  rw[Nat.succ_mul];omega
theorem Lt (c:Cells) (φ:c7) {sh pre shT post:List SK} (hsh:sh=pre++shT++post) {n i off:Nat} (hi:i<n) (ho:off=i*ec sh+ec pre):
  ∃tl,(an φ (c9 c sh n 0)).drop off=an φ (eW c shT off)++tl:=by
 obtain ⟨tl,h⟩:=Nh c φ sh n i 0 hi
 rw[Nat.zero_add] at h
 refine ⟨an φ (eW c post (off+ec shT))++tl,?_⟩
 have h2:(an φ (c9 c sh n 0)).drop off=((an φ (c9 c sh n 0)).drop (i*ec sh)).drop (ec pre):=by rw[List.drop_drop,ho]
 rw[h2,h]
 have h4:∀q,an φ (eW c sh q)=an φ (eW c pre q)++(an φ (eW c shT (q+ec pre))++an φ (eW c post (q+ec pre+ec shT))):=by
  intro q
  rw[hsh,List.append_assoc,zq,zq,bb,bb]
 rw[h4,←ho,List.append_assoc,List.drop_append,kS,List.drop_eq_nil_of_le (by rw[kS];exact Nat.le_refl _),Nat.sub_self,List.nil_append,List.drop_zero,List.append_assoc]
theorem st {P:Program} {t:TypeId} {sh:List SK} (pre shT post:List SK) (hsh:sh=pre++shT++post) (ha:dm P t=some true) (hs:d8 P t=some (ec shT)) {c:Cells} {n i off:Nat} (hi:i<n) (ho:off=i*ec sh+ec pre):
  dg P t (c9 c sh n 0) off (.agg (eW c shT off)):=by
 intro φ
 obtain ⟨tl,h⟩:=Lt c φ hsh hi ho
 refine ⟨ha,_,hs,?_,kS c φ shT off⟩
 rw[h,List.take_append_of_le_length (by rw[kS];exact Nat.le_refl _),List.take_of_length_le (by rw[kS];exact Nat.le_refl _)]
theorem iZ {P:Program} {t:TypeId} {sh:List SK} (pre:List SK) (k:SK) (post:List SK) (hsh:sh=pre++[k]++post) (ha:dm P t=some false) {c:Cells} {n i off:Nat} (hi:i<n) (ho:off=i*ec sh+ec pre) {x:Atom} (hx:k.pc c off= .a x):
  dg P t (c9 c sh n 0) off (.one x):=by
 intro φ
 obtain ⟨tl,h⟩:=Lt c φ hsh hi ho
 refine ⟨ha,?_⟩
 have h0:(an φ (c9 c sh n 0))[off]? =((an φ (c9 c sh n 0)).drop off)[0]? :=by rw[List.getElem?_drop,Nat.add_zero]
 rw[h0,h]
 simp[eW,an,hx,Piece.conc]
theorem Cu (c:Cells) (sh:List SK):∀(n i p:Nat),i<n→cL (jx c sh n p)→cL (Jk c sh (p+i*ec sh))
 |0,_,_,h,_=>absurd h (Nat.not_lt_zero _)
 |n+1,0,p,_,ho=>by
  simp only[jx,aY] at ho
  simpa using ho.1
 |n+1,i+1,p,h,ho=>by
  simp only[jx,aY] at ho
  have:=Cu c sh n i (p+ec sh) (by omega) ho.2
  rwa[show p+(i+1)*ec sh=p+ec sh+i*ec sh by rw[Nat.succ_mul];omega]
end Go.Ev
namespace Go.Ev
open Go Go.RowKit Go.ChangeShapes Go.WideShapes Go.ChangeAt
def SzV (B:Nat) (v:Value):Prop:=∀s,v= .string s→s.size≤B
section
variable {H:Type} {enc:TypeId×Value→H} {P:Program} {w:World} {base:Nat} {spare:Nat→Bool} {held:Bool} {B:Nat}
theorem jn {e:TypeId} {d:DataW H}:∀{l:List (DataW H)},d∈l→∀{n:Nat},n∈d.weights P e→n∈DataW.weightsAll P e l
 |[],h,_,_=>by simp at h
 |x::l,h,n,hn=>by
  simp only[DataW.weightsAll,List.mem_append]
  rcases List.mem_cons.1 h with rfl|h
  ·exact .inl hn
  ·exact .inr (jn h hn)
end
section
variable {P:Program} {B:Nat}
theorem XE {n0:Nat}:∀(n:Nat) (cs:List Value),cs.length=n*n0→(∀i,i<n→∀v∈(cs.drop (i*n0)).take n0,SzV B v)→∀v∈cs,SzV B v
 |0,cs,hl,_=>by
  rw[Nat.zero_mul] at hl
  rw[List.length_eq_zero_iff.1 hl];simp
 |n+1,cs,hl,h=>by
  have h0:=h 0 (by omega)
  rw[Nat.zero_mul,List.drop_zero] at h0
  have:=XE (n0:=n0) n (cs.drop n0) (by rw[List.length_drop,hl,Nat.succ_mul];omega) (fun i hi=>by
   rw[List.drop_drop,Nat.add_comm,←Nat.succ_mul]
   exact h (i+1) (by omega))
  intro v hv
  rw[←List.take_append_drop n0 cs] at hv
  rcases List.mem_append.1 hv with hv|hv
  ·exact h0 v hv
  ·exact this v hv
theorem IS {g:TypeId→Option (List Nat)} {r:TypeId→List Value→Prop} (hg:∀t ks cs,g t=some ks→r t cs→cs.length=ks.length→∀v∈cs,SzV B v):∀(fs:List Field) (off:Nat) (ks:List Nat) (cs:List Value),
  kw P g fs off=some ks→cs.length=off+ks.length→(∀f∈fs,r f.type ((cs.drop f.offset).take (P.cellsOf f.type)))→∀v∈cs.drop off,SzV B v
 |[],off,ks,cs,hk,hl,_=>by
  simp only[kw,Option.some.injEq] at hk
  subst hk
  rw[List.drop_eq_nil_of_le (by simp at hl;omega)];simp
 |f::fs,off,ks,cs,hk,hl,h=>by
  simp only[kw] at hk
  split at hk
  ·rename_i kf n hf hgf hn
   split at hk
   ·rename_i r' hlen hr
    simp only[Option.some.injEq] at hk
    subst hk
    simp only[Bool.and_eq_true,Nat.beq_eq] at hf hlen
    obtain ⟨_,hoff⟩:=hf
    rw[List.length_append] at hl
    have h1:=h f (by simp)
    rw[gz hn,hoff] at h1
    have h2:=hg _ _ _ hgf h1 (by rw[List.length_take,List.length_drop,hl];omega)
    have h3:=IS hg fs (off+n) r' cs hr (by omega) (fun f' hf'=>h f' (by simp[hf']))
    intro v hv
    rw[←List.take_append_drop n (cs.drop off),List.drop_drop] at hv
    rcases List.mem_append.1 hv with hv|hv
    ·exact h2 v hv
    ·exact h3 v hv
   ·simp at hk
  ·simp at hk
end
section
variable {H:Type} {enc:TypeId×Value→H} {P:Program} {w:World} {base:Nat} {spare:Nat→Bool} {held:Bool} {B:Nat}
theorem na:∀(d:Nat) (t:TypeId) (ks:List Nat),fa P d t=some ks→∀(n:Nat) (cs:List Value) (x:DataW H×List MemPlace),DataW.trod enc P w base spare held n t cs=some x→cs.length=ks.length→(∀m∈x.1.weights P t,m≤B)→∀v∈cs,SzV B v
 |0,t,ks,h,_,_,_,_,_,_=>by simp[fa] at h
 |d+1,t,ks,h,n,cs,x,hx,hl,hw=>by
  simp only[fa] at h
  split at h
  ·rename_i k hk
   cases n with
   |zero=>simp[DataW.trod] at hx
   |succ n=>
    unfold DataW.trod at hx
    rw[hk] at hx
    split at hx<;>simp_all
    intro s hs
    simp_all
  ·rename_i hk
   cases n with
   |zero=>simp[DataW.trod] at hx
   |succ n=>
    unfold DataW.trod at hx
    rw[hk] at hx
    split at hx<;>simp_all
    intro s hs
    simp_all
  ·rename_i hk
   cases n with
   |zero=>simp[DataW.trod] at hx
   |succ n=>
    unfold DataW.trod at hx
    rw[hk] at hx
    split at hx<;>simp_all
    obtain ⟨_,rfl⟩:=hx
    intro s hs
    simp only[Value.string.injEq] at hs
    subst hs
    simpa[DataW.weights] using hw
  ·rename_i len e hk
   split at h
   ·rename_i ke m hke hm
    split at h
    ·rename_i hkm
     simp only[Option.some.injEq] at h;subst h
     rw[Nat.beq_eq] at hkm
     obtain ⟨xs,m',_,rfl,_,hxl,hi⟩:=DataW.trod_array hk hx
     rw[th] at hl
     refine XE len cs hl fun i hil=> ?_
     have h1:=hi i hil
     rw[gz hm,←hkm,List.getElem?_eq_getElem (by omega)] at h1
     refine na d e ke hke _ _ _ h1 ?_ ?_
     ·rw[List.length_take,List.length_drop,hl]
      have:(i+1)*ke.length≤len*ke.length:=Nat.mul_le_mul_right _ hil
      rw[Nat.succ_mul] at this
      omega
     ·intro q hq
      refine hw q ?_
      simp only[DataW.weights,hk]
      exact jn (List.mem_map.2 ⟨_,List.getElem_mem _,rfl⟩) hq
    ·simp at h
   ·simp at h
  ·rename_i fs hk
   split at h
   ·obtain ⟨xs,m',_,rfl,_,hxl,hi⟩:=DataW.trod_struct hk hx
    have:=IS (P:=P) (B:=B) (g:=fa P d) (r:=fun t cs=>∃y,DataW.trod enc P w base spare held m' t cs=some y∧∀q∈y.1.weights P t,q≤B) (fun t ks cs hks ⟨y,hy,hyw⟩ hl=>na d t ks hks _ _ _ hy hl hyw) fs.toList 0 ks cs h (by omega)
     (fun f hf=>by
      obtain ⟨i,hil,rfl⟩:=List.getElem_of_mem hf
      have h1:=hi i fs.toList[i] (by simp at hil ⊢)
      rw[List.getElem?_eq_getElem (by simp at hil;omega)] at h1
      refine ⟨_,h1,fun q hq=>hw q ?_⟩
      simp only[DataW.weights,hk]
      refine DataW.weights_mem_each (j:=i) (t:=fs.toList[i].type) (d:=(xs[i]'(by simp at hil;omega)).1) ?_ ?_ q hq
      ·rw[List.getElem?_map,List.getElem?_eq_getElem hil];rfl
      ·rw[List.getElem?_map,List.getElem?_eq_getElem (by simp at hil;omega)];rfl)
    simpa using this
   ·simp at h
  ·simp at h
end
section
variable {P:Program}
end
def NI (W:World) (sh:List SK) (B:Nat) (v:Value):Prop:=
 v= .slice none 0 0∨∃(c:Cells) (len cap b off:Nat),v= .slice (some ⟨b,off,none⟩) len cap∧len≤cap∧cap≤maxLen∧cL (jx c sh len 0)∧(∀j,j<len*ec sh→(sA c j).size≤B)∧len≤B∧b<W.heap.size∧
  ∀(φ:c7) (j:Nat) (x:Value),(an φ (c9 c sh len 0))[j]? =some x→W.cell? ⟨b,off+j,none⟩=some x
section
variable {P:Program}
theorem te {H:Type} {enc:TypeId×Value→H} {t e:TypeId} (sh:List SK) {D B:Nat} (ht:P.underlying t=some (.slice e)) (hk:fa P D e=some (pu sh)) (hs:d8 P e=some (ec sh)) (hb:0<P.bytesOf e)
  {r:Reach} {W:World} {base:Nat} {v:Value} {d:DataW H} {ps:List MemPlace} (hval:Value.okWide P W r base t v) (h:DataW.Trod enc P W 0 (fun _=>true) true t v d ps) (hwt:∀n∈d.weights P t,n≤B):
  NI W sh B v:=by
 rw[←nJ] at hs
 generalize hks:pu sh=ks at*
 obtain ⟨a0,len0,cap0,rfl⟩:=okWide_slice ht hval
 obtain ⟨fuel,hf⟩:=h
 rcases Go.Deep.open_slice ht hf with ⟨hcs,_⟩|⟨a,len,cap,m,n,DD,Pl,hcs,_,hl,hcap,hm,hxe,hx⟩
 ·simp[Value.cells] at hcs
  obtain ⟨rfl,rfl,rfl⟩:=hcs
  exact .inl rfl
 ·simp[Value.cells] at hcs
  obtain ⟨rfl,rfl,rfl⟩:=hcs
  simp only[if_true] at hm
  have hhas:W.has P r base a e cap0:=by
   simp only[Value.okWide,ht,Cell.okWide,Cell.ok] at hval
   exact hval.2.2
  obtain ⟨_,hspot,row,cells,hsh,_⟩:=hhas
  have hblk:a.block<W.heap.size:=by
   unfold World.shape? at hsh
   split at hsh
   ·rename_i hb
    exact (Array.getElem?_eq_some_iff.1 hb).1
   ·simp at hsh
  obtain ⟨b,off,sp⟩:=a
  simp only at hspot;subst hspot
  have hsz:=gz hs
  let M:=len0
  let V:Nat→Value:=fun j=>(W.cell? ⟨b,off+j,none⟩).getD undef
  let vs:List Value:=(List.range (M*ks.length)).map V
  have hDD:∀i,i<len0→∀q∈(DD i).weights P e,q≤B:=by
   intro i hi q hq
   simp only[Prod.mk.injEq] at hxe
   refine hwt q ?_
   rw[hxe.1]
   simp only[DataW.weights,ht]
   refine List.mem_cons_of_mem _ (List.mem_append_left _ (jn ?_ hq))
   exact List.mem_map.2 ⟨i,List.mem_range.2 hi,rfl⟩
  have hlB:len0≤B:=by
   simp only[Prod.mk.injEq] at hxe
   have h1:(((List.range len0).map DD).length+_)*P.bytesOf e≤B:=hwt _ (by
    rw[hxe.1]
    simp only[DataW.weights,ht]
    exact List.mem_cons_self ..)
   rw[List.length_map,List.length_range] at h1
   exact Nat.le_trans (Nat.le_trans (Nat.le_add_right _ _) (Nat.le_mul_of_pos_right _ hb)) h1
  have hcellW:∀i,i<M→∀j,j<ks.length→SzV B (V (i*ks.length+j)):=by
   intro i hi j hj
   obtain ⟨cs,h1,h2⟩:=hx i (by omega)
   rw[hsz] at h1
   obtain ⟨_,h3,h4⟩:=World.cells?_some h1
   have h5:=na D e ks hk _ _ _ h2 h3 (hDD i (by omega))
   have h6:W.cell? ⟨b,off+(i*ks.length+j),none⟩=cs[j]? :=by
    rw[←h4 j hj,Go.Deep.add_add]
    congr 1
    unfold Addr.add
    split
    ·rename_i h0;rw[h0,Nat.add_zero]
    ·rfl
   have h7:V (i*ks.length+j)=cs[j]'(by omega):=by
    simp only[V]
    rw[h6,List.getElem?_eq_getElem (by omega)];rfl
   rw[h7]
   exact h5 _ (List.getElem_mem _)
  have hcell:∀i,i<M→∃cs,(∀j,j<ks.length→W.cell? ⟨b,off+(i*ks.length+j),none⟩=cs[j]?)∧cs.length=ks.length∧FitK ks cs:=by
   intro i hi
   obtain ⟨cs,h1,h2⟩:=hx i (by omega)
   rw[hsz] at h1
   obtain ⟨_,h3,h4⟩:=World.cells?_some h1
   refine ⟨cs,?_,h3,pL D e ks hk _ _ _ h2 h3⟩
   intro j hj
   rw[←h4 j hj,Go.Deep.add_add]
   congr 1
   unfold Addr.add
   split
   ·rename_i h0;rw[h0,Nat.add_zero]
   ·rfl
  have hfit:FitK (j6 M ks) vs:=by
   refine ws M vs (by simp[vs]) fun i hi=> ?_
   obtain ⟨cs,h1,h2,h3⟩:=hcell i hi
   have:(vs.drop (i*ks.length)).take ks.length=cs:=by
    apply List.ext_getElem?
    intro j
    by_cases hj:j<ks.length
    ·rw[List.getElem?_take_of_lt hj,List.getElem?_drop]
     have hlt:i*ks.length+j<M*ks.length:=by
      have:(i+1)*ks.length≤M*ks.length:=Nat.mul_le_mul_right _ hi
      rw[Nat.succ_mul] at this;omega
     simp only[vs,List.getElem?_map,List.getElem?_range hlt,Option.map_some,V]
     rw[h1 j hj,List.getElem?_eq_getElem (by omega)]
     rfl
    ·rw[List.getElem?_eq_none (by simp;omega),List.getElem?_eq_none (by omega)]
   rw[this];exact h3
  have hV:∀i v,vs[i]? =some v→V (0+i)=v:=by
   intro i v hv
   have hi:=aM hv
   simp only[vs,List.length_map,List.length_range] at hi
   simp only[vs,List.getElem?_map,List.getElem?_range hi,Option.map_some,Option.some.injEq] at hv
   rw[Nat.zero_add];exact hv
  have hok:=x6 (j6 M ks) vs 0 hfit hV
  have hall:∀j v,vs[j]? =some v→W.cell? ⟨b,off+j,none⟩=some v:=by
   intro j v hv
   have hj:=aM hv
   simp only[vs,List.length_map,List.length_range] at hj
   by_cases h0:ks.length=0
   ·simp[h0] at hj
   ·have hq:j/ks.length<M:=(Nat.div_lt_iff_lt_mul (by omega)).2 hj
    obtain ⟨cs,h1,h2,_⟩:=hcell _ hq
    have:=h1 (j%ks.length) (Nat.mod_lt _ (by omega))
    rw[Nat.div_add_mod'] at this
    have hv':=hV j v hv
    rw[Nat.zero_add] at hv'
    rw[←hv']
    simp only[V]
    rw[this,List.getElem?_eq_getElem (by rw[h2];exact Nat.mod_lt _ (by omega))]
    rfl
  have hconc:∀φ,an φ (jl (cellsOf V) (j6 M ks) 0)=vs:=fun φ=>tH φ (j6 M ks) vs 0 hfit hV
  have hokk:FN (cellsOf V) (j6 M (pu sh)) 0:=fun i k hik=>by rw[hks] at hik;exact hok i k hik
  refine .inr ⟨cellsOf V,len0,cap0,b,off,rfl,hl,hcap,(La (cellsOf V) (fun _=>(0,0,0)) sh M 0 hokk).2,?_,hlB,hblk,?_⟩
  ·intro j hj
   rw[←nJ,hks] at hj
   have h0:0<ks.length:=by
    rcases Nat.eq_zero_or_pos ks.length with h0|h0
    ·rw[h0,Nat.mul_zero] at hj;omega
    ·exact h0
   have hq:j/ks.length<M:=(Nat.div_lt_iff_lt_mul h0).2 hj
   have h1:=hcellW _ hq (j%ks.length) (Nat.mod_lt _ h0)
   rw[Nat.div_add_mod'] at h1
   show (match V j with| .string s=>s|_=>ByteArray.empty).size≤B
   split
   ·rename_i s hs
    exact h1 s hs
   ·exact Nat.zero_le _
  ·intro φ j x hx'
   have e1:=(La (cellsOf V) φ sh M 0 hokk).1
   rw[hks,hconc φ] at e1
   rw[e1] at hx'
   exact hall j x hx'
theorem uY {W:World} {shA shB:List SK} {eA eB:TypeId} {cA cB:Cells} {lA lB bA oA bB oB:Nat} (hbA:bA<W.heap.size) (hbB:bB<W.heap.size)
  (hA:∀(φ:c7) (j:Nat) (x:Value),(an φ (c9 cA shA lA 0))[j]? =some x→W.cell? ⟨bA,oA+j,none⟩=some x)
  (hB:∀(φ:c7) (j:Nat) (x:Value),(an φ (c9 cB shB lB 0))[j]? =some x→W.cell? ⟨bB,oB+j,none⟩=some x):
  MRel W (fun i=>if i=0 then (bA,oA,0) else (bB,oB,0)) [jf cA shA lA eA,jf cB shB lB eB] W:=by
 have two:∀(i:Nat) (b:Blk),([jf cA shA lA eA,jf cB shB lB eB]:List Blk)[i]? =some b→(i=0∧b=jf cA shA lA eA)∨(i=1∧b=jf cB shB lB eB):=by
  intro i b h
  match i,h with
  |0,h=>simp only[List.getElem?_cons_zero,Option.some.injEq] at h;exact .inl ⟨rfl,h.symm⟩
  |1,h=>simp only[List.getElem?_cons_succ,List.getElem?_cons_zero,Option.some.injEq] at h;exact .inr ⟨rfl,h.symm⟩
  |i+2,h=>simp at h
 refine ⟨Below.refl _ _,?_,?_,?_,?_,?_⟩
 ·intro i j b1 b2 hb1 _ _ _ hro _ _
  rcases two i b1 hb1 with ⟨_,rfl⟩|⟨_,rfl⟩<;>cases hro
 ·intro i b1 hb1 _ hro
  rcases two i b1 hb1 with ⟨_,rfl⟩|⟨_,rfl⟩<;>cases hro
 ·intro i b1 hb1 _ _
  rcases two i b1 hb1 with ⟨rfl,rfl⟩|⟨rfl,rfl⟩
  ·exact ⟨hbA,fun j x hx=>hA _ j x hx⟩
  ·exact ⟨hbB,fun j x hx=>hB _ j x hx⟩
 ·intro i b1 hb1 _ hro
  rcases two i b1 hb1 with ⟨_,rfl⟩|⟨_,rfl⟩<;>cases hro
 ·intro i b1 hb1
  rcases two i b1 hb1 with ⟨_,rfl⟩|⟨_,rfl⟩<;>exact zX _ _ _ _ _
theorem OA {E:Env} (hE:EnvOK E) {n:Nat} {f:FuncId} {v:V1} {M:List Blk} {c c':List Bool} {ob:List Prop} {mem':List Blk}
  (h:ep E (dH E n) f [v] M c=some (ob,c',.val (.one (.v (.bool true))),mem')) (ho:cL ob) {w:World} {φ:c7} (hm:MRel w φ M w) (hv:v.wf M.length=true):
  Calls E.P f #[v.conc φ] w (yC w):=by
 refine (jQ hE (lv hE n) _ _ _ _ _ _ _ _ h ho w φ w hm (by simpa using hv)).mono ?_
 rintro e w' ⟨φ',rfl,_,_,hm',_⟩
 exact ⟨rfl,hm'.below⟩
end
end Go.Ev
namespace Go.Ev
open Go Go.RowKit
def GoesK (P:Program) (K:Nat) (y:Code) (ex:Ex) (T:List AV) (M:List Blk) (T':List AV) (M':List Blk):Prop:=
 ∀w0 φ a w,Rel w0 φ T M a w→∀Q:Exit→Act→World→Prop,(∀φ' a' w',Agree K φ φ'→Rel w0 φ' T' M' a' w'→Q ex.to a' w')→y.wp P Q a w
theorem Goes.toK {P:Program} {y:Code} {ex:Ex} {T T':List AV} {M M':List Blk} (h:Goes P y ex T M T' M') {K:Nat} (hK:K≤M.length):GoesK P K y ex T M T' M':=
 fun w0 φ a w hr Q hQ=>h w0 φ a w hr Q fun φ' a' w' hag hr'=>hQ φ' a' w' (fun b hb=>hag b (by omega)) hr'
theorem GoesK.goes {P:Program} {K:Nat} {y:Code} {ex:Ex} {T T':List AV} {M M':List Blk} (h:GoesK P K y ex T M T' M') (hK:M.length=K):Goes P y ex T M T' M':=
 fun w0 φ a w hr Q hQ=>h w0 φ a w hr Q fun φ' a' w' hag hr'=>hQ φ' a' w' (by rw[hK];exact hag) hr'
def Nn (K b b':Nat):List AV→List AV→Prop
 |[],[]=>True
 |x::xs,y::ys=>(y= .junk∨(x=y∧y.okP (mh K)=true)∨(∃n,x= .val (.one (.sx b n))∧y= .val (.one (.sx b' n))))∧Nn K b b' xs ys
 |_,_=>False
theorem ve {K b b':Nat}:∀{T T':List AV},Nn K b b' T T'→T.length=T'.length
 |[],[],_=>rfl
 |[],_::_,h=>h.elim
 |_::_,[],h=>h.elim
 |x::xs,y::ys,h=>by simp[ve h.2]
theorem HK {K b b':Nat}:∀{T T':List AV},Nn K b b' T T'→∀(t:Nat) (y:AV),T'[t]? =some y→y≠.junk→
  ∃x,T[t]? =some x∧x≠.junk∧((x=y∧y.okP (mh K)=true)∨(∃n,x= .val (.one (.sx b n))∧y= .val (.one (.sx b' n))))
 |[],[],_,t,y,h,_=>by simp at h
 |[],_::_,h,_,_,_,_=>h.elim
 |_::_,[],h,_,_,_,_=>h.elim
 |x::xs,z::zs,h,0,y,hy,hj=>by
  simp only[List.getElem?_cons_zero,Option.some.injEq] at hy;subst hy
  refine ⟨x,rfl,?_,?_⟩
  ·rcases h.1 with h1|⟨rfl,_⟩|⟨n,rfl,_⟩
   ·exact absurd h1 hj
   ·exact hj
   ·simp
  ·rcases h.1 with h1|h1
   ·exact absurd h1 hj
   ·exact h1
 |x::xs,z::zs,h,t+1,y,hy,hj=>by
  simp only[List.getElem?_cons_succ] at hy ⊢
  exact HK h.2 t y hy hj
theorem V1.conc_okL {K:Nat} {φ φ':c7} (h:∀b,b<K→φ' b=φ b) (x:V1) (hx:x.okP (mh K)=true):x.conc φ'=x.conc φ:=by
 have h':∀b,mh K b=true→φ' b=φ b:=fun b hb=>h b (by simp only[mh,Nat.blt,Nat.ble_eq] at hb;omega)
 rcases x with x|x
 ·cases x with
  |ptr b off=>simp only[V1.okP] at hx;simp[V1.conc,Atom.conc,h' _ hx]
  |sl b off n c=>simp only[V1.okP] at hx;simp[V1.conc,Atom.conc,h' _ hx]
  |sx b n=>simp only[V1.okP] at hx;simp[V1.conc,Atom.conc,h' _ hx]
  |v x=>rfl
  |u k x=>rfl
  |i x=>rfl
 ·simp only[V1.okP] at hx
  simp only[V1.conc,dC h' x hx]
theorem AV.conc_okL {K:Nat} {φ φ':c7} (h:∀b,b<K→φ' b=φ b) (x:AV) (hx:x.okP (mh K)=true):x.conc φ'=x.conc φ:=by
 cases x with
 |val x=>rw[oz] at hx;exact V1.conc_okL h x hx
 |tup xs=>
  rw[uk] at hx
  simp only[AV.conc]
  congr 2
  refine List.map_congr_left fun v hv=>V1.conc_okL h v ?_
  exact List.all_eq_true.1 hx v hv
 |junk=>rfl
theorem Rel.move {w0 w:World} {φ φ':c7} {T1 T':List AV} {M1 M':List Blk} {a:Act} (h:Rel w0 φ' T1 M1 a w) {K b b':Nat} (hag:Agree K φ φ') (hT:Nn K b b' T1 T') (hb':K≤b')
  (hM:∀i k,M'[i]? =some k→k.live=true→(∀f,aI f k.ps=true)∧((i<K∧M1[i]? =some k)∨(i=b'∧K≤b∧M1[b]? =some k)))
  (hw:dl T' M'=true):∃φ'':c7,(∀i,i≠b'→φ'' i=φ i)∧Rel w0 φ'' T' M' a w:=by
 simp only[dl,Bool.and_eq_true] at hw
 let φ'':c7:=fun i=>if i=b' then φ' b else φ i
 have e1:∀i,i<K→φ'' i=φ' i:=by
  intro i hi
  have:i≠b':=by omega
  simp only[φ'',this,if_false]
  exact (hag i hi).symm
 have e2:φ'' b'=φ' b:=by simp[φ'']
 have hfr:∀k:Blk,(∀f,aI f k.ps=true)→an φ'' k.ps=an φ' k.ps:=fun k hk=>dC (f:=fun _=>false) (fun _ h=>by simp at h) _ (hk _)
 have hcase:∀i k,M'[i]? =some k→k.live=true→∃j,M1[j]? =some k∧φ'' i=φ' j∧an φ'' k.ps=an φ' k.ps∧((i<K∧j=i)∨(i=b'∧j=b∧K≤b)):=by
  intro i k hk hl
  obtain ⟨hf,h1|h1⟩:=hM i k hk hl
  ·exact ⟨i,h1.2,e1 i h1.1,hfr k hf,.inl ⟨h1.1,rfl⟩⟩
  ·obtain ⟨rfl,hKb,h2⟩:=h1
   exact ⟨b,h2,e2,hfr k hf,.inr ⟨rfl,rfl,hKb⟩⟩
 refine ⟨φ'',fun i hi=>by simp[φ'',hi],⟨?_,?_⟩,h.defs,ot hw.1,⟨h.mrel.below,?_,?_,?_,?_,fun i k hk=>oj hw.2 i k hk⟩⟩
 ·rw[h.tmps.size,ve hT]
 ·intro t y hy hj
  obtain ⟨x,hx,hxj,h1|⟨n,rfl,rfl⟩⟩:=HK hT t y hy hj
  ·obtain ⟨rfl,hok⟩:=h1
   rw[AV.conc_okL e1 x hok]
   exact h.tmps.get t x hx hxj
  ·have:=h.tmps.get t _ hx hxj
   rw[this]
   simp only[AV.conc,V1.conc,Atom.conc,e2]
 ·intro i j k k' hk hk' hl hl' hr hr' he
  obtain ⟨i1,q1,q2,_,q3⟩:=hcase i k hk hl
  obtain ⟨j1,r1,r2,_,r3⟩:=hcase j k' hk' hl'
  rw[q2,r2] at he
  have:=h.mrel.inj i1 j1 k k' q1 r1 hl hl' hr hr' he
  omega
 ·intro i k hk hl hr
  obtain ⟨i1,q1,q2,_,_⟩:=hcase i k hk hl
  rw[q2];exact h.mrel.own i1 k q1 hl hr
 ·intro i k hk hl hr
  obtain ⟨i1,q1,q2,q3,_⟩:=hcase i k hk hl
  rw[q2,q3];exact h.mrel.old i1 k q1 hl hr
 ·intro i k hk hl hr
  obtain ⟨i1,q1,q2,q3,_⟩:=hcase i k hk hl
  rw[q2,q3];exact h.mrel.blk i1 k q1 hl hr
theorem GoesK.move {P:Program} {K:Nat} {y:Code} {ex:Ex} {T T1 T':List AV} {M M1 M':List Blk} (h:GoesK P K y ex T M T1 M1) {K' b b':Nat} (hT:Nn K b b' T1 T') (hK:K'≤b') (hKK:K≤K')
  (hM:∀i k,M'[i]? =some k→k.live=true→(∀f,aI f k.ps=true)∧((i<K∧M1[i]? =some k)∨(i=b'∧K≤b∧M1[b]? =some k)))
  (hw:dl T' M'=true):GoesK P K' y ex T M T' M':=by
 intro w0 φ a w hr Q hQ
 refine h w0 φ a w hr Q ?_
 intro φ' a' w' hag hr'
 obtain ⟨φ'',h1,h2⟩:=hr'.move hag hT (by omega) hM hw
 exact hQ φ'' a' w' (fun i hi=>h1 i (by omega)) h2
theorem wH {P:Program} {K:Nat} {y:Code} {ex:Ex} (hex:ex≠.normal) {N:Nat} {T:Nat→List AV} {M:Nat→List Blk} {TF:List AV} {MF:List Blk}
  (hstep:∀j,j<N→GoesK P K y .normal (T j) (M j) (T (j+1)) (M (j+1))) (hlast:GoesK P K y ex (T N) (M N) TF MF):GoesK P K (.loop y) ex (T 0) (M 0) TF MF:=by
 intro w0 φ a w hr Q hQ
 refine wp_loop_rounds (N+1) ?_
 have key:∀d j,j+d=N→∀φ1 a1 w1,Agree K φ φ1→Rel w0 φ1 (T j) (M j) a1 w1→Code.rounds P y Q (d+1) a1 w1:=by
  intro d
  induction d with
  |zero=>
   intro j hj φ1 a1 w1 hag hr1
   obtain rfl:j=N:=by omega
   refine hlast w0 φ1 a1 w1 hr1 _ ?_
   intro φ' a' w' hag' hr'
   have:=hQ φ' a' w' (hag.trans (Nat.le_refl _) hag') hr'
   cases ex with
   |normal=>exact absurd rfl hex
   |exit id=>exact this
   |ret=>exact this
  |succ d ih=>
   intro j hj φ1 a1 w1 hag hr1
   refine hstep j (by omega) w0 φ1 a1 w1 hr1 _ ?_
   intro φ' a' w' hag' hr'
   exact ih (j+1) (by omega) φ' a' w' (hag.trans (Nat.le_refl _) hag') hr'
 exact key N 0 (by omega) φ a w (Agree.refl _ _) hr
end Go.Ev
