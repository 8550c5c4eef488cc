/- Roots, and points of the curve: what the functions on them come to; Primes, and arithmetic modulo one; An evaluator of the model's code with values known in part, and its soundness -/
import Derived.Test.YtjiiaeljpllahaaGreatPartG
import Derived.Test.YtjiiaeljpllahaaGreatPartF
import Derived.Test.YtjiiaeljpllahaaGreatPartB
import Derived.Test.YtjiiaeljpllahaaGreatRows
namespace Go.Ev
open Go Go.Proofs Go.RowKit
inductive Sh where|n8|u32|b
inductive Arg where|z|b|u|s (l:List Sh)
inductive Val where|n (x:Nat)|z (x:Int)|b (x:Bool)
def tkU:Nat→List Piece→Option (List Prop×Nat×List Piece)
 |0,ps=>some ([],0,ps)
 |n+1,.a (.u .u32 x)::ps=>match tkU n ps with
  |some (o,v,r)=>some ((x<4294967296)::o,x+4294967296*v,r)
  |none=>none
 |_+1,_=>none
def tkN (ps:List Piece):Option (List Prop×Nat×List Piece):=
 match ps with
 | .num k x::r=>match Nat.beq k 8 with|true=>some ([x<4294967296^8],x,r)|false=>none
 |ps=>tkU 8 ps
theorem OC:∀(n:Nat) (ps:List Piece) {o:List Prop} {v:Nat} {r:List Piece},tkU n ps=some (o,v,r)→cL o→
  v<4294967296^n∧∀φ,an φ ps=ef n v++an φ r:=by
 intro n
 induction n with
 |zero=>
  intro ps o v r h _
  simp only[tkU,Option.some.injEq,Prod.mk.injEq] at h
  obtain ⟨_,rfl,rfl⟩:=h
  exact ⟨by simp,fun φ=>rfl⟩
 |succ n ih=>
  intro ps o v r h ho
  unfold tkU at h
  split at h
  ·rename_i h0;omega
  ·rename_i n' y ps' hn
   obtain rfl:n=n':=by omega
   split at h
   ·rename_i o' v' r' hv
    simp only[Option.some.injEq,Prod.mk.injEq] at h
    obtain ⟨rfl,rfl,rfl⟩:=h
    obtain ⟨h1,h2⟩:=ih ps' hv ho.2
    have hy:y<4294967296:=ho.1
    refine ⟨by rw[Nat.pow_succ];omega,fun φ=> ?_⟩
    simp only[an,Piece.conc,Atom.conc,ef,h2 φ]
    rw[show (y+4294967296*v')%4294967296=y by omega,show (y+4294967296*v')/4294967296=v' by omega]
    rfl
   ·simp at h
  ·simp at h
theorem K8 {ps:List Piece} {o:List Prop} {v:Nat} {r:List Piece} (h:tkN ps=some (o,v,r)) (ho:cL o):
  v<4294967296^8∧∀φ,an φ ps=ef 8 v++an φ r:=by
 unfold tkN at h
 split at h
 ·rename_i k x r'
  split at h
  ·rename_i hk
   simp only[Option.some.injEq,Prod.mk.injEq] at h
   obtain ⟨rfl,rfl,rfl⟩:=h
   have hk:=Nat.eq_of_beq_eq_true hk
   subst hk
   exact ⟨ho.1,fun φ=>by simp only[an,Piece.conc]⟩
  ·simp at h
 ·exact OC 8 ps h ho
def xR:List Sh→List Piece→Option (List Prop×List Val)
 |[],[]=>some ([],[])
 |[],_::_=>none
 | .n8::s,ps=>match tkN ps with
  |some (o,x,r)=>match xR s r with
   |some (o',vs)=>some (o++o',.n x::vs)
   |none=>none
  |none=>none
 | .u32::s,ps=>match ps with
  | .a (.u .u32 x)::r=>match xR s r with
   |some (o',vs)=>some ((x<4294967296)::o',.n x::vs)
   |none=>none
  |_=>none
 | .b::s,ps=>match ps with
  | .a (.v (.bool x))::r=>match xR s r with
   |some (o',vs)=>some (o',.b x::vs)
   |none=>none
  |_=>none
def FE:List Sh→List Val→List Piece
 | .n8::s,.n x::vs=> .num 8 x::FE s vs
 | .u32::s,.n x::vs=> .a (.u .u32 x)::FE s vs
 | .b::s,.b x::vs=> .a (.v (.bool x))::FE s vs
 |_,_=>[]
def BnP:List Sh→List Val→Prop
 |[],[]=>True
 | .n8::s,.n x::vs=>x<4294967296^8∧BnP s vs
 | .u32::s,.n x::vs=>x<4294967296∧BnP s vs
 | .b::s,.b _::vs=>BnP s vs
 |_,_=>False
theorem ou:∀(s:List Sh) (ps:List Piece) {o:List Prop} {vs:List Val},xR s ps=some (o,vs)→cL o→
  vs.length=s.length∧BnP s vs∧∀φ,an φ ps=an φ (FE s vs)
 |[],[],o,vs,h,_=>by
  simp only[xR,Option.some.injEq,Prod.mk.injEq] at h
  obtain ⟨_,rfl⟩:=h
  exact ⟨rfl,trivial,fun φ=>rfl⟩
 |[],_::_,o,vs,h,_=>by simp[xR] at h
 | .n8::s,ps,o,vs,h,ho=>by
  simp only[xR] at h
  split at h
  ·rename_i o1 x r hx
   split at h
   ·rename_i o2 vs' hr
    obtain ⟨rfl,rfl⟩:=sI h
    rw[aY] at ho
    obtain ⟨h1,h2⟩:=K8 hx ho.1
    obtain ⟨h3,h4,h5⟩:=ou s r hr ho.2
    exact ⟨by simp[h3],⟨h1,h4⟩,fun φ=>by rw[h2 φ,h5 φ];rfl⟩
   ·simp at h
  ·simp at h
 | .u32::s,ps,o,vs,h,ho=>by
  simp only[xR] at h
  split at h
  ·rename_i x r
   split at h
   ·rename_i o2 vs' hr
    obtain ⟨rfl,rfl⟩:=sI h
    obtain ⟨h3,h4,h5⟩:=ou s r hr ho.2
    exact ⟨by simp[h3],⟨ho.1,h4⟩,fun φ=>by simp only[FE,an,h5 φ]⟩
   ·simp at h
  ·simp at h
 | .b::s,ps,o,vs,h,ho=>by
  simp only[xR] at h
  split at h
  ·rename_i x r
   split at h
   ·rename_i o2 vs' hr
    obtain ⟨rfl,rfl⟩:=sI h
    obtain ⟨h3,h4,h5⟩:=ou s r hr ho
    exact ⟨by simp[h3],h4,fun φ=>by simp only[FE,an,h5 φ]⟩
   ·simp at h
  ·simp at h
def rdA:Arg→V1→Option (List Prop×List Val)
 | .z,.one (.i x)=>some ([],[.z x])
 | .b,.one (.v (.bool x))=>some ([],[.b x])
 | .u,.one (.u .u32 x)=>some ([x<4294967296],[.n x])
 | .s l,.agg ps=>xR l ps
 |_,_=>none
def FM:List Arg→List V1→Option (List Prop×List Val)
 |[],[]=>some ([],[])
 |a::ar,v::vs=>match rdA a v with
  |some (o,xs)=>match FM ar vs with
   |some (o',ys)=>some (o++o',xs++ys)
   |none=>none
  |none=>none
 |_,_=>none
def arN:Arg→Nat
 | .s l=>l.length
 |_=>1
def mkA:Arg→List Val→V1
 | .z,.z x::_=> .one (.i x)
 | .b,.b x::_=> .one (.v (.bool x))
 | .u,.n x::_=> .one (.u .u32 x)
 | .s l,vs=> .agg (FE l vs)
 |_,_=> .agg []
def BnA:Arg→List Val→Prop
 | .z,[.z _]=>True
 | .b,[.b _]=>True
 | .u,[.n x]=>x<4294967296
 | .s l,vs=>BnP l vs
 |_,_=>False
def Tw:List Arg→List Val→List V1
 |[],_=>[]
 |a::ar,vs=>mkA a (vs.take (arN a))::Tw ar (vs.drop (arN a))
def VY:List Arg→List Val→Prop
 |[],vs=>vs=[]
 |a::ar,vs=>BnA a (vs.take (arN a))∧VY ar (vs.drop (arN a))
theorem MD (a:Arg) (v:V1) {o:List Prop} {xs:List Val} (h:rdA a v=some (o,xs)) (ho:cL o):
  xs.length=arN a∧BnA a xs∧∀φ,v.conc φ=(mkA a xs).conc φ:=by
 unfold rdA at h
 split at h
 ·obtain ⟨_,rfl⟩:=sI h
  exact ⟨rfl,trivial,fun φ=>rfl⟩
 ·obtain ⟨_,rfl⟩:=sI h
  exact ⟨rfl,trivial,fun φ=>rfl⟩
 ·obtain ⟨rfl,rfl⟩:=sI h
  exact ⟨rfl,ho.1,fun φ=>rfl⟩
 ·rename_i l ps
  obtain ⟨h1,h2,h3⟩:=ou l ps h ho
  refine ⟨h1,?_,fun φ=> ?_⟩
  ·exact h2
  ·simp only[mkA,V1.conc,h3 φ]
 ·simp at h
theorem zj:∀(ar:List Arg) (vs:List V1) {o:List Prop} {xs:List Val},FM ar vs=some (o,xs)→cL o→
  VY ar xs∧∀φ,vs.map (V1.conc φ)=(Tw ar xs).map (V1.conc φ)
 |[],[],o,xs,h,_=>by
  simp only[FM,Option.some.injEq,Prod.mk.injEq] at h
  obtain ⟨_,rfl⟩:=h
  exact ⟨rfl,fun φ=>rfl⟩
 |a::ar,v::vs,o,xs,h,ho=>by
  simp only[FM] at h
  split at h
  ·rename_i o1 x hx
   split at h
   ·rename_i o2 ys hy
    obtain ⟨rfl,rfl⟩:=sI h
    rw[aY] at ho
    obtain ⟨h1,h2,h3⟩:=MD a v hx ho.1
    obtain ⟨h4,h5⟩:=zj ar vs hy ho.2
    simp only[VY,Tw,List.take_left' h1,List.drop_left' h1,List.map_cons]
    exact ⟨⟨h2,h4⟩,fun φ=>by rw[h3 φ,h5 φ]⟩
   ·simp at h
  ·simp at h
 |[],_::_,o,xs,h,_=>by simp[FM] at h
 |_::_,[],o,xs,h,_=>by simp[FM] at h
def dU (ar:List Arg) (g:List Val→Option (List Prop×AV)) (vs:List V1):Option (List Prop×AV):=
 match FM ar vs with
 |some (o,xs)=>match g xs with
  |some (o',r)=>some (o++o',r)
  |none=>none
 |none=>none
structure CT where
 f:FuncId
 g:List V1→Option (List Prop×AV)
def aU (c:CT):Prop:=∀vs ob r,c.g vs=some (ob,r)→cL ob→Spec c.f vs r
theorem jE {f:FuncId} {ar:List Arg} {g:List Val→Option (List Prop×AV)} (hg:∀xs ob r,VY ar xs→g xs=some (ob,r)→cL ob→Spec f (Tw ar xs) r):aU ⟨f,dU ar g⟩:=by
 intro vs ob r h ho
 simp only[dU] at h
 split at h
 ·rename_i o xs hx
  split at h
  ·rename_i o' r' hr
   obtain ⟨rfl,rfl⟩:=sI h
   rw[aY] at ho
   obtain ⟨h1,h2⟩:=zj ar vs hx ho.1
   exact (hg xs _ _ h1 hr ho.2).congr (fun φ=>(h2 φ).symm) (fun _=>rfl)
  ·simp at h
 ·simp at h
def yE:List CT→FuncId→List V1→Option (List Prop×AV)
 |[],_,_=>none
 |c::r,f,vs=>match Nat.beq c.f f with
  |true=>c.g vs
  |false=>yE r f vs
def bw:List CT→Prop
 |[]=>True
 |c::r=>aU c∧bw r
theorem pm:∀{L:List CT},bw L→∀{f:FuncId} {vs:List V1} {ob:List Prop} {r:AV},yE L f vs=some (ob,r)→cL ob→Spec f vs r
 |[],_,f,vs,ob,r,h,_=>by simp[yE] at h
 |c::L,hL,f,vs,ob,r,h,ho=>by
  simp only[yE] at h
  split at h
  ·rename_i hc
   have:=Nat.eq_of_beq_eq_true hc
   rw[←this]
   exact hL.1 vs ob r h ho
  ·exact pm hL.2 h ho
noncomputable def cd (L:List CT) (S:FuncId→Nat→Bool):Env:={E0 with fn:=yE L,S:=S}
theorem aF {L:List CT} (hL:bw L) (S:FuncId→Nat→Bool):EnvOK (cd L S):=
 ⟨mixed,fun _ _ _ _ h ho=>pm hL h ho,fun _ _ _ _ _ h=>by simp[cd,E0] at h,fun _ _ _ h=>by simp[cd,E0] at h,fun _ _ _ _ _ _ h=>by simp[cd,E0] at h⟩
def abK:List Val→Option (List Prop×AV)
 |[.z z]=>some ([],bV (iz z))
 |_=>none
def wI:List Val→Option (List Prop×AV)
 |[.z z]=>some ([],.tup [N8 (bif iz z then ab z.toNat else 0),.one (.v (.bool (iz z)))])
 |_=>none
def acY:List Val→Option (List Prop×AV)
 |[.n a,.z z]=>some ([0≤z∧z<256],bV (eY a z.toNat))
 |_=>none
theorem amc:aU ⟨147,dU [.z] abK⟩:=jE (by
 intro xs ob r hb h ho
 unfold abK at h
 split at h
 ·obtain ⟨rfl,rfl⟩:=sI h
  exact Ha _
 ·simp at h)
theorem aj6:aU ⟨135,dU [.z] wI⟩:=jE (by
 intro xs ob r hb h ho
 unfold wI at h
 split at h
 ·rename_i z
  obtain ⟨rfl,rfl⟩:=sI h
  cases hz:iz z with
  |true=>
   obtain ⟨n,rfl⟩:∃n:Nat,z=(n:Int):=⟨z.toNat,by have:=Lx hz;omega⟩
   exact Pc n (by have:=Lx hz;omega)
  |false=>exact Qn z hz
 ·simp at h)
theorem aj5:aU ⟨129,dU [.s [.n8],.z] acY⟩:=jE (by
 intro xs ob r hb h ho
 unfold acY at h
 split at h
 ·rename_i a z
  obtain ⟨rfl,rfl⟩:=sI h
  obtain ⟨h0,_⟩:=ho
  obtain ⟨n,rfl⟩:∃n:Nat,z=(n:Int):=⟨z.toNat,by omega⟩
  exact MU a n (by omega)
 ·simp at h)
noncomputable def L0:List CT:=[⟨126,Sj ap⟩,⟨84,fnR addM⟩,⟨169,fnR aw⟩,⟨100,OS ap⟩,⟨51,OS addM⟩,⟨196,OS aw⟩,⟨81,NM⟩,⟨79,Ov ci⟩,⟨154,KV aq⟩,⟨149,KV ci⟩,⟨50,OS bK⟩,⟨78,Ln g52⟩,⟨48,Ln (fun k=> .val (BP k))⟩,⟨9,Ln g21⟩,⟨135,dU [.z] wI⟩,⟨147,dU [.z] abK⟩,⟨142,V6 am⟩,⟨80,Ov cI⟩,⟨148,aaF⟩,⟨138,mT J8⟩,⟨141,mT qQ⟩,⟨144,mT AX⟩,⟨145,Kj⟩,⟨162,mT J8⟩,⟨101,mT AX⟩,⟨103,mT qQ⟩,⟨102,mT yL⟩,⟨98,acA (fun k V=> .val (N8 (dY V (ab k))))⟩,⟨99,mT (fun a b=> .val (mO (co a b)))⟩,⟨104,Bu⟩,⟨220,xA y7⟩,⟨127,xA (fun a=>iV (dp a:Int))⟩,⟨150,xA (fun a=>iV (eP a 256:Int))⟩,⟨129,dU [.s [.n8],.z] acY⟩,⟨152,NV⟩]
theorem Dj:bw L0:=
 ⟨fun _ _ _ h ho=>IY Mg h ho,fun _ _ _ h ho=>Px aau h ho,fun _ _ _ h ho=>Px adO h ho,fun _ _ _ h ho=>ma Gg h ho,fun _ _ _ h ho=>ma Pk h ho,fun _ _ _ h ho=>ma Zd h ho,fun _ _ _ h ho=>A0 h ho,fun _ _ _ h ho=>zR NK h ho,fun _ _ _ h ho=>Al z0 h ho,fun _ _ _ h ho=>Al aaE h ho,fun _ _ _ h ho=>ma GZ h ho,fun _ _ _ h ho=>lX rC h ho,fun _ _ _ h ho=>lX GR h ho,fun _ _ _ h ho=>lX wi h ho,aj6,amc,fun _ _ _ h ho=>IH Bq h ho,fun _ _ _ h ho=>zR aaT h ho,fun _ _ _ h ho=>RY h ho,fun _ _ _ h ho=>de Pz h ho,fun _ _ _ h ho=>de wO h ho,fun _ _ _ h ho=>de KU h ho,fun _ _ _ h ho=>up h ho,fun _ _ _ h ho=>de ND h ho,fun _ _ _ h ho=>de Gs h ho,fun _ _ _ h ho=>de wn h ho,fun _ _ _ h ho=>de vr h ho,fun _ _ _ h ho=>RA YY h ho,fun _ _ _ h ho=>de Ft h ho,fun _ _ _ h ho=>Bi h ho,fun _ _ _ h ho=>ej YV h ho,fun _ _ _ h ho=>ej (fun a _=>Aw a) h ho,fun _ _ _ h ho=>ej Py h ho,aj5,fun _ _ _ h ho=>AL h ho,trivial⟩
end Go.Ev
namespace Go.NT
theorem aim {m a b c d:Nat} (h:a%m=b%m) (h':c%m=d%m):a*c%m=b*d%m:=by
 rw[Nat.mul_mod,h,h',←Nat.mul_mod]
theorem zero_of_mul {m a b:Nat} (hp:Pr m) (h:a*b%m=0):a%m=0∨b%m=0:=by
 rcases FL hp (Nat.dvd_of_mod_eq_zero h) with h|h
 ·exact .inl (Nat.mod_eq_zero_of_dvd h)
 ·exact .inr (Nat.mod_eq_zero_of_dvd h)
theorem wt {m x c:Nat} (h:(x+c)%m=c%m):x%m=0:=by
 have h1:(x+c-c)%m=0:=Nat.sub_mod_eq_zero_of_mod_eq h
 rwa[Nat.add_sub_cancel] at h1
theorem aiB {m a b:Nat} (hp:Pr m) (ha:a<m) (hb:b<m) (h:a*a%m=b*b%m):a=b∨(a+b)%m=0:=by
 by_cases hab:a=b
 ·exact .inl hab
 ·right
  rcases Nat.lt_or_gt_of_ne hab with hl|hl
  ·have h1:(b-a)*(a+b)%m=0:=by
    have e:(b-a)*(a+b)+a*a=b*b:=by
     obtain ⟨d,rfl⟩:∃d,b=a+d:=⟨b-a,by omega⟩
     rw[show a+d-a=d by omega]
     simp only[Nat.mul_add,Nat.add_mul]
     have:=Nat.mul_comm a d
     omega
    exact wt (by rw[e,h])
   rcases zero_of_mul hp h1 with h2|h2
   ·rw[Nat.mod_eq_of_lt (by omega)] at h2;omega
   ·exact h2
  ·have h1:(a-b)*(a+b)%m=0:=by
    have e:(a-b)*(a+b)+b*b=a*a:=by
     obtain ⟨d,rfl⟩:∃d,a=b+d:=⟨a-b,by omega⟩
     rw[show b+d-b=d by omega]
     simp only[Nat.mul_add,Nat.add_mul]
     have:=Nat.mul_comm b d
     omega
    exact wt (by rw[e,h])
   rcases zero_of_mul hp h1 with h2|h2
   ·rw[Nat.mod_eq_of_lt (by omega)] at h2;omega
   ·exact h2
theorem neg_sq {m x:Nat} (h:x≤m):(m-x)*(m-x)%m=x*x%m:=by
 obtain ⟨d,rfl⟩:∃d,m=x+d:=⟨m-x,by omega⟩
 rw[show x+d-x=d by omega]
 have e:d*d+(x+d)*x=x*x+(x+d)*d:=by
  simp only[Nat.add_mul];have:=Nat.mul_comm x d;omega
 have h1:(d*d+(x+d)*x)%(x+d)=(x*x+(x+d)*d)%(x+d):=by rw[e]
 rwa[Nat.add_mul_mod_self_left,Nat.add_mul_mod_self_left] at h1
theorem ada {m s:Nat} (hp:Pr m) (hs:s<m) (h:s*s%m=1):s=1∨s=m-1:=by
 have h1:1<m:=hp.1
 rcases aiB hp hs h1 (by rw[h,Nat.mod_eq_of_lt (by omega)]) with h2|h2
 ·exact .inl h2
 ·right
  rcases Nat.lt_or_ge (s+1) m with h3|h3
  ·rw[Nat.mod_eq_of_lt h3] at h2;omega
  ·omega
def pwM (p a e:Nat):Nat:=a^e%p
theorem FJ {p:Nat} (hp:0<p) (a e:Nat):pwM p a e<p:=Nat.mod_lt _ hp
theorem GY (m x:Nat):x%m*(x%m)%m=x*x%m:=(Nat.mul_mod x x m).symm
theorem Pw (p a e:Nat):pwM p (a*a%p) e*pwM p (a*a%p) e%p=pwM p a (2*(e+e)):=by
 unfold pwM
 rw[GY,←Nat.pow_add,←Nat.pow_mod,←Nat.pow_two,←Nat.pow_mul]
theorem zP (p a e f:Nat):pwM p a (e+f)=pwM p a e*pwM p a f%p:=by
 unfold pwM
 rw[Nat.pow_add,Nat.mul_mod]
theorem IP (p a:Nat):pwM p a 2=a*a%p:=by unfold pwM;rw[Nat.pow_two]
theorem PA {p a e:Nat} (hf:0<a→pwM p a (p-1)=1) (he:2*(e+e)=p-1+2):
  pwM p (a*a%p) e*pwM p (a*a%p) e%p=a*a%p:=by
 rw[Pw,he,zP,IP]
 by_cases h0:a=0
 ·subst h0;simp
 ·rw[hf (by omega),Nat.one_mul,Nat.mod_mod]
def rt (p e f a:Nat):Nat:=
 if pwM p a e*pwM p a e%p=a then pwM p a e else pwM p a e*pwM p 2 f%p
theorem ag0 {p:Nat} (hp:0<p) (e f a:Nat):rt p e f a<p:=by
 unfold rt;split
 ·exact FJ hp _ _
 ·exact Nat.mod_lt _ hp
theorem Ny {p a e f h:Nat} (hp:Pr p) (hf:0<a→pwM p a (p-1)=1) (he:2*(e+e)=h+2) (hh:h+h=p-1)
  (ht:pwM p 2 f*pwM p 2 f%p=p-1):rt p e f (a*a%p)*rt p e f (a*a%p)%p=a*a%p:=by
 have h1:1<p:=hp.1
 unfold rt
 split
 ·assumption
 ·rename_i hn
  have hxx:pwM p (a*a%p) e*pwM p (a*a%p) e%p=pwM p a h*(a*a%p)%p:=by
   rw[Pw,he,zP,IP]
  generalize pwM p (a*a%p) e=x at*
  by_cases h0:a=0
  ·exfalso;apply hn
   rw[hxx,h0];simp
  ·have hs:pwM p a h*pwM p a h%p=1:=by rw[←zP,hh];exact hf (by omega)
   rcases ada hp (FJ (by omega) a h) hs with h2|h2
   ·exfalso;apply hn
    rw[hxx,h2,Nat.one_mul,Nat.mod_mod]
   ·rw[GY]
    generalize pwM p 2 f=t at*
    rw[show x*t*(x*t)=x*x*(t*t) by simp only[Nat.mul_assoc,Nat.mul_left_comm],Nat.mul_mod,hxx,ht,h2]
    generalize a*a=c
    rw[Nat.mod_mul_mod,Nat.mul_assoc,Nat.mul_comm (c%p),←Nat.mul_assoc,Nat.mul_mod,show (p-1)*(p-1)%p=1 by
     have:=neg_sq (m:=p) (x:=1) (by omega)
     rw[this,Nat.one_mul];exact Nat.mod_eq_of_lt h1,Nat.one_mul,Nat.mod_mod,Nat.mod_mod]
def candN (k a:Nat):Nat:=
 if k=1 then pwM (modP 1) a ((modP 1+1)/4) else rt (modP 0) ((modP 0+3)/8) (modP 0/4) a
theorem Cb (k:Nat):0<modP k:=by unfold modP;split<;>decide
theorem candN_lt {k a:Nat} (hk:k<2):candN k a<modP k:=by
 unfold candN
 split
 ·rename_i h;subst h;exact FJ (Cb 1) _ _
 ·have:k=0:=by omega
  subst this
  exact ag0 (Cb 0) _ _ _
theorem ajl {p a e c:Nat} (hp:p<2^256) (he:e<p) (h:powK 256 a e p*powK 256 a e p%p=c):pwM p a e*pwM p a e%p=c:=by
 rw[powK_256 hp he] at h
 exact h
theorem acg:pwM (modP 0) 2 (modP 0/4)*pwM (modP 0) 2 (modP 0/4)%modP 0=modP 0-1:=
 ajl (by decide+kernel) (by decide+kernel) (by decide+kernel)
theorem H7 {k a:Nat} (hk:k<4) (ha:a<modP k) (h0:0<a):pwM (modP k) a (modP k-1)=1:=by unfold pwM;exact fermatK hk h0 ha
theorem candN_0 (a:Nat):candN 0 a=rt (modP 0) ((modP 0+3)/8) (modP 0/4) a:=by unfold candN;exact if_neg (by decide)
theorem candN_1 (a:Nat):candN 1 a=pwM (modP 1) a ((modP 1+1)/4):=by unfold candN;exact if_pos rfl
theorem VB {k a:Nat} (hk:k<2) (ha:a<modP k):candN k (a*a%modP k)*candN k (a*a%modP k)%modP k=a*a%modP k:=by
 rcases (show k=0∨k=1 by omega) with rfl|rfl
 ·rw[candN_0];exact Ny (h:=(modP 0-1)/2) (primeK (by decide)) (H7 (by decide) ha) (by decide+kernel) (by decide+kernel) acg
 ·rw[candN_1];exact PA (H7 (by decide) ha) (by decide+kernel)
def isSq (k c:Nat):Bool:=decide (candN k c*candN k c%modP k=c)
theorem isSq_of {k r c:Nat} (hk:k<2) (h:r*r%modP k=c):isSq k c=true:=by
 have h1:0<modP k:=by have:=(primeK (k:=k) (by omega)).1;omega
 have h2:=VB hk (Nat.mod_lt r h1)
 rw[GY,h] at h2
 simp[isSq,h2]
theorem I4 {k c:Nat} (h:isSq k c=true):∃r,r*r%modP k=c:=⟨candN k c,by simpa[isSq] using h⟩
theorem inv_mul {k a:Nat} (hk:k<4) (h0:0<a) (ha:a<modP k):a*a^(modP k-2)%modP k=1:=by
 have h1:1<modP k:=(primeK hk).1
 rw[Nat.mul_comm,←Nat.pow_succ,show (modP k-2).succ=modP k-1 by omega]
 exact fermatK hk h0 ha
theorem isSq_mul {k a b:Nat} (hk:k<2) (h0:0<a) (ha:a<modP k) (hb:b<modP k):isSq k (b*(a*a%modP k)%modP k)=isSq k b:=by
 rw[Bool.eq_iff_iff]
 constructor
 ·intro h
  obtain ⟨r,hr⟩:=I4 h
  refine isSq_of (r:=r*a^(modP k-2)) hk ?_
  rw[show r*a^(modP k-2)*(r*a^(modP k-2))=r*r*(a^(modP k-2)*a^(modP k-2)) by simp only[Nat.mul_assoc,Nat.mul_comm,Nat.mul_left_comm]]
  rw[Nat.mul_mod,hr,Nat.mod_mul_mod,Nat.mul_mod_mod,Nat.mul_assoc]
  have h3:b*((a*a)%modP k*(a^(modP k-2)*a^(modP k-2)))%modP k=b*((a*a^(modP k-2))*(a*a^(modP k-2)))%modP k:=by
   refine aim rfl ?_
   rw[Nat.mod_mul_mod]
   congr 1
   simp only[Nat.mul_assoc,Nat.mul_comm,Nat.mul_left_comm]
  rw[h3,Nat.mul_mod,Nat.mul_mod (a*_),inv_mul (by omega) h0 ha,Nat.mul_one]
  have h1:1<modP k:=(primeK (k:=k) (by omega)).1
  rw[Nat.mod_eq_of_lt h1,Nat.mul_one,Nat.mod_mod,Nat.mod_eq_of_lt hb]
 ·intro h
  obtain ⟨r,hr⟩:=I4 h
  refine isSq_of (r:=r*a) hk ?_
  rw[show r*a*(r*a)=r*r*(a*a) by simp only[Nat.mul_comm,Nat.mul_left_comm]]
  exact aim (by rw[hr,Nat.mod_eq_of_lt hb]) (Nat.mod_mod _ _).symm
def evenN (m x:Nat):Nat:=if x%2=1 then m-x else x
theorem evenN_lt {m x:Nat} (h:x<m):evenN m x<m:=by unfold evenN;split<;>omega
theorem evenN_even {m x:Nat} (hm:m%2=1) (h:x<m):evenN m x%2=0:=by unfold evenN;split<;>omega
theorem evenN_sq {m x:Nat} (h:x<m):evenN m x*evenN m x%m=x*x%m:=by
 unfold evenN;split
 ·exact neg_sq (by omega)
 ·rfl
end Go.NT
namespace Go.Ev
open Go Go.Proofs Go.RowKit
theorem acM (a:Nat→Nat):al E0 1000 225 [C8 a] []=some ([],.tup [C8 (KO a),.one (.v (.bool (acx a)))]):=by kernel_rfl
theorem AB (a:Nat) (ha:a<4294967296^8):Spec 225 [N8 a] (y7 a):=by
 obtain ⟨h1,h2⟩:=Dr (ba a)
 rw[ce a 8 ha] at h1
 refine (af envE0 rfl (acM (ak a)) trivial rfl rfl).congr (fun φ=>by simp only[List.map_cons,List.map_nil,c8]) (fun φ=> ?_)
 simp only[y7,AV.conc,List.map_cons,List.map_nil]
 rw[ew φ (fun i _=>h2 i) (show aW 8 0 (KO (ak a))=a/2 by omega)]
noncomputable def L1:List CT:=⟨225,xA y7⟩::L0
theorem ng:bw L1:=⟨fun _ _ _ h ho=>ej AB h ho,Dj⟩
def iA:FuncId→Nat→Bool:=fun _ _=>false
def mW (m c:Nat):Nat:=aD m c/2/2
def ee (m c:Nat):Nat:=aD m c/2/2/2
theorem fV (k:Nat):ab k=Go.NT.modP k:=by unfold ab Go.NT.modP;rfl
def Ms:List Val→Option (List Prop×AV)
 |[.n m,.n c,.z h]=>match h.toNat with
  |2=>some ([],.val (N8 (mW m c)))
  |3=>some ([],.val (N8 (ee m c)))
  |_=>none
 |_=>none
theorem Rw (m:Nat) (c:Nat):al (cd L1 iA) 1000 222 [N8 m,u32 c,zV 2] []=
  some ([m<4294967296^8,c<4294967296,0<4294967296,0<4294967296,0<4294967296,0<4294967296,0<4294967296,0<4294967296,0<4294967296,aD m c<4294967296^8,aD m c/2<4294967296^8],AV.val (V1.agg [Piece.num 8 (aD m c/2/2)])):=by kernel_rfl
theorem We (m:Nat) (c:Nat):al (cd L1 iA) 1000 222 [N8 m,u32 c,zV 3] []=
  some ([m<4294967296^8,c<4294967296,0<4294967296,0<4294967296,0<4294967296,0<4294967296,0<4294967296,0<4294967296,0<4294967296,aD m c<4294967296^8,aD m c/2<4294967296^8,aD m c/2/2<4294967296^8],AV.val (V1.agg [Piece.num 8 (aD m c/2/2/2)])):=by kernel_rfl
theorem aL {a:Nat} (h:a<4294967296^8):a/2<4294967296^8:=Nat.lt_of_le_of_lt (Nat.div_le_self _ _) h
theorem agD:aU ⟨222,dU [.s [.n8],.u,.z] Ms⟩:=jE (by
 intro xs ob r hb h ho
 unfold Ms at h
 split at h
 ·rename_i m c z
  obtain ⟨⟨hm,_⟩,hc,_⟩:=hb
  have hc:c<4294967296:=hc
  have h0:(0:Nat)<4294967296:=by decide
  have ha:=be m c
  split at h
  ·rename_i hz
   obtain ⟨rfl,rfl⟩:=sI h
   obtain rfl:z=2:=by omega
   exact af (aF ng iA) rfl (Rw m c) ⟨hm,hc,h0,h0,h0,h0,h0,h0,h0,ha,aL ha,trivial⟩ rfl rfl
  ·rename_i hz
   obtain ⟨rfl,rfl⟩:=sI h
   obtain rfl:z=3:=by omega
   exact af (aF ng iA) rfl (We m c) ⟨hm,hc,h0,h0,h0,h0,h0,h0,h0,ha,aL ha,aL (aL ha),trivial⟩ rfl rfl
  ·simp at h
 ·simp at h)
noncomputable def L2:List CT:=⟨222,dU [.s [.n8],.u,.z] Ms⟩::L1
theorem HX:bw L2:=⟨agD,ng⟩
noncomputable def S93:FuncId→Nat→Bool:=fun f t=>match f with|216=>bf t [28]|_=>false
theorem adX (m:Nat) (q:Nat) (a:Nat):al (cd L2 S93) 1000 216 [zV 1,xx m q,N8 a] []=
  some ([m<4294967296^8,1<4294967296,m<4294967296^8,a<m,bc m q,a<4294967296^8,mW m 1<4294967296^8],AV.val (V1.agg [Piece.num 8 (am m a (mW m 1))])):=by kernel_rfl
theorem adx (m:Nat) (q:Nat) (a:Nat):al (cd L2 S93) 1000 216 [zV 0,xx m q,N8 a] [true]=
  some ([m<4294967296^8,3<4294967296,m<4294967296^8,a<m,bc m q,a<4294967296^8,ee m 3<4294967296^8,m<4294967296^8,am m a (ee m 3)<m,am m a (ee m 3)<m,bc m q,am m a (ee m 3)<4294967296^8,am m a (ee m 3)<4294967296^8,(decide (ap m (am m a (ee m 3)) (am m a (ee m 3))%4294967296^8=a%4294967296^8)&&true)=true],AV.val (V1.agg [Piece.num 8 (am m a (ee m 3))])):=by kernel_rfl
theorem aa_ (m:Nat) (q:Nat) (a:Nat):al (cd L2 S93) 1000 216 [zV 0,xx m q,N8 a] [false]=
  some ([m<4294967296^8,3<4294967296,m<4294967296^8,a<m,bc m q,a<4294967296^8,ee m 3<4294967296^8,m<4294967296^8,am m a (ee m 3)<m,am m a (ee m 3)<m,bc m q,am m a (ee m 3)<4294967296^8,am m a (ee m 3)<4294967296^8,(decide (ap m (am m a (ee m 3)) (am m a (ee m 3))%4294967296^8=a%4294967296^8)&&true)=false,m<4294967296^8,0<m,2<4294967296,0<4294967296,0<4294967296,0<4294967296,0<4294967296,0<4294967296,0<4294967296,0<4294967296,m<4294967296^8,0<4294967296,m<4294967296^8,aq m 2<m,bc m q,aq m 2<4294967296^8,mW m 0<4294967296^8,m<4294967296^8,am m a (ee m 3)<m,am m (aq m 2) (mW m 0)<m,bc m q,am m a (ee m 3)<4294967296^8,am m (aq m 2) (mW m 0)<4294967296^8],AV.val (V1.agg [Piece.num 8 (ap m (am m a (ee m 3)) (am m (aq m 2) (mW m 0)))])):=by kernel_rfl
open Go.NT in
theorem GT (m a:Nat):ci m a=fj a m:=by unfold ci co;rw[Nat.mul_zero,Nat.add_zero]
theorem jw (m c:Nat):aq m c=c*4294967296^8%m:=by unfold aq dY co;rw[Nat.zero_add,Nat.mul_comm]
theorem i6 (m a n:Nat):am m a n=aq m (Go.NT.pwM m (ci m a) n):=by
 rw[jw,GT];unfold am Go.NT.pwM;rw[Nat.mod_mul_mod]
theorem rh {m q x y:Nat} (hR:m<4294967296^8) (hq:bc m q):ap m (aq m x) (aq m y)=aq m (x*y%m):=by
 rw[jw,jw,jw,Fb hR hq,Nat.mod_mul_mod]
theorem A9 {m q x y:Nat} (hR:m<4294967296^8) (hq:bc m q) (hx:x<m) (hy:y<m) (h:aq m x=aq m y):x=y:=by
 have h1:=Ba (a:=x) hR hq
 have h2:=Ba (a:=y) hR hq
 rw[Nat.mod_eq_of_lt hx] at h1
 rw[Nat.mod_eq_of_lt hy] at h2
 rw[←h1,←h2,h]
theorem k9 {m q a:Nat} (hR:m<4294967296^8) (hq:bc m q) (ha:a<m):aq m (ci m a)=a:=by
 rw[jw,GT,yW hR hq ha]
theorem fi {m q x:Nat} (hR:m<4294967296^8) (hq:bc m q) (hx:x<m):ci m (aq m x)=x:=by
 rw[GT,Ba hR hq,Nat.mod_eq_of_lt hx]
theorem au {m c:Nat} (hm:0<m):aq m c<m:=Nat.mod_lt _ hm
theorem bj {m c:Nat} (hm:0<m):ci m c<m:=Nat.mod_lt _ hm
theorem ai {m a b:Nat} (hm:0<m):ap m a b<m:=Nat.mod_lt _ hm
theorem bk {m a b:Nat} (hm:0<m):am m a b<m:=Nat.mod_lt _ hm
theorem nL {x y:Nat} (hx:x<4294967296^8) (hy:y<4294967296^8):(decide (x%4294967296^8=y%4294967296^8)&&true)=decide (x=y):=by
 rw[Nat.mod_eq_of_lt hx,Nat.mod_eq_of_lt hy,Bool.and_true]
theorem Ph:mW (ab 1) 1=(Go.NT.modP 1+1)/4:=by decide+kernel
theorem abG:mW (ab 0) 0=Go.NT.modP 0/4:=by decide+kernel
theorem Ah:ee (ab 0) 3=(Go.NT.modP 0+3)/8:=by decide+kernel
theorem KS:(2:Nat)<ab 0:=en 0
noncomputable def fP (k a:Nat):Nat:=aq (ab k) (Go.NT.candN k (ci (ab k) a))
noncomputable def Fw:List Val→Option (List Prop×AV)
 |[.z k,.n m,.n q,.n a]=>some ([0≤k∧k<2,m=ab k.toNat,q=aT k.toNat,a<ab k.toNat],.val (N8 (fP k.toNat a)))
 |_=>none
theorem NE (a:Nat) (ha:a<ab 1):Spec 216 [zV 1,xx (ab 1) (aT 1),N8 a] (.val (N8 (fP 1 a))):=by
 have hR:=aj 1
 have hq:=aK (k:=1) (by omega)
 have hp:mW (ab 1) 1<4294967296^8:=aL (aL (be _ _))
 have h:=af (aF HX S93) rfl (adX (ab 1) (aT 1) a) (by refine ⟨?_,?_,?_,?_,?_,?_,?_,trivial⟩<;>first|with_reducible assumption|omega|exact be _ _|exact cJ _ _|exact Nat.mod_lt _ (by omega)|exact fG (by omega) (by omega)) rfl rfl
 rw[i6,Ph] at h
 unfold fP;rw[Go.NT.candN_1]
 exact h
theorem Ps (a:Nat) (ha:a<ab 0):Spec 216 [zV 0,xx (ab 0) (aT 0),N8 a] (.val (N8 (fP 0 a))):=by
 have hR:=aj 0
 have h0:=ae 0
 have hq:=aK (k:=0) (by omega)
 have hp:mW (ab 0) 0<4294967296^8:=aL (aL (be _ _))
 have hp3:ee (ab 0) 3<4294967296^8:=aL (aL (aL (be _ _)))
 have hx:am (ab 0) a (ee (ab 0) 3)<ab 0:=bk h0
 have hy:am (ab 0) (aq (ab 0) 2) (mW (ab 0) 0)<ab 0:=bk h0
 have h2:aq (ab 0) 2<ab 0:=au h0
 have hm:ap (ab 0) (am (ab 0) a (ee (ab 0) 3)) (am (ab 0) a (ee (ab 0) 3))<ab 0:=ai h0
 have hc:=nL (x:=ap (ab 0) (am (ab 0) a (ee (ab 0) 3)) (am (ab 0) a (ee (ab 0) 3))) (y:=a) (by omega) (by omega)
 have key:(ap (ab 0) (am (ab 0) a (ee (ab 0) 3)) (am (ab 0) a (ee (ab 0) 3))=a)↔
   Go.NT.pwM (ab 0) (ci (ab 0) a) ((Go.NT.modP 0+3)/8)*Go.NT.pwM (ab 0) (ci (ab 0) a) ((Go.NT.modP 0+3)/8)%ab 0=ci (ab 0) a:=by
  rw[i6,rh hR hq,Ah]
  constructor
  ·intro h
   refine A9 hR hq (Nat.mod_lt _ h0) (bj h0) ?_
   rw[h,k9 hR hq ha]
  ·intro h
   rw[h,k9 hR hq ha]
 unfold fP;rw[Go.NT.candN_0]
 unfold Go.NT.rt
 by_cases hk:ap (ab 0) (am (ab 0) a (ee (ab 0) 3)) (am (ab 0) a (ee (ab 0) 3))=a
 ·rw[if_pos (by exact key.1 hk)]
  have hc:(decide (ap (ab 0) (am (ab 0) a (ee (ab 0) 3)) (am (ab 0) a (ee (ab 0) 3))%4294967296^8=a%4294967296^8)&&true)=true:=by rw[hc];exact decide_eq_true hk
  have h:=af (aF HX S93) rfl (adx (ab 0) (aT 0) a) (by refine ⟨?_,?_,?_,?_,?_,?_,?_,?_,?_,?_,?_,?_,?_,?_,trivial⟩<;>first|with_reducible assumption|omega|exact be _ _|exact cJ _ _|exact Nat.mod_lt _ (by omega)|exact fG (by omega) (by omega)) rfl rfl
  rw[i6,Ah] at h
  exact h
 ·rw[if_neg (by exact fun h=>hk (key.2 h))]
  have hc:(decide (ap (ab 0) (am (ab 0) a (ee (ab 0) 3)) (am (ab 0) a (ee (ab 0) 3))%4294967296^8=a%4294967296^8)&&true)=false:=by rw[hc];exact decide_eq_false hk
  have h:=af (aF HX S93) rfl (aa_ (ab 0) (aT 0) a) (by refine ⟨?_,?_,?_,?_,?_,?_,?_,?_,?_,?_,?_,?_,?_,?_,?_,?_,?_,?_,?_,?_,?_,?_,?_,?_,?_,?_,?_,?_,?_,?_,?_,?_,?_,?_,?_,?_,?_,trivial⟩<;>first|with_reducible assumption|omega|exact be _ _|exact cJ _ _|exact Nat.mod_lt _ (by omega)|exact fG (by omega) (by omega)) rfl rfl
  rw[i6 (ab 0) a,i6 (ab 0) (aq (ab 0) 2),rh hR hq,Ah,abG,fi hR hq KS] at h
  exact h
theorem an4:aU ⟨216,dU [.z,.s [.n8,.u32],.s [.n8]] Fw⟩:=jE (by
 intro xs ob r hb h ho
 unfold Fw at h
 split at h
 ·rename_i z m q a
  obtain ⟨rfl,rfl⟩:=sI h
  obtain ⟨hz,rfl,rfl,ha,_⟩:=ho
  rcases (show z=0∨z=1 by omega) with rfl|rfl
  ·exact Ps a ha
  ·exact NE a ha
 ·simp at h)
noncomputable def L3:List CT:=⟨216,dU [.z,.s [.n8,.u32],.s [.n8]] Fw⟩::L2
theorem C4:bw L3:=⟨an4,HX⟩
noncomputable def S58:FuncId→Nat→Bool:=fun f t=>match f with|203=>bf t [25]|_=>false
theorem abX (k:Nat) (a:Nat):al (cd L3 S58) 1000 203 [kV k,N8 a] [true]=
  some ([0≤(↑k:Int)∧(↑k:Int)<4,ab k<4294967296^8,0<ab k,a<4294967296^8,ab k<4294967296^8,aT k<4294967296,aq (ab k) a<4294967296^8,0≤(↑k:Int)∧(↑k:Int)<2,ab k=ab k,aT k=aT k,aq (ab k) a<ab k,ab k<4294967296^8,fP k (aq (ab k) a)<ab k,bc (ab k) (aT k),fP k (aq (ab k) a)<4294967296^8,decide (ci (ab k) (fP k (aq (ab k) a))%4294967296%4294967296&&&1%4294967296=1)=true,ab k<4294967296^8,0<ab k,ci (ab k) (fP k (aq (ab k) a))<ab k,0<4294967296,0<4294967296,0<4294967296,0<4294967296,0<4294967296,0<4294967296,0<4294967296,0<4294967296,ci (ab k) (fP k (aq (ab k) a))<4294967296^8,ab k<4294967296^8,fP k (aq (ab k) a)<ab k,fP k (aq (ab k) a)<ab k,bc (ab k) (aT k),fP k (aq (ab k) a)<4294967296^8,fP k (aq (ab k) a)<4294967296^8],AV.tup [V1.agg [Piece.num 8 (aw (ab k) 0 (ci (ab k) (fP k (aq (ab k) a))))],V1.one (Atom.v (Value.bool (decide (ap (ab k) (fP k (aq (ab k) a)) (fP k (aq (ab k) a))%4294967296^8=aq (ab k) a%4294967296^8)&&true)))]):=by kernel_rfl
theorem abd (k:Nat) (a:Nat):al (cd L3 S58) 1000 203 [kV k,N8 a] [false]=
  some ([0≤(↑k:Int)∧(↑k:Int)<4,ab k<4294967296^8,0<ab k,a<4294967296^8,ab k<4294967296^8,aT k<4294967296,aq (ab k) a<4294967296^8,0≤(↑k:Int)∧(↑k:Int)<2,ab k=ab k,aT k=aT k,aq (ab k) a<ab k,ab k<4294967296^8,fP k (aq (ab k) a)<ab k,bc (ab k) (aT k),fP k (aq (ab k) a)<4294967296^8,decide (ci (ab k) (fP k (aq (ab k) a))%4294967296%4294967296&&&1%4294967296=1)=false,ab k<4294967296^8,fP k (aq (ab k) a)<ab k,fP k (aq (ab k) a)<ab k,bc (ab k) (aT k),fP k (aq (ab k) a)<4294967296^8,fP k (aq (ab k) a)<4294967296^8],AV.tup [V1.agg [Piece.num 8 (ci (ab k) (fP k (aq (ab k) a)))],V1.one (Atom.v (Value.bool (decide (ap (ab k) (fP k (aq (ab k) a)) (fP k (aq (ab k) a))%4294967296^8=aq (ab k) a%4294967296^8)&&true)))]):=by kernel_rfl
theorem YX {k a:Nat} (hk:k<2) (ha:a<ab k):fP k (aq (ab k) a)=aq (ab k) (Go.NT.candN k a):=by
 unfold fP;rw[fi (aj k) (aK (by omega)) ha]
theorem kU (c:Nat):(decide (c%4294967296%4294967296&&&1%4294967296=1))=decide (c%2=1):=by
 rw[Nat.mod_mod,show 1%4294967296=1 from rfl,Nat.and_one_is_mod]
 congr 1
 rw[Nat.mod_mod_of_dvd _ (by decide)]
theorem ji (k c:Nat):Go.NT.isSq k c=true↔Go.NT.candN k c*Go.NT.candN k c%ab k=c:=by unfold Go.NT.isSq;rw[decide_eq_true_iff,fV]
theorem Qo (k a:Nat) (hk:k<2) (ha:a<ab k):Spec 203 [kV k,N8 a] (.tup [N8 (Go.NT.evenN (ab k) (Go.NT.candN k a)),.one (.v (.bool (Go.NT.isSq k a)))]):=by
 have hR:=aj k
 have h0:=ae k
 have hq:=aK (k:=k) (by omega)
 have hc:Go.NT.candN k a<ab k:=by rw[fV];exact Go.NT.candN_lt hk
 have hx:=YX hk ha
 have ho:ci (ab k) (fP k (aq (ab k) a))=Go.NT.candN k a:=by rw[hx,fi hR hq hc]
 have hxl:fP k (aq (ab k) a)<ab k:=by rw[hx];exact au h0
 have hi:aq (ab k) a<ab k:=au h0
 have hol:ci (ab k) (fP k (aq (ab k) a))<ab k:=bj h0
 have hf:aT k<4294967296:=by unfold aT JD;omega
 have hm:ap (ab k) (fP k (aq (ab k) a)) (fP k (aq (ab k) a))<ab k:=ai h0
 have hk3:0≤(k:Int)∧(k:Int)<4:=by omega
 have hk2:0≤(k:Int)∧(k:Int)<2:=by omega
 have hs:(decide (ap (ab k) (fP k (aq (ab k) a)) (fP k (aq (ab k) a))%4294967296^8=aq (ab k) a%4294967296^8)&&true)=Go.NT.isSq k a:=by
  rw[nL (by omega) (by omega),hx,rh hR hq,Bool.eq_iff_iff,ji,decide_eq_true_iff]
  exact ⟨fun h=>A9 hR hq (Nat.mod_lt _ h0) ha h,fun h=>by rw[h]⟩
 by_cases hb:Go.NT.candN k a%2=1
 ·have hd:decide (ci (ab k) (fP k (aq (ab k) a))%4294967296%4294967296&&&1%4294967296=1)=true:=by
   rw[kU,ho];exact decide_eq_true hb
  have h:=af (aF C4 S58) rfl (abX k a) (by refine ⟨?_,?_,?_,?_,?_,?_,?_,?_,?_,?_,?_,?_,?_,?_,?_,?_,?_,?_,?_,?_,?_,?_,?_,?_,?_,?_,?_,?_,?_,?_,?_,?_,?_,?_,trivial⟩<;>first|with_reducible assumption|omega|exact be _ _|exact cJ _ _|exact Nat.mod_lt _ (by omega)|exact fG (by omega) (by omega)) rfl rfl
  rw[hs,ho,show aw (ab k) 0 (Go.NT.candN k a)=Go.NT.evenN (ab k) (Go.NT.candN k a) by
   unfold aw Go.NT.evenN
   rw[if_pos hb,Nat.zero_add]
   exact Nat.mod_eq_of_lt (by omega)] at h
  exact h
 ·have hd:decide (ci (ab k) (fP k (aq (ab k) a))%4294967296%4294967296&&&1%4294967296=1)=false:=by
   rw[kU,ho];exact decide_eq_false hb
  have h:=af (aF C4 S58) rfl (abd k a) (by refine ⟨?_,?_,?_,?_,?_,?_,?_,?_,?_,?_,?_,?_,?_,?_,?_,?_,?_,?_,?_,?_,?_,?_,trivial⟩<;>first|with_reducible assumption|omega|exact be _ _|exact cJ _ _|exact Nat.mod_lt _ (by omega)|exact fG (by omega) (by omega)) rfl rfl
  rw[hs,ho,show Go.NT.candN k a=Go.NT.evenN (ab k) (Go.NT.candN k a) by unfold Go.NT.evenN;rw[if_neg hb]] at h
  exact h
def oS (k a:Nat):Nat:=Go.NT.evenN (ab k) (Go.NT.candN k a)
def oE (k a:Nat):Bool:=Go.NT.isSq k a
theorem pN {k a:Nat} (hk:k<2):oS k a<ab k:=Go.NT.evenN_lt (by rw[fV];exact Go.NT.candN_lt hk)
def I6:List Val→Option (List Prop×AV)
 |[.z z,.n a]=>some ([0≤z∧z<2,a<ab z.toNat],.tup [N8 (oS z.toNat a),.one (.v (.bool (oE z.toNat a)))])
 |_=>none
theorem afc:aU ⟨203,dU [.z,.s [.n8]] I6⟩:=jE (by
 intro xs ob r hb h ho
 unfold I6 at h
 split at h
 ·rename_i z a
  obtain ⟨rfl,rfl⟩:=sI h
  obtain ⟨hz,ha,_⟩:=ho
  obtain ⟨n,rfl⟩:∃n:Nat,z=(n:Int):=⟨z.toNat,by omega⟩
  exact Qo n a (by omega) ha
 ·simp at h)
noncomputable def S85:FuncId→Nat→Bool:=fun f t=>match f with|77=>bf t [13]|_=>false
theorem adu (z:Int) (a:Nat):al (cd L3 S85) 1000 77 [zV z,N8 a] [true]=
  some ([iz z=true,a<4294967296^8,(bif iz z then ab z.toNat else 0)<4294967296^8],AV.val (V1.one (Atom.v (Value.bool (decide (gq a (bif iz z then ab z.toNat else 0)<0)))))):=by kernel_rfl
theorem ZX (z:Int) (a:Nat):al (cd L3 S85) 1000 77 [zV z,N8 a] [false]=
  some ([iz z=false],AV.val (V1.one (Atom.v (Value.bool false)))):=by kernel_rfl
def J9:List Val→Option (List Prop×AV)
 |[.z z,.n a]=>some ([],bV (fT z a))
 |_=>none
theorem VQ:aU ⟨77,dU [.z,.s [.n8]] J9⟩:=jE (by
 intro xs ob r hb h ho
 unfold J9 at h
 split at h
 ·rename_i z a
  obtain ⟨rfl,rfl⟩:=sI h
  obtain ⟨_,⟨ha,_⟩,_⟩:=hb
  have hR:=aj z.toNat
  cases hz:iz z with
  |true=>
   have hr:=af (aF C4 S85) rfl (adu z a) (by rw[hz];exact ⟨rfl,ha,hR,trivial⟩) rfl rfl
   rw[hz,cond_true,yP] at hr
   rw[show fT z a=decide (a<ab z.toNat) by unfold fT mX;rw[hz,Bool.true_and]]
   exact hr
  |false=>
   rw[show fT z a=false by unfold fT;rw[hz,Bool.false_and]]
   exact af (aF C4 S85) rfl (ZX z a) ⟨hz,trivial⟩ rfl rfl
 ·simp at h)
noncomputable def L4:List CT:=⟨77,dU [.z,.s [.n8]] J9⟩::⟨203,dU [.z,.s [.n8]] I6⟩::L3
theorem IV:bw L4:=⟨VQ,afc,C4⟩
theorem WK (φ:c7):(V1.agg [Piece.a (Atom.u IntKind.u32 0),Piece.a (Atom.u IntKind.u32 0),Piece.a (Atom.u IntKind.u32 0),Piece.a (Atom.u IntKind.u32 0),Piece.a (Atom.u IntKind.u32 0),Piece.a (Atom.u IntKind.u32 0),Piece.a (Atom.u IntKind.u32 0),Piece.a (Atom.u IntKind.u32 0)]).conc φ=(N8 0).conc φ:=rfl
theorem L8 {k x:Nat} (h:x<ab k):x<4294967296^8:=Nat.lt_trans h (aj k)
theorem a9 (k:Nat):1<ab k:=Nat.lt_of_succ_lt (en k)
theorem ao {m a b:Nat} (hm:0<m):addM m a b<m:=Nat.mod_lt _ hm
theorem av {m a b:Nat} (hm:0<m):aw m a b<m:=Nat.mod_lt _ hm
theorem bi {m a b:Nat} (hm:0<m):bK m a b<m:=Nat.mod_lt _ hm
theorem cg {m a:Nat} (hm:0<m):cI m a<m:=Nat.mod_lt _ hm
theorem dJ {V m:Nat} (hm:0<m):dY V m<m:=Nat.mod_lt _ hm
noncomputable def Aa:FuncId→Nat→Bool:=fun f t=>match f with|210=>bf t [58,90,98]|_=>false
theorem TU (a:Nat):al (cd L1 Aa) 1000 210 [zV 1,N8 a] [true,true]=
  some ([(0:Int)≤1∧(1:Int)<4,(0:Int)≤1∧(1:Int)<4,1<4294967296,ab 1<4294967296^8,1<4294967296^8,aD (ab 1) 1<4294967296^8,aD (ab 1) 1/2<4294967296^8,bg (ab 1) (aA (ak (ab 1) 0)) (aO (ab 1)),a<ab 1,a<4294967296^8,bg (ab 1) (aA (ak (ab 1) 0)) (aO (ab 1)),1<ab 1,aq (ab 1) a<ab 1,aq (ab 1) a<4294967296^8,aD (ab 1) 1/2/2<4294967296^8,bg (ab 1) (aA (ak (ab 1) 0)) (aO (ab 1)),am (ab 1) (aq (ab 1) a) (aD (ab 1) 1/2/2)<ab 1,am (ab 1) (aq (ab 1) a) (aD (ab 1) 1/2/2)<ab 1,am (ab 1) (aq (ab 1) a) (aD (ab 1) 1/2/2)<4294967296^8,am (ab 1) (aq (ab 1) a) (aD (ab 1) 1/2/2)<4294967296^8,bg (ab 1) (aA (ak (ab 1) 0)) (aO (ab 1)),ap (ab 1) (am (ab 1) (aq (ab 1) a) (aD (ab 1) 1/2/2)) (am (ab 1) (aq (ab 1) a) (aD (ab 1) 1/2/2))<ab 1,ap (ab 1) (am (ab 1) (aq (ab 1) a) (aD (ab 1) 1/2/2)) (am (ab 1) (aq (ab 1) a) (aD (ab 1) 1/2/2))<4294967296^8,(!(decide (ci (ab 1) (ap (ab 1) (am (ab 1) (aq (ab 1) a) (aD (ab 1) 1/2/2)) (am (ab 1) (aq (ab 1) a) (aD (ab 1) 1/2/2)))%4294967296^8=a%4294967296^8)&&true))=true,bg (ab 1) (aA (ak (ab 1) 0)) (aO (ab 1)),am (ab 1) (aq (ab 1) a) (aD (ab 1) 1/2/2)<ab 1,am (ab 1) (aq (ab 1) a) (aD (ab 1) 1/2/2)<ab 1,am (ab 1) (aq (ab 1) a) (aD (ab 1) 1/2/2)<4294967296^8,am (ab 1) (aq (ab 1) a) (aD (ab 1) 1/2/2)<4294967296^8,bg (ab 1) (aA (ak (ab 1) 0)) (aO (ab 1)),ap (ab 1) (am (ab 1) (aq (ab 1) a) (aD (ab 1) 1/2/2)) (am (ab 1) (aq (ab 1) a) (aD (ab 1) 1/2/2))<ab 1,ap (ab 1) (am (ab 1) (aq (ab 1) a) (aD (ab 1) 1/2/2)) (am (ab 1) (aq (ab 1) a) (aD (ab 1) 1/2/2))<4294967296^8,(!(decide (ci (ab 1) (ap (ab 1) (am (ab 1) (aq (ab 1) a) (aD (ab 1) 1/2/2)) (am (ab 1) (aq (ab 1) a) (aD (ab 1) 1/2/2)))%4294967296^8=a%4294967296^8)&&true))=true],AV.tup [V1.agg [Piece.a (Atom.u IntKind.u32 0),Piece.a (Atom.u IntKind.u32 0),Piece.a (Atom.u IntKind.u32 0),Piece.a (Atom.u IntKind.u32 0),Piece.a (Atom.u IntKind.u32 0),Piece.a (Atom.u IntKind.u32 0),Piece.a (Atom.u IntKind.u32 0),Piece.a (Atom.u IntKind.u32 0)],V1.one (Atom.v (Value.bool false))]):=by kernel_rfl
theorem Wb (a:Nat):al (cd L1 Aa) 1000 210 [zV 1,N8 a] [false,false,true]=
  some ([(0:Int)≤1∧(1:Int)<4,(0:Int)≤1∧(1:Int)<4,1<4294967296,ab 1<4294967296^8,1<4294967296^8,aD (ab 1) 1<4294967296^8,aD (ab 1) 1/2<4294967296^8,bg (ab 1) (aA (ak (ab 1) 0)) (aO (ab 1)),a<ab 1,a<4294967296^8,bg (ab 1) (aA (ak (ab 1) 0)) (aO (ab 1)),1<ab 1,aq (ab 1) a<ab 1,aq (ab 1) a<4294967296^8,aD (ab 1) 1/2/2<4294967296^8,bg (ab 1) (aA (ak (ab 1) 0)) (aO (ab 1)),am (ab 1) (aq (ab 1) a) (aD (ab 1) 1/2/2)<ab 1,am (ab 1) (aq (ab 1) a) (aD (ab 1) 1/2/2)<ab 1,am (ab 1) (aq (ab 1) a) (aD (ab 1) 1/2/2)<4294967296^8,am (ab 1) (aq (ab 1) a) (aD (ab 1) 1/2/2)<4294967296^8,bg (ab 1) (aA (ak (ab 1) 0)) (aO (ab 1)),ap (ab 1) (am (ab 1) (aq (ab 1) a) (aD (ab 1) 1/2/2)) (am (ab 1) (aq (ab 1) a) (aD (ab 1) 1/2/2))<ab 1,ap (ab 1) (am (ab 1) (aq (ab 1) a) (aD (ab 1) 1/2/2)) (am (ab 1) (aq (ab 1) a) (aD (ab 1) 1/2/2))<4294967296^8,(!(decide (ci (ab 1) (ap (ab 1) (am (ab 1) (aq (ab 1) a) (aD (ab 1) 1/2/2)) (am (ab 1) (aq (ab 1) a) (aD (ab 1) 1/2/2)))%4294967296^8=a%4294967296^8)&&true))=false,bg (ab 1) (aA (ak (ab 1) 0)) (aO (ab 1)),am (ab 1) (aq (ab 1) a) (aD (ab 1) 1/2/2)<ab 1,am (ab 1) (aq (ab 1) a) (aD (ab 1) 1/2/2)<ab 1,am (ab 1) (aq (ab 1) a) (aD (ab 1) 1/2/2)<4294967296^8,am (ab 1) (aq (ab 1) a) (aD (ab 1) 1/2/2)<4294967296^8,bg (ab 1) (aA (ak (ab 1) 0)) (aO (ab 1)),ap (ab 1) (am (ab 1) (aq (ab 1) a) (aD (ab 1) 1/2/2)) (am (ab 1) (aq (ab 1) a) (aD (ab 1) 1/2/2))<ab 1,ap (ab 1) (am (ab 1) (aq (ab 1) a) (aD (ab 1) 1/2/2)) (am (ab 1) (aq (ab 1) a) (aD (ab 1) 1/2/2))<4294967296^8,(!(decide (ci (ab 1) (ap (ab 1) (am (ab 1) (aq (ab 1) a) (aD (ab 1) 1/2/2)) (am (ab 1) (aq (ab 1) a) (aD (ab 1) 1/2/2)))%4294967296^8=a%4294967296^8)&&true))=false,bg (ab 1) (aA (ak (ab 1) 0)) (aO (ab 1)),am (ab 1) (aq (ab 1) a) (aD (ab 1) 1/2/2)<ab 1,am (ab 1) (aq (ab 1) a) (aD (ab 1) 1/2/2)<4294967296^8,decide (ci (ab 1) (am (ab 1) (aq (ab 1) a) (aD (ab 1) 1/2/2))%4294967296%4294967296&&&1%4294967296=1)=true,ab 1<4294967296^8,ci (ab 1) (am (ab 1) (aq (ab 1) a) (aD (ab 1) 1/2/2))<4294967296^8],AV.tup [V1.agg [Piece.num 8 (bh (ab 1) (ci (ab 1) (am (ab 1) (aq (ab 1) a) (aD (ab 1) 1/2/2))))],V1.one (Atom.v (Value.bool true))]):=by kernel_rfl
theorem SA (a:Nat):al (cd L1 Aa) 1000 210 [zV 1,N8 a] [false,false,false]=
  some ([(0:Int)≤1∧(1:Int)<4,(0:Int)≤1∧(1:Int)<4,1<4294967296,ab 1<4294967296^8,1<4294967296^8,aD (ab 1) 1<4294967296^8,aD (ab 1) 1/2<4294967296^8,bg (ab 1) (aA (ak (ab 1) 0)) (aO (ab 1)),a<ab 1,a<4294967296^8,bg (ab 1) (aA (ak (ab 1) 0)) (aO (ab 1)),1<ab 1,aq (ab 1) a<ab 1,aq (ab 1) a<4294967296^8,aD (ab 1) 1/2/2<4294967296^8,bg (ab 1) (aA (ak (ab 1) 0)) (aO (ab 1)),am (ab 1) (aq (ab 1) a) (aD (ab 1) 1/2/2)<ab 1,am (ab 1) (aq (ab 1) a) (aD (ab 1) 1/2/2)<ab 1,am (ab 1) (aq (ab 1) a) (aD (ab 1) 1/2/2)<4294967296^8,am (ab 1) (aq (ab 1) a) (aD (ab 1) 1/2/2)<4294967296^8,bg (ab 1) (aA (ak (ab 1) 0)) (aO (ab 1)),ap (ab 1) (am (ab 1) (aq (ab 1) a) (aD (ab 1) 1/2/2)) (am (ab 1) (aq (ab 1) a) (aD (ab 1) 1/2/2))<ab 1,ap (ab 1) (am (ab 1) (aq (ab 1) a) (aD (ab 1) 1/2/2)) (am (ab 1) (aq (ab 1) a) (aD (ab 1) 1/2/2))<4294967296^8,(!(decide (ci (ab 1) (ap (ab 1) (am (ab 1) (aq (ab 1) a) (aD (ab 1) 1/2/2)) (am (ab 1) (aq (ab 1) a) (aD (ab 1) 1/2/2)))%4294967296^8=a%4294967296^8)&&true))=false,bg (ab 1) (aA (ak (ab 1) 0)) (aO (ab 1)),am (ab 1) (aq (ab 1) a) (aD (ab 1) 1/2/2)<ab 1,am (ab 1) (aq (ab 1) a) (aD (ab 1) 1/2/2)<ab 1,am (ab 1) (aq (ab 1) a) (aD (ab 1) 1/2/2)<4294967296^8,am (ab 1) (aq (ab 1) a) (aD (ab 1) 1/2/2)<4294967296^8,bg (ab 1) (aA (ak (ab 1) 0)) (aO (ab 1)),ap (ab 1) (am (ab 1) (aq (ab 1) a) (aD (ab 1) 1/2/2)) (am (ab 1) (aq (ab 1) a) (aD (ab 1) 1/2/2))<ab 1,ap (ab 1) (am (ab 1) (aq (ab 1) a) (aD (ab 1) 1/2/2)) (am (ab 1) (aq (ab 1) a) (aD (ab 1) 1/2/2))<4294967296^8,(!(decide (ci (ab 1) (ap (ab 1) (am (ab 1) (aq (ab 1) a) (aD (ab 1) 1/2/2)) (am (ab 1) (aq (ab 1) a) (aD (ab 1) 1/2/2)))%4294967296^8=a%4294967296^8)&&true))=false,bg (ab 1) (aA (ak (ab 1) 0)) (aO (ab 1)),am (ab 1) (aq (ab 1) a) (aD (ab 1) 1/2/2)<ab 1,am (ab 1) (aq (ab 1) a) (aD (ab 1) 1/2/2)<4294967296^8,decide (ci (ab 1) (am (ab 1) (aq (ab 1) a) (aD (ab 1) 1/2/2))%4294967296%4294967296&&&1%4294967296=1)=false],AV.tup [V1.agg [Piece.num 8 (ci (ab 1) (am (ab 1) (aq (ab 1) a) (aD (ab 1) 1/2/2)))],V1.one (Atom.v (Value.bool true))]):=by kernel_rfl
theorem Rj (a:Nat):al (cd L1 Aa) 1000 210 [zV 0,N8 a] [true,true]=
  some ([(0:Int)≤0∧(0:Int)<4,(0:Int)≤0∧(0:Int)<4,3<4294967296,ab 0<4294967296^8,3<4294967296^8,aD (ab 0) 3<4294967296^8,aD (ab 0) 3/2<4294967296^8,aD (ab 0) 3/2/2<4294967296^8,bg (ab 0) (aA (ak (ab 0) 0)) (aO (ab 0)),a<ab 0,a<4294967296^8,bg (ab 0) (aA (ak (ab 0) 0)) (aO (ab 0)),1<ab 0,aq (ab 0) a<ab 0,aq (ab 0) a<4294967296^8,aD (ab 0) 3/2/2/2<4294967296^8,bg (ab 0) (aA (ak (ab 0) 0)) (aO (ab 0)),am (ab 0) (aq (ab 0) a) (aD (ab 0) 3/2/2/2)<ab 0,am (ab 0) (aq (ab 0) a) (aD (ab 0) 3/2/2/2)<ab 0,am (ab 0) (aq (ab 0) a) (aD (ab 0) 3/2/2/2)<4294967296^8,am (ab 0) (aq (ab 0) a) (aD (ab 0) 3/2/2/2)<4294967296^8,bg (ab 0) (aA (ak (ab 0) 0)) (aO (ab 0)),ap (ab 0) (am (ab 0) (aq (ab 0) a) (aD (ab 0) 3/2/2/2)) (am (ab 0) (aq (ab 0) a) (aD (ab 0) 3/2/2/2))<ab 0,ap (ab 0) (am (ab 0) (aq (ab 0) a) (aD (ab 0) 3/2/2/2)) (am (ab 0) (aq (ab 0) a) (aD (ab 0) 3/2/2/2))<4294967296^8,(!(decide (ci (ab 0) (ap (ab 0) (am (ab 0) (aq (ab 0) a) (aD (ab 0) 3/2/2/2)) (am (ab 0) (aq (ab 0) a) (aD (ab 0) 3/2/2/2)))%4294967296^8=a%4294967296^8)&&true))=true,ab 0<4294967296^8,ab 0/2<4294967296^8,2<4294967296,bg (ab 0) (aA (ak (ab 0) 0)) (aO (ab 0)),2<ab 0,2<4294967296^8,bg (ab 0) (aA (ak (ab 0) 0)) (aO (ab 0)),1<ab 0,aq (ab 0) 2<ab 0,aq (ab 0) 2<4294967296^8,ab 0/2/2<4294967296^8,bg (ab 0) (aA (ak (ab 0) 0)) (aO (ab 0)),am (ab 0) (aq (ab 0) a) (aD (ab 0) 3/2/2/2)<ab 0,am (ab 0) (aq (ab 0) 2) (ab 0/2/2)<ab 0,am (ab 0) (aq (ab 0) a) (aD (ab 0) 3/2/2/2)<4294967296^8,am (ab 0) (aq (ab 0) 2) (ab 0/2/2)<4294967296^8,bg (ab 0) (aA (ak (ab 0) 0)) (aO (ab 0)),ap (ab 0) (am (ab 0) (aq (ab 0) a) (aD (ab 0) 3/2/2/2)) (am (ab 0) (aq (ab 0) 2) (ab 0/2/2))<ab 0,ap (ab 0) (am (ab 0) (aq (ab 0) a) (aD (ab 0) 3/2/2/2)) (am (ab 0) (aq (ab 0) 2) (ab 0/2/2))<ab 0,ap (ab 0) (am (ab 0) (aq (ab 0) a) (aD (ab 0) 3/2/2/2)) (am (ab 0) (aq (ab 0) 2) (ab 0/2/2))<4294967296^8,ap (ab 0) (am (ab 0) (aq (ab 0) a) (aD (ab 0) 3/2/2/2)) (am (ab 0) (aq (ab 0) 2) (ab 0/2/2))<4294967296^8,bg (ab 0) (aA (ak (ab 0) 0)) (aO (ab 0)),ap (ab 0) (ap (ab 0) (am (ab 0) (aq (ab 0) a) (aD (ab 0) 3/2/2/2)) (am (ab 0) (aq (ab 0) 2) (ab 0/2/2))) (ap (ab 0) (am (ab 0) (aq (ab 0) a) (aD (ab 0) 3/2/2/2)) (am (ab 0) (aq (ab 0) 2) (ab 0/2/2)))<ab 0,ap (ab 0) (ap (ab 0) (am (ab 0) (aq (ab 0) a) (aD (ab 0) 3/2/2/2)) (am (ab 0) (aq (ab 0) 2) (ab 0/2/2))) (ap (ab 0) (am (ab 0) (aq (ab 0) a) (aD (ab 0) 3/2/2/2)) (am (ab 0) (aq (ab 0) 2) (ab 0/2/2)))<4294967296^8,(!(decide (ci (ab 0) (ap (ab 0) (ap (ab 0) (am (ab 0) (aq (ab 0) a) (aD (ab 0) 3/2/2/2)) (am (ab 0) (aq (ab 0) 2) (ab 0/2/2))) (ap (ab 0) (am (ab 0) (aq (ab 0) a) (aD (ab 0) 3/2/2/2)) (am (ab 0) (aq (ab 0) 2) (ab 0/2/2))))%4294967296^8=a%4294967296^8)&&true))=true],AV.tup [V1.agg [Piece.a (Atom.u IntKind.u32 0),Piece.a (Atom.u IntKind.u32 0),Piece.a (Atom.u IntKind.u32 0),Piece.a (Atom.u IntKind.u32 0),Piece.a (Atom.u IntKind.u32 0),Piece.a (Atom.u IntKind.u32 0),Piece.a (Atom.u IntKind.u32 0),Piece.a (Atom.u IntKind.u32 0)],V1.one (Atom.v (Value.bool false))]):=by kernel_rfl
theorem V8 (a:Nat):al (cd L1 Aa) 1000 210 [zV 0,N8 a] [true,false,true]=
  some ([(0:Int)≤0∧(0:Int)<4,(0:Int)≤0∧(0:Int)<4,3<4294967296,ab 0<4294967296^8,3<4294967296^8,aD (ab 0) 3<4294967296^8,aD (ab 0) 3/2<4294967296^8,aD (ab 0) 3/2/2<4294967296^8,bg (ab 0) (aA (ak (ab 0) 0)) (aO (ab 0)),a<ab 0,a<4294967296^8,bg (ab 0) (aA (ak (ab 0) 0)) (aO (ab 0)),1<ab 0,aq (ab 0) a<ab 0,aq (ab 0) a<4294967296^8,aD (ab 0) 3/2/2/2<4294967296^8,bg (ab 0) (aA (ak (ab 0) 0)) (aO (ab 0)),am (ab 0) (aq (ab 0) a) (aD (ab 0) 3/2/2/2)<ab 0,am (ab 0) (aq (ab 0) a) (aD (ab 0) 3/2/2/2)<ab 0,am (ab 0) (aq (ab 0) a) (aD (ab 0) 3/2/2/2)<4294967296^8,am (ab 0) (aq (ab 0) a) (aD (ab 0) 3/2/2/2)<4294967296^8,bg (ab 0) (aA (ak (ab 0) 0)) (aO (ab 0)),ap (ab 0) (am (ab 0) (aq (ab 0) a) (aD (ab 0) 3/2/2/2)) (am (ab 0) (aq (ab 0) a) (aD (ab 0) 3/2/2/2))<ab 0,ap (ab 0) (am (ab 0) (aq (ab 0) a) (aD (ab 0) 3/2/2/2)) (am (ab 0) (aq (ab 0) a) (aD (ab 0) 3/2/2/2))<4294967296^8,(!(decide (ci (ab 0) (ap (ab 0) (am (ab 0) (aq (ab 0) a) (aD (ab 0) 3/2/2/2)) (am (ab 0) (aq (ab 0) a) (aD (ab 0) 3/2/2/2)))%4294967296^8=a%4294967296^8)&&true))=true,ab 0<4294967296^8,ab 0/2<4294967296^8,2<4294967296,bg (ab 0) (aA (ak (ab 0) 0)) (aO (ab 0)),2<ab 0,2<4294967296^8,bg (ab 0) (aA (ak (ab 0) 0)) (aO (ab 0)),1<ab 0,aq (ab 0) 2<ab 0,aq (ab 0) 2<4294967296^8,ab 0/2/2<4294967296^8,bg (ab 0) (aA (ak (ab 0) 0)) (aO (ab 0)),am (ab 0) (aq (ab 0) a) (aD (ab 0) 3/2/2/2)<ab 0,am (ab 0) (aq (ab 0) 2) (ab 0/2/2)<ab 0,am (ab 0) (aq (ab 0) a) (aD (ab 0) 3/2/2/2)<4294967296^8,am (ab 0) (aq (ab 0) 2) (ab 0/2/2)<4294967296^8,bg (ab 0) (aA (ak (ab 0) 0)) (aO (ab 0)),ap (ab 0) (am (ab 0) (aq (ab 0) a) (aD (ab 0) 3/2/2/2)) (am (ab 0) (aq (ab 0) 2) (ab 0/2/2))<ab 0,ap (ab 0) (am (ab 0) (aq (ab 0) a) (aD (ab 0) 3/2/2/2)) (am (ab 0) (aq (ab 0) 2) (ab 0/2/2))<ab 0,ap (ab 0) (am (ab 0) (aq (ab 0) a) (aD (ab 0) 3/2/2/2)) (am (ab 0) (aq (ab 0) 2) (ab 0/2/2))<4294967296^8,ap (ab 0) (am (ab 0) (aq (ab 0) a) (aD (ab 0) 3/2/2/2)) (am (ab 0) (aq (ab 0) 2) (ab 0/2/2))<4294967296^8,bg (ab 0) (aA (ak (ab 0) 0)) (aO (ab 0)),ap (ab 0) (ap (ab 0) (am (ab 0) (aq (ab 0) a) (aD (ab 0) 3/2/2/2)) (am (ab 0) (aq (ab 0) 2) (ab 0/2/2))) (ap (ab 0) (am (ab 0) (aq (ab 0) a) (aD (ab 0) 3/2/2/2)) (am (ab 0) (aq (ab 0) 2) (ab 0/2/2)))<ab 0,ap (ab 0) (ap (ab 0) (am (ab 0) (aq (ab 0) a) (aD (ab 0) 3/2/2/2)) (am (ab 0) (aq (ab 0) 2) (ab 0/2/2))) (ap (ab 0) (am (ab 0) (aq (ab 0) a) (aD (ab 0) 3/2/2/2)) (am (ab 0) (aq (ab 0) 2) (ab 0/2/2)))<4294967296^8,(!(decide (ci (ab 0) (ap (ab 0) (ap (ab 0) (am (ab 0) (aq (ab 0) a) (aD (ab 0) 3/2/2/2)) (am (ab 0) (aq (ab 0) 2) (ab 0/2/2))) (ap (ab 0) (am (ab 0) (aq (ab 0) a) (aD (ab 0) 3/2/2/2)) (am (ab 0) (aq (ab 0) 2) (ab 0/2/2))))%4294967296^8=a%4294967296^8)&&true))=false,bg (ab 0) (aA (ak (ab 0) 0)) (aO (ab 0)),ap (ab 0) (am (ab 0) (aq (ab 0) a) (aD (ab 0) 3/2/2/2)) (am (ab 0) (aq (ab 0) 2) (ab 0/2/2))<ab 0,ap (ab 0) (am (ab 0) (aq (ab 0) a) (aD (ab 0) 3/2/2/2)) (am (ab 0) (aq (ab 0) 2) (ab 0/2/2))<4294967296^8,decide (ci (ab 0) (ap (ab 0) (am (ab 0) (aq (ab 0) a) (aD (ab 0) 3/2/2/2)) (am (ab 0) (aq (ab 0) 2) (ab 0/2/2)))%4294967296%4294967296&&&1%4294967296=1)=true,ab 0<4294967296^8,ci (ab 0) (ap (ab 0) (am (ab 0) (aq (ab 0) a) (aD (ab 0) 3/2/2/2)) (am (ab 0) (aq (ab 0) 2) (ab 0/2/2)))<4294967296^8],AV.tup [V1.agg [Piece.num 8 (bh (ab 0) (ci (ab 0) (ap (ab 0) (am (ab 0) (aq (ab 0) a) (aD (ab 0) 3/2/2/2)) (am (ab 0) (aq (ab 0) 2) (ab 0/2/2)))))],V1.one (Atom.v (Value.bool true))]):=by kernel_rfl
theorem SP (a:Nat):al (cd L1 Aa) 1000 210 [zV 0,N8 a] [true,false,false]=
  some ([(0:Int)≤0∧(0:Int)<4,(0:Int)≤0∧(0:Int)<4,3<4294967296,ab 0<4294967296^8,3<4294967296^8,aD (ab 0) 3<4294967296^8,aD (ab 0) 3/2<4294967296^8,aD (ab 0) 3/2/2<4294967296^8,bg (ab 0) (aA (ak (ab 0) 0)) (aO (ab 0)),a<ab 0,a<4294967296^8,bg (ab 0) (aA (ak (ab 0) 0)) (aO (ab 0)),1<ab 0,aq (ab 0) a<ab 0,aq (ab 0) a<4294967296^8,aD (ab 0) 3/2/2/2<4294967296^8,bg (ab 0) (aA (ak (ab 0) 0)) (aO (ab 0)),am (ab 0) (aq (ab 0) a) (aD (ab 0) 3/2/2/2)<ab 0,am (ab 0) (aq (ab 0) a) (aD (ab 0) 3/2/2/2)<ab 0,am (ab 0) (aq (ab 0) a) (aD (ab 0) 3/2/2/2)<4294967296^8,am (ab 0) (aq (ab 0) a) (aD (ab 0) 3/2/2/2)<4294967296^8,bg (ab 0) (aA (ak (ab 0) 0)) (aO (ab 0)),ap (ab 0) (am (ab 0) (aq (ab 0) a) (aD (ab 0) 3/2/2/2)) (am (ab 0) (aq (ab 0) a) (aD (ab 0) 3/2/2/2))<ab 0,ap (ab 0) (am (ab 0) (aq (ab 0) a) (aD (ab 0) 3/2/2/2)) (am (ab 0) (aq (ab 0) a) (aD (ab 0) 3/2/2/2))<4294967296^8,(!(decide (ci (ab 0) (ap (ab 0) (am (ab 0) (aq (ab 0) a) (aD (ab 0) 3/2/2/2)) (am (ab 0) (aq (ab 0) a) (aD (ab 0) 3/2/2/2)))%4294967296^8=a%4294967296^8)&&true))=true,ab 0<4294967296^8,ab 0/2<4294967296^8,2<4294967296,bg (ab 0) (aA (ak (ab 0) 0)) (aO (ab 0)),2<ab 0,2<4294967296^8,bg (ab 0) (aA (ak (ab 0) 0)) (aO (ab 0)),1<ab 0,aq (ab 0) 2<ab 0,aq (ab 0) 2<4294967296^8,ab 0/2/2<4294967296^8,bg (ab 0) (aA (ak (ab 0) 0)) (aO (ab 0)),am (ab 0) (aq (ab 0) a) (aD (ab 0) 3/2/2/2)<ab 0,am (ab 0) (aq (ab 0) 2) (ab 0/2/2)<ab 0,am (ab 0) (aq (ab 0) a) (aD (ab 0) 3/2/2/2)<4294967296^8,am (ab 0) (aq (ab 0) 2) (ab 0/2/2)<4294967296^8,bg (ab 0) (aA (ak (ab 0) 0)) (aO (ab 0)),ap (ab 0) (am (ab 0) (aq (ab 0) a) (aD (ab 0) 3/2/2/2)) (am (ab 0) (aq (ab 0) 2) (ab 0/2/2))<ab 0,ap (ab 0) (am (ab 0) (aq (ab 0) a) (aD (ab 0) 3/2/2/2)) (am (ab 0) (aq (ab 0) 2) (ab 0/2/2))<ab 0,ap (ab 0) (am (ab 0) (aq (ab 0) a) (aD (ab 0) 3/2/2/2)) (am (ab 0) (aq (ab 0) 2) (ab 0/2/2))<4294967296^8,ap (ab 0) (am (ab 0) (aq (ab 0) a) (aD (ab 0) 3/2/2/2)) (am (ab 0) (aq (ab 0) 2) (ab 0/2/2))<4294967296^8,bg (ab 0) (aA (ak (ab 0) 0)) (aO (ab 0)),ap (ab 0) (ap (ab 0) (am (ab 0) (aq (ab 0) a) (aD (ab 0) 3/2/2/2)) (am (ab 0) (aq (ab 0) 2) (ab 0/2/2))) (ap (ab 0) (am (ab 0) (aq (ab 0) a) (aD (ab 0) 3/2/2/2)) (am (ab 0) (aq (ab 0) 2) (ab 0/2/2)))<ab 0,ap (ab 0) (ap (ab 0) (am (ab 0) (aq (ab 0) a) (aD (ab 0) 3/2/2/2)) (am (ab 0) (aq (ab 0) 2) (ab 0/2/2))) (ap (ab 0) (am (ab 0) (aq (ab 0) a) (aD (ab 0) 3/2/2/2)) (am (ab 0) (aq (ab 0) 2) (ab 0/2/2)))<4294967296^8,(!(decide (ci (ab 0) (ap (ab 0) (ap (ab 0) (am (ab 0) (aq (ab 0) a) (aD (ab 0) 3/2/2/2)) (am (ab 0) (aq (ab 0) 2) (ab 0/2/2))) (ap (ab 0) (am (ab 0) (aq (ab 0) a) (aD (ab 0) 3/2/2/2)) (am (ab 0) (aq (ab 0) 2) (ab 0/2/2))))%4294967296^8=a%4294967296^8)&&true))=false,bg (ab 0) (aA (ak (ab 0) 0)) (aO (ab 0)),ap (ab 0) (am (ab 0) (aq (ab 0) a) (aD (ab 0) 3/2/2/2)) (am (ab 0) (aq (ab 0) 2) (ab 0/2/2))<ab 0,ap (ab 0) (am (ab 0) (aq (ab 0) a) (aD (ab 0) 3/2/2/2)) (am (ab 0) (aq (ab 0) 2) (ab 0/2/2))<4294967296^8,decide (ci (ab 0) (ap (ab 0) (am (ab 0) (aq (ab 0) a) (aD (ab 0) 3/2/2/2)) (am (ab 0) (aq (ab 0) 2) (ab 0/2/2)))%4294967296%4294967296&&&1%4294967296=1)=false],AV.tup [V1.agg [Piece.num 8 (ci (ab 0) (ap (ab 0) (am (ab 0) (aq (ab 0) a) (aD (ab 0) 3/2/2/2)) (am (ab 0) (aq (ab 0) 2) (ab 0/2/2))))],V1.one (Atom.v (Value.bool true))]):=by kernel_rfl
theorem UJ (a:Nat):al (cd L1 Aa) 1000 210 [zV 0,N8 a] [false,false,true]=
  some ([(0:Int)≤0∧(0:Int)<4,(0:Int)≤0∧(0:Int)<4,3<4294967296,ab 0<4294967296^8,3<4294967296^8,aD (ab 0) 3<4294967296^8,aD (ab 0) 3/2<4294967296^8,aD (ab 0) 3/2/2<4294967296^8,bg (ab 0) (aA (ak (ab 0) 0)) (aO (ab 0)),a<ab 0,a<4294967296^8,bg (ab 0) (aA (ak (ab 0) 0)) (aO (ab 0)),1<ab 0,aq (ab 0) a<ab 0,aq (ab 0) a<4294967296^8,aD (ab 0) 3/2/2/2<4294967296^8,bg (ab 0) (aA (ak (ab 0) 0)) (aO (ab 0)),am (ab 0) (aq (ab 0) a) (aD (ab 0) 3/2/2/2)<ab 0,am (ab 0) (aq (ab 0) a) (aD (ab 0) 3/2/2/2)<ab 0,am (ab 0) (aq (ab 0) a) (aD (ab 0) 3/2/2/2)<4294967296^8,am (ab 0) (aq (ab 0) a) (aD (ab 0) 3/2/2/2)<4294967296^8,bg (ab 0) (aA (ak (ab 0) 0)) (aO (ab 0)),ap (ab 0) (am (ab 0) (aq (ab 0) a) (aD (ab 0) 3/2/2/2)) (am (ab 0) (aq (ab 0) a) (aD (ab 0) 3/2/2/2))<ab 0,ap (ab 0) (am (ab 0) (aq (ab 0) a) (aD (ab 0) 3/2/2/2)) (am (ab 0) (aq (ab 0) a) (aD (ab 0) 3/2/2/2))<4294967296^8,(!(decide (ci (ab 0) (ap (ab 0) (am (ab 0) (aq (ab 0) a) (aD (ab 0) 3/2/2/2)) (am (ab 0) (aq (ab 0) a) (aD (ab 0) 3/2/2/2)))%4294967296^8=a%4294967296^8)&&true))=false,bg (ab 0) (aA (ak (ab 0) 0)) (aO (ab 0)),am (ab 0) (aq (ab 0) a) (aD (ab 0) 3/2/2/2)<ab 0,am (ab 0) (aq (ab 0) a) (aD (ab 0) 3/2/2/2)<ab 0,am (ab 0) (aq (ab 0) a) (aD (ab 0) 3/2/2/2)<4294967296^8,am (ab 0) (aq (ab 0) a) (aD (ab 0) 3/2/2/2)<4294967296^8,bg (ab 0) (aA (ak (ab 0) 0)) (aO (ab 0)),ap (ab 0) (am (ab 0) (aq (ab 0) a) (aD (ab 0) 3/2/2/2)) (am (ab 0) (aq (ab 0) a) (aD (ab 0) 3/2/2/2))<ab 0,ap (ab 0) (am (ab 0) (aq (ab 0) a) (aD (ab 0) 3/2/2/2)) (am (ab 0) (aq (ab 0) a) (aD (ab 0) 3/2/2/2))<4294967296^8,(!(decide (ci (ab 0) (ap (ab 0) (am (ab 0) (aq (ab 0) a) (aD (ab 0) 3/2/2/2)) (am (ab 0) (aq (ab 0) a) (aD (ab 0) 3/2/2/2)))%4294967296^8=a%4294967296^8)&&true))=false,bg (ab 0) (aA (ak (ab 0) 0)) (aO (ab 0)),am (ab 0) (aq (ab 0) a) (aD (ab 0) 3/2/2/2)<ab 0,am (ab 0) (aq (ab 0) a) (aD (ab 0) 3/2/2/2)<4294967296^8,decide (ci (ab 0) (am (ab 0) (aq (ab 0) a) (aD (ab 0) 3/2/2/2))%4294967296%4294967296&&&1%4294967296=1)=true,ab 0<4294967296^8,ci (ab 0) (am (ab 0) (aq (ab 0) a) (aD (ab 0) 3/2/2/2))<4294967296^8],AV.tup [V1.agg [Piece.num 8 (bh (ab 0) (ci (ab 0) (am (ab 0) (aq (ab 0) a) (aD (ab 0) 3/2/2/2))))],V1.one (Atom.v (Value.bool true))]):=by kernel_rfl
theorem QC (a:Nat):al (cd L1 Aa) 1000 210 [zV 0,N8 a] [false,false,false]=
  some ([(0:Int)≤0∧(0:Int)<4,(0:Int)≤0∧(0:Int)<4,3<4294967296,ab 0<4294967296^8,3<4294967296^8,aD (ab 0) 3<4294967296^8,aD (ab 0) 3/2<4294967296^8,aD (ab 0) 3/2/2<4294967296^8,bg (ab 0) (aA (ak (ab 0) 0)) (aO (ab 0)),a<ab 0,a<4294967296^8,bg (ab 0) (aA (ak (ab 0) 0)) (aO (ab 0)),1<ab 0,aq (ab 0) a<ab 0,aq (ab 0) a<4294967296^8,aD (ab 0) 3/2/2/2<4294967296^8,bg (ab 0) (aA (ak (ab 0) 0)) (aO (ab 0)),am (ab 0) (aq (ab 0) a) (aD (ab 0) 3/2/2/2)<ab 0,am (ab 0) (aq (ab 0) a) (aD (ab 0) 3/2/2/2)<ab 0,am (ab 0) (aq (ab 0) a) (aD (ab 0) 3/2/2/2)<4294967296^8,am (ab 0) (aq (ab 0) a) (aD (ab 0) 3/2/2/2)<4294967296^8,bg (ab 0) (aA (ak (ab 0) 0)) (aO (ab 0)),ap (ab 0) (am (ab 0) (aq (ab 0) a) (aD (ab 0) 3/2/2/2)) (am (ab 0) (aq (ab 0) a) (aD (ab 0) 3/2/2/2))<ab 0,ap (ab 0) (am (ab 0) (aq (ab 0) a) (aD (ab 0) 3/2/2/2)) (am (ab 0) (aq (ab 0) a) (aD (ab 0) 3/2/2/2))<4294967296^8,(!(decide (ci (ab 0) (ap (ab 0) (am (ab 0) (aq (ab 0) a) (aD (ab 0) 3/2/2/2)) (am (ab 0) (aq (ab 0) a) (aD (ab 0) 3/2/2/2)))%4294967296^8=a%4294967296^8)&&true))=false,bg (ab 0) (aA (ak (ab 0) 0)) (aO (ab 0)),am (ab 0) (aq (ab 0) a) (aD (ab 0) 3/2/2/2)<ab 0,am (ab 0) (aq (ab 0) a) (aD (ab 0) 3/2/2/2)<ab 0,am (ab 0) (aq (ab 0) a) (aD (ab 0) 3/2/2/2)<4294967296^8,am (ab 0) (aq (ab 0) a) (aD (ab 0) 3/2/2/2)<4294967296^8,bg (ab 0) (aA (ak (ab 0) 0)) (aO (ab 0)),ap (ab 0) (am (ab 0) (aq (ab 0) a) (aD (ab 0) 3/2/2/2)) (am (ab 0) (aq (ab 0) a) (aD (ab 0) 3/2/2/2))<ab 0,ap (ab 0) (am (ab 0) (aq (ab 0) a) (aD (ab 0) 3/2/2/2)) (am (ab 0) (aq (ab 0) a) (aD (ab 0) 3/2/2/2))<4294967296^8,(!(decide (ci (ab 0) (ap (ab 0) (am (ab 0) (aq (ab 0) a) (aD (ab 0) 3/2/2/2)) (am (ab 0) (aq (ab 0) a) (aD (ab 0) 3/2/2/2)))%4294967296^8=a%4294967296^8)&&true))=false,bg (ab 0) (aA (ak (ab 0) 0)) (aO (ab 0)),am (ab 0) (aq (ab 0) a) (aD (ab 0) 3/2/2/2)<ab 0,am (ab 0) (aq (ab 0) a) (aD (ab 0) 3/2/2/2)<4294967296^8,decide (ci (ab 0) (am (ab 0) (aq (ab 0) a) (aD (ab 0) 3/2/2/2))%4294967296%4294967296&&&1%4294967296=1)=false],AV.tup [V1.agg [Piece.num 8 (ci (ab 0) (am (ab 0) (aq (ab 0) a) (aD (ab 0) 3/2/2/2)))],V1.one (Atom.v (Value.bool true))]):=by kernel_rfl
theorem Qd:ab 0/2/2=Go.NT.modP 0/4:=by decide+kernel
theorem Re:aD (ab 1) 1/2/2=(Go.NT.modP 1+1)/4:=Ph
theorem QW:aD (ab 0) 3/2/2/2=(Go.NT.modP 0+3)/8:=Ah
theorem wd {m c:Nat} (hm:m<4294967296^8) (hc:c<m) (hb:c%2=1):bh m c=Go.NT.evenN m c:=by
 unfold bh Go.NT.evenN
 rw[if_pos hb]
 omega
theorem sT {m c:Nat} (hb:¬c%2=1):c=Go.NT.evenN m c:=by unfold Go.NT.evenN;rw[if_neg hb]
theorem Nc {x a:Nat} (hx:x<4294967296^8) (ha:a<4294967296^8) (h:¬x=a):(!(decide (x%4294967296^8=a%4294967296^8)&&true))=true:=by
 rw[nL hx ha,decide_eq_false h];rfl
theorem N4 {x a:Nat} (h:x=a):(!(decide (x%4294967296^8=a%4294967296^8)&&true))=false:=by
 rw[h,decide_eq_true rfl];rfl
theorem Pa (a:Nat) (ha:a<ab 1):Spec 210 [zV 1,N8 a] (.tup [N8 (bif oE 1 a then oS 1 a else 0),.one (.v (.bool (oE 1 a)))]):=by
 have hR:=aj 1
 have h0:=ae 1
 have hq:=aK (k:=1) (by decide)
 have hc:Go.NT.candN 1 a<ab 1:=by rw[fV];exact Go.NT.candN_lt (by decide)
 have ha8:=L8 ha
 have hx:am (ab 1) (aq (ab 1) a) (aD (ab 1) 1/2/2)=aq (ab 1) (Go.NT.candN 1 a):=by
  rw[i6,Re,fi hR hq ha,Go.NT.candN_1];rfl
 have hm:ap (ab 1) (aq (ab 1) (Go.NT.candN 1 a)) (aq (ab 1) (Go.NT.candN 1 a))=aq (ab 1) (Go.NT.candN 1 a*Go.NT.candN 1 a%ab 1):=rh hR hq
 have hcl:Go.NT.candN 1 a*Go.NT.candN 1 a%ab 1<ab 1:=Nat.mod_lt _ h0
 have ho:=fi hR hq hcl
 have ho':=fi hR hq hc
 have hc8:=L8 hc
 have hcl8:=L8 hcl
 cases hs:oE 1 a with
 |false=>
  have hne:¬Go.NT.candN 1 a*Go.NT.candN 1 a%ab 1=a:=fun h=>by rw[oE,(ji 1 a).2 h] at hs;cases hs
  have hb:=Nc hcl8 ha8 hne
  have h:=TU a
  simp only[hx,hm,ho,ho'] at h
  exact (af (aF ng Aa) rfl h (by refine ⟨?_,?_,?_,?_,?_,?_,?_,?_,?_,?_,?_,?_,?_,?_,?_,?_,?_,?_,?_,?_,?_,?_,?_,?_,?_,?_,?_,?_,?_,?_,?_,?_,?_,trivial⟩<;>first|with_reducible assumption|exact trivial|with_reducible exact au (ae _)|with_reducible exact L8 (au (ae _))|with_reducible exact bj (ae _)|with_reducible exact L8 (bj (ae _))|with_reducible exact ai (ae _)|with_reducible exact L8 (ai (ae _))|with_reducible exact bk (ae _)|with_reducible exact L8 (bk (ae _))|with_reducible exact ao (ae _)|with_reducible exact L8 (ao (ae _))|with_reducible exact av (ae _)|with_reducible exact L8 (av (ae _))|with_reducible exact cg (ae _)|with_reducible exact L8 (cg (ae _))|with_reducible exact bi (ae _)|with_reducible exact L8 (bi (ae _))|with_reducible exact redN_lt|with_reducible exact L8 (redN_lt)|with_reducible exact dJ (ae _)|with_reducible exact L8 (dJ (ae _))|exact aC (by decide)|exact aK (by decide)|exact aj _|exact a9 _|exact en _|exact be _ _|exact cJ _ _|exact aL (be _ _)|exact aL (aL (be _ _))|exact aL (aL (aL (be _ _)))|exact aL (aj _)|exact aL (aL (aj _))|exact fG (by first|assumption|exact L8 (by assumption)|exact aj _) (by first|assumption|exact L8 (by assumption)|exact aj _)|exact L8 (by assumption)|decide|omega) rfl rfl).congr (fun _=>rfl) (fun _=>by simp only[AV.conc,List.map_cons,List.map_nil,WK,cond_false])
 |true=>
  have he:=(ji 1 a).1 hs
  have hb:=N4 he
  by_cases hd:Go.NT.candN 1 a%2=1
  ·have hdd:decide (Go.NT.candN 1 a%4294967296%4294967296&&&1%4294967296=1)=true:=by rw[kU];exact decide_eq_true hd
   have h:=Wb a
   simp only[hx,hm,ho,ho',wd hR hc hd] at h
   rw[cond_true,oS]
   exact af (aF ng Aa) rfl h (by refine ⟨?_,?_,?_,?_,?_,?_,?_,?_,?_,?_,?_,?_,?_,?_,?_,?_,?_,?_,?_,?_,?_,?_,?_,?_,?_,?_,?_,?_,?_,?_,?_,?_,?_,?_,?_,?_,?_,?_,?_,trivial⟩<;>first|with_reducible assumption|exact trivial|with_reducible exact au (ae _)|with_reducible exact L8 (au (ae _))|with_reducible exact bj (ae _)|with_reducible exact L8 (bj (ae _))|with_reducible exact ai (ae _)|with_reducible exact L8 (ai (ae _))|with_reducible exact bk (ae _)|with_reducible exact L8 (bk (ae _))|with_reducible exact ao (ae _)|with_reducible exact L8 (ao (ae _))|with_reducible exact av (ae _)|with_reducible exact L8 (av (ae _))|with_reducible exact cg (ae _)|with_reducible exact L8 (cg (ae _))|with_reducible exact bi (ae _)|with_reducible exact L8 (bi (ae _))|with_reducible exact redN_lt|with_reducible exact L8 (redN_lt)|with_reducible exact dJ (ae _)|with_reducible exact L8 (dJ (ae _))|exact aC (by decide)|exact aK (by decide)|exact aj _|exact a9 _|exact en _|exact be _ _|exact cJ _ _|exact aL (be _ _)|exact aL (aL (be _ _))|exact aL (aL (aL (be _ _)))|exact aL (aj _)|exact aL (aL (aj _))|exact fG (by first|assumption|exact L8 (by assumption)|exact aj _) (by first|assumption|exact L8 (by assumption)|exact aj _)|exact L8 (by assumption)|decide|omega) rfl rfl
  ·have hdd:decide (Go.NT.candN 1 a%4294967296%4294967296&&&1%4294967296=1)=false:=by rw[kU];exact decide_eq_false hd
   have h:=SA a
   simp only[hx,hm,ho,ho'] at h
   rw[cond_true,oS,←sT hd]
   exact af (aF ng Aa) rfl h (by refine ⟨?_,?_,?_,?_,?_,?_,?_,?_,?_,?_,?_,?_,?_,?_,?_,?_,?_,?_,?_,?_,?_,?_,?_,?_,?_,?_,?_,?_,?_,?_,?_,?_,?_,?_,?_,?_,?_,trivial⟩<;>first|with_reducible assumption|exact trivial|with_reducible exact au (ae _)|with_reducible exact L8 (au (ae _))|with_reducible exact bj (ae _)|with_reducible exact L8 (bj (ae _))|with_reducible exact ai (ae _)|with_reducible exact L8 (ai (ae _))|with_reducible exact bk (ae _)|with_reducible exact L8 (bk (ae _))|with_reducible exact ao (ae _)|with_reducible exact L8 (ao (ae _))|with_reducible exact av (ae _)|with_reducible exact L8 (av (ae _))|with_reducible exact cg (ae _)|with_reducible exact L8 (cg (ae _))|with_reducible exact bi (ae _)|with_reducible exact L8 (bi (ae _))|with_reducible exact redN_lt|with_reducible exact L8 (redN_lt)|with_reducible exact dJ (ae _)|with_reducible exact L8 (dJ (ae _))|exact aC (by decide)|exact aK (by decide)|exact aj _|exact a9 _|exact en _|exact be _ _|exact cJ _ _|exact aL (be _ _)|exact aL (aL (be _ _))|exact aL (aL (aL (be _ _)))|exact aL (aj _)|exact aL (aL (aj _))|exact fG (by first|assumption|exact L8 (by assumption)|exact aj _) (by first|assumption|exact L8 (by assumption)|exact aj _)|exact L8 (by assumption)|decide|omega) rfl rfl
theorem Nb (a:Nat) (ha:a<ab 0):Spec 210 [zV 0,N8 a] (.tup [N8 (bif oE 0 a then oS 0 a else 0),.one (.v (.bool (oE 0 a)))]):=by
 have hR:=aj 0
 have h0:=ae 0
 have hq:=aK (k:=0) (by decide)
 have ha8:=L8 ha
 have hc:Go.NT.candN 0 a<ab 0:=by rw[fV];exact Go.NT.candN_lt (by decide)
 have hc8:=L8 hc
 have hx:am (ab 0) (aq (ab 0) a) (aD (ab 0) 3/2/2/2)=aq (ab 0) (Go.NT.pwM (ab 0) a ((Go.NT.modP 0+3)/8)):=by
  rw[i6,QW,fi hR hq ha]
 have ht:am (ab 0) (aq (ab 0) 2) (ab 0/2/2)=aq (ab 0) (Go.NT.pwM (ab 0) 2 (Go.NT.modP 0/4)):=by
  rw[i6,Qd,fi hR hq KS]
 have hcand:Go.NT.candN 0 a=if Go.NT.pwM (ab 0) a ((Go.NT.modP 0+3)/8)*Go.NT.pwM (ab 0) a ((Go.NT.modP 0+3)/8)%ab 0=a then Go.NT.pwM (ab 0) a ((Go.NT.modP 0+3)/8)
   else Go.NT.pwM (ab 0) a ((Go.NT.modP 0+3)/8)*Go.NT.pwM (ab 0) 2 (Go.NT.modP 0/4)%ab 0:=by
  rw[Go.NT.candN_0,Go.NT.rt,fV]
 have hp:Go.NT.pwM (ab 0) a ((Go.NT.modP 0+3)/8)<ab 0:=Nat.mod_lt _ h0
 generalize Go.NT.pwM (ab 0) a ((Go.NT.modP 0+3)/8)=p at*
 generalize Go.NT.pwM (ab 0) 2 (Go.NT.modP 0/4)=t at*
 have hm:ap (ab 0) (aq (ab 0) p) (aq (ab 0) p)=aq (ab 0) (p*p%ab 0):=rh hR hq
 have hm2:ap (ab 0) (aq (ab 0) p) (aq (ab 0) t)=aq (ab 0) (p*t%ab 0):=rh hR hq
 have hl:p*p%ab 0<ab 0:=Nat.mod_lt _ h0
 have ho:=fi hR hq hl
 have hop:=fi hR hq hp
 have hl8:=L8 hl
 have hp8:=L8 hp
 by_cases h1:p*p%ab 0=a
 ·rw[if_pos h1] at hcand
  have hs:oE 0 a=true:=(ji 0 a).2 (by rw[hcand];exact h1)
  have hb:=N4 h1
  rw[hs,cond_true,oS,hcand]
  by_cases hd:p%2=1
  ·have hdd:decide (p%4294967296%4294967296&&&1%4294967296=1)=true:=by rw[kU];exact decide_eq_true hd
   have h:=UJ a
   simp only[hx,hm,ho,hop,wd hR hp hd] at h
   exact af (aF ng Aa) rfl h (by refine ⟨?_,?_,?_,?_,?_,?_,?_,?_,?_,?_,?_,?_,?_,?_,?_,?_,?_,?_,?_,?_,?_,?_,?_,?_,?_,?_,?_,?_,?_,?_,?_,?_,?_,?_,?_,?_,?_,?_,?_,?_,trivial⟩<;>first|with_reducible assumption|exact trivial|with_reducible exact au (ae _)|with_reducible exact L8 (au (ae _))|with_reducible exact bj (ae _)|with_reducible exact L8 (bj (ae _))|with_reducible exact ai (ae _)|with_reducible exact L8 (ai (ae _))|with_reducible exact bk (ae _)|with_reducible exact L8 (bk (ae _))|with_reducible exact ao (ae _)|with_reducible exact L8 (ao (ae _))|with_reducible exact av (ae _)|with_reducible exact L8 (av (ae _))|with_reducible exact cg (ae _)|with_reducible exact L8 (cg (ae _))|with_reducible exact bi (ae _)|with_reducible exact L8 (bi (ae _))|with_reducible exact redN_lt|with_reducible exact L8 (redN_lt)|with_reducible exact dJ (ae _)|with_reducible exact L8 (dJ (ae _))|exact aC (by decide)|exact aK (by decide)|exact aj _|exact a9 _|exact en _|exact be _ _|exact cJ _ _|exact aL (be _ _)|exact aL (aL (be _ _))|exact aL (aL (aL (be _ _)))|exact aL (aj _)|exact aL (aL (aj _))|exact fG (by first|assumption|exact L8 (by assumption)|exact aj _) (by first|assumption|exact L8 (by assumption)|exact aj _)|exact L8 (by assumption)|decide|omega) rfl rfl
  ·have hdd:decide (p%4294967296%4294967296&&&1%4294967296=1)=false:=by rw[kU];exact decide_eq_false hd
   have h:=QC a
   simp only[hx,hm,ho,hop] at h
   rw[←sT hd]
   exact af (aF ng Aa) rfl h (by refine ⟨?_,?_,?_,?_,?_,?_,?_,?_,?_,?_,?_,?_,?_,?_,?_,?_,?_,?_,?_,?_,?_,?_,?_,?_,?_,?_,?_,?_,?_,?_,?_,?_,?_,?_,?_,?_,?_,?_,trivial⟩<;>first|with_reducible assumption|exact trivial|with_reducible exact au (ae _)|with_reducible exact L8 (au (ae _))|with_reducible exact bj (ae _)|with_reducible exact L8 (bj (ae _))|with_reducible exact ai (ae _)|with_reducible exact L8 (ai (ae _))|with_reducible exact bk (ae _)|with_reducible exact L8 (bk (ae _))|with_reducible exact ao (ae _)|with_reducible exact L8 (ao (ae _))|with_reducible exact av (ae _)|with_reducible exact L8 (av (ae _))|with_reducible exact cg (ae _)|with_reducible exact L8 (cg (ae _))|with_reducible exact bi (ae _)|with_reducible exact L8 (bi (ae _))|with_reducible exact redN_lt|with_reducible exact L8 (redN_lt)|with_reducible exact dJ (ae _)|with_reducible exact L8 (dJ (ae _))|exact aC (by decide)|exact aK (by decide)|exact aj _|exact a9 _|exact en _|exact be _ _|exact cJ _ _|exact aL (be _ _)|exact aL (aL (be _ _))|exact aL (aL (aL (be _ _)))|exact aL (aj _)|exact aL (aL (aj _))|exact fG (by first|assumption|exact L8 (by assumption)|exact aj _) (by first|assumption|exact L8 (by assumption)|exact aj _)|exact L8 (by assumption)|decide|omega) rfl rfl
 ·rw[if_neg h1] at hcand
  have hb1:=Nc hl8 ha8 h1
  rw[←hcand] at hm2
  have hm3:ap (ab 0) (aq (ab 0) (Go.NT.candN 0 a)) (aq (ab 0) (Go.NT.candN 0 a))=aq (ab 0) (Go.NT.candN 0 a*Go.NT.candN 0 a%ab 0):=rh hR hq
  have hcl:Go.NT.candN 0 a*Go.NT.candN 0 a%ab 0<ab 0:=Nat.mod_lt _ h0
  have ho3:=fi hR hq hcl
  have ho4:=fi hR hq hc
  have hcl8:=L8 hcl
  cases hs:oE 0 a with
  |false=>
   have hne:¬Go.NT.candN 0 a*Go.NT.candN 0 a%ab 0=a:=fun h=>by rw[oE,(ji 0 a).2 h] at hs;cases hs
   have hb:=Nc hcl8 ha8 hne
   have h:=Rj a
   simp only[hx,hm,ho,ht,hm2,hm3,ho3,ho4] at h
   exact (af (aF ng Aa) rfl h (by refine ⟨?_,?_,?_,?_,?_,?_,?_,?_,?_,?_,?_,?_,?_,?_,?_,?_,?_,?_,?_,?_,?_,?_,?_,?_,?_,?_,?_,?_,?_,?_,?_,?_,?_,?_,?_,?_,?_,?_,?_,?_,?_,?_,?_,?_,?_,?_,?_,?_,?_,?_,trivial⟩<;>first|with_reducible assumption|exact trivial|with_reducible exact au (ae _)|with_reducible exact L8 (au (ae _))|with_reducible exact bj (ae _)|with_reducible exact L8 (bj (ae _))|with_reducible exact ai (ae _)|with_reducible exact L8 (ai (ae _))|with_reducible exact bk (ae _)|with_reducible exact L8 (bk (ae _))|with_reducible exact ao (ae _)|with_reducible exact L8 (ao (ae _))|with_reducible exact av (ae _)|with_reducible exact L8 (av (ae _))|with_reducible exact cg (ae _)|with_reducible exact L8 (cg (ae _))|with_reducible exact bi (ae _)|with_reducible exact L8 (bi (ae _))|with_reducible exact redN_lt|with_reducible exact L8 (redN_lt)|with_reducible exact dJ (ae _)|with_reducible exact L8 (dJ (ae _))|exact aC (by decide)|exact aK (by decide)|exact aj _|exact a9 _|exact en _|exact be _ _|exact cJ _ _|exact aL (be _ _)|exact aL (aL (be _ _))|exact aL (aL (aL (be _ _)))|exact aL (aj _)|exact aL (aL (aj _))|exact fG (by first|assumption|exact L8 (by assumption)|exact aj _) (by first|assumption|exact L8 (by assumption)|exact aj _)|exact L8 (by assumption)|decide|omega) rfl rfl).congr (fun _=>rfl) (fun _=>by simp only[AV.conc,List.map_cons,List.map_nil,WK,cond_false])
  |true=>
   have he:=(ji 0 a).1 hs
   have hb:=N4 he
   rw[cond_true,oS]
   by_cases hd:Go.NT.candN 0 a%2=1
   ·have hdd:decide (Go.NT.candN 0 a%4294967296%4294967296&&&1%4294967296=1)=true:=by rw[kU];exact decide_eq_true hd
    have h:=V8 a
    simp only[hx,hm,ho,ht,hm2,hm3,ho3,ho4,wd hR hc hd] at h
    exact af (aF ng Aa) rfl h (by refine ⟨?_,?_,?_,?_,?_,?_,?_,?_,?_,?_,?_,?_,?_,?_,?_,?_,?_,?_,?_,?_,?_,?_,?_,?_,?_,?_,?_,?_,?_,?_,?_,?_,?_,?_,?_,?_,?_,?_,?_,?_,?_,?_,?_,?_,?_,?_,?_,?_,?_,?_,?_,?_,?_,?_,?_,?_,trivial⟩<;>first|with_reducible assumption|exact trivial|with_reducible exact au (ae _)|with_reducible exact L8 (au (ae _))|with_reducible exact bj (ae _)|with_reducible exact L8 (bj (ae _))|with_reducible exact ai (ae _)|with_reducible exact L8 (ai (ae _))|with_reducible exact bk (ae _)|with_reducible exact L8 (bk (ae _))|with_reducible exact ao (ae _)|with_reducible exact L8 (ao (ae _))|with_reducible exact av (ae _)|with_reducible exact L8 (av (ae _))|with_reducible exact cg (ae _)|with_reducible exact L8 (cg (ae _))|with_reducible exact bi (ae _)|with_reducible exact L8 (bi (ae _))|with_reducible exact redN_lt|with_reducible exact L8 (redN_lt)|with_reducible exact dJ (ae _)|with_reducible exact L8 (dJ (ae _))|exact aC (by decide)|exact aK (by decide)|exact aj _|exact a9 _|exact en _|exact be _ _|exact cJ _ _|exact aL (be _ _)|exact aL (aL (be _ _))|exact aL (aL (aL (be _ _)))|exact aL (aj _)|exact aL (aL (aj _))|exact fG (by first|assumption|exact L8 (by assumption)|exact aj _) (by first|assumption|exact L8 (by assumption)|exact aj _)|exact L8 (by assumption)|decide|omega) rfl rfl
   ·have hdd:decide (Go.NT.candN 0 a%4294967296%4294967296&&&1%4294967296=1)=false:=by rw[kU];exact decide_eq_false hd
    have h:=SP a
    simp only[hx,hm,ho,ht,hm2,hm3,ho3,ho4] at h
    rw[←sT hd]
    exact af (aF ng Aa) rfl h (by refine ⟨?_,?_,?_,?_,?_,?_,?_,?_,?_,?_,?_,?_,?_,?_,?_,?_,?_,?_,?_,?_,?_,?_,?_,?_,?_,?_,?_,?_,?_,?_,?_,?_,?_,?_,?_,?_,?_,?_,?_,?_,?_,?_,?_,?_,?_,?_,?_,?_,?_,?_,?_,?_,?_,?_,trivial⟩<;>first|with_reducible assumption|exact trivial|with_reducible exact au (ae _)|with_reducible exact L8 (au (ae _))|with_reducible exact bj (ae _)|with_reducible exact L8 (bj (ae _))|with_reducible exact ai (ae _)|with_reducible exact L8 (ai (ae _))|with_reducible exact bk (ae _)|with_reducible exact L8 (bk (ae _))|with_reducible exact ao (ae _)|with_reducible exact L8 (ao (ae _))|with_reducible exact av (ae _)|with_reducible exact L8 (av (ae _))|with_reducible exact cg (ae _)|with_reducible exact L8 (cg (ae _))|with_reducible exact bi (ae _)|with_reducible exact L8 (bi (ae _))|with_reducible exact redN_lt|with_reducible exact L8 (redN_lt)|with_reducible exact dJ (ae _)|with_reducible exact L8 (dJ (ae _))|exact aC (by decide)|exact aK (by decide)|exact aj _|exact a9 _|exact en _|exact be _ _|exact cJ _ _|exact aL (be _ _)|exact aL (aL (be _ _))|exact aL (aL (aL (be _ _)))|exact aL (aj _)|exact aL (aL (aj _))|exact fG (by first|assumption|exact L8 (by assumption)|exact aj _) (by first|assumption|exact L8 (by assumption)|exact aj _)|exact L8 (by assumption)|decide|omega) rfl rfl
end Go.Ev
namespace Go.Ev
open Go Go.RowKit
inductive SK where|n8|i|s|b|u32|u64
def SK.ks:SK→List Nat
 | .n8=>[8,8,8,8,8,8,8,8]
 | .i=>[5]
 | .s=>[1]
 | .b=>[0]
 | .u32=>[8]
 | .u64=>[9]
def SK.sz:SK→Nat
 | .n8=>8
 |_=>1
def nA (c:Cells) (p:Nat):Nat:=aW 8 p c.n
def nU (c:Cells) (p:Nat):Nat:=c.n p
def zA (c:Cells) (p:Nat):Int:=c.z p
def sA (c:Cells) (p:Nat):ByteArray:=c.s p
def bA (c:Cells) (p:Nat):Bool:=c.b p
def SK.pc (c:Cells) (p:Nat):SK→Piece
 | .n8=> .num 8 (nA c p)
 | .i=> .a (.i (zA c p))
 | .s=> .a (.v (.string (sA c p)))
 | .b=> .a (.v (.bool (bA c p)))
 | .u32=> .a (.u .u32 (nU c p))
 | .u64=> .a (.u .u64 (nU c p))
def SK.ok (c:Cells) (p:Nat):SK→Prop
 | .n8=>nA c p<4294967296^8
 | .i=>br (zA c p)
 | .s=>(sA c p).size≤maxLen
 | .b=>True
 | .u32=>nU c p<4294967296
 | .u64=>nU c p<18446744073709551616
def pu:List SK→List Nat
 |[]=>[]
 |k::l=>k.ks++pu l
def ec:List SK→Nat
 |[]=>0
 |k::l=>k.sz+ec l
def eW (c:Cells):List SK→Nat→List Piece
 |[],_=>[]
 |k::l,p=>k.pc c p::eW c l (p+k.sz)
def Jk (c:Cells):List SK→Nat→List Prop
 |[],_=>[]
 |k::l,p=>k.ok c p::Jk c l (p+k.sz)
def c9 (c:Cells) (sh:List SK):Nat→Nat→List Piece
 |0,_=>[]
 |m+1,p=>eW c sh p++c9 c sh m (p+ec sh)
def jx (c:Cells) (sh:List SK):Nat→Nat→List Prop
 |0,_=>[]
 |m+1,p=>Jk c sh p++jx c sh m (p+ec sh)
theorem SK.ks_len (k:SK):k.ks.length=k.sz:=by cases k<;>rfl
theorem nJ:∀sh:List SK,(pu sh).length=ec sh
 |[]=>rfl
 |k::l=>by simp[pu,ec,nJ l,SK.ks_len]
theorem pv (c:Cells):∀(ks ls:List Nat) (j:Nat),jl c (ks++ls) j=jl c ks j++jl c ls (j+ks.length)
 |[],ls,j=>by simp[jl]
 |k::ks,ls,j=>by
  simp only[List.cons_append,jl,List.length_cons]
  rw[pv c ks ls (j+1),show j+1+ks.length=j+(ks.length+1) by omega]
theorem Cf (φ:c7) (u:Nat→Nat) (n j:Nat) (h:∀i,j≤i→i<j+n→u i<4294967296):an φ [.num n (aW n j u)]=an φ (bp n j u):=by
 rw[←pW φ u n j h];simp[an,Piece.conc]
def FN (c:Cells) (ks:List Nat) (j:Nat):Prop:=∀i k,ks[i]? =some k→okK c k (j+i)
theorem DX {c:Cells} {ks ls:List Nat} {j:Nat} (h:FN c (ks++ls) j):FN c ks j∧FN c ls (j+ks.length):=by
 refine ⟨fun i k hi=>h i k ?_,fun i k hi=> ?_⟩
 ·rw[List.getElem?_append_left]
  ·exact hi
  ·exact (List.getElem?_eq_some_iff.1 hi).1
 ·have:=h (ks.length+i) k (by rw[List.getElem?_append_right (by omega)];rw[show ks.length+i-ks.length=i by omega];exact hi)
  rwa[Nat.add_assoc]
theorem SK.spec (c:Cells) (φ:c7) (p:Nat) (k:SK) (h:FN c k.ks p):an φ [k.pc c p]=an φ (jl c k.ks p)∧k.ok c p:=by
 cases k with
 |n8=>
  have hk:∀i,p≤i→i<p+8→c.n i<4294967296:=by
   intro i h1 h2
   have h8:(SK.n8.ks)[i-p]? =some 8:=by
    have:i-p<8:=by omega
    generalize i-p=q at*
    match q,this with
    |0,_|1,_|2,_|3,_|4,_|5,_|6,_|7,_=>rfl
    |n+8,h=>omega
   have:=h (i-p) 8 h8
   rwa[show p+(i-p)=i by omega] at this
  exact ⟨Cf φ c.n 8 p hk,ip _ 8 _ hk⟩
 |i=>exact ⟨rfl,h 0 5 rfl⟩
 |s=>exact ⟨rfl,h 0 1 rfl⟩
 |b=>exact ⟨rfl,trivial⟩
 |u32=>exact ⟨rfl,h 0 8 rfl⟩
 |u64=>exact ⟨rfl,h 0 9 rfl⟩
theorem Xb (c:Cells) (φ:c7):∀(sh:List SK) (p:Nat),FN c (pu sh) p→an φ (eW c sh p)=an φ (jl c (pu sh) p)∧cL (Jk c sh p)
 |[],p,_=>⟨rfl,trivial⟩
 |k::l,p,h=>by
  obtain ⟨h1,h2⟩:=DX h
  obtain ⟨a1,a2⟩:=SK.spec c φ p k h1
  rw[SK.ks_len] at h2
  obtain ⟨b1,b2⟩:=Xb c φ l (p+k.sz) h2
  refine ⟨?_,a2,b2⟩
  simp only[pu]
  rw[pv,bb,←a1,SK.ks_len,←b1]
  simp[eW,an]
theorem La (c:Cells) (φ:c7) (sh:List SK):∀(m p:Nat),FN c (j6 m (pu sh)) p→an φ (c9 c sh m p)=an φ (jl c (j6 m (pu sh)) p)∧cL (jx c sh m p)
 |0,p,_=>⟨rfl,trivial⟩
 |m+1,p,h=>by
  obtain ⟨h1,h2⟩:=DX h
  obtain ⟨a1,a2⟩:=Xb c φ sh p h1
  rw[nJ] at h2
  obtain ⟨b1,b2⟩:=La c φ sh m (p+ec sh) h2
  refine ⟨?_,?_⟩
  ·simp only[j6,c9]
   rw[pv,bb,bb,a1,nJ,b1]
  ·simp only[jx,aY]
   exact ⟨a2,b2⟩
theorem wL (c:Cells) (f:Nat→Bool):∀(sh:List SK) (p:Nat),aI f (eW c sh p)=true
 |[],_=>rfl
 |k::l,p=>by cases k<;>simp[eW,SK.pc,aI,wL c f l]
theorem kv (f:Nat→Bool):∀(ps qs:List Piece),aI f ps=true→aI f qs=true→aI f (ps++qs)=true
 |[],_,_,h=>h
 |p::ps,qs,h,h'=>by
  unfold aI at h
  cases p with
  |num k x=>simp only[List.cons_append,aI] at h ⊢;exact kv f ps qs h h'
  |arr k x=>simp only[List.cons_append,aI] at h ⊢;exact kv f ps qs h h'
  |a x=>
   cases x<;>simp only[List.cons_append,aI,Bool.and_eq_true] at h ⊢ <;>
    first|exact ⟨h.1,kv f ps qs h.2 h'⟩|exact kv f ps qs h h'
theorem wv (c:Cells) (sh:List SK) (f:Nat→Bool):∀m p,aI f (c9 c sh m p)=true
 |0,_=>rfl
 |m+1,p=>kv f _ _ (wL c f sh p) (wv c sh f m _)
def jf (c:Cells) (sh:List SK) (m:Nat) (e:TypeId):Blk:=⟨c9 c sh m 0,e,true,true,0⟩
theorem zX (c:Cells) (sh:List SK) (m:Nat) (e:TypeId):∀f,aI f (jf c sh m e).ps=true:=fun f=>wv c sh f m 0
end Go.Ev
namespace Go.Ev
open Go Go.Proofs Go.RowKit
theorem iY (c:Cells) (sh:List SK) (m:Nat) (e:TypeId):er (jf c sh m e):=zX c sh m e
noncomputable def mkF (L:List CT) (fm:FuncId→List V1→List (Option Blk)→Option (List Prop×AV)) (S:FuncId→Nat→Bool):Env:={E0 with fn:=yE L,fm:=fm,S:=S}
theorem MJ {L:List CT} (hL:bw L) {fm:FuncId→List V1→List (Option Blk)→Option (List Prop×AV)}
  (hfm:∀f vs mem ob r,fm f vs (jF mem vs)=some (ob,r)→cL ob→∀w0 φ w,MRel w0 φ mem w→Calls Tryz.prog f (vs.map (V1.conc φ)).toArray w fun e w'=>e= .returned (r.conc φ)∧Below w.heap.size w w')
  (S:FuncId→Nat→Bool):EnvOK (mkF L fm S):=
 ⟨mixed,fun _ _ _ _ h ho=>pm hL h ho,hfm,fun _ _ _ h=>by simp[mkF,E0] at h,fun _ _ _ _ _ _ h=>by simp[mkF,E0] at h⟩
noncomputable def nR (E:Env) (k:Nat) (y:Code) (f:List AV→List Blk→List Bool→E7):Env:={E with lp:=fun j=>match Nat.beq j k with|true=>some (y,f)|false=>none}
theorem gy {E:Env} (hE:EnvOK E) {k:Nat} {y:Code} {f:List AV→List Blk→List Bool→E7} (h:pa E.P (.loop y) f):EnvOK (nR E k y f):=kj hE h
theorem Wt {p a e:Nat} (hp:p<2^256) (he:e<p):Go.NT.powK 256 a e p=Go.NT.pwM p a e:=by unfold Go.NT.pwM;exact Go.NT.powK_256 hp he
def bT:List V1→Option (List Prop×AV):=fun vs=>match vs with|[]=>some ([],bV true)|_=>none
theorem ctT {f:FuncId} (h:Spec f [] (bV true)):aU ⟨f,bT⟩:=by
 intro vs ob r hv ho
 simp only[bT] at hv
 split at hv
 ·obtain ⟨rfl,rfl⟩:=sI hv
  exact h
 ·simp at hv
theorem u4:Tryz.prog.underlying 4=some .bool:=by kernel_rfl
theorem laid:laidOutB Tryz.prog=true:=by kernel_rfl
theorem own:ownKnob Tryz.prog.godebug=none:=by kernel_rfl
def E5 (len cap:Nat):AV:= .val (.one (.sl 0 0 len cap))
theorem bL:0<4294967296:=by decide
theorem K3:0<4294967296^8:=by decide
theorem tR:1<4294967296:=by decide
theorem nk:1<4294967296^8:=by decide
theorem afV:2<4294967296:=by decide
theorem OW:2<4294967296^8:=by decide
theorem gV {a:Nat} (h:a<4294967296^8):co a 0<4294967296^16:=by unfold co;omega
theorem BA:∀n,n<256→tb n=0∨2^(tb n-1)≤n:=by decide+kernel
theorem zz:∀n,n<256→(tb n=0↔n=0):=by decide+kernel
theorem rT {x q c:Nat} (h:q=0∨2^(q-1)≤x/2^c) (h0:q=0→x/2^c=0) (hx:0<x/2^c):2^(c+q-1)≤x:=by
 rcases h with h|h
 ·have:=h0 h;omega
 ·have hq:0<q:=by
   rcases Nat.eq_zero_or_pos q with h'|h'
   ·have:=h0 h';omega
   ·exact h'
  rw[show c+q-1=(q-1)+c by omega,Nat.pow_add]
  exact Nat.le_trans (Nat.mul_le_mul_right _ h) (Nat.div_mul_le_self _ _)
theorem JY {x:Nat} (hx:x<4294967296):bH x=0∨2^(bH x-1)≤x:=by
 by_cases h1:65536≤x
 ·by_cases h2:256≤x/65536
  ·have hl:bH x=24+tb (x/65536/256%256):=by simp only[bH,decide_eq_true h1,decide_eq_true h2,cond_true]
   have hn:x/65536/256%256<256:=by omega
   have he:x/65536/256%256=x/2^24:=by omega
   right;rw[hl]
   exact rT (by have:=BA _ hn;rwa[he] at this ⊢) (by intro h;have:=(zz _ hn).1 h;omega) (by omega)
  ·have hl:bH x=16+tb (x/65536%256):=by simp only[bH,decide_eq_true h1,decide_eq_false h2,cond_true,cond_false]
   have hn:x/65536%256<256:=by omega
   have he:x/65536%256=x/2^16:=by omega
   right;rw[hl]
   exact rT (by have:=BA _ hn;rwa[he] at this ⊢) (by intro h;have:=(zz _ hn).1 h;omega) (by omega)
 ·by_cases h2:256≤x
  ·have hl:bH x=8+tb (x/256%256):=by simp only[bH,decide_eq_false h1,decide_eq_true h2,cond_true,cond_false]
   have hn:x/256%256<256:=by omega
   have he:x/256%256=x/2^8:=by omega
   right;rw[hl]
   exact rT (by have:=BA _ hn;rwa[he] at this ⊢) (by intro h;have:=(zz _ hn).1 h;omega) (by omega)
  ·have hl:bH x=tb (x%256):=by simp only[bH,decide_eq_false h1,decide_eq_false h2,cond_false]
   have hn:x%256<256:=by omega
   have:=BA _ hn
   rw[hl]
   rw[show x%256=x by omega] at*
   exact this
theorem wa {x:Nat} (hx:x<4294967296) (h:bH x=0):x=0:=by
 have:=(j7 x hx).2.1
 rw[h] at this;omega
theorem Cj {a:Nat→Nat} (ha:∀i,a i<4294967296):∀n,iB a n=0∨2^(iB a n-1)≤aW n 0 a
 |0=> .inl rfl
 |j+1=>by
  simp only[iB]
  rw[dQ,Nat.zero_add]
  split
  ·rename_i h;have:=of_decide_eq_true h;rw[this,Nat.mul_zero,Nat.add_zero];exact Cj ha j
  ·rename_i h
   have h0:=of_decide_eq_false h
   right
   rcases JY (ha j) with h1|h1
   ·exact absurd (wa (ha j) h1) h0
   ·have hp:0<bH (a j):=by
     rcases Nat.eq_zero_or_pos (bH (a j)) with h2|h2
     ·exact absurd (wa (ha j) h2) h0
     ·exact h2
    rw[show 32*j+bH (a j)-1=32*j+(bH (a j)-1) by omega,Nat.pow_add,jb]
    exact Nat.le_trans (Nat.mul_le_mul_left _ h1) (Nat.le_add_left _ _)
theorem Ea (a:Nat):∀n,eP a n=0∨2^(eP a n-1)≤a
 |0=> .inl rfl
 |n+1=>by
  rw[eP]
  cases hb:eY a n with
  |true=>
   right
   have h0:dw a n=1:=of_decide_eq_true hb
   unfold dw at h0
   show 2^(n+1-1)≤a
   rw[Nat.add_sub_cancel]
   apply Nat.le_of_not_lt
   intro h
   rw[Nat.div_eq_of_lt h] at h0
   exact absurd h0 (by decide)
  |false=>exact Ea a n
theorem Mq {a L M:Nat} (h1:a<2^L) (h2:L=0∨2^(L-1)≤a) (h3:a<2^M) (h4:M=0∨2^(M-1)≤a):L=M:=by
 have key:∀{L M:Nat},(L=0∨2^(L-1)≤a)→a<2^M→L≤M:=by
  intro L M h2 h3
  rcases h2 with h2|h2
  ·omega
  ·have:=(Nat.pow_lt_pow_iff_right (a:=2) (by decide)).1 (Nat.lt_of_le_of_lt h2 h3)
   omega
 exact Nat.le_antisymm (key h2 h3) (key h4 h1)
theorem M7 {a:Nat} (ha:a<4294967296^8):eP a 256=dp a:=by
 have h1:=i2 a 256 (by rw[show (2:Nat)^256=4294967296^8 by decide];exact ha)
 have h2:=Cj (ba a) 8
 rw[ce a 8 ha] at h2
 exact Mq h1.1 (Ea a 256) (fU ha).1 h2
end Go.Ev
