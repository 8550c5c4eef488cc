/- Numbers of limbs: what the functions on them come to; Bytes of numbers and of points -/
import Derived.Test.YtjiiaeljpllahaaGreatPartB
import Derived.Test.YtjiiaeljpllahaaGreatProg
namespace Go.Ev
open Go Go.Proofs Go.RowKit
noncomputable def E0:Env:=⟨Tryz.prog,fun _ _=>none,fun _ _ _=>none,fun _=>none,fun _ _=>false,fun _ _=>none⟩
theorem mixed:Tryz.prog.follows .mixedOrders=true:=by kernel_rfl
theorem envE0:EnvOK E0:=⟨mixed,fun _ _ _ _ h=>by simp[E0] at h,fun _ _ _ _ _ h=>by simp[E0] at h,fun _ _ _ h=>by simp[E0] at h,fun _ _ _ _ _ _ h=>by simp[E0] at h⟩
def al (E:Env) (n:Nat) (f:FuncId) (vs:List V1) (c:List Bool):Option (List Prop×AV):=
 match ep E (dH E n) f vs [] c with
 |some (ob,_,r,_)=>some (ob,r)
 |none=>none
def bV (b:Bool):AV:= .val (.one (.v (.bool b)))
def iV (z:Int):AV:= .val (.one (.i z))
def pV (b:Nat):AV:= .val (.one (.ptr b 0))
def u32 (n:Nat):V1:= .one (.u .u32 n)
def C8 (u:Nat→Nat):V1:= .agg (bp 8 0 u)
def m5 (u:Nat→Nat):V1:= .agg (bp 16 0 u)
theorem sI {α β:Type} {a c:α} {b d:β} (h:some (a,b)=some (c,d)):a=c∧b=d:=by
 simp only[Option.some.injEq,Prod.mk.injEq] at h
 exact h
abbrev KA (x:Nat):Prop:=x<4294967296
abbrev KB (x:Nat):Prop:=x<4294967296^8
theorem dQ (u:Nat→Nat):∀n j,aW (n+1) j u=aW n j u+4294967296^n*u (j+n)
 |0,j=>by simp[aW]
 |n+1,j=>by
  have ih:=dQ u n (j+1)
  rw[show aW (n+1+1) j u=u j+4294967296*aW (n+1) (j+1) u from rfl,ih,show aW (n+1) j u=u j+4294967296*aW n (j+1) u from rfl,Nat.mul_add,←Nat.mul_assoc,Nat.pow_succ,Nat.mul_comm 4294967296 (4294967296^n),show j+1+n=j+(n+1) by omega]
  omega
theorem ni (u v:Nat→Nat):∀n j,aW n j (fun i=>u i+v i)=aW n j u+aW n j v
 |0,j=>rfl
 |n+1,j=>by simp only[aW,ni u v n (j+1)];omega
theorem q8 (x:Nat) (u:Nat→Nat):∀n j,aW n j (fun i=>x*u i)=x*aW n j u
 |0,j=>rfl
 |n+1,j=>by simp only[aW,q8 x u n (j+1),Nat.mul_add];rw[Nat.mul_left_comm]
theorem cv {u v:Nat→Nat}:∀n j,(∀i,j≤i→i<j+n→u i=v i)→aW n j u=aW n j v
 |0,j,_=>rfl
 |n+1,j,h=>by simp only[aW,h j (by omega) (by omega),cv n (j+1) (fun i h1 h2=>h i (by omega) (by omega))]
theorem dG (u:Nat→Nat):∀n m j,aW (n+m) j u=aW n j u+4294967296^n*aW m (j+n) u
 |0,m,j=>by simp[aW]
 |n+1,m,j=>by
  rw[show n+1+m=(n+m)+1 by omega]
  simp only[aW]
  rw[dG u n m (j+1),Nat.mul_add,←Nat.mul_assoc,Nat.pow_succ,Nat.mul_comm 4294967296 (4294967296^n),show j+1+n=j+(n+1) by omega]
  omega
theorem oo:∀n j,aW n j (fun _=>0)=0
 |0,_=>rfl
 |n+1,j=>by simp[aW,oo n (j+1)]
theorem f7 (u:Nat→Nat) (d:Nat):∀n j,aW n j (fun i=>u (i+d))=aW n (j+d) u
 |0,j=>rfl
 |n+1,j=>by simp only[aW,f7 u d n (j+1)];rw[show j+1+d=j+d+1 by omega]
theorem i0 {d t c:Nat→Nat}:∀n,(∀i,i<n→d i+4294967296*c (i+1)=t i+c i)→aW n 0 d+4294967296^n*c n=aW n 0 t+c 0
 |0,_=>by simp[aW]
 |n+1,h=>by
  have ih:=i0 n (fun i hi=>h i (by omega))
  have hn:=h n (by omega)
  rw[dQ,dQ,Nat.zero_add]
  have h2:=congrArg (4294967296^n* ·) hn
  simp only[Nat.mul_add] at h2
  rw[Nat.pow_succ,Nat.mul_assoc]
  omega
def Spec (f:FuncId) (vs:List V1) (r:AV):Prop:=∀(φ:c7) (w:World),Calls Tryz.prog f (vs.map (V1.conc φ)).toArray w fun e w'=>e= .returned (r.conc φ)∧Below w.heap.size w w'
theorem Spec.congr {f:FuncId} {vs vs':List V1} {r r':AV} (h:Spec f vs r) (h1:∀φ,vs.map (V1.conc φ)=vs'.map (V1.conc φ)) (h2:∀φ,r.conc φ=r'.conc φ):Spec f vs' r':=by
 intro φ w
 rw[←h1,←h2]
 exact h φ w
theorem af {E:Env} (hE:EnvOK E) (hP:E.P=Tryz.prog) {n:Nat} {f:FuncId} {vs:List V1} {ob:List Prop} {c:List Bool} {r:AV}
  (h:al E n f vs c=some (ob,r)) (ho:cL ob) (hr:r.wf 0=true) (hv:(vs.all fun v=>v.wf 0)=true):Spec f vs r:=by
 intro φ w
 have hv:∀v∈vs,v.wf 0=true:=by simpa using hv
 unfold al at h
 split at h
 ·rename_i ob1 c1 r1 mem1 h1
  obtain ⟨rfl,rfl⟩:=sI h
  have:=Bk hE h1 ho hr φ w hv
  rwa[hP] at this
 ·simp at h
def N8 (a:Nat):V1:= .agg [.num 8 a]
def mO (a:Nat):V1:= .agg [.num 16 a]
def lj:Nat→List Piece→Option (List Prop×Nat)
 |0,[]=>some ([],0)
 |0,_::_=>none
 |_+1,[]=>none
 |n+1,.num k x::ps=>match Nat.beq (n+1) k,ps with
  |true,[]=>some ([x<4294967296^k],x)
  |_,_=>none
 |n+1,.a (.u .u32 x)::ps=>match lj n ps with
  |some (o,v)=>some ((x<4294967296)::o,x+4294967296*v)
  |none=>none
 |_+1,_::_=>none
def el (n:Nat):V1→Option (List Prop×Nat)
 | .agg ps=>lj n ps
 |_=>none
theorem se:∀(n:Nat) (ps:List Piece) {o:List Prop} {x:Nat},lj n ps=some (o,x)→cL o→x<4294967296^n∧∀φ,an φ ps=ef n x
 |0,[],o,x,h,_=>by
  simp only[lj,Option.some.injEq,Prod.mk.injEq] at h
  obtain ⟨_,rfl⟩:=h
  exact ⟨by simp,fun φ=>rfl⟩
 |0,_::_,o,x,h,_=>by simp[lj] at h
 |n+1,[],o,x,h,_=>by simp[lj] at h
 |n+1,.num k y::ps,o,x,h,ho=>by
  simp only[lj] at h
  split at h
  ·rename_i hk
   obtain ⟨rfl,rfl⟩:=sI h
   have hk:=Nat.eq_of_beq_eq_true hk
   subst hk
   exact ⟨ho.1,fun φ=>by simp[an,Piece.conc]⟩
  ·simp at h
 |n+1,.a (.u .u32 y)::ps,o,x,h,ho=>by
  simp only[lj] at h
  split at h
  ·rename_i o' v hv
   obtain ⟨rfl,rfl⟩:=sI h
   obtain ⟨h1,h2⟩:=se n ps hv ho.2
   have hy:y<4294967296:=ho.1
   refine ⟨by rw[Nat.pow_succ];omega,fun φ=> ?_⟩
   simp only[an,Piece.conc,Atom.conc,ef,h2 φ]
   rw[show (y+4294967296*v)%4294967296=y by omega,show (y+4294967296*v)/4294967296=v by omega]
   rfl
  ·simp at h
 |n+1,.arr _ _::ps,o,x,h,_=>by simp[lj] at h
 |n+1,.a (.v _)::ps,o,x,h,_=>by simp[lj] at h
 |n+1,.a (.i _)::ps,o,x,h,_=>by simp[lj] at h
 |n+1,.a (.ptr _ _)::ps,o,x,h,_=>by simp[lj] at h
 |n+1,.a (.sl _ _ _ _)::ps,o,x,h,_=>by simp[lj] at h
 |n+1,.a (.sx _ _)::ps,o,x,h,_=>by simp[lj] at h
 |n+1,.a (.u .u8 _)::ps,o,x,h,_=>by simp[lj] at h
 |n+1,.a (.u .u16 _)::ps,o,x,h,_=>by simp[lj] at h
 |n+1,.a (.u .u64 _)::ps,o,x,h,_=>by simp[lj] at h
 |n+1,.a (.u .i8 _)::ps,o,x,h,_=>by simp[lj] at h
 |n+1,.a (.u .i16 _)::ps,o,x,h,_=>by simp[lj] at h
 |n+1,.a (.u .i32 _)::ps,o,x,h,_=>by simp[lj] at h
 |n+1,.a (.u .i64 _)::ps,o,x,h,_=>by simp[lj] at h
theorem aX {n:Nat} {v:V1} {o:List Prop} {x:Nat} (h:el n v=some (o,x)) (ho:cL o):x<4294967296^n∧∀φ,(V1.agg [.num n x]).conc φ=v.conc φ:=by
 unfold el at h
 split at h
 ·rename_i ps
  obtain ⟨h1,h2⟩:=se n ps h ho
  exact ⟨h1,fun φ=>by simp[V1.conc,h2 φ,an,Piece.conc]⟩
 ·simp at h
theorem c8 (φ:c7) (a:Nat):(C8 (ak a)).conc φ=(N8 a).conc φ:=by simp only[C8,N8,V1.conc,fv]
theorem qN (φ:c7) (a:Nat):(m5 (ak a)).conc φ=(mO a).conc φ:=by simp only[m5,mO,V1.conc,fv]
theorem ew (φ:c7) {u:Nat→Nat} (h:∀i,i<8→u i<4294967296) {a:Nat} (ha:aW 8 0 u=a):(C8 u).conc φ=(N8 a).conc φ:=by
 subst ha;simp only[C8,N8,V1.conc,mv φ u 8 h]
theorem ry (φ:c7) {u:Nat→Nat} (h:∀i,i<16→u i<4294967296) {a:Nat} (ha:aW 16 0 u=a):(m5 u).conc φ=(mO a).conc φ:=by
 subst ha;simp only[m5,mO,V1.conc,mv φ u 16 h]
def mT (g:Nat→Nat→AV) (vs:List V1):Option (List Prop×AV):=
 match vs with
 |[x,y]=>match el 8 x,el 8 y with
  |some (o,a),some (o',b)=>some (o++o',g a b)
  |_,_=>none
 |_=>none
theorem de {f:FuncId} {g:Nat→Nat→AV} (hg:∀a b,a<4294967296^8→b<4294967296^8→Spec f [N8 a,N8 b] (g a b)) {vs:List V1} {ob:List Prop} {r:AV} (h:mT g vs=some (ob,r)) (ho:cL ob):Spec f vs r:=by
 unfold mT at h
 split at h
 ·rename_i x y
  split at h
  ·rename_i o a o' b hx hy
   obtain ⟨rfl,rfl⟩:=sI h
   rw[aY] at ho
   obtain ⟨h1,h2⟩:=aX hx ho.1
   obtain ⟨h3,h4⟩:=aX hy ho.2
   exact (hg a b h1 h3).congr (fun φ=>by simp only[List.map_cons,List.map_nil];rw[←h2 φ,←h4 φ];rfl) (fun _=>rfl)
  ·simp at h
 ·simp at h
def xf (x y b:Nat):Nat:=((x+(4294967296-y%4294967296))%4294967296+(4294967296-b%4294967296))%4294967296
def Fq (x y b:Nat):Nat:=(((4294967295-x%4294967296)%4294967296&&&y%4294967296)%4294967296|||
 ((4294967295-(x%4294967296^^^y%4294967296)%4294967296)%4294967296&&&xf x y b%4294967296)%4294967296)/2147483648
theorem afk (x y b:Nat):al E0 1000 194 [u32 x,u32 y,u32 b] []=some ([],.tup [u32 (xf x y b),u32 (Fq x y b)]):=by kernel_rfl
theorem QH {a:Nat} (h:a<4294967296):a/2147483648=if a.testBit 31 then 1 else 0:=by
 rw[Nat.testBit_eq_decide_div_mod_eq]
 simp only[show (2:Nat)^31=2147483648 from rfl]
 by_cases h1:a/2147483648%2=1
 ·simp[h1];omega
 ·simp[h1];omega
theorem yo {a:Nat} (h:a<4294967296):a.testBit 31=decide (2147483648≤a):=by
 rw[Nat.testBit_eq_decide_div_mod_eq]
 simp only[show (2:Nat)^31=2147483648 from rfl]
 rw[Bool.eq_iff_iff];simp;omega
theorem ud {a b:Nat} (ha:a<4294967296) (hb:b<4294967296):a|||b<4294967296:=Nat.or_lt_two_pow (n:=32) ha hb
theorem qJ {a b:Nat} (hb:b<4294967296):a&&&b<4294967296:=Nat.and_lt_two_pow (n:=32) _ hb
theorem Dz {a b:Nat} (ha:a<4294967296) (hb:b<4294967296):a^^^b<4294967296:=Nat.xor_lt_two_pow (n:=32) ha hb
theorem WL {a:Nat} (h:a<4294967296):(4294967295-a).testBit 31= !decide (2147483648≤a):=by
 rw[yo (by omega),Bool.eq_iff_iff];simp;omega
theorem vg {x y b:Nat} (hx:x<4294967296) (hy:y<4294967296) (hb:b≤1):x+4294967296*Fq x y b=xf x y b+y+b∧Fq x y b≤1∧xf x y b<4294967296:=by
 have hd:xf x y b<4294967296:=Nat.mod_lt _ (by decide)
 have hd2:xf x y b=(x+4294967296-y+4294967296-b)%4294967296:=by unfold xf;omega
 have hx':x^^^y<4294967296:=Dz hx hy
 have ho:Fq x y b=if ((!decide (2147483648≤x)&&decide (2147483648≤y))||(!(decide (2147483648≤x)^^decide (2147483648≤y))&&decide (2147483648≤xf x y b))) then 1 else 0:=by
  unfold Fq
  simp only[Nat.mod_eq_of_lt hx,Nat.mod_eq_of_lt hy,Nat.mod_eq_of_lt hx',Nat.mod_eq_of_lt hd,Nat.mod_eq_of_lt (show 4294967295-x<4294967296 by omega),Nat.mod_eq_of_lt (show 4294967295-(x^^^y)<4294967296 by omega),
   Nat.mod_eq_of_lt (qJ (a:=4294967295-x) hy),Nat.mod_eq_of_lt (qJ (a:=4294967295-(x^^^y)) hd)]
  rw[QH (ud (qJ hy) (qJ hd)),Nat.testBit_or,Nat.testBit_and,Nat.testBit_and,WL hx,WL hx',yo hy,yo hd,←yo hx',Nat.testBit_xor,yo hx,yo hy]
 refine ⟨?_,?_,hd⟩
 ·rw[ho]
  by_cases h1:2147483648≤x<;>by_cases h2:2147483648≤y<;>by_cases h3:2147483648≤xf x y b<;>simp[h1,h2,h3]<;>omega
 ·rw[ho];split<;>omega
def adL (vs:List V1):Option (List Prop×AV):=
 match vs with
 |[.one (.u .u32 x),.one (.u .u32 y),.one (.u .u32 b)]=>some ([],.tup [u32 (xf x y b),u32 (Fq x y b)])
 |_=>none
theorem Tj {vs:List V1} {ob:List Prop} {r:AV} (h:adL vs=some (ob,r)) (_:cL ob):Spec 194 vs r:=by
 unfold adL at h
 split at h
 ·rename_i x y b
  obtain ⟨rfl,rfl⟩:=sI h
  exact af envE0 rfl (afk x y b) trivial rfl rfl
 ·simp at h
def qa (a b:Nat→Nat):Nat→Nat
 |0=>0
 |i+1=>(qa a b i+(a i%18446744073709551616+b i%18446744073709551616)%18446744073709551616)%18446744073709551616/4294967296
def Fi (a b:Nat→Nat) (i:Nat):Nat:=(qa a b i+(a i%18446744073709551616+b i%18446744073709551616)%18446744073709551616)%18446744073709551616%4294967296
theorem ae4 (a b:Nat→Nat):al E0 1000 144 [C8 a,C8 b] []=some ([],.tup [C8 (Fi a b),u32 (qa a b 8%4294967296)]):=by kernel_rfl
theorem Ak {a b:Nat→Nat} (ha:∀i,a i<4294967296) (hb:∀i,b i<4294967296):∀i,qa a b i≤1
 |0=>by simp[qa]
 |i+1=>by
  have:=Ak ha hb i
  have:=ha i
  have:=hb i
  simp only[qa]
  omega
theorem CC (a b:Nat) (ha:a<4294967296^8) (hb:b<4294967296^8):aW 8 0 (Fi (ak a) (ak b))=(a+b)%4294967296^8∧qa (ak a) (ak b) 8=(a+b)/4294967296^8:=by
 have h:=i0 (d:=Fi (ak a) (ak b)) (t:=fun i=>ak a i+ak b i) (c:=qa (ak a) (ak b)) 8 (fun i _=>by
  have h1:=Ak (ba a) (ba b) i
  have h2:=ba a i
  have h3:=ba b i
  simp only[Fi,qa]
  omega)
 rw[ni,ce a 8 ha,ce b 8 hb] at h
 have h1:=ip (Fi (ak a) (ak b)) 8 0 (fun i _ _=>Nat.mod_lt _ (by decide))
 simp only[qa] at h
 constructor
 ·rw[←Nat.add_zero (a+b),←h,Nat.add_mul_mod_self_left,Nat.mod_eq_of_lt h1]
 ·rw[←Nat.add_zero (a+b),←h,Nat.add_mul_div_left _ _ (by decide),Nat.div_eq_of_lt h1,Nat.zero_add];rfl
def aD (a b:Nat):Nat:=(a+b)%4294967296^8
def lb (a b:Nat):Nat:=(a+b)/4294967296^8
def AX (a b:Nat):AV:= .tup [N8 (aD a b),u32 (lb a b)]
theorem KU (a b:Nat) (ha:a<4294967296^8) (hb:b<4294967296^8):Spec 144 [N8 a,N8 b] (AX a b):=by
 have h:=af envE0 rfl (ae4 (ak a) (ak b)) trivial rfl rfl
 obtain ⟨h1,h2⟩:=CC a b ha hb
 have h3:=Ak (ba a) (ba b) 8
 refine h.congr (fun φ=>by simp only[List.map_cons,List.map_nil,c8]) (fun φ=> ?_)
 simp only[AX,aD,lb,AV.conc,List.map_cons,List.map_nil]
 rw[ew φ (u:=Fi (ak a) (ak b)) (fun i _=>Nat.mod_lt _ (by decide)) h1,show qa (ak a) (ak b) 8%4294967296=qa (ak a) (ak b) 8 from Nat.mod_eq_of_lt (by omega),h2]
def xM (a b:Nat→Nat):Nat→Nat
 |0=>0
 |i+1=>Fq (a i) (b i) (xM a b i)
def wg (a b:Nat→Nat) (i:Nat):Nat:=xf (a i) (b i) (xM a b i)
noncomputable def Jw:Env:={E0 with fn:=fun f vs=>match f with|194=>adL vs|_=>none}
theorem SS:EnvOK Jw:=by
 refine ⟨mixed,?_,fun _ _ _ _ _ h=>by simp[Jw,E0] at h,fun _ _ _ h=>by simp[Jw,E0] at h,fun _ _ _ _ _ _ h=>by simp[Jw,E0] at h⟩
 intro f vs ob r h ho
 simp only[Jw] at h
 split at h
 ·exact Tj h ho
 ·simp at h
theorem agN (a b:Nat→Nat):al Jw 1000 141 [C8 a,C8 b] []=some ([],.tup [C8 (wg a b),u32 (xM a b 8)]):=by kernel_rfl
theorem AM {a b:Nat→Nat} (ha:∀i,a i<4294967296) (hb:∀i,b i<4294967296):∀i,xM a b i≤1
 |0=>by simp[xM]
 |i+1=>(vg (ha i) (hb i) (AM ha hb i)).2.1
theorem PG (a b:Nat) (ha:a<4294967296^8) (hb:b<4294967296^8):aW 8 0 (wg (ak a) (ak b))=(a+4294967296^8-b)%4294967296^8∧xM (ak a) (ak b) 8=if a<b then 1 else 0:=by
 have h:=i0 (d:=ak a) (t:=fun i=>wg (ak a) (ak b) i+ak b i) (c:=xM (ak a) (ak b)) 8 (fun i _=>by
  have h1:=vg (ba a i) (ba b i) (AM (ba a) (ba b) i)
  simp only[wg,xM]
  omega)
 rw[ni,ce a 8 ha,ce b 8 hb] at h
 have h1:=ip (wg (ak a) (ak b)) 8 0 (fun i _ _=>Nat.mod_lt _ (by decide))
 have h2:=AM (ba a) (ba b) 8
 simp only[show xM (ak a) (ak b) 0=0 from rfl] at h
 generalize aW 8 0 (wg (ak a) (ak b))=d at*
 generalize xM (ak a) (ak b) 8=o at*
 have:o=0∨o=1:=by omega
 rcases this with rfl|rfl
 ·refine ⟨by omega,?_⟩
  rw[if_neg (by omega)]
 ·refine ⟨by omega,?_⟩
  rw[if_pos (by omega)]
def bh (a b:Nat):Nat:=(a+4294967296^8-b)%4294967296^8
def gw (a b:Nat):Nat:=if a<b then 1 else 0
def qQ (a b:Nat):AV:= .tup [N8 (bh a b),u32 (gw a b)]
theorem wO (a b:Nat) (ha:a<4294967296^8) (hb:b<4294967296^8):Spec 141 [N8 a,N8 b] (qQ a b):=by
 have h:=af SS rfl (agN (ak a) (ak b)) trivial rfl rfl
 obtain ⟨h1,h2⟩:=PG a b ha hb
 refine h.congr (fun φ=>by simp only[List.map_cons,List.map_nil,c8]) (fun φ=> ?_)
 simp only[qQ,bh,gw,AV.conc,List.map_cons,List.map_nil]
 rw[ew φ (u:=wg (ak a) (ak b)) (fun i _=>Nat.mod_lt _ (by decide)) h1,h2]
def DY (m:Nat) (a b:Nat→Nat) (i:Nat):Nat:=a i%4294967296^^^(m&&&(a i%4294967296^^^b i%4294967296)%4294967296)%4294967296
theorem abF (a b:Nat→Nat):al E0 1000 145 [C8 a,C8 b,.one (.v (.bool true))] []=some ([],.val (C8 (DY 4294967295 a b))):=by kernel_rfl
theorem aax (a b:Nat→Nat):al E0 1000 145 [C8 a,C8 b,.one (.v (.bool false))] []=some ([],.val (C8 (DY 0 a b))):=by kernel_rfl
theorem Mh {a b:Nat→Nat} (ha:∀i,a i<4294967296) (hb:∀i,b i<4294967296) (i:Nat):DY 4294967295 a b i=b i:=by
 have h:=Dz (ha i) (hb i)
 unfold DY
 rw[Nat.mod_eq_of_lt (ha i),Nat.mod_eq_of_lt (hb i),Nat.mod_eq_of_lt h,Nat.and_comm,show (4294967295:Nat)=2^32-1 from rfl,Nat.and_two_pow_sub_one_eq_mod,Nat.mod_eq_of_lt (show a i^^^b i<2^32 from h),Nat.mod_eq_of_lt h,
  ←Nat.xor_assoc,Nat.xor_self,Nat.zero_xor]
theorem Kn {a b:Nat→Nat} (ha:∀i,a i<4294967296) (i:Nat):DY 0 a b i=a i:=by
 unfold DY
 rw[Nat.zero_and,Nat.zero_mod,Nat.xor_zero,Nat.mod_eq_of_lt (ha i)]
def aeO (s:Bool) (a b:Nat):V1:=
 match s with
 |true=>N8 b
 |false=>N8 a
theorem acf (a b:Nat) (s:Bool) (ha:a<4294967296^8) (hb:b<4294967296^8):Spec 145 [N8 a,N8 b,.one (.v (.bool s))] (.val (aeO s a b)):=by
 cases s
 ·refine (af envE0 rfl (aax (ak a) (ak b)) trivial rfl rfl).congr (fun φ=>by simp only[List.map_cons,List.map_nil,c8]) (fun φ=> ?_)
  have e:∀i,DY 0 (ak a) (ak b) i=ak a i:=Kn (ba a)
  exact ew φ (fun i _=>by rw[e];exact ba a i) (by rw[cv 8 0 (fun i _ _=>e i),ce a 8 ha])
 ·refine (af envE0 rfl (abF (ak a) (ak b)) trivial rfl rfl).congr (fun φ=>by simp only[List.map_cons,List.map_nil,c8]) (fun φ=> ?_)
  have e:∀i,DY 4294967295 (ak a) (ak b) i=ak b i:=Mh (ba a) (ba b)
  exact ew φ (fun i _=>by rw[e];exact ba b i) (by rw[cv 8 0 (fun i _ _=>e i),ce b 8 hb])
def Kj (vs:List V1):Option (List Prop×AV):=
 match vs with
 |[x,y,.one (.v (.bool s))]=>match el 8 x,el 8 y with
  |some (o,a),some (o',b)=>some (o++o',.val (aeO s a b))
  |_,_=>none
 |_=>none
theorem up {vs:List V1} {ob:List Prop} {r:AV} (h:Kj vs=some (ob,r)) (ho:cL ob):Spec 145 vs r:=by
 unfold Kj at h
 split at h
 ·rename_i x y s
  split at h
  ·rename_i o a o' b hx hy
   obtain ⟨rfl,rfl⟩:=sI h
   rw[aY] at ho
   obtain ⟨h1,h2⟩:=aX hx ho.1
   obtain ⟨h3,h4⟩:=aX hy ho.2
   exact (acf a b s h1 h3).congr (fun φ=>by simp only[List.map_cons,List.map_nil];rw[←h2 φ,←h4 φ];rfl) (fun _=>rfl)
  ·simp at h
 ·simp at h
def ko (a:Nat→Nat) (b:Nat):Nat→Nat
 |0=>b
 |i+1=>a i/2147483648
def cT (a:Nat→Nat) (b:Nat) (i:Nat):Nat:=a i*2%4294967296%4294967296|||ko a b i%4294967296
theorem ae8 (a:Nat→Nat) (b:Nat):al E0 1000 214 [C8 a,u32 b] []=some ([],.tup [C8 (cT a b),u32 (ko a b 8)]):=by kernel_rfl
theorem aaj (x c:Nat) (hc:c≤1):2*x|||c=2*x+c:=by
 have:=Nat.two_pow_add_eq_or_of_lt (i:=1) (b:=c) (by omega) x
 simpa using this.symm
theorem mF {a:Nat→Nat} {b:Nat} (ha:∀i,a i<4294967296) (hb:b≤1) (i:Nat):cT a b i+4294967296*ko a b (i+1)=2*a i+ko a b i∧cT a b i<4294967296:=by
 have hc:ko a b i≤1:=by
  cases i with
  |zero=>exact hb
  |succ i=>have:=ha i;simp only[ko];omega
 have:=ha i
 unfold cT
 rw[show a i*2%4294967296%4294967296=2*(a i%2147483648) by omega,Nat.mod_eq_of_lt (show ko a b i<4294967296 by omega),aaj _ _ hc]
 rw[show ko a b (i+1)=a i/2147483648 from rfl]
 omega
theorem y9 (a b:Nat) (ha:a<4294967296^8) (hb:b≤1):aW 8 0 (cT (ak a) b)=(2*a+b)%4294967296^8∧ko (ak a) b 8=(2*a+b)/4294967296^8:=by
 have h:=i0 (d:=cT (ak a) b) (t:=fun i=>2*ak a i) (c:=ko (ak a) b) 8 (fun i _=>(mF (ba a) hb i).1)
 rw[q8,ce a 8 ha] at h
 have h1:=ip (cT (ak a) b) 8 0 (fun i _ _=>(mF (ba a) hb i).2)
 simp only[show ko (ak a) b 0=b from rfl] at h
 constructor
 ·rw[←h,Nat.add_mul_mod_self_left,Nat.mod_eq_of_lt h1]
 ·rw[←h,Nat.add_mul_div_left _ _ (by decide),Nat.div_eq_of_lt h1,Nat.zero_add]
def fZ (a b:Nat):Nat:=(2*a+b)%4294967296^8
def rm (a b:Nat):Nat:=(2*a+b)/4294967296^8
def abC (vs:List V1):Option (List Prop×AV):=
 match vs with
 |[x,.one (.u .u32 b)]=>match el 8 x with
  |some (o,a)=>some ((b≤1)::o,.tup [N8 (fZ a b),u32 (rm a b)])
  |_=>none
 |_=>none
theorem Sq {vs:List V1} {ob:List Prop} {r:AV} (h:abC vs=some (ob,r)) (ho:cL ob):Spec 214 vs r:=by
 unfold abC at h
 split at h
 ·rename_i x b
  split at h
  ·rename_i o a hx
   obtain ⟨rfl,rfl⟩:=sI h
   obtain ⟨h1,h2⟩:=aX hx ho.2
   obtain ⟨h3,h4⟩:=y9 a b h1 ho.1
   refine (af envE0 rfl (ae8 (ak a) b) trivial rfl rfl).congr (fun φ=>by simp only[List.map_cons,List.map_nil,c8];rw[←h2 φ];rfl) (fun φ=> ?_)
   simp only[AV.conc,fZ,rm,List.map_cons,List.map_nil]
   rw[ew φ (u:=cT (ak a) b) (fun i _=>(mF (ba a) ho.1 i).2) h3,h4]
  ·simp at h
 ·simp at h
def gq (a b:Nat):Int:=bif decide (a<b) then-1 else bif decide (a=b) then 0 else 1
theorem cM {a b:Nat} (h:a<b):gq a b= -1:=by simp[gq,h]
theorem qp (a:Nat):gq a a=0:=by simp[gq]
theorem cN {a b:Nat} (h:b<a):gq a b=1:=by simp[gq,show ¬a<b by omega,show ¬a=b by omega]
theorem yP (a b:Nat):decide (gq a b<0)=decide (a<b):=by
 rcases Nat.lt_trichotomy a b with h|h|h
 ·simp[cM h,h]
 ·subst h;simp[qp]
 ·simp[cN h];omega
theorem bo {a b:Nat→Nat} (ha:∀i,a i<4294967296):∀n k,k<n→(∀i,k<i→i<n→a i=b i)→a k<b k→aW n 0 a<aW n 0 b
 |0,k,hk,_,_=>by omega
 |n+1,k,hk,he,hl=>by
  rw[dQ,dQ,Nat.zero_add]
  by_cases h:k=n
  ·subst h
   have h1:=ip a k 0 (fun i _ _=>ha i)
   have h2:4294967296^k*(a k+1)≤4294967296^k*b k:=Nat.mul_le_mul_left _ hl
   rw[Nat.mul_succ] at h2
   omega
  ·have:=bo ha n k (by omega) (fun i h1 h2=>he i h1 (by omega)) hl
   rw[he n (by omega) (by omega)]
   omega
noncomputable def jm:Env:={E0 with S:=fun f t=>match f with|138=>bf t [16]|215=>bf t [5]|191=>bf t [16,19]|162=>bf t [16,23]|_=>false}
theorem eh:EnvOK jm:=⟨mixed,fun _ _ _ _ h=>by simp[jm,E0] at h,fun _ _ _ _ _ h=>by simp[jm,E0] at h,fun _ _ _ h=>by simp[jm,E0] at h,fun _ _ _ _ _ _ h=>by simp[jm,E0] at h⟩
theorem adI (x y:Nat):al jm 1000 191 [u32 x,u32 y] [false,false,true]=some ([(!decide (x=x))=false,(!decide (y=y))=false,decide (x<y)=true],iV (-1)):=by kernel_rfl
theorem acu (x y:Nat):al jm 1000 191 [u32 x,u32 y] [false,false,false,true]=some ([(!decide (x=x))=false,(!decide (y=y))=false,decide (x<y)=false,decide (y<x)=true],iV 1):=by kernel_rfl
theorem YL (x y:Nat):al jm 1000 191 [u32 x,u32 y] [false,false,false,false]=some ([(!decide (x=x))=false,(!decide (y=y))=false,decide (x<y)=false,decide (y<x)=false],iV 0):=by kernel_rfl
theorem abs (x y:Nat):Spec 191 [u32 x,u32 y] (iV (gq x y)):=by
 rcases Nat.lt_trichotomy x y with h|h|h
 ·rw[cM h]
  exact af eh rfl (adI x y) ⟨by simp,by simp,by simp[h],trivial⟩ rfl rfl
 ·subst h;rw[qp]
  exact af eh rfl (YL x x) ⟨by simp,by simp,by simp,by simp,trivial⟩ rfl rfl
 ·rw[cN h]
  exact af eh rfl (acu x y) ⟨by simp,by simp,decide_eq_false (by omega),by simp[h],trivial⟩ rfl rfl
def ZG (vs:List V1):Option (List Prop×AV):=
 match vs with
 |[.one (.u .u32 x),.one (.u .u32 y)]=>some ([],iV (gq x y))
 |_=>none
theorem Qt {vs:List V1} {ob:List Prop} {r:AV} (h:ZG vs=some (ob,r)) (_:cL ob):Spec 191 vs r:=by
 unfold ZG at h
 split at h
 ·rename_i x y
  obtain ⟨rfl,rfl⟩:=sI h
  exact abs x y
 ·simp at h
noncomputable def HO:Env:={E0 with fn:=fun f vs=>match f with|191=>ZG vs|_=>none,S:=fun f t=>match f with|138=>bf t [16]|_=>false}
theorem f6:EnvOK HO:=by
 refine ⟨mixed,?_,fun _ _ _ _ _ h=>by simp[HO,E0] at h,fun _ _ _ h=>by simp[HO,E0] at h,fun _ _ _ _ _ _ h=>by simp[HO,E0] at h⟩
 intro f vs ob r h ho
 simp only[HO] at h
 split at h
 ·exact Qt h ho
 ·simp at h
theorem H9 (a b:Nat→Nat):al HO 1000 138 [C8 a,C8 b] [false,false,false,false,false,false,false,true]=some ([(!decide (a 7=b 7))=false,(!decide (a 6=b 6))=false,(!decide (a 5=b 5))=false,(!decide (a 4=b 4))=false,(!decide (a 3=b 3))=false,(!decide (a 2=b 2))=false,(!decide (a 1=b 1))=false,(!decide (a 0=b 0))=true],iV (gq (a 0) (b 0))):=by kernel_rfl
theorem St (a b:Nat→Nat):al jm 1000 162 [C8 a,C8 b] [false,false,false,false,false,false,false,false,false,false,false,false,false,false,true]=some ([decide (a 7<b 7)=false,decide (b 7<a 7)=false,decide (a 6<b 6)=false,decide (b 6<a 6)=false,decide (a 5<b 5)=false,decide (b 5<a 5)=false,decide (a 4<b 4)=false,decide (b 4<a 4)=false,decide (a 3<b 3)=false,decide (b 3<a 3)=false,decide (a 2<b 2)=false,decide (b 2<a 2)=false,decide (a 1<b 1)=false,decide (b 1<a 1)=false,decide (a 0<b 0)=true],iV (-1)):=by kernel_rfl
theorem Tc (a b:Nat→Nat):al jm 1000 162 [C8 a,C8 b] [false,false,false,false,false,false,false,false,false,false,false,false,false,false,false,true]=some ([decide (a 7<b 7)=false,decide (b 7<a 7)=false,decide (a 6<b 6)=false,decide (b 6<a 6)=false,decide (a 5<b 5)=false,decide (b 5<a 5)=false,decide (a 4<b 4)=false,decide (b 4<a 4)=false,decide (a 3<b 3)=false,decide (b 3<a 3)=false,decide (a 2<b 2)=false,decide (b 2<a 2)=false,decide (a 1<b 1)=false,decide (b 1<a 1)=false,decide (a 0<b 0)=false,decide (b 0<a 0)=true],iV 1):=by kernel_rfl
theorem HU (a b:Nat→Nat):al HO 1000 138 [C8 a,C8 b] [false,false,false,false,false,false,true]=some ([(!decide (a 7=b 7))=false,(!decide (a 6=b 6))=false,(!decide (a 5=b 5))=false,(!decide (a 4=b 4))=false,(!decide (a 3=b 3))=false,(!decide (a 2=b 2))=false,(!decide (a 1=b 1))=true],iV (gq (a 1) (b 1))):=by kernel_rfl
theorem UC (a b:Nat→Nat):al jm 1000 162 [C8 a,C8 b] [false,false,false,false,false,false,false,false,false,false,false,false,true]=some ([decide (a 7<b 7)=false,decide (b 7<a 7)=false,decide (a 6<b 6)=false,decide (b 6<a 6)=false,decide (a 5<b 5)=false,decide (b 5<a 5)=false,decide (a 4<b 4)=false,decide (b 4<a 4)=false,decide (a 3<b 3)=false,decide (b 3<a 3)=false,decide (a 2<b 2)=false,decide (b 2<a 2)=false,decide (a 1<b 1)=true],iV (-1)):=by kernel_rfl
theorem Ve (a b:Nat→Nat):al jm 1000 162 [C8 a,C8 b] [false,false,false,false,false,false,false,false,false,false,false,false,false,true]=some ([decide (a 7<b 7)=false,decide (b 7<a 7)=false,decide (a 6<b 6)=false,decide (b 6<a 6)=false,decide (a 5<b 5)=false,decide (b 5<a 5)=false,decide (a 4<b 4)=false,decide (b 4<a 4)=false,decide (a 3<b 3)=false,decide (b 3<a 3)=false,decide (a 2<b 2)=false,decide (b 2<a 2)=false,decide (a 1<b 1)=false,decide (b 1<a 1)=true],iV 1):=by kernel_rfl
theorem I7 (a b:Nat→Nat):al HO 1000 138 [C8 a,C8 b] [false,false,false,false,false,true]=some ([(!decide (a 7=b 7))=false,(!decide (a 6=b 6))=false,(!decide (a 5=b 5))=false,(!decide (a 4=b 4))=false,(!decide (a 3=b 3))=false,(!decide (a 2=b 2))=true],iV (gq (a 2) (b 2))):=by kernel_rfl
theorem Tf (a b:Nat→Nat):al jm 1000 162 [C8 a,C8 b] [false,false,false,false,false,false,false,false,false,false,true]=some ([decide (a 7<b 7)=false,decide (b 7<a 7)=false,decide (a 6<b 6)=false,decide (b 6<a 6)=false,decide (a 5<b 5)=false,decide (b 5<a 5)=false,decide (a 4<b 4)=false,decide (b 4<a 4)=false,decide (a 3<b 3)=false,decide (b 3<a 3)=false,decide (a 2<b 2)=true],iV (-1)):=by kernel_rfl
theorem Vq (a b:Nat→Nat):al jm 1000 162 [C8 a,C8 b] [false,false,false,false,false,false,false,false,false,false,false,true]=some ([decide (a 7<b 7)=false,decide (b 7<a 7)=false,decide (a 6<b 6)=false,decide (b 6<a 6)=false,decide (a 5<b 5)=false,decide (b 5<a 5)=false,decide (a 4<b 4)=false,decide (b 4<a 4)=false,decide (a 3<b 3)=false,decide (b 3<a 3)=false,decide (a 2<b 2)=false,decide (b 2<a 2)=true],iV 1):=by kernel_rfl
theorem HR (a b:Nat→Nat):al HO 1000 138 [C8 a,C8 b] [false,false,false,false,true]=some ([(!decide (a 7=b 7))=false,(!decide (a 6=b 6))=false,(!decide (a 5=b 5))=false,(!decide (a 4=b 4))=false,(!decide (a 3=b 3))=true],iV (gq (a 3) (b 3))):=by kernel_rfl
theorem Qb (a b:Nat→Nat):al jm 1000 162 [C8 a,C8 b] [false,false,false,false,false,false,false,false,true]=some ([decide (a 7<b 7)=false,decide (b 7<a 7)=false,decide (a 6<b 6)=false,decide (b 6<a 6)=false,decide (a 5<b 5)=false,decide (b 5<a 5)=false,decide (a 4<b 4)=false,decide (b 4<a 4)=false,decide (a 3<b 3)=true],iV (-1)):=by kernel_rfl
theorem Ub (a b:Nat→Nat):al jm 1000 162 [C8 a,C8 b] [false,false,false,false,false,false,false,false,false,true]=some ([decide (a 7<b 7)=false,decide (b 7<a 7)=false,decide (a 6<b 6)=false,decide (b 6<a 6)=false,decide (a 5<b 5)=false,decide (b 5<a 5)=false,decide (a 4<b 4)=false,decide (b 4<a 4)=false,decide (a 3<b 3)=false,decide (b 3<a 3)=true],iV 1):=by kernel_rfl
theorem HL (a b:Nat→Nat):al HO 1000 138 [C8 a,C8 b] [false,false,false,true]=some ([(!decide (a 7=b 7))=false,(!decide (a 6=b 6))=false,(!decide (a 5=b 5))=false,(!decide (a 4=b 4))=true],iV (gq (a 4) (b 4))):=by kernel_rfl
theorem SJ (a b:Nat→Nat):al jm 1000 162 [C8 a,C8 b] [false,false,false,false,false,false,true]=some ([decide (a 7<b 7)=false,decide (b 7<a 7)=false,decide (a 6<b 6)=false,decide (b 6<a 6)=false,decide (a 5<b 5)=false,decide (b 5<a 5)=false,decide (a 4<b 4)=true],iV (-1)):=by kernel_rfl
theorem RK (a b:Nat→Nat):al jm 1000 162 [C8 a,C8 b] [false,false,false,false,false,false,false,true]=some ([decide (a 7<b 7)=false,decide (b 7<a 7)=false,decide (a 6<b 6)=false,decide (b 6<a 6)=false,decide (a 5<b 5)=false,decide (b 5<a 5)=false,decide (a 4<b 4)=false,decide (b 4<a 4)=true],iV 1):=by kernel_rfl
theorem IF (a b:Nat→Nat):al HO 1000 138 [C8 a,C8 b] [false,false,true]=some ([(!decide (a 7=b 7))=false,(!decide (a 6=b 6))=false,(!decide (a 5=b 5))=true],iV (gq (a 5) (b 5))):=by kernel_rfl
theorem U7 (a b:Nat→Nat):al jm 1000 162 [C8 a,C8 b] [false,false,false,false,true]=some ([decide (a 7<b 7)=false,decide (b 7<a 7)=false,decide (a 6<b 6)=false,decide (b 6<a 6)=false,decide (a 5<b 5)=true],iV (-1)):=by kernel_rfl
theorem Qi (a b:Nat→Nat):al jm 1000 162 [C8 a,C8 b] [false,false,false,false,false,true]=some ([decide (a 7<b 7)=false,decide (b 7<a 7)=false,decide (a 6<b 6)=false,decide (b 6<a 6)=false,decide (a 5<b 5)=false,decide (b 5<a 5)=true],iV 1):=by kernel_rfl
theorem H8 (a b:Nat→Nat):al HO 1000 138 [C8 a,C8 b] [false,true]=some ([(!decide (a 7=b 7))=false,(!decide (a 6=b 6))=true],iV (gq (a 6) (b 6))):=by kernel_rfl
theorem Q0 (a b:Nat→Nat):al jm 1000 162 [C8 a,C8 b] [false,false,true]=some ([decide (a 7<b 7)=false,decide (b 7<a 7)=false,decide (a 6<b 6)=true],iV (-1)):=by kernel_rfl
theorem UN (a b:Nat→Nat):al jm 1000 162 [C8 a,C8 b] [false,false,false,true]=some ([decide (a 7<b 7)=false,decide (b 7<a 7)=false,decide (a 6<b 6)=false,decide (b 6<a 6)=true],iV 1):=by kernel_rfl
theorem Jd (a b:Nat→Nat):al HO 1000 138 [C8 a,C8 b] [true]=some ([(!decide (a 7=b 7))=true],iV (gq (a 7) (b 7))):=by kernel_rfl
theorem UK (a b:Nat→Nat):al jm 1000 162 [C8 a,C8 b] [true]=some ([decide (a 7<b 7)=true],iV (-1)):=by kernel_rfl
theorem SD (a b:Nat→Nat):al jm 1000 162 [C8 a,C8 b] [false,true]=some ([decide (a 7<b 7)=false,decide (b 7<a 7)=true],iV 1):=by kernel_rfl
theorem Yw (a b:Nat→Nat):al HO 1000 138 [C8 a,C8 b] [false,false,false,false,false,false,false,false]=some ([(!decide (a 7=b 7))=false,(!decide (a 6=b 6))=false,(!decide (a 5=b 5))=false,(!decide (a 4=b 4))=false,(!decide (a 3=b 3))=false,(!decide (a 2=b 2))=false,(!decide (a 1=b 1))=false,(!decide (a 0=b 0))=false],iV 0):=by kernel_rfl
theorem abr (a b:Nat→Nat):al jm 1000 162 [C8 a,C8 b] [false,false,false,false,false,false,false,false,false,false,false,false,false,false,false,false]=some ([decide (a 7<b 7)=false,decide (b 7<a 7)=false,decide (a 6<b 6)=false,decide (b 6<a 6)=false,decide (a 5<b 5)=false,decide (b 5<a 5)=false,decide (a 4<b 4)=false,decide (b 4<a 4)=false,decide (a 3<b 3)=false,decide (b 3<a 3)=false,decide (a 2<b 2)=false,decide (b 2<a 2)=false,decide (a 1<b 1)=false,decide (b 1<a 1)=false,decide (a 0<b 0)=false,decide (b 0<a 0)=false],iV 0):=by kernel_rfl
theorem ahk (a b:Nat→Nat) (ha:∀i,a i<4294967296) (hb:∀i,b i<4294967296):Spec 138 [C8 a,C8 b] (iV (gq (aW 8 0 a) (aW 8 0 b))):=by
 by_cases h7:a 7=b 7
 ·skip
  by_cases h6:a 6=b 6
  ·skip
   by_cases h5:a 5=b 5
   ·skip
    by_cases h4:a 4=b 4
    ·skip
     by_cases h3:a 3=b 3
     ·skip
      by_cases h2:a 2=b 2
      ·skip
       by_cases h1:a 1=b 1
       ·skip
        by_cases h0:a 0=b 0
        ·skip
         have e:aW 8 0 a=aW 8 0 b:=cv 8 0 (fun i _ hi=>by rcases i with _|_|_|_|_|_|_|_|i<;>first|assumption|omega)
         rw[e,qp]
         exact af f6 rfl (Yw a b) ⟨by simp[h7],by simp[h6],by simp[h5],by simp[h4],by simp[h3],by simp[h2],by simp[h1],by simp[h0],trivial⟩ rfl rfl
        ·rcases Nat.lt_or_gt_of_ne h0 with hl|hl
         ·have hv:=bo (b:=b) ha 8 0 (by omega) (fun i h1 h2=>by rcases i with _|_|_|_|_|_|_|_|i<;>first|assumption|(apply Eq.symm;assumption)|omega) hl
          rw[cM hv,←cM hl]
          exact af f6 rfl (H9 a b) ⟨by simp[h7],by simp[h6],by simp[h5],by simp[h4],by simp[h3],by simp[h2],by simp[h1],by simp[h0],trivial⟩ rfl rfl
         ·have hv:=bo (b:=a) hb 8 0 (by omega) (fun i h1 h2=>by rcases i with _|_|_|_|_|_|_|_|i<;>first|assumption|(apply Eq.symm;assumption)|omega) hl
          rw[cN hv,←cN hl]
          exact af f6 rfl (H9 a b) ⟨by simp[h7],by simp[h6],by simp[h5],by simp[h4],by simp[h3],by simp[h2],by simp[h1],by simp[h0],trivial⟩ rfl rfl
       ·rcases Nat.lt_or_gt_of_ne h1 with hl|hl
        ·have hv:=bo (b:=b) ha 8 1 (by omega) (fun i h1 h2=>by rcases i with _|_|_|_|_|_|_|_|i<;>first|assumption|(apply Eq.symm;assumption)|omega) hl
         rw[cM hv,←cM hl]
         exact af f6 rfl (HU a b) ⟨by simp[h7],by simp[h6],by simp[h5],by simp[h4],by simp[h3],by simp[h2],by simp[h1],trivial⟩ rfl rfl
        ·have hv:=bo (b:=a) hb 8 1 (by omega) (fun i h1 h2=>by rcases i with _|_|_|_|_|_|_|_|i<;>first|assumption|(apply Eq.symm;assumption)|omega) hl
         rw[cN hv,←cN hl]
         exact af f6 rfl (HU a b) ⟨by simp[h7],by simp[h6],by simp[h5],by simp[h4],by simp[h3],by simp[h2],by simp[h1],trivial⟩ rfl rfl
      ·rcases Nat.lt_or_gt_of_ne h2 with hl|hl
       ·have hv:=bo (b:=b) ha 8 2 (by omega) (fun i h1 h2=>by rcases i with _|_|_|_|_|_|_|_|i<;>first|assumption|(apply Eq.symm;assumption)|omega) hl
        rw[cM hv,←cM hl]
        exact af f6 rfl (I7 a b) ⟨by simp[h7],by simp[h6],by simp[h5],by simp[h4],by simp[h3],by simp[h2],trivial⟩ rfl rfl
       ·have hv:=bo (b:=a) hb 8 2 (by omega) (fun i h1 h2=>by rcases i with _|_|_|_|_|_|_|_|i<;>first|assumption|(apply Eq.symm;assumption)|omega) hl
        rw[cN hv,←cN hl]
        exact af f6 rfl (I7 a b) ⟨by simp[h7],by simp[h6],by simp[h5],by simp[h4],by simp[h3],by simp[h2],trivial⟩ rfl rfl
     ·rcases Nat.lt_or_gt_of_ne h3 with hl|hl
      ·have hv:=bo (b:=b) ha 8 3 (by omega) (fun i h1 h2=>by rcases i with _|_|_|_|_|_|_|_|i<;>first|assumption|(apply Eq.symm;assumption)|omega) hl
       rw[cM hv,←cM hl]
       exact af f6 rfl (HR a b) ⟨by simp[h7],by simp[h6],by simp[h5],by simp[h4],by simp[h3],trivial⟩ rfl rfl
      ·have hv:=bo (b:=a) hb 8 3 (by omega) (fun i h1 h2=>by rcases i with _|_|_|_|_|_|_|_|i<;>first|assumption|(apply Eq.symm;assumption)|omega) hl
       rw[cN hv,←cN hl]
       exact af f6 rfl (HR a b) ⟨by simp[h7],by simp[h6],by simp[h5],by simp[h4],by simp[h3],trivial⟩ rfl rfl
    ·rcases Nat.lt_or_gt_of_ne h4 with hl|hl
     ·have hv:=bo (b:=b) ha 8 4 (by omega) (fun i h1 h2=>by rcases i with _|_|_|_|_|_|_|_|i<;>first|assumption|(apply Eq.symm;assumption)|omega) hl
      rw[cM hv,←cM hl]
      exact af f6 rfl (HL a b) ⟨by simp[h7],by simp[h6],by simp[h5],by simp[h4],trivial⟩ rfl rfl
     ·have hv:=bo (b:=a) hb 8 4 (by omega) (fun i h1 h2=>by rcases i with _|_|_|_|_|_|_|_|i<;>first|assumption|(apply Eq.symm;assumption)|omega) hl
      rw[cN hv,←cN hl]
      exact af f6 rfl (HL a b) ⟨by simp[h7],by simp[h6],by simp[h5],by simp[h4],trivial⟩ rfl rfl
   ·rcases Nat.lt_or_gt_of_ne h5 with hl|hl
    ·have hv:=bo (b:=b) ha 8 5 (by omega) (fun i h1 h2=>by rcases i with _|_|_|_|_|_|_|_|i<;>first|assumption|(apply Eq.symm;assumption)|omega) hl
     rw[cM hv,←cM hl]
     exact af f6 rfl (IF a b) ⟨by simp[h7],by simp[h6],by simp[h5],trivial⟩ rfl rfl
    ·have hv:=bo (b:=a) hb 8 5 (by omega) (fun i h1 h2=>by rcases i with _|_|_|_|_|_|_|_|i<;>first|assumption|(apply Eq.symm;assumption)|omega) hl
     rw[cN hv,←cN hl]
     exact af f6 rfl (IF a b) ⟨by simp[h7],by simp[h6],by simp[h5],trivial⟩ rfl rfl
  ·rcases Nat.lt_or_gt_of_ne h6 with hl|hl
   ·have hv:=bo (b:=b) ha 8 6 (by omega) (fun i h1 h2=>by rcases i with _|_|_|_|_|_|_|_|i<;>first|assumption|(apply Eq.symm;assumption)|omega) hl
    rw[cM hv,←cM hl]
    exact af f6 rfl (H8 a b) ⟨by simp[h7],by simp[h6],trivial⟩ rfl rfl
   ·have hv:=bo (b:=a) hb 8 6 (by omega) (fun i h1 h2=>by rcases i with _|_|_|_|_|_|_|_|i<;>first|assumption|(apply Eq.symm;assumption)|omega) hl
    rw[cN hv,←cN hl]
    exact af f6 rfl (H8 a b) ⟨by simp[h7],by simp[h6],trivial⟩ rfl rfl
 ·rcases Nat.lt_or_gt_of_ne h7 with hl|hl
  ·have hv:=bo (b:=b) ha 8 7 (by omega) (fun i h1 h2=>by rcases i with _|_|_|_|_|_|_|_|i<;>first|assumption|(apply Eq.symm;assumption)|omega) hl
   rw[cM hv,←cM hl]
   exact af f6 rfl (Jd a b) ⟨by simp[h7],trivial⟩ rfl rfl
  ·have hv:=bo (b:=a) hb 8 7 (by omega) (fun i h1 h2=>by rcases i with _|_|_|_|_|_|_|_|i<;>first|assumption|(apply Eq.symm;assumption)|omega) hl
   rw[cN hv,←cN hl]
   exact af f6 rfl (Jd a b) ⟨by simp[h7],trivial⟩ rfl rfl
theorem aha (a b:Nat→Nat) (ha:∀i,a i<4294967296) (hb:∀i,b i<4294967296):Spec 162 [C8 a,C8 b] (iV (gq (aW 8 0 a) (aW 8 0 b))):=by
 by_cases h7:a 7=b 7
 ·skip
  by_cases h6:a 6=b 6
  ·skip
   by_cases h5:a 5=b 5
   ·skip
    by_cases h4:a 4=b 4
    ·skip
     by_cases h3:a 3=b 3
     ·skip
      by_cases h2:a 2=b 2
      ·skip
       by_cases h1:a 1=b 1
       ·skip
        by_cases h0:a 0=b 0
        ·skip
         have e:aW 8 0 a=aW 8 0 b:=cv 8 0 (fun i _ hi=>by rcases i with _|_|_|_|_|_|_|_|i<;>first|assumption|omega)
         rw[e,qp]
         exact af eh rfl (abr a b) ⟨decide_eq_false (by omega),decide_eq_false (by omega),decide_eq_false (by omega),decide_eq_false (by omega),decide_eq_false (by omega),decide_eq_false (by omega),decide_eq_false (by omega),decide_eq_false (by omega),decide_eq_false (by omega),decide_eq_false (by omega),decide_eq_false (by omega),decide_eq_false (by omega),decide_eq_false (by omega),decide_eq_false (by omega),decide_eq_false (by omega),decide_eq_false (by omega),trivial⟩ rfl rfl
        ·rcases Nat.lt_or_gt_of_ne h0 with hl|hl
         ·have hv:=bo (b:=b) ha 8 0 (by omega) (fun i h1 h2=>by rcases i with _|_|_|_|_|_|_|_|i<;>first|assumption|(apply Eq.symm;assumption)|omega) hl
          rw[cM hv]
          exact af eh rfl (St a b) ⟨decide_eq_false (by omega),decide_eq_false (by omega),decide_eq_false (by omega),decide_eq_false (by omega),decide_eq_false (by omega),decide_eq_false (by omega),decide_eq_false (by omega),decide_eq_false (by omega),decide_eq_false (by omega),decide_eq_false (by omega),decide_eq_false (by omega),decide_eq_false (by omega),decide_eq_false (by omega),decide_eq_false (by omega),decide_eq_true hl,trivial⟩ rfl rfl
         ·have hv:=bo (b:=a) hb 8 0 (by omega) (fun i h1 h2=>by rcases i with _|_|_|_|_|_|_|_|i<;>first|assumption|(apply Eq.symm;assumption)|omega) hl
          rw[cN hv]
          exact af eh rfl (Tc a b) ⟨decide_eq_false (by omega),decide_eq_false (by omega),decide_eq_false (by omega),decide_eq_false (by omega),decide_eq_false (by omega),decide_eq_false (by omega),decide_eq_false (by omega),decide_eq_false (by omega),decide_eq_false (by omega),decide_eq_false (by omega),decide_eq_false (by omega),decide_eq_false (by omega),decide_eq_false (by omega),decide_eq_false (by omega),decide_eq_false (by omega),decide_eq_true hl,trivial⟩ rfl rfl
       ·rcases Nat.lt_or_gt_of_ne h1 with hl|hl
        ·have hv:=bo (b:=b) ha 8 1 (by omega) (fun i h1 h2=>by rcases i with _|_|_|_|_|_|_|_|i<;>first|assumption|(apply Eq.symm;assumption)|omega) hl
         rw[cM hv]
         exact af eh rfl (UC a b) ⟨decide_eq_false (by omega),decide_eq_false (by omega),decide_eq_false (by omega),decide_eq_false (by omega),decide_eq_false (by omega),decide_eq_false (by omega),decide_eq_false (by omega),decide_eq_false (by omega),decide_eq_false (by omega),decide_eq_false (by omega),decide_eq_false (by omega),decide_eq_false (by omega),decide_eq_true hl,trivial⟩ rfl rfl
        ·have hv:=bo (b:=a) hb 8 1 (by omega) (fun i h1 h2=>by rcases i with _|_|_|_|_|_|_|_|i<;>first|assumption|(apply Eq.symm;assumption)|omega) hl
         rw[cN hv]
         exact af eh rfl (Ve a b) ⟨decide_eq_false (by omega),decide_eq_false (by omega),decide_eq_false (by omega),decide_eq_false (by omega),decide_eq_false (by omega),decide_eq_false (by omega),decide_eq_false (by omega),decide_eq_false (by omega),decide_eq_false (by omega),decide_eq_false (by omega),decide_eq_false (by omega),decide_eq_false (by omega),decide_eq_false (by omega),decide_eq_true hl,trivial⟩ rfl rfl
      ·rcases Nat.lt_or_gt_of_ne h2 with hl|hl
       ·have hv:=bo (b:=b) ha 8 2 (by omega) (fun i h1 h2=>by rcases i with _|_|_|_|_|_|_|_|i<;>first|assumption|(apply Eq.symm;assumption)|omega) hl
        rw[cM hv]
        exact af eh rfl (Tf a b) ⟨decide_eq_false (by omega),decide_eq_false (by omega),decide_eq_false (by omega),decide_eq_false (by omega),decide_eq_false (by omega),decide_eq_false (by omega),decide_eq_false (by omega),decide_eq_false (by omega),decide_eq_false (by omega),decide_eq_false (by omega),decide_eq_true hl,trivial⟩ rfl rfl
       ·have hv:=bo (b:=a) hb 8 2 (by omega) (fun i h1 h2=>by rcases i with _|_|_|_|_|_|_|_|i<;>first|assumption|(apply Eq.symm;assumption)|omega) hl
        rw[cN hv]
        exact af eh rfl (Vq a b) ⟨decide_eq_false (by omega),decide_eq_false (by omega),decide_eq_false (by omega),decide_eq_false (by omega),decide_eq_false (by omega),decide_eq_false (by omega),decide_eq_false (by omega),decide_eq_false (by omega),decide_eq_false (by omega),decide_eq_false (by omega),decide_eq_false (by omega),decide_eq_true hl,trivial⟩ rfl rfl
     ·rcases Nat.lt_or_gt_of_ne h3 with hl|hl
      ·have hv:=bo (b:=b) ha 8 3 (by omega) (fun i h1 h2=>by rcases i with _|_|_|_|_|_|_|_|i<;>first|assumption|(apply Eq.symm;assumption)|omega) hl
       rw[cM hv]
       exact af eh rfl (Qb a b) ⟨decide_eq_false (by omega),decide_eq_false (by omega),decide_eq_false (by omega),decide_eq_false (by omega),decide_eq_false (by omega),decide_eq_false (by omega),decide_eq_false (by omega),decide_eq_false (by omega),decide_eq_true hl,trivial⟩ rfl rfl
      ·have hv:=bo (b:=a) hb 8 3 (by omega) (fun i h1 h2=>by rcases i with _|_|_|_|_|_|_|_|i<;>first|assumption|(apply Eq.symm;assumption)|omega) hl
       rw[cN hv]
       exact af eh rfl (Ub a b) ⟨decide_eq_false (by omega),decide_eq_false (by omega),decide_eq_false (by omega),decide_eq_false (by omega),decide_eq_false (by omega),decide_eq_false (by omega),decide_eq_false (by omega),decide_eq_false (by omega),decide_eq_false (by omega),decide_eq_true hl,trivial⟩ rfl rfl
    ·rcases Nat.lt_or_gt_of_ne h4 with hl|hl
     ·have hv:=bo (b:=b) ha 8 4 (by omega) (fun i h1 h2=>by rcases i with _|_|_|_|_|_|_|_|i<;>first|assumption|(apply Eq.symm;assumption)|omega) hl
      rw[cM hv]
      exact af eh rfl (SJ a b) ⟨decide_eq_false (by omega),decide_eq_false (by omega),decide_eq_false (by omega),decide_eq_false (by omega),decide_eq_false (by omega),decide_eq_false (by omega),decide_eq_true hl,trivial⟩ rfl rfl
     ·have hv:=bo (b:=a) hb 8 4 (by omega) (fun i h1 h2=>by rcases i with _|_|_|_|_|_|_|_|i<;>first|assumption|(apply Eq.symm;assumption)|omega) hl
      rw[cN hv]
      exact af eh rfl (RK a b) ⟨decide_eq_false (by omega),decide_eq_false (by omega),decide_eq_false (by omega),decide_eq_false (by omega),decide_eq_false (by omega),decide_eq_false (by omega),decide_eq_false (by omega),decide_eq_true hl,trivial⟩ rfl rfl
   ·rcases Nat.lt_or_gt_of_ne h5 with hl|hl
    ·have hv:=bo (b:=b) ha 8 5 (by omega) (fun i h1 h2=>by rcases i with _|_|_|_|_|_|_|_|i<;>first|assumption|(apply Eq.symm;assumption)|omega) hl
     rw[cM hv]
     exact af eh rfl (U7 a b) ⟨decide_eq_false (by omega),decide_eq_false (by omega),decide_eq_false (by omega),decide_eq_false (by omega),decide_eq_true hl,trivial⟩ rfl rfl
    ·have hv:=bo (b:=a) hb 8 5 (by omega) (fun i h1 h2=>by rcases i with _|_|_|_|_|_|_|_|i<;>first|assumption|(apply Eq.symm;assumption)|omega) hl
     rw[cN hv]
     exact af eh rfl (Qi a b) ⟨decide_eq_false (by omega),decide_eq_false (by omega),decide_eq_false (by omega),decide_eq_false (by omega),decide_eq_false (by omega),decide_eq_true hl,trivial⟩ rfl rfl
  ·rcases Nat.lt_or_gt_of_ne h6 with hl|hl
   ·have hv:=bo (b:=b) ha 8 6 (by omega) (fun i h1 h2=>by rcases i with _|_|_|_|_|_|_|_|i<;>first|assumption|(apply Eq.symm;assumption)|omega) hl
    rw[cM hv]
    exact af eh rfl (Q0 a b) ⟨decide_eq_false (by omega),decide_eq_false (by omega),decide_eq_true hl,trivial⟩ rfl rfl
   ·have hv:=bo (b:=a) hb 8 6 (by omega) (fun i h1 h2=>by rcases i with _|_|_|_|_|_|_|_|i<;>first|assumption|(apply Eq.symm;assumption)|omega) hl
    rw[cN hv]
    exact af eh rfl (UN a b) ⟨decide_eq_false (by omega),decide_eq_false (by omega),decide_eq_false (by omega),decide_eq_true hl,trivial⟩ rfl rfl
 ·rcases Nat.lt_or_gt_of_ne h7 with hl|hl
  ·have hv:=bo (b:=b) ha 8 7 (by omega) (fun i h1 h2=>by rcases i with _|_|_|_|_|_|_|_|i<;>first|assumption|(apply Eq.symm;assumption)|omega) hl
   rw[cM hv]
   exact af eh rfl (UK a b) ⟨decide_eq_true hl,trivial⟩ rfl rfl
  ·have hv:=bo (b:=a) hb 8 7 (by omega) (fun i h1 h2=>by rcases i with _|_|_|_|_|_|_|_|i<;>first|assumption|(apply Eq.symm;assumption)|omega) hl
   rw[cN hv]
   exact af eh rfl (SD a b) ⟨decide_eq_false (by omega),decide_eq_true hl,trivial⟩ rfl rfl
def J8 (a b:Nat):AV:=iV (gq a b)
theorem Pz (a b:Nat) (ha:a<4294967296^8) (hb:b<4294967296^8):Spec 138 [N8 a,N8 b] (J8 a b):=by
 have:=ahk (ak a) (ak b) (ba a) (ba b)
 rw[ce a 8 ha,ce b 8 hb] at this
 exact this.congr (fun φ=>by simp only[List.map_cons,List.map_nil,c8]) (fun _=>rfl)
theorem ND (a b:Nat) (ha:a<4294967296^8) (hb:b<4294967296^8):Spec 162 [N8 a,N8 b] (J8 a b):=by
 have:=aha (ak a) (ak b) (ba a) (ba b)
 rw[ce a 8 ha,ce b 8 hb] at this
 exact this.congr (fun φ=>by simp only[List.map_cons,List.map_nil,c8]) (fun _=>rfl)
noncomputable def E57:Env:={E0 with fn:=fun f vs=>match f with|162=>mT J8 vs|_=>none}
theorem XZ:EnvOK E57:=by
 refine ⟨mixed,?_,fun _ _ _ _ _ h=>by simp[E57,E0] at h,fun _ _ _ h=>by simp[E57,E0] at h,fun _ _ _ _ _ _ h=>by simp[E57,E0] at h⟩
 intro f vs ob r h ho
 simp only[E57] at h
 split at h
 ·exact de ND h ho
 ·simp at h
theorem agu (a b:Nat):al E57 1000 102 [N8 a,N8 b] []=some ([a<4294967296^8,b<4294967296^8],bV (decide (gq a b<0))):=by kernel_rfl
def yL (a b:Nat):AV:=bV (decide (a<b))
theorem vr (a b:Nat) (ha:a<4294967296^8) (hb:b<4294967296^8):Spec 102 [N8 a,N8 b] (yL a b):=by
 have:=af XZ rfl (agu a b) ⟨ha,hb,trivial⟩ rfl rfl
 rwa[yP] at this
def sbE (a b:Nat→Nat) (c i:Nat):Nat:=((a i%18446744073709551616+(18446744073709551616-b i%18446744073709551616%18446744073709551616))%18446744073709551616+(18446744073709551616-c%18446744073709551616))%18446744073709551616
def BX (a b:Nat→Nat):Nat→Nat
 |0=>0
 |i+1=>sbE a b (BX a b i) i/9223372036854775808
def SQ (a b:Nat→Nat) (i:Nat):Nat:=sbE a b (BX a b i) i%4294967296
theorem afz (a b:Nat→Nat):al E0 1000 103 [C8 a,C8 b] []=some ([],.tup [C8 (SQ a b),u32 (BX a b 8%4294967296)]):=by kernel_rfl
theorem ul {a b:Nat→Nat} (ha:∀i,a i<4294967296) (hb:∀i,b i<4294967296):∀i,BX a b i≤1∧a i+4294967296*BX a b (i+1)=SQ a b i+b i+BX a b i∧BX a b (i+1)≤1
 |0=>by
  have:=ha 0
  have:=hb 0
  simp only[BX,SQ,sbE]
  omega
 |i+1=>by
  have h:=(ul ha hb i).2.2
  have h1:=ha (i+1)
  have h2:=hb (i+1)
  refine ⟨h,?_⟩
  rw[show BX a b (i+1+1)=sbE a b (BX a b (i+1)) (i+1)/9223372036854775808 from rfl,show SQ a b (i+1)=sbE a b (BX a b (i+1)) (i+1)%4294967296 from rfl]
  generalize BX a b (i+1)=c at*
  simp only[sbE]
  omega
theorem UO (a b:Nat) (ha:a<4294967296^8) (hb:b<4294967296^8):aW 8 0 (SQ (ak a) (ak b))=(a+4294967296^8-b)%4294967296^8∧BX (ak a) (ak b) 8=if a<b then 1 else 0:=by
 have h:=i0 (d:=ak a) (t:=fun i=>SQ (ak a) (ak b) i+ak b i) (c:=BX (ak a) (ak b)) 8 (fun i _=>(ul (ba a) (ba b) i).2.1)
 rw[ni,ce a 8 ha,ce b 8 hb] at h
 have h1:=ip (SQ (ak a) (ak b)) 8 0 (fun i _ _=>Nat.mod_lt _ (by decide))
 have h2:=(ul (ba a) (ba b) 8).1
 simp only[show BX (ak a) (ak b) 0=0 from rfl] at h
 generalize aW 8 0 (SQ (ak a) (ak b))=d at*
 generalize BX (ak a) (ak b) 8=o at*
 have:o=0∨o=1:=by omega
 rcases this with rfl|rfl
 ·refine ⟨by omega,?_⟩
  rw[if_neg (by omega)]
 ·refine ⟨by omega,?_⟩
  rw[if_pos (by omega)]
theorem wn (a b:Nat) (ha:a<4294967296^8) (hb:b<4294967296^8):Spec 103 [N8 a,N8 b] (qQ a b):=by
 have h:=af envE0 rfl (afz (ak a) (ak b)) trivial rfl rfl
 obtain ⟨h1,h2⟩:=UO a b ha hb
 have h3:=(ul (ba a) (ba b) 8).1
 refine h.congr (fun φ=>by simp only[List.map_cons,List.map_nil,c8]) (fun φ=> ?_)
 simp only[qQ,bh,gw,AV.conc,List.map_cons,List.map_nil]
 rw[ew φ (u:=SQ (ak a) (ak b)) (fun i _=>Nat.mod_lt _ (by decide)) h1,show BX (ak a) (ak b) 8%4294967296=BX (ak a) (ak b) 8 from Nat.mod_eq_of_lt (by omega),h2]
def kc (k:Nat):Code→Option Code
 | .loop y=>match Nat.beq (lid y) k with
  |true=>some y
  |false=>kc k y
 | .seq a b=>match kc k a with
  |some y=>some y
  |none=>kc k b
 | .cond _ a b=>match kc k a with
  |some y=>some y
  |none=>kc k b
 | .block _ a=>kc k a
 |_=>none
def ah (P:Program) (f k:Nat):Code:=
 match P.funcs[f]? with
 |some fn=>match fn.body with
  |some c=>match kc k c with
   |some y=>y
   |none=> .skip
  |none=> .skip
 |none=> .skip
def er (B:Blk):Prop:=∀f,aI f B.ps=true
theorem cc {T:List AV} {M:List Blk} (hM:∀b∈M,er b) (h:cw M.length T=true):dl T M=true:=by
 unfold dl
 rw[h,Bool.true_and]
 clear h
 generalize M.length=n
 induction M with
 |nil=>rfl
 |cons b M ih=>
  simp only[mJ,hM b (by simp) _,Bool.true_and]
  exact ih (fun x hx=>hM x (by simp[hx]))
def bN (u:Nat→Nat):Blk:=⟨bp 8 0 u,32,true,false,0⟩
def bW (u:Nat→Nat):Blk:=⟨bp 16 0 u,110,true,false,0⟩
theorem iy (u:Nat→Nat):er (bN u):=fun f=>gY u f 8 0
theorem jN (u:Nat→Nat):er (bW u):=fun f=>gY u f 16 0
def fo (T0:List AV) (M0:List Blk) (TF:List AV) (MF:List Blk) (ex:Ex):List AV→List Blk→List Bool→E7:=
 HT (α:=Unit) (fun _ _=>()) (fun _=>[]) (fun _=>T0) (fun _=>M0) (fun _=>TF) (fun _=>MF) ex
theorem bz {P:Program} {y:Code} {T0:List AV} {M0:List Blk} {TF:List AV} {MF:List Blk} {ex:Ex} (hl:MF.length=M0.length) (h:Goes P (.loop y) ex T0 M0 TF MF):pa P (.loop y) (fo T0 M0 TF MF ex):=
 Hq (fun _=>hl) fun _ _=>h
noncomputable def EL1 (E:Env) (k:Nat) (y:Code) (f:List AV→List Blk→List Bool→E7):Env:=
 {E with lp:=fun j=>match Nat.beq j k with|true=>some (y,f)|false=>none}
theorem kj {E:Env} (hE:EnvOK E) {k:Nat} {y:Code} {f:List AV→List Blk→List Bool→E7} (h:pa E.P (.loop y) f):EnvOK (EL1 E k y f):=by
 refine ⟨hE.mixed,hE.fns,hE.fms,?_,hE.fbs⟩
 intro j y' f' hj
 simp only[EL1] at hj
 split at hj
 ·obtain ⟨rfl,rfl⟩:=sI hj
  exact h
 ·simp at hj
def dF (T:Nat→Nat→Nat):Nat→Nat
 |0=>0
 |k+1=>T (dF T k) k/4294967296
def jh (T:Nat→Nat→Nat) (w:Nat→Nat) (i j:Nat):Nat:=
 match Nat.blt j i with
 |true=>w j
 |false=>match Nat.blt j (i+8) with
  |true=>T (dF T (j-i)) (j-i)%4294967296
  |false=>match Nat.beq j (i+8) with
   |true=>dF T 8%4294967296
   |false=>w j
def Cy (x:Nat) (b w:Nat→Nat) (i c k:Nat):Nat:=(c+(x%18446744073709551616*(b k%18446744073709551616)%18446744073709551616+w (i+k)%18446744073709551616)%18446744073709551616)%18446744073709551616
def Ef (x:Nat) (b w:Nat→Nat) (i c k:Nat):Nat:=((c+x%18446744073709551616*(b k%18446744073709551616)%18446744073709551616)%18446744073709551616+w (i+k)%18446744073709551616)%18446744073709551616
theorem Ox {x y w c:Nat} (hx:x<4294967296) (hy:y<4294967296) (hw:w<4294967296) (hc:c<4294967296):
  (c+(x%18446744073709551616*(y%18446744073709551616)%18446744073709551616+w%18446744073709551616)%18446744073709551616)%18446744073709551616=c+x*y+w∧
  ((c+x%18446744073709551616*(y%18446744073709551616)%18446744073709551616)%18446744073709551616+w%18446744073709551616)%18446744073709551616=c+x*y+w∧(c+x*y+w)/4294967296<4294967296:=by
 have h1:x*y≤4294967295*4294967295:=Nat.mul_le_mul (by omega) (by omega)
 rw[Nat.mod_eq_of_lt (show x<18446744073709551616 by omega),Nat.mod_eq_of_lt (show y<18446744073709551616 by omega),Nat.mod_eq_of_lt (show x*y<18446744073709551616 by omega)]
 omega
theorem Rx {u w b d:Nat→Nat} {x c i:Nat} (n:Nat) (h1:∀j,j<i→u j=w j) (h2:∀k,k<n→u (k+i)=d k) (h3:u (i+n)=c)
  (hs:aW n 0 d+4294967296^n*c=x*aW n 0 b+aW n i w):aW (i+(n+1)) 0 u=aW (i+n) 0 w+4294967296^i*(x*aW n 0 b):=by
 have e1:aW i 0 u=aW i 0 w:=cv i 0 (fun j _ hj=>h1 j (by omega))
 have e2:aW n i u=aW n 0 d:=by
  have:=f7 u i n 0
  rw[Nat.zero_add] at this
  rw[←this]
  exact cv n 0 (fun k _ hk=>h2 k (by omega))
 rw[dG u i (n+1) 0,dG w i n 0,Nat.zero_add,dQ,e1,e2,h3,hs,Nat.mul_add]
 omega
theorem qF {T:Nat→Nat→Nat} {x:Nat} {b w:Nat→Nat} {i:Nat} (hx:x<4294967296) (hb:∀k,b k<4294967296) (hw:∀k,w k<4294967296)
  (hT:∀c k,c<4294967296→T c k=c+x*b k+w (i+k)):∀k,dF T k<4294967296
 |0=>by simp[dF]
 |k+1=>by
  have ih:=qF hx hb hw hT k
  simp only[dF,hT _ _ ih];exact (Ox hx (hb k) (hw (i+k)) ih).2.2
theorem xa {T:Nat→Nat→Nat} {x:Nat} {b w:Nat→Nat} {i:Nat} (hx:x<4294967296) (hb:∀k,b k<4294967296) (hw:∀k,w k<4294967296)
  (hT:∀c k,c<4294967296→T c k=c+x*b k+w (i+k)) (n:Nat):aW n 0 (fun k=>T (dF T k) k%4294967296)+4294967296^n*dF T n=x*aW n 0 b+aW n i w:=by
 have hs:=i0 (d:=fun k=>T (dF T k) k%4294967296) (t:=fun k=>x*b k+w (k+i)) (c:=dF T) n (fun k _=>by
  have:=hT _ k (qF hx hb hw hT k)
  rw[show dF T (k+1)=T (dF T k) k/4294967296 from rfl,Nat.mod_add_div,this,Nat.add_comm k i]
  omega)
 rw[ni,q8,f7,Nat.zero_add,show dF T 0=0 from rfl,Nat.add_zero] at hs
 exact hs
theorem j9 {j i:Nat} (h:j<i):Nat.blt j i=true:=Nat.ble_eq_true_of_le h
theorem kh {j i:Nat} (h:¬j<i):Nat.blt j i=false:=by
 rw[Bool.eq_false_iff];intro h';exact h (Nat.le_of_ble_eq_true h')
theorem Ra {T:Nat→Nat→Nat} {w:Nat→Nat} {i:Nat} (hw:∀k,w k<4294967296) (j:Nat):jh T w i j<4294967296:=by
 unfold jh
 split
 ·exact hw j
 ·split
  ·exact Nat.mod_lt _ (by decide)
  ·split
   ·exact Nat.mod_lt _ (by decide)
   ·exact hw j
theorem Lg {T:Nat→Nat→Nat} {x:Nat} {b w:Nat→Nat} {i:Nat} (hx:x<4294967296) (hb:∀k,b k<4294967296) (hw:∀k,w k<4294967296)
  (hT:∀c k,c<4294967296→T c k=c+x*b k+w (i+k)):
  aW (i+(8+1)) 0 (jh T w i)=aW (i+8) 0 w+4294967296^i*(x*aW 8 0 b):=by
 refine Rx (d:=fun k=>T (dF T k) k%4294967296) (c:=dF T 8) 8 ?_ ?_ ?_ (xa hx hb hw hT 8)
 ·intro j hj
  unfold jh
  rw[j9 hj]
 ·intro k hk
  unfold jh
  rw[kh (show ¬k+i<i by omega),j9 (show k+i<i+8 by omega),Nat.add_sub_cancel]
 ·unfold jh
  rw[kh (show ¬i+8<i by omega),kh (show ¬i+8<i+8 by omega),show Nat.beq (i+8) (i+8)=true from Nat.beq_refl _]
  exact Nat.mod_eq_of_lt (qF hx hb hw hT 8)
def jJ (T:Nat→(Nat→Nat)→(Nat→Nat)→Nat→Nat→Nat→Nat) (a b:Nat→Nat):Nat→Nat→Nat
 |0=>fun _=>0
 |i+1=>jh (T (a i) b (jJ T a b i) i) (jJ T a b i) i
theorem sD {T:Nat→(Nat→Nat)→(Nat→Nat)→Nat→Nat→Nat→Nat} {a b:Nat→Nat} (ha:∀k,a k<4294967296) (hb:∀k,b k<4294967296)
  (hT:∀x w i c k,x<4294967296→(∀k,w k<4294967296)→c<4294967296→T x b w i c k=c+x*b k+w (i+k)):
  ∀i,aW (i+8) 0 (jJ T a b i)=aW i 0 a*aW 8 0 b∧∀j,jJ T a b i j<4294967296
 |0=>⟨by simp only[jJ,oo];simp[aW],fun j=>by simp[jJ]⟩
 |i+1=>by
  obtain ⟨h1,h2⟩:=sD ha hb hT i
  have:=Lg (T:=T (a i) b (jJ T a b i) i) (i:=i) (ha i) hb h2 (fun c k hc=>hT _ _ _ _ _ (ha i) h2 hc)
  refine ⟨?_,Ra h2⟩
  rw[show i+1+8=i+(8+1) by omega,show jJ T a b (i+1)=jh (T (a i) b (jJ T a b i) i) (jJ T a b i) i from rfl,this,h1]
  generalize aW 8 0 b=B
  rw[dQ,Nat.zero_add,Nat.add_mul,Nat.mul_assoc]
def fI (a:Nat→Nat) (i:Int):List AV:=bt 50 [(2,pV 0),(3,pV 1),(4,pV 2),(10,.val (C8 a)),(11,iV i)]
def fJ (i:Int):List AV:=bt 49 [(2,pV 0),(3,pV 1),(4,pV 2),(5,pV 3),(6,iV i)]
def zF:Nat→Nat:=fun _=>0
theorem Q7 (a b w:Nat→Nat):aH E0 1000 (E0.S 184) (ah Tryz.prog 184 2) (fI a ((0:Nat):Int)) [bN a,bN b,bW w] [] (fI a ((0+1:Nat):Int)) 3=
  some ([],.normal,fI a ((0+1:Nat):Int),[bN a,bN b,bW (jh (Cy (a 0) b w 0) w 0)]):=by kernel_rfl
theorem Sn (a b w:Nat→Nat):aH E0 1000 (E0.S 161) (ah Tryz.prog 161 3) (fJ ((0:Nat):Int)) [bN a,bN b,bW zF,bW w] [] (fJ ((0+1:Nat):Int)) 4=
  some ([],.normal,fJ ((0+1:Nat):Int),[bN a,bN b,bW zF,bW (jh (Ef (a 0) b w 0) w 0)]):=by kernel_rfl
theorem Uq (a b w:Nat→Nat):aH E0 1000 (E0.S 184) (ah Tryz.prog 184 2) (fI a ((1:Nat):Int)) [bN a,bN b,bW w] [] (fI a ((1+1:Nat):Int)) 3=
  some ([],.normal,fI a ((1+1:Nat):Int),[bN a,bN b,bW (jh (Cy (a 1) b w 1) w 1)]):=by kernel_rfl
theorem RG (a b w:Nat→Nat):aH E0 1000 (E0.S 161) (ah Tryz.prog 161 3) (fJ ((1:Nat):Int)) [bN a,bN b,bW zF,bW w] [] (fJ ((1+1:Nat):Int)) 4=
  some ([],.normal,fJ ((1+1:Nat):Int),[bN a,bN b,bW zF,bW (jh (Ef (a 1) b w 1) w 1)]):=by kernel_rfl
theorem Qg (a b w:Nat→Nat):aH E0 1000 (E0.S 184) (ah Tryz.prog 184 2) (fI a ((2:Nat):Int)) [bN a,bN b,bW w] [] (fI a ((2+1:Nat):Int)) 3=
  some ([],.normal,fI a ((2+1:Nat):Int),[bN a,bN b,bW (jh (Cy (a 2) b w 2) w 2)]):=by kernel_rfl
theorem QM (a b w:Nat→Nat):aH E0 1000 (E0.S 161) (ah Tryz.prog 161 3) (fJ ((2:Nat):Int)) [bN a,bN b,bW zF,bW w] [] (fJ ((2+1:Nat):Int)) 4=
  some ([],.normal,fJ ((2+1:Nat):Int),[bN a,bN b,bW zF,bW (jh (Ef (a 2) b w 2) w 2)]):=by kernel_rfl
theorem Sa (a b w:Nat→Nat):aH E0 1000 (E0.S 184) (ah Tryz.prog 184 2) (fI a ((3:Nat):Int)) [bN a,bN b,bW w] [] (fI a ((3+1:Nat):Int)) 3=
  some ([],.normal,fI a ((3+1:Nat):Int),[bN a,bN b,bW (jh (Cy (a 3) b w 3) w 3)]):=by kernel_rfl
theorem Tg (a b w:Nat→Nat):aH E0 1000 (E0.S 161) (ah Tryz.prog 161 3) (fJ ((3:Nat):Int)) [bN a,bN b,bW zF,bW w] [] (fJ ((3+1:Nat):Int)) 4=
  some ([],.normal,fJ ((3+1:Nat):Int),[bN a,bN b,bW zF,bW (jh (Ef (a 3) b w 3) w 3)]):=by kernel_rfl
theorem U2 (a b w:Nat→Nat):aH E0 1000 (E0.S 184) (ah Tryz.prog 184 2) (fI a ((4:Nat):Int)) [bN a,bN b,bW w] [] (fI a ((4+1:Nat):Int)) 3=
  some ([],.normal,fI a ((4+1:Nat):Int),[bN a,bN b,bW (jh (Cy (a 4) b w 4) w 4)]):=by kernel_rfl
theorem Vz (a b w:Nat→Nat):aH E0 1000 (E0.S 161) (ah Tryz.prog 161 3) (fJ ((4:Nat):Int)) [bN a,bN b,bW zF,bW w] [] (fJ ((4+1:Nat):Int)) 4=
  some ([],.normal,fJ ((4+1:Nat):Int),[bN a,bN b,bW zF,bW (jh (Ef (a 4) b w 4) w 4)]):=by kernel_rfl
theorem P' (a b w:Nat→Nat):aH E0 1000 (E0.S 184) (ah Tryz.prog 184 2) (fI a ((5:Nat):Int)) [bN a,bN b,bW w] [] (fI a ((5+1:Nat):Int)) 3=
  some ([],.normal,fI a ((5+1:Nat):Int),[bN a,bN b,bW (jh (Cy (a 5) b w 5) w 5)]):=by kernel_rfl
theorem Uj (a b w:Nat→Nat):aH E0 1000 (E0.S 161) (ah Tryz.prog 161 3) (fJ ((5:Nat):Int)) [bN a,bN b,bW zF,bW w] [] (fJ ((5+1:Nat):Int)) 4=
  some ([],.normal,fJ ((5+1:Nat):Int),[bN a,bN b,bW zF,bW (jh (Ef (a 5) b w 5) w 5)]):=by kernel_rfl
theorem TQ (a b w:Nat→Nat):aH E0 1000 (E0.S 184) (ah Tryz.prog 184 2) (fI a ((6:Nat):Int)) [bN a,bN b,bW w] [] (fI a ((6+1:Nat):Int)) 3=
  some ([],.normal,fI a ((6+1:Nat):Int),[bN a,bN b,bW (jh (Cy (a 6) b w 6) w 6)]):=by kernel_rfl
theorem VC (a b w:Nat→Nat):aH E0 1000 (E0.S 161) (ah Tryz.prog 161 3) (fJ ((6:Nat):Int)) [bN a,bN b,bW zF,bW w] [] (fJ ((6+1:Nat):Int)) 4=
  some ([],.normal,fJ ((6+1:Nat):Int),[bN a,bN b,bW zF,bW (jh (Ef (a 6) b w 6) w 6)]):=by kernel_rfl
theorem Rc (a b w:Nat→Nat):aH E0 1000 (E0.S 184) (ah Tryz.prog 184 2) (fI a ((7:Nat):Int)) [bN a,bN b,bW w] [] (fI a ((7+1:Nat):Int)) 3=
  some ([],.normal,fI a ((7+1:Nat):Int),[bN a,bN b,bW (jh (Cy (a 7) b w 7) w 7)]):=by kernel_rfl
theorem SZ (a b w:Nat→Nat):aH E0 1000 (E0.S 161) (ah Tryz.prog 161 3) (fJ ((7:Nat):Int)) [bN a,bN b,bW zF,bW w] [] (fJ ((7+1:Nat):Int)) 4=
  some ([],.normal,fJ ((7+1:Nat):Int),[bN a,bN b,bW zF,bW (jh (Ef (a 7) b w 7) w 7)]):=by kernel_rfl
theorem TY (a b w:Nat→Nat):aH E0 1000 (E0.S 184) (ah Tryz.prog 184 2) (fI a ((8:Nat):Int)) [bN a,bN b,bW w] [] (fI a ((8:Nat):Int)) 3=
  some ([],.exit 0,fI a ((8:Nat):Int),[bN a,bN b,bW w]):=by kernel_rfl
theorem TS (a b w:Nat→Nat):aH E0 1000 (E0.S 161) (ah Tryz.prog 161 3) (fJ ((8:Nat):Int)) [bN a,bN b,bW zF,bW w] [] (fJ ((8:Nat):Int)) 4=
  some ([],.exit 0,fJ ((8:Nat):Int),[bN a,bN b,bW zF,bW w]):=by kernel_rfl
theorem aga (a:Nat→Nat) (i:Int):cw 3 (fI a i)=true:=by kernel_rfl
theorem ahT (i:Int):cw 4 (fJ i)=true:=by kernel_rfl
theorem oW (a b w:Nat→Nat) (i:Int):dl (fI a i) [bN a,bN b,bW w]=true:=cc (by simp[iy,jN]) (aga a i)
theorem pd (a b w:Nat→Nat) (i:Int):dl (fJ i) [bN a,bN b,bW zF,bW w]=true:=cc (by simp[iy,jN]) (ahT i)
theorem ad4 (a b:Nat→Nat):Goes Tryz.prog (.loop (ah Tryz.prog 184 2)) (.exit 0) (fI a ((0:Nat):Int)) [bN a,bN b,bW zF] (fI a ((8:Nat):Int)) [bN a,bN b,bW (jJ Cy a b 8)]:=by
 refine bJ (N:=8) (k:=3) (T:=fun k=>fI a (k:Int)) (M:=fun k=>[bN a,bN b,bW (jJ Cy a b k)]) (by simp) (fun _ _=>rfl) (fun k hk=> ?_) ?_
 ·have:Runs E0 1000 (E0.S 184) (ah Tryz.prog 184 2) .normal (fI a (k:Int)) [bN a,bN b,bW (jJ Cy a b k)] (fI a ((k+1:Nat):Int)) [bN a,bN b,bW (jh (Cy (a k) b (jJ Cy a b k) k) (jJ Cy a b k) k)]:=by
   match k,hk with
   |0,_=>exact ⟨[],_,Q7 a b _,trivial,oW _ _ _ _⟩
   |1,_=>exact ⟨[],_,Uq a b _,trivial,oW _ _ _ _⟩
   |2,_=>exact ⟨[],_,Qg a b _,trivial,oW _ _ _ _⟩
   |3,_=>exact ⟨[],_,Sa a b _,trivial,oW _ _ _ _⟩
   |4,_=>exact ⟨[],_,U2 a b _,trivial,oW _ _ _ _⟩
   |5,_=>exact ⟨[],_,P' a b _,trivial,oW _ _ _ _⟩
   |6,_=>exact ⟨[],_,TQ a b _,trivial,oW _ _ _ _⟩
   |7,_=>exact ⟨[],_,Rc a b _,trivial,oW _ _ _ _⟩
  exact this.goes envE0
 ·exact Runs.goes envE0 ⟨[],_,TY a b _,trivial,oW _ _ _ _⟩
noncomputable def afv (a b:Nat→Nat):Env:=EL1 E0 2 (ah Tryz.prog 184 2) (fo (fI a ((0:Nat):Int)) [bN a,bN b,bW zF] (fI a ((8:Nat):Int)) [bN a,bN b,bW (jJ Cy a b 8)] (.exit 0))
theorem Sl (a b:Nat→Nat):EnvOK (afv a b):=kj envE0 (bz (by simp only[List.length_cons]) (ad4 a b))
theorem aj0 (a b:Nat→Nat):al (afv a b) 1000 184 [C8 a,C8 b] []=some ([ah Tryz.prog 184 2=ah Tryz.prog 184 2,
  (fI a ((0:Nat):Int),[bN a,bN b,bW zF])=(fI a ((0:Nat):Int),[bN a,bN b,bW zF]),dl (fI a ((0:Nat):Int)) [bN a,bN b,bW zF]=true],.val (m5 (jJ Cy a b 8))):=by kernel_rfl
theorem uS (a b:Nat) (ha:a<4294967296^8) (hb:b<4294967296^8):Spec 184 [N8 a,N8 b] (.val (mO (a*b))):=by
 have h:=af (Sl (ak a) (ak b)) rfl (aj0 (ak a) (ak b)) ⟨rfl,rfl,oW _ _ _ _,trivial⟩ rfl rfl
 obtain ⟨h1,h2⟩:=sD (T:=Cy) (ba a) (ba b) (fun x w i c k hx hw hc=>(Ox hx (ba b k) (hw (i+k)) hc).1) 8
 rw[ce a 8 ha,ce b 8 hb] at h1
 exact h.congr (fun φ=>by simp only[List.map_cons,List.map_nil,c8]) (fun φ=>ry φ (fun i _=>h2 i) h1)
theorem aaP (a b:Nat→Nat):Goes Tryz.prog (.loop (ah Tryz.prog 161 3)) (.exit 0) (fJ ((0:Nat):Int)) [bN a,bN b,bW zF,bW zF] (fJ ((8:Nat):Int)) [bN a,bN b,bW zF,bW (jJ Ef a b 8)]:=by
 refine bJ (N:=8) (k:=4) (T:=fun k=>fJ (k:Int)) (M:=fun k=>[bN a,bN b,bW zF,bW (jJ Ef a b k)]) (by simp) (fun _ _=>rfl) (fun k hk=> ?_) ?_
 ·have:Runs E0 1000 (E0.S 161) (ah Tryz.prog 161 3) .normal (fJ (k:Int)) [bN a,bN b,bW zF,bW (jJ Ef a b k)] (fJ ((k+1:Nat):Int)) [bN a,bN b,bW zF,bW (jh (Ef (a k) b (jJ Ef a b k) k) (jJ Ef a b k) k)]:=by
   match k,hk with
   |0,_=>exact ⟨[],_,Sn a b _,trivial,pd _ _ _ _⟩
   |1,_=>exact ⟨[],_,RG a b _,trivial,pd _ _ _ _⟩
   |2,_=>exact ⟨[],_,QM a b _,trivial,pd _ _ _ _⟩
   |3,_=>exact ⟨[],_,Tg a b _,trivial,pd _ _ _ _⟩
   |4,_=>exact ⟨[],_,Vz a b _,trivial,pd _ _ _ _⟩
   |5,_=>exact ⟨[],_,Uj a b _,trivial,pd _ _ _ _⟩
   |6,_=>exact ⟨[],_,VC a b _,trivial,pd _ _ _ _⟩
   |7,_=>exact ⟨[],_,SZ a b _,trivial,pd _ _ _ _⟩
  exact this.goes envE0
 ·exact Runs.goes envE0 ⟨[],_,TS a b _,trivial,pd _ _ _ _⟩
noncomputable def afQ (a b:Nat→Nat):Env:=EL1 E0 3 (ah Tryz.prog 161 3) (fo (fJ ((0:Nat):Int)) [bN a,bN b,bW zF,bW zF] (fJ ((8:Nat):Int)) [bN a,bN b,bW zF,bW (jJ Ef a b 8)] (.exit 0))
theorem Wa (a b:Nat→Nat):EnvOK (afQ a b):=kj envE0 (bz (by simp only[List.length_cons]) (aaP a b))
theorem ajq (a b:Nat→Nat):al (afQ a b) 1000 161 [C8 a,C8 b] []=some ([ah Tryz.prog 161 3=ah Tryz.prog 161 3,
  (fJ ((0:Nat):Int),[bN a,bN b,bW zF,bW zF])=(fJ ((0:Nat):Int),[bN a,bN b,bW zF,bW zF]),dl (fJ ((0:Nat):Int)) [bN a,bN b,bW zF,bW zF]=true],.val (m5 (jJ Ef a b 8))):=by kernel_rfl
theorem adr (a b:Nat) (ha:a<4294967296^8) (hb:b<4294967296^8):Spec 161 [N8 a,N8 b] (.val (mO (a*b))):=by
 have h:=af (Wa (ak a) (ak b)) rfl (ajq (ak a) (ak b)) ⟨rfl,rfl,pd _ _ _ _,trivial⟩ rfl rfl
 obtain ⟨h1,h2⟩:=sD (T:=Ef) (ba a) (ba b) (fun x w i c k hx hw hc=>(Ox hx (ba b k) (hw (i+k)) hc).2.1) 8
 rw[ce a 8 ha,ce b 8 hb] at h1
 exact h.congr (fun φ=>by simp only[List.map_cons,List.map_nil,c8]) (fun φ=>ry φ (fun i _=>h2 i) h1)
theorem mm (s:ByteArray):(aZ s).length=s.size:=by simp[aZ]
def KJ:List Nat→Nat
 |[]=>0
 |b::bs=>b+256*KJ bs
def aQ (s:ByteArray):Nat:=KJ (aZ s)
def rv (n x:Nat):List Nat:=(List.range n).map fun j=>x/256^j%256
theorem L5:∀l:List Nat,(∀b∈l,b<256)→KJ l<256^l.length
 |[],_=>by simp[KJ]
 |b::l,h=>by
  have h1:=L5 l (fun x hx=>h x (by simp[hx]))
  have h2:=h b (by simp)
  simp only[KJ,List.length_cons,Nat.pow_succ];omega
theorem Eh (s:ByteArray):∀b∈aZ s,b<256:=by
 intro b hb
 simp only[aZ,List.mem_map] at hb
 obtain ⟨x,_,rfl⟩:=hb
 exact UInt8.toNat_lt x
theorem qc (s:ByteArray):aQ s<256^s.size:=by
 have:=L5 (aZ s) (Eh s)
 rwa[mm] at this
theorem Dy (l:List Nat) (h:∀b∈l,b<256):aZ (bQ l)=l:=by
 unfold aZ bQ
 rw[List.map_map]
 conv=>rhs;rw[←List.map_id l]
 apply List.map_congr_left
 intro b hb
 have:=h b hb
 simp[Function.comp,UInt8.toNat_ofNat',Nat.mod_eq_of_lt this]
theorem dh (l:List Nat):(bQ l).size=l.length:=by simp[bQ,ByteArray.size]
theorem nB (s:ByteArray):bQ (aZ s)=s:=by
 unfold bQ aZ
 rw[List.map_map]
 have:((fun n=>UInt8.ofNat n)∘UInt8.toNat)=id:=by funext x;simp[Function.comp]
 rw[this];simp
theorem fF (n x:Nat):(rv n x).length=n:=by simp[rv]
theorem aaW (n x:Nat):∀b∈rv n x,b<256:=by
 intro b hb
 simp only[rv,List.mem_map] at hb
 obtain ⟨j,_,rfl⟩:=hb
 exact Nat.mod_lt _ (by decide)
theorem YR {a k:Nat} (x:Nat) (ha:a<2^k):a|||x*2^k=a+x*2^k:=by
 have:=Nat.two_pow_add_eq_or_of_lt ha x
 rw[Nat.or_comm,Nat.mul_comm x,←this,Nat.add_comm]
def ls (acc x k:Nat):Nat:=acc%4294967296|||x%4294967296*2^k%4294967296%4294967296
theorem tA {acc x k:Nat} (ha:acc<2^k) (hx:x<256) (hk:k≤24):ls acc x k=acc+x*2^k∧acc+x*2^k<2^(k+8):=by
 have h1:acc+x*2^k<2^(k+8):=by
  have:x*2^k≤255*2^k:=Nat.mul_le_mul_right _ (by omega)
  rw[Nat.pow_add];omega
 have h2:2^(k+8)≤4294967296:=Nat.pow_le_pow_right (n:=2) (j:=32) (by decide) (by omega)
 refine ⟨?_,h1⟩
 unfold ls
 rw[Nat.mod_eq_of_lt (show acc<4294967296 by omega),Nat.mod_eq_of_lt (show x<4294967296 by omega),Nat.mod_eq_of_lt (show x*2^k<4294967296 by omega),Nat.mod_eq_of_lt (show x*2^k<4294967296 by omega)]
 exact YR x ha
def si (n:Nat) (b:Nat→UInt8):ByteArray:=⟨((List.range n).map b).toArray⟩
theorem oq {s:ByteArray} {n:Nat} (h:s.size=n):s=si n (fun i=>s.data.getD i 0):=by
 subst h
 apply ByteArray.ext
 apply Array.ext
 ·simp[si]
 ·intro i h1 h2
  simp only[si,List.getElem_toArray,List.getElem_map,List.getElem_range]
  rw[Array.getD_eq_getD_getElem?,Array.getElem?_eq_getElem h1];rfl
theorem mc (n:Nat) (b:Nat→UInt8):aZ (si n b)=(List.range n).map fun i=>(b i).toNat:=by
 simp[aZ,si,List.map_map,Function.comp]
end Go.Ev
namespace Go.Ev.H5.Ed
open Go Go.Proofs Go.RowKit
def sS (s:ByteArray):V1:= .one (.v (.string s))
def ol (b:Nat→UInt8) (i:Nat):Nat:=ls (ls (ls (ls 0 (b (4*i)).toNat 0) (b (4*i+1)).toNat 8) (b (4*i+2)).toNat 16) (b (4*i+3)).toNat 24
def KN (u:Nat→Nat) (j:Nat):Nat:=u (j/4)/2^(8*(j%4))%256
theorem abZ (b:Nat→UInt8):al E0 1000 114 [sS (si 32 b)] []=some ([],.tup [C8 (ol b),.one (.i 0)]):=by kernel_rfl
theorem abY (b:Nat→UInt8):al E0 1000 87 [sS (si 32 b)] []=some ([],.val (C8 (ol b))):=by kernel_rfl
theorem V' (u:Nat→Nat):al E0 1000 86 [C8 u] []=some ([],.val (sS (bQ ((List.range 32).map (KN u))))):=by kernel_rfl
theorem ac9 (u:Nat→Nat):al E0 1000 113 [C8 u] []=some ([],.val (sS (bQ ((List.range 32).map (KN u))))):=by kernel_rfl
theorem v9 (b:Nat→UInt8) (i:Nat):ol b i=(b (4*i)).toNat+256*(b (4*i+1)).toNat+65536*(b (4*i+2)).toNat+16777216*(b (4*i+3)).toNat∧ol b i<4294967296:=by
 have h0:=UInt8.toNat_lt (b (4*i))
 have h1:=UInt8.toNat_lt (b (4*i+1))
 have h2:=UInt8.toNat_lt (b (4*i+2))
 have h3:=UInt8.toNat_lt (b (4*i+3))
 unfold ol
 rw[(tA (acc:=0) (k:=0) (by decide) h0 (by decide)).1,(tA (k:=8) (by omega) h1 (by decide)).1,(tA (k:=16) (by omega) h2 (by decide)).1,(tA (k:=24) (by omega) h3 (by decide)).1]
 omega
theorem vk (s:ByteArray) (b:Nat→UInt8) (e:s=si 32 b):aW 8 0 (ol b)=aQ s:=by
 rw[e,aQ,mc]
 have q:=fun i=>(v9 b i).1
 simp only[aW,q,Nat.zero_add,Nat.reduceAdd,Nat.reduceMul,show List.range 32=[0,1,2,3,4,5,6,7,8,9,10,11,12,13,14,15,16,17,18,19,20,21,22,23,24,25,26,27,28,29,30,31] from rfl,List.map_cons,List.map_nil,KJ]
 omega
theorem Ur (s:ByteArray) (h:s.size=32):Spec 114 [sS s] (.tup [N8 (aQ s),.one (.i 0)]):=by
 have e:=oq h
 generalize hb:(fun i=>s.data.getD i 0)=b at e
 have h:=af envE0 rfl (abZ b) trivial rfl rfl
 refine h.congr (fun φ=>by rw[e]) (fun φ=> ?_)
 simp only[AV.conc,List.map_cons,List.map_nil]
 rw[ew φ (fun i _=>(v9 b i).2) (vk s b e)]
theorem Ux (s:ByteArray) (h:s.size=32):Spec 87 [sS s] (.val (N8 (aQ s))):=by
 have e:=oq h
 generalize hb:(fun i=>s.data.getD i 0)=b at e
 have h:=af envE0 rfl (abY b) trivial rfl rfl
 refine h.congr (fun φ=>by rw[e]) (fun φ=> ?_)
 exact ew φ (fun i _=>(v9 b i).2) (vk s b e)
theorem vZ (a:Nat):∀i,ak a i=a/4294967296^i%4294967296:=fun _=>rfl
theorem lb4 (x r:Nat) (h:r<4):x%4294967296/2^(8*r)%256=x/2^(8*r)%256:=by
 match r,h with
 |0,_=>simp only[Nat.reduceMul,Nat.reducePow];omega
 |1,_=>simp only[Nat.reduceMul,Nat.reducePow];omega
 |2,_=>simp only[Nat.reduceMul,Nat.reducePow];omega
 |3,_=>simp only[Nat.reduceMul,Nat.reducePow];omega
theorem ad3 (j:Nat):256^j=4294967296^(j/4)*2^(8*(j%4)):=by
 have h1:(4294967296:Nat)^(j/4)=256^(4*(j/4)):=by rw[Nat.pow_mul]
 have h2:(2:Nat)^(8*(j%4))=256^(j%4):=by rw[Nat.pow_mul]
 rw[h1,h2,←Nat.pow_add,Nat.div_add_mod]
theorem FR (a j:Nat):KN (ak a) j=a/256^j%256:=by
 unfold KN
 rw[vZ,lb4 _ _ (Nat.mod_lt _ (by decide)),ad3,←Nat.div_div_eq_div_mul]
theorem qD (a:Nat):(List.range 32).map (KN (ak a))=rv 32 a:=by
 unfold rv
 exact List.map_congr_left fun j _=>FR a j
theorem LZ (a:Nat):Spec 86 [N8 a] (.val (sS (bQ (rv 32 a)))):=by
 have h:=af envE0 rfl (V' (ak a)) trivial rfl rfl
 rw[qD] at h
 exact h.congr (fun φ=>by simp only[List.map_cons,List.map_nil,c8]) (fun φ=>rfl)
theorem QX (a:Nat):Spec 113 [N8 a] (.val (sS (bQ (rv 32 a)))):=by
 have h:=af envE0 rfl (ac9 (ak a)) trivial rfl rfl
 rw[qD] at h
 exact h.congr (fun φ=>by simp only[List.map_cons,List.map_nil,c8]) (fun φ=>rfl)
end Go.Ev.H5.Ed
