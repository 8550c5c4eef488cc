/- Of the proof of TopFull: what the functions come to that the law reaches. -/
import Derived.Test.YtablehofgadmeaaGreatDoorPartL
import Derived.KernelRfl
import Derived.Test.YtablehofgadmeaaGreatDoorPartK
import Derived.Test.YtablehofgadmeaaGreatDoorPartF
namespace Go.Ev
open Go Go.Proofs Go.RowKit
noncomputable def mmN (m a b:Nat):Nat:=mredN (mulN a b) m
noncomputable def outN (m a:Nat):Nat:=mredN (joinN a 0) m
def inN (m a:Nat):Nat:=remN (joinN 0 a) m
def SpecRf (f:FuncId) (g:Nat→Nat→Nat→Nat):Prop:=∀m q a b,m<4294967296^8→a<m→b<m→goodF m q→Spec f [rV0 m q,N8 a,N8 b] (.val (N8 (g m a b)))
def fnRf (g:Nat→Nat→Nat→Nat) (vs:List V1):Option (List Prop×AV):=
 match vs with
 |[.agg [.num 8 m,.a (.u .u32 q)],x,y]=>match numP 8 x,numP 8 y with
  |some (o,a),some (o',b)=>some ((m<4294967296^8)::(a<m)::(b<m)::goodF m q::(o++o'),.val (N8 (g m a b)))
  |_,_=>none
 |_=>none
theorem fnRf_ok {f:FuncId} {g:Nat→Nat→Nat→Nat} (hg:SpecRf f g) {vs:List V1} {ob:List Prop} {r:AV} (h:fnRf g vs=some (ob,r)) (ho:All ob):Spec f vs r:=by
 unfold fnRf at h
 split at h
 ·rename_i m q x y
  split at h
  ·rename_i o a o' b hx hy
   simp only[Option.some.injEq,Prod.mk.injEq] at h
   obtain ⟨rfl,rfl⟩:=h
   obtain ⟨h0,h1,h2,hq,h3⟩:=ho
   rw[All_append] at h3
   obtain ⟨_,h4⟩:=numP_spec hx h3.1
   obtain ⟨_,h5⟩:=numP_spec hy h3.2
   exact (hg m q a b h0 h1 h2 hq).congr (fun φ=>by simp only[List.map_cons,List.map_nil];rw[←h4 φ,←h5 φ];rfl) (fun _=>rfl)
  ·simp at h
 ·simp at h
def SpecRp (f:FuncId) (g:Nat→Nat→Nat→Nat):Prop:=∀m q a b,m<4294967296^8→a<m→b<4294967296^8→goodF m q→Spec f [rV0 m q,N8 a,N8 b] (.val (N8 (g m a b)))
def fnRp (g:Nat→Nat→Nat→Nat) (vs:List V1):Option (List Prop×AV):=
 match vs with
 |[.agg [.num 8 m,.a (.u .u32 q)],x,y]=>match numP 8 x,numP 8 y with
  |some (o,a),some (o',b)=>some ((m<4294967296^8)::(a<m)::goodF m q::(o++o'),.val (N8 (g m a b)))
  |_,_=>none
 |_=>none
theorem fnRp_ok {f:FuncId} {g:Nat→Nat→Nat→Nat} (hg:SpecRp f g) {vs:List V1} {ob:List Prop} {r:AV} (h:fnRp g vs=some (ob,r)) (ho:All ob):Spec f vs r:=by
 unfold fnRp at h
 split at h
 ·rename_i m q x y
  split at h
  ·rename_i o a o' b hx hy
   simp only[Option.some.injEq,Prod.mk.injEq] at h
   obtain ⟨rfl,rfl⟩:=h
   obtain ⟨h0,h1,hq,h3⟩:=ho
   rw[All_append] at h3
   obtain ⟨_,h4⟩:=numP_spec hx h3.1
   obtain ⟨h6,h5⟩:=numP_spec hy h3.2
   exact (hg m q a b h0 h1 h6 hq).congr (fun φ=>by simp only[List.map_cons,List.map_nil];rw[←h4 φ,←h5 φ];rfl) (fun _=>rfl)
  ·simp at h
 ·simp at h
def SpecR1 (f:FuncId) (g:Nat→Nat→Nat):Prop:=∀m q a,m<4294967296^8→a<m→goodF m q→Spec f [rV0 m q,N8 a] (.val (N8 (g m a)))
def fnR1 (g:Nat→Nat→Nat) (vs:List V1):Option (List Prop×AV):=
 match vs with
 |[.agg [.num 8 m,.a (.u .u32 q)],x]=>match numP 8 x with
  |some (o,a)=>some ((m<4294967296^8)::(a<m)::goodF m q::o,.val (N8 (g m a)))
  |_=>none
 |_=>none
theorem fnR1_ok {f:FuncId} {g:Nat→Nat→Nat} (hg:SpecR1 f g) {vs:List V1} {ob:List Prop} {r:AV} (h:fnR1 g vs=some (ob,r)) (ho:All ob):Spec f vs r:=by
 unfold fnR1 at h
 split at h
 ·rename_i m q x
  split at h
  ·rename_i o a hx
   simp only[Option.some.injEq,Prod.mk.injEq] at h
   obtain ⟨rfl,rfl⟩:=h
   obtain ⟨h0,h1,hq,h3⟩:=ho
   obtain ⟨_,h4⟩:=numP_spec hx h3
   exact (hg m q a h0 h1 hq).congr (fun φ=>by simp only[List.map_cons,List.map_nil];rw[←h4 φ];rfl) (fun _=>rfl)
  ·simp at h
 ·simp at h
noncomputable def EO1:Env:={E0 with
 fn:=fun f vs=>match f with
  |114=>fn2 gMul vs
  |289=>fn72 vs
  |237=>fn2 (fun a b=> .val (N16 (joinN a b))) vs
  |242=>fnDiv (fun V m=> .tup [N8 (remN V m),.one (.i 0)]) vs
  |_=>none}
theorem envEO1:EnvOK EO1:=by
 refine ⟨mixed,?_,fun _ _ _ _ _ h=>by simp[EO1,E0] at h,fun _ _ _ h=>by simp[EO1,E0] at h,fun _ _ _ _ _ _ h=>by simp[EO1,E0] at h,fun _ _ _ _ h=>by simp[EO1,E0] at h⟩
 intro f vs ob r h ho
 simp only[EO1] at h
 split at h
 ·exact fn2_ok (fun a b ha hb=>spec92 a b ha hb) h ho
 ·exact fn72_ok h ho
 ·exact fn2_ok spec77 h ho
 ·exact fnDiv_ok spec48 h ho
 ·simp at h
theorem run75 (m q a b:Nat):callR EO1 1000 283 [rV0 m q,N8 a,N8 b] []=some ([a<4294967296^8,b<4294967296^8,0<m,goodF m q,mulN a b<m*4294967296^8,mulN a b<4294967296^16,m<4294967296^8],.val (N8 (mmN m a b))):=by kernel_rfl
theorem spec75:SpecRf 283 mmN:=by
 intro m q a b hm ha hb hq
 have h1:mulN a b<m*4294967296^8:=by
  unfold mulN
  have h2:a*b≤a*4294967296^8:=Nat.mul_le_mul_left _ (by omega)
  have h3:a*4294967296^8<m*4294967296^8:=Nat.mul_lt_mul_of_pos_right ha (by decide)
  omega
 exact spec_run envEO1 rfl (run75 m q a b) ⟨by omega,by omega,by omega,hq,h1,mulN_lt (by omega) (by omega),hm,trivial⟩ rfl rfl
theorem run73 (a:Nat):callR EO1 1000 209 [N8 a] []=some ([a<4294967296^8,0<4294967296,0<4294967296,0<4294967296,0<4294967296,0<4294967296,0<4294967296,0<4294967296,0<4294967296],.val (N16 (joinN a 0))):=by kernel_rfl
def fn1 (g:Nat→AV) (vs:List V1):Option (List Prop×AV):=
 match vs with
 |[x]=>match numP 8 x with
  |some (o,a)=>some (o,g a)
  |_=>none
 |_=>none
theorem fn1_ok {f:FuncId} {g:Nat→AV} (hg:∀a,a<4294967296^8→Spec f [N8 a] (g a)) {vs:List V1} {ob:List Prop} {r:AV} (h:fn1 g vs=some (ob,r)) (ho:All ob):Spec f vs r:=by
 unfold fn1 at h
 split at h
 ·rename_i x
  split at h
  ·rename_i o a hx
   simp only[Option.some.injEq,Prod.mk.injEq] at h
   obtain ⟨rfl,rfl⟩:=h
   obtain ⟨h1,h2⟩:=numP_spec hx ho
   exact (hg a h1).congr (fun φ=>by simp only[List.map_cons,List.map_nil];rw[←h2 φ];rfl) (fun _=>rfl)
  ·simp at h
 ·simp at h
theorem spec73 (a:Nat) (ha:a<4294967296^8):Spec 209 [N8 a] (.val (N16 (joinN a 0))):=by
 have h0:(0:Nat)<4294967296:=by decide
 exact spec_run envEO1 rfl (run73 a) ⟨ha,h0,h0,h0,h0,h0,h0,h0,h0,trivial⟩ rfl rfl
noncomputable def EO2:Env:={E0 with
 fn:=fun f vs=>match f with
  |209=>fn1 (fun a=> .val (N16 (joinN a 0))) vs
  |289=>fn72 vs
  |_=>none}
theorem envEO2:EnvOK EO2:=by
 refine ⟨mixed,?_,fun _ _ _ _ _ h=>by simp[EO2,E0] at h,fun _ _ _ h=>by simp[EO2,E0] at h,fun _ _ _ _ _ _ h=>by simp[EO2,E0] at h,fun _ _ _ _ h=>by simp[EO2,E0] at h⟩
 intro f vs ob r h ho
 simp only[EO2] at h
 split at h
 ·exact fn1_ok spec73 h ho
 ·exact fn72_ok h ho
 ·simp at h
theorem run53 (m q a:Nat):callR EO2 1000 259 [rV0 m q,N8 a] []=some ([a<4294967296^8,0<m,goodF m q,joinN a 0<m*4294967296^8,joinN a 0<4294967296^16,m<4294967296^8],.val (N8 (outN m a))):=by kernel_rfl
theorem spec53:SpecR1 259 outN:=by
 intro m q a hm ha hq
 have h1:joinN a 0<m*4294967296^8:=by unfold joinN;omega
 exact spec_run envEO2 rfl (run53 m q a) ⟨by omega,by omega,hq,h1,by unfold joinN;omega,hm,trivial⟩ rfl rfl
theorem run55 (m q a:Nat):callR EO1 1000 261 [rV0 m q,N8 a] []=some ([0<4294967296,0<4294967296,0<4294967296,0<4294967296,0<4294967296,0<4294967296,0<4294967296,0<4294967296,a<4294967296^8,joinN 0 a<4294967296^16,0<m,m<4294967296^8],.val (N8 (inN m a))):=by kernel_rfl
theorem spec55 (m q a:Nat) (hm:m<4294967296^8) (h0:0<m) (ha:a<4294967296^8):Spec 261 [rV0 m q,N8 a] (.val (N8 (inN m a))):=by
 have hz:(0:Nat)<4294967296:=by decide
 exact spec_run envEO1 rfl (run55 m q a) ⟨hz,hz,hz,hz,hz,hz,hz,hz,ha,by unfold joinN;omega,h0,hm,trivial⟩ rfl rfl
def fn55 (vs:List V1):Option (List Prop×AV):=
 match vs with
 |[.agg [.num 8 m,.a (.u .u32 _)],x]=>match numP 8 x with
  |some (o,a)=>some ((m<4294967296^8)::(0<m)::o,.val (N8 (inN m a)))
  |_=>none
 |_=>none
theorem fn55_ok {vs:List V1} {ob:List Prop} {r:AV} (h:fn55 vs=some (ob,r)) (ho:All ob):Spec 261 vs r:=by
 unfold fn55 at h
 split at h
 ·rename_i m q x
  split at h
  ·rename_i o a hx
   simp only[Option.some.injEq,Prod.mk.injEq] at h
   obtain ⟨rfl,rfl⟩:=h
   obtain ⟨h0,h1,h3⟩:=ho
   obtain ⟨h5,h4⟩:=numP_spec hx h3
   exact (spec55 m q a h0 h1 h5).congr (fun φ=>by simp only[List.map_cons,List.map_nil];rw[←h4 φ];rfl) (fun _=>rfl)
  ·simp at h
 ·simp at h
noncomputable def mpowN (m a n:Nat):Nat:=mredN a m^n*4294967296^8%m
theorem mm_pow {m q x y:Nat} (hR:m<4294967296^8) (hq:goodF m q):mmN m (x*4294967296^8%m) (y*4294967296^8%m)=x*y*4294967296^8%m:=by
 unfold mmN mredN mulN
 have h1:Cg m (x*4294967296^8%m*(y*4294967296^8%m)*rinv m) (x*4294967296^8*(y*4294967296^8)*rinv m):=((Cg.mod m _).mul (Cg.mod m _)).mul (Cg.refl _ _)
 have h2:x*4294967296^8*(y*4294967296^8)*rinv m=x*y*4294967296^8*(4294967296^8*rinv m):=by
  generalize (4294967296:Nat)^8=R
  ac_rfl
 have h3:Cg m (x*y*4294967296^8*(4294967296^8*rinv m)) (x*y*4294967296^8*1):=(Cg.refl _ _).mul (rinv_spec hR hq)
 rw[Nat.mul_one] at h3
 exact h1.trans ((Cg.of_eq h2).trans h3)
theorem mred_back {m q a:Nat} (hR:m<4294967296^8) (hq:goodF m q) (ha:a<m):mredN a m*4294967296^8%m=a:=by
 unfold mredN
 have h1:Cg m (a*rinv m%m*4294967296^8) (a*rinv m*4294967296^8):=(Cg.mod m _).mul (Cg.refl _ _)
 have h2:a*rinv m*4294967296^8=a*(4294967296^8*rinv m):=by
  generalize (4294967296:Nat)^8=R
  ac_rfl
 have h3:Cg m (a*(4294967296^8*rinv m)) (a*1):=(Cg.refl _ _).mul (rinv_spec hR hq)
 rw[Nat.mul_one] at h3
 have:=h1.trans ((Cg.of_eq h2).trans h3)
 rw[show a*rinv m%m*4294967296^8%m=a%m from this,Nat.mod_eq_of_lt ha]
noncomputable def EPw:Env:={E0 with
 fn:=fun f vs=>match f with
  |283=>fnRf mmN vs
  |284=>fn1 (fun a=>iV (lenN a:Int)) vs
  |261=>fn55 vs
  |286=>(match vs with|[x,.one (.i z)]=>(match numP 8 x with|some (o,a)=>some ((0≤z∧z<256)::o,bV (bitB a z.toNat))|_=>none)|_=>none)
  |_=>none
 S:=fun f t=>match f with
  |290=>memN t [14,16,18,25]
  |_=>false}
theorem envEPw:EnvOK EPw:=by
 refine ⟨mixed,?_,fun _ _ _ _ _ h=>by simp[EPw,E0] at h,fun _ _ _ h=>by simp[EPw,E0] at h,fun _ _ _ _ _ _ h=>by simp[EPw,E0] at h,fun _ _ _ _ h=>by simp[EPw,E0] at h⟩
 intro f vs ob r h ho
 simp only[EPw] at h
 split at h
 ·exact fnRf_ok spec75 h ho
 ·exact fn1_ok (fun a _=>spec74 a) h ho
 ·exact fn55_ok h ho
 ·split at h
  ·rename_i x z
   split at h
   ·rename_i o a hx
    simp only[Option.some.injEq,Prod.mk.injEq] at h
    obtain ⟨rfl,rfl⟩:=h
    obtain ⟨h1,h2⟩:=ho
    obtain ⟨_,h4⟩:=numP_spec hx h2
    obtain ⟨n,rfl⟩:∃n:Nat,z=(n:Int):=⟨z.toNat,by omega⟩
    exact (spec76 a n (by omega)).congr (fun φ=>by simp only[List.map_cons,List.map_nil];rw[←h4 φ];rfl) (fun _=>rfl)
   ·simp at h
  ·simp at h
 ·simp at h
def bR (m q:Nat):Blk:=⟨[.num 8 m,.a (.u .u32 q)],306,true,false,0⟩
def TP (i:Int):List AV:=slots 31 [(3,pV 0),(4,pV 1),(5,pV 2),(6,pV 3),(7,pV 4),(8,iV i)]
theorem tTP (i:Int):tmsWf 5 (TP i)=true:=by kernel_rfl
theorem wfTP (m q a n x:Nat) (i:Int):wfS (TP i) [bR m q,b8 a,b8 n,z8,b8 x]=true:=wfS_of (by
 intro b hb
 simp only[List.mem_cons,List.not_mem_nil,or_false] at hb
 rcases hb with rfl|rfl|rfl|rfl|rfl
 ·exact fun _=>rfl
 ·exact b8_free _
 ·exact b8_free _
 ·exact bN_free _
 ·exact b8_free _) (tTP i)
def obMM (m q a b:Nat):List Prop:=[m<4294967296^8,a<m,b<m,goodF m q,a<4294967296^8,b<4294967296^8]
theorem run54t (m q a n x j:Nat):runTo EPw 1000 (EPw.S 290) (bodyOf Tryz.prog 290 3) (TP (j:Int)) [bR m q,b8 a,b8 n,z8,b8 x] [true,true] (TP ((j:Int)-1)) 5=
  some ((decide (0≤(j:Int))=true)::(obMM m q x x++((bitB n j=true)::(0≤(j:Int)∧(j:Int)<256)::(n<4294967296^8)::(obMM m q (mmN m x x) a++[inI ((j:Int)-1)]))),.normal,TP ((j:Int)-1),[bR m q,b8 a,b8 n,z8,b8 (mmN m (mmN m x x) a)]):=by kernel_rfl
theorem run54f (m q a n x j:Nat):runTo EPw 1000 (EPw.S 290) (bodyOf Tryz.prog 290 3) (TP (j:Int)) [bR m q,b8 a,b8 n,z8,b8 x] [true,false] (TP ((j:Int)-1)) 5=
  some ((decide (0≤(j:Int))=true)::(obMM m q x x++((bitB n j=false)::(0≤(j:Int)∧(j:Int)<256)::(n<4294967296^8)::[inI ((j:Int)-1)])),.normal,TP ((j:Int)-1),[bR m q,b8 a,b8 n,z8,b8 (mmN m x x)]):=by kernel_rfl
theorem run54x (m q a n x:Nat):runTo EPw 1000 (EPw.S 290) (bodyOf Tryz.prog 290 3) (TP (-1)) [bR m q,b8 a,b8 n,z8,b8 x] [false] (TP (-1)) 5=
  some ([decide ((0:Int)≤-1)=false],.exit 0,TP (-1),[bR m q,b8 a,b8 n,z8,b8 x]):=by kernel_rfl
noncomputable def pwN (m a n L k:Nat):Nat:=mredN a m^(n/2^(L-k))*4294967296^8%m
theorem pwN_step {m q a n L k:Nat} (hR:m<4294967296^8) (hq:goodF m q) (ha:a<m) (hk:k<L):
  (bitB n (L-1-k)=true→mmN m (mmN m (pwN m a n L k) (pwN m a n L k)) a=pwN m a n L (k+1))∧(bitB n (L-1-k)=false→mmN m (pwN m a n L k) (pwN m a n L k)=pwN m a n L (k+1)):=by
 have e:n/2^(L-(k+1))=n/2^(L-k)+n/2^(L-k)+bitN n (L-1-k):=by
  unfold bitN
  rw[show L-k=(L-1-k)+1 by omega,show L-(k+1)=L-1-k by omega,Nat.pow_succ,←Nat.div_div_eq_div_mul]
  omega
 have sq:mmN m (pwN m a n L k) (pwN m a n L k)=mredN a m^(n/2^(L-k)+n/2^(L-k))*4294967296^8%m:=by
  unfold pwN
  rw[mm_pow hR hq,←Nat.pow_add]
 constructor
 ·intro hb
  have hb:bitN n (L-1-k)=1:=of_decide_eq_true hb
  rw[sq]
  have:=mm_pow (x:=mredN a m^(n/2^(L-k)+n/2^(L-k))) (y:=mredN a m) hR hq
  rw[mred_back hR hq ha] at this
  rw[this,←Nat.pow_succ]
  unfold pwN
  rw[e,hb]
 ·intro hb
  have hb:bitN n (L-1-k)≠1:=of_decide_eq_false hb
  have:bitN n (L-1-k)=0:=by have:=bitN_le n (L-1-k);omega
  rw[sq]
  unfold pwN
  rw[e,this,Nat.add_zero]
theorem loop54 {m q a n:Nat} (hR:m<4294967296^8) (hq:goodF m q) (ha:a<m) (hn:n<4294967296^8):
  Goes Tryz.prog (.loop (bodyOf Tryz.prog 290 3)) (.exit 0) (TP ((lenN n:Int)-1)) [bR m q,b8 a,b8 n,z8,b8 (inN m 1)] (TP (-1)) [bR m q,b8 a,b8 n,z8,b8 (mpowN m a n)]:=by
 obtain ⟨hl1,hl2⟩:=lenN_spec hn
 have hm0:0<m:=by omega
 have p0:pwN m a n (lenN n) 0=inN m 1:=by
  unfold pwN inN remN joinN
  rw[Nat.sub_zero,Nat.div_eq_of_lt hl1,Nat.pow_zero,Nat.zero_add,Nat.mul_comm]
 have p1:pwN m a n (lenN n) (lenN n)=mpowN m a n:=by
  unfold pwN mpowN
  rw[Nat.sub_self,Nat.pow_zero,Nat.div_one]
 have:=loop_goes (P:=Tryz.prog) (y:=bodyOf Tryz.prog 290 3) (ex:= .exit 0) (N:=lenN n) (k:=5) (T:=fun k=>TP ((lenN n:Int)-1-(k:Int))) (M:=fun k=>[bR m q,b8 a,b8 n,z8,b8 (pwN m a n (lenN n) k)]) (TF:=TP (-1)) (MF:=[bR m q,b8 a,b8 n,z8,b8 (pwN m a n (lenN n) (lenN n))])
  (by simp) (fun _ _=>rfl) (fun k hk=>by
   obtain ⟨s1,s2⟩:=pwN_step (n:=n) hR hq ha hk
   have hx:pwN m a n (lenN n) k<m:=Nat.mod_lt _ hm0
   have hmm:mmN m (pwN m a n (lenN n) k) (pwN m a n (lenN n) k)<m:=Nat.mod_lt _ hm0
   have hI:((lenN n-1-k:Nat):Int)=(lenN n:Int)-1-(k:Int):=by omega
   have hI2:((lenN n-1-k:Nat):Int)-1=(lenN n:Int)-1-((k+1:Nat):Int):=by omega
   have o0:decide (0≤((lenN n-1-k:Nat):Int))=true:=decide_eq_true (by omega)
   have o1:0≤((lenN n-1-k:Nat):Int)∧((lenN n-1-k:Nat):Int)<256:=by omega
   have o2:inI (((lenN n-1-k:Nat):Int)-1):=by unfold inI;omega
   rw[←hI,←hI2]
   cases hb:bitB n (lenN n-1-k) with
   |true=>
    have hrun:=run54t m q a n (pwN m a n (lenN n) k) (lenN n-1-k)
    rw[s1 hb] at hrun
    exact Runs.goes envEPw ⟨_,_,hrun,⟨o0,hR,hx,hx,hq,by omega,by omega,hb,o1,hn,hR,hmm,ha,hq,by omega,by omega,o2,trivial⟩,wfTP _ _ _ _ _ _⟩
   |false=>
    have hrun:=run54f m q a n (pwN m a n (lenN n) k) (lenN n-1-k)
    rw[s2 hb] at hrun
    exact Runs.goes envEPw ⟨_,_,hrun,⟨o0,hR,hx,hx,hq,by omega,by omega,hb,o1,hn,o2,trivial⟩,wfTP _ _ _ _ _ _⟩)
  (by
   rw[show (lenN n:Int)-1-(lenN n:Int)= -1 by omega]
   exact Runs.goes envEPw ⟨[false],_,run54x _ _ _ _ _,⟨by decide,trivial⟩,wfTP _ _ _ _ _ _⟩)
 rw[p0,p1,show (lenN n:Int)-1-((0:Nat):Int)=(lenN n:Int)-1 by omega] at this
 exact this
noncomputable def EPx (m q a n:Nat):Env:={EPw with lp:=fun j=>match Nat.beq j 3 with
  |true=>some (bodyOf Tryz.prog 290 3,sumC (TP ((lenN n:Int)-1)) [bR m q,b8 a,b8 n,z8,b8 (inN m 1)] (TP (-1)) [bR m q,b8 a,b8 n,z8,b8 (mpowN m a n)] (.exit 0))
  |false=>none}
theorem envEPx {m q a n:Nat} (hR:m<4294967296^8) (hq:goodF m q) (ha:a<m) (hn:n<4294967296^8):EnvOK (EPx m q a n):=envEL1 envEPw (sumC_ok (by simp only[List.length_cons]) (loop54 hR hq ha hn))
theorem run54 (m q a n:Nat):callR (EPx m q a n) 1000 290 [rV0 m q,N8 a,N8 n] []=some ([m<4294967296^8,0<m,1<4294967296,0<4294967296,0<4294967296,0<4294967296,0<4294967296,0<4294967296,0<4294967296,0<4294967296,n<4294967296^8,inI ((lenN n:Int)-1),
  bodyOf Tryz.prog 290 3=bodyOf Tryz.prog 290 3,(TP ((lenN n:Int)-1),[bR m q,b8 a,b8 n,z8,b8 (inN m 1)])=(TP ((lenN n:Int)-1),[bR m q,b8 a,b8 n,z8,b8 (inN m 1)]),wfS (TP ((lenN n:Int)-1)) [bR m q,b8 a,b8 n,z8,b8 (inN m 1)]=true],.val (N8 (mpowN m a n))):=by kernel_rfl
theorem spec54:SpecRp 290 mpowN:=by
 intro m q a n hR ha hn hq
 have h0:(0:Nat)<4294967296:=by decide
 have h1:(1:Nat)<4294967296:=by decide
 have hl:=(lenN_spec hn).2
 exact spec_run (envEPx hR hq ha hn) rfl (run54 m q a n) ⟨hR,by omega,h1,h0,h0,h0,h0,h0,h0,h0,hn,by unfold inI;omega,rfl,rfl,wfTP _ _ _ _ _ _,trivial⟩ rfl rfl
end Go.Ev
namespace Go.NT
def Pr (p:Nat):Prop:=1<p∧∀d,d∣p→d=1∨d=p
theorem exists_factor:∀n:Nat,1<n→∃p,Pr p∧p∣n:=by
 intro n
 induction n using Nat.strongRecOn with
 |ind n ih=>
  intro hn
  by_cases hp:Pr n
  ·exact ⟨n,hp,Nat.dvd_refl n⟩
  ·have:∃d,d∣n∧d≠1∧d≠n:=by
    apply Classical.byContradiction
    intro hne
    apply hp
    refine ⟨hn,fun d hd=> ?_⟩
    apply Classical.byContradiction
    intro h
    exact hne ⟨d,hd,fun e=>h (.inl e),fun e=>h (.inr e)⟩
   obtain ⟨d,hd,h1,h2⟩:=this
   have hd0:d≠0:=by
    rintro rfl
    have:=Nat.eq_zero_of_zero_dvd hd
    omega
   have hle:=Nat.le_of_dvd (by omega) hd
   obtain ⟨p,hp1,hp2⟩:=ih d (by omega) (by omega)
   exact ⟨p,hp1,Nat.dvd_trans hp2 hd⟩
theorem euclid {p a b:Nat} (hp:Pr p) (h:p∣a*b):p∣a∨p∣b:=by
 rcases hp.2 (Nat.gcd p a) (Nat.gcd_dvd_left p a) with h1|h1
 ·exact .inr (Nat.Coprime.dvd_of_dvd_mul_left h1 h)
 ·exact .inl (by rw[←h1];exact Nat.gcd_dvd_right p a)
theorem dvd_of_pow {p a:Nat} (hp:Pr p):∀{e:Nat},p∣a^e→p∣a
 |0,h=>by
  rw[Nat.pow_zero] at h
  have:=Nat.le_of_dvd (by omega) h
  have:=hp.1
  omega
 |e+1,h=>by
  rw[Nat.pow_succ] at h
  rcases euclid hp h with h|h
  ·exact dvd_of_pow hp h
  ·exact h
def prodL:List (Nat×Nat)→Nat
 |[]=>1
 |(q,e)::r=>q^e*prodL r
def AllPr:List (Nat×Nat)→Prop
 |[]=>True
 |(q,_)::r=>Pr q∧AllPr r
def mems (q:Nat):List (Nat×Nat)→Prop
 |[]=>False
 |(p,_)::r=>q=p∨mems q r
theorem mem_of_dvd {r:Nat} (hr:Pr r):∀{L:List (Nat×Nat)},AllPr L→r∣prodL L→mems r L
 |[],_,h=>by
  have:=Nat.le_of_dvd (by simp[prodL]) h
  have:=hr.1
  simp[prodL] at*
  omega
 |(q,e)::L,hL,h=>by
  rcases euclid hr h with h|h
  ·have:=dvd_of_pow hr h
   rcases hL.1.2 r this with h1|h1
   ·have:=hr.1;omega
   ·exact .inl h1
  ·exact .inr (mem_of_dvd hr hL.2 h)
theorem mul_mod_one {x y n:Nat} (hx:x%n=1):x*y%n=y%n:=by
 rw[Nat.mul_mod,hx,Nat.one_mul,Nat.mod_mod]
theorem pow_mod_one {x n:Nat} (hn:1<n) (hx:x%n=1) (k:Nat):x^k%n=1:=by
 rw[Nat.pow_mod,hx,Nat.one_pow,Nat.mod_eq_of_lt hn]
theorem pow_gcd {g n:Nat} (hn:1<n) (a b:Nat):g^a%n=1→g^b%n=1→g^Nat.gcd a b%n=1:=by
 induction a,b using Nat.gcd.induction with
 |H0 b=>intro _ h;rwa[Nat.gcd_zero_left]
 |H1 m b hm ih=>
  intro h1 h2
  rw[Nat.gcd_rec]
  refine ih ?_ h1
  have e:g^b=(g^m)^(b/m)*g^(b%m):=by rw[←Nat.pow_mul,←Nat.pow_add,Nat.div_add_mod]
  rw[e,mul_mod_one (pow_mod_one hn h1 _)] at h2
  exact h2
theorem inj_surj:∀(N:Nat) (f:Nat→Nat),(∀i,i<N→f i<N)→(∀i j,i<N→j<N→f i=f j→i=j)→∀y,y<N→∃i,i<N∧f i=y
 |0,_,_,_,y,hy=>by omega
 |N+1,f,hf,hi,y,hy=>by
  by_cases hyv:y=f N
  ·exact ⟨N,by omega,hyv.symm⟩
  ·have hvle:=hf N (by omega)
   have hv:∀i,i<N→f i=N→f N<N:=by
    intro i hiN h
    have:f N≠N:=fun e=>by have:=hi i N (by omega) (by omega) (h.trans e.symm);omega
    omega
   have ih:=inj_surj N (fun i=>if f i=N then f N else f i)
    (fun i hiN=>by
     have:=hf i (by omega)
     split
     ·rename_i h;exact hv i hiN h
     ·omega)
    (fun i j hiN hjN h=>by
     split at h
     ·rename_i h1
      split at h
      ·rename_i h2;exact hi i j (by omega) (by omega) (h1.trans h2.symm)
      ·have:=hi N j (by omega) (by omega) h;omega
     ·split at h
      ·have:=hi i N (by omega) (by omega) h;omega
      ·exact hi i j (by omega) (by omega) h)
   by_cases hyN:y=N
   ·have hvN:f N<N:=by omega
    obtain ⟨i,h1,h2⟩:=ih (f N) hvN
    split at h2
    ·rename_i h3;exact ⟨i,by omega,by omega⟩
    ·have:=hi i N (by omega) (by omega) h2;omega
   ·obtain ⟨i,h1,h2⟩:=ih y (by omega)
    split at h2
    ·exact absurd h2.symm hyv
    ·exact ⟨i,by omega,h2⟩
section
variable {n g:Nat} {L:List (Nat×Nat)}
theorem order_min (hn:1<n) (hL:AllPr L) (hp:prodL L=n-1) (h1:g^(n-1)%n=1) (h2:∀q,mems q L→g^((n-1)/q)%n≠1) {e:Nat} (h0:0<e) (he:e<n-1):g^e%n≠1:=by
 intro h
 have hd:=pow_gcd hn e (n-1) h h1
 obtain ⟨c,hc⟩:=Nat.gcd_dvd_right e (n-1)
 have hdl:=Nat.le_of_dvd h0 (Nat.gcd_dvd_left e (n-1))
 generalize Nat.gcd e (n-1)=d at*
 have hc1:1<c:=by
  rcases c with _|_|c
  ·omega
  ·omega
  ·omega
 obtain ⟨r,hr,c',hc'⟩:=exists_factor c hc1
 have hrn:r∣n-1:=⟨d*c',by rw[hc,hc',Nat.mul_left_comm]⟩
 have hm:=mem_of_dvd hr hL (by rw[hp];exact hrn)
 apply h2 r hm
 have:(n-1)/r=d*c':=by
  rw[hc,hc',Nat.mul_left_comm]
  exact Nat.mul_div_cancel_left _ (by have:=hr.1;omega)
 rw[this,Nat.pow_mul]
 exact pow_mod_one hn hd _
theorem lucas (hn:1<n) (hL:AllPr L) (hp:prodL L=n-1) (h1:g^(n-1)%n=1) (h2:∀q,mems q L→g^((n-1)/q)%n≠1) {a:Nat} (ha:0<a) (han:a<n):∃k,g^k%n=a:=by
 have hne:∀i,i<n-1→g^i%n≠0:=by
  intro i hi h
  have:g^(n-1)%n=0:=by
   rw[show n-1=i+(n-1-i) by omega,Nat.pow_add,Nat.mul_mod,h,Nat.zero_mul,Nat.zero_mod]
  omega
 have hinj:∀i j,i<j→j<n-1→g^i%n≠g^j%n:=by
  intro i j hij hj h
  apply order_min hn hL hp h1 h2 (show 0<j-i by omega) (show j-i<n-1 by omega)
  have e1:g^(n-1-i)*g^i%n=1:=by rw[←Nat.pow_add,show n-1-i+i=n-1 by omega,h1]
  rw[Nat.mul_mod,h,←Nat.mul_mod,←Nat.pow_add,show n-1-i+j=(n-1)+(j-i) by omega,Nat.pow_add,mul_mod_one h1] at e1
  exact e1
 obtain ⟨i,hi,h⟩:=inj_surj (n-1) (fun i=>g^i%n-1)
  (fun i hi=>by
   have:=Nat.mod_lt (g^i) (show n>0 by omega)
   have:=hne i hi
   omega)
  (fun i j hi hj h=>by
   have h3:=hne i hi
   have h4:=hne j hj
   have h5:g^i%n=g^j%n:=by omega
   rcases Nat.lt_trichotomy i j with h6|h6|h6
   ·exact absurd h5 (hinj i j h6 hj)
   ·exact h6
   ·exact absurd h5.symm (hinj j i h6 hi))
  (a-1) (by omega)
 have:=hne i hi
 exact ⟨i,by omega⟩
theorem fermat_lucas (hn:1<n) (hL:AllPr L) (hp:prodL L=n-1) (h1:g^(n-1)%n=1) (h2:∀q,mems q L→g^((n-1)/q)%n≠1) {a:Nat} (ha:0<a) (han:a<n):a^(n-1)%n=1:=by
 obtain ⟨k,rfl⟩:=lucas hn hL hp h1 h2 ha han
 rw[←Nat.pow_mod,←Nat.pow_mul,Nat.mul_comm,Nat.pow_mul]
 exact pow_mod_one hn h1 k
theorem prime_lucas (hn:1<n) (hL:AllPr L) (hp:prodL L=n-1) (h1:g^(n-1)%n=1) (h2:∀q,mems q L→g^((n-1)/q)%n≠1):Pr n:=by
 refine ⟨hn,fun d hd=> ?_⟩
 have hle:=Nat.le_of_dvd (by omega) hd
 by_cases hdn:d=n
 ·exact .inr hdn
 ·left
  have h0:0<d:=by
   rcases d with _|d
   ·have:=Nat.eq_zero_of_zero_dvd hd;omega
   ·omega
  have h:=fermat_lucas hn hL hp h1 h2 h0 (by omega)
  have hd2:d∣d^(n-1):=by
   rw[show n-1=(n-2)+1 by omega,Nat.pow_succ]
   exact Nat.dvd_mul_left _ _
  have:=(Nat.dvd_mod_iff hd).2 hd2
  rw[h] at this
  exact Nat.eq_one_of_dvd_one this
end
def powK:Nat→Nat→Nat→Nat→Nat
 |0,_,_,n=>1%n
 |f+1,b,e,n=>match Nat.beq e 0 with
  |true=>1%n
  |false=>match Nat.beq (e%2) 1 with
   |true=>b*powK f (b*b%n) (e/2) n%n
   |false=>powK f (b*b%n) (e/2) n
theorem powK_eq (n:Nat):∀(f b e:Nat),e<2^f→powK f b e n=b^e%n
 |0,b,e,h=>by
  obtain rfl:e=0:=by simpa using h
  simp[powK]
 |f+1,b,e,h=>by
  rw[Nat.pow_succ] at h
  have ih:=powK_eq n f (b*b%n) (e/2) (by omega)
  have e2:(b*b)^(e/2)=b^(2*(e/2)):=by rw[Nat.pow_mul,Nat.pow_two]
  unfold powK
  split
  ·rename_i h0
   have:=Nat.eq_of_beq_eq_true h0
   subst this;simp
  ·split
   ·rename_i h1
    have h1:=Nat.eq_of_beq_eq_true h1
    have h3:b^e=b*(b*b)^(e/2):=by
     rw[e2,Nat.mul_comm,←Nat.pow_succ];congr 1;omega
    rw[ih,←Nat.pow_mod,h3,Nat.mul_mod b ((b*b)^(e/2)%n),Nat.mod_mod,←Nat.mul_mod]
   ·rename_i h1
    have h1:=Nat.ne_of_beq_eq_false h1
    have h3:b^e=(b*b)^(e/2):=by rw[e2];congr 1;omega
    rw[ih,←Nat.pow_mod,h3]
def goodAll (n g:Nat):List (Nat×Nat)→Bool
 |[]=>true
 |(q,_)::r=> !Nat.beq (powK 256 g ((n-1)/q) n) 1&&goodAll n g r
def cert (n g:Nat) (L:List (Nat×Nat)):Bool:=
 Nat.blt 1 n&&(Nat.blt n (2^256)&&(Nat.beq (prodL L) (n-1)&&(Nat.beq (powK 256 g (n-1) n) 1&&goodAll n g L)))
theorem powK_256 {g e n:Nat} (hn:n<2^256) (he:e<n):powK 256 g e n=g^e%n:=
 powK_eq n 256 g e (Nat.lt_trans he hn)
theorem goodAll_spec {n g:Nat} (hn:1<n) (hn2:n<2^256):∀{L:List (Nat×Nat)},goodAll n g L=true→∀q,mems q L→g^((n-1)/q)%n≠1
 |[],_,q,h=>h.elim
 |(p,e)::L,h,q,hq=>by
  simp only[goodAll,Bool.and_eq_true,Bool.not_eq_true'] at h
  rcases hq with rfl|hq
  ·have:=Nat.ne_of_beq_eq_false h.1
   rwa[powK_256 hn2 (Nat.lt_of_le_of_lt (Nat.div_le_self _ _) (by omega))] at this
  ·exact goodAll_spec hn hn2 h.2 q hq
theorem cert_spec {n g:Nat} {L:List (Nat×Nat)} (h:cert n g L=true):1<n∧prodL L=n-1∧g^(n-1)%n=1∧∀q,mems q L→g^((n-1)/q)%n≠1:=by
 simp only[cert,Bool.and_eq_true] at h
 obtain ⟨h1,h2,h3,h4,h5⟩:=h
 have h1:1<n:=Nat.le_of_ble_eq_true h1
 have h2:n<2^256:=Nat.le_of_ble_eq_true h2
 have h4:=Nat.eq_of_beq_eq_true h4
 rw[powK_256 h2 (by omega)] at h4
 exact ⟨h1,Nat.eq_of_beq_eq_true h3,h4,goodAll_spec h1 h2 h5⟩
theorem pratt (n g:Nat) (L:List (Nat×Nat)) (h:cert n g L=true) (hL:AllPr L):Pr n:=by
 obtain ⟨h1,h2,h3,h4⟩:=cert_spec h
 exact prime_lucas h1 hL h2 h3 h4
theorem fermat (n g:Nat) (L:List (Nat×Nat)) (h:cert n g L=true) (hL:AllPr L) {a:Nat} (ha:0<a) (han:a<n):a^(n-1)%n=1:=by
 obtain ⟨h1,h2,h3,h4⟩:=cert_spec h
 exact fermat_lucas h1 hL h2 h3 h4 ha han
theorem pr2:Pr 2:=by
 refine ⟨by decide,fun d hd=> ?_⟩
 have:=Nat.le_of_dvd (by decide) hd
 rcases d with _|_|_|d
 ·have:=Nat.eq_zero_of_zero_dvd hd;omega
 ·exact .inl rfl
 ·exact .inr rfl
 ·omega
end Go.NT
namespace Go.NT
theorem c3:cert 3 2 [(2,1)]=true:=by kernel_rfl
theorem a3:AllPr [(2,1)]:=⟨pr2,trivial⟩
theorem pr3:Pr 3:=pratt 3 2 [(2,1)] c3 a3
theorem c17:cert 17 3 [(2,4)]=true:=by kernel_rfl
theorem a17:AllPr [(2,4)]:=⟨pr2,trivial⟩
theorem pr17:Pr 17:=pratt 17 3 [(2,4)] c17 a17
theorem c7:cert 7 3 [(2,1),(3,1)]=true:=by kernel_rfl
theorem a7:AllPr [(2,1),(3,1)]:=⟨pr2,pr3,trivial⟩
theorem pr7:Pr 7:=pratt 7 3 [(2,1),(3,1)] c7 a7
theorem c239:cert 239 7 [(2,1),(7,1),(17,1)]=true:=by kernel_rfl
theorem a239:AllPr [(2,1),(7,1),(17,1)]:=⟨pr2,pr7,pr17,trivial⟩
theorem pr239:Pr 239:=pratt 239 7 [(2,1),(7,1),(17,1)] c239 a239
theorem c479:cert 479 13 [(2,1),(239,1)]=true:=by kernel_rfl
theorem a479:AllPr [(2,1),(239,1)]:=⟨pr2,pr239,trivial⟩
theorem pr479:Pr 479:=pratt 479 13 [(2,1),(239,1)] c479 a479
theorem c32573:cert 32573 2 [(2,2),(17,1),(479,1)]=true:=by kernel_rfl
theorem a32573:AllPr [(2,2),(17,1),(479,1)]:=⟨pr2,pr17,pr479,trivial⟩
theorem pr32573:Pr 32573:=pratt 32573 2 [(2,2),(17,1),(479,1)] c32573 a32573
theorem c65147:cert 65147 2 [(2,1),(32573,1)]=true:=by kernel_rfl
theorem a65147:AllPr [(2,1),(32573,1)]:=⟨pr2,pr32573,trivial⟩
theorem pr65147:Pr 65147:=pratt 65147 2 [(2,1),(32573,1)] c65147 a65147
theorem c5:cert 5 2 [(2,2)]=true:=by kernel_rfl
theorem a5:AllPr [(2,2)]:=⟨pr2,trivial⟩
theorem pr5:Pr 5:=pratt 5 2 [(2,2)] c5 a5
theorem c11:cert 11 2 [(2,1),(5,1)]=true:=by kernel_rfl
theorem a11:AllPr [(2,1),(5,1)]:=⟨pr2,pr5,trivial⟩
theorem pr11:Pr 11:=pratt 11 2 [(2,1),(5,1)] c11 a11
theorem c353:cert 353 3 [(2,5),(11,1)]=true:=by kernel_rfl
theorem a353:AllPr [(2,5),(11,1)]:=⟨pr2,pr11,trivial⟩
theorem pr353:Pr 353:=pratt 353 3 [(2,5),(11,1)] c353 a353
theorem c29:cert 29 2 [(2,2),(7,1)]=true:=by kernel_rfl
theorem a29:AllPr [(2,2),(7,1)]:=⟨pr2,pr7,trivial⟩
theorem pr29:Pr 29:=pratt 29 2 [(2,2),(7,1)] c29 a29
theorem c59:cert 59 2 [(2,1),(29,1)]=true:=by kernel_rfl
theorem a59:AllPr [(2,1),(29,1)]:=⟨pr2,pr29,trivial⟩
theorem pr59:Pr 59:=pratt 59 2 [(2,1),(29,1)] c59 a59
theorem c487:cert 487 3 [(2,1),(3,5)]=true:=by kernel_rfl
theorem a487:AllPr [(2,1),(3,5)]:=⟨pr2,pr3,trivial⟩
theorem pr487:Pr 487:=pratt 487 3 [(2,1),(3,5)] c487 a487
theorem c57467:cert 57467 2 [(2,1),(59,1),(487,1)]=true:=by kernel_rfl
theorem a57467:AllPr [(2,1),(59,1),(487,1)]:=⟨pr2,pr59,pr487,trivial⟩
theorem pr57467:Pr 57467:=pratt 57467 2 [(2,1),(59,1),(487,1)] c57467 a57467
theorem c13:cert 13 2 [(2,2),(3,1)]=true:=by kernel_rfl
theorem a13:AllPr [(2,2),(3,1)]:=⟨pr2,pr3,trivial⟩
theorem pr13:Pr 13:=pratt 13 2 [(2,2),(3,1)] c13 a13
theorem c131:cert 131 2 [(2,1),(5,1),(13,1)]=true:=by kernel_rfl
theorem a131:AllPr [(2,1),(5,1),(13,1)]:=⟨pr2,pr5,pr13,trivial⟩
theorem pr131:Pr 131:=pratt 131 2 [(2,1),(5,1),(13,1)] c131 a131
theorem c132049:cert 132049 26 [(2,4),(3,2),(7,1),(131,1)]=true:=by kernel_rfl
theorem a132049:AllPr [(2,4),(3,2),(7,1),(131,1)]:=⟨pr2,pr3,pr7,pr131,trivial⟩
theorem pr132049:Pr 132049:=pratt 132049 26 [(2,4),(3,2),(7,1),(131,1)] c132049 a132049
theorem c43:cert 43 3 [(2,1),(3,1),(7,1)]=true:=by kernel_rfl
theorem a43:AllPr [(2,1),(3,1),(7,1)]:=⟨pr2,pr3,pr7,trivial⟩
theorem pr43:Pr 43:=pratt 43 3 [(2,1),(3,1),(7,1)] c43 a43
theorem c23:cert 23 5 [(2,1),(11,1)]=true:=by kernel_rfl
theorem a23:AllPr [(2,1),(11,1)]:=⟨pr2,pr11,trivial⟩
theorem pr23:Pr 23:=pratt 23 5 [(2,1),(11,1)] c23 a23
theorem c3727:cert 3727 3 [(2,1),(3,4),(23,1)]=true:=by kernel_rfl
theorem a3727:AllPr [(2,1),(3,4),(23,1)]:=⟨pr2,pr3,pr23,trivial⟩
theorem pr3727:Pr 3727:=pratt 3727 3 [(2,1),(3,4),(23,1)] c3727 a3727
theorem c1923133:cert 1923133 2 [(2,2),(3,1),(43,1),(3727,1)]=true:=by kernel_rfl
theorem a1923133:AllPr [(2,2),(3,1),(43,1),(3727,1)]:=⟨pr2,pr3,pr43,pr3727,trivial⟩
theorem pr1923133:Pr 1923133:=pratt 1923133 2 [(2,2),(3,1),(43,1),(3727,1)] c1923133 a1923133
theorem c31:cert 31 3 [(2,1),(3,1),(5,1)]=true:=by kernel_rfl
theorem a31:AllPr [(2,1),(3,1),(5,1)]:=⟨pr2,pr3,pr5,trivial⟩
theorem pr31:Pr 31:=pratt 31 3 [(2,1),(3,1),(5,1)] c31 a31
theorem c53:cert 53 2 [(2,2),(13,1)]=true:=by kernel_rfl
theorem a53:AllPr [(2,2),(13,1)]:=⟨pr2,pr13,trivial⟩
theorem pr53:Pr 53:=pratt 53 2 [(2,2),(13,1)] c53 a53
theorem c107:cert 107 2 [(2,1),(53,1)]=true:=by kernel_rfl
theorem a107:AllPr [(2,1),(53,1)]:=⟨pr2,pr53,trivial⟩
theorem pr107:Pr 107:=pratt 107 2 [(2,1),(53,1)] c107 a107
theorem c37:cert 37 2 [(2,2),(3,2)]=true:=by kernel_rfl
theorem a37:AllPr [(2,2),(3,2)]:=⟨pr2,pr3,trivial⟩
theorem pr37:Pr 37:=pratt 37 2 [(2,2),(3,2)] c37 a37
theorem c223:cert 223 3 [(2,1),(3,1),(37,1)]=true:=by kernel_rfl
theorem a223:AllPr [(2,1),(3,1),(37,1)]:=⟨pr2,pr3,pr37,trivial⟩
theorem pr223:Pr 223:=pratt 223 3 [(2,1),(3,1),(37,1)] c223 a223
theorem c173:cert 173 2 [(2,2),(43,1)]=true:=by kernel_rfl
theorem a173:AllPr [(2,2),(43,1)]:=⟨pr2,pr43,trivial⟩
theorem pr173:Pr 173:=pratt 173 2 [(2,2),(43,1)] c173 a173
theorem c4153:cert 4153 5 [(2,3),(3,1),(173,1)]=true:=by kernel_rfl
theorem a4153:AllPr [(2,3),(3,1),(173,1)]:=⟨pr2,pr3,pr173,trivial⟩
theorem pr4153:Pr 4153:=pratt 4153 5 [(2,3),(3,1),(173,1)] c4153 a4153
theorem c41:cert 41 6 [(2,3),(5,1)]=true:=by kernel_rfl
theorem a41:AllPr [(2,3),(5,1)]:=⟨pr2,pr5,trivial⟩
theorem pr41:Pr 41:=pratt 41 6 [(2,3),(5,1)] c41 a41
theorem c1723:cert 1723 3 [(2,1),(3,1),(7,1),(41,1)]=true:=by kernel_rfl
theorem a1723:AllPr [(2,1),(3,1),(7,1),(41,1)]:=⟨pr2,pr3,pr7,pr41,trivial⟩
theorem pr1723:Pr 1723:=pratt 1723 3 [(2,1),(3,1),(7,1),(41,1)] c1723 a1723
theorem c430751:cert 430751 17 [(2,1),(5,3),(1723,1)]=true:=by kernel_rfl
theorem a430751:AllPr [(2,1),(5,3),(1723,1)]:=⟨pr2,pr5,pr1723,trivial⟩
theorem pr430751:Pr 430751:=pratt 430751 17 [(2,1),(5,3),(1723,1)] c430751 a430751
theorem c31757755568855353:cert 31757755568855353 10 [(2,3),(3,1),(31,1),(107,1),(223,1),(4153,1),(430751,1)]=true:=by kernel_rfl
theorem a31757755568855353:AllPr [(2,3),(3,1),(31,1),(107,1),(223,1),(4153,1),(430751,1)]:=⟨pr2,pr3,pr31,pr107,pr223,pr4153,pr430751,trivial⟩
theorem pr31757755568855353:Pr 31757755568855353:=pratt 31757755568855353 10 [(2,3),(3,1),(31,1),(107,1),(223,1),(4153,1),(430751,1)] c31757755568855353 a31757755568855353
theorem c19:cert 19 2 [(2,1),(3,2)]=true:=by kernel_rfl
theorem a19:AllPr [(2,1),(3,2)]:=⟨pr2,pr3,trivial⟩
theorem pr19:Pr 19:=pratt 19 2 [(2,1),(3,2)] c19 a19
theorem c83:cert 83 2 [(2,1),(41,1)]=true:=by kernel_rfl
theorem a83:AllPr [(2,1),(41,1)]:=⟨pr2,pr41,trivial⟩
theorem pr83:Pr 83:=pratt 83 2 [(2,1),(41,1)] c83 a83
theorem c9463:cert 9463 3 [(2,1),(3,1),(19,1),(83,1)]=true:=by kernel_rfl
theorem a9463:AllPr [(2,1),(3,1),(19,1),(83,1)]:=⟨pr2,pr3,pr19,pr83,trivial⟩
theorem pr9463:Pr 9463:=pratt 9463 3 [(2,1),(3,1),(19,1),(83,1)] c9463 a9463
theorem c37853:cert 37853 2 [(2,2),(9463,1)]=true:=by kernel_rfl
theorem a37853:AllPr [(2,2),(9463,1)]:=⟨pr2,pr9463,trivial⟩
theorem pr37853:Pr 37853:=pratt 37853 2 [(2,2),(9463,1)] c37853 a37853
theorem c75707:cert 75707 2 [(2,1),(37853,1)]=true:=by kernel_rfl
theorem a75707:AllPr [(2,1),(37853,1)]:=⟨pr2,pr37853,trivial⟩
theorem pr75707:Pr 75707:=pratt 75707 2 [(2,1),(37853,1)] c75707 a75707
theorem c47:cert 47 5 [(2,1),(23,1)]=true:=by kernel_rfl
theorem a47:AllPr [(2,1),(23,1)]:=⟨pr2,pr23,trivial⟩
theorem pr47:Pr 47:=pratt 47 5 [(2,1),(23,1)] c47 a47
theorem c127:cert 127 3 [(2,1),(3,2),(7,1)]=true:=by kernel_rfl
theorem a127:AllPr [(2,1),(3,2),(7,1)]:=⟨pr2,pr3,pr7,trivial⟩
theorem pr127:Pr 127:=pratt 127 3 [(2,1),(3,2),(7,1)] c127 a127
theorem c103:cert 103 5 [(2,1),(3,1),(17,1)]=true:=by kernel_rfl
theorem a103:AllPr [(2,1),(3,1),(17,1)]:=⟨pr2,pr3,pr17,trivial⟩
theorem pr103:Pr 103:=pratt 103 5 [(2,1),(3,1),(17,1)] c103 a103
theorem c991:cert 991 6 [(2,1),(3,2),(5,1),(11,1)]=true:=by kernel_rfl
theorem a991:AllPr [(2,1),(3,2),(5,1),(11,1)]:=⟨pr2,pr3,pr5,pr11,trivial⟩
theorem pr991:Pr 991:=pratt 991 6 [(2,1),(3,2),(5,1),(11,1)] c991 a991
theorem c8574133:cert 8574133 2 [(2,2),(3,1),(7,1),(103,1),(991,1)]=true:=by kernel_rfl
theorem a8574133:AllPr [(2,2),(3,1),(7,1),(103,1),(991,1)]:=⟨pr2,pr3,pr7,pr103,pr991,trivial⟩
theorem pr8574133:Pr 8574133:=pratt 8574133 2 [(2,2),(3,1),(7,1),(103,1),(991,1)] c8574133 a8574133
theorem c1919519569386763:cert 1919519569386763 2 [(2,1),(3,1),(7,1),(19,1),(47,2),(127,1),(8574133,1)]=true:=by kernel_rfl
theorem a1919519569386763:AllPr [(2,1),(3,1),(7,1),(19,1),(47,2),(127,1),(8574133,1)]:=⟨pr2,pr3,pr7,pr19,pr47,pr127,pr8574133,trivial⟩
theorem pr1919519569386763:Pr 1919519569386763:=pratt 1919519569386763 2 [(2,1),(3,1),(7,1),(19,1),(47,2),(127,1),(8574133,1)] c1919519569386763 a1919519569386763
theorem c2437:cert 2437 2 [(2,2),(3,1),(7,1),(29,1)]=true:=by kernel_rfl
theorem a2437:AllPr [(2,2),(3,1),(7,1),(29,1)]:=⟨pr2,pr3,pr7,pr29,trivial⟩
theorem pr2437:Pr 2437:=pratt 2437 2 [(2,2),(3,1),(7,1),(29,1)] c2437 a2437
theorem c97:cert 97 5 [(2,5),(3,1)]=true:=by kernel_rfl
theorem a97:AllPr [(2,5),(3,1)]:=⟨pr2,pr3,trivial⟩
theorem pr97:Pr 97:=pratt 97 5 [(2,5),(3,1)] c97 a97
theorem c419:cert 419 2 [(2,1),(11,1),(19,1)]=true:=by kernel_rfl
theorem a419:AllPr [(2,1),(11,1),(19,1)]:=⟨pr2,pr11,pr19,trivial⟩
theorem pr419:Pr 419:=pratt 419 2 [(2,1),(11,1),(19,1)] c419 a419
theorem c569003:cert 569003 2 [(2,1),(7,1),(97,1),(419,1)]=true:=by kernel_rfl
theorem a569003:AllPr [(2,1),(7,1),(97,1),(419,1)]:=⟨pr2,pr7,pr97,pr419,trivial⟩
theorem pr569003:Pr 569003:=pratt 569003 2 [(2,1),(7,1),(97,1),(419,1)] c569003 a569003
theorem c2773320623:cert 2773320623 5 [(2,1),(2437,1),(569003,1)]=true:=by kernel_rfl
theorem a2773320623:AllPr [(2,1),(2437,1),(569003,1)]:=⟨pr2,pr2437,pr569003,trivial⟩
theorem pr2773320623:Pr 2773320623:=pratt 2773320623 5 [(2,1),(2437,1),(569003,1)] c2773320623 a2773320623
theorem c72106336199:cert 72106336199 7 [(2,1),(13,1),(2773320623,1)]=true:=by kernel_rfl
theorem a72106336199:AllPr [(2,1),(13,1),(2773320623,1)]:=⟨pr2,pr13,pr2773320623,trivial⟩
theorem pr72106336199:Pr 72106336199:=pratt 72106336199 7 [(2,1),(13,1),(2773320623,1)] c72106336199 a72106336199
theorem c75445702479781427272750846543864801:cert 75445702479781427272750846543864801 7 [(2,5),(3,2),(5,2),(75707,1),(72106336199,1),(1919519569386763,1)]=true:=by kernel_rfl
theorem a75445702479781427272750846543864801:AllPr [(2,5),(3,2),(5,2),(75707,1),(72106336199,1),(1919519569386763,1)]:=⟨pr2,pr3,pr5,pr75707,pr72106336199,pr1919519569386763,trivial⟩
theorem pr75445702479781427272750846543864801:Pr 75445702479781427272750846543864801:=pratt 75445702479781427272750846543864801 7 [(2,5),(3,2),(5,2),(75707,1),(72106336199,1),(1919519569386763,1)] c75445702479781427272750846543864801 a75445702479781427272750846543864801
theorem c74058212732561358302231226437062788676166966415465897661863160754340907:cert 74058212732561358302231226437062788676166966415465897661863160754340907 2 [(2,1),(3,1),(353,1),(57467,1),(132049,1),(1923133,1),(31757755568855353,1),(75445702479781427272750846543864801,1)]=true:=by kernel_rfl
theorem a74058212732561358302231226437062788676166966415465897661863160754340907:AllPr [(2,1),(3,1),(353,1),(57467,1),(132049,1),(1923133,1),(31757755568855353,1),(75445702479781427272750846543864801,1)]:=⟨pr2,pr3,pr353,pr57467,pr132049,pr1923133,pr31757755568855353,pr75445702479781427272750846543864801,trivial⟩
theorem pr74058212732561358302231226437062788676166966415465897661863160754340907:Pr 74058212732561358302231226437062788676166966415465897661863160754340907:=pratt 74058212732561358302231226437062788676166966415465897661863160754340907 2 [(2,1),(3,1),(353,1),(57467,1),(132049,1),(1923133,1),(31757755568855353,1),(75445702479781427272750846543864801,1)] c74058212732561358302231226437062788676166966415465897661863160754340907 a74058212732561358302231226437062788676166966415465897661863160754340907
theorem c57896044618658097711785492504343953926634992332820282019728792003956564819949:cert 57896044618658097711785492504343953926634992332820282019728792003956564819949 2 [(2,2),(3,1),(65147,1),(74058212732561358302231226437062788676166966415465897661863160754340907,1)]=true:=by kernel_rfl
theorem a57896044618658097711785492504343953926634992332820282019728792003956564819949:AllPr [(2,2),(3,1),(65147,1),(74058212732561358302231226437062788676166966415465897661863160754340907,1)]:=⟨pr2,pr3,pr65147,pr74058212732561358302231226437062788676166966415465897661863160754340907,trivial⟩
theorem pr57896044618658097711785492504343953926634992332820282019728792003956564819949:Pr 57896044618658097711785492504343953926634992332820282019728792003956564819949:=pratt 57896044618658097711785492504343953926634992332820282019728792003956564819949 2 [(2,2),(3,1),(65147,1),(74058212732561358302231226437062788676166966415465897661863160754340907,1)] c57896044618658097711785492504343953926634992332820282019728792003956564819949 a57896044618658097711785492504343953926634992332820282019728792003956564819949
theorem c257:cert 257 3 [(2,8)]=true:=by kernel_rfl
theorem a257:AllPr [(2,8)]:=⟨pr2,trivial⟩
theorem pr257:Pr 257:=pratt 257 3 [(2,8)] c257 a257
theorem c641:cert 641 3 [(2,7),(5,1)]=true:=by kernel_rfl
theorem a641:AllPr [(2,7),(5,1)]:=⟨pr2,pr5,trivial⟩
theorem pr641:Pr 641:=pratt 641 3 [(2,7),(5,1)] c641 a641
theorem c1531:cert 1531 2 [(2,1),(3,2),(5,1),(17,1)]=true:=by kernel_rfl
theorem a1531:AllPr [(2,1),(3,2),(5,1),(17,1)]:=⟨pr2,pr3,pr5,pr17,trivial⟩
theorem pr1531:Pr 1531:=pratt 1531 2 [(2,1),(3,2),(5,1),(17,1)] c1531 a1531
theorem c65537:cert 65537 3 [(2,16)]=true:=by kernel_rfl
theorem a65537:AllPr [(2,16)]:=⟨pr2,trivial⟩
theorem pr65537:Pr 65537:=pratt 65537 3 [(2,16)] c65537 a65537
theorem c241:cert 241 7 [(2,4),(3,1),(5,1)]=true:=by kernel_rfl
theorem a241:AllPr [(2,4),(3,1),(5,1)]:=⟨pr2,pr3,pr5,trivial⟩
theorem pr241:Pr 241:=pratt 241 7 [(2,4),(3,1),(5,1)] c241 a241
theorem c2411:cert 2411 6 [(2,1),(5,1),(241,1)]=true:=by kernel_rfl
theorem a2411:AllPr [(2,1),(5,1),(241,1)]:=⟨pr2,pr5,pr241,trivial⟩
theorem pr2411:Pr 2411:=pratt 2411 6 [(2,1),(5,1),(241,1)] c2411 a2411
theorem c757:cert 757 2 [(2,2),(3,3),(7,1)]=true:=by kernel_rfl
theorem a757:AllPr [(2,2),(3,3),(7,1)]:=⟨pr2,pr3,pr7,trivial⟩
theorem pr757:Pr 757:=pratt 757 2 [(2,2),(3,3),(7,1)] c757 a757
theorem c18169:cert 18169 11 [(2,3),(3,1),(757,1)]=true:=by kernel_rfl
theorem a18169:AllPr [(2,3),(3,1),(757,1)]:=⟨pr2,pr3,pr757,trivial⟩
theorem pr18169:Pr 18169:=pratt 18169 11 [(2,3),(3,1),(757,1)] c18169 a18169
theorem c181:cert 181 2 [(2,2),(3,2),(5,1)]=true:=by kernel_rfl
theorem a181:AllPr [(2,2),(3,2),(5,1)]:=⟨pr2,pr3,pr5,trivial⟩
theorem pr181:Pr 181:=pratt 181 2 [(2,2),(3,2),(5,1)] c181 a181
theorem c1087:cert 1087 3 [(2,1),(3,1),(181,1)]=true:=by kernel_rfl
theorem a1087:AllPr [(2,1),(3,1),(181,1)]:=⟨pr2,pr3,pr181,trivial⟩
theorem pr1087:Pr 1087:=pratt 1087 3 [(2,1),(3,1),(181,1)] c1087 a1087
theorem c4349:cert 4349 2 [(2,2),(1087,1)]=true:=by kernel_rfl
theorem a4349:AllPr [(2,2),(1087,1)]:=⟨pr2,pr1087,trivial⟩
theorem pr4349:Pr 4349:=pratt 4349 2 [(2,2),(1087,1)] c4349 a4349
theorem c78283:cert 78283 3 [(2,1),(3,2),(4349,1)]=true:=by kernel_rfl
theorem a78283:AllPr [(2,1),(3,2),(4349,1)]:=⟨pr2,pr3,pr4349,trivial⟩
theorem pr78283:Pr 78283:=pratt 78283 3 [(2,1),(3,2),(4349,1)] c78283 a78283
theorem c313:cert 313 10 [(2,3),(3,1),(13,1)]=true:=by kernel_rfl
theorem a313:AllPr [(2,3),(3,1),(13,1)]:=⟨pr2,pr3,pr13,trivial⟩
theorem pr313:Pr 313:=pratt 313 10 [(2,3),(3,1),(13,1)] c313 a313
theorem c704251:cert 704251 2 [(2,1),(3,2),(5,3),(313,1)]=true:=by kernel_rfl
theorem a704251:AllPr [(2,1),(3,2),(5,3),(313,1)]:=⟨pr2,pr3,pr5,pr313,trivial⟩
theorem pr704251:Pr 704251:=pratt 704251 2 [(2,1),(3,2),(5,3),(313,1)] c704251 a704251
theorem c46076956964474543:cert 46076956964474543 5 [(2,1),(23,1),(18169,1),(78283,1),(704251,1)]=true:=by kernel_rfl
theorem a46076956964474543:AllPr [(2,1),(23,1),(18169,1),(78283,1),(704251,1)]:=⟨pr2,pr23,pr18169,pr78283,pr704251,trivial⟩
theorem pr46076956964474543:Pr 46076956964474543:=pratt 46076956964474543 5 [(2,1),(23,1),(18169,1),(78283,1),(704251,1)] c46076956964474543 a46076956964474543
theorem c197:cert 197 2 [(2,2),(7,2)]=true:=by kernel_rfl
theorem a197:AllPr [(2,2),(7,2)]:=⟨pr2,pr7,trivial⟩
theorem pr197:Pr 197:=pratt 197 2 [(2,2),(7,2)] c197 a197
theorem c919:cert 919 7 [(2,1),(3,3),(17,1)]=true:=by kernel_rfl
theorem a919:AllPr [(2,1),(3,3),(17,1)]:=⟨pr2,pr3,pr17,trivial⟩
theorem pr919:Pr 919:=pratt 919 7 [(2,1),(3,3),(17,1)] c919 a919
theorem c3677:cert 3677 2 [(2,2),(919,1)]=true:=by kernel_rfl
theorem a3677:AllPr [(2,2),(919,1)]:=⟨pr2,pr919,trivial⟩
theorem pr3677:Pr 3677:=pratt 3677 2 [(2,2),(919,1)] c3677 a3677
theorem c66417393611:cert 66417393611 6 [(2,1),(5,1),(53,1),(173,1),(197,1),(3677,1)]=true:=by kernel_rfl
theorem a66417393611:AllPr [(2,1),(5,1),(53,1),(173,1),(197,1),(3677,1)]:=⟨pr2,pr5,pr53,pr173,pr197,pr3677,trivial⟩
theorem pr66417393611:Pr 66417393611:=pratt 66417393611 6 [(2,1),(5,1),(53,1),(173,1),(197,1),(3677,1)] c66417393611 a66417393611
theorem c11290956913871:cert 11290956913871 13 [(2,1),(5,1),(17,1),(66417393611,1)]=true:=by kernel_rfl
theorem a11290956913871:AllPr [(2,1),(5,1),(17,1),(66417393611,1)]:=⟨pr2,pr5,pr17,pr66417393611,trivial⟩
theorem pr11290956913871:Pr 11290956913871:=pratt 11290956913871 13 [(2,1),(5,1),(17,1),(66417393611,1)] c11290956913871 a11290956913871
theorem c157:cert 157 5 [(2,2),(3,1),(13,1)]=true:=by kernel_rfl
theorem a157:AllPr [(2,2),(3,1),(13,1)]:=⟨pr2,pr3,pr13,trivial⟩
theorem pr157:Pr 157:=pratt 157 5 [(2,2),(3,1),(13,1)] c157 a157
theorem c3769:cert 3769 7 [(2,3),(3,1),(157,1)]=true:=by kernel_rfl
theorem a3769:AllPr [(2,3),(3,1),(157,1)]:=⟨pr2,pr3,pr157,trivial⟩
theorem pr3769:Pr 3769:=pratt 3769 7 [(2,3),(3,1),(157,1)] c3769 a3769
theorem c204061199:cert 204061199 11 [(2,1),(11,1),(23,1),(107,1),(3769,1)]=true:=by kernel_rfl
theorem a204061199:AllPr [(2,1),(11,1),(23,1),(107,1),(3769,1)]:=⟨pr2,pr11,pr23,pr107,pr3769,trivial⟩
theorem pr204061199:Pr 204061199:=pratt 204061199 11 [(2,1),(11,1),(23,1),(107,1),(3769,1)] c204061199 a204061199
theorem c34282281433:cert 34282281433 17 [(2,3),(3,1),(7,1),(204061199,1)]=true:=by kernel_rfl
theorem a34282281433:AllPr [(2,3),(3,1),(7,1),(204061199,1)]:=⟨pr2,pr3,pr7,pr204061199,trivial⟩
theorem pr34282281433:Pr 34282281433:=pratt 34282281433 17 [(2,3),(3,1),(7,1),(204061199,1)] c34282281433 a34282281433
theorem c774023187263532362759620327192479577272145303:cert 774023187263532362759620327192479577272145303 3 [(2,1),(3,2),(2411,1),(34282281433,1),(11290956913871,1),(46076956964474543,1)]=true:=by kernel_rfl
theorem a774023187263532362759620327192479577272145303:AllPr [(2,1),(3,2),(2411,1),(34282281433,1),(11290956913871,1),(46076956964474543,1)]:=⟨pr2,pr3,pr2411,pr34282281433,pr11290956913871,pr46076956964474543,trivial⟩
theorem pr774023187263532362759620327192479577272145303:Pr 774023187263532362759620327192479577272145303:=pratt 774023187263532362759620327192479577272145303 3 [(2,1),(3,2),(2411,1),(34282281433,1),(11290956913871,1),(46076956964474543,1)] c774023187263532362759620327192479577272145303 a774023187263532362759620327192479577272145303
theorem c835945042244614951780389953367877943453916927241:cert 835945042244614951780389953367877943453916927241 11 [(2,3),(3,3),(5,1),(774023187263532362759620327192479577272145303,1)]=true:=by kernel_rfl
theorem a835945042244614951780389953367877943453916927241:AllPr [(2,3),(3,3),(5,1),(774023187263532362759620327192479577272145303,1)]:=⟨pr2,pr3,pr5,pr774023187263532362759620327192479577272145303,trivial⟩
theorem pr835945042244614951780389953367877943453916927241:Pr 835945042244614951780389953367877943453916927241:=pratt 835945042244614951780389953367877943453916927241 11 [(2,3),(3,3),(5,1),(774023187263532362759620327192479577272145303,1)] c835945042244614951780389953367877943453916927241 a835945042244614951780389953367877943453916927241
theorem c727:cert 727 5 [(2,1),(3,1),(11,2)]=true:=by kernel_rfl
theorem a727:AllPr [(2,1),(3,1),(11,2)]:=⟨pr2,pr3,pr11,trivial⟩
theorem pr727:Pr 727:=pratt 727 5 [(2,1),(3,1),(11,2)] c727 a727
theorem c17449:cert 17449 14 [(2,3),(3,1),(727,1)]=true:=by kernel_rfl
theorem a17449:AllPr [(2,3),(3,1),(727,1)]:=⟨pr2,pr3,pr727,trivial⟩
theorem pr17449:Pr 17449:=pratt 17449 14 [(2,3),(3,1),(727,1)] c17449 a17449
theorem c6700417:cert 6700417 5 [(2,7),(3,1),(17449,1)]=true:=by kernel_rfl
theorem a6700417:AllPr [(2,7),(3,1),(17449,1)]:=⟨pr2,pr3,pr17449,trivial⟩
theorem pr6700417:Pr 6700417:=pratt 6700417 5 [(2,7),(3,1),(17449,1)] c6700417 a6700417
theorem c661:cert 661 2 [(2,2),(3,1),(5,1),(11,1)]=true:=by kernel_rfl
theorem a661:AllPr [(2,2),(3,1),(5,1),(11,1)]:=⟨pr2,pr3,pr5,pr11,trivial⟩
theorem pr661:Pr 661:=pratt 661 2 [(2,2),(3,1),(5,1),(11,1)] c661 a661
theorem c490463:cert 490463 14 [(2,1),(7,1),(53,1),(661,1)]=true:=by kernel_rfl
theorem a490463:AllPr [(2,1),(7,1),(53,1),(661,1)]:=⟨pr2,pr7,pr53,pr661,trivial⟩
theorem pr490463:Pr 490463:=pratt 490463 14 [(2,1),(7,1),(53,1),(661,1)] c490463 a490463
theorem c115792089210356248762697446949407573530086143415290314195533631308867097853951:cert 115792089210356248762697446949407573530086143415290314195533631308867097853951 6 [(2,1),(3,1),(5,2),(17,1),(257,1),(641,1),(1531,1),(65537,1),(490463,1),(6700417,1),(835945042244614951780389953367877943453916927241,1)]=true:=by kernel_rfl
theorem a115792089210356248762697446949407573530086143415290314195533631308867097853951:AllPr [(2,1),(3,1),(5,2),(17,1),(257,1),(641,1),(1531,1),(65537,1),(490463,1),(6700417,1),(835945042244614951780389953367877943453916927241,1)]:=⟨pr2,pr3,pr5,pr17,pr257,pr641,pr1531,pr65537,pr490463,pr6700417,pr835945042244614951780389953367877943453916927241,trivial⟩
theorem pr115792089210356248762697446949407573530086143415290314195533631308867097853951:Pr 115792089210356248762697446949407573530086143415290314195533631308867097853951:=pratt 115792089210356248762697446949407573530086143415290314195533631308867097853951 6 [(2,1),(3,1),(5,2),(17,1),(257,1),(641,1),(1531,1),(65537,1),(490463,1),(6700417,1),(835945042244614951780389953367877943453916927241,1)] c115792089210356248762697446949407573530086143415290314195533631308867097853951 a115792089210356248762697446949407573530086143415290314195533631308867097853951
theorem c30703:cert 30703 3 [(2,1),(3,1),(7,1),(17,1),(43,1)]=true:=by kernel_rfl
theorem a30703:AllPr [(2,1),(3,1),(7,1),(17,1),(43,1)]:=⟨pr2,pr3,pr7,pr17,pr43,trivial⟩
theorem pr30703:Pr 30703:=pratt 30703 3 [(2,1),(3,1),(7,1),(17,1),(43,1)] c30703 a30703
theorem c79:cert 79 3 [(2,1),(3,1),(13,1)]=true:=by kernel_rfl
theorem a79:AllPr [(2,1),(3,1),(13,1)]:=⟨pr2,pr3,pr13,trivial⟩
theorem pr79:Pr 79:=pratt 79 3 [(2,1),(3,1),(13,1)] c79 a79
theorem c41081:cert 41081 3 [(2,3),(5,1),(13,1),(79,1)]=true:=by kernel_rfl
theorem a41081:AllPr [(2,3),(5,1),(13,1),(79,1)]:=⟨pr2,pr5,pr13,pr79,trivial⟩
theorem pr41081:Pr 41081:=pratt 41081 3 [(2,3),(5,1),(13,1),(79,1)] c41081 a41081
theorem c82163:cert 82163 2 [(2,1),(41081,1)]=true:=by kernel_rfl
theorem a82163:AllPr [(2,1),(41081,1)]:=⟨pr2,pr41081,trivial⟩
theorem pr82163:Pr 82163:=pratt 82163 2 [(2,1),(41081,1)] c82163 a82163
theorem c67:cert 67 2 [(2,1),(3,1),(11,1)]=true:=by kernel_rfl
theorem a67:AllPr [(2,1),(3,1),(11,1)]:=⟨pr2,pr3,pr11,trivial⟩
theorem pr67:Pr 67:=pratt 67 2 [(2,1),(3,1),(11,1)] c67 a67
theorem c22111:cert 22111 6 [(2,1),(3,1),(5,1),(11,1),(67,1)]=true:=by kernel_rfl
theorem a22111:AllPr [(2,1),(3,1),(5,1),(11,1),(67,1)]:=⟨pr2,pr3,pr5,pr11,pr67,trivial⟩
theorem pr22111:Pr 22111:=pratt 22111 6 [(2,1),(3,1),(5,1),(11,1),(67,1)] c22111 a22111
theorem c132667:cert 132667 5 [(2,1),(3,1),(22111,1)]=true:=by kernel_rfl
theorem a132667:AllPr [(2,1),(3,1),(22111,1)]:=⟨pr2,pr3,pr22111,trivial⟩
theorem pr132667:Pr 132667:=pratt 132667 5 [(2,1),(3,1),(22111,1)] c132667 a132667
theorem c17231:cert 17231 13 [(2,1),(5,1),(1723,1)]=true:=by kernel_rfl
theorem a17231:AllPr [(2,1),(5,1),(1723,1)]:=⟨pr2,pr5,pr1723,trivial⟩
theorem pr17231:Pr 17231:=pratt 17231 13 [(2,1),(5,1),(1723,1)] c17231 a17231
theorem c137849:cert 137849 3 [(2,3),(17231,1)]=true:=by kernel_rfl
theorem a137849:AllPr [(2,3),(17231,1)]:=⟨pr2,pr17231,trivial⟩
theorem pr137849:Pr 137849:=pratt 137849 3 [(2,3),(17231,1)] c137849 a137849
theorem c3044861653679985063343:cert 3044861653679985063343 5 [(2,1),(3,1),(11,1),(30703,1),(82163,1),(132667,1),(137849,1)]=true:=by kernel_rfl
theorem a3044861653679985063343:AllPr [(2,1),(3,1),(11,1),(30703,1),(82163,1),(132667,1),(137849,1)]:=⟨pr2,pr3,pr11,pr30703,pr82163,pr132667,pr137849,trivial⟩
theorem pr3044861653679985063343:Pr 3044861653679985063343:=pratt 3044861653679985063343 5 [(2,1),(3,1),(11,1),(30703,1),(82163,1),(132667,1),(137849,1)] c3044861653679985063343 a3044861653679985063343
theorem c34123:cert 34123 2 [(2,1),(3,1),(11,2),(47,1)]=true:=by kernel_rfl
theorem a34123:AllPr [(2,1),(3,1),(11,2),(47,1)]:=⟨pr2,pr3,pr11,pr47,trivial⟩
theorem pr34123:Pr 34123:=pratt 34123 2 [(2,1),(3,1),(11,2),(47,1)] c34123 a34123
theorem c409477:cert 409477 2 [(2,2),(3,1),(34123,1)]=true:=by kernel_rfl
theorem a409477:AllPr [(2,2),(3,1),(34123,1)]:=⟨pr2,pr3,pr34123,trivial⟩
theorem pr409477:Pr 409477:=pratt 409477 2 [(2,2),(3,1),(34123,1)] c409477 a409477
theorem c14741173:cert 14741173 2 [(2,2),(3,2),(409477,1)]=true:=by kernel_rfl
theorem a14741173:AllPr [(2,2),(3,2),(409477,1)]:=⟨pr2,pr3,pr409477,trivial⟩
theorem pr14741173:Pr 14741173:=pratt 14741173 2 [(2,2),(3,2),(409477,1)] c14741173 a14741173
theorem c58964693:cert 58964693 2 [(2,2),(14741173,1)]=true:=by kernel_rfl
theorem a58964693:AllPr [(2,2),(14741173,1)]:=⟨pr2,pr14741173,trivial⟩
theorem pr58964693:Pr 58964693:=pratt 58964693 2 [(2,2),(14741173,1)] c58964693 a58964693
theorem c198211423230930754013084525763697:cert 198211423230930754013084525763697 5 [(2,4),(3,1),(23,1),(58964693,1),(3044861653679985063343,1)]=true:=by kernel_rfl
theorem a198211423230930754013084525763697:AllPr [(2,4),(3,1),(23,1),(58964693,1),(3044861653679985063343,1)]:=⟨pr2,pr3,pr23,pr58964693,pr3044861653679985063343,trivial⟩
theorem pr198211423230930754013084525763697:Pr 198211423230930754013084525763697:=pratt 198211423230930754013084525763697 5 [(2,4),(3,1),(23,1),(58964693,1),(3044861653679985063343,1)] c198211423230930754013084525763697 a198211423230930754013084525763697
theorem c269:cert 269 2 [(2,2),(67,1)]=true:=by kernel_rfl
theorem a269:AllPr [(2,2),(67,1)]:=⟨pr2,pr67,trivial⟩
theorem pr269:Pr 269:=pratt 269 2 [(2,2),(67,1)] c269 a269
theorem c1361:cert 1361 3 [(2,4),(5,1),(17,1)]=true:=by kernel_rfl
theorem a1361:AllPr [(2,4),(5,1),(17,1)]:=⟨pr2,pr5,pr17,trivial⟩
theorem pr1361:Pr 1361:=pratt 1361 3 [(2,4),(5,1),(17,1)] c1361 a1361
theorem c2851:cert 2851 2 [(2,1),(3,1),(5,2),(19,1)]=true:=by kernel_rfl
theorem a2851:AllPr [(2,1),(3,1),(5,2),(19,1)]:=⟨pr2,pr3,pr5,pr19,trivial⟩
theorem pr2851:Pr 2851:=pratt 2851 2 [(2,1),(3,1),(5,2),(19,1)] c2851 a2851
theorem c73:cert 73 5 [(2,3),(3,2)]=true:=by kernel_rfl
theorem a73:AllPr [(2,3),(3,2)]:=⟨pr2,pr3,trivial⟩
theorem pr73:Pr 73:=pratt 73 5 [(2,3),(3,2)] c73 a73
theorem c3797:cert 3797 2 [(2,2),(13,1),(73,1)]=true:=by kernel_rfl
theorem a3797:AllPr [(2,2),(13,1),(73,1)]:=⟨pr2,pr13,pr73,trivial⟩
theorem pr3797:Pr 3797:=pratt 3797 2 [(2,2),(13,1),(73,1)] c3797 a3797
theorem c531581:cert 531581 2 [(2,2),(5,1),(7,1),(3797,1)]=true:=by kernel_rfl
theorem a531581:AllPr [(2,2),(5,1),(7,1),(3797,1)]:=⟨pr2,pr5,pr7,pr3797,trivial⟩
theorem pr531581:Pr 531581:=pratt 531581 2 [(2,2),(5,1),(7,1),(3797,1)] c531581 a531581
theorem c2551:cert 2551 6 [(2,1),(3,1),(5,2),(17,1)]=true:=by kernel_rfl
theorem a2551:AllPr [(2,1),(3,1),(5,2),(17,1)]:=⟨pr2,pr3,pr5,pr17,trivial⟩
theorem pr2551:Pr 2551:=pratt 2551 6 [(2,1),(3,1),(5,2),(17,1)] c2551 a2551
theorem c1224481:cert 1224481 13 [(2,5),(3,1),(5,1),(2551,1)]=true:=by kernel_rfl
theorem a1224481:AllPr [(2,5),(3,1),(5,1),(2551,1)]:=⟨pr2,pr3,pr5,pr2551,trivial⟩
theorem pr1224481:Pr 1224481:=pratt 1224481 13 [(2,5),(3,1),(5,1),(2551,1)] c1224481 a1224481
theorem c1257559732178653:cert 1257559732178653 2 [(2,2),(3,1),(7,1),(23,1),(531581,1),(1224481,1)]=true:=by kernel_rfl
theorem a1257559732178653:AllPr [(2,2),(3,1),(7,1),(23,1),(531581,1),(1224481,1)]:=⟨pr2,pr3,pr7,pr23,pr531581,pr1224481,trivial⟩
theorem pr1257559732178653:Pr 1257559732178653:=pratt 1257559732178653 2 [(2,2),(3,1),(7,1),(23,1),(531581,1),(1224481,1)] c1257559732178653 a1257559732178653
theorem c4434155615661930479:cert 4434155615661930479 17 [(2,1),(41,1),(43,1),(1257559732178653,1)]=true:=by kernel_rfl
theorem a4434155615661930479:AllPr [(2,1),(41,1),(43,1),(1257559732178653,1)]:=⟨pr2,pr41,pr43,pr1257559732178653,trivial⟩
theorem pr4434155615661930479:Pr 4434155615661930479:=pratt 4434155615661930479 17 [(2,1),(41,1),(43,1),(1257559732178653,1)] c4434155615661930479 a4434155615661930479
theorem c172054593956031949258510691:cert 172054593956031949258510691 2 [(2,1),(5,1),(1361,1),(2851,1),(4434155615661930479,1)]=true:=by kernel_rfl
theorem a172054593956031949258510691:AllPr [(2,1),(5,1),(1361,1),(2851,1),(4434155615661930479,1)]:=⟨pr2,pr5,pr1361,pr2851,pr4434155615661930479,trivial⟩
theorem pr172054593956031949258510691:Pr 172054593956031949258510691:=pratt 172054593956031949258510691 2 [(2,1),(5,1),(1361,1),(2851,1),(4434155615661930479,1)] c172054593956031949258510691 a172054593956031949258510691
theorem c307:cert 307 5 [(2,1),(3,2),(17,1)]=true:=by kernel_rfl
theorem a307:AllPr [(2,1),(3,2),(17,1)]:=⟨pr2,pr3,pr17,trivial⟩
theorem pr307:Pr 307:=pratt 307 5 [(2,1),(3,2),(17,1)] c307 a307
theorem c113:cert 113 3 [(2,4),(7,1)]=true:=by kernel_rfl
theorem a113:AllPr [(2,4),(7,1)]:=⟨pr2,pr7,trivial⟩
theorem pr113:Pr 113:=pratt 113 3 [(2,4),(7,1)] c113 a113
theorem c2939:cert 2939 2 [(2,1),(13,1),(113,1)]=true:=by kernel_rfl
theorem a2939:AllPr [(2,1),(13,1),(113,1)]:=⟨pr2,pr13,pr113,trivial⟩
theorem pr2939:Pr 2939:=pratt 2939 2 [(2,1),(13,1),(113,1)] c2939 a2939
theorem c5879:cert 5879 11 [(2,1),(2939,1)]=true:=by kernel_rfl
theorem a5879:AllPr [(2,1),(2939,1)]:=⟨pr2,pr2939,trivial⟩
theorem pr5879:Pr 5879:=pratt 5879 11 [(2,1),(2939,1)] c5879 a5879
theorem c292386187:cert 292386187 2 [(2,1),(3,4),(307,1),(5879,1)]=true:=by kernel_rfl
theorem a292386187:AllPr [(2,1),(3,4),(307,1),(5879,1)]:=⟨pr2,pr3,pr307,pr5879,trivial⟩
theorem pr292386187:Pr 292386187:=pratt 292386187 2 [(2,1),(3,4),(307,1),(5879,1)] c292386187 a292386187
theorem c213441916511:cert 213441916511 13 [(2,1),(5,1),(73,1),(292386187,1)]=true:=by kernel_rfl
theorem a213441916511:AllPr [(2,1),(5,1),(73,1),(292386187,1)]:=⟨pr2,pr5,pr73,pr292386187,trivial⟩
theorem pr213441916511:Pr 213441916511:=pratt 213441916511 13 [(2,1),(5,1),(73,1),(292386187,1)] c213441916511 a213441916511
theorem c19757330305831588566944191468367130476339:cert 19757330305831588566944191468367130476339 2 [(2,1),(269,1),(213441916511,1),(172054593956031949258510691,1)]=true:=by kernel_rfl
theorem a19757330305831588566944191468367130476339:AllPr [(2,1),(269,1),(213441916511,1),(172054593956031949258510691,1)]:=⟨pr2,pr269,pr213441916511,pr172054593956031949258510691,trivial⟩
theorem pr19757330305831588566944191468367130476339:Pr 19757330305831588566944191468367130476339:=pratt 19757330305831588566944191468367130476339 2 [(2,1),(269,1),(213441916511,1),(172054593956031949258510691,1)] c19757330305831588566944191468367130476339 a19757330305831588566944191468367130476339
theorem c276602624281642239937218680557139826668747:cert 276602624281642239937218680557139826668747 2 [(2,1),(7,1),(19757330305831588566944191468367130476339,1)]=true:=by kernel_rfl
theorem a276602624281642239937218680557139826668747:AllPr [(2,1),(7,1),(19757330305831588566944191468367130476339,1)]:=⟨pr2,pr7,pr19757330305831588566944191468367130476339,trivial⟩
theorem pr276602624281642239937218680557139826668747:Pr 276602624281642239937218680557139826668747:=pratt 276602624281642239937218680557139826668747 2 [(2,1),(7,1),(19757330305831588566944191468367130476339,1)] c276602624281642239937218680557139826668747 a276602624281642239937218680557139826668747
theorem c7237005577332262213973186563042994240857116359379907606001950938285454250989:cert 7237005577332262213973186563042994240857116359379907606001950938285454250989 2 [(2,2),(3,1),(11,1),(198211423230930754013084525763697,1),(276602624281642239937218680557139826668747,1)]=true:=by kernel_rfl
theorem a7237005577332262213973186563042994240857116359379907606001950938285454250989:AllPr [(2,2),(3,1),(11,1),(198211423230930754013084525763697,1),(276602624281642239937218680557139826668747,1)]:=⟨pr2,pr3,pr11,pr198211423230930754013084525763697,pr276602624281642239937218680557139826668747,trivial⟩
theorem pr7237005577332262213973186563042994240857116359379907606001950938285454250989:Pr 7237005577332262213973186563042994240857116359379907606001950938285454250989:=pratt 7237005577332262213973186563042994240857116359379907606001950938285454250989 2 [(2,2),(3,1),(11,1),(198211423230930754013084525763697,1),(276602624281642239937218680557139826668747,1)] c7237005577332262213973186563042994240857116359379907606001950938285454250989 a7237005577332262213973186563042994240857116359379907606001950938285454250989
theorem c71:cert 71 7 [(2,1),(5,1),(7,1)]=true:=by kernel_rfl
theorem a71:AllPr [(2,1),(5,1),(7,1)]:=⟨pr2,pr5,pr7,trivial⟩
theorem pr71:Pr 71:=pratt 71 7 [(2,1),(5,1),(7,1)] c71 a71
theorem c373:cert 373 2 [(2,2),(3,1),(31,1)]=true:=by kernel_rfl
theorem a373:AllPr [(2,2),(3,1),(31,1)]:=⟨pr2,pr3,pr31,trivial⟩
theorem pr373:Pr 373:=pratt 373 2 [(2,2),(3,1),(31,1)] c373 a373
theorem c3407:cert 3407 5 [(2,1),(13,1),(131,1)]=true:=by kernel_rfl
theorem a3407:AllPr [(2,1),(13,1),(131,1)]:=⟨pr2,pr13,pr131,trivial⟩
theorem pr3407:Pr 3407:=pratt 3407 5 [(2,1),(13,1),(131,1)] c3407 a3407
theorem c9547:cert 9547 2 [(2,1),(3,1),(37,1),(43,1)]=true:=by kernel_rfl
theorem a9547:AllPr [(2,1),(3,1),(37,1),(43,1)]:=⟨pr2,pr3,pr37,pr43,trivial⟩
theorem pr9547:Pr 9547:=pratt 9547 2 [(2,1),(3,1),(37,1),(43,1)] c9547 a9547
theorem c38189:cert 38189 2 [(2,2),(9547,1)]=true:=by kernel_rfl
theorem a38189:AllPr [(2,2),(9547,1)]:=⟨pr2,pr9547,trivial⟩
theorem pr38189:Pr 38189:=pratt 38189 2 [(2,2),(9547,1)] c38189 a38189
theorem c337:cert 337 10 [(2,4),(3,1),(7,1)]=true:=by kernel_rfl
theorem a337:AllPr [(2,4),(3,1),(7,1)]:=⟨pr2,pr3,pr7,trivial⟩
theorem pr337:Pr 337:=pratt 337 10 [(2,4),(3,1),(7,1)] c337 a337
theorem c104471:cert 104471 11 [(2,1),(5,1),(31,1),(337,1)]=true:=by kernel_rfl
theorem a104471:AllPr [(2,1),(5,1),(31,1),(337,1)]:=⟨pr2,pr5,pr31,pr337,trivial⟩
theorem pr104471:Pr 104471:=pratt 104471 11 [(2,1),(5,1),(31,1),(337,1)] c104471 a104471
theorem c3969899:cert 3969899 2 [(2,1),(19,1),(104471,1)]=true:=by kernel_rfl
theorem a3969899:AllPr [(2,1),(19,1),(104471,1)]:=⟨pr2,pr19,pr104471,trivial⟩
theorem pr3969899:Pr 3969899:=pratt 3969899 2 [(2,1),(19,1),(104471,1)] c3969899 a3969899
theorem c263:cert 263 5 [(2,1),(131,1)]=true:=by kernel_rfl
theorem a263:AllPr [(2,1),(131,1)]:=⟨pr2,pr131,trivial⟩
theorem pr263:Pr 263:=pratt 263 5 [(2,1),(131,1)] c263 a263
theorem c126241:cert 126241 7 [(2,5),(3,1),(5,1),(263,1)]=true:=by kernel_rfl
theorem a126241:AllPr [(2,5),(3,1),(5,1),(263,1)]:=⟨pr2,pr3,pr5,pr263,trivial⟩
theorem pr126241:Pr 126241:=pratt 126241 7 [(2,5),(3,1),(5,1),(263,1)] c126241 a126241
theorem c1002328039319:cert 1002328039319 19 [(2,1),(126241,1),(3969899,1)]=true:=by kernel_rfl
theorem a1002328039319:AllPr [(2,1),(126241,1),(3969899,1)]:=⟨pr2,pr126241,pr3969899,trivial⟩
theorem pr1002328039319:Pr 1002328039319:=pratt 1002328039319 19 [(2,1),(126241,1),(3969899,1)] c1002328039319 a1002328039319
theorem c1297:cert 1297 10 [(2,4),(3,4)]=true:=by kernel_rfl
theorem a1297:AllPr [(2,4),(3,4)]:=⟨pr2,pr3,trivial⟩
theorem pr1297:Pr 1297:=pratt 1297 10 [(2,4),(3,4)] c1297 a1297
theorem c16879:cert 16879 3 [(2,1),(3,1),(29,1),(97,1)]=true:=by kernel_rfl
theorem a16879:AllPr [(2,1),(3,1),(29,1),(97,1)]:=⟨pr2,pr3,pr29,pr97,trivial⟩
theorem pr16879:Pr 16879:=pratt 16879 3 [(2,1),(3,1),(29,1),(97,1)] c16879 a16879
theorem c151:cert 151 6 [(2,1),(3,1),(5,2)]=true:=by kernel_rfl
theorem a151:AllPr [(2,1),(3,1),(5,2)]:=⟨pr2,pr3,pr5,trivial⟩
theorem pr151:Pr 151:=pratt 151 6 [(2,1),(3,1),(5,2)] c151 a151
theorem c1511:cert 1511 11 [(2,1),(5,1),(151,1)]=true:=by kernel_rfl
theorem a1511:AllPr [(2,1),(5,1),(151,1)]:=⟨pr2,pr5,pr151,trivial⟩
theorem pr1511:Pr 1511:=pratt 1511 11 [(2,1),(5,1),(151,1)] c1511 a1511
theorem c3023:cert 3023 5 [(2,1),(1511,1)]=true:=by kernel_rfl
theorem a3023:AllPr [(2,1),(1511,1)]:=⟨pr2,pr1511,trivial⟩
theorem pr3023:Pr 3023:=pratt 3023 5 [(2,1),(1511,1)] c3023 a3023
theorem c155317:cert 155317 5 [(2,2),(3,1),(7,1),(43,2)]=true:=by kernel_rfl
theorem a155317:AllPr [(2,2),(3,1),(7,1),(43,2)]:=⟨pr2,pr3,pr7,pr43,trivial⟩
theorem pr155317:Pr 155317:=pratt 155317 5 [(2,2),(3,1),(7,1),(43,2)] c155317 a155317
theorem c191039911:cert 191039911 3 [(2,1),(3,1),(5,1),(41,1),(155317,1)]=true:=by kernel_rfl
theorem a191039911:AllPr [(2,1),(3,1),(5,1),(41,1),(155317,1)]:=⟨pr2,pr3,pr5,pr41,pr155317,trivial⟩
theorem pr191039911:Pr 191039911:=pratt 191039911 3 [(2,1),(3,1),(5,1),(41,1),(155317,1)] c191039911 a191039911
theorem c208150935158385979:cert 208150935158385979 2 [(2,1),(3,1),(11,1),(43,1),(127,1),(3023,1),(191039911,1)]=true:=by kernel_rfl
theorem a208150935158385979:AllPr [(2,1),(3,1),(11,1),(43,1),(127,1),(3023,1),(191039911,1)]:=⟨pr2,pr3,pr11,pr43,pr127,pr3023,pr191039911,trivial⟩
theorem pr208150935158385979:Pr 208150935158385979:=pratt 208150935158385979 2 [(2,1),(3,1),(11,1),(43,1),(127,1),(3023,1),(191039911,1)] c208150935158385979 a208150935158385979
theorem c2624747550333869278416773953:cert 2624747550333869278416773953 7 [(2,6),(3,2),(1297,1),(16879,1),(208150935158385979,1)]=true:=by kernel_rfl
theorem a2624747550333869278416773953:AllPr [(2,6),(3,2),(1297,1),(16879,1),(208150935158385979,1)]:=⟨pr2,pr3,pr1297,pr16879,pr208150935158385979,trivial⟩
theorem pr2624747550333869278416773953:Pr 2624747550333869278416773953:=pratt 2624747550333869278416773953 7 [(2,6),(3,2),(1297,1),(16879,1),(208150935158385979,1)] c2624747550333869278416773953 a2624747550333869278416773953
theorem c311:cert 311 17 [(2,1),(5,1),(31,1)]=true:=by kernel_rfl
theorem a311:AllPr [(2,1),(5,1),(31,1)]:=⟨pr2,pr5,pr31,trivial⟩
theorem pr311:Pr 311:=pratt 311 17 [(2,1),(5,1),(31,1)] c311 a311
theorem c311245691:cert 311245691 2 [(2,1),(5,1),(7,1),(17,1),(29,2),(311,1)]=true:=by kernel_rfl
theorem a311245691:AllPr [(2,1),(5,1),(7,1),(17,1),(29,2),(311,1)]:=⟨pr2,pr5,pr7,pr17,pr29,pr311,trivial⟩
theorem pr311245691:Pr 311245691:=pratt 311245691 2 [(2,1),(5,1),(7,1),(17,1),(29,2),(311,1)] c311245691 a311245691
theorem c622491383:cert 622491383 5 [(2,1),(311245691,1)]=true:=by kernel_rfl
theorem a622491383:AllPr [(2,1),(311245691,1)]:=⟨pr2,pr311245691,trivial⟩
theorem pr622491383:Pr 622491383:=pratt 622491383 5 [(2,1),(311245691,1)] c622491383 a622491383
theorem c229:cert 229 6 [(2,2),(3,1),(19,1)]=true:=by kernel_rfl
theorem a229:AllPr [(2,2),(3,1),(19,1)]:=⟨pr2,pr3,pr19,trivial⟩
theorem pr229:Pr 229:=pratt 229 6 [(2,2),(3,1),(19,1)] c229 a229
theorem c1201:cert 1201 11 [(2,4),(3,1),(5,2)]=true:=by kernel_rfl
theorem a1201:AllPr [(2,4),(3,1),(5,2)]:=⟨pr2,pr3,pr5,trivial⟩
theorem pr1201:Pr 1201:=pratt 1201 11 [(2,4),(3,1),(5,2)] c1201 a1201
theorem c9350987:cert 9350987 2 [(2,1),(17,1),(229,1),(1201,1)]=true:=by kernel_rfl
theorem a9350987:AllPr [(2,1),(17,1),(229,1),(1201,1)]:=⟨pr2,pr17,pr229,pr1201,trivial⟩
theorem pr9350987:Pr 9350987:=pratt 9350987 2 [(2,1),(17,1),(229,1),(1201,1)] c9350987 a9350987
theorem c187019741:cert 187019741 2 [(2,2),(5,1),(9350987,1)]=true:=by kernel_rfl
theorem a187019741:AllPr [(2,2),(5,1),(9350987,1)]:=⟨pr2,pr5,pr9350987,trivial⟩
theorem pr187019741:Pr 187019741:=pratt 187019741 2 [(2,2),(5,1),(9350987,1)] c187019741 a187019741
theorem c115792089210356248762697446949407573529996955224135760342422259061068512044369:cert 115792089210356248762697446949407573529996955224135760342422259061068512044369 7 [(2,4),(3,1),(71,1),(131,1),(373,1),(3407,1),(17449,1),(38189,1),(187019741,1),(622491383,1),(1002328039319,1),(2624747550333869278416773953,1)]=true:=by kernel_rfl
theorem a115792089210356248762697446949407573529996955224135760342422259061068512044369:AllPr [(2,4),(3,1),(71,1),(131,1),(373,1),(3407,1),(17449,1),(38189,1),(187019741,1),(622491383,1),(1002328039319,1),(2624747550333869278416773953,1)]:=⟨pr2,pr3,pr71,pr131,pr373,pr3407,pr17449,pr38189,pr187019741,pr622491383,pr1002328039319,pr2624747550333869278416773953,trivial⟩
theorem pr115792089210356248762697446949407573529996955224135760342422259061068512044369:Pr 115792089210356248762697446949407573529996955224135760342422259061068512044369:=pratt 115792089210356248762697446949407573529996955224135760342422259061068512044369 7 [(2,4),(3,1),(71,1),(131,1),(373,1),(3407,1),(17449,1),(38189,1),(187019741,1),(622491383,1),(1002328039319,1),(2624747550333869278416773953,1)] c115792089210356248762697446949407573529996955224135760342422259061068512044369 a115792089210356248762697446949407573529996955224135760342422259061068512044369
def modP (k:Nat):Nat:=
 match k with
 |0=>57896044618658097711785492504343953926634992332820282019728792003956564819949
 |1=>115792089210356248762697446949407573530086143415290314195533631308867097853951
 |2=>7237005577332262213973186563042994240857116359379907606001950938285454250989
 |_=>115792089210356248762697446949407573529996955224135760342422259061068512044369
theorem fermat0 {a m:Nat} (hm:m=57896044618658097711785492504343953926634992332820282019728792003956564819949) (ha:0<a) (h:a<m):a^(m-1)%m=1:=fermat m 2 [(2,2),(3,1),(65147,1),(74058212732561358302231226437062788676166966415465897661863160754340907,1)] (by rw[hm];exact c57896044618658097711785492504343953926634992332820282019728792003956564819949) a57896044618658097711785492504343953926634992332820282019728792003956564819949 ha h
theorem prime0 {m:Nat} (hm:m=57896044618658097711785492504343953926634992332820282019728792003956564819949):Pr m:=by rw[hm];exact pr57896044618658097711785492504343953926634992332820282019728792003956564819949
theorem fermat1 {a m:Nat} (hm:m=115792089210356248762697446949407573530086143415290314195533631308867097853951) (ha:0<a) (h:a<m):a^(m-1)%m=1:=fermat m 6 [(2,1),(3,1),(5,2),(17,1),(257,1),(641,1),(1531,1),(65537,1),(490463,1),(6700417,1),(835945042244614951780389953367877943453916927241,1)] (by rw[hm];exact c115792089210356248762697446949407573530086143415290314195533631308867097853951) a115792089210356248762697446949407573530086143415290314195533631308867097853951 ha h
theorem prime1 {m:Nat} (hm:m=115792089210356248762697446949407573530086143415290314195533631308867097853951):Pr m:=by rw[hm];exact pr115792089210356248762697446949407573530086143415290314195533631308867097853951
theorem fermat2 {a m:Nat} (hm:m=7237005577332262213973186563042994240857116359379907606001950938285454250989) (ha:0<a) (h:a<m):a^(m-1)%m=1:=fermat m 2 [(2,2),(3,1),(11,1),(198211423230930754013084525763697,1),(276602624281642239937218680557139826668747,1)] (by rw[hm];exact c7237005577332262213973186563042994240857116359379907606001950938285454250989) a7237005577332262213973186563042994240857116359379907606001950938285454250989 ha h
theorem prime2 {m:Nat} (hm:m=7237005577332262213973186563042994240857116359379907606001950938285454250989):Pr m:=by rw[hm];exact pr7237005577332262213973186563042994240857116359379907606001950938285454250989
theorem fermat3 {a m:Nat} (hm:m=115792089210356248762697446949407573529996955224135760342422259061068512044369) (ha:0<a) (h:a<m):a^(m-1)%m=1:=fermat m 7 [(2,4),(3,1),(71,1),(131,1),(373,1),(3407,1),(17449,1),(38189,1),(187019741,1),(622491383,1),(1002328039319,1),(2624747550333869278416773953,1)] (by rw[hm];exact c115792089210356248762697446949407573529996955224135760342422259061068512044369) a115792089210356248762697446949407573529996955224135760342422259061068512044369 ha h
theorem prime3 {m:Nat} (hm:m=115792089210356248762697446949407573529996955224135760342422259061068512044369):Pr m:=by rw[hm];exact pr115792089210356248762697446949407573529996955224135760342422259061068512044369
theorem fermatK {k a:Nat} (hk:k<4) (ha:0<a) (h:a<modP k):a^(modP k-1)%modP k=1:=by
 rcases k with _|_|_|_|k
 ·exact fermat0 rfl ha h
 ·exact fermat1 rfl ha h
 ·exact fermat2 rfl ha h
 ·exact fermat3 rfl ha h
 ·omega
theorem primeK {k:Nat} (hk:k<4):Pr (modP k):=by
 rcases k with _|_|_|_|k
 ·exact prime0 rfl
 ·exact prime1 rfl
 ·exact prime2 rfl
 ·exact prime3 rfl
 ·omega
end Go.NT
namespace Go.Ev
open Go Go.Proofs Go.RowKit
theorem good_fac {k:Nat} (hk:k<4):goodF (modN k) (facN k):=by
 match k,hk with
 |0,_=>unfold goodF;decide+kernel
 |1,_=>unfold goodF;decide+kernel
 |2,_=>unfold goodF;decide+kernel
 |3,_=>unfold goodF;decide+kernel
 |n+4,h=>exact absurd h (by omega)
theorem in_back {m q a:Nat} (hR:m<4294967296^8) (hq:goodF m q):mredN (inN m a) m=a%m:=by
 unfold mredN inN remN joinN
 rw[Nat.zero_add]
 have h1:Cg m (4294967296^8*a%m*rinv m) (4294967296^8*a*rinv m):=(Cg.mod m _).mul (Cg.refl _ _)
 have h2:4294967296^8*a*rinv m=a*(4294967296^8*rinv m):=by
  generalize (4294967296:Nat)^8=R
  ac_rfl
 have h3:Cg m (a*(4294967296^8*rinv m)) (a*1):=(Cg.refl _ _).mul (rinv_spec hR hq)
 rw[Nat.mul_one] at h3
 exact h1.trans ((Cg.of_eq h2).trans h3)
noncomputable def EFp:Env:={E0 with
 fn:=fun f vs=>match f with
  |241=>fnK g39 vs
  |258=>fnK g52 vs
  |287=>fn2 gCmp vs
  |261=>fn55 vs
  |290=>fnRp mpowN vs
  |259=>fnR1 outN vs
  |116=>fn2 gSub vs
  |_=>none
 S:=fun f t=>match f with
  |257=>memN t [17]
  |_=>false}
theorem envEFp:EnvOK EFp:=by
 refine ⟨mixed,?_,fun _ _ _ _ _ h=>by simp[EFp,E0] at h,fun _ _ _ h=>by simp[EFp,E0] at h,fun _ _ _ _ _ _ h=>by simp[EFp,E0] at h,fun _ _ _ _ h=>by simp[EFp,E0] at h⟩
 intro f vs ob r h ho
 simp only[EFp] at h
 split at h
 ·exact fnK_ok spec39 h ho
 ·exact fnK_ok spec52 h ho
 ·exact fn2_ok spec70 h ho
 ·exact fn55_ok h ho
 ·exact fnRp_ok spec54 h ho
 ·exact fnR1_ok spec53 h ho
 ·exact fn2_ok spec78 h ho
 ·simp at h
theorem run56 (m q a:Nat):callR EFp 1000 260 [rV0 m q,N8 a] []=some ([m<4294967296^8,2<4294967296,0<4294967296,0<4294967296,0<4294967296,0<4294967296,0<4294967296,0<4294967296,0<4294967296,
  m<4294967296^8,a<m,goodF m q,a<4294967296^8,subN m 2<4294967296^8],.val (N8 (mpowN m a (subN m 2)))):=by kernel_rfl
noncomputable def minvN (m a:Nat):Nat:=mpowN m a (subN m 2)
theorem spec56:SpecR1 260 minvN:=by
 intro m q a hm ha hq
 have h0:(0:Nat)<4294967296:=by decide
 have h2:(2:Nat)<4294967296:=by decide
 exact spec_run envEFp rfl (run56 m q a) ⟨hm,h2,h0,h0,h0,h0,h0,h0,h0,hm,ha,hq,by omega,subN_lt _ _,trivial⟩ rfl rfl
theorem modN_two (k:Nat):2<modN k:=by unfold modN;split<;>decide
def GoesN (P:Program) (y:Code) (n:Nat) (ex:Ex) (T:List AV) (M:List Blk) (T':List AV) (M':List Blk):Prop:=
 ∀w0 φ a w,Rel w0 φ T M a w→∀Q:Exit→Act→World→Prop,(∀φ' a' w',Agree M.length φ φ'→Rel w0 φ' T' M' a' w'→Q ex.to a' w')→Code.rounds P y Q n a w
theorem GoesN.loop {P:Program} {y:Code} {n:Nat} {ex:Ex} {T T':List AV} {M M':List Blk} (h:GoesN P y n ex T M T' M'):Goes P (.loop y) ex T M T' M':=
 fun w0 φ a w hr Q hQ=>wp_loop_rounds n (h w0 φ a w hr Q hQ)
theorem GoesN.out {P:Program} {y:Code} {n:Nat} {ex:Ex} (hex:ex≠.normal) {T T':List AV} {M M':List Blk} (h:Goes P y ex T M T' M'):GoesN P y (n+1) ex T M T' M':=by
 intro w0 φ a w hr Q hQ
 refine h w0 φ a w hr _ ?_
 intro φ' a' w' hag hr'
 have:=hQ φ' a' w' hag hr'
 cases ex with
 |normal=>exact absurd rfl hex
 |exit id=>exact this
 |ret=>exact this
theorem GoesN.cons {P:Program} {y:Code} {n:Nat} {ex:Ex} {T T1 T':List AV} {M M1 M':List Blk} (hl:M.length=M1.length) (h1:Goes P y .normal T M T1 M1) (h:GoesN P y n ex T1 M1 T' M'):GoesN P y (n+1) ex T M T' M':=by
 intro w0 φ a w hr Q hQ
 refine h1 w0 φ a w hr _ ?_
 intro φ' a' w' hag hr'
 refine h w0 φ' a' w' hr' Q ?_
 intro φ'' a'' w'' hag' hr''
 exact hQ φ'' a'' w'' (hag.trans (Nat.le_refl _) (by rw[hl];exact hag')) hr''
def d2 (m:Nat):Nat→Nat
 |0=>1
 |j+1=>2*d2 m j%m
def modB (z:Int):Bool:=decide (0≤z)&&decide (z<4)
theorem modB_t {z:Int} (h:modB z=true):0≤z∧z<4:=by simpa[modB] using h
theorem modB_f {z:Int} (h:modB z=false):¬(0≤z∧z<4):=by
 intro h';simp[modB,h'.1,h'.2] at h
def lessB (z:Int) (a:Nat):Bool:=decide (a<modN z.toNat)
def ok1 (z:Int) (a:Nat):Bool:=modB z&&lessB z a
def zV (z:Int):V1:= .one (.i z)
noncomputable def E39:Env:={E0 with
 S:=fun f t=>match f with
  |241=>memN t [6,9,12,15]
  |_=>false}
theorem envE39:EnvOK E39:=⟨mixed,fun _ _ _ _ h=>by simp[E39,E0] at h,fun _ _ _ _ _ h=>by simp[E39,E0] at h,fun _ _ _ h=>by simp[E39,E0] at h,fun _ _ _ _ _ _ h=>by simp[E39,E0] at h,fun _ _ _ _ h=>by simp[E39,E0] at h⟩
theorem run39b (z:Int):callR E39 1000 241 [zV z] [false,false,false,false]=some ([decide (z=0)=false,decide (z=1)=false,decide (z=2)=false,decide (z=3)=false],.tup [C8 zF,.one (.v (.bool false))]):=by kernel_rfl
def g39b:AV:= .tup [N8 0,.one (.v (.bool false))]
theorem conc_zF (φ:Loc):(C8 zF).conc φ=(N8 0).conc φ:=by rw[←limb_zero,conc_C8]
theorem spec39b (z:Int) (h:modB z=false):Spec 241 [zV z] g39b:=by
 have:=modB_f h
 refine (spec_run envE39 rfl (run39b z) ⟨decide_eq_false (by omega),decide_eq_false (by omega),decide_eq_false (by omega),decide_eq_false (by omega),trivial⟩ rfl rfl).congr (fun _=>rfl) (fun φ=> ?_)
 simp only[g39b,AV.conc,List.map_cons,List.map_nil,conc_zF]
inductive Sh where|n8|u32|b
inductive Arg where|z|b|u|s (l:List Sh)
inductive Val where|n (x:Nat)|z (x:Int)|b (x:Bool)
def tkU:Nat→List Piece→Option (List Prop×Nat×List Piece)
 |0,ps=>some ([],0,ps)
 |n+1,.a (.u .u32 x)::ps=>match tkU n ps with
  |some (o,v,r)=>some ((x<4294967296)::o,x+4294967296*v,r)
  |none=>none
 |_+1,_=>none
def tkN (ps:List Piece):Option (List Prop×Nat×List Piece):=
 match ps with
 | .num k x::r=>match Nat.beq k 8 with|true=>some ([x<4294967296^8],x,r)|false=>none
 |ps=>tkU 8 ps
theorem tkU_spec:∀(n:Nat) (ps:List Piece) {o:List Prop} {v:Nat} {r:List Piece},tkU n ps=some (o,v,r)→All o→
  v<4294967296^n∧∀φ,concs φ ps=limbs n v++concs φ r:=by
 intro n
 induction n with
 |zero=>
  intro ps o v r h _
  simp only[tkU,Option.some.injEq,Prod.mk.injEq] at h
  obtain ⟨_,rfl,rfl⟩:=h
  exact ⟨by simp,fun φ=>rfl⟩
 |succ n ih=>
  intro ps o v r h ho
  unfold tkU at h
  split at h
  ·rename_i h0;omega
  ·rename_i n' y ps' hn
   obtain rfl:n=n':=by omega
   split at h
   ·rename_i o' v' r' hv
    simp only[Option.some.injEq,Prod.mk.injEq] at h
    obtain ⟨rfl,rfl,rfl⟩:=h
    obtain ⟨h1,h2⟩:=ih ps' hv ho.2
    have hy:y<4294967296:=ho.1
    refine ⟨by rw[Nat.pow_succ];omega,fun φ=> ?_⟩
    simp only[concs,Piece.conc,Atom.conc,limbs,h2 φ]
    rw[show (y+4294967296*v')%4294967296=y by omega,show (y+4294967296*v')/4294967296=v' by omega]
    rfl
   ·simp at h
  ·simp at h
theorem tkN_spec {ps:List Piece} {o:List Prop} {v:Nat} {r:List Piece} (h:tkN ps=some (o,v,r)) (ho:All o):
  v<4294967296^8∧∀φ,concs φ ps=limbs 8 v++concs φ r:=by
 unfold tkN at h
 split at h
 ·rename_i k x r'
  split at h
  ·rename_i hk
   simp only[Option.some.injEq,Prod.mk.injEq] at h
   obtain ⟨rfl,rfl,rfl⟩:=h
   have hk:=Nat.eq_of_beq_eq_true hk
   subst hk
   exact ⟨ho.1,fun φ=>by simp only[concs,Piece.conc]⟩
  ·simp at h
 ·exact tkU_spec 8 ps h ho
def rdPs:List Sh→List Piece→Option (List Prop×List Val)
 |[],[]=>some ([],[])
 |[],_::_=>none
 | .n8::s,ps=>match tkN ps with
  |some (o,x,r)=>match rdPs s r with
   |some (o',vs)=>some (o++o',.n x::vs)
   |none=>none
  |none=>none
 | .u32::s,ps=>match ps with
  | .a (.u .u32 x)::r=>match rdPs s r with
   |some (o',vs)=>some ((x<4294967296)::o',.n x::vs)
   |none=>none
  |_=>none
 | .b::s,ps=>match ps with
  | .a (.v (.bool x))::r=>match rdPs s r with
   |some (o',vs)=>some (o',.b x::vs)
   |none=>none
  |_=>none
def mkPs:List Sh→List Val→List Piece
 | .n8::s,.n x::vs=> .num 8 x::mkPs s vs
 | .u32::s,.n x::vs=> .a (.u .u32 x)::mkPs s vs
 | .b::s,.b x::vs=> .a (.v (.bool x))::mkPs s vs
 |_,_=>[]
def BnP:List Sh→List Val→Prop
 |[],[]=>True
 | .n8::s,.n x::vs=>x<4294967296^8∧BnP s vs
 | .u32::s,.n x::vs=>x<4294967296∧BnP s vs
 | .b::s,.b _::vs=>BnP s vs
 |_,_=>False
theorem rdPs_spec:∀(s:List Sh) (ps:List Piece) {o:List Prop} {vs:List Val},rdPs s ps=some (o,vs)→All o→
  vs.length=s.length∧BnP s vs∧∀φ,concs φ ps=concs φ (mkPs s vs)
 |[],[],o,vs,h,_=>by
  simp only[rdPs,Option.some.injEq,Prod.mk.injEq] at h
  obtain ⟨_,rfl⟩:=h
  exact ⟨rfl,trivial,fun φ=>rfl⟩
 |[],_::_,o,vs,h,_=>by simp[rdPs] at h
 | .n8::s,ps,o,vs,h,ho=>by
  simp only[rdPs] at h
  split at h
  ·rename_i o1 x r hx
   split at h
   ·rename_i o2 vs' hr
    simp only[Option.some.injEq,Prod.mk.injEq] at h
    obtain ⟨rfl,rfl⟩:=h
    rw[All_append] at ho
    obtain ⟨h1,h2⟩:=tkN_spec hx ho.1
    obtain ⟨h3,h4,h5⟩:=rdPs_spec s r hr ho.2
    exact ⟨by simp[h3],⟨h1,h4⟩,fun φ=>by rw[h2 φ,h5 φ];rfl⟩
   ·simp at h
  ·simp at h
 | .u32::s,ps,o,vs,h,ho=>by
  simp only[rdPs] at h
  split at h
  ·rename_i x r
   split at h
   ·rename_i o2 vs' hr
    simp only[Option.some.injEq,Prod.mk.injEq] at h
    obtain ⟨rfl,rfl⟩:=h
    obtain ⟨h3,h4,h5⟩:=rdPs_spec s r hr ho.2
    exact ⟨by simp[h3],⟨ho.1,h4⟩,fun φ=>by simp only[mkPs,concs,h5 φ]⟩
   ·simp at h
  ·simp at h
 | .b::s,ps,o,vs,h,ho=>by
  simp only[rdPs] at h
  split at h
  ·rename_i x r
   split at h
   ·rename_i o2 vs' hr
    simp only[Option.some.injEq,Prod.mk.injEq] at h
    obtain ⟨rfl,rfl⟩:=h
    obtain ⟨h3,h4,h5⟩:=rdPs_spec s r hr ho
    exact ⟨by simp[h3],h4,fun φ=>by simp only[mkPs,concs,h5 φ]⟩
   ·simp at h
  ·simp at h
def rdA:Arg→V1→Option (List Prop×List Val)
 | .z,.one (.i x)=>some ([],[.z x])
 | .b,.one (.v (.bool x))=>some ([],[.b x])
 | .u,.one (.u .u32 x)=>some ([x<4294967296],[.n x])
 | .s l,.agg ps=>rdPs l ps
 |_,_=>none
def rdAs:List Arg→List V1→Option (List Prop×List Val)
 |[],[]=>some ([],[])
 |a::ar,v::vs=>match rdA a v with
  |some (o,xs)=>match rdAs ar vs with
   |some (o',ys)=>some (o++o',xs++ys)
   |none=>none
  |none=>none
 |_,_=>none
def arN:Arg→Nat
 | .s l=>l.length
 |_=>1
def mkA:Arg→List Val→V1
 | .z,.z x::_=> .one (.i x)
 | .b,.b x::_=> .one (.v (.bool x))
 | .u,.n x::_=> .one (.u .u32 x)
 | .s l,vs=> .agg (mkPs l vs)
 |_,_=> .agg []
def BnA:Arg→List Val→Prop
 | .z,[.z _]=>True
 | .b,[.b _]=>True
 | .u,[.n x]=>x<4294967296
 | .s l,vs=>BnP l vs
 |_,_=>False
def mkAs:List Arg→List Val→List V1
 |[],_=>[]
 |a::ar,vs=>mkA a (vs.take (arN a))::mkAs ar (vs.drop (arN a))
def BnAs:List Arg→List Val→Prop
 |[],vs=>vs=[]
 |a::ar,vs=>BnA a (vs.take (arN a))∧BnAs ar (vs.drop (arN a))
theorem rdA_spec (a:Arg) (v:V1) {o:List Prop} {xs:List Val} (h:rdA a v=some (o,xs)) (ho:All o):
  xs.length=arN a∧BnA a xs∧∀φ,v.conc φ=(mkA a xs).conc φ:=by
 unfold rdA at h
 split at h
 ·simp only[Option.some.injEq,Prod.mk.injEq] at h
  obtain ⟨_,rfl⟩:=h
  exact ⟨rfl,trivial,fun φ=>rfl⟩
 ·simp only[Option.some.injEq,Prod.mk.injEq] at h
  obtain ⟨_,rfl⟩:=h
  exact ⟨rfl,trivial,fun φ=>rfl⟩
 ·simp only[Option.some.injEq,Prod.mk.injEq] at h
  obtain ⟨rfl,rfl⟩:=h
  exact ⟨rfl,ho.1,fun φ=>rfl⟩
 ·rename_i l ps
  obtain ⟨h1,h2,h3⟩:=rdPs_spec l ps h ho
  refine ⟨h1,?_,fun φ=> ?_⟩
  ·exact h2
  ·simp only[mkA,V1.conc,h3 φ]
 ·simp at h
theorem rdAs_spec:∀(ar:List Arg) (vs:List V1) {o:List Prop} {xs:List Val},rdAs ar vs=some (o,xs)→All o→
  BnAs ar xs∧∀φ,vs.map (V1.conc φ)=(mkAs ar xs).map (V1.conc φ)
 |[],[],o,xs,h,_=>by
  simp only[rdAs,Option.some.injEq,Prod.mk.injEq] at h
  obtain ⟨_,rfl⟩:=h
  exact ⟨rfl,fun φ=>rfl⟩
 |a::ar,v::vs,o,xs,h,ho=>by
  simp only[rdAs] at h
  split at h
  ·rename_i o1 x hx
   split at h
   ·rename_i o2 ys hy
    simp only[Option.some.injEq,Prod.mk.injEq] at h
    obtain ⟨rfl,rfl⟩:=h
    rw[All_append] at ho
    obtain ⟨h1,h2,h3⟩:=rdA_spec a v hx ho.1
    obtain ⟨h4,h5⟩:=rdAs_spec ar vs hy ho.2
    simp only[BnAs,mkAs,List.take_left' h1,List.drop_left' h1,List.map_cons]
    exact ⟨⟨h2,h4⟩,fun φ=>by rw[h3 φ,h5 φ]⟩
   ·simp at h
  ·simp at h
 |[],_::_,o,xs,h,_=>by simp[rdAs] at h
 |_::_,[],o,xs,h,_=>by simp[rdAs] at h
def fnS (ar:List Arg) (g:List Val→Option (List Prop×AV)) (vs:List V1):Option (List Prop×AV):=
 match rdAs ar vs with
 |some (o,xs)=>match g xs with
  |some (o',r)=>some (o++o',r)
  |none=>none
 |none=>none
structure CT where
 f:FuncId
 g:List V1→Option (List Prop×AV)
def CTok (c:CT):Prop:=∀vs ob r,c.g vs=some (ob,r)→All ob→Spec c.f vs r
theorem ctS {f:FuncId} {ar:List Arg} {g:List Val→Option (List Prop×AV)} (hg:∀xs ob r,BnAs ar xs→g xs=some (ob,r)→All ob→Spec f (mkAs ar xs) r):CTok ⟨f,fnS ar g⟩:=by
 intro vs ob r h ho
 simp only[fnS] at h
 split at h
 ·rename_i o xs hx
  split at h
  ·rename_i o' r' hr
   simp only[Option.some.injEq,Prod.mk.injEq] at h
   obtain ⟨rfl,rfl⟩:=h
   rw[All_append] at ho
   obtain ⟨h1,h2⟩:=rdAs_spec ar vs hx ho.1
   exact (hg xs _ _ h1 hr ho.2).congr (fun φ=>(h2 φ).symm) (fun _=>rfl)
  ·simp at h
 ·simp at h
def lookC:List CT→FuncId→List V1→Option (List Prop×AV)
 |[],_,_=>none
 |c::r,f,vs=>match Nat.beq c.f f with
  |true=>c.g vs
  |false=>lookC r f vs
def AllCT:List CT→Prop
 |[]=>True
 |c::r=>CTok c∧AllCT r
theorem lookC_spec:∀{L:List CT},AllCT L→∀{f:FuncId} {vs:List V1} {ob:List Prop} {r:AV},lookC L f vs=some (ob,r)→All ob→Spec f vs r
 |[],_,f,vs,ob,r,h,_=>by simp[lookC] at h
 |c::L,hL,f,vs,ob,r,h,ho=>by
  simp only[lookC] at h
  split at h
  ·rename_i hc
   have:=Nat.eq_of_beq_eq_true hc
   rw[←this]
   exact hL.1 vs ob r h ho
  ·exact lookC_spec hL.2 h ho
noncomputable def mkE (L:List CT) (S:FuncId→Nat→Bool):Env:={E0 with fn:=lookC L,S:=S}
theorem envMk {L:List CT} (hL:AllCT L) (S:FuncId→Nat→Bool):EnvOK (mkE L S):=
 ⟨mixed,fun _ _ _ _ h ho=>lookC_spec hL h ho,fun _ _ _ _ _ h=>by simp[mkE,E0] at h,fun _ _ _ h=>by simp[mkE,E0] at h,fun _ _ _ _ _ _ h=>by simp[mkE,E0] at h,fun _ _ _ _ h=>by simp[mkE,E0] at h⟩
def leN:List Nat→Nat
 |[]=>0
 |b::bs=>b+256*leN bs
def leS (s:ByteArray):Nat:=leN (numsB s)
def leB (n x:Nat):List Nat:=(List.range n).map fun j=>x/256^j%256
theorem leN_lt:∀l:List Nat,(∀b∈l,b<256)→leN l<256^l.length
 |[],_=>by simp[leN]
 |b::l,h=>by
  have h1:=leN_lt l (fun x hx=>h x (by simp[hx]))
  have h2:=h b (by simp)
  simp only[leN,List.length_cons,Nat.pow_succ];omega
theorem numsB_lt (s:ByteArray):∀b∈numsB s,b<256:=by
 intro b hb
 simp only[numsB,List.mem_map] at hb
 obtain ⟨x,_,rfl⟩:=hb
 exact UInt8.toNat_lt x
theorem leS_lt (s:ByteArray):leS s<256^s.size:=by
 have:=leN_lt (numsB s) (numsB_lt s)
 rwa[numsB_length] at this
theorem strOf_size (l:List Nat):(strOf l).size=l.length:=by simp[strOf,ByteArray.size]
theorem strOf_numsB (s:ByteArray):strOf (numsB s)=s:=by
 unfold strOf numsB
 rw[List.map_map]
 have:((fun n=>UInt8.ofNat n)∘UInt8.toNat)=id:=by funext x;simp[Function.comp]
 rw[this];simp
theorem leB_length (n x:Nat):(leB n x).length=n:=by simp[leB]
theorem orSh {a k:Nat} (x:Nat) (ha:a<2^k):a|||x*2^k=a+x*2^k:=by
 have:=Nat.two_pow_add_eq_or_of_lt ha x
 rw[Nat.or_comm,Nat.mul_comm x,←this,Nat.add_comm]
def ls (acc x k:Nat):Nat:=acc%4294967296|||x%4294967296*2^k%4294967296%4294967296
theorem ls_eq {acc x k:Nat} (ha:acc<2^k) (hx:x<256) (hk:k≤24):ls acc x k=acc+x*2^k∧acc+x*2^k<2^(k+8):=by
 have h1:acc+x*2^k<2^(k+8):=by
  have:x*2^k≤255*2^k:=Nat.mul_le_mul_right _ (by omega)
  rw[Nat.pow_add];omega
 have h2:2^(k+8)≤4294967296:=Nat.pow_le_pow_right (n:=2) (j:=32) (by decide) (by omega)
 refine ⟨?_,h1⟩
 unfold ls
 rw[Nat.mod_eq_of_lt (show acc<4294967296 by omega),Nat.mod_eq_of_lt (show x<4294967296 by omega),Nat.mod_eq_of_lt (show x*2^k<4294967296 by omega),Nat.mod_eq_of_lt (show x*2^k<4294967296 by omega)]
 exact orSh x ha
def strB (n:Nat) (b:Nat→UInt8):ByteArray:=⟨((List.range n).map b).toArray⟩
theorem strB_of {s:ByteArray} {n:Nat} (h:s.size=n):s=strB n (fun i=>s.data.getD i 0):=by
 subst h
 apply ByteArray.ext
 apply Array.ext
 ·simp[strB]
 ·intro i h1 h2
  simp only[strB,List.getElem_toArray,List.getElem_map,List.getElem_range]
  rw[Array.getD_eq_getD_getElem?,Array.getElem?_eq_getElem h1];rfl
theorem numsB_strB (n:Nat) (b:Nat→UInt8):numsB (strB n b)=(List.range n).map fun i=>(b i).toNat:=by
 simp[numsB,strB,List.map_map,Function.comp]
def sS (s:ByteArray):V1:= .one (.v (.string s))
def ol (b:Nat→UInt8) (i:Nat):Nat:=ls (ls (ls (ls 0 (b (4*i)).toNat 0) (b (4*i+1)).toNat 8) (b (4*i+2)).toNat 16) (b (4*i+3)).toNat 24
def lbt (u:Nat→Nat) (j:Nat):Nat:=u (j/4)/2^(8*(j%4))%256
theorem run84a (b:Nat→UInt8):callR E0 1000 138 [sS (strB 32 b)] []=some ([],.tup [C8 (ol b),.one (.i 0)]):=by kernel_rfl
theorem run110a (u:Nat→Nat):callR E0 1000 119 [C8 u] []=some ([],.val (sS (strOf ((List.range 32).map (lbt u))))):=by kernel_rfl
theorem ol_eq (b:Nat→UInt8) (i:Nat):ol b i=(b (4*i)).toNat+256*(b (4*i+1)).toNat+65536*(b (4*i+2)).toNat+16777216*(b (4*i+3)).toNat∧ol b i<4294967296:=by
 have h0:=UInt8.toNat_lt (b (4*i))
 have h1:=UInt8.toNat_lt (b (4*i+1))
 have h2:=UInt8.toNat_lt (b (4*i+2))
 have h3:=UInt8.toNat_lt (b (4*i+3))
 unfold ol
 rw[(ls_eq (acc:=0) (k:=0) (by decide) h0 (by decide)).1,(ls_eq (k:=8) (by omega) h1 (by decide)).1,(ls_eq (k:=16) (by omega) h2 (by decide)).1,(ls_eq (k:=24) (by omega) h3 (by decide)).1]
 omega
theorem ol_val (s:ByteArray) (b:Nat→UInt8) (e:s=strB 32 b):valU 8 0 (ol b)=leS s:=by
 rw[e,leS,numsB_strB]
 have q:=fun i=>(ol_eq b i).1
 simp only[valU,q,Nat.zero_add,Nat.reduceAdd,Nat.reduceMul,show List.range 32=[0,1,2,3,4,5,6,7,8,9,10,11,12,13,14,15,16,17,18,19,20,21,22,23,24,25,26,27,28,29,30,31] from rfl,List.map_cons,List.map_nil,leN]
 omega
theorem spec84s (s:ByteArray) (h:s.size=32):Spec 138 [sS s] (.tup [N8 (leS s),.one (.i 0)]):=by
 have e:=strB_of h
 generalize hb:(fun i=>s.data.getD i 0)=b at e
 have h:=spec_run envE0 rfl (run84a b) trivial rfl rfl
 refine h.congr (fun φ=>by rw[e]) (fun φ=> ?_)
 simp only[AV.conc,List.map_cons,List.map_nil]
 rw[conc_C8v φ (fun i _=>(ol_eq b i).2) (ol_val s b e)]
theorem limb_eqD (a:Nat):∀i,limb a i=a/4294967296^i%4294967296:=fun _=>rfl
theorem lb4 (x r:Nat) (h:r<4):x%4294967296/2^(8*r)%256=x/2^(8*r)%256:=by
 match r,h with
 |0,_=>simp only[Nat.reduceMul,Nat.reducePow];omega
 |1,_=>simp only[Nat.reduceMul,Nat.reducePow];omega
 |2,_=>simp only[Nat.reduceMul,Nat.reducePow];omega
 |3,_=>simp only[Nat.reduceMul,Nat.reducePow];omega
theorem pow4 (j:Nat):256^j=4294967296^(j/4)*2^(8*(j%4)):=by
 have h1:(4294967296:Nat)^(j/4)=256^(4*(j/4)):=by rw[Nat.pow_mul]
 have h2:(2:Nat)^(8*(j%4))=256^(j%4):=by rw[Nat.pow_mul]
 rw[h1,h2,←Nat.pow_add,Nat.div_add_mod]
theorem lbt_eq (a j:Nat):lbt (limb a) j=a/256^j%256:=by
 unfold lbt
 rw[limb_eqD,lb4 _ _ (Nat.mod_lt _ (by decide)),pow4,←Nat.div_div_eq_div_mul]
theorem lbt_leB (a:Nat):(List.range 32).map (lbt (limb a))=leB 32 a:=by
 unfold leB
 exact List.map_congr_left fun j _=>lbt_eq a j
theorem spec110s (a:Nat):Spec 119 [N8 a] (.val (sS (strOf (leB 32 a)))):=by
 have h:=spec_run envE0 rfl (run110a (limb a)) trivial rfl rfl
 rw[lbt_leB] at h
 exact h.congr (fun φ=>by simp only[List.map_cons,List.map_nil,conc_C8]) (fun φ=>rfl)
end Go.Ev
namespace Go.Ev.H5
open Go Go.Proofs Go.RowKit
def u64 (n:Nat):V1:= .one (.u .u64 n)
def byteAt (s:ByteArray) (i:Nat):Nat:=(s.data.getD i 0).toNat
def M64:Nat:=18446744073709551616
def sh8 (x b:Nat):Nat:=x*256%M64%M64|||b%M64%M64
def word8 (s:ByteArray) (i:Nat):Nat:=sh8 (sh8 (sh8 (sh8 (sh8 (sh8 (sh8 (sh8 0 (byteAt s i)) (byteAt s (i+1))) (byteAt s (i+2))) (byteAt s (i+3))) (byteAt s (i+4))) (byteAt s (i+5))) (byteAt s (i+6))) (byteAt s (i+7))
noncomputable def E137:Env:={E0 with S:=fun f t=>match f with|306=>memN t [11]|_=>false}
theorem envE137:EnvOK E137:=⟨mixed,envE0.fns,envE0.fms,envE0.lps,envE0.fbs,envE0.fws⟩
def i8ob (s:ByteArray):List Prop:=[(0:Int)≤0∧(0:Int)<s.size,(0:Int)≤1∧(1:Int)<s.size,(0:Int)≤2∧(2:Int)<s.size,(0:Int)≤3∧(3:Int)<s.size,(0:Int)≤4∧(4:Int)<s.size,(0:Int)≤5∧(5:Int)<s.size,(0:Int)≤6∧(6:Int)<s.size,(0:Int)≤7∧(7:Int)<s.size]
theorem run137 (s:ByteArray):callR E137 1000 306 [sS s] []=some (i8ob s,.val (u64 (word8 s 0))):=by kernel_rfl
def fnW8 (vs:List V1):Option (List Prop×AV):=
 match vs with
 |[.one (.v (.string s))]=>some ([8≤s.size],.val (u64 (word8 s 0)))
 |_=>none
theorem i8ok {s:ByteArray} (h:8≤s.size):All (i8ob s):=⟨by omega,by omega,by omega,by omega,by omega,by omega,by omega,by omega,trivial⟩
theorem ct137:CTok ⟨306,fnW8⟩:=by
 intro vs ob r h ho
 simp only[fnW8] at h
 split at h
 ·simp only[Option.some.injEq,Prod.mk.injEq] at h
  obtain ⟨rfl,rfl⟩:=h
  exact spec_run envE137 rfl (run137 _) (i8ok ho.1) rfl rfl
 ·simp at h
def rot (x n:Nat):Nat:=x*2^(64-n)%M64%M64|||x/2^n%M64
def turns:List Nat:=[1,8,14,18,19,28,34,39,41,61]
theorem run127 (x:Nat):(callR E0 1000 295 [u64 x,.one (.i 1)] []=some ([],.val (u64 (rot x 1))))∧(callR E0 1000 295 [u64 x,.one (.i 8)] []=some ([],.val (u64 (rot x 8))))∧(callR E0 1000 295 [u64 x,.one (.i 14)] []=some ([],.val (u64 (rot x 14))))
  ∧(callR E0 1000 295 [u64 x,.one (.i 18)] []=some ([],.val (u64 (rot x 18))))∧(callR E0 1000 295 [u64 x,.one (.i 19)] []=some ([],.val (u64 (rot x 19))))∧(callR E0 1000 295 [u64 x,.one (.i 28)] []=some ([],.val (u64 (rot x 28))))
  ∧(callR E0 1000 295 [u64 x,.one (.i 34)] []=some ([],.val (u64 (rot x 34))))∧(callR E0 1000 295 [u64 x,.one (.i 39)] []=some ([],.val (u64 (rot x 39))))∧(callR E0 1000 295 [u64 x,.one (.i 41)] []=some ([],.val (u64 (rot x 41))))
  ∧(callR E0 1000 295 [u64 x,.one (.i 61)] []=some ([],.val (u64 (rot x 61)))):=by
 refine ⟨?_,?_,?_,?_,?_,?_,?_,?_,?_,?_⟩<;>kernel_rfl
def fnRot (vs:List V1):Option (List Prop×AV):=
 match vs with
 |[.one (.u .u64 x),.one (.i (.ofNat n))]=>match memN n turns with
  |true=>some ([],.val (u64 (rot x n)))
  |false=>none
 |_=>none
theorem mem_turns {n:Nat} (h:memN n turns=true):n=1∨n=8∨n=14∨n=18∨n=19∨n=28∨n=34∨n=39∨n=41∨n=61:=by
 simp only[turns,memN,Bool.or_false,Bool.or_eq_true] at h
 simpa only[Nat.beq_eq] using h
theorem ct127:CTok ⟨295,fnRot⟩:=by
 intro vs ob r h _
 simp only[fnRot] at h
 split at h
 ·rename_i x n
  split at h
  ·rename_i hn
   simp only[Option.some.injEq,Prod.mk.injEq] at h
   obtain ⟨_,rfl⟩:=h
   obtain ⟨h1,h2,h3,h4,h5,h6,h7,h8,h9,h10⟩:=run127 x
   rcases mem_turns hn with rfl|rfl|rfl|rfl|rfl|rfl|rfl|rfl|rfl|rfl
   ·exact spec_run envE0 rfl h1 trivial rfl rfl
   ·exact spec_run envE0 rfl h2 trivial rfl rfl
   ·exact spec_run envE0 rfl h3 trivial rfl rfl
   ·exact spec_run envE0 rfl h4 trivial rfl rfl
   ·exact spec_run envE0 rfl h5 trivial rfl rfl
   ·exact spec_run envE0 rfl h6 trivial rfl rfl
   ·exact spec_run envE0 rfl h7 trivial rfl rfl
   ·exact spec_run envE0 rfl h8 trivial rfl rfl
   ·exact spec_run envE0 rfl h9 trivial rfl rfl
   ·exact spec_run envE0 rfl h10 trivial rfl rfl
  ·simp at h
 ·simp at h
def xor64 (x y:Nat):Nat:=x%M64^^^y%M64
def and64 (x y:Nat):Nat:=x%M64&&&y%M64
def add64 (x y:Nat):Nat:=(x+y)%M64
def not64 (x:Nat):Nat:=M64-1-x%M64
def sig0 (x:Nat):Nat:=xor64 (xor64 (rot x 1) (rot x 8)) (x/2^7)
def sig1 (y:Nat):Nat:=xor64 (xor64 (rot y 19) (rot y 61)) (y/2^6)
def ixD (i d:Nat):Nat:=0+((i:Int)-(d:Int)).toNat*1
def schP (l:List Nat) (i:Nat):Nat:=add64 (add64 (add64 (l.getD (ixD i 16) 0) (sig0 (l.getD (ixD i 15) 0))) (l.getD (ixD i 7) 0)) (sig1 (l.getD (ixD i 2) 0))
def wB (l:List Nat):Blk:=⟨[.arr .u64 l],356,true,false,0⟩
noncomputable def L125:List CT:=[⟨306,fnW8⟩,⟨295,fnRot⟩]
theorem L125_ok:AllCT L125:=⟨ct137,ct127,trivial⟩
noncomputable def S125:FuncId→Nat→Bool:=fun f t=>match f with|293=>memN t [9,12,16,17,19,4000019,21,22,2000023,25,26,2000027,46,47,2000048,52,53,2000054,58,4000058,59]|_=>false
def T125 (s:ByteArray) (i:Int):List AV:=slots 61 [(0,.val (sS s)),(2,pV 0),(8,iV i)]
noncomputable def E125:Env:=mkE L125 S125
theorem r125a (s:ByteArray) (l:List Nat) (i:Nat):runTo E125 1000 (Env.S E125 293) (bodyOf Tryz.prog 293 2) (T125 s (↑i:Int)) [wB l] [true,true] (T125 s ((↑i:Int)+(1:Int))) 1=
  some ([decide ((↑i:Int)<(80:Int))=true,decide ((↑i:Int)<(16:Int))=true,inI ((8:Int)*(↑i:Int)),(0:Int)≤(8:Int)*(↑i:Int)∧(8:Int)*(↑i:Int)≤(↑(ByteArray.size s):Int),8≤ByteArray.size (ByteArray.extract s (Int.toNat ((8:Int)*(↑i:Int))) (ByteArray.size s)),(0:Int)≤(↑i:Int)∧(↑i:Int)<((80:Nat):Int),0+i*1<List.length l,inI ((↑i:Int)+(1:Int))],.normal,T125 s ((i:Int)+1),[wB (l.set (0+(i:Int).toNat*1) (word8 (s.extract (8*i) s.size) 0))]):=by kernel_rfl
theorem r125b (s:ByteArray) (l:List Nat) (i:Nat):runTo E125 1000 (Env.S E125 293) (bodyOf Tryz.prog 293 2) (T125 s (↑i:Int)) [wB l] [true,false] (T125 s ((↑i:Int)+(1:Int))) 1=
  some ([decide ((↑i:Int)<(80:Int))=true,decide ((↑i:Int)<(16:Int))=false,inI ((↑i:Int)-(15:Int)),(0:Int)≤(↑i:Int)-(15:Int)∧(↑i:Int)-(15:Int)<((80:Nat):Int),0+Int.toNat ((↑i:Int)-(15:Int))*1<List.length l,inI ((↑i:Int)-(2:Int)),(0:Int)≤(↑i:Int)-(2:Int)∧(↑i:Int)-(2:Int)<((80:Nat):Int),0+Int.toNat ((↑i:Int)-(2:Int))*1<List.length l,inI ((↑i:Int)-(16:Int)),(0:Int)≤(↑i:Int)-(16:Int)∧(↑i:Int)-(16:Int)<((80:Nat):Int),0+Int.toNat ((↑i:Int)-(16:Int))*1<List.length l,inI ((↑i:Int)-(7:Int)),(0:Int)≤(↑i:Int)-(7:Int)∧(↑i:Int)-(7:Int)<((80:Nat):Int),0+Int.toNat ((↑i:Int)-(7:Int))*1<List.length l,(0:Int)≤(↑i:Int)∧(↑i:Int)<((80:Nat):Int),0+i*1<List.length l,inI ((↑i:Int)+(1:Int))],.normal,T125 s ((i:Int)+1),[wB (l.set (0+(i:Int).toNat*1) (schP l i))]):=by kernel_rfl
theorem r125x (s:ByteArray) (l:List Nat) (i:Nat):runTo E125 1000 (Env.S E125 293) (bodyOf Tryz.prog 293 2) (T125 s (↑i:Int)) [wB l] [false] (T125 s (↑i:Int)) 1=
  some ([decide ((↑i:Int)<(80:Int))=false],(.exit 0),T125 s (i:Int),[wB l]):=by kernel_rfl
end Go.Ev.H5
