/- Of the proof of TopFull: what the functions come to that the law reaches. -/
import Derived.Test.YtablehofgadmeaaGreatDoorPartM
import Derived.Test.YtablehofgadmeaaGreatDoorPartF
import Derived.Test.YtablehofgadmeaaGreatDoorRows
namespace Go.Ev.H5
open Go Go.Proofs Go.RowKit
def schL (s:ByteArray):Nat→List Nat
 |0=>List.replicate 80 0
 |i+1=>(schL s i).set i (bif decide (i<16) then word8 s (8*i) else schP (schL s i) i)
theorem schL_len (s:ByteArray):∀i,(schL s i).length=80
 |0=>List.length_replicate
 |i+1=>by rw[schL,List.length_set];exact schL_len s i
theorem byteAt_cut (s:ByteArray) (a b i:Nat) (h:a+i<b) (hb:b≤s.size):byteAt (s.extract a b) i=byteAt s (a+i):=by
 unfold byteAt
 rw[ByteArray.data_extract]
 simp only[Array.getD_eq_getD_getElem?]
 rw[Array.getElem?_extract]
 have:i<min b s.data.size-a:=by
  have:s.data.size=s.size:=rfl
  omega
 rw[if_pos this]
theorem word8_cut (s:ByteArray) (a b:Nat) (h:a+8≤b) (hb:b≤s.size):word8 (s.extract a b) 0=word8 s a:=by
 unfold word8
 rw[byteAt_cut s a b 0 (by omega) hb,byteAt_cut s a b (0+1) (by omega) hb,byteAt_cut s a b (0+2) (by omega) hb,byteAt_cut s a b (0+3) (by omega) hb,
  byteAt_cut s a b (0+4) (by omega) hb,byteAt_cut s a b (0+5) (by omega) hb,byteAt_cut s a b (0+6) (by omega) hb,byteAt_cut s a b (0+7) (by omega) hb]
 rfl
theorem wB_free (l:List Nat):Free (wB l):=fun _=>rfl
theorem wf125 (s:ByteArray) (l:List Nat) (i:Int):wfS (T125 s i) [wB l]=true:=wfS_of (by
 intro b hb
 simp only[List.mem_cons,List.not_mem_nil,or_false] at hb
 subst hb
 exact wB_free l) (by show tmsWf 1 _=true;kernel_rfl)
theorem envE125:EnvOK E125:=envMk L125_ok _
theorem cut_size (s:ByteArray) (a b:Nat) (hb:b≤s.size):(s.extract a b).size=b-a:=by
 rw[ByteArray.size_extract];omega
theorem step125 (s:ByteArray) (hs:128≤s.size) (hl:s.size≤4611686018427387904) (i:Nat) (hi:i<80) (l:List Nat) (hlen:l.length=80):
  Goes Tryz.prog (bodyOf Tryz.prog 293 2) .normal (T125 s (i:Int)) [wB l] (T125 s ((i:Int)+1)) [wB (l.set i (bif decide (i<16) then word8 s (8*i) else schP l i))]:=by
 have e0:(0+(i:Int).toNat*1)=i:=by omega
 by_cases h16:i<16
 ·have hr:=r125a s l i
  rw[show (Int.toNat ((8:Int)*(i:Int)))=8*i by omega,word8_cut s (8*i) s.size (by omega) (Nat.le_refl _),e0] at hr
  rw[decide_eq_true h16,cond_true]
  exact Runs.goes envE125 ⟨_,_,hr,⟨decide_eq_true (by omega),decide_eq_true (by omega),by unfold inI;omega,by omega,by rw[cut_size _ _ _ (Nat.le_refl _)];omega,by omega,by omega,by unfold inI;omega,trivial⟩,wf125 _ _ _⟩
 ·have hr:=r125b s l i
  rw[e0] at hr
  rw[decide_eq_false h16,cond_false]
  exact Runs.goes envE125 ⟨_,_,hr,⟨decide_eq_true (by omega),decide_eq_false (by omega),by unfold inI;omega,by omega,by omega,by unfold inI;omega,by omega,by omega,by unfold inI;omega,by omega,by omega,by unfold inI;omega,by omega,by omega,by omega,by omega,by unfold inI;omega,trivial⟩,wf125 _ _ _⟩
theorem loop125 (s:ByteArray) (hs:128≤s.size) (hl:s.size≤4611686018427387904) (n:Nat) (hn:n=80) (L:Nat→List Nat) (hL:∀i,(L i).length=80) (h:∀i,L (i+1)=(L i).set i (bif decide (i<16) then word8 s (8*i) else schP (L i) i)):
  Goes Tryz.prog (.loop (bodyOf Tryz.prog 293 2)) (.exit 0) (T125 s ((0:Nat):Int)) [wB (L 0)] (T125 s (n:Int)) [wB (L n)]:=by
 refine loop_goes (N:=n) (k:=1) (T:=fun i=>T125 s (i:Int)) (M:=fun i=>[wB (L i)]) (by simp) (fun _ _=>rfl) (fun i hi=> ?_) ?_
 ·have:=step125 s hs hl i (by omega) (L i) (hL i)
  rw[←h i] at this
  exact this
 ·exact Runs.goes envE125 ⟨_,_,r125x s (L n) n,⟨decide_eq_false (by omega),trivial⟩,wf125 _ _ _⟩
def cells64:Nat→Nat→(Nat→Nat)→List Piece
 |0,_,_=>[]
 |n+1,j,u=> .a (.u .u64 (u j))::cells64 n (j+1) u
theorem cells64_conc (φ:Loc) (u:Nat→Nat):∀n j,concs φ (cells64 n j u)=(List.range' j n).map fun i=>Value.int .u64 ((u i:Nat):Int)
 |0,_=>rfl
 |n+1,j=>by
  rw[List.range'_succ,List.map_cons,←cells64_conc φ u n (j+1)]
  rfl
theorem arr64_conc (φ:Loc) (l:List Nat) (n:Nat) (h:l.length=n):concs φ [.arr .u64 l]=concs φ (cells64 n 0 fun j=>l.getD j 0):=by
 rw[cells64_conc,arr_conc]
 subst h
 apply List.ext_getElem (by simp)
 intro i h1 h2
 simp only[List.getElem_map,List.getElem_range']
 rw[List.length_map] at h1
 simp[List.getD_eq_getElem?_getD,List.getElem?_eq_getElem h1]
theorem cells64_free (u:Nat→Nat) (f:Nat→Bool):∀n j,allPtr f (cells64 n j u)=true
 |0,_=>rfl
 |n+1,j=>cells64_free u f n (j+1)
noncomputable def schW (s:ByteArray) (j:Nat):Nat:=(schL s 80).getD j 0
def cB (u:Nat→Nat):Blk:=⟨cells64 80 0 u,356,true,false,0⟩
theorem cB_free (u:Nat→Nat):Free (cB u):=fun f=>cells64_free u f 80 0
theorem wfC125 (s:ByteArray) (u:Nat→Nat) (i:Int):wfS (T125 s i) [cB u]=true:=wfS_of (by
 intro b hb
 simp only[List.mem_cons,List.not_mem_nil,or_false] at hb
 subst hb
 exact cB_free u) (by show tmsWf 1 _=true;kernel_rfl)
def zW (_:Nat):Nat:=0
theorem sch_loop (s:ByteArray) (hs:128≤s.size) (hl:s.size≤4611686018427387904):Goes Tryz.prog (.loop (bodyOf Tryz.prog 293 2)) (.exit 0) (T125 s ((0:Nat):Int)) [cB zW] (T125 s ((80:Nat):Int)) [cB (schW s)]:=by
 refine Goes.before (Goes.after (loop125 s hs hl 80 rfl (schL s) (schL_len s) (fun _=>rfl)) (sameT_refl _) ⟨⟨rfl,rfl,rfl,rfl,fun φ=> ?_⟩,trivial⟩ (wfC125 _ _ _)) (sameT_refl _) ⟨⟨rfl,rfl,rfl,rfl,fun φ=> ?_⟩,trivial⟩ (wf125 _ _ _)
 ·exact arr64_conc φ (schL s 80) 80 (schL_len s 80)
 ·exact (arr64_conc φ (List.replicate 80 0) 80 List.length_replicate).symm
end Go.Ev.H5
namespace Go.Ev
open Go Go.Proofs Go.RowKit
def gModulus:List Val→Option (List Prop×AV)
 |[.z z]=>some ([],.tup [N8 (bif modB z then modN z.toNat else 0),.one (.v (.bool (modB z)))])
 |_=>none
def gBit:List Val→Option (List Prop×AV)
 |[.n a,.z z]=>some ([0≤z∧z<256],bV (bitB a z.toNat))
 |_=>none
theorem ct105:CTok ⟨241,fnS [.z] gModulus⟩:=ctS (by
 intro xs ob r hb h ho
 unfold gModulus at h
 split at h
 ·rename_i z
  simp only[Option.some.injEq,Prod.mk.injEq] at h
  obtain ⟨rfl,rfl⟩:=h
  cases hz:modB z with
  |true=>
   obtain ⟨n,rfl⟩:∃n:Nat,z=(n:Int):=⟨z.toNat,by have:=modB_t hz;omega⟩
   exact spec39 n (by have:=modB_t hz;omega)
  |false=>exact spec39b z hz
 ·simp at h)
theorem ct104:CTok ⟨286,fnS [.s [.n8],.z] gBit⟩:=ctS (by
 intro xs ob r hb h ho
 unfold gBit at h
 split at h
 ·rename_i a z
  simp only[Option.some.injEq,Prod.mk.injEq] at h
  obtain ⟨rfl,rfl⟩:=h
  obtain ⟨h0,_⟩:=ho
  obtain ⟨n,rfl⟩:∃n:Nat,z=(n:Int):=⟨z.toNat,by omega⟩
  exact spec76 a n (by omega)
 ·simp at h)
noncomputable def L0:List CT:=[⟨283,fnRf mmN⟩,⟨245,fnR addM⟩,⟨303,fnR subM⟩,⟨261,fn55⟩,⟨259,fnR1 outN⟩,⟨258,fnK g52⟩,⟨241,fnS [.z] gModulus⟩,⟨290,fnRp mpowN⟩,⟨260,fnR1 minvN⟩,⟨287,fn2 gCmp⟩,⟨116,fn2 gSub⟩,⟨112,fn2 gAdd⟩,⟨118,fn85⟩,⟨284,fn1 (fun a=>iV (lenN a:Int))⟩,⟨286,fnS [.s [.n8],.z] gBit⟩]
theorem L0_ok:AllCT L0:=
 ⟨fun _ _ _ h ho=>fnRf_ok spec75 h ho,fun _ _ _ h ho=>fnR_ok spec65 h ho,fun _ _ _ h ho=>fnR_ok spec68 h ho,fun _ _ _ h ho=>fn55_ok h ho,fun _ _ _ h ho=>fnR1_ok spec53 h ho,fun _ _ _ h ho=>fnK_ok spec52 h ho,ct105,fun _ _ _ h ho=>fnRp_ok spec54 h ho,fun _ _ _ h ho=>fnR1_ok spec56 h ho,fun _ _ _ h ho=>fn2_ok spec70 h ho,fun _ _ _ h ho=>fn2_ok spec78 h ho,fun _ _ _ h ho=>fn2_ok spec84 h ho,fun _ _ _ h ho=>fn85_ok h ho,fun _ _ _ h ho=>fn1_ok (fun a _=>spec74 a) h ho,ct104,trivial⟩
end Go.Ev
namespace Go.NT
theorem mmod {m a b c d:Nat} (h:a%m=b%m) (h':c%m=d%m):a*c%m=b*d%m:=by
 rw[Nat.mul_mod,h,h',←Nat.mul_mod]
theorem zero_of_mul {m a b:Nat} (hp:Pr m) (h:a*b%m=0):a%m=0∨b%m=0:=by
 rcases euclid hp (Nat.dvd_of_mod_eq_zero h) with h|h
 ·exact .inl (Nat.mod_eq_zero_of_dvd h)
 ·exact .inr (Nat.mod_eq_zero_of_dvd h)
theorem cancel_add {m x c:Nat} (h:(x+c)%m=c%m):x%m=0:=by
 have h1:(x+c-c)%m=0:=Nat.sub_mod_eq_zero_of_mod_eq h
 rwa[Nat.add_sub_cancel] at h1
theorem sq_eq {m a b:Nat} (hp:Pr m) (ha:a<m) (hb:b<m) (h:a*a%m=b*b%m):a=b∨(a+b)%m=0:=by
 by_cases hab:a=b
 ·exact .inl hab
 ·right
  rcases Nat.lt_or_gt_of_ne hab with hl|hl
  ·have h1:(b-a)*(a+b)%m=0:=by
    have e:(b-a)*(a+b)+a*a=b*b:=by
     obtain ⟨d,rfl⟩:∃d,b=a+d:=⟨b-a,by omega⟩
     rw[show a+d-a=d by omega]
     simp only[Nat.mul_add,Nat.add_mul]
     have:=Nat.mul_comm a d
     omega
    exact cancel_add (by rw[e,h])
   rcases zero_of_mul hp h1 with h2|h2
   ·rw[Nat.mod_eq_of_lt (by omega)] at h2;omega
   ·exact h2
  ·have h1:(a-b)*(a+b)%m=0:=by
    have e:(a-b)*(a+b)+b*b=a*a:=by
     obtain ⟨d,rfl⟩:∃d,a=b+d:=⟨a-b,by omega⟩
     rw[show b+d-b=d by omega]
     simp only[Nat.mul_add,Nat.add_mul]
     have:=Nat.mul_comm b d
     omega
    exact cancel_add (by rw[e,h])
   rcases zero_of_mul hp h1 with h2|h2
   ·rw[Nat.mod_eq_of_lt (by omega)] at h2;omega
   ·exact h2
theorem neg_sq {m x:Nat} (h:x≤m):(m-x)*(m-x)%m=x*x%m:=by
 obtain ⟨d,rfl⟩:∃d,m=x+d:=⟨m-x,by omega⟩
 rw[show x+d-x=d by omega]
 have e:d*d+(x+d)*x=x*x+(x+d)*d:=by
  simp only[Nat.add_mul];have:=Nat.mul_comm x d;omega
 have h1:(d*d+(x+d)*x)%(x+d)=(x*x+(x+d)*d)%(x+d):=by rw[e]
 rwa[Nat.add_mul_mod_self_left,Nat.add_mul_mod_self_left] at h1
theorem sq_one {m s:Nat} (hp:Pr m) (hs:s<m) (h:s*s%m=1):s=1∨s=m-1:=by
 have h1:1<m:=hp.1
 rcases sq_eq hp hs h1 (by rw[h,Nat.mod_eq_of_lt (by omega)]) with h2|h2
 ·exact .inl h2
 ·right
  rcases Nat.lt_or_ge (s+1) m with h3|h3
  ·rw[Nat.mod_eq_of_lt h3] at h2;omega
  ·omega
def pwM (p a e:Nat):Nat:=a^e%p
theorem pwM_lt {p:Nat} (hp:0<p) (a e:Nat):pwM p a e<p:=Nat.mod_lt _ hp
theorem sq_mod (m x:Nat):x%m*(x%m)%m=x*x%m:=(Nat.mul_mod x x m).symm
theorem pwM_sq (p a e:Nat):pwM p (a*a%p) e*pwM p (a*a%p) e%p=pwM p a (2*(e+e)):=by
 unfold pwM
 rw[sq_mod,←Nat.pow_add,←Nat.pow_mod,←Nat.pow_two,←Nat.pow_mul]
theorem pwM_add (p a e f:Nat):pwM p a (e+f)=pwM p a e*pwM p a f%p:=by
 unfold pwM
 rw[Nat.pow_add,Nat.mul_mod]
theorem pwM_two (p a:Nat):pwM p a 2=a*a%p:=by unfold pwM;rw[Nat.pow_two]
theorem sq_root1 {p a e:Nat} (hf:0<a→pwM p a (p-1)=1) (he:2*(e+e)=p-1+2):
  pwM p (a*a%p) e*pwM p (a*a%p) e%p=a*a%p:=by
 rw[pwM_sq,he,pwM_add,pwM_two]
 by_cases h0:a=0
 ·subst h0;simp
 ·rw[hf (by omega),Nat.one_mul,Nat.mod_mod]
def rt (p e f a:Nat):Nat:=
 if pwM p a e*pwM p a e%p=a then pwM p a e else pwM p a e*pwM p 2 f%p
theorem sq_root0 {p a e f h:Nat} (hp:Pr p) (hf:0<a→pwM p a (p-1)=1) (he:2*(e+e)=h+2) (hh:h+h=p-1)
  (ht:pwM p 2 f*pwM p 2 f%p=p-1):rt p e f (a*a%p)*rt p e f (a*a%p)%p=a*a%p:=by
 have h1:1<p:=hp.1
 unfold rt
 split
 ·assumption
 ·rename_i hn
  have hxx:pwM p (a*a%p) e*pwM p (a*a%p) e%p=pwM p a h*(a*a%p)%p:=by
   rw[pwM_sq,he,pwM_add,pwM_two]
  generalize pwM p (a*a%p) e=x at*
  by_cases h0:a=0
  ·exfalso;apply hn
   rw[hxx,h0];simp
  ·have hs:pwM p a h*pwM p a h%p=1:=by rw[←pwM_add,hh];exact hf (by omega)
   rcases sq_one hp (pwM_lt (by omega) a h) hs with h2|h2
   ·exfalso;apply hn
    rw[hxx,h2,Nat.one_mul,Nat.mod_mod]
   ·rw[sq_mod]
    generalize pwM p 2 f=t at*
    rw[show x*t*(x*t)=x*x*(t*t) by simp only[Nat.mul_assoc,Nat.mul_left_comm],Nat.mul_mod,hxx,ht,h2]
    generalize a*a=c
    rw[Nat.mod_mul_mod,Nat.mul_assoc,Nat.mul_comm (c%p),←Nat.mul_assoc,Nat.mul_mod,show (p-1)*(p-1)%p=1 by
     have:=neg_sq (m:=p) (x:=1) (by omega)
     rw[this,Nat.one_mul];exact Nat.mod_eq_of_lt h1,Nat.one_mul,Nat.mod_mod,Nat.mod_mod]
def candN (k a:Nat):Nat:=
 if k=1 then pwM (modP 1) a ((modP 1+1)/4) else rt (modP 0) ((modP 0+3)/8) (modP 0/4) a
theorem pw_sq {p a e c:Nat} (hp:p<2^256) (he:e<p) (h:powK 256 a e p*powK 256 a e p%p=c):pwM p a e*pwM p a e%p=c:=by
 rw[powK_256 hp he] at h
 exact h
theorem two_sq:pwM (modP 0) 2 (modP 0/4)*pwM (modP 0) 2 (modP 0/4)%modP 0=modP 0-1:=
 pw_sq (by decide+kernel) (by decide+kernel) (by decide+kernel)
theorem fermatW {k a:Nat} (hk:k<4) (ha:a<modP k) (h0:0<a):pwM (modP k) a (modP k-1)=1:=by unfold pwM;exact fermatK hk h0 ha
theorem candN_0 (a:Nat):candN 0 a=rt (modP 0) ((modP 0+3)/8) (modP 0/4) a:=by unfold candN;exact if_neg (by decide)
theorem candN_1 (a:Nat):candN 1 a=pwM (modP 1) a ((modP 1+1)/4):=by unfold candN;exact if_pos rfl
theorem cand_sq {k a:Nat} (hk:k<2) (ha:a<modP k):candN k (a*a%modP k)*candN k (a*a%modP k)%modP k=a*a%modP k:=by
 rcases (show k=0∨k=1 by omega) with rfl|rfl
 ·rw[candN_0];exact sq_root0 (h:=(modP 0-1)/2) (primeK (by decide)) (fermatW (by decide) ha) (by decide+kernel) (by decide+kernel) two_sq
 ·rw[candN_1];exact sq_root1 (fermatW (by decide) ha) (by decide+kernel)
def isSq (k c:Nat):Bool:=decide (candN k c*candN k c%modP k=c)
theorem isSq_of {k r c:Nat} (hk:k<2) (h:r*r%modP k=c):isSq k c=true:=by
 have h1:0<modP k:=by have:=(primeK (k:=k) (by omega)).1;omega
 have h2:=cand_sq hk (Nat.mod_lt r h1)
 rw[sq_mod,h] at h2
 simp[isSq,h2]
theorem isSq_ex {k c:Nat} (h:isSq k c=true):∃r,r*r%modP k=c:=⟨candN k c,by simpa[isSq] using h⟩
theorem inv_mul {k a:Nat} (hk:k<4) (h0:0<a) (ha:a<modP k):a*a^(modP k-2)%modP k=1:=by
 have h1:1<modP k:=(primeK hk).1
 rw[Nat.mul_comm,←Nat.pow_succ,show (modP k-2).succ=modP k-1 by omega]
 exact fermatK hk h0 ha
theorem isSq_mul {k a b:Nat} (hk:k<2) (h0:0<a) (ha:a<modP k) (hb:b<modP k):isSq k (b*(a*a%modP k)%modP k)=isSq k b:=by
 rw[Bool.eq_iff_iff]
 constructor
 ·intro h
  obtain ⟨r,hr⟩:=isSq_ex h
  refine isSq_of (r:=r*a^(modP k-2)) hk ?_
  rw[show r*a^(modP k-2)*(r*a^(modP k-2))=r*r*(a^(modP k-2)*a^(modP k-2)) by simp only[Nat.mul_assoc,Nat.mul_comm,Nat.mul_left_comm]]
  rw[Nat.mul_mod,hr,Nat.mod_mul_mod,Nat.mul_mod_mod,Nat.mul_assoc]
  have h3:b*((a*a)%modP k*(a^(modP k-2)*a^(modP k-2)))%modP k=b*((a*a^(modP k-2))*(a*a^(modP k-2)))%modP k:=by
   refine mmod rfl ?_
   rw[Nat.mod_mul_mod]
   congr 1
   simp only[Nat.mul_assoc,Nat.mul_comm,Nat.mul_left_comm]
  rw[h3,Nat.mul_mod,Nat.mul_mod (a*_),inv_mul (by omega) h0 ha,Nat.mul_one]
  have h1:1<modP k:=(primeK (k:=k) (by omega)).1
  rw[Nat.mod_eq_of_lt h1,Nat.mul_one,Nat.mod_mod,Nat.mod_eq_of_lt hb]
 ·intro h
  obtain ⟨r,hr⟩:=isSq_ex h
  refine isSq_of (r:=r*a) hk ?_
  rw[show r*a*(r*a)=r*r*(a*a) by simp only[Nat.mul_comm,Nat.mul_left_comm]]
  exact mmod (by rw[hr,Nat.mod_eq_of_lt hb]) (Nat.mod_mod _ _).symm
end Go.NT
namespace Go.Ev
open Go Go.Proofs Go.RowKit
noncomputable def L1:List CT:=L0
theorem L1_ok:AllCT L1:=L0_ok
def noS:FuncId→Nat→Bool:=fun _ _=>false
theorem modN_P (k:Nat):modN k=Go.NT.modP k:=by unfold modN Go.NT.modP;rfl
noncomputable def L2:List CT:=L1
theorem L2_ok:AllCT L2:=L1_ok
open Go.NT in
theorem out_eq (m a:Nat):outN m a=mredN a m:=by unfold outN joinN;rw[Nat.mul_zero,Nat.add_zero]
theorem in_eq (m c:Nat):inN m c=c*4294967296^8%m:=by unfold inN remN joinN;rw[Nat.zero_add,Nat.mul_comm]
theorem mpow_in (m a n:Nat):mpowN m a n=inN m (Go.NT.pwM m (outN m a) n):=by
 rw[in_eq,out_eq];unfold mpowN Go.NT.pwM;rw[Nat.mod_mul_mod]
theorem mm_in {m q x y:Nat} (hR:m<4294967296^8) (hq:goodF m q):mmN m (inN m x) (inN m y)=inN m (x*y%m):=by
 rw[in_eq,in_eq,in_eq,mm_pow hR hq,Nat.mod_mul_mod]
theorem in_inj {m q x y:Nat} (hR:m<4294967296^8) (hq:goodF m q) (hx:x<m) (hy:y<m) (h:inN m x=inN m y):x=y:=by
 have h1:=in_back (a:=x) hR hq
 have h2:=in_back (a:=y) hR hq
 rw[Nat.mod_eq_of_lt hx] at h1
 rw[Nat.mod_eq_of_lt hy] at h2
 rw[←h1,←h2,h]
theorem out_in {m q x:Nat} (hR:m<4294967296^8) (hq:goodF m q) (hx:x<m):outN m (inN m x)=x:=by
 rw[out_eq,in_back hR hq,Nat.mod_eq_of_lt hx]
theorem inN_lt {m c:Nat} (hm:0<m):inN m c<m:=Nat.mod_lt _ hm
theorem mmN_lt {m a b:Nat} (hm:0<m):mmN m a b<m:=Nat.mod_lt _ hm
noncomputable def L3:List CT:=L2
theorem L3_ok:AllCT L3:=L2_ok
noncomputable def S85:FuncId→Nat→Bool:=fun f t=>match f with|257=>memN t [13]|_=>false
theorem run85x (z:Int) (a:Nat):callR (mkE L3 S85) 1000 257 [zV z,N8 a] [true]=
  some ([modB z=true,a<4294967296^8,(bif modB z then modN z.toNat else 0)<4294967296^8],AV.val (V1.one (Atom.v (Value.bool (decide (cmpZN a (bif modB z then modN z.toNat else 0)<0)))))):=by kernel_rfl
theorem run85y (z:Int) (a:Nat):callR (mkE L3 S85) 1000 257 [zV z,N8 a] [false]=
  some ([modB z=false],AV.val (V1.one (Atom.v (Value.bool false)))):=by kernel_rfl
def gFis:List Val→Option (List Prop×AV)
 |[.z z,.n a]=>some ([],bV (ok1 z a))
 |_=>none
theorem ct85:CTok ⟨257,fnS [.z,.s [.n8]] gFis⟩:=ctS (by
 intro xs ob r hb h ho
 unfold gFis at h
 split at h
 ·rename_i z a
  simp only[Option.some.injEq,Prod.mk.injEq] at h
  obtain ⟨rfl,rfl⟩:=h
  obtain ⟨_,⟨ha,_⟩,_⟩:=hb
  have hR:=modN_lt z.toNat
  cases hz:modB z with
  |true=>
   have hr:=spec_run (envMk L3_ok S85) rfl (run85x z a) (by rw[hz];exact ⟨rfl,ha,hR,trivial⟩) rfl rfl
   rw[hz,cond_true,cmpZN_neg] at hr
   rw[show ok1 z a=decide (a<modN z.toNat) by unfold ok1 lessB;rw[hz,Bool.true_and]]
   exact hr
  |false=>
   rw[show ok1 z a=false by unfold ok1;rw[hz,Bool.false_and]]
   exact spec_run (envMk L3_ok S85) rfl (run85y z a) ⟨hz,trivial⟩ rfl rfl
 ·simp at h)
def mayB (z:Int) (a:Nat):Bool:=(decide (z=0)||decide (z=1))&&lessB z a
theorem L8 {k x:Nat} (h:x<modN k):x<4294967296^8:=Nat.lt_trans h (modN_lt k)
theorem modN_one (k:Nat):1<modN k:=Nat.lt_of_succ_lt (modN_two k)
theorem addM_lt {m a b:Nat} (hm:0<m):addM m a b<m:=Nat.mod_lt _ hm
theorem subM_lt {m a b:Nat} (hm:0<m):subM m a b<m:=Nat.mod_lt _ hm
theorem mulM_lt {m a b:Nat} (hm:0<m):mulM m a b<m:=Nat.mod_lt _ hm
theorem minvN_lt {m a:Nat} (hm:0<m):minvN m a<m:=Nat.mod_lt _ hm
theorem remN_lt {V m:Nat} (hm:0<m):remN V m<m:=Nat.mod_lt _ hm
noncomputable def withL (E:Env) (k:Nat) (y:Code) (f:List AV→List Blk→List Bool→CoR):Env:={E with lp:=fun j=>match Nat.beq j k with|true=>some (y,f)|false=>none}
theorem envWithL {E:Env} (hE:EnvOK E) {k:Nat} {y:Code} {f:List AV→List Blk→List Bool→CoR} (h:SumOK E.P (.loop y) f):EnvOK (withL E k y f):=envEL1 hE h
theorem pwM_K {p a e:Nat} (hp:p<2^256) (he:e<p):Go.NT.powK 256 a e p=Go.NT.pwM p a e:=by unfold Go.NT.pwM;exact Go.NT.powK_256 hp he
def bT:List V1→Option (List Prop×AV):=fun vs=>match vs with|[]=>some ([],bV true)|_=>none
theorem u4:Tryz.prog.underlying 4=some .bool:=by kernel_rfl
theorem laid:laidOutB Tryz.prog=true:=by kernel_rfl
theorem own:ownKnob Tryz.prog.godebug=none:=by kernel_rfl
theorem lit0:0<4294967296:=by decide
theorem lit0_8:0<4294967296^8:=by decide
theorem lit1:1<4294967296:=by decide
theorem lit1_8:1<4294967296^8:=by decide
theorem joinN_lt0 {a:Nat} (h:a<4294967296^8):joinN a 0<4294967296^16:=by unfold joinN;omega
theorem ok1_k {k a:Nat} (hk:k<4) (ha:a<modN k):ok1 (k:Int) a=true:=by
 simp only[ok1,modB,lessB,Bool.and_eq_true,decide_eq_true_iff,Int.toNat_natCast]
 omega
def dN:Nat:=37095705934669439343138083508754565189542113879843219016388785533085940283555
def bXN:Nat:=15112221349535400772501151409588531511454012693041857206046113283949847762202
def bYN:Nat:=46316835694926478169428394003475163141307993866256225615783033603165251855960
theorem dN_lt:dN<modN 0:=by decide+kernel
theorem bXN_lt:bXN<modN 0:=by decide+kernel
theorem bYN_lt:bYN<modN 0:=by decide+kernel
def cV (v:AV):List V1→Option (List Prop×AV):=fun vs=>match vs with|[]=>some ([],v)|_=>none
theorem ctV {f:FuncId} {v:AV} (h:Spec f [] v):CTok ⟨f,cV v⟩:=by
 intro vs ob r hv ho
 simp only[cV] at hv
 split at hv
 ·simp only[Option.some.injEq,Prod.mk.injEq] at hv
  obtain ⟨rfl,rfl⟩:=hv
  exact h
 ·simp at hv
def P2 (x y:Nat):V1:= .agg [.num 8 x,.num 8 y]
theorem ed101:callR E0 1000 296 [] []=some ([],.val (.agg [.a (.u .u32 324630691),.a (.u .u32 1978355146),.a (.u .u32 1094834347),.a (.u .u32 7342669),.a (.u .u32 2004478104),.a (.u .u32 2361868409),.a (.u .u32 728759923),.a (.u .u32 1375956206)])):=by kernel_rfl
theorem spec101d:Spec 296 [] (.val (N8 dN)):=(spec_run envE0 rfl ed101 trivial rfl rfl).congr (fun _=>rfl) (fun _=>by kernel_rfl)
theorem ed34:callR E0 1000 240 [] []=some ([],.val (.agg [.a (.u .u32 2401621274),.a (.u .u32 3377868128),.a (.u .u32 2502272946),.a (.u .u32 1764542304),.a (.u .u32 4258716764),.a (.u .u32 3232031281),.a (.u .u32 3446559742),.a (.u .u32 560543443),.a (.u .u32 1717986904),.a (.u .u32 1717986918),.a (.u .u32 1717986918),.a (.u .u32 1717986918),.a (.u .u32 1717986918),.a (.u .u32 1717986918),.a (.u .u32 1717986918),.a (.u .u32 1717986918)])):=by kernel_rfl
theorem spec34b:Spec 240 [] (.val (P2 bXN bYN)):=(spec_run envE0 rfl ed34 trivial rfl rfl).congr (fun _=>rfl) (fun _=>by kernel_rfl)
theorem ed37:callR E0 1000 297 [] []=some ([],.val (.agg [.a (.u .u32 0),.a (.u .u32 0),.a (.u .u32 0),.a (.u .u32 0),.a (.u .u32 0),.a (.u .u32 0),.a (.u .u32 0),.a (.u .u32 0),.a (.u .u32 1),.a (.u .u32 0),.a (.u .u32 0),.a (.u .u32 0),.a (.u .u32 0),.a (.u .u32 0),.a (.u .u32 0),.a (.u .u32 0)])):=by kernel_rfl
theorem spec37n:Spec 297 [] (.val (P2 0 1)):=(spec_run envE0 rfl ed37 trivial rfl rfl).congr (fun _=>rfl) (fun _=>by kernel_rfl)
noncomputable def L8a:List CT:=[⟨296,cV (.val (N8 dN))⟩,⟨240,cV (.val (P2 bXN bYN))⟩,⟨297,cV (.val (P2 0 1))⟩]++L0
theorem L8a_ok:AllCT L8a:=⟨ctV spec101d,ctV spec34b,ctV spec37n,L0_ok⟩
structure E4 where
 x:Nat
 y:Nat
 z:Nat
 t:Nat
def E4.lt (p:E4):Prop:=p.x<modN 0∧p.y<modN 0∧p.z<modN 0∧p.t<modN 0
def twE:Nat:=addM (modN 0) (inN (modN 0) dN) (inN (modN 0) dN)
noncomputable def eA (p q:E4):Nat:=mmN (modN 0) (subM (modN 0) p.y p.x) (subM (modN 0) q.y q.x)
noncomputable def eB (p q:E4):Nat:=mmN (modN 0) (addM (modN 0) p.y p.x) (addM (modN 0) q.y q.x)
noncomputable def eC (p q:E4):Nat:=mmN (modN 0) (mmN (modN 0) p.t twE) q.t
noncomputable def eD (p q:E4):Nat:=mmN (modN 0) (addM (modN 0) p.z p.z) q.z
noncomputable def eE (p q:E4):Nat:=subM (modN 0) (eB p q) (eA p q)
noncomputable def eF (p q:E4):Nat:=subM (modN 0) (eD p q) (eC p q)
noncomputable def eG (p q:E4):Nat:=addM (modN 0) (eD p q) (eC p q)
noncomputable def eH (p q:E4):Nat:=addM (modN 0) (eB p q) (eA p q)
noncomputable def eAdd (p q:E4):E4:=⟨mmN (modN 0) (eE p q) (eF p q),mmN (modN 0) (eG p q) (eH p q),mmN (modN 0) (eF p q) (eG p q),mmN (modN 0) (eE p q) (eH p q)⟩
noncomputable def eLift (x y:Nat):E4:=⟨inN (modN 0) x,inN (modN 0) y,inN (modN 0) 1,mmN (modN 0) (inN (modN 0) x) (inN (modN 0) y)⟩
noncomputable def eDownX (p:E4):Nat:=outN (modN 0) (mmN (modN 0) p.x (minvN (modN 0) p.z))
noncomputable def eDownY (p:E4):Nat:=outN (modN 0) (mmN (modN 0) p.y (minvN (modN 0) p.z))
theorem twE_lt:twE<modN 0:=addM_lt (modN_pos 0)
theorem eAdd_lt (p q:E4):(eAdd p q).lt:=⟨mmN_lt (modN_pos 0),mmN_lt (modN_pos 0),mmN_lt (modN_pos 0),mmN_lt (modN_pos 0)⟩
theorem eLift_lt (x y:Nat):(eLift x y).lt:=⟨inN_lt (modN_pos 0),inN_lt (modN_pos 0),inN_lt (modN_pos 0),mmN_lt (modN_pos 0)⟩
noncomputable def eqE (x y:Nat):Bool:=decide (subM (modN 0) (mmN (modN 0) (inN (modN 0) y) (inN (modN 0) y)) (mmN (modN 0) (inN (modN 0) x) (inN (modN 0) x))=
 addM (modN 0) (inN (modN 0) 1) (mmN (modN 0) (inN (modN 0) dN) (mmN (modN 0) (mmN (modN 0) (inN (modN 0) x) (inN (modN 0) x)) (mmN (modN 0) (inN (modN 0) y) (inN (modN 0) y)))))
def ltE (x y:Nat):Bool:=decide (x<modN 0)&&decide (y<modN 0)
noncomputable def onE (x y:Nat):Bool:=ltE x y&&eqE x y
theorem onE_lt {x y:Nat} (h:onE x y=true):x<modN 0∧y<modN 0:=by
 simp only[onE,ltE,Bool.and_eq_true,decide_eq_true_iff] at h
 exact h.1
noncomputable def L8b:List CT:=⟨257,fnS [.z,.s [.n8]] gFis⟩::L8a
theorem L8b_ok:AllCT L8b:=⟨ct85,L8a_ok⟩
end Go.Ev
namespace Go.Ev.H5
open Go Go.Proofs Go.RowKit
structure W8 where
 (a b c d e f g h:Nat)
def W8.cells (x:W8):List Piece:=[.a (.u .u64 x.a),.a (.u .u64 x.b),.a (.u .u64 x.c),.a (.u .u64 x.d),.a (.u .u64 x.e),.a (.u .u64 x.f),.a (.u .u64 x.g),.a (.u .u64 x.h)]
def aV (x:W8):V1:= .agg x.cells
noncomputable def E125L (s:ByteArray):Env:=withL E125 2 (bodyOf Tryz.prog 293 2) (sumC (T125 s ((0:Nat):Int)) [cB zW] (T125 s ((80:Nat):Int)) [cB (schW s)] (.exit 0))
noncomputable def schedV (s:ByteArray):V1:= .agg (cells64 80 0 (schW s))
theorem r125 (s:ByteArray):callR (E125L s) 1000 293 [sS s] []=
  some ([bodyOf Tryz.prog 293 2=bodyOf Tryz.prog 293 2,(T125 s ((0:Nat):Int),[cB zW])=(T125 s ((0:Nat):Int),[cB zW]),wfS (T125 s ((0:Nat):Int)) [cB zW]=true],.val (schedV s)):=by kernel_rfl
theorem envE125L (s:ByteArray) (hs:128≤s.size) (hl:s.size≤4611686018427387904):EnvOK (E125L s):=envWithL envE125 (sumC_ok (by simp only[List.length_cons]) (sch_loop s hs hl))
theorem spec125 (s:ByteArray) (hs:128≤s.size) (hl:s.size≤4611686018427387904):Spec 293 [sS s] (.val (schedV s)):=
 spec_run (envE125L s hs hl) rfl (r125 s) ⟨rfl,rfl,wfC125 _ _ _,trivial⟩ rfl rfl
noncomputable def fnSch (vs:List V1):Option (List Prop×AV):=
 match vs with
 |[.one (.v (.string s))]=>some ([128≤s.size∧s.size≤4611686018427387904],.val (schedV s))
 |_=>none
theorem ct125:CTok ⟨293,fnSch⟩:=by
 intro vs ob r h ho
 simp only[fnSch] at h
 split at h
 ·simp only[Option.some.injEq,Prod.mk.injEq] at h
  obtain ⟨rfl,rfl⟩:=h
  exact spec125 _ ho.1.1 ho.1.2
 ·simp at h
def shaL:List Nat:=[4794697086780616226,8158064640168781261,13096744586834688815,16840607885511220156,4131703408338449720,6480981068601479193,10538285296894168987,12329834152419229976,15566598209576043074,1334009975649890238,2608012711638119052,6128411473006802146,8268148722764581231,9286055187155687089,11230858885718282805,13951009754708518548,16472876342353939154,17275323862435702243,1135362057144423861,2597628984639134821,3308224258029322869,5365058923640841347,6679025012923562964,8573033837759648693,10970295158949994411,12119686244451234320,12683024718118986047,13788192230050041572,14330467153632333762,15395433587784984357,489312712824947311,1452737877330783856,2861767655752347644,3322285676063803686,5560940570517711597,5996557281743188959,7280758554555802590,8532644243296465576,9350256976987008742,10552545826968843579,11727347734174303076,12113106623233404929,14000437183269869457,14369950271660146224,15101387698204529176,15463397548674623760,17586052441742319658,1182934255886127544,1847814050463011016,2177327727835720531,2830643537854262169,3796741975233480872,4115178125766777443,5681478168544905931,6601373596472566643,7507060721942968483,8399075790359081724,8693463985226723168,9568029438360202098,10144078919501101548,10430055236837252648,11840083180663258601,13761210420658862357,14299343276471374635,14566680578165727644,15097957966210449927,16922976911328602910,17689382322260857208,500013540394364858,748580250866718886,1242879168328830382,1977374033974150939,2944078676154940804,3659926193048069267,4368137639120453308,4836135668995329356,5532061633213252278,6448918945643986474,6902733635092675308,7801388544844847127]
def shaK (i:Nat):Nat:=shaL.getD i 0
def shaV:V1:= .agg (cells64 80 0 shaK)
theorem r126:callR E0 1000 294 [] []=some ([],.val shaV):=by kernel_rfl
def rnd (v:W8) (k w:Nat):W8:=
 let one:=add64 (add64 (add64 (add64 v.h (xor64 (xor64 (rot v.e 14) (rot v.e 18)) (rot v.e 41))) (xor64 (and64 v.e v.f) (and64 (not64 v.e) v.g))) k) w
 let two:=add64 (xor64 (xor64 (rot v.a 28) (rot v.a 34)) (rot v.a 39)) (xor64 (xor64 (and64 v.a v.b) (and64 v.a v.c)) (and64 v.b v.c))
 ⟨add64 one two,v.a,v.b,v.c,add64 v.d one,v.e,v.f,v.g⟩
def addW (x y:W8):W8:=⟨add64 x.a y.a,add64 x.b y.b,add64 x.c y.c,add64 x.d y.d,add64 x.e y.e,add64 x.f y.f,add64 x.g y.g,add64 x.h y.h⟩
def hB (x:W8):Blk:=⟨x.cells,327,true,false,0⟩
def z8W:W8:=⟨0,0,0,0,0,0,0,0⟩
noncomputable def ldW (p q:Nat) (u:Nat→Nat):CT:=⟨3000043,fun vs=>match vs with
 |[.one (.ptr b off)]=>match Nat.beq b p with
  |true=>some ([False],.val (u64 (u off)))
  |false=>match Nat.beq b q with
   |true=>some ([False],.val (u64 (shaK off)))
   |false=>none
 |_=>none⟩
theorem ldW_ok (p q:Nat) (u:Nat→Nat):CTok (ldW p q u):=by
 intro vs ob r h ho
 simp only[ldW] at h
 split at h
 ·split at h
  ·simp only[Option.some.injEq,Prod.mk.injEq] at h
   obtain ⟨rfl,_⟩:=h
   exact ho.1.elim
  ·split at h
   ·simp only[Option.some.injEq,Prod.mk.injEq] at h
    obtain ⟨rfl,_⟩:=h
    exact ho.1.elim
   ·simp at h
 ·simp at h
theorem ct126:CTok ⟨294,cV (.val shaV)⟩:=ctV (spec_run envE0 rfl r126 trivial rfl rfl)
noncomputable def L96 (u:Nat→Nat):List CT:=ldW 2 3 u::⟨293,fnSch⟩::⟨294,cV (.val shaV)⟩::L125
theorem L96_ok (u:Nat→Nat):AllCT (L96 u):=⟨ldW_ok _ _ _,ct125,ct126,L125_ok⟩
noncomputable def S96:FuncId→Nat→Bool:=fun f t=>match f with|269=>memN t [19,48,2000049,52,2000053,97]|_=>false
noncomputable def E96 (u:Nat→Nat):Env:=mkE (L96 u) S96
def T96 (i:Int):List AV:=slots 111 [(2,pV 0),(4,pV 1),(5,pV 2),(6,pV 3),(7,pV 4),(18,iV i)]
def M96 (h v:W8) (u:Nat→Nat):List Blk:=[hB h,hB z8W,cB u,cB shaK,hB v]
def iT (i:Nat):Nat:=0+(i:Int).toNat*1
theorem iT_eq (i:Nat):iT i=i:=by unfold iT;omega
theorem r96a (h v:W8) (u:Nat→Nat) (i:Nat):runTo (E96 u) 1000 ((E96 u).S 269) (bodyOf Tryz.prog 269 3) (T96 (i:Int)) (M96 h v u) [true] (T96 ((i:Int)+1)) 5=
  some ([decide ((i:Int)<80)=true,(0:Int)≤(i:Int)∧(i:Int)<((80:Nat):Int),LoadsAs Tryz.prog 43 (cells64 80 0 shaK) (iT i) (.one (.u .u64 (shaK (iT i)))),(0:Int)≤(i:Int)∧(i:Int)<((80:Nat):Int),LoadsAs Tryz.prog 43 (cells64 80 0 u) (iT i) (.one (.u .u64 (u (iT i)))),inI ((i:Int)+1)],.normal,T96 ((i:Int)+1),M96 h (rnd v (shaK (iT i)) (u (iT i))) u):=by kernel_rfl
theorem r96x (h v:W8) (u:Nat→Nat) (i:Nat):runTo (E96 u) 1000 ((E96 u).S 269) (bodyOf Tryz.prog 269 3) (T96 (i:Int)) (M96 h v u) [false] (T96 (i:Int)) 5=
  some ([decide ((i:Int)<80)=false],.exit 0,T96 (i:Int),M96 h v u):=by kernel_rfl
theorem agg74:isAggA Tryz.prog 43=some false:=by kernel_rfl
theorem ld64 (u:Nat→Nat) (n off:Nat) (h:off<n):LoadsAs Tryz.prog 43 (cells64 n 0 u) off (.one (.u .u64 (u off))):=by
 intro φ
 refine ⟨agg74,?_⟩
 rw[cells64_conc,List.getElem?_map,List.getElem?_range' h]
 simp[Atom.conc]
def vR (u:Nat→Nat) (v:W8):Nat→W8
 |0=>v
 |i+1=>rnd (vR u v i) (shaK i) (u i)
theorem hB_free (x:W8):Free (hB x):=fun _=>rfl
theorem M96_free (h v:W8) (u:Nat→Nat):∀b∈M96 h v u,Free b:=by
 intro b hb
 simp only[M96,List.mem_cons,List.not_mem_nil,or_false] at hb
 rcases hb with rfl|rfl|rfl|rfl|rfl
 ·exact hB_free _
 ·exact hB_free _
 ·exact cB_free _
 ·exact cB_free _
 ·exact hB_free _
theorem M96_len (h v:W8) (u:Nat→Nat):(M96 h v u).length=5:=by simp only[M96,List.length_cons,List.length_nil]
theorem wf96 (h v:W8) (u:Nat→Nat) (i:Int):wfS (T96 i) (M96 h v u)=true:=wfS_of (M96_free h v u) (by rw[M96_len];kernel_rfl)
theorem envE96 (u:Nat→Nat):EnvOK (E96 u):=envMk (L96_ok u) _
theorem step96 (h v:W8) (u:Nat→Nat) (i:Nat) (hi:i<80):Goes Tryz.prog (bodyOf Tryz.prog 269 3) .normal (T96 (i:Int)) (M96 h v u) (T96 ((i:Int)+1)) (M96 h (rnd v (shaK i) (u i)) u):=by
 have hr:=r96a h v u i
 rw[iT_eq] at hr
 exact Runs.goes (envE96 u) ⟨_,_,hr,⟨decide_eq_true (by omega),by omega,ld64 _ _ _ hi,by omega,ld64 _ _ _ hi,by unfold inI;omega,trivial⟩,wf96 _ _ _ _⟩
theorem loop96 (h:W8) (u:Nat→Nat) (n:Nat) (hn:n=80) (V:Nat→W8) (hV:∀i,V (i+1)=rnd (V i) (shaK i) (u i)):
  Goes Tryz.prog (.loop (bodyOf Tryz.prog 269 3)) (.exit 0) (T96 ((0:Nat):Int)) (M96 h (V 0) u) (T96 (n:Int)) (M96 h (V n) u):=by
 refine loop_goes (N:=n) (k:=5) (T:=fun i=>T96 (i:Int)) (M:=fun i=>M96 h (V i) u) (by simp) (fun _ _=>M96_len _ _ _) (fun i hi=> ?_) ?_
 ·have:=step96 h (V i) u i (by omega)
  rw[←hV i] at this
  exact this
 ·exact Runs.goes (envE96 u) ⟨_,_,r96x h (V n) u n,⟨decide_eq_false (by omega),trivial⟩,wf96 _ _ _ _⟩
noncomputable def vE (u:Nat→Nat) (h:W8):W8:=vR u h 80
theorem rounds96 (h:W8) (u:Nat→Nat):Goes Tryz.prog (.loop (bodyOf Tryz.prog 269 3)) (.exit 0) (T96 ((0:Nat):Int)) (M96 h h u) (T96 ((80:Nat):Int)) (M96 h (vE u h) u):=loop96 h u 80 rfl (vR u h) (fun _=>rfl)
noncomputable def E96L (h:W8) (u:Nat→Nat):Env:=withL (E96 u) 3 (bodyOf Tryz.prog 269 3) (sumC (T96 ((0:Nat):Int)) (M96 h h u) (T96 ((80:Nat):Int)) (M96 h (vE u h) u) (.exit 0))
theorem envE96L (h:W8) (u:Nat→Nat):EnvOK (E96L h u):=envWithL (envE96 u) (sumC_ok (by rw[M96_len,M96_len]) (rounds96 h u))
noncomputable def blk5 (h:W8) (s:ByteArray):W8:=addW h (vE (schW s) h)
theorem r96 (h:W8) (s:ByteArray):callR (E96L h (schW s)) 1000 269 [aV h,sS s] []=
  some ([128≤s.size∧s.size≤4611686018427387904,bodyOf Tryz.prog 269 3=bodyOf Tryz.prog 269 3,(T96 ((0:Nat):Int),M96 h h (schW s))=(T96 ((0:Nat):Int),M96 h h (schW s)),wfS (T96 ((0:Nat):Int)) (M96 h h (schW s))=true],.val (aV (blk5 h s))):=by kernel_rfl
theorem spec96 (h:W8) (s:ByteArray) (h1:128≤s.size) (h2:s.size≤4611686018427387904):Spec 269 [aV h,sS s] (.val (aV (blk5 h s))):=
 spec_run (envE96L h (schW s)) rfl (r96 h s) ⟨⟨h1,h2⟩,rfl,rfl,wf96 _ _ _ _,trivial⟩ rfl rfl
noncomputable def fnBlk (vs:List V1):Option (List Prop×AV):=
 match vs with
 |[.agg [.a (.u .u64 a),.a (.u .u64 b),.a (.u .u64 c),.a (.u .u64 d),.a (.u .u64 e),.a (.u .u64 f),.a (.u .u64 g),.a (.u .u64 h)],.one (.v (.string s))]=>some ([128≤s.size∧s.size≤4611686018427387904],.val (aV (blk5 ⟨a,b,c,d,e,f,g,h⟩ s)))
 |_=>none
theorem ct96:CTok ⟨269,fnBlk⟩:=by
 intro vs ob r h ho
 simp only[fnBlk] at h
 split at h
 ·simp only[Option.some.injEq,Prod.mk.injEq] at h
  obtain ⟨rfl,rfl⟩:=h
  exact spec96 _ _ ho.1.1 ho.1.2
 ·simp at h
noncomputable def addLp (E:Env) (k:Nat) (y:Code) (f:List AV→List Blk→List Bool→CoR):Env:={E with lp:=fun j=>match Nat.beq j k with|true=>some (y,f)|false=>E.lp j}
theorem envAddLp {E:Env} (hE:EnvOK E) {k:Nat} {y:Code} {f:List AV→List Blk→List Bool→CoR} (h:SumOK E.P (.loop y) f):EnvOK (addLp E k y f):=by
 refine ⟨hE.mixed,hE.fns,hE.fms,?_,hE.fbs,hE.fws⟩
 intro j y' f' hj
 simp only[addLp] at hj
 split at hj
 ·simp only[Option.some.injEq,Prod.mk.injEq] at hj
  obtain ⟨rfl,rfl⟩:=hj
  exact h
 ·exact hE.lps j y' f' hj
end Go.Ev.H5
namespace Go.Ev
open Go Go.Proofs Go.RowKit
noncomputable def L9a:List CT:=L8b
theorem L9a_ok:AllCT L9a:=L8b_ok
noncomputable def lawV:V1:= .agg [.num 8 (modN 0),.a (.u .u32 (facN 0)),.num 8 twE]
def e4V (p:E4):V1:= .agg [.num 8 p.x,.num 8 p.y,.num 8 p.z,.num 8 p.t]
theorem ed68 (_:Nat):callR (mkE L9a noS) 1000 271 [] []=
  some ([(0:Int)≤(0:Int)∧(0:Int)<(4:Int),modN 0<4294967296^8,0<modN 0,dN<4294967296^8,modN 0<4294967296^8,inN (modN 0) dN<modN 0,inN (modN 0) dN<modN 0,inN (modN 0) dN<4294967296^8,inN (modN 0) dN<4294967296^8],.val lawV):=by kernel_rfl
theorem spec68e:Spec 271 [] (.val lawV):=spec_run (envMk L9a_ok noS) rfl (ed68 0) ⟨(by decide),(modN_lt _),(modN_pos _),(L8 dN_lt),(modN_lt _),(inN_lt (modN_pos _)),(inN_lt (modN_pos _)),(L8 (inN_lt (modN_pos _))),(L8 (inN_lt (modN_pos _))),trivial⟩ rfl rfl
theorem ed72 (x:Nat) (y:Nat):callR (mkE L9a noS) 1000 274 [lawV,P2 x y] []=
  some ([modN 0<4294967296^8,0<modN 0,x<4294967296^8,modN 0<4294967296^8,0<modN 0,y<4294967296^8,modN 0<4294967296^8,0<modN 0,1<4294967296,0<4294967296,0<4294967296,0<4294967296,0<4294967296,0<4294967296,0<4294967296,0<4294967296,modN 0<4294967296^8,inN (modN 0) x<modN 0,inN (modN 0) y<modN 0,goodF (modN 0) (facN 0),inN (modN 0) x<4294967296^8,inN (modN 0) y<4294967296^8],.val (e4V (eLift x y))):=by kernel_rfl
theorem spec72e (x y:Nat) (hx:x<modN 0) (hy:y<modN 0):Spec 274 [lawV,P2 x y] (.val (e4V (eLift x y))):=spec_run (envMk L9a_ok noS) rfl (ed72 x y) ⟨(modN_lt _),(modN_pos _),(by first|with_reducible assumption|with_reducible exact L8 (by with_reducible assumption)|exact decide_eq_true (by omega)|exact decide_eq_false (by omega)|omega),(modN_lt _),(modN_pos _),(by first|with_reducible assumption|with_reducible exact L8 (by with_reducible assumption)|exact decide_eq_true (by omega)|exact decide_eq_false (by omega)|omega),(modN_lt _),(modN_pos _),lit1,lit0,lit0,lit0,lit0,lit0,lit0,lit0,(modN_lt _),(inN_lt (modN_pos _)),(inN_lt (modN_pos _)),(good_fac (by decide)),(L8 (inN_lt (modN_pos _))),(L8 (inN_lt (modN_pos _))),trivial⟩ rfl rfl
theorem ed70 (p:E4) (q:E4):callR (mkE L9a noS) 1000 298 [lawV,e4V p,e4V q] []=
  some ([modN 0<4294967296^8,p.2<modN 0,p.1<modN 0,p.2<4294967296^8,p.1<4294967296^8,modN 0<4294967296^8,q.2<modN 0,q.1<modN 0,q.2<4294967296^8,q.1<4294967296^8,modN 0<4294967296^8,subM (modN 0) p.2 p.1<modN 0,subM (modN 0) q.2 q.1<modN 0,goodF (modN 0) (facN 0),subM (modN 0) p.2 p.1<4294967296^8,subM (modN 0) q.2 q.1<4294967296^8,modN 0<4294967296^8,p.2<modN 0,p.1<modN 0,p.2<4294967296^8,p.1<4294967296^8,modN 0<4294967296^8,q.2<modN 0,q.1<modN 0,q.2<4294967296^8,q.1<4294967296^8,modN 0<4294967296^8,addM (modN 0) p.2 p.1<modN 0,addM (modN 0) q.2 q.1<modN 0,goodF (modN 0) (facN 0),addM (modN 0) p.2 p.1<4294967296^8,addM (modN 0) q.2 q.1<4294967296^8,modN 0<4294967296^8,p.4<modN 0,twE<modN 0,goodF (modN 0) (facN 0),p.4<4294967296^8,twE<4294967296^8,modN 0<4294967296^8,mmN (modN 0) p.4 twE<modN 0,q.4<modN 0,goodF (modN 0) (facN 0),mmN (modN 0) p.4 twE<4294967296^8,q.4<4294967296^8,modN 0<4294967296^8,p.3<modN 0,p.3<modN 0,p.3<4294967296^8,p.3<4294967296^8,modN 0<4294967296^8,addM (modN 0) p.3 p.3<modN 0,q.3<modN 0,goodF (modN 0) (facN 0),addM (modN 0) p.3 p.3<4294967296^8,q.3<4294967296^8,modN 0<4294967296^8,mmN (modN 0) (addM (modN 0) p.2 p.1) (addM (modN 0) q.2 q.1)<modN 0,mmN (modN 0) (subM (modN 0) p.2 p.1) (subM (modN 0) q.2 q.1)<modN 0,mmN (modN 0) (addM (modN 0) p.2 p.1) (addM (modN 0) q.2 q.1)<4294967296^8,mmN (modN 0) (subM (modN 0) p.2 p.1) (subM (modN 0) q.2 q.1)<4294967296^8,modN 0<4294967296^8,mmN (modN 0) (addM (modN 0) p.3 p.3) q.3<modN 0,mmN (modN 0) (mmN (modN 0) p.4 twE) q.4<modN 0,mmN (modN 0) (addM (modN 0) p.3 p.3) q.3<4294967296^8,mmN (modN 0) (mmN (modN 0) p.4 twE) q.4<4294967296^8,modN 0<4294967296^8,mmN (modN 0) (addM (modN 0) p.3 p.3) q.3<modN 0,mmN (modN 0) (mmN (modN 0) p.4 twE) q.4<modN 0,mmN (modN 0) (addM (modN 0) p.3 p.3) q.3<4294967296^8,mmN (modN 0) (mmN (modN 0) p.4 twE) q.4<4294967296^8,modN 0<4294967296^8,mmN (modN 0) (addM (modN 0) p.2 p.1) (addM (modN 0) q.2 q.1)<modN 0,mmN (modN 0) (subM (modN 0) p.2 p.1) (subM (modN 0) q.2 q.1)<modN 0,mmN (modN 0) (addM (modN 0) p.2 p.1) (addM (modN 0) q.2 q.1)<4294967296^8,mmN (modN 0) (subM (modN 0) p.2 p.1) (subM (modN 0) q.2 q.1)<4294967296^8,modN 0<4294967296^8,subM (modN 0) (mmN (modN 0) (addM (modN 0) p.2 p.1) (addM (modN 0) q.2 q.1)) (mmN (modN 0) (subM (modN 0) p.2 p.1) (subM (modN 0) q.2 q.1))<modN 0,subM (modN 0) (mmN (modN 0) (addM (modN 0) p.3 p.3) q.3) (mmN (modN 0) (mmN (modN 0) p.4 twE) q.4)<modN 0,goodF (modN 0) (facN 0),subM (modN 0) (mmN (modN 0) (addM (modN 0) p.2 p.1) (addM (modN 0) q.2 q.1)) (mmN (modN 0) (subM (modN 0) p.2 p.1) (subM (modN 0) q.2 q.1))<4294967296^8,subM (modN 0) (mmN (modN 0) (addM (modN 0) p.3 p.3) q.3) (mmN (modN 0) (mmN (modN 0) p.4 twE) q.4)<4294967296^8,modN 0<4294967296^8,addM (modN 0) (mmN (modN 0) (addM (modN 0) p.3 p.3) q.3) (mmN (modN 0) (mmN (modN 0) p.4 twE) q.4)<modN 0,addM (modN 0) (mmN (modN 0) (addM (modN 0) p.2 p.1) (addM (modN 0) q.2 q.1)) (mmN (modN 0) (subM (modN 0) p.2 p.1) (subM (modN 0) q.2 q.1))<modN 0,goodF (modN 0) (facN 0),addM (modN 0) (mmN (modN 0) (addM (modN 0) p.3 p.3) q.3) (mmN (modN 0) (mmN (modN 0) p.4 twE) q.4)<4294967296^8,addM (modN 0) (mmN (modN 0) (addM (modN 0) p.2 p.1) (addM (modN 0) q.2 q.1)) (mmN (modN 0) (subM (modN 0) p.2 p.1) (subM (modN 0) q.2 q.1))<4294967296^8,modN 0<4294967296^8,subM (modN 0) (mmN (modN 0) (addM (modN 0) p.3 p.3) q.3) (mmN (modN 0) (mmN (modN 0) p.4 twE) q.4)<modN 0,addM (modN 0) (mmN (modN 0) (addM (modN 0) p.3 p.3) q.3) (mmN (modN 0) (mmN (modN 0) p.4 twE) q.4)<modN 0,goodF (modN 0) (facN 0),subM (modN 0) (mmN (modN 0) (addM (modN 0) p.3 p.3) q.3) (mmN (modN 0) (mmN (modN 0) p.4 twE) q.4)<4294967296^8,addM (modN 0) (mmN (modN 0) (addM (modN 0) p.3 p.3) q.3) (mmN (modN 0) (mmN (modN 0) p.4 twE) q.4)<4294967296^8,modN 0<4294967296^8,subM (modN 0) (mmN (modN 0) (addM (modN 0) p.2 p.1) (addM (modN 0) q.2 q.1)) (mmN (modN 0) (subM (modN 0) p.2 p.1) (subM (modN 0) q.2 q.1))<modN 0,addM (modN 0) (mmN (modN 0) (addM (modN 0) p.2 p.1) (addM (modN 0) q.2 q.1)) (mmN (modN 0) (subM (modN 0) p.2 p.1) (subM (modN 0) q.2 q.1))<modN 0,goodF (modN 0) (facN 0),subM (modN 0) (mmN (modN 0) (addM (modN 0) p.2 p.1) (addM (modN 0) q.2 q.1)) (mmN (modN 0) (subM (modN 0) p.2 p.1) (subM (modN 0) q.2 q.1))<4294967296^8,addM (modN 0) (mmN (modN 0) (addM (modN 0) p.2 p.1) (addM (modN 0) q.2 q.1)) (mmN (modN 0) (subM (modN 0) p.2 p.1) (subM (modN 0) q.2 q.1))<4294967296^8],.val (e4V (eAdd p q))):=by kernel_rfl
theorem spec70e (p q:E4) (hp:p.lt) (hq:q.lt):Spec 298 [lawV,e4V p,e4V q] (.val (e4V (eAdd p q))):=by
 obtain ⟨h1,h2,h3,h4⟩:=hp
 obtain ⟨h5,h6,h7,h8⟩:=hq
 exact spec_run (envMk L9a_ok noS) rfl (ed70 p q) ⟨(modN_lt _),(by first|with_reducible assumption|with_reducible exact L8 (by with_reducible assumption)|exact decide_eq_true (by omega)|exact decide_eq_false (by omega)|omega),(by first|with_reducible assumption|with_reducible exact L8 (by with_reducible assumption)|exact decide_eq_true (by omega)|exact decide_eq_false (by omega)|omega),(by first|with_reducible assumption|with_reducible exact L8 (by with_reducible assumption)|exact decide_eq_true (by omega)|exact decide_eq_false (by omega)|omega),(by first|with_reducible assumption|with_reducible exact L8 (by with_reducible assumption)|exact decide_eq_true (by omega)|exact decide_eq_false (by omega)|omega),(modN_lt _),(by first|with_reducible assumption|with_reducible exact L8 (by with_reducible assumption)|exact decide_eq_true (by omega)|exact decide_eq_false (by omega)|omega),(by first|with_reducible assumption|with_reducible exact L8 (by with_reducible assumption)|exact decide_eq_true (by omega)|exact decide_eq_false (by omega)|omega),(by first|with_reducible assumption|with_reducible exact L8 (by with_reducible assumption)|exact decide_eq_true (by omega)|exact decide_eq_false (by omega)|omega),(by first|with_reducible assumption|with_reducible exact L8 (by with_reducible assumption)|exact decide_eq_true (by omega)|exact decide_eq_false (by omega)|omega),(modN_lt _),(subM_lt (modN_pos _)),(subM_lt (modN_pos _)),(good_fac (by decide)),(L8 (subM_lt (modN_pos _))),(L8 (subM_lt (modN_pos _))),(modN_lt _),(by first|with_reducible assumption|with_reducible exact L8 (by with_reducible assumption)|exact decide_eq_true (by omega)|exact decide_eq_false (by omega)|omega),(by first|with_reducible assumption|with_reducible exact L8 (by with_reducible assumption)|exact decide_eq_true (by omega)|exact decide_eq_false (by omega)|omega),(by first|with_reducible assumption|with_reducible exact L8 (by with_reducible assumption)|exact decide_eq_true (by omega)|exact decide_eq_false (by omega)|omega),(by first|with_reducible assumption|with_reducible exact L8 (by with_reducible assumption)|exact decide_eq_true (by omega)|exact decide_eq_false (by omega)|omega),(modN_lt _),(by first|with_reducible assumption|with_reducible exact L8 (by with_reducible assumption)|exact decide_eq_true (by omega)|exact decide_eq_false (by omega)|omega),(by first|with_reducible assumption|with_reducible exact L8 (by with_reducible assumption)|exact decide_eq_true (by omega)|exact decide_eq_false (by omega)|omega),(by first|with_reducible assumption|with_reducible exact L8 (by with_reducible assumption)|exact decide_eq_true (by omega)|exact decide_eq_false (by omega)|omega),(by first|with_reducible assumption|with_reducible exact L8 (by with_reducible assumption)|exact decide_eq_true (by omega)|exact decide_eq_false (by omega)|omega),(modN_lt _),(addM_lt (modN_pos _)),(addM_lt (modN_pos _)),(good_fac (by decide)),(L8 (addM_lt (modN_pos _))),(L8 (addM_lt (modN_pos _))),(modN_lt _),(by first|with_reducible assumption|with_reducible exact L8 (by with_reducible assumption)|exact decide_eq_true (by omega)|exact decide_eq_false (by omega)|omega),twE_lt,(good_fac (by decide)),(by first|with_reducible assumption|with_reducible exact L8 (by with_reducible assumption)|exact decide_eq_true (by omega)|exact decide_eq_false (by omega)|omega),(L8 twE_lt),(modN_lt _),(mmN_lt (modN_pos _)),(by first|with_reducible assumption|with_reducible exact L8 (by with_reducible assumption)|exact decide_eq_true (by omega)|exact decide_eq_false (by omega)|omega),(good_fac (by decide)),(L8 (mmN_lt (modN_pos _))),(by first|with_reducible assumption|with_reducible exact L8 (by with_reducible assumption)|exact decide_eq_true (by omega)|exact decide_eq_false (by omega)|omega),(modN_lt _),(by first|with_reducible assumption|with_reducible exact L8 (by with_reducible assumption)|exact decide_eq_true (by omega)|exact decide_eq_false (by omega)|omega),(by first|with_reducible assumption|with_reducible exact L8 (by with_reducible assumption)|exact decide_eq_true (by omega)|exact decide_eq_false (by omega)|omega),(by first|with_reducible assumption|with_reducible exact L8 (by with_reducible assumption)|exact decide_eq_true (by omega)|exact decide_eq_false (by omega)|omega),(by first|with_reducible assumption|with_reducible exact L8 (by with_reducible assumption)|exact decide_eq_true (by omega)|exact decide_eq_false (by omega)|omega),(modN_lt _),(addM_lt (modN_pos _)),(by first|with_reducible assumption|with_reducible exact L8 (by with_reducible assumption)|exact decide_eq_true (by omega)|exact decide_eq_false (by omega)|omega),(good_fac (by decide)),(L8 (addM_lt (modN_pos _))),(by first|with_reducible assumption|with_reducible exact L8 (by with_reducible assumption)|exact decide_eq_true (by omega)|exact decide_eq_false (by omega)|omega),(modN_lt _),(mmN_lt (modN_pos _)),(mmN_lt (modN_pos _)),(L8 (mmN_lt (modN_pos _))),(L8 (mmN_lt (modN_pos _))),(modN_lt _),(mmN_lt (modN_pos _)),(mmN_lt (modN_pos _)),(L8 (mmN_lt (modN_pos _))),(L8 (mmN_lt (modN_pos _))),(modN_lt _),(mmN_lt (modN_pos _)),(mmN_lt (modN_pos _)),(L8 (mmN_lt (modN_pos _))),(L8 (mmN_lt (modN_pos _))),(modN_lt _),(mmN_lt (modN_pos _)),(mmN_lt (modN_pos _)),(L8 (mmN_lt (modN_pos _))),(L8 (mmN_lt (modN_pos _))),(modN_lt _),(subM_lt (modN_pos _)),(subM_lt (modN_pos _)),(good_fac (by decide)),(L8 (subM_lt (modN_pos _))),(L8 (subM_lt (modN_pos _))),(modN_lt _),(addM_lt (modN_pos _)),(addM_lt (modN_pos _)),(good_fac (by decide)),(L8 (addM_lt (modN_pos _))),(L8 (addM_lt (modN_pos _))),(modN_lt _),(subM_lt (modN_pos _)),(addM_lt (modN_pos _)),(good_fac (by decide)),(L8 (subM_lt (modN_pos _))),(L8 (addM_lt (modN_pos _))),(modN_lt _),(subM_lt (modN_pos _)),(addM_lt (modN_pos _)),(good_fac (by decide)),(L8 (subM_lt (modN_pos _))),(L8 (addM_lt (modN_pos _))),trivial⟩ rfl rfl
theorem ed69 (p:E4):callR (mkE L9a noS) 1000 272 [lawV,e4V p] []=
  some ([modN 0<4294967296^8,p.3<modN 0,goodF (modN 0) (facN 0),p.3<4294967296^8,modN 0<4294967296^8,p.1<modN 0,minvN (modN 0) p.3<modN 0,goodF (modN 0) (facN 0),p.1<4294967296^8,minvN (modN 0) p.3<4294967296^8,modN 0<4294967296^8,mmN (modN 0) p.1 (minvN (modN 0) p.3)<modN 0,goodF (modN 0) (facN 0),mmN (modN 0) p.1 (minvN (modN 0) p.3)<4294967296^8,modN 0<4294967296^8,p.2<modN 0,minvN (modN 0) p.3<modN 0,goodF (modN 0) (facN 0),p.2<4294967296^8,minvN (modN 0) p.3<4294967296^8,modN 0<4294967296^8,mmN (modN 0) p.2 (minvN (modN 0) p.3)<modN 0,goodF (modN 0) (facN 0),mmN (modN 0) p.2 (minvN (modN 0) p.3)<4294967296^8],.val (P2 (eDownX p) (eDownY p))):=by kernel_rfl
theorem spec69e (p:E4) (hp:p.lt):Spec 272 [lawV,e4V p] (.val (P2 (eDownX p) (eDownY p))):=by
 obtain ⟨h1,h2,h3,h4⟩:=hp
 exact spec_run (envMk L9a_ok noS) rfl (ed69 p) ⟨(modN_lt _),(by first|with_reducible assumption|with_reducible exact L8 (by with_reducible assumption)|exact decide_eq_true (by omega)|exact decide_eq_false (by omega)|omega),(good_fac (by decide)),(by first|with_reducible assumption|with_reducible exact L8 (by with_reducible assumption)|exact decide_eq_true (by omega)|exact decide_eq_false (by omega)|omega),(modN_lt _),(by first|with_reducible assumption|with_reducible exact L8 (by with_reducible assumption)|exact decide_eq_true (by omega)|exact decide_eq_false (by omega)|omega),(minvN_lt (modN_pos _)),(good_fac (by decide)),(by first|with_reducible assumption|with_reducible exact L8 (by with_reducible assumption)|exact decide_eq_true (by omega)|exact decide_eq_false (by omega)|omega),(L8 (minvN_lt (modN_pos _))),(modN_lt _),(mmN_lt (modN_pos _)),(good_fac (by decide)),(L8 (mmN_lt (modN_pos _))),(modN_lt _),(by first|with_reducible assumption|with_reducible exact L8 (by with_reducible assumption)|exact decide_eq_true (by omega)|exact decide_eq_false (by omega)|omega),(minvN_lt (modN_pos _)),(good_fac (by decide)),(by first|with_reducible assumption|with_reducible exact L8 (by with_reducible assumption)|exact decide_eq_true (by omega)|exact decide_eq_false (by omega)|omega),(L8 (minvN_lt (modN_pos _))),(modN_lt _),(mmN_lt (modN_pos _)),(good_fac (by decide)),(L8 (mmN_lt (modN_pos _))),trivial⟩ rfl rfl
noncomputable def gOf:List Val→Option (List Prop×AV)
 |[.n m,.n q,.n w,.n x,.n y]=>some ([m=modN 0,q=facN 0,w=twE,x<modN 0,y<modN 0],.val (e4V (eLift x y)))
 |_=>none
noncomputable def gEAdd:List Val→Option (List Prop×AV)
 |[.n m,.n q,.n w,.n x1,.n y1,.n z1,.n t1,.n x2,.n y2,.n z2,.n t2]=>some ([m=modN 0,q=facN 0,w=twE,E4.lt ⟨x1,y1,z1,t1⟩,E4.lt ⟨x2,y2,z2,t2⟩],.val (e4V (eAdd ⟨x1,y1,z1,t1⟩ ⟨x2,y2,z2,t2⟩)))
 |_=>none
noncomputable def gDown:List Val→Option (List Prop×AV)
 |[.n m,.n q,.n w,.n x1,.n y1,.n z1,.n t1]=>some ([m=modN 0,q=facN 0,w=twE,E4.lt ⟨x1,y1,z1,t1⟩],.val (P2 (eDownX ⟨x1,y1,z1,t1⟩) (eDownY ⟨x1,y1,z1,t1⟩)))
 |_=>none
def aLaw:Arg:= .s [.n8,.u32,.n8]
def aE4:Arg:= .s [.n8,.n8,.n8,.n8]
def aPt:Arg:= .s [.n8,.n8]
def aN:Arg:= .s [.n8]
theorem ct72:CTok ⟨274,fnS [aLaw,aPt] gOf⟩:=ctS (by
 intro xs ob r hb h ho
 unfold gOf at h
 split at h
 ·rename_i m q w x y
  simp only[Option.some.injEq,Prod.mk.injEq] at h
  obtain ⟨rfl,rfl⟩:=h
  obtain ⟨e0,e1,e2,h1,h2,_⟩:=ho
  subst e0 e1 e2
  have hS:=spec72e x y h1 h2
  exact hS
 ·simp at h)
theorem ct70:CTok ⟨298,fnS [aLaw,aE4,aE4] gEAdd⟩:=ctS (by
 intro xs ob r hb h ho
 unfold gEAdd at h
 split at h
 ·rename_i m q w x1 y1 z1 t1 x2 y2 z2 t2
  simp only[Option.some.injEq,Prod.mk.injEq] at h
  obtain ⟨rfl,rfl⟩:=h
  obtain ⟨e0,e1,e2,h1,h2,_⟩:=ho
  subst e0 e1 e2
  have hS:=spec70e ⟨x1,y1,z1,t1⟩ ⟨x2,y2,z2,t2⟩ h1 h2
  exact hS
 ·simp at h)
theorem ct69:CTok ⟨272,fnS [aLaw,aE4] gDown⟩:=ctS (by
 intro xs ob r hb h ho
 unfold gDown at h
 split at h
 ·rename_i m q w x1 y1 z1 t1
  simp only[Option.some.injEq,Prod.mk.injEq] at h
  obtain ⟨rfl,rfl⟩:=h
  obtain ⟨e0,e1,e2,h1,_⟩:=ho
  subst e0 e1 e2
  have hS:=spec69e ⟨x1,y1,z1,t1⟩ h1
  exact hS
 ·simp at h)
noncomputable def L10:List CT:=[⟨271,cV (.val lawV)⟩,⟨274,fnS [aLaw,aPt] gOf⟩,⟨298,fnS [aLaw,aE4,aE4] gEAdd⟩,⟨272,fnS [aLaw,aE4] gDown⟩]++L9a
theorem L10_ok:AllCT L10:=⟨ctV spec68e,ct72,ct70,ct69,L9a_ok⟩
theorem facN_lt32 (k:Nat):facN k<4294967296:=by unfold facN facF;omega
noncomputable def eStep (k:Nat) (p:E4) (j:Nat) (x:E4):E4:=bif bitB k j then eAdd (eAdd x x) p else eAdd x x
noncomputable def eTimesG (k:Nat) (p:E4):Nat→E4→E4
 |0,x=>x
 |j+1,x=>eTimesG k p j (eStep k p j x)
noncomputable def eTimes (k:Nat) (p:E4):E4:=eTimesG k p (lenN k) (eLift 0 1)
theorem eStep_lt (k:Nat) (p:E4) (j:Nat) (x:E4):(eStep k p j x).lt:=by
 unfold eStep;cases bitB k j<;>exact eAdd_lt _ _
theorem eTimesG_lt (k:Nat) (p:E4):∀j x,x.lt→(eTimesG k p j x).lt
 |0,_,h=>h
 |j+1,x,_=>eTimesG_lt k p j _ (eStep_lt k p j x)
theorem eTimes_lt (k:Nat) (p:E4):(eTimes k p).lt:=eTimesG_lt k p _ _ (eLift_lt 0 1)
def T71 (i:Int):List AV:=slots 31 [(3,pV 0),(4,pV 1),(5,pV 2),(6,pV 3),(7,pV 4),(8,iV i)]
noncomputable def M71 (k:Nat) (p x:E4):List Blk:=[⟨[.num 8 (modN 0),.a (.u .u32 (facN 0)),.num 8 twE],333,true,false,0⟩,⟨[.num 8 k],185,true,false,0⟩,⟨[.num 8 p.x,.num 8 p.y,.num 8 p.z,.num 8 p.t],337,true,false,0⟩,⟨cellsU 32 0 zF,337,true,false,0⟩,⟨[.num 8 x.x,.num 8 x.y,.num 8 x.z,.num 8 x.t],337,true,false,0⟩]
noncomputable def S71:FuncId→Nat→Bool:=fun f t=>match f with|273=>memN t [14,16,18,25]|_=>false
noncomputable def E71:Env:=mkE L10 S71
theorem envE71:EnvOK E71:=envMk L10_ok S71
theorem wfT71 (k:Nat) (p x:E4) (i:Int):wfS (T71 i) (M71 k p x)=true:=by
 unfold wfS
 rw[show tmsWf (M71 k p x).length (T71 i)=true by show tmsWf 5 _=true;kernel_rfl,Bool.true_and]
 kernel_rfl
theorem ed71t (k:Nat) (p:E4) (x:E4) (j:Nat):runTo E71 1000 (Env.S E71 273) (bodyOf Tryz.prog 273 3) (T71 (↑j:Int)) (M71 k p x) [true,true] (T71 ((↑j:Int)-(1:Int))) 5=
  some ([decide ((0:Int)≤(↑j:Int))=true,modN 0<4294967296^8,facN 0<4294967296,twE<4294967296^8,x.1<4294967296^8,x.2<4294967296^8,x.3<4294967296^8,x.4<4294967296^8,x.1<4294967296^8,x.2<4294967296^8,x.3<4294967296^8,x.4<4294967296^8,modN 0=modN 0,facN 0=facN 0,twE=twE,E4.lt x,E4.lt x,bitB k j=true,k<4294967296^8,(0:Int)≤(↑j:Int)∧(↑j:Int)<(256:Int),modN 0<4294967296^8,facN 0<4294967296,twE<4294967296^8,mmN (modN 0) (subM (modN 0) (mmN (modN 0) (addM (modN 0) x.2 x.1) (addM (modN 0) x.2 x.1)) (mmN (modN 0) (subM (modN 0) x.2 x.1) (subM (modN 0) x.2 x.1))) (subM (modN 0) (mmN (modN 0) (addM (modN 0) x.3 x.3) x.3) (mmN (modN 0) (mmN (modN 0) x.4 twE) x.4))<4294967296^8,mmN (modN 0) (addM (modN 0) (mmN (modN 0) (addM (modN 0) x.3 x.3) x.3) (mmN (modN 0) (mmN (modN 0) x.4 twE) x.4)) (addM (modN 0) (mmN (modN 0) (addM (modN 0) x.2 x.1) (addM (modN 0) x.2 x.1)) (mmN (modN 0) (subM (modN 0) x.2 x.1) (subM (modN 0) x.2 x.1)))<4294967296^8,mmN (modN 0) (subM (modN 0) (mmN (modN 0) (addM (modN 0) x.3 x.3) x.3) (mmN (modN 0) (mmN (modN 0) x.4 twE) x.4)) (addM (modN 0) (mmN (modN 0) (addM (modN 0) x.3 x.3) x.3) (mmN (modN 0) (mmN (modN 0) x.4 twE) x.4))<4294967296^8,mmN (modN 0) (subM (modN 0) (mmN (modN 0) (addM (modN 0) x.2 x.1) (addM (modN 0) x.2 x.1)) (mmN (modN 0) (subM (modN 0) x.2 x.1) (subM (modN 0) x.2 x.1))) (addM (modN 0) (mmN (modN 0) (addM (modN 0) x.2 x.1) (addM (modN 0) x.2 x.1)) (mmN (modN 0) (subM (modN 0) x.2 x.1) (subM (modN 0) x.2 x.1)))<4294967296^8,p.1<4294967296^8,p.2<4294967296^8,p.3<4294967296^8,p.4<4294967296^8,modN 0=modN 0,facN 0=facN 0,twE=twE,E4.lt (E4.mk (E4.x (eAdd (x) (x))) (E4.y (eAdd (x) (x))) (E4.z (eAdd (x) (x))) (E4.t (eAdd (x) (x)))),E4.lt p,inI ((↑j:Int)-(1:Int))],.normal,T71 ((j:Int)-1),M71 k p (eAdd (eAdd x x) p)):=by kernel_rfl
theorem ed71f (k:Nat) (p:E4) (x:E4) (j:Nat):runTo E71 1000 (Env.S E71 273) (bodyOf Tryz.prog 273 3) (T71 (↑j:Int)) (M71 k p x) [true,false] (T71 ((↑j:Int)-(1:Int))) 5=
  some ([decide ((0:Int)≤(↑j:Int))=true,modN 0<4294967296^8,facN 0<4294967296,twE<4294967296^8,x.1<4294967296^8,x.2<4294967296^8,x.3<4294967296^8,x.4<4294967296^8,x.1<4294967296^8,x.2<4294967296^8,x.3<4294967296^8,x.4<4294967296^8,modN 0=modN 0,facN 0=facN 0,twE=twE,E4.lt x,E4.lt x,bitB k j=false,k<4294967296^8,(0:Int)≤(↑j:Int)∧(↑j:Int)<(256:Int),inI ((↑j:Int)-(1:Int))],.normal,T71 ((j:Int)-1),M71 k p (eAdd x x)):=by kernel_rfl
theorem ed71x (k:Nat) (p:E4) (x:E4):runTo E71 1000 (Env.S E71 273) (bodyOf Tryz.prog 273 3) (T71 (-1:Int)) (M71 k p x) [false] (T71 (-1:Int)) 5=
  some ([decide ((0:Int)≤(-1:Int))=false],.exit 0,T71 (-1),M71 k p x):=by kernel_rfl
theorem loop71 {k:Nat} {p:E4} (hk:k<4294967296^8) (hp:p.lt):∀(j:Nat) (x:E4),j≤256→x.lt→GoesN Tryz.prog (bodyOf Tryz.prog 273 3) (j+1) (.exit 0) (T71 ((j:Int)-1)) (M71 k p x) (T71 (-1)) (M71 k p (eTimesG k p j x))
 |0,x,_,hx=>by
  obtain ⟨hx1,hx2,hx3,hx4⟩:=id hx
  obtain ⟨hp1,hp2,hp3,hp4⟩:=id hp
  exact GoesN.out (by simp) (Runs.goes envE71 ⟨[false],_,ed71x k p x,⟨(by first|with_reducible assumption|with_reducible exact L8 (by with_reducible assumption)|exact decide_eq_true (by omega)|exact decide_eq_false (by omega)|omega),trivial⟩,wfT71 _ _ _ _⟩)
 |j+1,x,hj,hx=>by
  have ih:=loop71 hk hp j (eStep k p j x) (by omega) (eStep_lt k p j x)
  have hxx:=eAdd_lt x x
  obtain ⟨hx1,hx2,hx3,hx4⟩:=id hx
  obtain ⟨hp1,hp2,hp3,hp4⟩:=id hp
  obtain ⟨hq1,hq2,hq3,hq4⟩:=id hxx
  have h0:decide (0≤(j:Int))=true:=decide_eq_true (by omega)
  have hr:0≤(j:Int)∧(j:Int)<256:=by omega
  have hI:inI ((j:Int)-1):=by unfold inI;omega
  rw[show ((j+1:Nat):Int)-1=(j:Int) by omega]
  have hs:Goes Tryz.prog (bodyOf Tryz.prog 273 3) .normal (T71 (j:Int)) (M71 k p x) (T71 ((j:Int)-1)) (M71 k p (eStep k p j x)):=by
   unfold eStep
   cases hb:bitB k j with
   |true=>exact Runs.goes envE71 ⟨_,_,ed71t k p x j,⟨(by first|with_reducible assumption|with_reducible exact L8 (by with_reducible assumption)|exact decide_eq_true (by omega)|exact decide_eq_false (by omega)|omega),(modN_lt _),(facN_lt32 0),(L8 twE_lt),(by first|with_reducible assumption|with_reducible exact L8 (by with_reducible assumption)|exact decide_eq_true (by omega)|exact decide_eq_false (by omega)|omega),(by first|with_reducible assumption|with_reducible exact L8 (by with_reducible assumption)|exact decide_eq_true (by omega)|exact decide_eq_false (by omega)|omega),(by first|with_reducible assumption|with_reducible exact L8 (by with_reducible assumption)|exact decide_eq_true (by omega)|exact decide_eq_false (by omega)|omega),(by first|with_reducible assumption|with_reducible exact L8 (by with_reducible assumption)|exact decide_eq_true (by omega)|exact decide_eq_false (by omega)|omega),(by first|with_reducible assumption|with_reducible exact L8 (by with_reducible assumption)|exact decide_eq_true (by omega)|exact decide_eq_false (by omega)|omega),(by first|with_reducible assumption|with_reducible exact L8 (by with_reducible assumption)|exact decide_eq_true (by omega)|exact decide_eq_false (by omega)|omega),(by first|with_reducible assumption|with_reducible exact L8 (by with_reducible assumption)|exact decide_eq_true (by omega)|exact decide_eq_false (by omega)|omega),(by first|with_reducible assumption|with_reducible exact L8 (by with_reducible assumption)|exact decide_eq_true (by omega)|exact decide_eq_false (by omega)|omega),rfl,rfl,rfl,(by first|with_reducible assumption|with_reducible exact L8 (by with_reducible assumption)|exact decide_eq_true (by omega)|exact decide_eq_false (by omega)|omega),(by first|with_reducible assumption|with_reducible exact L8 (by with_reducible assumption)|exact decide_eq_true (by omega)|exact decide_eq_false (by omega)|omega),(by first|with_reducible assumption|with_reducible exact L8 (by with_reducible assumption)|exact decide_eq_true (by omega)|exact decide_eq_false (by omega)|omega),(by first|with_reducible assumption|with_reducible exact L8 (by with_reducible assumption)|exact decide_eq_true (by omega)|exact decide_eq_false (by omega)|omega),(by first|with_reducible assumption|with_reducible exact L8 (by with_reducible assumption)|exact decide_eq_true (by omega)|exact decide_eq_false (by omega)|omega),(modN_lt _),(facN_lt32 0),(L8 twE_lt),(L8 (mmN_lt (modN_pos _))),(L8 (mmN_lt (modN_pos _))),(L8 (mmN_lt (modN_pos _))),(L8 (mmN_lt (modN_pos _))),(by first|with_reducible assumption|with_reducible exact L8 (by with_reducible assumption)|exact decide_eq_true (by omega)|exact decide_eq_false (by omega)|omega),(by first|with_reducible assumption|with_reducible exact L8 (by with_reducible assumption)|exact decide_eq_true (by omega)|exact decide_eq_false (by omega)|omega),(by first|with_reducible assumption|with_reducible exact L8 (by with_reducible assumption)|exact decide_eq_true (by omega)|exact decide_eq_false (by omega)|omega),(by first|with_reducible assumption|with_reducible exact L8 (by with_reducible assumption)|exact decide_eq_true (by omega)|exact decide_eq_false (by omega)|omega),rfl,rfl,rfl,(by first|with_reducible assumption|exact eAdd_lt _ _|exact eLift_lt _ _|exact hxx),(by first|with_reducible assumption|with_reducible exact L8 (by with_reducible assumption)|exact decide_eq_true (by omega)|exact decide_eq_false (by omega)|omega),(by first|with_reducible assumption|with_reducible exact L8 (by with_reducible assumption)|exact decide_eq_true (by omega)|exact decide_eq_false (by omega)|omega),trivial⟩,wfT71 _ _ _ _⟩
   |false=>exact Runs.goes envE71 ⟨_,_,ed71f k p x j,⟨(by first|with_reducible assumption|with_reducible exact L8 (by with_reducible assumption)|exact decide_eq_true (by omega)|exact decide_eq_false (by omega)|omega),(modN_lt _),(facN_lt32 0),(L8 twE_lt),(by first|with_reducible assumption|with_reducible exact L8 (by with_reducible assumption)|exact decide_eq_true (by omega)|exact decide_eq_false (by omega)|omega),(by first|with_reducible assumption|with_reducible exact L8 (by with_reducible assumption)|exact decide_eq_true (by omega)|exact decide_eq_false (by omega)|omega),(by first|with_reducible assumption|with_reducible exact L8 (by with_reducible assumption)|exact decide_eq_true (by omega)|exact decide_eq_false (by omega)|omega),(by first|with_reducible assumption|with_reducible exact L8 (by with_reducible assumption)|exact decide_eq_true (by omega)|exact decide_eq_false (by omega)|omega),(by first|with_reducible assumption|with_reducible exact L8 (by with_reducible assumption)|exact decide_eq_true (by omega)|exact decide_eq_false (by omega)|omega),(by first|with_reducible assumption|with_reducible exact L8 (by with_reducible assumption)|exact decide_eq_true (by omega)|exact decide_eq_false (by omega)|omega),(by first|with_reducible assumption|with_reducible exact L8 (by with_reducible assumption)|exact decide_eq_true (by omega)|exact decide_eq_false (by omega)|omega),(by first|with_reducible assumption|with_reducible exact L8 (by with_reducible assumption)|exact decide_eq_true (by omega)|exact decide_eq_false (by omega)|omega),rfl,rfl,rfl,(by first|with_reducible assumption|with_reducible exact L8 (by with_reducible assumption)|exact decide_eq_true (by omega)|exact decide_eq_false (by omega)|omega),(by first|with_reducible assumption|with_reducible exact L8 (by with_reducible assumption)|exact decide_eq_true (by omega)|exact decide_eq_false (by omega)|omega),(by first|with_reducible assumption|with_reducible exact L8 (by with_reducible assumption)|exact decide_eq_true (by omega)|exact decide_eq_false (by omega)|omega),(by first|with_reducible assumption|with_reducible exact L8 (by with_reducible assumption)|exact decide_eq_true (by omega)|exact decide_eq_false (by omega)|omega),(by first|with_reducible assumption|with_reducible exact L8 (by with_reducible assumption)|exact decide_eq_true (by omega)|exact decide_eq_false (by omega)|omega),(by first|with_reducible assumption|with_reducible exact L8 (by with_reducible assumption)|exact decide_eq_true (by omega)|exact decide_eq_false (by omega)|omega),trivial⟩,wfT71 _ _ _ _⟩
  exact GoesN.cons (M1:=M71 k p (eStep k p j x)) rfl hs ih
noncomputable def E71x (k:Nat) (p:E4):Env:=withL E71 3 (bodyOf Tryz.prog 273 3) (sumC (T71 ((lenN k:Int)-1)) (M71 k p (eLift 0 1)) (T71 (-1)) (M71 k p (eTimesG k p (lenN k) (eLift 0 1))) (.exit 0))
theorem envE71x {k:Nat} {p:E4} (hk:k<4294967296^8) (hp:p.lt):EnvOK (E71x k p):=envWithL envE71 (sumC_ok rfl (loop71 hk hp (lenN k) _ ((lenN_spec hk).2) (eLift_lt 0 1)).loop)
theorem ed71 (k:Nat) (p:E4):callR (E71x k p) 1000 273 [lawV,N8 k,e4V p] []=
  some ([modN 0<4294967296^8,facN 0<4294967296,twE<4294967296^8,0<4294967296^8,1<4294967296^8,modN 0=modN 0,facN 0=facN 0,twE=twE,0<modN 0,1<modN 0,k<4294967296^8,inI ((↑(lenN k):Int)-(1:Int)),(bodyOf Tryz.prog 273 3)=(bodyOf Tryz.prog 273 3),(T71 ((lenN k:Int)-1),M71 k p (eLift 0 1))=(T71 ((lenN k:Int)-1),M71 k p (eLift 0 1)),wfS (T71 ((lenN k:Int)-1)) (M71 k p (eLift 0 1))=true],.val (e4V (eTimesG k p (lenN k) (eLift 0 1)))):=by kernel_rfl
theorem spec71t (k:Nat) (p:E4) (hk:k<4294967296^8) (hp:p.lt):Spec 273 [lawV,N8 k,e4V p] (.val (e4V (eTimes k p))):=by
 obtain ⟨hp1,hp2,hp3,hp4⟩:=id hp
 have hl:=(lenN_spec hk).2
 have hI:inI ((lenN k:Int)-1):=by unfold inI;omega
 have hw:=wfT71 k p (eLift 0 1) ((lenN k:Int)-1)
 have h:=spec_run (envE71x hk hp) rfl (ed71 k p) ⟨(modN_lt _),(facN_lt32 0),(L8 twE_lt),lit0_8,lit1_8,rfl,rfl,rfl,(modN_pos _),(modN_one _),(by first|with_reducible assumption|with_reducible exact L8 (by with_reducible assumption)|exact decide_eq_true (by omega)|exact decide_eq_false (by omega)|omega),(by first|with_reducible assumption|with_reducible exact L8 (by with_reducible assumption)|exact decide_eq_true (by omega)|exact decide_eq_false (by omega)|omega),rfl,rfl,(by assumption),trivial⟩ rfl rfl
 exact h
theorem subM_add {m a b:Nat} (hb:b<m):(subM m a b+b)%m=a%m:=by
 unfold subM
 rw[Nat.mod_add_mod,Nat.sub_add_cancel (by omega),Nat.add_mod_right]
theorem add_inj {m r s y:Nat} (hr:r<m) (hs:s<m) (h:(r+y)%m=(s+y)%m):r=s:=by
 have h1:∀{r s:Nat},r<m→s<m→r≤s→(r+y)%m=(s+y)%m→r=s:=by
  intro r s _ hs hle h
  have h2:(s+y-(r+y))%m=0:=Nat.sub_mod_eq_zero_of_mod_eq h.symm
  rw[show s+y-(r+y)=s-r by omega,Nat.mod_eq_of_lt (by omega)] at h2
  omega
 rcases Nat.le_total r s with hle|hle
 ·exact h1 hr hs hle h
 ·exact (h1 hs hr hle h.symm).symm
theorem in_mod (m a:Nat):inN m (a%m)=inN m a:=by rw[in_eq,in_eq,Nat.mod_mul_mod]
theorem in_add {m:Nat} (a b:Nat):addM m (inN m a) (inN m b)=inN m (addM m a b):=by
 unfold addM
 rw[in_mod,in_eq,in_eq,in_eq,←Nat.add_mod,Nat.add_mul]
theorem in_sub {m:Nat} (hm:0<m) {a b:Nat} (hb:b<m):subM m (inN m a) (inN m b)=inN m (subM m a b):=by
 refine add_inj (y:=inN m b) (subM_lt hm) (inN_lt hm) ?_
 rw[subM_add (inN_lt hm)]
 have h:=in_add (m:=m) (subM m a b) b
 unfold addM at h
 rw[h,subM_add hb,in_mod,Nat.mod_eq_of_lt (inN_lt hm)]
theorem in_mul {k:Nat} (hk:k<4) (x y:Nat):mmN (modN k) (inN (modN k) x) (inN (modN k) y)=inN (modN k) (mulM (modN k) x y):=mm_in (modN_lt k) (good_fac hk)
def pTw:Nat:=addM (modN 0) dN dN
def pA (p q:E4):Nat:=mulM (modN 0) (subM (modN 0) p.y p.x) (subM (modN 0) q.y q.x)
def pB (p q:E4):Nat:=mulM (modN 0) (addM (modN 0) p.y p.x) (addM (modN 0) q.y q.x)
def pC (p q:E4):Nat:=mulM (modN 0) (mulM (modN 0) p.t pTw) q.t
def pD (p q:E4):Nat:=mulM (modN 0) (addM (modN 0) p.z p.z) q.z
def pE (p q:E4):Nat:=subM (modN 0) (pB p q) (pA p q)
def pF (p q:E4):Nat:=subM (modN 0) (pD p q) (pC p q)
def pG (p q:E4):Nat:=addM (modN 0) (pD p q) (pC p q)
def pH (p q:E4):Nat:=addM (modN 0) (pB p q) (pA p q)
def pAdd (p q:E4):E4:=⟨mulM (modN 0) (pE p q) (pF p q),mulM (modN 0) (pG p q) (pH p q),mulM (modN 0) (pF p q) (pG p q),mulM (modN 0) (pE p q) (pH p q)⟩
def pLift (x y:Nat):E4:=⟨x,y,1,mulM (modN 0) x y⟩
def inE (p:E4):E4:=⟨inN (modN 0) p.x,inN (modN 0) p.y,inN (modN 0) p.z,inN (modN 0) p.t⟩
def pStep (k:Nat) (p:E4) (j:Nat) (x:E4):E4:=bif bitB k j then pAdd (pAdd x x) p else pAdd x x
def pTimesG (k:Nat) (p:E4):Nat→E4→E4
 |0,x=>x
 |j+1,x=>pTimesG k p j (pStep k p j x)
def pTimes (k:Nat) (p:E4):E4:=pTimesG k p (lenN k) (pLift 0 1)
theorem pAdd_lt (p q:E4):(pAdd p q).lt:=⟨mulM_lt (modN_pos 0),mulM_lt (modN_pos 0),mulM_lt (modN_pos 0),mulM_lt (modN_pos 0)⟩
theorem pLift_lt {x y:Nat} (hx:x<modN 0) (hy:y<modN 0):(pLift x y).lt:=⟨hx,hy,modN_one 0,mulM_lt (modN_pos 0)⟩
theorem twE_in:twE=inN (modN 0) pTw:=in_add dN dN
theorem eAdd_in {p q:E4} (hp:p.lt) (hq:q.lt):eAdd (inE p) (inE q)=inE (pAdd p q):=by
 obtain ⟨h1,h2,h3,h4⟩:=hp
 obtain ⟨h5,h6,h7,h8⟩:=hq
 have hm:=modN_pos 0
 have hA:eA (inE p) (inE q)=inN (modN 0) (pA p q):=by
  simp only[eA,inE,pA];rw[in_sub hm h1,in_sub hm h5,in_mul (by decide)]
 have hB:eB (inE p) (inE q)=inN (modN 0) (pB p q):=by
  simp only[eB,inE,pB];rw[in_add,in_add,in_mul (by decide)]
 have hC:eC (inE p) (inE q)=inN (modN 0) (pC p q):=by
  simp only[eC,inE,pC];rw[twE_in,in_mul (by decide),in_mul (by decide)]
 have hD:eD (inE p) (inE q)=inN (modN 0) (pD p q):=by
  simp only[eD,inE,pD];rw[in_add,in_mul (by decide)]
 have hE:eE (inE p) (inE q)=inN (modN 0) (pE p q):=by
  unfold eE pE;rw[hA,hB,in_sub hm (show pA p q<modN 0 from mulM_lt hm)]
 have hF:eF (inE p) (inE q)=inN (modN 0) (pF p q):=by
  unfold eF pF;rw[hC,hD,in_sub hm (show pC p q<modN 0 from mulM_lt hm)]
 have hG:eG (inE p) (inE q)=inN (modN 0) (pG p q):=by
  unfold eG pG;rw[hC,hD,in_add]
 have hH:eH (inE p) (inE q)=inN (modN 0) (pH p q):=by
  unfold eH pH;rw[hA,hB,in_add]
 unfold eAdd pAdd inE
 rw[←inE,←inE,hE,hF,hG,hH,in_mul (by decide),in_mul (by decide),in_mul (by decide),in_mul (by decide)]
theorem eLift_in (x y:Nat):eLift x y=inE (pLift x y):=by
 unfold eLift inE pLift
 rw[in_mul (by decide)]
theorem eStep_in {k j:Nat} {p x:E4} (hp:p.lt) (hx:x.lt):eStep k (inE p) j (inE x)=inE (pStep k p j x):=by
 unfold eStep pStep
 rw[eAdd_in hx hx,eAdd_in (pAdd_lt x x) hp]
 cases bitB k j<;>rfl
theorem pStep_lt (k:Nat) (p:E4) (j:Nat) (x:E4):(pStep k p j x).lt:=by
 unfold pStep;cases bitB k j<;>exact pAdd_lt _ _
theorem eTimesG_in {k:Nat} {p:E4} (hp:p.lt):∀(j:Nat) (x:E4),x.lt→eTimesG k (inE p) j (inE x)=inE (pTimesG k p j x)
 |0,_,_=>rfl
 |j+1,x,hx=>by
  show eTimesG k (inE p) j (eStep k (inE p) j (inE x))=inE (pTimesG k p j (pStep k p j x))
  rw[eStep_in hp hx]
  exact eTimesG_in hp j _ (pStep_lt k p j x)
theorem none_lt:(pLift 0 1).lt:=pLift_lt (modN_pos 0) (modN_one 0)
theorem eTimes_in {k:Nat} {p:E4} (hp:p.lt):eTimes k (inE p)=inE (pTimes k p):=by
 unfold eTimes pTimes
 rw[eLift_in]
 exact eTimesG_in hp _ _ none_lt
def pInv (z:Nat):Nat:=Go.NT.pwM (modN 0) z (subN (modN 0) 2)
def pDown (p:E4) (c:Nat):Nat:=mulM (modN 0) c (pInv p.z)
theorem down_in {p:E4} (hp:p.lt) (c:Nat):outN (modN 0) (mmN (modN 0) (inN (modN 0) c) (minvN (modN 0) (inN (modN 0) p.z)))=pDown p c:=by
 unfold minvN pDown pInv
 rw[mpow_in,out_in (modN_lt 0) (good_fac (by decide)) hp.2.2.1,in_mul (by decide),out_in (modN_lt 0) (good_fac (by decide)) (mulM_lt (modN_pos 0))]
theorem eDownX_in {p:E4} (hp:p.lt):eDownX (inE p)=pDown p p.x:=down_in hp p.x
theorem eDownY_in {p:E4} (hp:p.lt):eDownY (inE p)=pDown p p.y:=down_in hp p.y
def pOn (x y:Nat):Bool:=decide (subM (modN 0) (mulM (modN 0) y y) (mulM (modN 0) x x)=addM (modN 0) 1 (mulM (modN 0) dN (mulM (modN 0) (mulM (modN 0) x x) (mulM (modN 0) y y))))
theorem eqE_in {x y:Nat}:eqE x y=pOn x y:=by
 have hm:=modN_pos 0
 unfold eqE pOn
 rw[in_mul (by decide),in_mul (by decide),in_mul (by decide),in_mul (by decide),in_add,in_sub hm (mulM_lt hm),Bool.eq_iff_iff,decide_eq_true_iff,decide_eq_true_iff]
 exact ⟨fun h=>in_inj (modN_lt 0) (good_fac (by decide)) (subM_lt hm) (addM_lt hm) h,fun h=>by rw[h]⟩
theorem onE_base:onE bXN bYN=true:=by
 unfold onE
 rw[eqE_in]
 decide+kernel
theorem onE_none:onE 0 1=true:=by
 unfold onE
 rw[eqE_in]
 decide+kernel
theorem E4.ltx {p:E4} (h:p.lt):p.x<4294967296^8:=L8 h.1
theorem E4.lty {p:E4} (h:p.lt):p.y<4294967296^8:=L8 h.2.1
theorem E4.ltz {p:E4} (h:p.lt):p.z<4294967296^8:=L8 h.2.2.1
theorem E4.ltt {p:E4} (h:p.lt):p.t<4294967296^8:=L8 h.2.2.2
noncomputable def gETimes:List Val→Option (List Prop×AV)
 |[.n m,.n q,.n w,.n k,.n x1,.n y1,.n z1,.n t1]=>some ([m=modN 0,q=facN 0,w=twE,E4.lt ⟨x1,y1,z1,t1⟩],.val (e4V (eTimes k ⟨x1,y1,z1,t1⟩)))
 |_=>none
theorem ct71:CTok ⟨273,fnS [aLaw,aN,aE4] gETimes⟩:=ctS (by
 intro xs ob r hb h ho
 unfold gETimes at h
 split at h
 ·rename_i m q w k x1 y1 z1 t1
  simp only[Option.some.injEq,Prod.mk.injEq] at h
  obtain ⟨rfl,rfl⟩:=h
  obtain ⟨e0,e1,e2,h1,_⟩:=ho
  obtain ⟨_,⟨hk,_⟩,_⟩:=hb
  subst e0 e1 e2
  have hS:=spec71t k ⟨x1,y1,z1,t1⟩ hk h1
  exact hS
 ·simp at h)
noncomputable def L12:List CT:=[⟨273,fnS [aLaw,aN,aE4] gETimes⟩]++L10
theorem L12_ok:AllCT L12:=⟨ct71,L10_ok⟩
noncomputable def sumE (px py qx qy:Nat):E4:=eAdd (eLift px py) (eLift qx qy)
noncomputable def timE (k px py:Nat):E4:=eTimes k (eLift px py)
noncomputable def dwn (p:E4):V1:=P2 (eDownX p) (eDownY p)
noncomputable def S12:FuncId→Nat→Bool:=fun f _=>match f with|_=>false
noncomputable def E12:Env:=mkE L12 S12
theorem envE12:EnvOK E12:=envMk L12_ok S12
def fLit:List V1→Option (List Prop×AV):=fn1 fun a=> .val (sS (strOf (leB 32 a)))
theorem ctLit110:CTok ⟨119,fLit⟩:=fun _ _ _ h ho=>fn1_ok (fun a _=>spec110s a) h ho
noncomputable def EOf:Env:=mkE [⟨119,fLit⟩] noS
theorem envEOf:EnvOK EOf:=envMk (L:=[⟨119,fLit⟩]) ⟨ctLit110,trivial⟩ _
def put7 (y t:Nat):Nat:=(y%4294967296+4294967296*(y/4294967296%4294967296+4294967296*(y/4294967296/4294967296%4294967296+4294967296*(y/4294967296/4294967296/4294967296%4294967296+4294967296*(y/4294967296/4294967296/4294967296/4294967296%4294967296+4294967296*(y/4294967296/4294967296/4294967296/4294967296/4294967296%4294967296+4294967296*(y/4294967296/4294967296/4294967296/4294967296/4294967296/4294967296%4294967296+4294967296*(t+4294967296*0))))))))
def top7 (y:Nat):Nat:=y/4294967296/4294967296/4294967296/4294967296/4294967296/4294967296/4294967296%4294967296
theorem put7_eq (y t:Nat):put7 y t=y%26959946667150639794667015087019630673637144422540572481103610249216+26959946667150639794667015087019630673637144422540572481103610249216*t:=by
 have hv:valU 7 0 (limb y)=y%26959946667150639794667015087019630673637144422540572481103610249216:=by
  rw[valU_limb,Nat.pow_zero,Nat.div_one]
 have e:put7 y t=valU 7 0 (limb y)+26959946667150639794667015087019630673637144422540572481103610249216*t:=by
  unfold put7
  simp only[Nat.div_div_eq_div_mul,valU,limb,Nat.zero_add,Nat.reduceAdd,Nat.pow_zero,Nat.div_one,Nat.pow_one,Nat.reducePow,Nat.reduceMul]
  generalize y/6277101735386680763835789423207666416102355444464034512896%4294967296=d6
  generalize y/1461501637330902918203684832716283019655932542976%4294967296=d5
  generalize y/340282366920938463463374607431768211456%4294967296=d4
  generalize y/79228162514264337593543950336%4294967296=d3
  generalize y/18446744073709551616%4294967296=d2
  generalize y/4294967296%4294967296=d1
  generalize y%4294967296=d0
  omega
 rw[e,hv]
theorem top7_eq (y:Nat) (h:y<4294967296^8):top7 y=y/26959946667150639794667015087019630673637144422540572481103610249216∧y=y%26959946667150639794667015087019630673637144422540572481103610249216+26959946667150639794667015087019630673637144422540572481103610249216*top7 y:=by
 have hq:y/26959946667150639794667015087019630673637144422540572481103610249216=y/4294967296/4294967296/4294967296/4294967296/4294967296/4294967296/4294967296:=by simp only[Nat.div_div_eq_div_mul,Nat.reduceMul]
 have hm:=Nat.div_add_mod y 26959946667150639794667015087019630673637144422540572481103610249216
 have hlt:y/26959946667150639794667015087019630673637144422540572481103610249216<4294967296:=Nat.div_lt_of_lt_mul (by clear hq;omega)
 have:top7 y=y/26959946667150639794667015087019630673637144422540572481103610249216:=by unfold top7;rw[←hq,Nat.mod_eq_of_lt hlt]
 clear hq
 exact ⟨this,by rw[this];omega⟩
def tpk (x y:Nat):Nat:=top7 y%4294967296|||(x%4294967296%4294967296&&&1%4294967296)*2^31%4294967296%4294967296
def packB (x y:Nat):ByteArray:=strOf (leB 32 (y+57896044618658097711785492504343953926634992332820282019728792003956564819968*(x%2)))
theorem and1W (x:Nat):x%4294967296%4294967296&&&1%4294967296=x%2:=by
 rw[show (1%4294967296:Nat)=2^1-1 from rfl,Nat.and_two_pow_sub_one_eq_mod];omega
theorem tpk_eq (x y:Nat) (h:y<57896044618658097711785492504343953926634992332820282019728792003956564819968):put7 y (tpk x y)=y+57896044618658097711785492504343953926634992332820282019728792003956564819968*(x%2):=by
 obtain ⟨h1,h2⟩:=top7_eq y (by omega)
 have hlt:top7 y<2^31:=by omega
 have hx:x%2<2:=Nat.mod_lt _ (by decide)
 have:tpk x y=top7 y+x%2*2^31:=by
  unfold tpk
  rw[and1W,Nat.mod_eq_of_lt (show top7 y<4294967296 by omega),Nat.mod_eq_of_lt (show x%2*2^31<4294967296 by omega),Nat.mod_eq_of_lt (show x%2*2^31<4294967296 by omega)]
  exact orSh (k:=31) _ hlt
 rw[put7_eq,this]
 omega
theorem tpk_lt (x y:Nat):tpk x y<4294967296:=or_lt32 (Nat.mod_lt _ (by decide)) (Nat.mod_lt _ (by decide))
theorem mdW (x:Nat):x%4294967296<4294967296:=Nat.mod_lt _ (by decide)
theorem r82 (x:Nat) (y:Nat):callR EOf 1000 238 [P2 x y] []=
  some ([y%4294967296<4294967296,y/4294967296%4294967296<4294967296,y/4294967296/4294967296%4294967296<4294967296,y/4294967296/4294967296/4294967296%4294967296<4294967296,y/4294967296/4294967296/4294967296/4294967296%4294967296<4294967296,y/4294967296/4294967296/4294967296/4294967296/4294967296%4294967296<4294967296,y/4294967296/4294967296/4294967296/4294967296/4294967296/4294967296%4294967296<4294967296,y/4294967296/4294967296/4294967296/4294967296/4294967296/4294967296/4294967296%4294967296%4294967296|||(x%4294967296%4294967296&&&1%4294967296)*2147483648%4294967296%4294967296<4294967296],.val (sS (strOf (leB 32 (put7 y (tpk x y)))))):=by kernel_rfl
theorem spec82s (x y:Nat) (h:y<57896044618658097711785492504343953926634992332820282019728792003956564819968):Spec 238 [P2 x y] (.val (sS (packB x y))):=by
 have:=spec_run envEOf rfl (r82 x y) ⟨mdW _,mdW _,mdW _,mdW _,mdW _,mdW _,mdW _,tpk_lt x y,trivial⟩ rfl rfl
 rw[tpk_eq x y h] at this
 exact this
end Go.Ev
namespace Go.Ev.H5
open Go Go.Proofs Go.RowKit
def zs (n:Nat):ByteArray:=strOf (List.replicate n 0)
theorem zs_size (n:Nat):(zs n).size=n:=by unfold zs;rw[strOf_size,List.length_replicate]
noncomputable def E21:Env:={E0 with S:=fun f t=>match f with|14=>memN t [2000004,2000005]|_=>false}
theorem envE21:EnvOK E21:=⟨mixed,envE0.fns,envE0.fms,envE0.lps,envE0.fbs,envE0.fws⟩
theorem run21n (z:Int):callR E21 1000 14 [.one (.i z)] []=some ([0≤z∧z=z∧z≤140737488355328,0=0∧z.toNat=(List.replicate z.toNat 0).length],.val (sS (zs z.toNat))):=by kernel_rfl
def fnZs (vs:List V1):Option (List Prop×AV):=
 match vs with
 |[.one (.i z)]=>some ([0≤z∧z≤1000000],.val (sS (zs z.toNat)))
 |_=>none
theorem ct21z:CTok ⟨14,fnZs⟩:=by
 intro vs ob r h ho
 simp only[fnZs] at h
 split at h
 ·rename_i z
  simp only[Option.some.injEq,Prod.mk.injEq] at h
  obtain ⟨rfl,rfl⟩:=h
  have h1:=ho.1
  exact spec_run envE21 rfl (run21n z) ⟨by omega,⟨rfl,by simp⟩,trivial⟩ rfl rfl
 ·simp at h
def bytesW (x:Nat):List Nat:=[x/2^56%256,x/2^48%256,x/2^40%256,x/2^32%256,x/2^24%256,x/2^16%256,x/2^8%256,x/2^0%256]
def eightS (x:Nat):ByteArray:=strOf (bytesW x)
def h0W:W8:=⟨7640891576956012808,13503953896175478587,4354685564936845355,11912009170470909681,5840696475078001361,11170449401992604703,2270897969802886507,6620516959819538809⟩
theorem r94:callR E0 1000 267 [] []=some ([],.val (aV h0W)):=by kernel_rfl
theorem ct94:CTok ⟨267,cV (.val (aV h0W))⟩:=ctV (spec_run envE0 rfl r94 trivial rfl rfl)
def x80:ByteArray:=⟨#[128]⟩
def padZ (n:Nat):Int:=Int.tmod (239-Int.tmod (n:Int) 128) 128
def lenW (n:Nat):Nat:=8*((n:Int)%18446744073709551616).toNat%M64
noncomputable def fillQ (s:ByteArray):ByteArray:=(((s++x80)++zs (padZ s.size).toNat)++zs 8)++eightS (lenW s.size)
noncomputable def outQ (h:W8):ByteArray:=(((((((⟨#[]⟩++eightS h.a)++eightS h.b)++eightS h.c)++eightS h.d)++eightS h.e)++eightS h.f)++eightS h.g)++eightS h.h
theorem eightS_size (x:Nat):(eightS x).size=8:=by unfold eightS;rw[strOf_size];rfl
theorem x80_size:x80.size=1:=rfl
theorem e0_size:(⟨#[]⟩:ByteArray).size=0:=rfl
theorem padZ_eq (n:Nat):padZ n=(((239-n%128)%128:Nat):Int):=by
 unfold padZ
 have e1:Int.tmod (n:Int) 128=((n%128:Nat):Int):=by
  rw[Int.tmod_eq_emod_of_nonneg (by omega)];omega
 rw[e1,Int.tmod_eq_emod_of_nonneg (by omega)];omega
def nBl (n:Nat):Nat:=(n+144)/128
theorem fillQ_size (s:ByteArray):(fillQ s).size=128*nBl s.size:=by
 unfold fillQ nBl
 simp only[ByteArray.size_append,eightS_size,zs_size,x80_size,padZ_eq,Int.toNat_natCast]
 omega
noncomputable def hst (F:ByteArray):Nat→W8
 |0=>h0W
 |j+1=>blk5 (hst F j) (F.extract (128*j) (128*j+128))
noncomputable def sum5 (s:ByteArray):ByteArray:=outQ (hst (fillQ s) (nBl s.size))
noncomputable def fnS5 (vs:List V1):Option (List Prop×AV):=
 match vs with
 |[.one (.v (.string s))]=>some ([s.size≤100000000000000],.val (sS (sum5 s)))
 |_=>none
theorem outQ_size (h:W8):(outQ h).size=64:=by
 unfold outQ
 simp only[ByteArray.size_append,eightS_size,e0_size]
theorem sum5_size (s:ByteArray):(sum5 s).size=64:=outQ_size _
def sumG (T0:List AV) (M0:List Blk) (TF:List AV) (MF:List Blk) (ex:Ex):List AV→List Blk→List Bool→CoR:=fun tm mem c=>
 some ([(fitT T0 tm,mem)=(T0,M0),wfS T0 M0=true],c,ex,TF,MF)
theorem sumG_ok {P:Program} {y:Code} {T0 TF:List AV} {M0 MF:List Blk} {ex:Ex} (hl:M0.length≤MF.length) (h:Goes P (.loop y) ex T0 M0 TF MF):SumOK P (.loop y) (sumG T0 M0 TF MF ex):=by
 intro tm mem c ob c' ex' tm' mem' hf ho w0 φ a w hr Q hQ
 simp only[sumG,Option.some.injEq,Prod.mk.injEq] at hf
 obtain ⟨rfl,rfl,rfl,rfl,rfl⟩:=hf
 obtain ⟨h1,h2,_⟩:=ho
 obtain ⟨h1,rfl⟩:=h1
 refine h w0 φ a w (hr.fit (fits_of (by rw[h1,List.take_length]) h2)) Q ?_
 intro φ' a' w' hag hr'
 exact hQ φ' a' w' hag hl hr'
def slX (b n:Nat):AV:= .val (.one (.sx b n))
def dB (l:List Nat):Blk:=⟨[.arr .u8 l],5,false,false,1⟩
def aB (l:List Nat):Blk:=⟨[.arr .u8 l],5,true,false,1⟩
def oB (x:Nat):Blk:=⟨[.a (.u .u8 x)],5,true,false,0⟩
def T95 (s:ByteArray) (b n:Nat):List AV:=slots 28 [(0,.val (sS s)),(3,slX b n)]
noncomputable def S95:FuncId→Nat→Bool:=fun f t=>match f with|268=>memN t [2000006,2000008,12,2000015,2000026,2000027,9000000]|_=>false
noncomputable def E95:Env:={E0 with S:=S95}
theorem envE95:EnvOK E95:=⟨mixed,envE0.fns,envE0.fms,envE0.lps,envE0.fbs,envE0.fws⟩
theorem r95a (s:ByteArray) (l:List Nat) (n:Nat):runTo E95 1000 (Env.S E95 268) (bodyOf Tryz.prog 268 2) (T95 s 2 n) [dB (numsB s),oB 128,aB l] [true] (T95 s 4 (n+1)) 5=
  some ([(!decide (Int.ofNat (n%128)=(112:Int)))=true,n=List.length l∧0<1∧(n+1)*1≤140737488355328∧n+1≤140737488355328],.normal,T95 s 4 (n+1),[dB (numsB s),oB 128,dB l,oB 0,aB (l++[0])]):=by kernel_rfl
theorem r95x (s:ByteArray) (l:List Nat) (n:Nat):runTo E95 1000 (Env.S E95 268) (bodyOf Tryz.prog 268 2) (T95 s 2 n) [dB (numsB s),oB 128,aB l] [false] (T95 s 2 n) 3=
  some ([(!decide (Int.ofNat (n%128)=(112:Int)))=false],(.exit 0),T95 s 2 n,[dB (numsB s),oB 128,aB l]):=by kernel_rfl
theorem dec_ne {n:Nat} (h:n%128≠112):(!decide (Int.ofNat (n%128)=(112:Int)))=true:=by
 have:Int.ofNat (n%128)≠(112:Int):=by simp only[Int.ofNat_eq_natCast];omega
 rw[decide_eq_false this];rfl
theorem dec_eq {n:Nat} (h:n%128=112):(!decide (Int.ofNat (n%128)=(112:Int)))=false:=by
 have:Int.ofNat (n%128)=(112:Int):=by simp only[Int.ofNat_eq_natCast];omega
 rw[decide_eq_true this];rfl
theorem free3 (s:ByteArray) (l:List Nat):∀b∈[dB (numsB s),oB 128,aB l],Free b:=by
 intro b hb
 simp only[List.mem_cons,List.not_mem_nil,or_false] at hb
 rcases hb with rfl|rfl|rfl<;>exact fun _=>rfl
theorem free5 (s:ByteArray) (l:List Nat):∀b∈[dB (numsB s),oB 128,dB l,oB 0,aB (l++[0])],Free b:=by
 intro b hb
 simp only[List.mem_cons,List.not_mem_nil,or_false] at hb
 rcases hb with rfl|rfl|rfl|rfl|rfl<;>exact fun _=>rfl
theorem free4 (s:ByteArray) (l:List Nat):∀b∈[dB (numsB s),oB 128,dB [],aB l],Free b:=by
 intro b hb
 simp only[List.mem_cons,List.not_mem_nil,or_false] at hb
 rcases hb with rfl|rfl|rfl|rfl<;>exact fun _=>rfl
theorem wf95_3 (s:ByteArray) (l:List Nat) (n:Nat):wfS (T95 s 2 n) [dB (numsB s),oB 128,aB l]=true:=wfS_of (free3 s l) (by show tmsWf 3 _=true;kernel_rfl)
theorem wf95_5 (s:ByteArray) (l:List Nat) (n:Nat):wfS (T95 s 4 n) [dB (numsB s),oB 128,dB l,oB 0,aB (l++[0])]=true:=wfS_of (free5 s l) (by show tmsWf 5 _=true;kernel_rfl)
theorem wf95_4 (s:ByteArray) (l:List Nat) (n:Nat):wfS (T95 s 3 n) [dB (numsB s),oB 128,dB [],aB l]=true:=wfS_of (free4 s l) (by show tmsWf 4 _=true;kernel_rfl)
theorem mv95 (s:ByteArray) (b b' n:Nat):mvT 2 b b' (T95 s b n) (T95 s b' n):=by
 show mvT 2 b b' [_,.junk,.junk,_,.junk,.junk,.junk,.junk,.junk,.junk,.junk,.junk,.junk,.junk,.junk,.junk,.junk,.junk,.junk,.junk,.junk,.junk,.junk,.junk,.junk,.junk,.junk,.junk] [_,.junk,.junk,_,.junk,.junk,.junk,.junk,.junk,.junk,.junk,.junk,.junk,.junk,.junk,.junk,.junk,.junk,.junk,.junk,.junk,.junk,.junk,.junk,.junk,.junk,.junk,.junk]
 simp only[mvT,and_true,true_or,true_and]
 exact ⟨.inr (.inl rfl),.inr (.inr ⟨n,rfl,rfl⟩)⟩
set_option maxRecDepth 100000 in
theorem step95 (s:ByteArray) (l:List Nat) (n:Nat) (hn:n=l.length) (h:n%128≠112) (hb:n+1≤140737488355328):
  GoesK Tryz.prog 2 (bodyOf Tryz.prog 268 2) .normal (T95 s 2 n) [dB (numsB s),oB 128,aB l] (T95 s 2 (n+1)) [dB (numsB s),oB 128,aB (l++[0])]:=by
 have h1:Goes Tryz.prog (bodyOf Tryz.prog 268 2) .normal (T95 s 2 n) [dB (numsB s),oB 128,aB l] (T95 s 4 (n+1)) [dB (numsB s),oB 128,dB l,oB 0,aB (l++[0])]:=Runs.goes envE95 ⟨_,_,r95a s l n,⟨dec_ne h,⟨hn,by decide,by omega,hb⟩,trivial⟩,wf95_5 _ _ _⟩
 refine (h1.toK (K:=2) (by simp only[List.length_cons,List.length_nil];omega)).move (b:=4) (b':=2) (mv95 s 4 2 (n+1)) (by omega) (by omega) ?_ (wf95_3 _ _ _)
 intro i k hk hl
 match i,hk with
 |0,hk=>simp only[List.getElem?_cons_zero,Option.some.injEq] at hk;subst hk;exact absurd hl (by simp[dB])
 |1,hk=>simp only[List.getElem?_cons_succ,List.getElem?_cons_zero,Option.some.injEq] at hk;subst hk;exact ⟨fun _=>rfl,.inl ⟨by omega,rfl⟩⟩
 |2,hk=>simp only[List.getElem?_cons_succ,List.getElem?_cons_zero,Option.some.injEq] at hk;subst hk;exact ⟨fun _=>rfl,.inr ⟨rfl,by omega,rfl⟩⟩
 |i+3,hk=>simp at hk
set_option maxRecDepth 100000 in
theorem loop95 (s:ByteArray) (l:List Nat) (z:Nat) (hz:∀j,j<z→(l.length+j)%128≠112) (h:(l.length+z)%128=112) (hb:l.length+z≤140737488355328):
  Goes Tryz.prog (.loop (bodyOf Tryz.prog 268 2)) (.exit 0) (T95 s 2 l.length) [dB (numsB s),oB 128,aB l] (T95 s 3 (l.length+z)) [dB (numsB s),oB 128,dB [],aB (l++List.replicate z 0)]:=by
 have hK:GoesK Tryz.prog 2 (.loop (bodyOf Tryz.prog 268 2)) (.exit 0) (T95 s 2 (l.length+0)) [dB (numsB s),oB 128,aB (l++List.replicate 0 0)] (T95 s 2 (l.length+z)) [dB (numsB s),oB 128,aB (l++List.replicate z 0)]:=by
  refine loop_goesK (N:=z) (T:=fun j=>T95 s 2 (l.length+j)) (M:=fun j=>[dB (numsB s),oB 128,aB (l++List.replicate j 0)]) (by simp) (fun j hj=> ?_) ?_
  ·have:=step95 s (l++List.replicate j 0) (l.length+j) (by simp) (hz j hj) (by omega)
   rw[List.append_assoc,←List.replicate_succ'] at this
   exact this
  ·have h2:Goes Tryz.prog (bodyOf Tryz.prog 268 2) (.exit 0) (T95 s 2 (l.length+z)) [dB (numsB s),oB 128,aB (l++List.replicate z 0)] (T95 s 2 (l.length+z)) [dB (numsB s),oB 128,aB (l++List.replicate z 0)]:=Runs.goes envE95 ⟨_,_,r95x s (l++List.replicate z 0) (l.length+z),⟨dec_eq h,trivial⟩,wf95_3 _ _ _⟩
   exact h2.toK (by simp only[List.length_cons,List.length_nil];omega)
 rw[List.replicate_zero,List.append_nil,Nat.add_zero] at hK
 refine GoesK.goes (K:=3) (hK.move (b:=2) (b':=3) (mv95 s 2 3 (l.length+z)) (by omega) (by omega) ?_ (wf95_4 _ _ _)) (by simp only[List.length_cons,List.length_nil])
 intro i k hk hl
 match i,hk with
 |0,hk=>simp only[List.getElem?_cons_zero,Option.some.injEq] at hk;subst hk;exact absurd hl (by simp[dB])
 |1,hk=>simp only[List.getElem?_cons_succ,List.getElem?_cons_zero,Option.some.injEq] at hk;subst hk;exact ⟨fun _=>rfl,.inl ⟨by omega,rfl⟩⟩
 |2,hk=>simp only[List.getElem?_cons_succ,List.getElem?_cons_zero,Option.some.injEq] at hk;subst hk;exact absurd hl (by simp[dB])
 |3,hk=>simp only[List.getElem?_cons_succ,List.getElem?_cons_zero,Option.some.injEq] at hk;subst hk;exact ⟨fun _=>rfl,.inr ⟨rfl,by omega,rfl⟩⟩
 |i+4,hk=>simp at hk
noncomputable def E95L (s:ByteArray) (n m:Nat) (l l':List Nat):Env:=addLp E95 1002 (bodyOf Tryz.prog 268 2) (sumG (T95 s 2 n) [dB (numsB s),oB 128,aB l] (T95 s 3 m) [dB (numsB s),oB 128,dB [],aB l'] (.exit 0))
def lenU64 (n:Nat):Nat:=((n:Int)%18446744073709551616).toNat
def fillT (n:Nat):List Nat:=bytesW (lenU64 n/2^61)++bytesW (lenU64 n*2^3%M64)
set_option maxRecDepth 100000 in
theorem r95 (s:ByteArray) (m:Nat) (l':List Nat):callR (E95L s (s.size+1) m (numsB s++[128]) l') 1000 268 [sS s] []=
  some ([s.size≤140737488355328,s.size=(numsB s).length∧0<1∧(s.size+1)*1≤140737488355328∧s.size+1≤140737488355328,bodyOf Tryz.prog 268 2=bodyOf Tryz.prog 268 2,
   (T95 s 2 (s.size+1),[dB (numsB s),oB 128,aB (numsB s++[128])])=(T95 s 2 (s.size+1),[dB (numsB s),oB 128,aB (numsB s++[128])]),wfS (T95 s 2 (s.size+1)) [dB (numsB s),oB 128,aB (numsB s++[128])]=true,
   m=l'.length∧0<16∧(m+16)*1≤140737488355328∧m+16≤140737488355328,0=0∧m+16=(l'++fillT s.size).length],.val (sS (strOf (l'++fillT s.size)))):=by kernel_rfl
theorem envE95L (s:ByteArray) (l:List Nat) (z:Nat) (hz:∀j,j<z→(l.length+j)%128≠112) (h:(l.length+z)%128=112) (hb:l.length+z≤140737488355328):EnvOK (E95L s l.length (l.length+z) l (l++List.replicate z 0)):=
 envAddLp envE95 (sumG_ok (by simp only[List.length_cons,List.length_nil];omega) (loop95 s l z hz h hb))
theorem numsB_len (s:ByteArray):(numsB s).length=s.size:=by simp[numsB]
theorem strOf_append (a b:List Nat):strOf (a++b)=strOf a++strOf b:=by
 apply ByteArray.ext
 rw[ByteArray.data_append]
 unfold strOf
 simp
theorem bytesW_zero:bytesW 0=List.replicate 8 0:=by decide
theorem fill_eq (s:ByteArray) (h:s.size≤100000000000000):strOf (((numsB s++[128])++List.replicate (padZ s.size).toNat 0)++fillT s.size)=fillQ s:=by
 have e1:lenU64 s.size=s.size:=by unfold lenU64;omega
 have e2:lenU64 s.size/2^61=0:=by rw[e1];exact Nat.div_eq_of_lt (by omega)
 have e3:lenU64 s.size*2^3%M64=lenW s.size:=by unfold lenW;show lenU64 s.size*2^3%M64=8*lenU64 s.size%M64;rw[show lenU64 s.size*2^3=8*lenU64 s.size by omega]
 unfold fillT fillQ
 rw[e2,e3,bytesW_zero]
 rw[strOf_append,strOf_append,strOf_append,strOf_append,strOf_numsB,←ByteArray.append_assoc]
 rfl
theorem spec95 (s:ByteArray) (h:s.size≤100000000000000):Spec 268 [sS s] (.val (sS (fillQ s))):=by
 rw[←fill_eq s h]
 have hl:(numsB s++[128]).length=s.size+1:=by rw[List.length_append,numsB_len];rfl
 have hp:=padZ_eq s.size
 have hE:=envE95L s (numsB s++[128]) (padZ s.size).toNat (by rw[hl];intro j hj;omega) (by rw[hl];omega) (by rw[hl];omega)
 rw[hl] at hE
 have hlen:((numsB s++[128])++List.replicate (padZ s.size).toNat 0).length=s.size+1+(padZ s.size).toNat:=by rw[List.length_append,hl,List.length_replicate]
 have h16:(fillT s.size).length=16:=rfl
 refine spec_run hE rfl (r95 s _ _) ⟨by omega,⟨(numsB_len s).symm,by decide,by omega,by omega⟩,rfl,rfl,wf95_3 _ _ _,⟨hlen.symm,by decide,by omega,by omega⟩,⟨rfl,?_⟩,trivial⟩ rfl rfl
 rw[List.length_append,hlen,h16]
noncomputable def fn95 (vs:List V1):Option (List Prop×AV):=
 match vs with
 |[.one (.v (.string s))]=>some ([s.size≤100000000000000],.val (sS (fillQ s)))
 |_=>none
theorem ct95:CTok ⟨268,fn95⟩:=by
 intro vs ob r h ho
 simp only[fn95] at h
 split at h
 ·simp only[Option.some.injEq,Prod.mk.injEq] at h
  obtain ⟨rfl,rfl⟩:=h
  exact spec95 _ ho.1
 ·simp at h
noncomputable def L54:List CT:=[⟨267,cV (.val (aV h0W))⟩,⟨268,fn95⟩,⟨269,fnBlk⟩]
theorem L54_ok:AllCT L54:=⟨ct94,ct95,ct96,trivial⟩
noncomputable def S54:FuncId→Nat→Bool:=fun f t=>match f with|236=>memN t [8,13,10,9000000]|_=>false
noncomputable def E54:Env:=mkE L54 S54
theorem envE54:EnvOK E54:=envMk L54_ok _
def T54 (F:ByteArray):List AV:=slots 18 [(0,.val (sS F)),(3,pV 0)]
theorem r54a (h:W8) (F:ByteArray):runTo E54 1000 (Env.S E54 236) (bodyOf Tryz.prog 236 3) (T54 F) [hB h] [true] (T54 (ByteArray.extract F 128 (ByteArray.size F))) 1=
  some ([(!ByteArray.toList F==ByteArray.toList (ByteArray.mk #[]))=true,(0:Int)≤(128:Int)∧(128:Int)≤(↑(ByteArray.size F):Int),128≤ByteArray.size (ByteArray.extract F 0 128)∧ByteArray.size (ByteArray.extract F 0 128)≤4611686018427387904,(0:Int)≤(128:Int)∧(128:Int)≤(↑(ByteArray.size F):Int)],.normal,T54 (F.extract 128 F.size),[hB (blk5 h (F.extract 0 128))]):=by kernel_rfl
theorem r54x (h:W8) (F:ByteArray):runTo E54 1000 (Env.S E54 236) (bodyOf Tryz.prog 236 3) (T54 F) [hB h] [false] (T54 F) 1=
  some ([(!ByteArray.toList F==ByteArray.toList (ByteArray.mk #[]))=false],(.exit 0),T54 F,[hB h]):=by kernel_rfl
def outP (h:W8):ByteArray:=strOf (bytesW h.a++bytesW h.b++bytesW h.c++bytesW h.d++bytesW h.e++bytesW h.f++bytesW h.g++bytesW h.h)
noncomputable def E54L (s G:ByteArray) (h:W8):Env:=addLp E54 1003 (bodyOf Tryz.prog 236 3) (sumC (T54 (fillQ s)) [hB h0W] (T54 G) [hB h] (.exit 0))
theorem r54 (s:ByteArray) (G:ByteArray) (h:W8):callR (E54L s G h) 1000 236 [sS s] []=
  some ([ByteArray.size s≤100000000000000,bodyOf Tryz.prog 236 3=bodyOf Tryz.prog 236 3,(T54 (fillQ s),[hB h0W])=(T54 (fillQ s),[hB h0W]),wfS (T54 (fillQ s)) [hB h0W]=true],.val (sS (outP h))):=by kernel_rfl
theorem wf54 (F:ByteArray) (h:W8):wfS (T54 F) [hB h]=true:=wfS_of (by
 intro b hb
 simp only[List.mem_cons,List.not_mem_nil,or_false] at hb
 subst hb
 exact hB_free _) (by show tmsWf 1 _=true;kernel_rfl)
theorem toList_inj {a b:ByteArray} (h:a.toList=b.toList):a=b:=by
 rw[ByteArray.toList_eq,ByteArray.toList_eq] at h
 exact ByteArray.ext (Array.ext' h)
theorem ne_empty {F:ByteArray} (h:0<F.size):(!(F.toList==(⟨#[]⟩:ByteArray).toList))=true:=by
 rw[Bool.not_eq_true',beq_eq_false_iff_ne]
 intro e
 rw[toList_inj e] at h
 exact absurd h (by decide)
theorem size_zero {F:ByteArray} (h:F.size=0):F=⟨#[]⟩:=by
 apply ByteArray.ext
 exact Array.eq_empty_of_size_eq_zero h
theorem is_empty {F:ByteArray} (h:F.size=0):(!(F.toList==(⟨#[]⟩:ByteArray).toList))=false:=by
 rw[size_zero h];simp
theorem cut_cut (F:ByteArray) (a b c:Nat) (h:a+c≤F.size):(F.extract a F.size).extract b c=F.extract (a+b) (a+c):=by
 apply ByteArray.ext
 rw[ByteArray.data_extract,ByteArray.data_extract,ByteArray.data_extract]
 rw[Array.extract_extract]
 congr 1
 have:F.data.size=F.size:=rfl
 omega
theorem cut_all (F:ByteArray):F.extract 0 F.size=F:=by
 apply ByteArray.ext
 rw[ByteArray.data_extract]
 have:F.data.size=F.size:=rfl
 rw[←this,Array.extract_size]
theorem step54 (F:ByteArray) (h:W8) (j:Nat) (h1:128*j+128≤F.size) (_:F.size≤1000000000000000):
  Goes Tryz.prog (bodyOf Tryz.prog 236 3) .normal (T54 (F.extract (128*j) F.size)) [hB h] (T54 (F.extract (128*(j+1)) F.size)) [hB (blk5 h (F.extract (128*j) (128*j+128)))]:=by
 have hr:=r54a h (F.extract (128*j) F.size)
 have hz:=cut_size F (128*j) F.size (Nat.le_refl _)
 have hz2:(F.extract (128*j) (128*j+128)).size=128:=by rw[cut_size F (128*j) (128*j+128) h1];omega
 rw[hz,cut_cut F _ _ _ (by omega),cut_cut F _ _ _ (by omega),show 128*j+(F.size-128*j)=F.size by omega,show 128*j+0=128*j by omega,show 128*j+128=128*(j+1) by omega] at hr
 rw[show 128*j+128=128*(j+1) by omega] at hz2 ⊢
 exact Runs.goes envE54 ⟨_,_,hr,⟨ne_empty (by rw[hz];omega),by omega,⟨by rw[hz2];omega,by rw[hz2];omega⟩,by omega,trivial⟩,wf54 _ _⟩
theorem loop54 (F:ByteArray) (n:Nat) (hn:F.size=128*n) (h2:F.size≤1000000000000000) (V:Nat→W8) (hV:∀j,V (j+1)=blk5 (V j) (F.extract (128*j) (128*j+128))):
  Goes Tryz.prog (.loop (bodyOf Tryz.prog 236 3)) (.exit 0) (T54 (F.extract (128*0) F.size)) [hB (V 0)] (T54 (F.extract (128*n) F.size)) [hB (V n)]:=by
 refine loop_goes (N:=n) (k:=1) (T:=fun j=>T54 (F.extract (128*j) F.size)) (M:=fun j=>[hB (V j)]) (by simp) (fun _ _=>by simp only[List.length_cons,List.length_nil]) (fun j hj=> ?_) ?_
 ·have:=step54 F (V j) j (by omega) h2
  rw[←hV j] at this
  exact this
 ·exact Runs.goes envE54 ⟨_,_,r54x (V n) _,⟨is_empty (by rw[cut_size F _ _ (Nat.le_refl _)];omega),trivial⟩,wf54 _ _⟩
theorem goes54 (s:ByteArray) (h2:s.size≤100000000000000):Goes Tryz.prog (.loop (bodyOf Tryz.prog 236 3)) (.exit 0) (T54 (fillQ s)) [hB h0W] (T54 ((fillQ s).extract (128*nBl s.size) (fillQ s).size)) [hB (hst (fillQ s) (nBl s.size))]:=by
 have h:=loop54 (fillQ s) (nBl s.size) (fillQ_size s) (by rw[fillQ_size];unfold nBl;omega) (hst (fillQ s)) (fun _=>rfl)
 rw[Nat.mul_zero,cut_all] at h
 exact h
theorem envE54L (s:ByteArray) (h2:s.size≤100000000000000):EnvOK (E54L s ((fillQ s).extract (128*nBl s.size) (fillQ s).size) (hst (fillQ s) (nBl s.size))):=
 envAddLp envE54 (sumC_ok (by simp only[List.length_cons,List.length_nil]) (goes54 s h2))
theorem e0_append (s:ByteArray):(⟨#[]⟩:ByteArray)++s=s:=by apply ByteArray.ext;rw[ByteArray.data_append];simp
theorem outP_eq (h:W8):outP h=outQ h:=by
 unfold outP outQ eightS
 rw[e0_append]
 simp only[strOf_append]
theorem spec54 (s:ByteArray) (h2:s.size≤100000000000000):Spec 236 [sS s] (.val (sS (sum5 s))):=by
 have h:=spec_run (envE54L s h2) rfl (r54 s _ _) ⟨h2,rfl,rfl,wf54 _ _,trivial⟩ rfl rfl
 rw[outP_eq] at h
 exact h
theorem ct54:CTok ⟨236,fnS5⟩:=by
 intro vs ob r h ho
 simp only[fnS5] at h
 split at h
 ·simp only[Option.some.injEq,Prod.mk.injEq] at h
  obtain ⟨rfl,rfl⟩:=h
  exact spec54 _ ho.1
 ·simp at h
def bB (l:List Nat):Blk:=⟨[.arr .u8 l],5,true,false,0⟩
def u8V (x:Nat):AV:= .val (.one (.u .u8 x))
def slV (n:Nat):AV:= .val (.one (.sl 0 0 n n))
noncomputable def S86:FuncId→Nat→Bool:=fun f t=>match f with|292=>memN t [2000010,2000013,2000022,4000025,2000028,21,25,17,26]|_=>false
noncomputable def E86:Env:={E0 with S:=S86}
theorem envE86:EnvOK E86:=⟨mixed,envE0.fns,envE0.fms,envE0.lps,envE0.fbs,envE0.fws⟩
def T86 (x:Nat) (i:Int):List AV:=slots 29 [(2,u8V x),(7,slV 128),(15,iV 128),(16,iV i)]
end Go.Ev.H5
