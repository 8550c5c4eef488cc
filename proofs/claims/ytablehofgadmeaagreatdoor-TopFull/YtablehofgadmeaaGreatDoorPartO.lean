/- Of the proof of TopFull: what the functions come to that the law reaches. -/
import Derived.Test.YtablehofgadmeaaGreatDoorPartN
import Derived.Test.YtablehofgadmeaaGreatDoorPartM
namespace Go.Ev.H5
open Go Go.Proofs Go.RowKit
set_option maxRecDepth 100000
def xr (a x:Nat):Nat:=a%256^^^x%256
theorem t86 (x i:Nat) (l:List Nat):runTo E86 1000 (E86.S 292) (bodyOf Tryz.prog 292 4) (T86 x (i:Int)) [bB l] [true] (T86 x ((i:Int)+1)) 1=
  some ([decide ((i:Int)<128)=true,(0:Int)≤(i:Int)∧(i:Int)<((128:Nat):Int),0+i*1<l.length,(0:Int)≤(i:Int)∧(i:Int)<((128:Nat):Int),0+i*1<l.length,inI ((i:Int)+1)],.normal,T86 x ((i:Int)+1),[bB (l.set (0+i*1) (xr (l.getD (0+i*1) 0) x))]):=by kernel_rfl
theorem x86 (x i:Nat) (l:List Nat):runTo E86 1000 (E86.S 292) (bodyOf Tryz.prog 292 4) (T86 x (i:Int)) [bB l] [false] (T86 x (i:Int)) 1=
  some ([decide ((i:Int)<128)=false],.exit 0,T86 x (i:Int),[bB l]):=by kernel_rfl
def kb (k:ByteArray) (j:Nat):Nat:=(k.data.getD j 0).toNat
noncomputable def E86L (x:Nat) (l0 l1:List Nat):Env:=addLp E86 4 (bodyOf Tryz.prog 292 4) (sumC (T86 x 0) [bB l0] (T86 x 128) [bB l1] (.exit 0))
def rep0:List Nat:=List.replicate 128 0
theorem r86 (x:Nat) (k:ByteArray) (l0 l1:List Nat):callR (E86L x l0 l1) 1000 292 [sS k,.one (.i 128),.one (.u .u8 x)] []=
  some ([(0:Int)≤128∧(128:Int)=128∧(128:Int)≤140737488355328,0=0∧128=rep0.length∧k.size≤128,bodyOf Tryz.prog 292 4=bodyOf Tryz.prog 292 4,(T86 x 0,[bB (numsB k++List.drop k.size rep0)])=(T86 x 0,[bB l0]),wfS (T86 x 0) [bB l0]=true,0=0∧128=l1.length],.val (sS (strOf l1))):=by kernel_rfl
def tab (f:Nat→Nat):List Nat:=(List.range 128).map f
theorem tab_len (f:Nat→Nat):(tab f).length=128:=by simp[tab]
theorem tab_get (f:Nat→Nat) {i:Nat} (h:i<128):(tab f).getD i 0=f i:=by
 unfold tab
 rw[List.getD_eq_getElem?_getD,List.getElem?_map,List.getElem?_range h];rfl
theorem tab_ext {f g:Nat→Nat} (h:∀i,i<128→f i=g i):tab f=tab g:=List.map_congr_left fun i hi=>h i (List.mem_range.1 hi)
theorem tab_set (f:Nat→Nat) (i v:Nat):(tab f).set i v=tab fun j=>if j=i then v else f j:=by
 apply List.ext_getElem?
 intro j
 unfold tab
 rw[List.getElem?_set]
 by_cases hj:j<128
 ·rw[List.getElem?_map,List.getElem?_map,List.getElem?_range hj]
  by_cases e:i=j
  ·subst e;simp[hj]
  ·simp[e,Ne.symm e]
 ·rw[List.getElem?_eq_none (by simp;omega),List.getElem?_eq_none (by simp;omega)]
  split
  ·split
   ·rename_i h1 h2;rw[List.length_map,List.length_range] at h2;omega
   ·rfl
  ·rfl
theorem tab_of {l:List Nat} {f:Nat→Nat} (hl:l.length=128) (h:∀i,i<128→l.getD i 0=f i):l=tab f:=by
 apply List.ext_getElem?
 intro j
 unfold tab
 by_cases hj:j<128
 ·rw[List.getElem?_map,List.getElem?_range hj,Option.map_some,←h j hj,List.getD_eq_getElem?_getD,List.getElem?_eq_getElem (by omega)];rfl
 ·rw[List.getElem?_eq_none (by omega),List.getElem?_eq_none (by simp;omega)]
def padS (k:ByteArray) (x:Nat):ByteArray:=strOf (tab fun j=>xr (kb k j) x)
theorem padS_size (k:ByteArray) (x:Nat):(padS k x).size=128:=by unfold padS;rw[strOf_size,tab_len]
theorem kb_out {k:ByteArray} {j:Nat} (h:k.size≤j):kb k j=0:=by
 unfold kb
 rw[Array.getD,dif_neg (by show ¬j<k.size;omega)];rfl
theorem numsB_get (k:ByteArray) (j:Nat):(numsB k).getD j 0=kb k j:=by
 unfold numsB kb
 rw[List.getD_eq_getElem?_getD,List.getElem?_map]
 by_cases h:j<k.data.size
 ·rw[Array.getElem?_toList,Array.getElem?_eq_getElem h];simp only[Array.getD,dif_pos h];rfl
 ·rw[Array.getElem?_toList,Array.getElem?_eq_none (by omega)];simp only[Array.getD,dif_neg h];rfl
theorem init86 {k:ByteArray} (h:k.size≤128):numsB k++List.drop k.size rep0=tab (kb k):=by
 have hn:(numsB k).length=k.size:=numsB_len k
 have hr:rep0.length=128:=List.length_replicate
 refine tab_of (by rw[List.length_append,hn,List.length_drop,hr];omega) fun i hi=> ?_
 rw[List.getD_eq_getElem?_getD]
 by_cases hj:i<k.size
 ·rw[List.getElem?_append_left (by omega),←List.getD_eq_getElem?_getD,numsB_get]
 ·rw[List.getElem?_append_right (by omega),hn,kb_out (by omega),List.getElem?_drop]
  unfold rep0
  rw[List.getElem?_replicate]
  split<;>rfl
theorem bB_free (l:List Nat):∀b∈[bB l],Free b:=by
 intro b hb
 simp only[List.mem_cons,List.not_mem_nil,or_false] at hb
 subst hb;exact fun _=>rfl
theorem wf86 (x:Nat) (i:Int) (l:List Nat):wfS (T86 x i) [bB l]=true:=wfS_of (bB_free l) (by show tmsWf 1 _=true;kernel_rfl)
theorem step86 (x i:Nat) (l:List Nat) (hl:l.length=128) (hi:i<128):Goes Tryz.prog (bodyOf Tryz.prog 292 4) .normal (T86 x (i:Int)) [bB l] (T86 x ((i:Int)+1)) [bB (l.set (0+i*1) (xr (l.getD (0+i*1) 0) x))]:=
 Runs.goes envE86 ⟨_,_,t86 x i l,⟨decide_eq_true (by omega),by omega,by omega,by omega,by omega,by unfold inI;omega,trivial⟩,wf86 _ _ _⟩
theorem out86 (x:Nat) (l:List Nat):Goes Tryz.prog (bodyOf Tryz.prog 292 4) (.exit 0) (T86 x ((128:Nat):Int)) [bB l] (T86 x ((128:Nat):Int)) [bB l]:=
 Runs.goes envE86 ⟨_,_,x86 x 128 l,⟨by decide,trivial⟩,wf86 _ _ _⟩
theorem loop86 (k:ByteArray) (x:Nat):Goes Tryz.prog (.loop (bodyOf Tryz.prog 292 4)) (.exit 0) (T86 x ((0:Nat):Int)) [bB (tab (kb k))] (T86 x ((128:Nat):Int)) [bB (tab fun j=>xr (kb k j) x)]:=by
 have e0:tab (kb k)=tab fun j=>if j<0 then xr (kb k j) x else kb k j:=tab_ext fun i _=>by simp
 have e1:(tab fun j=>xr (kb k j) x)=tab fun j=>if j<128 then xr (kb k j) x else kb k j:=tab_ext fun i hi=>by simp[hi]
 rw[e0,e1]
 refine loop_goes (N:=128) (k:=1) (T:=fun i=>T86 x (i:Int)) (M:=fun i=>[bB (tab fun j=>if j<i then xr (kb k j) x else kb k j)]) (by simp) (fun _ _=>rfl) (fun i hi=> ?_) ?_
 ·have h:=step86 x i (tab fun j=>if j<i then xr (kb k j) x else kb k j) (tab_len _) hi
  rw[show 0+i*1=i by omega,tab_get _ hi,tab_set,if_neg (Nat.lt_irrefl i)] at h
  have e:(tab fun j=>if j=i then xr (kb k i) x else if j<i then xr (kb k j) x else kb k j)=tab fun j=>if j<i+1 then xr (kb k j) x else kb k j:=tab_ext fun j _=>by
   by_cases h1:j=i
   ·subst h1;simp
   ·by_cases h2:j<i
    ·simp[h1,h2,show j<i+1 by omega]
    ·simp[h1,h2,show ¬j<i+1 by omega]
  rw[e] at h
  exact h
 ·exact out86 x _
theorem spec86 (k:ByteArray) (x:Nat) (h:k.size≤128):Spec 292 [sS k,.one (.i 128),.one (.u .u8 x)] (.val (sS (padS k x))):=by
 have hE:EnvOK (E86L x (tab (kb k)) (tab fun j=>xr (kb k j) x)):=envAddLp envE86 (sumC_ok rfl (loop86 k x))
 exact spec_run hE rfl (r86 x k _ _) ⟨by omega,⟨rfl,List.length_replicate.symm,h⟩,rfl,by rw[init86 h],wf86 _ _ _,⟨rfl,(tab_len _).symm⟩,trivial⟩ rfl rfl
def fnPad (vs:List V1):Option (List Prop×AV):=match vs with|[.one (.v (.string k)),.one (.i z),.one (.u .u8 x)]=>some ([z=128,k.size≤128],.val (sS (padS k x)))|_=>none
theorem ct86:CTok ⟨292,fnPad⟩:=by
 intro vs ob r h ho
 simp only[fnPad] at h
 split at h
 ·simp only[Option.some.injEq,Prod.mk.injEq] at h
  obtain ⟨rfl,rfl⟩:=h
  obtain ⟨rfl,h2,_⟩:=ho
  exact spec86 _ _ h2
 ·simp at h
noncomputable def hmac (k s:ByteArray):ByteArray:=sum5 (padS k 92++sum5 (padS k 54++s))
noncomputable def LHm:List CT:=[⟨292,fnPad⟩,⟨236,fnS5⟩]
theorem LHm_ok:AllCT LHm:=⟨ct86,ct54,trivial⟩
noncomputable def SHm:FuncId→Nat→Bool:=fun f t=>match f with|266=>memN t [12,25,27]|_=>false
end Go.Ev.H5
namespace Go.Ev
open Go Go.Proofs Go.RowKit
def fn84y (vs:List V1):Option (List Prop×AV):=match vs with|[.one (.v (.string s))]=>some ([s.size=32],.tup [N8 (leS s),.one (.i 0)])|_=>none
theorem ct84y:CTok ⟨138,fn84y⟩:=by
 intro vs ob r h ho
 simp only[fn84y] at h
 split at h
 ·simp only[Option.some.injEq,Prod.mk.injEq] at h
  obtain ⟨rfl,rfl⟩:=h
  exact spec84s _ ho.1
 ·simp at h
noncomputable def gP82:List Val→Option (List Prop×AV)
 |[.n x,.n y]=>some ([onE x y=true],.val (sS (packB x y)))
 |_=>none
theorem mod0_lt:modN 0<57896044618658097711785492504343953926634992332820282019728792003956564819968:=by decide+kernel
theorem ct82p:CTok ⟨238,fnS [.s [.n8,.n8]] gP82⟩:=ctS (by
 intro xs ob r hb h ho
 unfold gP82 at h
 split at h
 ·simp only[Option.some.injEq,Prod.mk.injEq] at h
  obtain ⟨rfl,rfl⟩:=h
  exact spec82s _ _ (Nat.lt_trans (onE_lt ho.1).2 mod0_lt)
 ·simp at h)
noncomputable def LPk:List CT:=L9a
theorem LPk_ok:AllCT LPk:=L9a_ok
end Go.Ev
namespace Go.Ev.Wn
open Go Go.Proofs Go.RowKit
def sS (s:ByteArray):V1:= .one (.v (.string s))
def ol (b:Nat→UInt8) (i:Nat):Nat:=ls (ls (ls (ls 0 (b (4*i)).toNat 0) (b (4*i+1)).toNat 8) (b (4*i+2)).toNat 16) (b (4*i+3)).toNat 24
def lbt (u:Nat→Nat) (j:Nat):Nat:=u (j/4)/2^(8*(j%4))%256
theorem run99a (b:Nat→UInt8):callR E0 1000 138 [sS (strB 32 b)] []=some ([],.tup [C8 (ol b),.one (.i 0)]):=by kernel_rfl
theorem run98a (u:Nat→Nat):callR E0 1000 119 [C8 u] []=some ([],.val (sS (strOf ((List.range 32).map (lbt u))))):=by kernel_rfl
theorem ol_eq (b:Nat→UInt8) (i:Nat):ol b i=(b (4*i)).toNat+256*(b (4*i+1)).toNat+65536*(b (4*i+2)).toNat+16777216*(b (4*i+3)).toNat∧ol b i<4294967296:=by
 have h0:=UInt8.toNat_lt (b (4*i))
 have h1:=UInt8.toNat_lt (b (4*i+1))
 have h2:=UInt8.toNat_lt (b (4*i+2))
 have h3:=UInt8.toNat_lt (b (4*i+3))
 unfold ol
 rw[(ls_eq (acc:=0) (k:=0) (by decide) h0 (by decide)).1,(ls_eq (k:=8) (by omega) h1 (by decide)).1,(ls_eq (k:=16) (by omega) h2 (by decide)).1,(ls_eq (k:=24) (by omega) h3 (by decide)).1]
 omega
theorem ol_val (s:ByteArray) (b:Nat→UInt8) (e:s=strB 32 b):valU 8 0 (ol b)=leS s:=by
 rw[e,leS,numsB_strB]
 have q:=fun i=>(ol_eq b i).1
 simp only[valU,q,Nat.zero_add,Nat.reduceAdd,Nat.reduceMul,show List.range 32=[0,1,2,3,4,5,6,7,8,9,10,11,12,13,14,15,16,17,18,19,20,21,22,23,24,25,26,27,28,29,30,31] from rfl,List.map_cons,List.map_nil,leN]
 omega
theorem spec99s (s:ByteArray) (h:s.size=32):Spec 138 [sS s] (.tup [N8 (leS s),.one (.i 0)]):=by
 have e:=strB_of h
 generalize hb:(fun i=>s.data.getD i 0)=b at e
 have h:=spec_run envE0 rfl (run99a b) trivial rfl rfl
 refine h.congr (fun φ=>by rw[e]) (fun φ=> ?_)
 simp only[AV.conc,List.map_cons,List.map_nil]
 rw[conc_C8v φ (fun i _=>(ol_eq b i).2) (ol_val s b e)]
theorem limb_eqD (a:Nat):∀i,limb a i=a/4294967296^i%4294967296:=fun _=>rfl
theorem lb4 (x r:Nat) (h:r<4):x%4294967296/2^(8*r)%256=x/2^(8*r)%256:=by
 match r,h with
 |0,_=>simp only[Nat.reduceMul,Nat.reducePow];omega
 |1,_=>simp only[Nat.reduceMul,Nat.reducePow];omega
 |2,_=>simp only[Nat.reduceMul,Nat.reducePow];omega
 |3,_=>simp only[Nat.reduceMul,Nat.reducePow];omega
theorem pow4 (j:Nat):256^j=4294967296^(j/4)*2^(8*(j%4)):=by
 have h1:(4294967296:Nat)^(j/4)=256^(4*(j/4)):=by rw[Nat.pow_mul]
 have h2:(2:Nat)^(8*(j%4))=256^(j%4):=by rw[Nat.pow_mul]
 rw[h1,h2,←Nat.pow_add,Nat.div_add_mod]
theorem lbt_eq (a j:Nat):lbt (limb a) j=a/256^j%256:=by
 unfold lbt
 rw[limb_eqD,lb4 _ _ (Nat.mod_lt _ (by decide)),pow4,←Nat.div_div_eq_div_mul]
theorem lbt_leB (a:Nat):(List.range 32).map (lbt (limb a))=leB 32 a:=by
 unfold leB
 exact List.map_congr_left fun j _=>lbt_eq a j
theorem spec98s (a:Nat):Spec 119 [N8 a] (.val (sS (strOf (leB 32 a)))):=by
 have h:=spec_run envE0 rfl (run98a (limb a)) trivial rfl rfl
 rw[lbt_leB] at h
 exact h.congr (fun φ=>by simp only[List.map_cons,List.map_nil,conc_C8]) (fun φ=>rfl)
end Go.Ev.Wn
namespace Go.Ev
open Go Go.Proofs Go.RowKit
end Go.Ev
namespace Go.Ev.Wn
open Go Go.Proofs Go.RowKit
def revS (s:ByteArray):ByteArray:=strOf (numsB s).reverse
def bgS (x:Nat):ByteArray:=revS (strOf (leB 32 x))
def beS (s:ByteArray):Nat:=leS (revS s)
theorem revS_size (s:ByteArray):(revS s).size=s.size:=by unfold revS;rw[strOf_size,List.length_reverse,numsB_length]
theorem run97a (b:Nat→UInt8):callR E0 1000 262 [sS (strB 32 b)] []=some ([],.val (sS (strOf ((List.range 32).map fun j=>(b (31-j)).toNat)))):=by kernel_rfl
theorem rev32 (f:Nat→Nat):((List.range 32).map f).reverse=(List.range 32).map fun j=>f (31-j):=rfl
theorem spec97s (s:ByteArray) (h:s.size=32):Spec 262 [sS s] (.val (sS (revS s))):=by
 have e:=strB_of h
 generalize hb:(fun i=>s.data.getD i 0)=b at e
 have h:=spec_run envE0 rfl (run97a b) trivial rfl rfl
 have h2:strOf ((List.range 32).map fun j=>(b (31-j)).toNat)=revS s:=by
  unfold revS
  rw[e,numsB_strB,rev32]
 rw[h2] at h
 exact h.congr (fun φ=>by rw[e]) (fun φ=>rfl)
def fRev (vs:List V1):Option (List Prop×AV):=match vs with|[.one (.v (.string s))]=>some ([s.size=32],.val (sS (revS s)))|_=>none
theorem ct97s:CTok ⟨262,fRev⟩:=by
 intro vs ob r h ho
 simp only[fRev] at h
 split at h
 ·simp only[Option.some.injEq,Prod.mk.injEq] at h
  obtain ⟨rfl,rfl⟩:=h
  exact spec97s _ ho.1
 ·simp at h
def fOl (vs:List V1):Option (List Prop×AV):=match vs with|[.one (.v (.string s))]=>some ([s.size=32],.tup [N8 (leS s),.one (.i 0)])|_=>none
theorem ct99s:CTok ⟨138,fOl⟩:=by
 intro vs ob r h ho
 simp only[fOl] at h
 split at h
 ·simp only[Option.some.injEq,Prod.mk.injEq] at h
  obtain ⟨rfl,rfl⟩:=h
  exact spec99s _ ho.1
 ·simp at h
def fLit:List V1→Option (List Prop×AV):=fn1 fun a=> .val (sS (strOf (leB 32 a)))
theorem ctLit98:CTok ⟨119,fLit⟩:=fun _ _ _ h ho=>fn1_ok (fun a _=>spec98s a) h ho
noncomputable def LBg:List CT:=[⟨119,fLit⟩,⟨262,fRev⟩,⟨138,fOl⟩]
theorem LBg_ok:AllCT LBg:=⟨ctLit98,ct97s,ct99s,trivial⟩
theorem run59a (x:Nat):callR (mkE LBg noS) 1000 221 [N8 x] []=some ([x<4294967296^8,(strOf (leB 32 x)).size=32],.val (sS (bgS x))):=by kernel_rfl
theorem run61a (s:ByteArray):callR (mkE LBg noS) 1000 246 [sS s] []=some ([s.size=32,(revS s).size=32],.tup [N8 (beS s),.one (.i 0)]):=by kernel_rfl
theorem leB_size (n x:Nat):(strOf (leB n x)).size=n:=by rw[strOf_size,leB_length]
theorem spec59s (x:Nat) (h:x<4294967296^8):Spec 221 [N8 x] (.val (sS (bgS x))):=spec_run (envMk LBg_ok noS) rfl (run59a x) ⟨h,leB_size 32 x,trivial⟩ rfl rfl
theorem spec61s (s:ByteArray) (h:s.size=32):Spec 246 [sS s] (.tup [N8 (beS s),.one (.i 0)]):=spec_run (envMk LBg_ok noS) rfl (run61a s) ⟨h,by rw[revS_size,h],trivial⟩ rfl rfl
def fBg:List V1→Option (List Prop×AV):=fn1 fun a=> .val (sS (bgS a))
theorem ct59b:CTok ⟨221,fBg⟩:=fun _ _ _ h ho=>fn1_ok (fun a h=>spec59s a h) h ho
def fBe61 (vs:List V1):Option (List Prop×AV):=match vs with|[.one (.v (.string s))]=>some ([s.size=32],.tup [N8 (beS s),.one (.i 0)])|_=>none
theorem ct61b:CTok ⟨246,fBe61⟩:=by
 intro vs ob r h ho
 simp only[fBe61] at h
 split at h
 ·simp only[Option.some.injEq,Prod.mk.injEq] at h
  obtain ⟨rfl,rfl⟩:=h
  exact spec61s _ ho.1
 ·simp at h
end Go.Ev.Wn
namespace Go.Ev.H5
open Go.Ev.Wn Go Go.Proofs Go.RowKit
set_option maxRecDepth 100000
theorem r39 (k s:ByteArray):callR (mkE LHm SHm) 1000 232 [sS k,sS s] [false]=
  some ([decide ((128:Int)<(k.size:Int))=false,(128:Int)=128,k.size≤128,(128:Int)=128,k.size≤128,(padS k 54).size+s.size≤9223372036854775807,(padS k 54++s).size≤100000000000000,(padS k 92).size+(sum5 (padS k 54++s)).size≤9223372036854775807,(padS k 92++sum5 (padS k 54++s)).size≤100000000000000],.val (sS (hmac k s))):=by kernel_rfl
theorem hmac_size (k s:ByteArray):(hmac k s).size=64:=sum5_size _
theorem hm_ob {k s:ByteArray} (hk:k.size≤128) (hs:s.size≤10000000000000):All [decide ((128:Int)<(k.size:Int))=false,(128:Int)=128,k.size≤128,(128:Int)=128,k.size≤128,(padS k 54).size+s.size≤9223372036854775807,(padS k 54++s).size≤100000000000000,(padS k 92).size+(sum5 (padS k 54++s)).size≤9223372036854775807,(padS k 92++sum5 (padS k 54++s)).size≤100000000000000]:=by
 have e1:=padS_size k 54
 have e2:=padS_size k 92
 have e3:=sum5_size (padS k 54++s)
 have e4:(padS k 54++s).size=128+s.size:=by rw[ByteArray.size_append,e1]
 have e5:(padS k 92++sum5 (padS k 54++s)).size=192:=by rw[ByteArray.size_append,e2,e3]
 exact ⟨decide_eq_false (by omega),rfl,hk,rfl,hk,by omega,by omega,by omega,by omega,trivial⟩
noncomputable def fnHm (vs:List V1):Option (List Prop×AV):=match vs with|[.one (.v (.string k)),.one (.v (.string s))]=>some ([k.size≤128,s.size≤10000000000000],.val (sS (hmac k s)))|_=>none
theorem ct39:CTok ⟨232,fnHm⟩:=by
 intro vs ob r h ho
 simp only[fnHm] at h
 split at h
 ·simp only[Option.some.injEq,Prod.mk.injEq] at h
  obtain ⟨rfl,rfl⟩:=h
  obtain ⟨h1,h2,_⟩:=ho
  exact spec_run (envMk LHm_ok SHm) rfl (r39 _ _) (hm_ob h1 h2) rfl rfl
 ·simp at h
noncomputable def LKy:List CT:=⟨232,fnHm⟩::⟨221,fBg⟩::⟨246,fBe61⟩::⟨257,fnS [.z,.s [.n8]] gFis⟩::⟨14,fnZs⟩::L0
theorem LKy_ok:AllCT LKy:=⟨ct39,ct59b,ct61b,ct85,ct21z,L0_ok⟩
noncomputable def SKy:FuncId→Nat→Bool:=fun f t=>match f with
 |220=>memN t [5]|243=>memN t [12,17]|_=>false
def gd (a:Nat):Bool:= !isZ a&&decide (a<modN 3)
theorem r72z (a:Nat):callR (mkE LKy SKy) 1000 220 [N8 a] [false]=some ([(!isZ a)=false],bV false):=by kernel_rfl
theorem r72n (a:Nat):callR (mkE LKy SKy) 1000 220 [N8 a] [true]=some ([(!isZ a)=true,a<4294967296^8],bV (decide (a<modN 3))):=by kernel_rfl
theorem spec72 (a:Nat) (h:a<4294967296^8):Spec 220 [N8 a] (bV (gd a)):=by
 unfold gd
 cases hz:isZ a with
 |true=>exact spec_run (envMk LKy_ok SKy) rfl (r72z a) ⟨by rw[hz];rfl,trivial⟩ rfl rfl
 |false=>exact spec_run (envMk LKy_ok SKy) rfl (r72n a) ⟨by rw[hz];rfl,h,trivial⟩ rfl rfl
noncomputable def gGd:List V1→Option (List Prop×AV):=fn1 fun a=>bV (gd a)
noncomputable def LKz:List CT:=⟨220,gGd⟩::LKy
theorem LKz_ok:AllCT LKz:=⟨fun _ _ _ h ho=>fn1_ok spec72 h ho,LKy_ok⟩
noncomputable def SKz:FuncId→Nat→Bool:=fun f t=>match f with|200=>memN t [14,20,29]|148=>memN t [4,7]|231=>memN t [4,6]|243=>memN t [12,17]|234=>memN t [31]|_=>false
def node (k c:ByteArray):V1:= .agg [.a (.v (.string k)),.a (.v (.string c))]
theorem r43 (s:ByteArray):callR (mkE LKz SKz) 1000 212 [sS s] []=some ([s.size=32,beS s<4294967296^8],.tup [N8 (beS s),.one (.v (.bool (gd (beS s))))]):=by kernel_rfl
theorem beS_lt {s:ByteArray} (h:s.size=32):beS s<4294967296^8:=by
 have:=leS_lt (revS s)
 rw[revS_size,h] at this
 exact Nat.lt_of_lt_of_le this (by decide)
theorem dec32 {n:Nat} (h:n=32):(!decide ((n:Int)=32))=false:=by subst h;rfl
theorem dec32n {n:Nat} (h:n≠32):(!decide ((n:Int)=32))=true:=by
 have:¬((n:Int)=32):=by omega
 rw[decide_eq_false this];rfl
def fnKy (vs:List V1):Option (List Prop×AV):=match vs with|[.one (.v (.string s))]=>some ([s.size=32],.tup [N8 (beS s),.one (.v (.bool (gd (beS s))))])|_=>none
theorem ct43:CTok ⟨212,fnKy⟩:=by
 intro vs ob r h ho
 simp only[fnKy] at h
 split at h
 ·simp only[Option.some.injEq,Prod.mk.injEq] at h
  obtain ⟨rfl,rfl⟩:=h
  obtain ⟨h1,_⟩:=ho
  exact spec_run (envMk LKz_ok SKz) rfl (r43 _) ⟨h1,beS_lt h1,trivial⟩ rfl rfl
 ·simp at h
theorem r38 (s:ByteArray):callR (mkE LKz SKz) 1000 231 [sS s] []=some ([(0:Int)≤32∧(32:Int)≤(s.size:Int),(0:Int)≤32∧(32:Int)≤(s.size:Int)],.val (node (s.extract 0 32) (s.extract 32 s.size))):=by kernel_rfl
def fnNode (vs:List V1):Option (List Prop×AV):=match vs with|[.one (.v (.string s))]=>some ([s.size=64],.val (node (s.extract 0 32) (s.extract 32 64)))|_=>none
theorem ct38:CTok ⟨231,fnNode⟩:=by
 intro vs ob r h ho
 simp only[fnNode] at h
 split at h
 ·rename_i s
  simp only[Option.some.injEq,Prod.mk.injEq] at h
  obtain ⟨rfl,rfl⟩:=h
  obtain ⟨h1,_⟩:=ho
  have:=spec_run (envMk LKz_ok SKz) rfl (r38 s) ⟨by omega,by omega,trivial⟩ rfl rfl
  rw[h1] at this
  exact this
 ·simp at h
def ixS (a:Nat):ByteArray:=strOf [a/16777216%256,a/65536%256,a/256%256,a%256]
theorem ixS_size (a:Nat):(ixS a).size=4:=by unfold ixS;rw[strOf_size];rfl
theorem r46 (a:Nat):callR (mkE LKz SKz) 1000 235 [u32 a] []=some ([],.val (sS (ixS a))):=by kernel_rfl
def fnIx (vs:List V1):Option (List Prop×AV):=match vs with|[.one (.u .u32 a)]=>some ([],.val (sS (ixS a)))|_=>none
theorem ct46:CTok ⟨235,fnIx⟩:=by
 intro vs ob r h ho
 simp only[fnIx] at h
 split at h
 ·simp only[Option.some.injEq,Prod.mk.injEq] at h
  obtain ⟨rfl,rfl⟩:=h
  exact spec_run (envMk LKz_ok SKz) rfl (r46 _) trivial rfl rfl
 ·simp at h
theorem r45y (s t:ByteArray):callR (mkE LKz SKz) 1000 234 [sS s,sS t] [true,true,true]=
  some ([s.size=32,t.size=32,ok1 3 (beS s)=true,beS s<4294967296^8,ok1 3 (beS t)=true,beS t<4294967296^8,(0:Int)≤3∧(3:Int)<4,modN 3<4294967296^8,beS s<modN 3,beS t<modN 3,beS s<4294967296^8,beS t<4294967296^8,addM (modN 3) (beS s) (beS t)<4294967296^8,decide ((0:Int)=0)=true,addM (modN 3) (beS s) (beS t)<4294967296^8],.tup [sS (bgS (addM (modN 3) (beS s) (beS t))),.one (.v (.bool (gd (addM (modN 3) (beS s) (beS t)))))]):=by kernel_rfl
theorem r45n (s t:ByteArray):callR (mkE LKz SKz) 1000 234 [sS s,sS t] [true,false,false]=
  some ([s.size=32,t.size=32,ok1 3 (beS s)=true,beS s<4294967296^8,ok1 3 (beS t)=false,beS t<4294967296^8,0<4294967296,0<4294967296,0<4294967296,0<4294967296,0<4294967296,0<4294967296,0<4294967296,0<4294967296,decide ((1:Int)=0)=false],.tup [sS (bgS (valU 8 0 (fun _=>0))),.one (.v (.bool false))]):=by kernel_rfl
theorem ok13 {x:Nat}:ok1 3 x=decide (x<modN 3):=by unfold ok1 lessB;rfl
def smV (a b:Nat):Nat:=bif decide (b<modN 3) then addM (modN 3) a b else 0
def smB (a b:Nat):Bool:=decide (b<modN 3)&&gd (addM (modN 3) a b)
theorem spec45 (s t:ByteArray) (hs:s.size=32) (ht:t.size=32) (ha:beS s<modN 3):Spec 234 [sS s,sS t] (.tup [sS (bgS (smV (beS s) (beS t))),.one (.v (.bool (smB (beS s) (beS t))))]):=by
 have h8:addM (modN 3) (beS s) (beS t)<4294967296^8:=Nat.lt_trans (Nat.mod_lt _ (Nat.lt_of_le_of_lt (Nat.zero_le _) ha)) (modN_lt 3)
 unfold smV smB
 by_cases hb:beS t<modN 3
 ·rw[decide_eq_true hb,cond_true,Bool.true_and]
  exact spec_run (envMk LKz_ok SKz) rfl (r45y s t) ⟨hs,ht,by rw[ok13];exact decide_eq_true ha,beS_lt hs,by rw[ok13];exact decide_eq_true hb,beS_lt ht,by omega,modN_lt 3,ha,hb,beS_lt hs,beS_lt ht,h8,by decide,h8,trivial⟩ rfl rfl
 ·rw[decide_eq_false hb,cond_false,Bool.false_and]
  exact spec_run (envMk LKz_ok SKz) rfl (r45n s t) ⟨hs,ht,by rw[ok13];exact decide_eq_true ha,beS_lt hs,by rw[ok13];exact decide_eq_false hb,beS_lt ht,by decide,by decide,by decide,by decide,by decide,by decide,by decide,by decide,by decide,trivial⟩ rfl rfl
def fnSm (vs:List V1):Option (List Prop×AV):=match vs with|[.one (.v (.string s)),.one (.v (.string t))]=>some ([s.size=32,t.size=32,beS s<modN 3],.tup [sS (bgS (smV (beS s) (beS t))),.one (.v (.bool (smB (beS s) (beS t))))])|_=>none
theorem ct45:CTok ⟨234,fnSm⟩:=by
 intro vs ob r h ho
 simp only[fnSm] at h
 split at h
 ·simp only[Option.some.injEq,Prod.mk.injEq] at h
  obtain ⟨rfl,rfl⟩:=h
  obtain ⟨h1,h2,h3,_⟩:=ho
  exact spec45 _ _ h1 h2 h3
 ·simp at h
noncomputable def LNd:List CT:=⟨212,fnKy⟩::⟨231,fnNode⟩::⟨235,fnIx⟩::⟨234,fnSm⟩::LKz
theorem LNd_ok:AllCT LNd:=⟨ct43,ct38,ct46,ct45,LKz_ok⟩
def mayB (z:Int) (k c:ByteArray):Bool:=(decide (z=1)||decide (z=2))&&(decide (k.size=32)&&(decide (c.size=32)&&(decide (z=1)||gd (beS k))))
theorem r26a (z:Int) (k c:ByteArray):callR (mkE LNd SKz) 1000 200 [.one (.i z),node k c] [false,false]=some ([decide (z=1)=false,decide (z=2)=false],.val (.one (.v (.bool (false))))):=by kernel_rfl
theorem r26b (z:Int) (k c:ByteArray):callR (mkE LNd SKz) 1000 200 [.one (.i z),node k c] [true,true]=some ([decide (z=1)=true,(!decide ((k.size:Int)=32))=true],.val (.one (.v (.bool (false))))):=by kernel_rfl
theorem r26c (z:Int) (k c:ByteArray):callR (mkE LNd SKz) 1000 200 [.one (.i z),node k c] [true,false,true]=some ([decide (z=1)=true,(!decide ((k.size:Int)=32))=false,(!decide ((c.size:Int)=32))=true],.val (.one (.v (.bool (false))))):=by kernel_rfl
theorem r26d (z:Int) (k c:ByteArray):callR (mkE LNd SKz) 1000 200 [.one (.i z),node k c] [true,false,false,true]=some ([decide (z=1)=true,(!decide ((k.size:Int)=32))=false,(!decide ((c.size:Int)=32))=false,k.size=32,decide (z=1)=true],.val (.one (.v (.bool (true))))):=by kernel_rfl
theorem r26b2 (z:Int) (k c:ByteArray):callR (mkE LNd SKz) 1000 200 [.one (.i z),node k c] [false,true,true]=some ([decide (z=1)=false,decide (z=2)=true,(!decide ((k.size:Int)=32))=true],.val (.one (.v (.bool (false))))):=by kernel_rfl
theorem r26c2 (z:Int) (k c:ByteArray):callR (mkE LNd SKz) 1000 200 [.one (.i z),node k c] [false,true,false,true]=some ([decide (z=1)=false,decide (z=2)=true,(!decide ((k.size:Int)=32))=false,(!decide ((c.size:Int)=32))=true],.val (.one (.v (.bool (false))))):=by kernel_rfl
theorem r26e (z:Int) (k c:ByteArray):callR (mkE LNd SKz) 1000 200 [.one (.i z),node k c] [false,true,false,false,false]=some ([decide (z=1)=false,decide (z=2)=true,(!decide ((k.size:Int)=32))=false,(!decide ((c.size:Int)=32))=false,k.size=32,decide (z=1)=false],.val (.one (.v (.bool (gd (beS k)))))):=by kernel_rfl
theorem spec26 (z:Int) (k c:ByteArray):Spec 200 [.one (.i z),node k c] (bV (mayB z k c)):=by
 unfold mayB
 have run:=fun {ob:List Prop} {ch:List Bool} {r:AV} (h:callR (mkE LNd SKz) 1000 200 [.one (.i z),node k c] ch=some (ob,r)) (ho:All ob) (hr:r.wf 0=true)=>spec_run (envMk LNd_ok SKz) rfl h ho hr rfl
 by_cases h1:z=1
 ·rw[decide_eq_true h1]
  by_cases hk:k.size=32
  ·rw[decide_eq_true hk]
   by_cases hc:c.size=32
   ·rw[decide_eq_true hc]
    exact run (r26d z k c) ⟨decide_eq_true h1,dec32 hk,dec32 hc,hk,decide_eq_true h1,trivial⟩ rfl
   ·rw[decide_eq_false hc]
    exact run (r26c z k c) ⟨decide_eq_true h1,dec32 hk,dec32n hc,trivial⟩ rfl
  ·rw[decide_eq_false hk]
   exact run (r26b z k c) ⟨decide_eq_true h1,dec32n hk,trivial⟩ rfl
 ·rw[decide_eq_false h1,Bool.false_or,Bool.false_or]
  by_cases h2:z=2
  ·rw[decide_eq_true h2]
   by_cases hk:k.size=32
   ·rw[decide_eq_true hk]
    by_cases hc:c.size=32
    ·rw[decide_eq_true hc]
     exact run (r26e z k c) ⟨decide_eq_false h1,decide_eq_true h2,dec32 hk,dec32 hc,hk,decide_eq_false h1,trivial⟩ rfl
    ·rw[decide_eq_false hc]
     exact run (r26c2 z k c) ⟨decide_eq_false h1,decide_eq_true h2,dec32 hk,dec32n hc,trivial⟩ rfl
   ·rw[decide_eq_false hk]
    exact run (r26b2 z k c) ⟨decide_eq_false h1,decide_eq_true h2,dec32n hk,trivial⟩ rfl
  ·rw[decide_eq_false h2]
   exact run (r26a z k c) ⟨decide_eq_false h1,decide_eq_false h2,trivial⟩ rfl
def fnMay (vs:List V1):Option (List Prop×AV):=match vs with|[.one (.i z),.agg [.a (.v (.string k)),.a (.v (.string c))]]=>some ([],bV (mayB z k c))|_=>none
theorem ct26:CTok ⟨200,fnMay⟩:=by
 intro vs ob r h ho
 simp only[fnMay] at h
 split at h
 ·simp only[Option.some.injEq,Prod.mk.injEq] at h
  obtain ⟨rfl,rfl⟩:=h
  exact spec26 _ _ _
 ·simp at h
noncomputable def LMy:List CT:=⟨200,fnMay⟩::LNd
theorem LMy_ok:AllCT LMy:=⟨ct26,LNd_ok⟩
def nB (k c:ByteArray):Blk:=⟨[.a (.v (.string k)),.a (.v (.string c))],226,true,false,0⟩
def e0:ByteArray:=⟨#[]⟩
def wE:ByteArray:=⟨#[101,100,50,53,53,49,57,32,115,101,101,100]⟩
def wP:ByteArray:=⟨#[78,105,115,116,50,53,54,112,49,32,115,101,101,100]⟩
noncomputable def SMs:FuncId→Nat→Bool:=fun f t=>match f with
 |203=>memN t [4,7,13,18,22,27,34,36]|148=>memN t [4,7]
 |204=>memN t [13,16,23,40,47,50,51]|233=>memN t [8,11,14,24]|_=>false
def T22 (s:ByteArray) (j:Int):List AV:=slots 38 [(0,iV 2),(1,.val (sS s)),(4,pV 0),(26,iV j)]
def T22x:List AV:=slots 38 [(4,pV 0)]
def T22r:List AV:=slots 38 [(4,pV 0),(5,iV 0)]
def u32V (i:Nat):AV:= .val (u32 i)
def T27 (s:ByteArray) (i:Nat) (j:Int):List AV:=slots 53 [(0,iV 2),(2,u32V i),(4,pV 0),(6,pV 1),(8,.val (sS s)),(22,iV j)]
def T27x:List AV:=slots 53 [(6,pV 1)]
def T27r:List AV:=slots 53 [(6,pV 1),(7,iV 0)]
noncomputable def hL (c s:ByteArray):ByteArray:=(hmac c s).extract 0 32
noncomputable def hR (c s:ByteArray):ByteArray:=(hmac c s).extract 32 64
theorem hL_size (c s:ByteArray):(hL c s).size=32:=by unfold hL;rw[cut_size _ _ _ (by rw[hmac_size];omega)]
theorem hR_size (c s:ByteArray):(hR c s).size=32:=by unfold hR;rw[cut_size _ _ _ (by rw[hmac_size];omega)]
theorem t22y (s:ByteArray) (j:Nat):runTo (mkE LMy SMs) 1000 ((mkE LMy SMs).S 203) (bodyOf Tryz.prog 203 6) (T22 s (j:Int)) [nB e0 e0] [true,true] T22r 1=
  some ([decide ((j:Int)<8)=true,wP.size≤128,s.size≤10000000000000,(hmac wP s).size=64,mayB 2 (hL wP s) (hR wP s)=true],.ret,T22r,[nB (hL wP s) (hR wP s)]):=by kernel_rfl
theorem t22n (s:ByteArray) (j:Nat):runTo (mkE LMy SMs) 1000 ((mkE LMy SMs).S 203) (bodyOf Tryz.prog 203 6) (T22 s (j:Int)) [nB e0 e0] [true,false] (T22 (hmac wP s) ((j:Int)+1)) 1=
  some ([decide ((j:Int)<8)=true,wP.size≤128,s.size≤10000000000000,(hmac wP s).size=64,mayB 2 (hL wP s) (hR wP s)=false,inI ((j:Int)+1)],.normal,T22 (hmac wP s) ((j:Int)+1),[nB e0 e0]):=by kernel_rfl
theorem t22x (s:ByteArray) (j:Nat):runTo (mkE LMy SMs) 1000 ((mkE LMy SMs).S 203) (bodyOf Tryz.prog 203 6) (T22 s (j:Int)) [nB e0 e0] [false] T22x 1=
  some ([decide ((j:Int)<8)=false],.exit 0,T22x,[nB e0 e0]):=by kernel_rfl
def one1:ByteArray:=⟨#[1]⟩
def zer1:ByteArray:=⟨#[0]⟩
theorem t27y (k c s:ByteArray) (i j:Nat):runTo (mkE LMy SMs) 1000 ((mkE LMy SMs).S 204) (bodyOf Tryz.prog 204 5) (T27 s i (j:Int)) [nB k c,nB e0 e0] [true,true] T27r 2=
  some ([decide ((j:Int)<8)=true,c.size≤128,s.size≤10000000000000,(hmac c s).size=64,k.size=32,(hL c s).size=32,beS k<modN 3,smB (beS k) (beS (hL c s))=true],.ret,T27r,[nB k c,nB (bgS (smV (beS k) (beS (hL c s)))) (hR c s)]):=by kernel_rfl
theorem t27n (k c s:ByteArray) (i j:Nat):runTo (mkE LMy SMs) 1000 ((mkE LMy SMs).S 204) (bodyOf Tryz.prog 204 5) (T27 s i (j:Int)) [nB k c,nB e0 e0] [true,false] (T27 (one1++hR c s++ixS i) i ((j:Int)+1)) 2=
  some ([decide ((j:Int)<8)=true,c.size≤128,s.size≤10000000000000,(hmac c s).size=64,k.size=32,(hL c s).size=32,beS k<modN 3,smB (beS k) (beS (hL c s))=false,1+(hR c s).size≤9223372036854775807,(one1++hR c s).size+(ixS i).size≤9223372036854775807,inI ((j:Int)+1)],.normal,T27 (one1++hR c s++ixS i) i ((j:Int)+1),[nB k c,nB e0 e0]):=by kernel_rfl
theorem t27x (k c s:ByteArray) (i j:Nat):runTo (mkE LMy SMs) 1000 ((mkE LMy SMs).S 204) (bodyOf Tryz.prog 204 5) (T27 s i (j:Int)) [nB k c,nB e0 e0] [false] T27x 2=
  some ([decide ((j:Int)<8)=false],.exit 0,T27x,[nB k c,nB e0 e0]):=by kernel_rfl
noncomputable def mst (w:ByteArray):Nat→ByteArray→Option ByteArray
 |0,_=>none
 |t+1,s=>bif gd (beS (hL w s)) then some (hmac w s) else mst w t (hmac w s)
noncomputable def chl (a:Nat) (c x:ByteArray):Nat→ByteArray→Option (ByteArray×ByteArray)
 |0,_=>none
 |t+1,s=>bif smB a (beS (hL c s)) then some (bgS (smV a (beS (hL c s))),hR c s) else chl a c x t (one1++hR c s++x)
theorem mst_zero (w s:ByteArray):mst w 0 s=none:=rfl
theorem mst_succ (w:ByteArray) (t:Nat) (s:ByteArray):mst w (t+1) s=bif gd (beS (hL w s)) then some (hmac w s) else mst w t (hmac w s):=rfl
theorem chl_zero (a:Nat) (c x s:ByteArray):chl a c x 0 s=none:=rfl
theorem chl_succ (a:Nat) (c x:ByteArray) (t:Nat) (s:ByteArray):chl a c x (t+1) s=bif smB a (beS (hL c s)) then some (bgS (smV a (beS (hL c s))),hR c s) else chl a c x t (one1++hR c s++x):=rfl
theorem mayB2 {k c:ByteArray} (hk:k.size=32) (hc:c.size=32):mayB 2 k c=gd (beS k):=by
 unfold mayB
 rw[decide_eq_true hk,decide_eq_true hc]
 rfl
theorem mayB1 {k c:ByteArray} (hk:k.size=32) (hc:c.size=32):mayB 1 k c=true:=by
 unfold mayB
 rw[decide_eq_true hk,decide_eq_true hc]
 rfl
theorem nB_free (k c:ByteArray):Free (nB k c):=fun _=>rfl
theorem free1 (k c:ByteArray):∀b∈[nB k c],Free b:=by
 intro b hb
 simp only[List.mem_cons,List.not_mem_nil,or_false] at hb
 subst hb;exact nB_free _ _
theorem free2 (k c k' c':ByteArray):∀b∈[nB k c,nB k' c'],Free b:=by
 intro b hb
 simp only[List.mem_cons,List.not_mem_nil,or_false] at hb
 rcases hb with rfl|rfl<;>exact nB_free _ _
theorem wf1 {n:Nat} {l:List (Nat×AV)} (k c:ByteArray) (h:tmsWf 1 (slots n l)=true):wfS (slots n l) [nB k c]=true:=wfS_of (free1 k c) h
theorem wf2 {n:Nat} {l:List (Nat×AV)} (k c k' c':ByteArray) (h:tmsWf 2 (slots n l)=true):wfS (slots n l) [nB k c,nB k' c']=true:=wfS_of (free2 k c k' c') h
theorem wP_size:wP.size=14:=rfl
theorem wE_size:wE.size=12:=rfl
theorem envMs:EnvOK (mkE LMy SMs):=envMk LMy_ok SMs
theorem nx_size (c s:ByteArray) (i:Nat):(one1++hR c s++ixS i).size=37:=by
 rw[ByteArray.size_append,ByteArray.size_append,hR_size,ixS_size];rfl
theorem nx1_size (c s:ByteArray):(one1++hR c s).size=33:=by
 rw[ByteArray.size_append,hR_size];rfl
theorem yes22 (s:ByteArray) (j:Nat) (hj:j<8) (hs:s.size≤1000000) (hg:gd (beS (hL wP s))=true):Goes Tryz.prog (bodyOf Tryz.prog 203 6) (.ret) (T22 s (j:Int)) ([nB e0 e0]) (T22r) ([nB ((hmac wP s).extract 0 32) ((hmac wP s).extract 32 64)]):=by
 exact Runs.goes envMs ⟨_,_,t22y s j,⟨decide_eq_true (by omega),by rw[wP_size];omega,by omega,hmac_size _ _,by rw[mayB2 (hL_size _ _) (hR_size _ _)];exact hg,trivial⟩,wf1 _ _ (by kernel_rfl)⟩
theorem no22 (s:ByteArray) (j:Nat) (hj:j<8) (hs:s.size≤1000000) (hg:gd (beS (hL wP s))=false):Goes Tryz.prog (bodyOf Tryz.prog 203 6) (.normal) (T22 s (j:Int)) ([nB e0 e0]) (T22 (hmac wP s) ((j:Int)+1)) ([nB e0 e0]):=by
 exact Runs.goes envMs ⟨_,_,t22n s j,⟨decide_eq_true (by omega),by rw[wP_size];omega,by omega,hmac_size _ _,by rw[mayB2 (hL_size _ _) (hR_size _ _)];exact hg,by unfold inI;omega,trivial⟩,wf1 _ _ (by kernel_rfl)⟩
theorem out22 (s:ByteArray) (j:Nat) (hj:¬j<8):Goes Tryz.prog (bodyOf Tryz.prog 203 6) (.exit 0) (T22 s (j:Int)) ([nB e0 e0]) (T22x) ([nB e0 e0]):=by
 exact Runs.goes envMs ⟨_,_,t22x s j,⟨decide_eq_false (by omega),trivial⟩,wf1 _ _ (by kernel_rfl)⟩
theorem loop22s:∀(t j:Nat) (s:ByteArray) (r:ByteArray),j+t=8→s.size≤1000000→mst wP t s=some r→GoesN Tryz.prog (bodyOf Tryz.prog 203 6) (t+1) (.ret) (T22 s (j:Int)) ([nB e0 e0]) (T22r) ([nB (r.extract 0 32) (r.extract 32 64)]):=by
 intro t
 induction t with
 |zero=>
  intro j s r hj hs hm
  rw[mst_zero] at hm;cases hm
 |succ t ih=>
  intro j s r hj hs hm
  rw[mst_succ] at hm
  cases hg:gd (beS (hL wP s)) with
  |true=>
   rw[hg,cond_true,Option.some.injEq] at hm
   subst hm
   exact GoesN.out (by simp) (yes22 s j (by omega) hs hg)
  |false=>
   rw[hg,cond_false] at hm
   have ih:=ih (j+1) (hmac wP s) r (by omega) (by rw[hmac_size];omega) hm
   rw[show ((j+1:Nat):Int)=(j:Int)+1 by omega] at ih
   exact GoesN.cons (M1:=[nB e0 e0]) rfl (no22 s j (by omega) hs hg) ih
theorem loop22n:∀(t j:Nat) (s:ByteArray),j+t=8→s.size≤1000000→mst wP t s=none→GoesN Tryz.prog (bodyOf Tryz.prog 203 6) (t+1) (.exit 0) (T22 s (j:Int)) ([nB e0 e0]) (T22x) ([nB e0 e0]):=by
 intro t
 induction t with
 |zero=>
  intro j s hj hs hm
  exact GoesN.out (by simp) (out22 s j (by omega))
 |succ t ih=>
  intro j s hj hs hm
  rw[mst_succ] at hm
  cases hg:gd (beS (hL wP s)) with
  |true=>
   rw[hg,cond_true] at hm;cases hm
  |false=>
   rw[hg,cond_false] at hm
   have ih:=ih (j+1) (hmac wP s) (by omega) (by rw[hmac_size];omega) hm
   rw[show ((j+1:Nat):Int)=(j:Int)+1 by omega] at ih
   exact GoesN.cons (M1:=[nB e0 e0]) rfl (no22 s j (by omega) hs hg) ih
theorem yes27 {k c:ByteArray} {i:Nat} (hk:k.size=32) (hc:c.size=32) (ha:beS k<modN 3) (s:ByteArray) (j:Nat) (hj:j<8) (hs:s.size≤1000000) (hg:smB (beS k) (beS (hL c s))=true):Goes Tryz.prog (bodyOf Tryz.prog 204 5) (.ret) (T27 s i (j:Int)) ([nB k c,nB e0 e0]) (T27r) ([nB k c,nB (bgS (smV (beS k) (beS (hL c s)))) (hR c s)]):=by
 exact Runs.goes envMs ⟨_,_,t27y k c s i j,⟨decide_eq_true (by omega),by omega,by omega,hmac_size _ _,hk,hL_size _ _,ha,hg,trivial⟩,wf2 _ _ _ _ (by kernel_rfl)⟩
theorem no27 {k c:ByteArray} {i:Nat} (hk:k.size=32) (hc:c.size=32) (ha:beS k<modN 3) (s:ByteArray) (j:Nat) (hj:j<8) (hs:s.size≤1000000) (hg:smB (beS k) (beS (hL c s))=false):Goes Tryz.prog (bodyOf Tryz.prog 204 5) (.normal) (T27 s i (j:Int)) ([nB k c,nB e0 e0]) (T27 (one1++hR c s++ixS i) i ((j:Int)+1)) ([nB k c,nB e0 e0]):=by
 exact Runs.goes envMs ⟨_,_,t27n k c s i j,⟨decide_eq_true (by omega),by omega,by omega,hmac_size _ _,hk,hL_size _ _,ha,hg,by rw[hR_size];omega,by rw[nx1_size,ixS_size];omega,by unfold inI;omega,trivial⟩,wf2 _ _ _ _ (by kernel_rfl)⟩
theorem out27 {k c:ByteArray} {i:Nat} (s:ByteArray) (j:Nat) (hj:¬j<8):Goes Tryz.prog (bodyOf Tryz.prog 204 5) (.exit 0) (T27 s i (j:Int)) ([nB k c,nB e0 e0]) (T27x) ([nB k c,nB e0 e0]):=by
 exact Runs.goes envMs ⟨_,_,t27x k c s i j,⟨decide_eq_false (by omega),trivial⟩,wf2 _ _ _ _ (by kernel_rfl)⟩
theorem loop27s {k c:ByteArray} {i:Nat} (hk:k.size=32) (hc:c.size=32) (ha:beS k<modN 3):∀(t j:Nat) (s:ByteArray) (r:ByteArray×ByteArray),j+t=8→s.size≤1000000→chl (beS k) c (ixS i) t s=some r→GoesN Tryz.prog (bodyOf Tryz.prog 204 5) (t+1) (.ret) (T27 s i (j:Int)) ([nB k c,nB e0 e0]) (T27r) ([nB k c,nB r.1 r.2]):=by
 intro t
 induction t with
 |zero=>
  intro j s r hj hs hm
  rw[chl_zero] at hm;cases hm
 |succ t ih=>
  intro j s r hj hs hm
  rw[chl_succ] at hm
  cases hg:smB (beS k) (beS (hL c s)) with
  |true=>
   rw[hg,cond_true,Option.some.injEq] at hm
   subst hm
   exact GoesN.out (by simp) (yes27 hk hc ha s j (by omega) hs hg)
  |false=>
   rw[hg,cond_false] at hm
   have ih:=ih (j+1) (one1++hR c s++ixS i) r (by omega) (by rw[nx_size];omega) hm
   rw[show ((j+1:Nat):Int)=(j:Int)+1 by omega] at ih
   exact GoesN.cons (M1:=[nB k c,nB e0 e0]) rfl (no27 hk hc ha s j (by omega) hs hg) ih
theorem loop27n {k c:ByteArray} {i:Nat} (hk:k.size=32) (hc:c.size=32) (ha:beS k<modN 3):∀(t j:Nat) (s:ByteArray),j+t=8→s.size≤1000000→chl (beS k) c (ixS i) t s=none→GoesN Tryz.prog (bodyOf Tryz.prog 204 5) (t+1) (.exit 0) (T27 s i (j:Int)) ([nB k c,nB e0 e0]) (T27x) ([nB k c,nB e0 e0]):=by
 intro t
 induction t with
 |zero=>
  intro j s hj hs hm
  exact GoesN.out (by simp) (out27 s j (by omega))
 |succ t ih=>
  intro j s hj hs hm
  rw[chl_succ] at hm
  cases hg:smB (beS k) (beS (hL c s)) with
  |true=>
   rw[hg,cond_true] at hm;cases hm
  |false=>
   rw[hg,cond_false] at hm
   have ih:=ih (j+1) (one1++hR c s++ixS i) (by omega) (by rw[nx_size];omega) hm
   rw[show ((j+1:Nat):Int)=(j:Int)+1 by omega] at ih
   exact GoesN.cons (M1:=[nB k c,nB e0 e0]) rfl (no27 hk hc ha s j (by omega) hs hg) ih
noncomputable def E22s (s:ByteArray) (T:List AV) (k c:ByteArray) (ex:Ex):Env:=addLp (mkE LMy SMs) 6 (bodyOf Tryz.prog 203 6) (sumC (T22 s 0) [nB e0 e0] T [nB k c] ex)
noncomputable def E27s (s:ByteArray) (i:Nat) (k c:ByteArray) (T:List AV) (k' c':ByteArray) (ex:Ex):Env:=addLp (mkE LMy SMs) 5 (bodyOf Tryz.prog 204 5) (sumC (T27 s i 0) [nB k c,nB e0 e0] T [nB k c,nB k' c'] ex)
def res (k c:ByteArray) (e:Int):AV:= .tup [node k c,.one (.i e)]
theorem rA (z:Int) (s:ByteArray):callR (mkE LMy SMs) 1000 203 [.one (.i z),sS s] [false,false]=some ([decide (z=1)=false,decide (z=2)=false],res e0 e0 1):=by kernel_rfl
theorem rB1 (z:Int) (s:ByteArray):callR (mkE LMy SMs) 1000 203 [.one (.i z),sS s] [true,true]=some ([decide (z=1)=true,decide ((s.size:Int)<16)=true],res e0 e0 1):=by kernel_rfl
theorem rC1 (z:Int) (s:ByteArray):callR (mkE LMy SMs) 1000 203 [.one (.i z),sS s] [true,false,true]=some ([decide (z=1)=true,decide ((s.size:Int)<16)=false,decide ((64:Int)<(s.size:Int))=true],res e0 e0 1):=by kernel_rfl
theorem rB2 (z:Int) (s:ByteArray):callR (mkE LMy SMs) 1000 203 [.one (.i z),sS s] [false,true,true]=some ([decide (z=1)=false,decide (z=2)=true,decide ((s.size:Int)<16)=true],res e0 e0 1):=by kernel_rfl
theorem rC2 (z:Int) (s:ByteArray):callR (mkE LMy SMs) 1000 203 [.one (.i z),sS s] [false,true,false,true]=some ([decide (z=1)=false,decide (z=2)=true,decide ((s.size:Int)<16)=false,decide ((64:Int)<(s.size:Int))=true],res e0 e0 1):=by kernel_rfl
theorem rD (z:Int) (s:ByteArray):callR (mkE LMy SMs) 1000 203 [.one (.i z),sS s] [true,false,false,true]=some ([decide (z=1)=true,decide ((s.size:Int)<16)=false,decide ((64:Int)<(s.size:Int))=false,decide (z=1)=true,wE.size≤128,s.size≤10000000000000,(hmac wE s).size=64],res (hL wE s) (hR wE s) 0):=by kernel_rfl
def ob22 (s:ByteArray) (_:List AV) (_ _:ByteArray):List Prop:=[decide ((2:Int)=1)=false,decide ((2:Int)=2)=true,decide ((s.size:Int)<16)=false,decide ((64:Int)<(s.size:Int))=false,decide ((2:Int)=1)=false,bodyOf Tryz.prog 203 6=bodyOf Tryz.prog 203 6,(T22 s 0,[nB e0 e0])=(T22 s 0,[nB e0 e0]),wfS (T22 s 0) [nB e0 e0]=true]
theorem rS (s k c:ByteArray):callR (E22s s T22r k c .ret) 1000 203 [.one (.i 2),sS s] [false,true,false,false,false]=some (ob22 s T22r k c,res k c 0):=by kernel_rfl
theorem rN (s:ByteArray):callR (E22s s T22x e0 e0 (.exit 0)) 1000 203 [.one (.i 2),sS s] [false,true,false,false,false]=some (ob22 s T22x e0 e0,res e0 e0 3):=by kernel_rfl
noncomputable def msK (z:Int) (s:ByteArray):ByteArray:=bif decide (z=1) then hL wE s else (match mst wP 8 s with|some h=>h.extract 0 32|none=>e0)
noncomputable def msC (z:Int) (s:ByteArray):ByteArray:=bif decide (z=1) then hR wE s else (match mst wP 8 s with|some h=>h.extract 32 64|none=>e0)
noncomputable def msE (z:Int) (s:ByteArray):Int:=bif decide (z=1) then 0 else (match mst wP 8 s with|some _=>0|none=>3)
def sdB (z:Int) (s:ByteArray):Bool:=(decide (z=1)||decide (z=2))&&(!decide (s.size<16)&& !decide (64<s.size))
theorem lift {a b:Nat}:decide ((a:Int)<(b:Int))=decide (a<b):=by
 by_cases h:a<b
 ·rw[decide_eq_true h,decide_eq_true (by omega)]
 ·rw[decide_eq_false h,decide_eq_false (by omega)]
theorem spec22 (z:Int) (s:ByteArray):Spec 203 [.one (.i z),sS s] (res (bif sdB z s then msK z s else e0) (bif sdB z s then msC z s else e0) (bif sdB z s then msE z s else 1)):=by
 have run:=fun {ob:List Prop} {ch:List Bool} {r:AV} (h:callR (mkE LMy SMs) 1000 203 [.one (.i z),sS s] ch=some (ob,r)) (ho:All ob) (hr:r.wf 0=true)=>spec_run envMs rfl h ho hr rfl
 have e1:=lift (a:=s.size) (b:=16)
 have e2:=lift (a:=64) (b:=s.size)
 unfold sdB
 by_cases h1:z=1
 ·rw[decide_eq_true h1,Bool.true_or,Bool.true_and]
  by_cases hs:s.size<16
  ·rw[decide_eq_true hs]
   exact run (rB1 z s) ⟨decide_eq_true h1,e1.trans (decide_eq_true hs),trivial⟩ rfl
  ·rw[decide_eq_false hs]
   by_cases hl:64<s.size
   ·rw[decide_eq_true hl]
    exact run (rC1 z s) ⟨decide_eq_true h1,e1.trans (decide_eq_false hs),e2.trans (decide_eq_true hl),trivial⟩ rfl
   ·rw[decide_eq_false hl]
    have r:=run (rD z s) ⟨decide_eq_true h1,e1.trans (decide_eq_false hs),e2.trans (decide_eq_false hl),decide_eq_true h1,by rw[wE_size];omega,by omega,hmac_size _ _,trivial⟩ rfl
    subst h1
    exact r
 ·rw[decide_eq_false h1,Bool.false_or]
  by_cases h2:z=2
  ·rw[decide_eq_true h2,Bool.true_and]
   by_cases hs:s.size<16
   ·rw[decide_eq_true hs]
    exact run (rB2 z s) ⟨decide_eq_false h1,decide_eq_true h2,e1.trans (decide_eq_true hs),trivial⟩ rfl
   ·rw[decide_eq_false hs]
    by_cases hl:64<s.size
    ·rw[decide_eq_true hl]
     exact run (rC2 z s) ⟨decide_eq_false h1,decide_eq_true h2,e1.trans (decide_eq_false hs),e2.trans (decide_eq_true hl),trivial⟩ rfl
    ·rw[decide_eq_false hl]
     subst h2
     rw[show (!false&& !false)=true from rfl,cond_true,cond_true,cond_true]
     unfold msK msC msE
     rw[show decide ((2:Int)=1)=false from rfl,cond_false,cond_false,cond_false]
     cases hm:mst wP 8 s with
     |some h=>
      have hE:EnvOK (E22s s T22r (h.extract 0 32) (h.extract 32 64) .ret):=envAddLp envMs (sumC_ok rfl (loop22s 8 0 s h (by omega) (by omega) hm).loop)
      exact spec_run hE rfl (rS s _ _) ⟨by decide,by decide,e1.trans (decide_eq_false hs),e2.trans (decide_eq_false hl),by decide,rfl,rfl,wf1 _ _ (by kernel_rfl),trivial⟩ rfl rfl
     |none=>
      have hE:EnvOK (E22s s T22x e0 e0 (.exit 0)):=envAddLp envMs (sumC_ok rfl (loop22n 8 0 s (by omega) (by omega) hm).loop)
      exact spec_run hE rfl (rN s) ⟨by decide,by decide,e1.trans (decide_eq_false hs),e2.trans (decide_eq_false hl),by decide,rfl,rfl,wf1 _ _ (by kernel_rfl),trivial⟩ rfl rfl
  ·rw[decide_eq_false h2]
   exact run (rA z s) ⟨decide_eq_false h1,decide_eq_false h2,trivial⟩ rfl
def hdS (k:ByteArray) (i:Nat):ByteArray:=zer1++k++ixS i
theorem hdS_size {k:ByteArray} (h:k.size=32) (i:Nat):(hdS k i).size=37:=by
 unfold hdS
 rw[ByteArray.size_append,ByteArray.size_append,h,ixS_size];rfl
theorem hd1_size {k:ByteArray} (h:k.size=32):(zer1++k).size=33:=by
 rw[ByteArray.size_append,h];rfl
theorem c1f (k c:ByteArray) (i:Nat):callR (mkE LMy SMs) 1000 204 [.one (.i 1),node k c,u32 i] [true,false,true,true]=
  some ([decide ((1:Int)=1)=true,decide (i<2147483648)=false,decide (2147483648≤i)=true,1+k.size≤9223372036854775807,(zer1++k).size+(ixS i).size≤9223372036854775807,decide ((0:Int)<8)=true,c.size≤128,(hdS k i).size≤10000000000000,(hmac c (hdS k i)).size=64],res (hL c (hdS k i)) (hR c (hdS k i)) 0):=by kernel_rfl
def ob27 (k c:ByteArray) (i:Nat):List Prop:=[decide ((2:Int)=1)=false,decide (2147483648≤i)=true,1+k.size≤9223372036854775807,(zer1++k).size+(ixS i).size≤9223372036854775807,bodyOf Tryz.prog 204 5=bodyOf Tryz.prog 204 5,(T27 (hdS k i) i 0,[nB k c,nB e0 e0])=(T27 (hdS k i) i 0,[nB k c,nB e0 e0]),wfS (T27 (hdS k i) i 0) [nB k c,nB e0 e0]=true]
theorem cS (k c k' c':ByteArray) (i:Nat):callR (E27s (hdS k i) i k c T27r k' c' .ret) 1000 204 [.one (.i 2),node k c,u32 i] [false,true]=some (ob27 k c i,res k' c' 0):=by kernel_rfl
theorem cN (k c:ByteArray) (i:Nat):callR (E27s (hdS k i) i k c T27x e0 e0 (.exit 0)) 1000 204 [.one (.i 2),node k c,u32 i] [false,true]=some (ob27 k c i,res e0 e0 3):=by kernel_rfl
noncomputable def chK (z:Int) (k c s x:ByteArray):ByteArray:=bif decide (z=1) then hL c s else (match chl (beS k) c x 8 s with|some r=>r.1|none=>e0)
noncomputable def chC (z:Int) (k c s x:ByteArray):ByteArray:=bif decide (z=1) then hR c s else (match chl (beS k) c x 8 s with|some r=>r.2|none=>e0)
noncomputable def chE (z:Int) (k c s x:ByteArray):Int:=bif decide (z=1) then 0 else (match chl (beS k) c x 8 s with|some _=>0|none=>3)
theorem may_parts {z:Int} {k c:ByteArray} (h:mayB z k c=true):k.size=32∧c.size=32∧(z=1∨beS k<modN 3):=by
 unfold mayB gd at h
 simp only[Bool.and_eq_true,Bool.or_eq_true,decide_eq_true_eq] at h
 exact ⟨h.2.1,h.2.2.1,h.2.2.2.elim .inl fun h=> .inr h.2⟩
theorem spec27h (z:Int) (k c:ByteArray) (i:Nat) (hz:z=1∨z=2) (hm:mayB z k c=true) (hi:2147483648≤i):Spec 204 [.one (.i z),node k c,u32 i] (res (chK z k c (hdS k i) (ixS i)) (chC z k c (hdS k i) (ixS i)) (chE z k c (hdS k i) (ixS i))):=by
 obtain ⟨hk,hc,ha⟩:=may_parts hm
 have h1:=hd1_size hk
 have h2:=hdS_size hk i
 have h3:=ixS_size i
 rcases hz with rfl|rfl
 ·exact spec_run envMs rfl (c1f k c i) ⟨by decide,decide_eq_false (by omega),decide_eq_true hi,by omega,by omega,by decide,by omega,by omega,hmac_size _ _,trivial⟩ rfl rfl
 ·have ha:beS k<modN 3:=ha.resolve_left (by omega)
  unfold chK chC chE
  rw[show decide ((2:Int)=1)=false from rfl,cond_false,cond_false,cond_false]
  cases hm:chl (beS k) c (ixS i) 8 (hdS k i) with
  |some r=>
   have hE:EnvOK (E27s (hdS k i) i k c T27r r.1 r.2 .ret):=envAddLp envMs (sumC_ok rfl (loop27s hk hc ha 8 0 _ r (by omega) (by omega) hm).loop)
   exact spec_run hE rfl (cS k c _ _ i) ⟨by decide,decide_eq_true hi,by omega,by omega,rfl,rfl,wf2 _ _ _ _ (by kernel_rfl),trivial⟩ rfl rfl
  |none=>
   have hE:EnvOK (E27s (hdS k i) i k c T27x e0 e0 (.exit 0)):=envAddLp envMs (sumC_ok rfl (loop27n hk hc ha 8 0 _ (by omega) (by omega) hm).loop)
   exact spec_run hE rfl (cN k c i) ⟨by decide,decide_eq_true hi,by omega,by omega,rfl,rfl,wf2 _ _ _ _ (by kernel_rfl),trivial⟩ rfl rfl
end Go.Ev.H5
namespace Go.Ev
open Go Go.Proofs Go.RowKit
def Cz (m:Nat) (a b:Int):Prop:=(m:Int)∣a-b
section
variable {m:Nat} {a b c d:Int}
theorem Cz.refl (m:Nat) (a:Int):Cz m a a:=by unfold Cz;rw[Int.sub_self];exact Int.dvd_zero _
theorem Cz.of_eq (h:a=b):Cz m a b:=by subst h;exact Cz.refl m a
theorem Cz.lc1 {u v:Int} (h:Cz m u v) (k:Int) (e:a-b=k*(u-v)):Cz m a b:=by
 unfold Cz at*;rw[e];exact Int.dvd_mul_of_dvd_right h
theorem Cz.lc2 {u v u' v':Int} (h:Cz m u v) (h':Cz m u' v') (k k':Int) (e:a-b=k*(u-v)+k'*(u'-v')):Cz m a b:=by
 unfold Cz at*;rw[e];exact Int.dvd_add (Int.dvd_mul_of_dvd_right h) (Int.dvd_mul_of_dvd_right h')
theorem Cz.lc3 {u v u' v' u2 v2:Int} (h:Cz m u v) (h':Cz m u' v') (h2:Cz m u2 v2) (k k' k2:Int) (e:a-b=k*(u-v)+k'*(u'-v')+k2*(u2-v2)):Cz m a b:=by
 unfold Cz at*;rw[e];exact Int.dvd_add (Int.dvd_add (Int.dvd_mul_of_dvd_right h) (Int.dvd_mul_of_dvd_right h')) (Int.dvd_mul_of_dvd_right h2)
theorem Cz.lc4 {u v u' v' u2 v2 u3 v3:Int} (h:Cz m u v) (h':Cz m u' v') (h2:Cz m u2 v2) (h3:Cz m u3 v3) (k k' k2 k3:Int) (e:a-b=k*(u-v)+k'*(u'-v')+k2*(u2-v2)+k3*(u3-v3)):Cz m a b:=by
 unfold Cz at*;rw[e];exact Int.dvd_add (Int.dvd_add (Int.dvd_add (Int.dvd_mul_of_dvd_right h) (Int.dvd_mul_of_dvd_right h')) (Int.dvd_mul_of_dvd_right h2)) (Int.dvd_mul_of_dvd_right h3)
theorem Cz.symm (h:Cz m a b):Cz m b a:=h.lc1 (-1) (by omega)
theorem Cz.trans (h:Cz m a b) (h':Cz m b c):Cz m a c:=h.lc2 h' 1 1 (by omega)
theorem Cz.add (h:Cz m a b) (h':Cz m c d):Cz m (a+c) (b+d):=h.lc2 h' 1 1 (by omega)
theorem Cz.sub (h:Cz m a b) (h':Cz m c d):Cz m (a-c) (b-d):=h.lc2 h' 1 (-1) (by omega)
theorem Cz.mul (h:Cz m a b) (h':Cz m c d):Cz m (a*c) (b*d):=h.lc2 h' c b (by grind)
theorem Cz.nat {x y:Nat} (hx:x<m) (hy:y<m) (h:Cz m x y):x=y:=by
 unfold Cz at h
 obtain ⟨k,hk⟩:=h
 rcases Int.lt_trichotomy k 0 with h0|h0|h0
 ·have:(m:Int)*k≤(m:Int)*(-1):=Int.mul_le_mul_of_nonneg_left (by omega) (by omega)
  omega
 ·subst h0;omega
 ·have:(m:Int)*1≤(m:Int)*k:=Int.mul_le_mul_of_nonneg_left (by omega) (by omega)
  omega
theorem cz_mod (x:Nat):Cz m ((x%m:Nat):Int) x:=by
 unfold Cz
 refine ⟨-((x/m:Nat):Int),?_⟩
 have:=Nat.mod_add_div x m
 have h2:((x%m:Nat):Int)+(m:Int)*((x/m:Nat):Int)=x:=by exact_mod_cast this
 rw[Int.mul_neg];omega
theorem cz_mul (x y:Nat):Cz m (mulM m x y) ((x:Int)*y):=by
 have:=cz_mod (m:=m) (x*y)
 unfold mulM;rwa[Int.natCast_mul] at this
theorem cz_add (x y:Nat):Cz m (addM m x y) ((x:Int)+y):=by
 have:=cz_mod (m:=m) (x+y)
 unfold addM;rwa[Int.natCast_add] at this
theorem cz_sub {x y:Nat} (hy:y<m):Cz m (subM m x y) ((x:Int)-y):=by
 have:=cz_mod (m:=m) (x+m-y)
 unfold subM
 refine this.trans ⟨1,?_⟩
 omega
theorem cz_zero_iff {x:Nat}:Cz m x 0↔x%m=0:=by
 unfold Cz
 rw[Int.sub_zero]
 constructor
 ·intro h;exact Nat.mod_eq_zero_of_dvd (by exact_mod_cast h)
 ·intro h;exact_mod_cast Nat.dvd_of_mod_eq_zero h
def czN (m:Nat) (z:Int):Nat:=(z%(m:Int)).toNat
theorem czN_cz (hm:0<m) (z:Int):Cz m (czN m z) z:=by
 unfold Cz czN
 rw[Int.toNat_of_nonneg (Int.emod_nonneg _ (by omega))]
 refine ⟨-(z/(m:Int)),?_⟩
 have:=Int.emod_add_mul_ediv z (m:Int)
 rw[Int.mul_neg];omega
theorem cz_euclid (hp:Go.NT.Pr m) (h:Cz m (a*b) 0):Cz m a 0∨Cz m b 0:=by
 have hm:0<m:=by have:=hp.1;omega
 have ha:=czN_cz hm a
 have hb:=czN_cz hm b
 have h1:Cz m ((czN m a:Int)*(czN m b:Int)) 0:=(ha.mul hb).trans h
 have h2:(czN m a*czN m b)%m=0:=cz_zero_iff.1 (by rwa[Int.natCast_mul])
 rcases Go.NT.zero_of_mul hp h2 with h3|h3
 ·exact .inl (ha.symm.trans (cz_zero_iff.2 h3))
 ·exact .inr (hb.symm.trans (cz_zero_iff.2 h3))
theorem cz_cancel (hp:Go.NT.Pr m) (h:Cz m (a*b) (a*c)) (ha:¬Cz m a 0):Cz m b c:=by
 rcases cz_euclid hp (a:=a) (b:=b-c) (h.lc1 1 (by grind)) with h1|h1
 ·exact absurd h1 ha
 ·exact h1.lc1 1 (by omega)
end
theorem prK {k:Nat} (hk:k<4):Go.NT.Pr (modN k):=by rw[modN_P];exact Go.NT.primeK hk
def invP (k z:Nat):Nat:=Go.NT.pwM (modN k) z (subN (modN k) 2)
theorem subN_2 (k:Nat):subN (modN k) 2=modN k-2:=by
 have:=modN_two k
 have:=modN_lt k
 unfold subN;omega
theorem inv_cz {k z:Nat} (hk:k<4) (hz:z<modN k) (h0:¬Cz (modN k) z 0):Cz (modN k) ((z:Int)*invP k z) 1:=by
 have hz0:0<z:=by
  rcases Nat.eq_zero_or_pos z with h|h
  ·subst h;exact absurd (Cz.refl _ _) h0
  ·exact h
 have h1:=Go.NT.inv_mul hk hz0 (by rwa[modN_P] at hz)
 rw[←modN_P] at h1
 have h2:(z*invP k z)%modN k=1%modN k:=by
  unfold invP Go.NT.pwM
  rw[subN_2,Nat.mul_mod_mod,h1,Nat.mod_eq_of_lt (modN_one k)]
 have h3:=cz_mod (m:=modN k) (z*invP k z)
 rw[h2] at h3
 have h4:=cz_mod (m:=modN k) 1
 have:=h3.symm.trans h4
 rwa[Int.natCast_mul] at this
theorem rt_K {p e f a:Nat} (hp:p<2^256) (he:e<p) (hf:f<p):Go.NT.rt p e f a=if Go.NT.powK 256 a e p*Go.NT.powK 256 a e p%p=a then Go.NT.powK 256 a e p else Go.NT.powK 256 a e p*Go.NT.powK 256 2 f p%p:=by
 unfold Go.NT.rt
 rw[pwM_K hp he,pwM_K hp hf]
def candK (p c:Nat):Nat:=if Go.NT.powK 256 c ((p+3)/8) p*Go.NT.powK 256 c ((p+3)/8) p%p=c then Go.NT.powK 256 c ((p+3)/8) p else Go.NT.powK 256 c ((p+3)/8) p*Go.NT.powK 256 2 (p/4) p%p
theorem cand_K (c:Nat):Go.NT.candN 0 c=candK (Go.NT.modP 0) c:=by
 rw[Go.NT.candN_0]
 exact rt_K (by decide+kernel) (by decide+kernel) (by decide+kernel)
def sqK (p c:Nat):Bool:=decide (candK p c*candK p c%p=c)
theorem sq_K (c:Nat):Go.NT.isSq 0 c=sqK (Go.NT.modP 0) c:=by
 unfold Go.NT.isSq sqK
 rw[cand_K]
theorem notSq:Go.NT.isSq 0 (modN 0-dN)=false:=by
 rw[sq_K]
 decide+kernel
abbrev C0 (a b:Int):Prop:=Cz (modN 0) a b
theorem pr0:Go.NT.Pr (modN 0):=prK (by decide)
theorem nsq {s t:Int} (h:C0 (t*t) (-(dN:Int)*(s*s))):C0 s 0:=by
 have hm:=modN_pos 0
 have hs:=czN_cz hm s
 have ht:=czN_cz hm t
 have hsl:czN (modN 0) s<modN 0:=by
  unfold czN
  have:=Int.emod_lt_of_pos s (show (0:Int)<(modN 0:Int) by omega)
  have:=Int.emod_nonneg s (show ((modN 0:Nat):Int)≠0 by omega)
  omega
 generalize czN (modN 0) s=s' at*
 generalize czN (modN 0) t=t' at*
 rcases Nat.eq_zero_or_pos s' with h0|h0
 ·subst h0;exact hs.symm
 ·exfalso
  have h1:C0 ((t'*t':Nat):Int) (((modN 0-dN)*(s'*s'%modN 0):Nat):Int):=by
   have e1:=cz_mod (m:=modN 0) (s'*s')
   have e2:((modN 0-dN:Nat):Int)=(modN 0:Int)-dN:=by have:=dN_lt;omega
   rw[Int.natCast_mul,Int.natCast_mul,e2]
   rw[Int.natCast_mul] at e1
   have a1:C0 ((t':Int)*t') (t*t):=ht.mul ht
   have a2:C0 ((s':Int)*s') (s*s):=hs.mul hs
   have a3:C0 (modN 0:Int) 0:=by unfold C0 Cz;exact ⟨1,by omega⟩
   have a4:C0 (((modN 0:Nat):Int)-dN) (-(dN:Int)):=a3.lc1 1 (by omega)
   exact (a1.trans h).trans (a4.mul (e1.trans a2)).symm
  have h2:t'*t'%modN 0=(modN 0-dN)*(s'*s'%modN 0)%modN 0:=by
   have b1:=cz_mod (m:=modN 0) (t'*t')
   have b2:=cz_mod (m:=modN 0) ((modN 0-dN)*(s'*s'%modN 0))
   exact Cz.nat (Nat.mod_lt _ hm) (Nat.mod_lt _ hm) ((b1.trans h1).trans b2.symm)
  have h3:Go.NT.isSq 0 ((modN 0-dN)*(s'*s'%modN 0)%modN 0)=true:=Go.NT.isSq_of (r:=t') (by decide) (by rw[←modN_P];exact h2)
  have hd:modN 0-dN<modN 0:=by
   have:0<dN:=by decide
   omega
  rw[modN_P] at hsl hd
  have h4:=Go.NT.isSq_mul (k:=0) (by decide) h0 hsl hd
  rw[modN_P] at h3
  rw[h4,←modN_P,notSq] at h3
  exact absurd h3 (by decide)
def iN:Nat:=Go.NT.powK 256 2 (Go.NT.modP 0/4) (Go.NT.modP 0)
theorem i_sq:C0 ((iN:Int)*iN) (-1):=by
 have h:iN*iN%modN 0=modN 0-1:=by decide+kernel
 have h1:=cz_mod (m:=modN 0) (iN*iN)
 rw[h,Int.natCast_mul] at h1
 refine h1.symm.trans ⟨1,?_⟩
 have:=modN_pos 0
 omega
def On (x y:Int):Prop:=C0 (y*y-x*x) (1+(dN:Int)*(x*x)*(y*y))
theorem one_ne:¬C0 1 0:=by
 intro h
 have:=Cz.nat (m:=modN 0) (x:=1) (y:=0) (modN_one 0) (modN_pos 0) h
 exact absurd this (by decide)
theorem two_ne:¬C0 2 0:=by
 intro h
 have:=Cz.nat (m:=modN 0) (x:=2) (y:=0) (modN_two 0) (modN_pos 0) h
 exact absurd this (by decide)
theorem mul_ne {a b:Int} (ha:¬C0 a 0) (hb:¬C0 b 0):¬C0 (a*b) 0:=fun h=>by
 rcases cz_euclid pr0 h with h|h
 ·exact ha h
 ·exact hb h
theorem complete {x1 y1 x2 y2:Int} (h1:On x1 y1) (h2:On x2 y2) (he:C0 ((dN:Int)*x1*x2*y1*y2*((dN:Int)*x1*x2*y1*y2)) 1):False:=by
 have hi:=i_sq
 generalize (iN:Int)=i at*
 unfold On at h1 h2
 have hxy:¬C0 (x1*y1) 0:=fun h=>one_ne (he.symm.trans (h.lc1 (dN*x2*y2*(dN*x1*x2*y1*y2)) (by grind)))
 have hy2:¬C0 y2 0:=fun h=>one_ne (he.symm.trans (h.lc1 (dN*x1*x2*y1*(dN*x1*x2*y1*y2)) (by grind)))
 have hi0:¬C0 i 0:=fun h=>one_ne ((hi.symm.lc1 1 (by omega):C0 (-1) (i*i)).lc2 h (-1) (-i) (by grind))
 have key:∀s:Int,s=1∨s= -1→C0 (i*(x1*y1)*(i*x2+s*y2)) 0:=by
  intro s hs
  have hss:s*s=1:=by rcases hs with rfl|rfl<;>rfl
  refine nsq (t:=i*x1+s*((dN:Int)*x1*x2*y1*y2)*y1) ?_
  generalize (dN:Int)=D at*
  refine Cz.lc4 h1 h2 he hi 1 (-D*(x1*x1)*(y1*y1)) (y1*y1-1) (x1*x1+D*(x1*x1)*(y1*y1)*((i*x2+s*y2)*(i*x2+s*y2)-x2*x2)) ?_
  rcases hs with rfl|rfl<;>grind
 have ha:=key 1 (.inl rfl)
 have hb:=key (-1) (.inr rfl)
 have hn:=mul_ne hi0 hxy
 have ha':C0 (i*x2+1*y2) 0:=by
  rcases cz_euclid pr0 ha with h|h
  ·exact absurd h hn
  ·exact h
 have hb':C0 (i*x2+ -1*y2) 0:=by
  rcases cz_euclid pr0 hb with h|h
  ·exact absurd h hn
  ·exact h
 exact mul_ne two_ne hy2 (ha'.lc2 hb' 1 (-1) (by omega))
end Go.Ev
namespace Go.Ev
def cqx1 (d x1 y1 x2 y2 x3 y3:Int):Int:= -(d*d)*x1*(x2*x2*x2*x2)*(x3*x3)*(y2*y2*y2)*y3-(d*d)*x1*(x2*x2*x2)*x3*(y2*y2*y2*y2)*(y3*y3)+(d*d)*(x2*x2*x2*x2)*x3*y1*(y2*y2*y2)*(y3*y3)+(d*d)*(x2*x2*x2)*(x3*x3)*y1*(y2*y2*y2*y2)*y3-d*x1*(x2*x2*x2*x2)*(x3*x3)*y2*y3-d*x1*(x2*x2*x2)*(x3*x3*x3)*(y2*y2)-d*x1*(x2*x2*x2)*x3*(y2*y2)+d*x1*(x2*x2)*(y2*y2*y2)*(y3*y3*y3)-d*x1*(x2*x2)*(y2*y2*y2)*y3+d*x1*x2*x3*(y2*y2*y2*y2)*(y3*y3)+d*(x2*x2*x2*x2)*x3*y1*y2*(y3*y3)+d*(x2*x2*x2)*y1*(y2*y2)*(y3*y3*y3)-d*(x2*x2*x2)*y1*(y2*y2)*y3-d*(x2*x2)*(x3*x3*x3)*y1*(y2*y2*y2)-d*(x2*x2)*x3*y1*(y2*y2*y2)-d*x2*(x3*x3)*y1*(y2*y2*y2*y2)*y3
def cqx2 (d x1 y1 x2 y2 x3 y3:Int):Int:=(d*d)*(x1*x1)*(x2*x2)*(x3*x3*x3)*y1*y2*(y3*y3)-(d*d)*(x1*x1)*x2*(x3*x3)*y1*(y2*y2)*(y3*y3*y3)-(d*d)*x1*(x2*x2)*(x3*x3)*(y1*y1)*y2*(y3*y3*y3)+(d*d)*x1*x2*(x3*x3*x3)*(y1*y1)*(y2*y2)*(y3*y3)+d*(x1*x1*x1)*(x2*x2)*(x3*x3)*y2*y3+d*(x1*x1*x1)*x2*(x3*x3*x3)*(y3*y3)+d*(x1*x1*x1)*x2*x3*(y2*y2)*(y3*y3)+d*(x1*x1*x1)*(x3*x3)*y2*(y3*y3*y3)-d*(x1*x1)*(x2*x2)*x3*y1*y2*(y3*y3)-d*(x1*x1)*x2*(x3*x3)*y1*(y2*y2)*y3+d*(x1*x1)*x2*(x3*x3)*y1*(y3*y3*y3)+d*(x1*x1)*(x3*x3*x3)*y1*y2*(y3*y3)-d*x1*(x2*x2)*(x3*x3)*(y1*y1)*y2*y3+d*x1*(x2*x2)*(x3*x3)*y2*y3-d*x1*x2*(x3*x3*x3)*(y1*y1)*(y3*y3)+d*x1*x2*(x3*x3*x3)*(y3*y3)-d*x1*x2*x3*(y1*y1)*(y2*y2)*(y3*y3)+d*x1*x2*x3*(y2*y2)*(y3*y3)-d*x1*(x3*x3)*(y1*y1)*y2*(y3*y3*y3)+d*x1*(x3*x3)*y2*(y3*y3*y3)+d*(x2*x2)*x3*(y1*y1*y1)*y2*(y3*y3)-d*(x2*x2)*x3*y1*y2*(y3*y3)+d*x2*(x3*x3)*(y1*y1*y1)*(y2*y2)*y3-d*x2*(x3*x3)*(y1*y1*y1)*(y3*y3*y3)-d*x2*(x3*x3)*y1*(y2*y2)*y3+d*x2*(x3*x3)*y1*(y3*y3*y3)-d*(x3*x3*x3)*(y1*y1*y1)*y2*(y3*y3)+d*(x3*x3*x3)*y1*y2*(y3*y3)+(x1*x1*x1)*x2*(x3*x3*x3)-(x1*x1*x1)*x2*x3*(y3*y3)+(x1*x1*x1)*x2*x3+(x1*x1*x1)*(x3*x3)*y2*y3-(x1*x1*x1)*y2*(y3*y3*y3)+(x1*x1*x1)*y2*y3+(x1*x1)*x2*(x3*x3)*y1*y3-(x1*x1)*x2*y1*(y3*y3*y3)+(x1*x1)*x2*y1*y3+(x1*x1)*(x3*x3*x3)*y1*y2-(x1*x1)*x3*y1*y2*(y3*y3)+(x1*x1)*x3*y1*y2-x1*x2*(x3*x3*x3)*(y1*y1)+x1*x2*(x3*x3*x3)+x1*x2*x3*(y1*y1)*(y3*y3)-x1*x2*x3*(y1*y1)-x1*x2*x3*(y3*y3)+x1*x2*x3-x1*(x3*x3)*(y1*y1)*y2*y3+x1*(x3*x3)*y2*y3+x1*(y1*y1)*y2*(y3*y3*y3)-x1*(y1*y1)*y2*y3-x1*y2*(y3*y3*y3)+x1*y2*y3-x2*(x3*x3)*(y1*y1*y1)*y3+x2*(x3*x3)*y1*y3+x2*(y1*y1*y1)*(y3*y3*y3)-x2*(y1*y1*y1)*y3-x2*y1*(y3*y3*y3)+x2*y1*y3-(x3*x3*x3)*(y1*y1*y1)*y2+(x3*x3*x3)*y1*y2+x3*(y1*y1*y1)*y2*(y3*y3)-x3*(y1*y1*y1)*y2-x3*y1*y2*(y3*y3)+x3*y1*y2
def cqx3 (d x1 y1 x2 y2 x3 y3:Int):Int:= -d*(x1*x1)*(x2*x2)*x3*y1*y2+d*(x1*x1)*x2*y1*(y2*y2)*y3+d*x1*(x2*x2)*(y1*y1)*y2*y3-d*x1*x2*x3*(y1*y1)*(y2*y2)-(x1*x1*x1)*(x2*x2*x2)*x3-(x1*x1*x1)*(x2*x2)*y2*y3+(x1*x1*x1)*x2*x3*(y2*y2)-(x1*x1*x1)*x2*x3+(x1*x1*x1)*(y2*y2*y2)*y3-(x1*x1*x1)*y2*y3-(x1*x1)*(x2*x2*x2)*y1*y3-(x1*x1)*(x2*x2)*x3*y1*y2+(x1*x1)*x2*y1*(y2*y2)*y3-(x1*x1)*x2*y1*y3+(x1*x1)*x3*y1*(y2*y2*y2)-(x1*x1)*x3*y1*y2+x1*(x2*x2*x2)*x3*(y1*y1)-x1*(x2*x2*x2)*x3+x1*(x2*x2)*(y1*y1)*y2*y3-x1*(x2*x2)*y2*y3-x1*x2*x3*(y1*y1)*(y2*y2)+x1*x2*x3*(y1*y1)+x1*x2*x3*(y2*y2)-x1*x2*x3-x1*(y1*y1)*(y2*y2*y2)*y3+x1*(y1*y1)*y2*y3+x1*(y2*y2*y2)*y3-x1*y2*y3+(x2*x2*x2)*(y1*y1*y1)*y3-(x2*x2*x2)*y1*y3+(x2*x2)*x3*(y1*y1*y1)*y2-(x2*x2)*x3*y1*y2-x2*(y1*y1*y1)*(y2*y2)*y3+x2*(y1*y1*y1)*y3+x2*y1*(y2*y2)*y3-x2*y1*y3-x3*(y1*y1*y1)*(y2*y2*y2)+x3*(y1*y1*y1)*y2+x3*y1*(y2*y2*y2)-x3*y1*y2
theorem cert_x (d x1 y1 x2 y2 x3 y3:Int):((x1*y2+x2*y1)*(1-d*x1*x2*y1*y2)*y3+(y1*y2+x1*x2)*(1+d*x1*x2*y1*y2)*x3)*((1+d*x2*x3*y2*y3)*(1-d*x2*x3*y2*y3)+d*(x2*y3+x3*y2)*(y2*y3+x2*x3)*x1*y1)-(x1*(y2*y3+x2*x3)*(1+d*x2*x3*y2*y3)+y1*(x2*y3+x3*y2)*(1-d*x2*x3*y2*y3))*((1+d*x1*x2*y1*y2)*(1-d*x1*x2*y1*y2)+d*(x1*y2+x2*y1)*(y1*y2+x1*x2)*x3*y3)=cqx1 d x1 y1 x2 y2 x3 y3*((y1*y1-x1*x1)-(1+d*(x1*x1)*(y1*y1)))+cqx2 d x1 y1 x2 y2 x3 y3*((y2*y2-x2*x2)-(1+d*(x2*x2)*(y2*y2)))+cqx3 d x1 y1 x2 y2 x3 y3*((y3*y3-x3*x3)-(1+d*(x3*x3)*(y3*y3))):=by
 unfold cqx1 cqx2 cqx3
 grind
def cqy1 (d x1 y1 x2 y2 x3 y3:Int):Int:=(d*d)*x1*(x2*x2*x2*x2)*x3*(y2*y2*y2)*(y3*y3)+(d*d)*x1*(x2*x2*x2)*(x3*x3)*(y2*y2*y2*y2)*y3-(d*d)*(x2*x2*x2*x2)*(x3*x3)*y1*(y2*y2*y2)*y3-(d*d)*(x2*x2*x2)*x3*y1*(y2*y2*y2*y2)*(y3*y3)+d*x1*(x2*x2*x2*x2)*x3*y2*(y3*y3)+d*x1*(x2*x2*x2)*(y2*y2)*(y3*y3*y3)-d*x1*(x2*x2*x2)*(y2*y2)*y3-d*x1*(x2*x2)*(x3*x3*x3)*(y2*y2*y2)-d*x1*(x2*x2)*x3*(y2*y2*y2)-d*x1*x2*(x3*x3)*(y2*y2*y2*y2)*y3-d*(x2*x2*x2*x2)*(x3*x3)*y1*y2*y3-d*(x2*x2*x2)*(x3*x3*x3)*y1*(y2*y2)-d*(x2*x2*x2)*x3*y1*(y2*y2)+d*(x2*x2)*y1*(y2*y2*y2)*(y3*y3*y3)-d*(x2*x2)*y1*(y2*y2*y2)*y3+d*x2*x3*y1*(y2*y2*y2*y2)*(y3*y3)
def cqy2 (d x1 y1 x2 y2 x3 y3:Int):Int:=(d*d)*(x1*x1)*(x2*x2)*(x3*x3)*y1*y2*(y3*y3*y3)-(d*d)*(x1*x1)*x2*(x3*x3*x3)*y1*(y2*y2)*(y3*y3)-(d*d)*x1*(x2*x2)*(x3*x3*x3)*(y1*y1)*y2*(y3*y3)+(d*d)*x1*x2*(x3*x3)*(y1*y1)*(y2*y2)*(y3*y3*y3)-d*(x1*x1*x1)*(x2*x2)*x3*y2*(y3*y3)-d*(x1*x1*x1)*x2*(x3*x3)*(y2*y2)*y3+d*(x1*x1*x1)*x2*(x3*x3)*(y3*y3*y3)+d*(x1*x1*x1)*(x3*x3*x3)*y2*(y3*y3)+d*(x1*x1)*(x2*x2)*(x3*x3)*y1*y2*y3+d*(x1*x1)*x2*(x3*x3*x3)*y1*(y3*y3)+d*(x1*x1)*x2*x3*y1*(y2*y2)*(y3*y3)+d*(x1*x1)*(x3*x3)*y1*y2*(y3*y3*y3)+d*x1*(x2*x2)*x3*(y1*y1)*y2*(y3*y3)-d*x1*(x2*x2)*x3*y2*(y3*y3)+d*x1*x2*(x3*x3)*(y1*y1)*(y2*y2)*y3-d*x1*x2*(x3*x3)*(y1*y1)*(y3*y3*y3)-d*x1*x2*(x3*x3)*(y2*y2)*y3+d*x1*x2*(x3*x3)*(y3*y3*y3)-d*x1*(x3*x3*x3)*(y1*y1)*y2*(y3*y3)+d*x1*(x3*x3*x3)*y2*(y3*y3)-d*(x2*x2)*(x3*x3)*(y1*y1*y1)*y2*y3+d*(x2*x2)*(x3*x3)*y1*y2*y3-d*x2*(x3*x3*x3)*(y1*y1*y1)*(y3*y3)+d*x2*(x3*x3*x3)*y1*(y3*y3)-d*x2*x3*(y1*y1*y1)*(y2*y2)*(y3*y3)+d*x2*x3*y1*(y2*y2)*(y3*y3)-d*(x3*x3)*(y1*y1*y1)*y2*(y3*y3*y3)+d*(x3*x3)*y1*y2*(y3*y3*y3)+(x1*x1*x1)*x2*(x3*x3)*y3-(x1*x1*x1)*x2*(y3*y3*y3)+(x1*x1*x1)*x2*y3+(x1*x1*x1)*(x3*x3*x3)*y2-(x1*x1*x1)*x3*y2*(y3*y3)+(x1*x1*x1)*x3*y2+(x1*x1)*x2*(x3*x3*x3)*y1-(x1*x1)*x2*x3*y1*(y3*y3)+(x1*x1)*x2*x3*y1+(x1*x1)*(x3*x3)*y1*y2*y3-(x1*x1)*y1*y2*(y3*y3*y3)+(x1*x1)*y1*y2*y3-x1*x2*(x3*x3)*(y1*y1)*y3+x1*x2*(x3*x3)*y3+x1*x2*(y1*y1)*(y3*y3*y3)-x1*x2*(y1*y1)*y3-x1*x2*(y3*y3*y3)+x1*x2*y3-x1*(x3*x3*x3)*(y1*y1)*y2+x1*(x3*x3*x3)*y2+x1*x3*(y1*y1)*y2*(y3*y3)-x1*x3*(y1*y1)*y2-x1*x3*y2*(y3*y3)+x1*x3*y2-x2*(x3*x3*x3)*(y1*y1*y1)+x2*(x3*x3*x3)*y1+x2*x3*(y1*y1*y1)*(y3*y3)-x2*x3*(y1*y1*y1)-x2*x3*y1*(y3*y3)+x2*x3*y1-(x3*x3)*(y1*y1*y1)*y2*y3+(x3*x3)*y1*y2*y3+(y1*y1*y1)*y2*(y3*y3*y3)-(y1*y1*y1)*y2*y3-y1*y2*(y3*y3*y3)+y1*y2*y3
def cqy3 (d x1 y1 x2 y2 x3 y3:Int):Int:= -d*(x1*x1)*(x2*x2)*y1*y2*y3+d*(x1*x1)*x2*x3*y1*(y2*y2)+d*x1*(x2*x2)*x3*(y1*y1)*y2-d*x1*x2*(y1*y1)*(y2*y2)*y3-(x1*x1*x1)*(x2*x2*x2)*y3-(x1*x1*x1)*(x2*x2)*x3*y2+(x1*x1*x1)*x2*(y2*y2)*y3-(x1*x1*x1)*x2*y3+(x1*x1*x1)*x3*(y2*y2*y2)-(x1*x1*x1)*x3*y2-(x1*x1)*(x2*x2*x2)*x3*y1-(x1*x1)*(x2*x2)*y1*y2*y3+(x1*x1)*x2*x3*y1*(y2*y2)-(x1*x1)*x2*x3*y1+(x1*x1)*y1*(y2*y2*y2)*y3-(x1*x1)*y1*y2*y3+x1*(x2*x2*x2)*(y1*y1)*y3-x1*(x2*x2*x2)*y3+x1*(x2*x2)*x3*(y1*y1)*y2-x1*(x2*x2)*x3*y2-x1*x2*(y1*y1)*(y2*y2)*y3+x1*x2*(y1*y1)*y3+x1*x2*(y2*y2)*y3-x1*x2*y3-x1*x3*(y1*y1)*(y2*y2*y2)+x1*x3*(y1*y1)*y2+x1*x3*(y2*y2*y2)-x1*x3*y2+(x2*x2*x2)*x3*(y1*y1*y1)-(x2*x2*x2)*x3*y1+(x2*x2)*(y1*y1*y1)*y2*y3-(x2*x2)*y1*y2*y3-x2*x3*(y1*y1*y1)*(y2*y2)+x2*x3*(y1*y1*y1)+x2*x3*y1*(y2*y2)-x2*x3*y1-(y1*y1*y1)*(y2*y2*y2)*y3+(y1*y1*y1)*y2*y3+y1*(y2*y2*y2)*y3-y1*y2*y3
theorem cert_y (d x1 y1 x2 y2 x3 y3:Int):((y1*y2+x1*x2)*(1+d*x1*x2*y1*y2)*y3+(x1*y2+x2*y1)*(1-d*x1*x2*y1*y2)*x3)*((1+d*x2*x3*y2*y3)*(1-d*x2*x3*y2*y3)-d*(x2*y3+x3*y2)*(y2*y3+x2*x3)*x1*y1)-(y1*(y2*y3+x2*x3)*(1+d*x2*x3*y2*y3)+x1*(x2*y3+x3*y2)*(1-d*x2*x3*y2*y3))*((1+d*x1*x2*y1*y2)*(1-d*x1*x2*y1*y2)-d*(x1*y2+x2*y1)*(y1*y2+x1*x2)*x3*y3)=cqy1 d x1 y1 x2 y2 x3 y3*((y1*y1-x1*x1)-(1+d*(x1*x1)*(y1*y1)))+cqy2 d x1 y1 x2 y2 x3 y3*((y2*y2-x2*x2)-(1+d*(x2*x2)*(y2*y2)))+cqy3 d x1 y1 x2 y2 x3 y3*((y3*y3-x3*x3)-(1+d*(x3*x3)*(y3*y3))):=by
 unfold cqy1 cqy2 cqy3
 grind
def cc1 (d x1 y1 x2 y2:Int):Int:=(d*d*d)*(x1*x1)*(x2*x2*x2*x2)*(y1*y1)*(y2*y2*y2*y2)-(d*d)*(x1*x1)*(x2*x2*x2*x2)*(y2*y2*y2*y2)+(d*d)*(x2*x2*x2*x2)*(y1*y1)*(y2*y2*y2*y2)-(d*d)*(x2*x2*x2*x2)*(y2*y2*y2*y2)-d*(x1*x1)*(x2*x2*x2*x2)*(y2*y2)+d*(x1*x1)*(x2*x2)*(y2*y2*y2*y2)+d*(x2*x2*x2*x2)*(y1*y1)*(y2*y2)-2*d*(x2*x2*x2*x2)*(y2*y2*y2*y2)-d*(x2*x2)*(y1*y1)*(y2*y2*y2*y2)-2*d*(x2*x2)*(y2*y2)-2*(x2*x2*x2*x2)*(y2*y2)+(x2*x2*x2*x2)+2*(x2*x2)*(y2*y2*y2*y2)-4*(x2*x2)*(y2*y2)+(y2*y2*y2*y2)
def cc2 (d x1 y1 x2 y2:Int):Int:=d*(x1*x1*x1*x1)*(x2*x2)*(y2*y2)+2*d*(x1*x1)*(x2*x2)*(y2*y2)+d*(x2*x2)*(y1*y1*y1*y1)*(y2*y2)-2*d*(x2*x2)*(y1*y1)*(y2*y2)+d*(x2*x2)*(y2*y2)+2*(x1*x1)*(x2*x2)*(y2*y2)-(x1*x1)*(x2*x2)+(x1*x1)*(y2*y2)-2*(x2*x2)*(y1*y1)*(y2*y2)+(x2*x2)*(y1*y1)+2*(x2*x2)*(y2*y2)-(x2*x2)-(y1*y1)*(y2*y2)+(y2*y2)+1
theorem cert_c (d x1 y1 x2 y2:Int):((y1*y2+x1*x2)*(1+d*x1*x2*y1*y2))*((y1*y2+x1*x2)*(1+d*x1*x2*y1*y2))-((x1*y2+x2*y1)*(1-d*x1*x2*y1*y2))*((x1*y2+x2*y1)*(1-d*x1*x2*y1*y2))-(((1+d*x1*x2*y1*y2)*(1-d*x1*x2*y1*y2))*((1+d*x1*x2*y1*y2)*(1-d*x1*x2*y1*y2))+d*((x1*y2+x2*y1)*(x1*y2+x2*y1))*((y1*y2+x1*x2)*(y1*y2+x1*x2)))=cc1 d x1 y1 x2 y2*((y1*y1-x1*x1)-(1+d*(x1*x1)*(y1*y1)))+cc2 d x1 y1 x2 y2*((y2*y2-x2*x2)-(1+d*(x2*x2)*(y2*y2))):=by
 unfold cc1 cc2
 grind
end Go.Ev
namespace Go.Ev
open Go Go.Proofs Go.RowKit
theorem cD:C0 pTw (2*(dN:Int)):=(cz_add dN dN).trans (Cz.of_eq (by grind))
theorem cB (p q:E4):C0 (pB p q) (((p.y:Int)+p.x)*((q.y:Int)+q.x)):=(cz_mul _ _).trans ((cz_add _ _).mul (cz_add _ _))
theorem cC (p q:E4):C0 (pC p q) (2*(dN:Int)*p.t*q.t):=(cz_mul _ _).trans ((((cz_mul _ _).trans ((Cz.refl _ _).mul cD)).mul (Cz.refl _ _)).trans (Cz.of_eq (by grind)))
theorem cDD (p q:E4):C0 (pD p q) (2*(p.z:Int)*q.z):=(cz_mul _ _).trans (((cz_add _ _).mul (Cz.refl _ _)).trans (Cz.of_eq (by grind)))
theorem cF (p q:E4):C0 (pF p q) (2*((p.z:Int)*q.z-dN*p.t*q.t)):=(cz_sub (show pC p q<modN 0 from mulM_lt (modN_pos 0))).trans (((cDD p q).sub (cC p q)).trans (Cz.of_eq (by grind)))
theorem cG (p q:E4):C0 (pG p q) (2*((p.z:Int)*q.z+dN*p.t*q.t)):=(cz_add _ _).trans (((cDD p q).add (cC p q)).trans (Cz.of_eq (by grind)))
theorem c3z (p q:E4):C0 (pAdd p q).z (2*((p.z:Int)*q.z-dN*p.t*q.t)*(2*((p.z:Int)*q.z+dN*p.t*q.t))):=(cz_mul _ _).trans ((cF p q).mul (cG p q))
section
variable {p q:E4} (hp:p.lt) (hq:q.lt)
include hp hq
theorem cA:C0 (pA p q) (((p.y:Int)-p.x)*((q.y:Int)-q.x)):=(cz_mul _ _).trans ((cz_sub hp.1).mul (cz_sub hq.1))
theorem cE:C0 (pE p q) (2*((p.x:Int)*q.y+p.y*q.x)):=(cz_sub (show pA p q<modN 0 from mulM_lt (modN_pos 0))).trans (((cB p q).sub (cA hp hq)).trans (Cz.of_eq (by grind)))
theorem cH:C0 (pH p q) (2*((p.y:Int)*q.y+p.x*q.x)):=(cz_add _ _).trans (((cB p q).add (cA hp hq)).trans (Cz.of_eq (by grind)))
theorem c3x:C0 (pAdd p q).x (2*((p.x:Int)*q.y+p.y*q.x)*(2*((p.z:Int)*q.z-dN*p.t*q.t))):=(cz_mul _ _).trans ((cE hp hq).mul (cF p q))
theorem c3y:C0 (pAdd p q).y (2*((p.z:Int)*q.z+dN*p.t*q.t)*(2*((p.y:Int)*q.y+p.x*q.x))):=(cz_mul _ _).trans ((cG p q).mul (cH hp hq))
theorem c3t:C0 (pAdd p q).t (2*((p.x:Int)*q.y+p.y*q.x)*(2*((p.y:Int)*q.y+p.x*q.x))):=(cz_mul _ _).trans ((cE hp hq).mul (cH hp hq))
end
def Rep (P:E4) (x y:Int):Prop:=P.lt∧¬C0 P.z 0∧C0 P.x (x*P.z)∧C0 P.y (y*P.z)∧C0 P.t (x*y*P.z)
def eI (x1 y1 x2 y2:Int):Int:=(dN:Int)*x1*x2*y1*y2
theorem plus_ne {x1 y1 x2 y2:Int} (h1:On x1 y1) (h2:On x2 y2):¬C0 (1+eI x1 y1 x2 y2) 0:=fun h=>complete h1 h2 (by
 unfold eI at h
 exact h.lc1 ((dN:Int)*x1*x2*y1*y2-1) (by grind))
theorem minus_ne {x1 y1 x2 y2:Int} (h1:On x1 y1) (h2:On x2 y2):¬C0 (1-eI x1 y1 x2 y2) 0:=fun h=>complete h1 h2 (by
 unfold eI at h
 exact h.lc1 (-((dN:Int)*x1*x2*y1*y2)-1) (by grind))
def IsSum (x1 y1 x2 y2 x3 y3:Int):Prop:=C0 (x3*(1+eI x1 y1 x2 y2)) (x1*y2+x2*y1)∧C0 (y3*(1-eI x1 y1 x2 y2)) (y1*y2+x1*x2)
theorem rep_add {p q:E4} {x1 y1 x2 y2 x3 y3:Int} (hp:Rep p x1 y1) (hq:Rep q x2 y2) (h1:On x1 y1) (h2:On x2 y2) (hs:IsSum x1 y1 x2 y2 x3 y3):Rep (pAdd p q) x3 y3:=by
 obtain ⟨pl,pz,px,py,pt⟩:=hp
 obtain ⟨ql,qz,qx,qy,qt⟩:=hq
 obtain ⟨s1,s2⟩:=hs
 have hplus:=plus_ne h1 h2
 have hminus:=minus_ne h1 h2
 have cx:=c3x pl ql
 have cy:=c3y pl ql
 have cz:=c3z p q
 have ct:=c3t pl ql
 have tt:C0 ((p.t:Int)*q.t) (x1*y1*p.z*(x2*y2*q.z)):=pt.mul qt
 have xy:C0 ((p.x:Int)*q.y+p.y*q.x) (x1*p.z*(y2*q.z)+y1*p.z*(x2*q.z)):=(px.mul qy).add (py.mul qx)
 have yy:C0 ((p.y:Int)*q.y+p.x*q.x) (y1*p.z*(y2*q.z)+x1*p.z*(x2*q.z)):=(py.mul qy).add (px.mul qx)
 have f:C0 ((p.z:Int)*q.z-dN*p.t*q.t) (p.z*q.z*(1-eI x1 y1 x2 y2)):=tt.lc1 (-(dN:Int)) (by unfold eI;grind)
 have g:C0 ((p.z:Int)*q.z+dN*p.t*q.t) (p.z*q.z*(1+eI x1 y1 x2 y2)):=tt.lc1 (dN:Int) (by unfold eI;grind)
 have hz:C0 ((pAdd p q).z:Int) (2*(p.z*q.z*(1-eI x1 y1 x2 y2))*(2*(p.z*q.z*(1+eI x1 y1 x2 y2)))):=cz.trans (((Cz.refl _ 2).mul f).mul ((Cz.refl _ 2).mul g))
 have hx:C0 ((pAdd p q).x:Int) (2*(x1*p.z*(y2*q.z)+y1*p.z*(x2*q.z))*(2*(p.z*q.z*(1-eI x1 y1 x2 y2)))):=cx.trans (((Cz.refl _ 2).mul xy).mul ((Cz.refl _ 2).mul f))
 have hy:C0 ((pAdd p q).y:Int) (2*(p.z*q.z*(1+eI x1 y1 x2 y2))*(2*(y1*p.z*(y2*q.z)+x1*p.z*(x2*q.z)))):=cy.trans (((Cz.refl _ 2).mul g).mul ((Cz.refl _ 2).mul yy))
 have ht:C0 ((pAdd p q).t:Int) (2*(x1*p.z*(y2*q.z)+y1*p.z*(x2*q.z))*(2*(y1*p.z*(y2*q.z)+x1*p.z*(x2*q.z)))):=ct.trans (((Cz.refl _ 2).mul xy).mul ((Cz.refl _ 2).mul yy))
 refine ⟨pAdd_lt p q,fun h=>mul_ne (mul_ne two_ne (mul_ne (mul_ne pz qz) hminus)) (mul_ne two_ne (mul_ne (mul_ne pz qz) hplus)) (hz.symm.trans h),?_,?_,?_⟩
 ·refine hx.trans (Cz.trans ?_ ((Cz.refl _ x3).mul hz).symm)
  exact s1.lc1 (-(4*(p.z*q.z)*(p.z*q.z)*(1-eI x1 y1 x2 y2))) (by generalize eI x1 y1 x2 y2=e;grind)
 ·refine hy.trans (Cz.trans ?_ ((Cz.refl _ y3).mul hz).symm)
  exact s2.lc1 (-(4*(p.z*q.z)*(p.z*q.z)*(1+eI x1 y1 x2 y2))) (by generalize eI x1 y1 x2 y2=e;grind)
 ·refine ht.trans (Cz.trans ?_ ((Cz.refl _ (x3*y3)).mul hz).symm)
  exact s1.lc2 s2 (-(4*(p.z*q.z)*(p.z*q.z)*(y1*y2+x1*x2))) (-(4*(p.z*q.z)*(p.z*q.z)*(x3*(1+eI x1 y1 x2 y2)))) (by generalize eI x1 y1 x2 y2=e;grind)
theorem sum_uniq {x1 y1 x2 y2 x3 y3 x4 y4:Int} (h1:On x1 y1) (h2:On x2 y2) (hs:IsSum x1 y1 x2 y2 x3 y3) (ht:IsSum x1 y1 x2 y2 x4 y4):C0 x3 x4∧C0 y3 y4:=by
 refine ⟨cz_cancel pr0 (a:=1+eI x1 y1 x2 y2) ?_ (plus_ne h1 h2),cz_cancel pr0 (a:=1-eI x1 y1 x2 y2) ?_ (minus_ne h1 h2)⟩
 ·exact hs.1.lc2 ht.1 1 (-1) (by grind)
 ·exact hs.2.lc2 ht.2 1 (-1) (by grind)
theorem sum_on {x1 y1 x2 y2 x3 y3:Int} (h1:On x1 y1) (h2:On x2 y2) (hs:IsSum x1 y1 x2 y2 x3 y3):On x3 y3:=by
 have hplus:=plus_ne h1 h2
 have hminus:=minus_ne h1 h2
 have hBD:=mul_ne hplus hminus
 obtain ⟨s1,s2⟩:=hs
 have hc:=cert_c (dN:Int) x1 y1 x2 y2
 unfold On at*
 refine cz_cancel pr0 (a:=((1+eI x1 y1 x2 y2)*(1-eI x1 y1 x2 y2))*((1+eI x1 y1 x2 y2)*(1-eI x1 y1 x2 y2))) ?_ (mul_ne hBD hBD)
 have a1:C0 (x3*(1+eI x1 y1 x2 y2)*(x3*(1+eI x1 y1 x2 y2))) ((x1*y2+x2*y1)*(x1*y2+x2*y1)):=s1.mul s1
 have a2:C0 (y3*(1-eI x1 y1 x2 y2)*(y3*(1-eI x1 y1 x2 y2))) ((y1*y2+x1*x2)*(y1*y2+x1*x2)):=s2.mul s2
 have a3:=a1.mul a2
 have key:C0 (((y1*y2+x1*x2)*(1+eI x1 y1 x2 y2))*((y1*y2+x1*x2)*(1+eI x1 y1 x2 y2))-((x1*y2+x2*y1)*(1-eI x1 y1 x2 y2))*((x1*y2+x2*y1)*(1-eI x1 y1 x2 y2))) (((1+eI x1 y1 x2 y2)*(1-eI x1 y1 x2 y2))*((1+eI x1 y1 x2 y2)*(1-eI x1 y1 x2 y2))+dN*((x1*y2+x2*y1)*(x1*y2+x2*y1))*((y1*y2+x1*x2)*(y1*y2+x1*x2))):=
  h1.lc2 h2 (cc1 dN x1 y1 x2 y2) (cc2 dN x1 y1 x2 y2) (by unfold eI;exact hc)
 generalize eI x1 y1 x2 y2=e at*
 exact key.lc4 a1 a2 a3 1 (-((1-e)*(1-e))) ((1+e)*(1+e)) (-(dN:Int)) (by grind)
theorem half_x {m:Nat} {B D A C ax ay x3 y3 bx d:Int} (a1:Cz m (ax*B) A) (a2:Cz m (ay*D) C) (e1:Cz m (bx*(1+d*ax*x3*ay*y3)) (ax*y3+x3*ay)):
  Cz m (bx*(B*D+d*A*C*x3*y3)) (A*D*y3+C*B*x3)∧Cz m (B*D*(1+d*ax*x3*ay*y3)) (B*D+d*A*C*x3*y3):=by
 have aa:=a1.mul a2
 exact ⟨e1.lc4 aa a1 a2 (B*D) (-(bx*d*x3*y3)) (D*y3) (x3*B) (by grind),aa.lc1 (d*x3*y3) (by grind)⟩
theorem half_y {m:Nat} {B D A C ax ay x3 y3 bx d:Int} (a1:Cz m (ax*B) A) (a2:Cz m (ay*D) C) (e1:Cz m (bx*(1-d*ax*x3*ay*y3)) (ay*y3+ax*x3)):
  Cz m (bx*(B*D-d*A*C*x3*y3)) (C*B*y3+A*D*x3)∧Cz m (B*D*(1-d*ax*x3*ay*y3)) (B*D-d*A*C*x3*y3):=by
 have aa:=a1.mul a2
 exact ⟨e1.lc4 aa a1 a2 (B*D) (bx*d*x3*y3) (D*x3) (y3*B) (by grind),aa.lc1 (-(d*x3*y3)) (by grind)⟩
theorem sum_assoc {x1 y1 x2 y2 x3 y3 ax ay bx bY cx cy dx dy:Int} (h1:On x1 y1) (h2:On x2 y2) (h3:On x3 y3) (ha:IsSum x1 y1 x2 y2 ax ay) (hb:IsSum ax ay x3 y3 bx bY) (hc:IsSum x2 y2 x3 y3 cx cy) (hd:IsSum x1 y1 cx cy dx dy):C0 bx dx∧C0 bY dy:=by
 have oa:=sum_on h1 h2 ha
 have oc:=sum_on h2 h3 hc
 have k1:=cert_x (dN:Int) x1 y1 x2 y2 x3 y3
 have k2:=cert_y (dN:Int) x1 y1 x2 y2 x3 y3
 have n12:=mul_ne (plus_ne h1 h2) (minus_ne h1 h2)
 have n23:=mul_ne (plus_ne h2 h3) (minus_ne h2 h3)
 have ba3p:=plus_ne oa h3
 have ba3m:=minus_ne oa h3
 have b1cp:=plus_ne h1 oc
 have b1cm:=minus_ne h1 oc
 obtain ⟨a1,a2⟩:=ha
 obtain ⟨c1,c2⟩:=hc
 obtain ⟨e1,e2⟩:=hb
 obtain ⟨f1,f2⟩:=hd
 unfold eI at ba3p ba3m b1cp b1cm e1 e2 f1 f2
 obtain ⟨l1,l2⟩:=half_x a1 a2 e1
 obtain ⟨r1,r2⟩:=half_x (d:=(dN:Int)) (x3:=x1) (y3:=y1) (bx:=dx) c1 c2 (f1.lc1 1 (by grind))
 obtain ⟨l3,l4⟩:=half_y a1 a2 e2
 obtain ⟨r3,r4⟩:=half_y (d:=(dN:Int)) (x3:=x1) (y3:=y1) (bx:=dy) c1 c2 (f2.lc1 1 (by grind))
 have key1:=h1.lc3 h2 h3 _ _ _ k1
 have key2:=h1.lc3 h2 h3 _ _ _ k2
 have nl1:¬C0 _ 0:=fun h=>mul_ne n12 ba3p (l2.trans h)
 have nr1:¬C0 _ 0:=fun h=>mul_ne n23 b1cp ((Cz.of_eq (by grind)).trans (r2.trans h))
 have nl3:¬C0 _ 0:=fun h=>mul_ne n12 ba3m (l4.trans h)
 have nr3:¬C0 _ 0:=fun h=>mul_ne n23 b1cm ((Cz.of_eq (by grind)).trans (r4.trans h))
 unfold eI at l1 r1 l3 r3 nl1 nr1 nl3 nr3
 constructor
 ·refine cz_cancel pr0 ?_ (mul_ne nl1 nr1)
  generalize (1+(dN:Int)*x1*x2*y1*y2)=B at*
  generalize (1-(dN:Int)*x1*x2*y1*y2)=D at*
  generalize (1+(dN:Int)*x2*x3*y2*y3)=B' at*
  generalize (1-(dN:Int)*x2*x3*y2*y3)=D' at*
  generalize x1*y2+x2*y1=A at*
  generalize y1*y2+x1*x2=C at*
  generalize x2*y3+x3*y2=A' at*
  generalize y2*y3+x2*x3=C' at*
  exact key1.lc3 l1 r1 1 (B'*D'+dN*A'*C'*x1*y1) (-(B*D+dN*A*C*x3*y3)) (by grind)
 ·refine cz_cancel pr0 ?_ (mul_ne nl3 nr3)
  generalize (1+(dN:Int)*x1*x2*y1*y2)=B at*
  generalize (1-(dN:Int)*x1*x2*y1*y2)=D at*
  generalize (1+(dN:Int)*x2*x3*y2*y3)=B' at*
  generalize (1-(dN:Int)*x2*x3*y2*y3)=D' at*
  generalize x1*y2+x2*y1=A at*
  generalize y1*y2+x1*x2=C at*
  generalize x2*y3+x3*y2=A' at*
  generalize y2*y3+x2*x3=C' at*
  exact key2.lc3 l3 r3 1 (B'*D'-dN*A'*C'*x1*y1) (-(B*D-dN*A*C*x3*y3)) (by grind)
theorem onE_iff {x y:Nat}:onE x y=true↔x<modN 0∧y<modN 0∧On x y:=by
 have hm:=modN_pos 0
 have h1:C0 (subM (modN 0) (mulM (modN 0) y y) (mulM (modN 0) x x)) ((y:Int)*y-x*x):=(cz_sub (mulM_lt hm)).trans ((cz_mul y y).sub (cz_mul x x))
 have h2:C0 (addM (modN 0) 1 (mulM (modN 0) dN (mulM (modN 0) (mulM (modN 0) x x) (mulM (modN 0) y y)))) (1+(dN:Int)*(x*x)*(y*y)):=
  (cz_add _ _).trans (((Cz.refl _ 1).add ((cz_mul _ _).trans ((Cz.refl _ _).mul ((cz_mul _ _).trans ((cz_mul x x).mul (cz_mul y y)))))).trans (Cz.of_eq (by grind)))
 unfold onE ltE
 rw[eqE_in]
 unfold pOn
 simp only[Bool.and_eq_true,decide_eq_true_iff]
 constructor
 ·rintro ⟨⟨a,b⟩,c⟩
  exact ⟨a,b,h1.symm.trans ((Cz.of_eq (by rw[c])).trans h2)⟩
 ·rintro ⟨a,b,c⟩
  exact ⟨⟨a,b⟩,Cz.nat (subM_lt hm) (addM_lt hm) (h1.trans (Cz.trans c h2.symm))⟩
theorem down_rep {P:E4} {x y:Nat} (h:Rep P x y) (hx:x<modN 0) (hy:y<modN 0):eDownX (inE P)=x∧eDownY (inE P)=y:=by
 obtain ⟨hl,hz,h1,h2,_⟩:=h
 have hi:=inv_cz (k:=0) (by decide) hl.2.2.1 hz
 have hm:=modN_pos 0
 have key:∀(c v:Nat),v<modN 0→C0 c ((v:Int)*P.z)→pDown P c=v:=by
  intro c v hv hc
  refine Cz.nat (mulM_lt hm) hv ((cz_mul _ _).trans ?_)
  show C0 ((c:Int)*invP 0 P.z) v
  exact hc.lc2 hi (invP 0 P.z) v (by grind)
 rw[eDownX_in hl,eDownY_in hl]
 exact ⟨key _ _ hx h1,key _ _ hy h2⟩
theorem rep_lift {x y:Nat} (hx:x<modN 0) (hy:y<modN 0):Rep (pLift x y) x y:=by
 refine ⟨pLift_lt hx hy,one_ne,Cz.of_eq ?_,Cz.of_eq ?_,(cz_mul x y).trans (Cz.of_eq ?_)⟩
 ·show (x:Int)=x*((1:Nat):Int);grind
 ·show (y:Int)=y*((1:Nat):Int);grind
 ·show (x:Int)*y=x*y*((1:Nat):Int);grind
theorem czN_lt {m:Nat} (hm:0<m) (z:Int):czN m z<m:=by
 unfold czN
 have:=Int.emod_lt_of_pos z (show (0:Int)<(m:Int) by omega)
 have:=Int.emod_nonneg z (show (m:Int)≠0 by omega)
 omega
theorem sum_ex {x1 y1 x2 y2:Int} (h1:On x1 y1) (h2:On x2 y2):∃x3 y3:Nat,x3<modN 0∧y3<modN 0∧IsSum x1 y1 x2 y2 x3 y3:=by
 have hm:=modN_pos 0
 have key:∀n d:Int,¬C0 d 0→∃q:Nat,q<modN 0∧C0 ((q:Int)*d) n:=by
  intro n d hd
  have hc:=czN_cz hm d
  have hi:=inv_cz (k:=0) (by decide) (czN_lt hm d) (fun h=>hd (hc.symm.trans h))
  refine ⟨czN (modN 0) (n*invP 0 (czN (modN 0) d)),czN_lt hm _,?_⟩
  have hq:=czN_cz hm (n*invP 0 (czN (modN 0) d))
  exact hq.lc3 hi hc d n (-(n*invP 0 (czN (modN 0) d))) (by grind)
 obtain ⟨x3,a1,a2⟩:=key (x1*y2+x2*y1) _ (plus_ne h1 h2)
 obtain ⟨y3,b1,b2⟩:=key (y1*y2+x1*x2) _ (minus_ne h1 h2)
 exact ⟨x3,y3,a1,b1,a2,b2⟩
abbrev Pt:=Nat×Nat
def Pt.on (p:Pt):Prop:=p.1<modN 0∧p.2<modN 0∧On p.1 p.2
noncomputable def gadd (p q:Pt):Pt:=(eDownX (sumE p.1 p.2 q.1 q.2),eDownY (sumE p.1 p.2 q.1 q.2))
def gnone:Pt:=(0,1)
theorem on_of {x y:Nat} (h:onE x y=true):Pt.on (x,y):=onE_iff.1 h
theorem Pt.on.e {p:Pt} (h:p.on):onE p.1 p.2=true:=onE_iff.2 h
theorem rep_sum {P Q:E4} {p q:Pt} (hp:p.on) (hq:q.on) (hP:Rep P p.1 p.2) (hQ:Rep Q q.1 q.2):(gadd p q).on∧Rep (pAdd P Q) (gadd p q).1 (gadd p q).2∧IsSum p.1 p.2 q.1 q.2 (gadd p q).1 (gadd p q).2:=by
 obtain ⟨x3,y3,hx,hy,hs⟩:=sum_ex hp.2.2 hq.2.2
 have h1:=rep_add (rep_lift hp.1 hp.2.1) (rep_lift hq.1 hq.2.1) hp.2.2 hq.2.2 hs
 obtain ⟨d1,d2⟩:=down_rep h1 hx hy
 have e1:(gadd p q).1=x3:=by
  show eDownX (sumE p.1 p.2 q.1 q.2)=x3
  unfold sumE
  rw[eLift_in,eLift_in,eAdd_in (pLift_lt hp.1 hp.2.1) (pLift_lt hq.1 hq.2.1),d1]
 have e2:(gadd p q).2=y3:=by
  show eDownY (sumE p.1 p.2 q.1 q.2)=y3
  unfold sumE
  rw[eLift_in,eLift_in,eAdd_in (pLift_lt hp.1 hp.2.1) (pLift_lt hq.1 hq.2.1),d2]
 have hon:=sum_on hp.2.2 hq.2.2 hs
 have hr:=rep_add hP hQ hp.2.2 hq.2.2 hs
 unfold Pt.on
 rw[e1,e2]
 exact ⟨⟨hx,hy,hon⟩,hr,hs⟩
theorem gadd_on {p q:Pt} (hp:p.on) (hq:q.on):(gadd p q).on:=(rep_sum hp hq (rep_lift hp.1 hp.2.1) (rep_lift hq.1 hq.2.1)).1
theorem gadd_is {p q:Pt} (hp:p.on) (hq:q.on):IsSum p.1 p.2 q.1 q.2 (gadd p q).1 (gadd p q).2:=(rep_sum hp hq (rep_lift hp.1 hp.2.1) (rep_lift hq.1 hq.2.1)).2.2
theorem gadd_eq {p q r:Pt} (hp:p.on) (hq:q.on) (h1:r.1<modN 0) (h2:r.2<modN 0) (h:IsSum p.1 p.2 q.1 q.2 r.1 r.2):gadd p q=r:=by
 obtain ⟨a,b⟩:=sum_uniq hp.2.2 hq.2.2 (gadd_is hp hq) h
 have hg:=gadd_on hp hq
 exact Prod.ext (Cz.nat hg.1 h1 a) (Cz.nat hg.2.1 h2 b)
theorem gnone_on:gnone.on:=onE_iff.1 onE_none
theorem gadd_assoc {p q r:Pt} (hp:p.on) (hq:q.on) (hr:r.on):gadd (gadd p q) r=gadd p (gadd q r):=by
 have h1:=gadd_on hp hq
 have h2:=gadd_on hq hr
 have h3:=gadd_on h1 hr
 have h4:=gadd_on hp h2
 obtain ⟨a,b⟩:=sum_assoc hp.2.2 hq.2.2 hr.2.2 (gadd_is hp hq) (gadd_is h1 hr) (gadd_is hq hr) (gadd_is hp h2)
 exact Prod.ext (Cz.nat h3.1 h4.1 a) (Cz.nat h3.2.1 h4.2.1 b)
theorem gadd_none {p:Pt} (hp:p.on):gadd p gnone=p:=by
 refine gadd_eq hp gnone_on hp.1 hp.2.1 ⟨Cz.of_eq ?_,Cz.of_eq ?_⟩
 ·show (p.1:Int)*(1+eI p.1 p.2 ((0:Nat):Int) ((1:Nat):Int))=p.1*((1:Nat):Int)+((0:Nat):Int)*p.2
  unfold eI;grind
 ·show (p.2:Int)*(1-eI p.1 p.2 ((0:Nat):Int) ((1:Nat):Int))=p.2*((1:Nat):Int)+p.1*((0:Nat):Int)
  unfold eI;grind
noncomputable def nmul (p:Pt):Nat→Pt
 |0=>gnone
 |k+1=>gadd (nmul p k) p
theorem nmul_on {p:Pt} (hp:p.on):∀k,(nmul p k).on
 |0=>gnone_on
 |k+1=>gadd_on (nmul_on hp k) hp
theorem nmul_add {p:Pt} (hp:p.on) (a:Nat):∀b,nmul p (a+b)=gadd (nmul p a) (nmul p b)
 |0=>(gadd_none (nmul_on hp a)).symm
 |b+1=>by
  show gadd (nmul p (a+b)) p=gadd (nmul p a) (gadd (nmul p b) p)
  rw[nmul_add hp a b,gadd_assoc (nmul_on hp a) (nmul_on hp b) hp]
theorem rep_step {k j:Nat} {P X:E4} {p:Pt} {a:Nat} (hp:p.on) (hP:Rep P p.1 p.2) (hX:Rep X (nmul p a).1 (nmul p a).2):
  Rep (pStep k P j X) (nmul p (2*a+bitN k j)).1 (nmul p (2*a+bitN k j)).2:=by
 have h1:=(rep_sum (nmul_on hp a) (nmul_on hp a) hX hX).2.1
 rw[←nmul_add hp a a,←Nat.two_mul] at h1
 unfold pStep bitB
 have hb:=bitN_le k j
 by_cases h:bitN k j=1
 ·rw[decide_eq_true h,cond_true,h]
  exact (rep_sum (nmul_on hp (2*a)) hp h1 hP).2.1
 ·rw[decide_eq_false h,cond_false,show bitN k j=0 by omega]
  exact h1
theorem rep_timesG {k:Nat} {P:E4} {p:Pt} (hp:p.on) (hP:Rep P p.1 p.2):∀(j:Nat) (X:E4) (a:Nat),Rep X (nmul p a).1 (nmul p a).2→a=k/2^j→Rep (pTimesG k P j X) (nmul p k).1 (nmul p k).2
 |0,X,a,hX,ha=>by
  rw[Nat.pow_zero,Nat.div_one] at ha
  subst ha;exact hX
 |j+1,X,a,hX,ha=>by
  refine rep_timesG hp hP j (pStep k P j X) (2*a+bitN k j) (rep_step hp hP hX) ?_
  subst ha
  unfold bitN
  rw[Nat.pow_succ,←Nat.div_div_eq_div_mul]
  omega
theorem rep_times {k:Nat} (hk:k<4294967296^8) {P:E4} {p:Pt} (hp:p.on) (hP:Rep P p.1 p.2):Rep (pTimes k P) (nmul p k).1 (nmul p k).2:=by
 refine rep_timesG hp hP _ _ 0 ?_ ?_
 ·exact rep_lift (modN_pos 0) (modN_one 0)
 ·rw[Nat.div_eq_of_lt (lenN_spec hk).1]
theorem times_eq {k x y:Nat} (hk:k<4294967296^8) (h:onE x y=true):eDownX (timE k x y)=(nmul (x,y) k).1∧eDownY (timE k x y)=(nmul (x,y) k).2:=by
 have hp:=on_of h
 have hr:=rep_times hk hp (rep_lift hp.1 hp.2.1)
 have hn:=nmul_on hp k
 unfold timE
 rw[eLift_in,eTimes_in (pLift_lt hp.1 hp.2.1)]
 exact down_rep hr hn.1 hn.2.1
noncomputable def nmX (k px py:Nat):Nat:=(nmul (px,py) k).1
noncomputable def nmY (k px py:Nat):Nat:=(nmul (px,py) k).2
theorem nm_on {k px py:Nat} (h1:onE px py=true):onE (nmX k px py) (nmY k px py)=true:=(nmul_on (on_of h1) k).e
theorem dN0 {x y:Nat} (h:onE x y=true):x<4294967296^8∧y<4294967296^8:=⟨L8 (onE_lt h).1,L8 (onE_lt h).2⟩
end Go.Ev
namespace Go.Ev.H5.Ed
open Go Go.Proofs Go.RowKit
def fnRem (vs:List V1):Option (List Prop×AV):=
 match vs with
 |[x,y]=>match numP 16 x,numP 8 y with
  |some (o,a),some (o',b)=>some ((0<b)::(o++o'),.tup [N8 (remN a b),.one (.i 0)])
  |_,_=>none
 |_=>none
theorem ctRem:CTok ⟨242,fnRem⟩:=by
 intro vs ob r h ho
 simp only[fnRem] at h
 split at h
 ·split at h
  ·rename_i o a o' b hx hy
   simp only[Option.some.injEq,Prod.mk.injEq] at h
   obtain ⟨rfl,rfl⟩:=h
   obtain ⟨h0,ho⟩:=ho
   rw[All_append] at ho
   obtain ⟨h1,h2⟩:=numP_spec hx ho.1
   obtain ⟨h3,h4⟩:=numP_spec hy ho.2
   exact (spec48 a b h1 h3 h0).congr (fun φ=>by simp only[List.map_cons,List.map_nil];rw[←h2 φ,←h4 φ];rfl) (fun _=>rfl)
  ·simp at h
 ·simp at h
noncomputable def LN:List CT:=⟨242,fnRem⟩::⟨114,fn2 fun a b=> .val (N16 (a*b))⟩::⟨237,fn2 fun a b=> .val (N16 (joinN a b))⟩::⟨209,fn1 fun a=> .val (N16 (joinN a 0))⟩::LPk
theorem LN_ok:AllCT LN:=⟨ctRem,fun _ _ _ h ho=>fn2_ok spec92 h ho,fun _ _ _ h ho=>fn2_ok spec77 h ho,fun _ _ _ h ho=>fn1_ok spec73 h ho,LPk_ok⟩
noncomputable def LF:List CT:=LN
theorem LF_ok:AllCT LF:=LN_ok
noncomputable def S31:FuncId→Nat→Bool:=fun f t=>match f with|243=>memN t [13,18]|_=>false
theorem r32 (a b:Nat):callR (mkE LF S31) 1000 211 [zV 2,N8 a,N8 b] [false,false]=
  some ([a<4294967296^8,(!ok1 2 a)=false,b<4294967296^8,(!ok1 2 b)=false,(0:Int)≤2∧(2:Int)<4,modN 2<4294967296^8,a<modN 2,b<modN 2,a<4294967296^8,b<4294967296^8],.tup [N8 (addM (modN 2) a b),.one (.i 0)]):=by kernel_rfl
theorem ok12 {a:Nat} (h:a<modN 2):(!ok1 2 a)=false:=by
 have:=ok1_k (k:=2) (by decide) h
 rw[show ok1 2 a=true from this];rfl
def fnZ2 (g:Nat→Nat→Nat) (vs:List V1):Option (List Prop×AV):=
 match vs with
 |[.one (.i z),x,y]=>match numP 8 x,numP 8 y with
  |some (o,a),some (o',b)=>some ((z=2)::(a<modN 2)::(b<modN 2)::(o++o'),.tup [N8 (g a b),.one (.i 0)])
  |_,_=>none
 |_=>none
theorem fnZ2_ok {f:FuncId} {g:Nat→Nat→Nat} (hg:∀a b,a<modN 2→b<modN 2→Spec f [zV 2,N8 a,N8 b] (.tup [N8 (g a b),.one (.i 0)])):CTok ⟨f,fnZ2 g⟩:=by
 intro vs ob r h ho
 simp only[fnZ2] at h
 split at h
 ·split at h
  ·rename_i o a o' b hx hy
   simp only[Option.some.injEq,Prod.mk.injEq] at h
   obtain ⟨rfl,rfl⟩:=h
   obtain ⟨rfl,ha,hb,ho⟩:=ho
   rw[All_append] at ho
   obtain ⟨h1,h2⟩:=numP_spec hx ho.1
   obtain ⟨h3,h4⟩:=numP_spec hy ho.2
   exact (hg a b ha hb).congr (fun φ=>by simp only[List.map_cons,List.map_nil];rw[←h2 φ,←h4 φ];rfl) (fun _=>rfl)
  ·simp at h
 ·simp at h
theorem ct32:CTok ⟨211,fnZ2 (addM (modN 2))⟩:=fnZ2_ok fun a b ha hb=>spec_run (envMk LF_ok S31) rfl (r32 a b) ⟨L8 ha,ok12 ha,L8 hb,ok12 hb,by decide,modN_lt 2,ha,hb,L8 ha,L8 hb,trivial⟩ rfl rfl
theorem r55 (k:Nat) (px:Nat) (py:Nat):callR E12 1000 239 [N8 k,P2 px py] []=
  some ([modN 0<4294967296^8,facN 0<4294967296,twE<4294967296^8,px<4294967296^8,py<4294967296^8,modN 0=modN 0,facN 0=facN 0,twE=twE,px<modN 0,py<modN 0,modN 0<4294967296^8,facN 0<4294967296,twE<4294967296^8,k<4294967296^8,inN (modN 0) px<4294967296^8,inN (modN 0) py<4294967296^8,inN (modN 0) 1<4294967296^8,mmN (modN 0) (inN (modN 0) px) (inN (modN 0) py)<4294967296^8,modN 0=modN 0,facN 0=facN 0,twE=twE,E4.lt (eLift px py),modN 0<4294967296^8,facN 0<4294967296,twE<4294967296^8,(eTimes k (eLift px py)).1<4294967296^8,(eTimes k (eLift px py)).2<4294967296^8,(eTimes k (eLift px py)).3<4294967296^8,(eTimes k (eLift px py)).4<4294967296^8,modN 0=modN 0,facN 0=facN 0,twE=twE,E4.lt (E4.mk (E4.x (eTimes k (eLift px py))) (E4.y (eTimes k (eLift px py))) (E4.z (eTimes k (eLift px py))) (E4.t (eTimes k (eLift px py))))],.val (dwn (timE k px py))):=by kernel_rfl
noncomputable def gMul:List Val→Option (List Prop×AV)
 |[.n k,.n px,.n py]=>some ([onE px py=true],.val (P2 (nmX k px py) (nmY k px py)))
 |_=>none
theorem ct55:CTok ⟨239,fnS [aN,aPt] gMul⟩:=ctS (by
 intro xs ob r hb h ho
 unfold gMul at h
 split at h
 ·rename_i k px py
  simp only[Option.some.injEq,Prod.mk.injEq] at h
  obtain ⟨rfl,rfl⟩:=h
  obtain ⟨⟨b0,_⟩,⟨b1,b2,_⟩,_⟩:=hb
  obtain ⟨hu,_⟩:=ho
  obtain ⟨h1,h2⟩:=onE_lt hu
  have hS:=spec_run envE12 rfl (r55 k px py) ⟨(modN_lt _),(facN_lt32 0),(L8 twE_lt),(by first|with_reducible assumption|with_reducible exact L8 (by with_reducible assumption)|exact decide_eq_true (by omega)|exact decide_eq_false (by omega)|omega),(by first|with_reducible assumption|with_reducible exact L8 (by with_reducible assumption)|exact decide_eq_true (by omega)|exact decide_eq_false (by omega)|omega),rfl,rfl,rfl,(by first|with_reducible assumption|with_reducible exact L8 (by with_reducible assumption)|exact decide_eq_true (by omega)|exact decide_eq_false (by omega)|omega),(by first|with_reducible assumption|with_reducible exact L8 (by with_reducible assumption)|exact decide_eq_true (by omega)|exact decide_eq_false (by omega)|omega),(modN_lt _),(facN_lt32 0),(L8 twE_lt),(by first|with_reducible assumption|with_reducible exact L8 (by with_reducible assumption)|exact decide_eq_true (by omega)|exact decide_eq_false (by omega)|omega),(L8 (inN_lt (modN_pos _))),(L8 (inN_lt (modN_pos _))),(L8 (inN_lt (modN_pos _))),(L8 (mmN_lt (modN_pos _))),rfl,rfl,rfl,(by first|with_reducible assumption|exact eAdd_lt _ _|exact eLift_lt _ _|exact eTimes_lt _ _|exact hxx),(modN_lt _),(facN_lt32 0),(L8 twE_lt),(by first|with_reducible exact E4.ltx (eTimes_lt _ _)|with_reducible exact E4.lty (eTimes_lt _ _)|with_reducible exact E4.ltz (eTimes_lt _ _)|with_reducible exact E4.ltt (eTimes_lt _ _)),(by first|with_reducible exact E4.ltx (eTimes_lt _ _)|with_reducible exact E4.lty (eTimes_lt _ _)|with_reducible exact E4.ltz (eTimes_lt _ _)|with_reducible exact E4.ltt (eTimes_lt _ _)),(by first|with_reducible exact E4.ltx (eTimes_lt _ _)|with_reducible exact E4.lty (eTimes_lt _ _)|with_reducible exact E4.ltz (eTimes_lt _ _)|with_reducible exact E4.ltt (eTimes_lt _ _)),(by first|with_reducible exact E4.ltx (eTimes_lt _ _)|with_reducible exact E4.lty (eTimes_lt _ _)|with_reducible exact E4.ltz (eTimes_lt _ _)|with_reducible exact E4.ltt (eTimes_lt _ _)),rfl,rfl,rfl,(by first|with_reducible assumption|exact eAdd_lt _ _|exact eLift_lt _ _|exact eTimes_lt _ _|exact hxx),trivial⟩ rfl rfl
  unfold dwn at hS
  rw[(times_eq b0 hu).1,(times_eq b0 hu).2] at hS
  exact hS
 ·simp at h)
noncomputable def LM:List CT:=⟨239,fnS [aN,aPt] gMul⟩::⟨211,fnZ2 (addM (modN 2))⟩::LF
theorem LM_ok:AllCT LM:=⟨ct55,ct32,LF_ok⟩
def lo3 (x:Nat):Nat:=x%4294967296&&&(4294967296-1-7%4294967296)
def hi2 (x:Nat):Nat:=(x%4294967296&&&2147483647%4294967296)%4294967296|||1073741824%4294967296
noncomputable def LX:List CT:=⟨236,fnS5⟩::⟨138,fn84y⟩::⟨14,fnZs⟩::⟨238,fnS [.s [.n8,.n8]] gP82⟩::LM
theorem LX_ok:AllCT LX:=⟨ct54,ct84y,ct21z,ct82p,LM_ok⟩
noncomputable def S26:FuncId→Nat→Bool:=fun f t=>match f with|205=>memN t [11,26]|_=>false
noncomputable def E26:Env:=mkE LX S26
theorem envE26:EnvOK E26:=envMk LX_ok S26
def x26 (a:Nat):List Piece:=[.a (.u .u32 (lo3 (a%4294967296))),.a (.u .u32 (a/4294967296%4294967296)),.a (.u .u32 (a/4294967296/4294967296%4294967296)),.a (.u .u32 (a/4294967296/4294967296/4294967296%4294967296)),
 .a (.u .u32 (a/4294967296/4294967296/4294967296/4294967296%4294967296)),.a (.u .u32 (a/4294967296/4294967296/4294967296/4294967296/4294967296%4294967296)),.a (.u .u32 (a/4294967296/4294967296/4294967296/4294967296/4294967296/4294967296%4294967296)),
 .a (.u .u32 (hi2 (a/4294967296/4294967296/4294967296/4294967296/4294967296/4294967296/4294967296%4294967296)))]
def clL (a:Nat):Nat→Nat
 |0=>lo3 (limb a 0)
 |7=>hi2 (limb a 7)
 |i=>limb a i
theorem lo3_lt (x:Nat):lo3 x<4294967296:=Nat.lt_of_le_of_lt Nat.and_le_left (Nat.mod_lt _ (by decide))
theorem hi2_lt (x:Nat):hi2 x<4294967296:=or_lt32 (Nat.mod_lt _ (by decide)) (by decide)
theorem clL_lt (a i:Nat):clL a i<4294967296:=by
 unfold clL
 split
 ·exact lo3_lt _
 ·exact hi2_lt _
 ·exact limb_lt a _
def expN (a:Nat):Nat:=valU 8 0 (clL a)
theorem expN_lt (a:Nat):expN a<4294967296^8:=valU_lt _ 8 0 fun i _ _=>clL_lt a i
theorem x26_conc (φ:Loc) (a:Nat):concs φ (x26 a)=concs φ [.num 8 (expN a)]:=by
 unfold expN
 rw[concs_valU φ (clL a) 8 fun i _=>clL_lt a i]
 unfold x26
 simp only[Nat.div_div_eq_div_mul,cellsU,clL,limb,Nat.reduceAdd,Nat.pow_zero,Nat.div_one,Nat.pow_one,Nat.reduceMul,Nat.reducePow]
noncomputable def loS (s:ByteArray):ByteArray:=s.extract 0 32
noncomputable def hiS (s:ByteArray):ByteArray:=s.extract 32 s.size
theorem loS_size {s:ByteArray} (h:s.size=64):(loS s).size=32:=by unfold loS;rw[cut_size _ _ _ (by omega)]
theorem hiS_size {s:ByteArray} (h:s.size=64):(hiS s).size=32:=by unfold hiS;rw[cut_size _ _ _ (by omega)];omega
noncomputable def exK (s:ByteArray):Nat:=expN (leS (loS (sum5 s)))
noncomputable def exR (s:ByteArray):ByteArray:=hiS (sum5 s)
noncomputable def mlN (s:ByteArray):Nat:=remN (joinN (leS (loS s)) (leS (hiS s))) (modN 2)
noncomputable def scN (s:ByteArray):Nat:=mlN (sum5 s)
theorem r26 (s:ByteArray):callR E26 1000 205 [sS s] []=
  some ([s.size≤100000000000000,(0:Int)≤32∧(32:Int)≤((sum5 s).size:Int),(loS (sum5 s)).size=32,(0:Int)≤32∧(32:Int)≤((sum5 s).size:Int)],.tup [.agg (x26 (leS (loS (sum5 s)))),sS (exR s)]):=by kernel_rfl
noncomputable def pubB (k:Nat):ByteArray:=packB (nmX k bXN bYN) (nmY k bXN bYN)
theorem r27 (k:Nat):callR E26 1000 207 [N8 k] []=
  some ([k<4294967296^8,bXN<4294967296^8,bYN<4294967296^8,onE bXN bYN=true,nmX k bXN bYN<4294967296^8,nmY k bXN bYN<4294967296^8,onE (nmX k bXN bYN) (nmY k bXN bYN)=true],.val (sS (pubB k))):=by kernel_rfl
theorem ex_ok (s:ByteArray) (h:s.size≤100000000000000):Spec 205 [sS s] (.tup [N8 (exK s),sS (exR s)]):=by
 have hz:=sum5_size s
 refine (spec_run envE26 rfl (r26 s) ⟨h,by omega,loS_size hz,by omega,trivial⟩ rfl rfl).congr (fun _=>rfl) (fun φ=> ?_)
 simp only[AV.conc,List.map_cons,List.map_nil,V1.conc,N8,x26_conc φ,exK]
noncomputable def fnEx (vs:List V1):Option (List Prop×AV):=
 match vs with
 |[.one (.v (.string s))]=>some ([s.size≤100000000000000],.tup [N8 (exK s),sS (exR s)])
 |_=>none
theorem ct26:CTok ⟨205,fnEx⟩:=by
 intro vs ob r h ho
 simp only[fnEx] at h
 split at h
 ·simp only[Option.some.injEq,Prod.mk.injEq] at h
  obtain ⟨rfl,rfl⟩:=h
  exact ex_ok _ ho.1
 ·simp at h
theorem nm_lt (k:Nat):nmX k bXN bYN<4294967296^8∧nmY k bXN bYN<4294967296^8:=dN0 (nm_on onE_base)
theorem ct27:CTok ⟨207,fn1 fun k=> .val (sS (pubB k))⟩:=fun _ _ _ h ho=>fn1_ok (fun k hk=>spec_run envE26 rfl (r27 k) ⟨hk,L8 bXN_lt,L8 bYN_lt,onE_base,(nm_lt k).1,(nm_lt k).2,nm_on onE_base,trivial⟩ rfl rfl) h ho
theorem pubB_size (k:Nat):(pubB k).size=32:=by unfold pubB packB;rw[strOf_size,leB_length]
noncomputable def LY:List CT:=⟨205,fnEx⟩::⟨207,fn1 fun k=> .val (sS (pubB k))⟩::LX
theorem LY_ok:AllCT LY:=⟨ct26,ct27,LX_ok⟩
noncomputable def S11:FuncId→Nat→Bool:=fun f t=>match f with|201=>memN t [8]|_=>false
noncomputable def LS:List CT:=⟨119,fLit⟩::LY
theorem LS_ok:AllCT LS:=⟨ctLit110,LY_ok⟩
noncomputable def E11:Env:=mkE LS S11
theorem envE11:EnvOK E11:=envMk LS_ok S11
def e0:ByteArray:=⟨#[]⟩
theorem r10y (s:ByteArray):callR E11 1000 201 [sS s] [false]=
  some ([(!decide ((↑(ByteArray.size s):Int)=(32:Int)))=false,ByteArray.size s≤100000000000000,exK s<4294967296^8],.tup [sS (pubB (exK s)),.one (.i 0)]):=by kernel_rfl
theorem r10n (s:ByteArray):callR E11 1000 201 [sS s] [true]=
  some ([(!decide ((↑(ByteArray.size s):Int)=(32:Int)))=true],.tup [sS e0,.one (.i 1)]):=by kernel_rfl
theorem scN_lt (s:ByteArray):scN s<modN 2:=remN_lt (modN_pos 2)
theorem mlN_lt (s:ByteArray):mlN s<modN 2:=remN_lt (modN_pos 2)
theorem rem2_lt (x:Nat):remN x (modN 2)<modN 2:=remN_lt (modN_pos 2)
theorem exK_lt (s:ByteArray):exK s<4294967296^8:=expN_lt _
theorem packB_size (x y:Nat):(packB x y).size=32:=by unfold packB;rw[strOf_size,leB_length]
theorem exR_size (s:ByteArray):(exR s).size=32:=hiS_size (sum5_size s)
theorem is32 {s:ByteArray} (h:s.size=32):(!decide ((s.size:Int)=32))=false:=by rw[decide_eq_true (by omega)];rfl
theorem no32 {s:ByteArray} (h:s.size≠32):(!decide ((s.size:Int)=32))=true:=by rw[decide_eq_false (by omega)];rfl
noncomputable def expE (s:ByteArray):Int:=bif decide (s.size=32) then 0 else 1
noncomputable def pubZ (s:ByteArray):ByteArray:=bif decide (s.size=32) then pubB (exK s) else e0
theorem spec10 (s:ByteArray):Spec 201 [sS s] (.tup [sS (pubZ s),.one (.i (expE s))]):=by
 unfold pubZ expE
 by_cases h:s.size=32
 ·rw[decide_eq_true h]
  rw[cond_true,cond_true]
  have hs:s.size≤100000000000000:=by omega
  have h32:=is32 h
  have hk:=exK_lt s
  exact spec_run envE11 rfl (r10y s) ⟨h32,(by first|with_reducible assumption|with_reducible exact scN_lt _|with_reducible exact L8 (scN_lt _)|with_reducible exact mlN_lt _|with_reducible exact L8 (mlN_lt _)|with_reducible exact mulM_lt (modN_pos 2)|with_reducible exact L8 (mulM_lt (modN_pos 2))|with_reducible exact L8 (addM_lt (modN_pos 2))|with_reducible exact rem2_lt _|with_reducible exact L8 (rem2_lt _)|with_reducible exact exK_lt _|with_reducible exact joinN_lt0 (exK_lt _)|with_reducible exact onE_base|with_reducible exact nm_on onE_base|with_reducible exact (nm_lt _).1|with_reducible exact (nm_lt _).2|with_reducible exact sum5_size _|with_reducible exact lit0|(simp only[ByteArray.size_append,pubB_size,packB_size,exR_size,strOf_size,leB_length];omega)|exact decide_eq_true (by omega)|exact decide_eq_false (by omega)|omega),(by first|with_reducible assumption|with_reducible exact scN_lt _|with_reducible exact L8 (scN_lt _)|with_reducible exact mlN_lt _|with_reducible exact L8 (mlN_lt _)|with_reducible exact mulM_lt (modN_pos 2)|with_reducible exact L8 (mulM_lt (modN_pos 2))|with_reducible exact L8 (addM_lt (modN_pos 2))|with_reducible exact rem2_lt _|with_reducible exact L8 (rem2_lt _)|with_reducible exact exK_lt _|with_reducible exact joinN_lt0 (exK_lt _)|with_reducible exact onE_base|with_reducible exact nm_on onE_base|with_reducible exact (nm_lt _).1|with_reducible exact (nm_lt _).2|with_reducible exact sum5_size _|with_reducible exact lit0|(simp only[ByteArray.size_append,pubB_size,packB_size,exR_size,strOf_size,leB_length];omega)|exact decide_eq_true (by omega)|exact decide_eq_false (by omega)|omega),trivial⟩ rfl rfl
 ·rw[decide_eq_false h]
  rw[cond_false,cond_false]
  have hn32:=no32 h
  exact spec_run envE11 rfl (r10n s) ⟨hn32,trivial⟩ rfl rfl
end Go.Ev.H5.Ed
namespace Go.Ev.H5
open Go.Ev.Wn Go.Ev.H5.Ed Go Go.Proofs Go.RowKit
set_option maxRecDepth 100000
noncomputable def mK (s:ByteArray):ByteArray:=hL wE s
noncomputable def mC (s:ByteArray):ByteArray:=hR wE s
noncomputable def cK (s:ByteArray) (i:Nat):ByteArray:=chK 1 (mK s) (mC s) (hdS (mK s) i) (ixS i)
noncomputable def cC (s:ByteArray) (i:Nat):ByteArray:=chC 1 (mK s) (mC s) (hdS (mK s) i) (ixS i)
theorem slMs {s:ByteArray} (h:16≤s.size∧s.size≤64):Spec 203 [.one (.i 1),sS s] (res (mK s) (mC s) 0):=by
 have:=spec22 1 s
 rw[show sdB 1 s=true by unfold sdB;simp;omega] at this
 exact this
theorem slMay (s:ByteArray):mayB 1 (mK s) (mC s)=true:=mayB1 (hL_size _ _) (hR_size _ _)
theorem slMa (s:ByteArray):Spec 200 [.one (.i 1),node (mK s) (mC s)] (bV true):=by
 have:=spec26 1 (mK s) (mC s)
 rwa[slMay] at this
theorem slCh (s:ByteArray) {i:Nat} (hi:2147483648≤i):Spec 204 [.one (.i 1),node (mK s) (mC s),u32 i] (res (cK s i) (cC s i) 0):=spec27h 1 _ _ i (.inl rfl) (slMay s) hi
theorem slMc (s:ByteArray) (i:Nat):Spec 200 [.one (.i 1),node (cK s i) (cC s i)] (bV true):=by
 have:=spec26 1 (cK s i) (cC s i)
 rwa[show mayB 1 (cK s i) (cC s i)=true from mayB1 (hL_size _ _) (hR_size _ _)] at this
theorem slPu {k:ByteArray} (h:k.size=32):Spec 201 [sS k] (.tup [sS (pubZ k),.one (.i 0)]):=by
 have:=spec10 k
 rwa[show expE k=0 by unfold expE;rw[h];rfl] at this
theorem mK_size (s:ByteArray):(mK s).size=32:=hL_size _ _
theorem cK_size (s:ByteArray) (i:Nat):(cK s i).size=32:=hL_size _ _
end Go.Ev.H5
