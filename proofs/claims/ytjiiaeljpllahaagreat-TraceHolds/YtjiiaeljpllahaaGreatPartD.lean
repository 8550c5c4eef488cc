/- Numbers of limbs: what the functions on them come to -/
import Derived.Test.YtjiiaeljpllahaaGreatPartC
namespace Go.Ev
open Go Go.Proofs Go.RowKit
def b8 (n:Nat):Blk:=⟨[.num 8 n],32,true,false,0⟩
theorem eN (n:Nat):er (b8 n):=fun _=>rfl
def z8:Blk:=bN zF
noncomputable def ED:Env:={E0 with
 fn:=fun f vs=>match f with|141=>mT qQ vs|103=>mT qQ vs|102=>mT yL vs|145=>Kj vs|214=>abC vs|_=>none
 S:=fun f t=>match f with|190=>bf t [15,19,21,25,30,42,45,53,58,1000025,1000053]|159=>bf t [12,14,38,43,48,52,62,64,69,1000038,1000062,1000064]|_=>false}
theorem oY:EnvOK ED:=by
 refine ⟨mixed,?_,fun _ _ _ _ _ h=>by simp[ED,E0] at h,fun _ _ _ h=>by simp[ED,E0] at h,fun _ _ _ _ _ _ h=>by simp[ED,E0] at h⟩
 intro f vs ob r h ho
 simp only[ED] at h
 split at h
 ·exact de wO h ho
 ·exact de wn h ho
 ·exact de vr h ho
 ·exact up h ho
 ·exact Sq h ho
 ·simp at h
def cn (w:Nat→Nat) (j:Nat) (i:Int):Nat:=w j/2^min (i.tmod 32).toNat IntKind.u32.bits%cq IntKind.u32&&&1%cq IntKind.u32
def qE (q:Nat→Nat) (j:Nat) (i:Int) (m:Nat):Nat:=
 match Nat.beq m j with
 |true=>q j%4294967296|||1*2^min (i.tmod 32).toNat IntKind.u32.bits%4294967296%4294967296
 |false=>q m
def jg (i:Int):List AV:=bt 63 [(2,pV 0),(3,pV 1),(4,pV 2),(5,pV 3),(6,iV 0),(7,iV i)]
def gD (i:Int):List AV:=bt 74 [(2,pV 0),(3,pV 1),(4,pV 2),(5,pV 3),(6,pV 4),(7,pV 5),(8,iV i)]
theorem WN (i:Int):cw 4 (jg i)=true:=by kernel_rfl
theorem N3 (i:Int):cw 6 (gD i)=true:=by kernel_rfl
def un:Nat→List Bool→List Bool
 |0,r=>false::r
 |n+1,r=>true::un n r
theorem Yj (w q:Nat→Nat) (m r:Nat) (i:Int) (j:Nat) (hj:j<16):aH ED 1000 (ED.S 190) (ah Tryz.prog 190 4) (jg i) [bW w,b8 m,bW q,b8 r] (true::un j (true::un j [])) (jg (i-1)) 4=
  some ([decide (0≤i)=true,i.tdiv 32=((j:Nat):Int),(32:Int)≠0∧br (i.tdiv 32),0≤i.tmod 32,cn w j i≤1,r<4294967296^8,fZ r (cn w j i)<4294967296^8,m<4294967296^8,decide (rm r (cn w j i)=1)=true,fZ r (cn w j i)<4294967296^8,bh (fZ r (cn w j i)) m<4294967296^8,i.tdiv 32=((j:Nat):Int),(32:Int)≠0∧br (i.tdiv 32),0≤i.tmod 32,br (i-1)],.normal,jg (i-1),[bW w,b8 m,bW (qE q j i),b8 (bh (fZ r (cn w j i)) m)]):=by
 match j,hj with
 |0,_|1,_|2,_|3,_|4,_|5,_|6,_|7,_|8,_|9,_|10,_|11,_|12,_|13,_|14,_|15,_=>show _=_;kernel_rfl
 |n+16,h=>exact absurd h (by omega)
theorem aac (w q:Nat→Nat) (m r:Nat) (i:Int) (j:Nat) (hj:j<16):aH ED 1000 (ED.S 190) (ah Tryz.prog 190 4) (jg i) [bW w,b8 m,bW q,b8 r] (true::un j (false::true::un j [])) (jg (i-1)) 4=
  some ([decide (0≤i)=true,i.tdiv 32=((j:Nat):Int),(32:Int)≠0∧br (i.tdiv 32),0≤i.tmod 32,cn w j i≤1,r<4294967296^8,fZ r (cn w j i)<4294967296^8,m<4294967296^8,decide (rm r (cn w j i)=1)=false,decide (gw (fZ r (cn w j i)) m=0)=true,fZ r (cn w j i)<4294967296^8,bh (fZ r (cn w j i)) m<4294967296^8,i.tdiv 32=((j:Nat):Int),(32:Int)≠0∧br (i.tdiv 32),0≤i.tmod 32,br (i-1)],.normal,jg (i-1),[bW w,b8 m,bW (qE q j i),b8 (bh (fZ r (cn w j i)) m)]):=by
 match j,hj with
 |0,_|1,_|2,_|3,_|4,_|5,_|6,_|7,_|8,_|9,_|10,_|11,_|12,_|13,_|14,_|15,_=>show _=_;kernel_rfl
 |n+16,h=>exact absurd h (by omega)
theorem abv (w q:Nat→Nat) (m r:Nat) (i:Int) (j:Nat) (hj:j<16):aH ED 1000 (ED.S 190) (ah Tryz.prog 190 4) (jg i) [bW w,b8 m,bW q,b8 r] (true::un j ([false,false])) (jg (i-1)) 4=
  some ([decide (0≤i)=true,i.tdiv 32=((j:Nat):Int),(32:Int)≠0∧br (i.tdiv 32),0≤i.tmod 32,cn w j i≤1,r<4294967296^8,fZ r (cn w j i)<4294967296^8,m<4294967296^8,decide (rm r (cn w j i)=1)=false,decide (gw (fZ r (cn w j i)) m=0)=false,fZ r (cn w j i)<4294967296^8,bh (fZ r (cn w j i)) m<4294967296^8,br (i-1)],.normal,jg (i-1),[bW w,b8 m,bW q,b8 (fZ r (cn w j i))]):=by
 match j,hj with
 |0,_|1,_|2,_|3,_|4,_|5,_|6,_|7,_|8,_|9,_|10,_|11,_|12,_|13,_|14,_|15,_=>show _=_;kernel_rfl
 |n+16,h=>exact absurd h (by omega)
theorem Z6 (w q u:Nat→Nat) (m:Nat) (i:Int) (j:Nat) (hj:j<16):aH ED 1000 (ED.S 159) (ah Tryz.prog 159 4) (gD i) [bW w,b8 m,bW zF,z8,bW q,bN u] (true::un j (true::un j (un j []))) (gD (i-1)) 6=
  some ([decide (0≤i)=true,i.tdiv 32=((j:Nat):Int),(32:Int)≠0∧br (i.tdiv 32),0≤i.tmod 32,decide (ko u (cn w j i) 8=1)=true,cT u (cn w j i) 0<4294967296,cT u (cn w j i) 1<4294967296,cT u (cn w j i) 2<4294967296,cT u (cn w j i) 3<4294967296,cT u (cn w j i) 4<4294967296,cT u (cn w j i) 5<4294967296,cT u (cn w j i) 6<4294967296,cT u (cn w j i) 7<4294967296,m<4294967296^8,i.tdiv 32=((j:Nat):Int),(32:Int)≠0∧br (i.tdiv 32),i.tdiv 32=((j:Nat):Int),(32:Int)≠0∧br (i.tdiv 32),0≤i.tmod 32,br (i-1)],.normal,gD (i-1),[bW w,b8 m,bW zF,z8,bW (qE q j i),b8 (bh (aW 8 0 (cT u (cn w j i))) m)]):=by
 match j,hj with
 |0,_|1,_|2,_|3,_|4,_|5,_|6,_|7,_|8,_|9,_|10,_|11,_|12,_|13,_|14,_|15,_=>show _=_;kernel_rfl
 |n+16,h=>exact absurd h (by omega)
theorem acw (w q u:Nat→Nat) (m:Nat) (i:Int) (j:Nat) (hj:j<16):aH ED 1000 (ED.S 159) (ah Tryz.prog 159 4) (gD i) [bW w,b8 m,bW zF,z8,bW q,bN u] (true::un j (false::false::un j (un j []))) (gD (i-1)) 6=
  some ([decide (0≤i)=true,i.tdiv 32=((j:Nat):Int),(32:Int)≠0∧br (i.tdiv 32),0≤i.tmod 32,decide (ko u (cn w j i) 8=1)=false,decide (aW 8 0 (cT u (cn w j i))<m)=false,cT u (cn w j i) 0<4294967296,cT u (cn w j i) 1<4294967296,cT u (cn w j i) 2<4294967296,cT u (cn w j i) 3<4294967296,cT u (cn w j i) 4<4294967296,cT u (cn w j i) 5<4294967296,cT u (cn w j i) 6<4294967296,cT u (cn w j i) 7<4294967296,m<4294967296^8,cT u (cn w j i) 0<4294967296,cT u (cn w j i) 1<4294967296,cT u (cn w j i) 2<4294967296,cT u (cn w j i) 3<4294967296,cT u (cn w j i) 4<4294967296,cT u (cn w j i) 5<4294967296,cT u (cn w j i) 6<4294967296,cT u (cn w j i) 7<4294967296,m<4294967296^8,i.tdiv 32=((j:Nat):Int),(32:Int)≠0∧br (i.tdiv 32),i.tdiv 32=((j:Nat):Int),(32:Int)≠0∧br (i.tdiv 32),0≤i.tmod 32,br (i-1)],.normal,gD (i-1),[bW w,b8 m,bW zF,z8,bW (qE q j i),b8 (bh (aW 8 0 (cT u (cn w j i))) m)]):=by
 match j,hj with
 |0,_|1,_|2,_|3,_|4,_|5,_|6,_|7,_|8,_|9,_|10,_|11,_|12,_|13,_|14,_|15,_=>show _=_;kernel_rfl
 |n+16,h=>exact absurd h (by omega)
theorem adU (w q u:Nat→Nat) (m:Nat) (i:Int) (j:Nat) (hj:j<16):aH ED 1000 (ED.S 159) (ah Tryz.prog 159 4) (gD i) [bW w,b8 m,bW zF,z8,bW q,bN u] (true::un j ([false,true])) (gD (i-1)) 6=
  some ([decide (0≤i)=true,i.tdiv 32=((j:Nat):Int),(32:Int)≠0∧br (i.tdiv 32),0≤i.tmod 32,decide (ko u (cn w j i) 8=1)=false,decide (aW 8 0 (cT u (cn w j i))<m)=true,cT u (cn w j i) 0<4294967296,cT u (cn w j i) 1<4294967296,cT u (cn w j i) 2<4294967296,cT u (cn w j i) 3<4294967296,cT u (cn w j i) 4<4294967296,cT u (cn w j i) 5<4294967296,cT u (cn w j i) 6<4294967296,cT u (cn w j i) 7<4294967296,m<4294967296^8,br (i-1)],.normal,gD (i-1),[bW w,b8 m,bW zF,z8,bW q,bN (cT u (cn w j i))]):=by
 match j,hj with
 |0,_|1,_|2,_|3,_|4,_|5,_|6,_|7,_|8,_|9,_|10,_|11,_|12,_|13,_|14,_|15,_=>show _=_;kernel_rfl
 |n+16,h=>exact absurd h (by omega)
theorem ZE (w q:Nat→Nat) (m r:Nat):aH ED 1000 (ED.S 190) (ah Tryz.prog 190 4) (jg (-1)) [bW w,b8 m,bW q,b8 r] [false] (jg (-1)) 4=
  some ([decide ((0:Int)≤-1)=false],.exit 0,jg (-1),[bW w,b8 m,bW q,b8 r]):=by kernel_rfl
theorem Zo (w q u:Nat→Nat) (m:Nat):aH ED 1000 (ED.S 159) (ah Tryz.prog 159 4) (gD (-1)) [bW w,b8 m,bW zF,z8,bW q,bN u] [false] (gD (-1)) 6=
  some ([decide ((0:Int)≤-1)=false],.exit 0,gD (-1),[bW w,b8 m,bW zF,z8,bW q,bN u]):=by kernel_rfl
def dw (V i:Nat):Nat:=V/2^i%2
theorem kY (V i:Nat):dw V i≤1:=by unfold dw;omega
theorem oD (n:Nat):((n:Nat):Int).tmod 32=((n%32:Nat):Int):=rfl
theorem rG (n:Nat):((n:Nat):Int).tdiv 32=((n/32:Nat):Int):=rfl
theorem uL (V j t:Nat) (ht:t<32):cn (ak V) j ((32*j+t:Nat):Int)=dw V (32*j+t):=by
 unfold cn dw
 rw[oD,Int.toNat_natCast,show (32*j+t)%32=t by omega,show IntKind.u32.bits=32 from rfl,Nat.min_eq_left (by omega),show cq IntKind.u32=2^32 from rfl,show 1%2^32=1 from rfl,Nat.and_one_is_mod]
 have h1:ak V j/2^t%2^32%2=ak V j/2^t%2:=Nat.mod_mod_of_dvd _ (by decide)
 rw[h1]
 unfold ak
 rw[show (4294967296:Nat)=2^32 from rfl,←Nat.pow_mul,←Nat.toNat_testBit,Nat.testBit_mod_two_pow,decide_eq_true ht,Bool.true_and,Nat.toNat_testBit,Nat.div_div_eq_div_mul,←Nat.pow_add]
theorem jb (n:Nat):2^(32*n)=4294967296^n:=by rw[Nat.pow_mul]
def dY (V m:Nat):Nat:=V%m
def dr (V m k:Nat):Nat:=V/2^(512-k)%m
def dq (V m:Nat):Nat→Nat→Nat
 |0=>zF
 |k+1=>match decide (m≤2*dr V m k+dw V (511-k)) with
  |true=>qE (dq V m k) ((511-k)/32) ((511-k:Nat):Int)
  |false=>dq V m k
theorem NS {V m k:Nat} (hm:0<m):dr V m k<m:=Nat.mod_lt _ hm
theorem Hy {V m k:Nat} (hk:k<512) (hm:0<m):dr V m (k+1)=if m≤2*dr V m k+dw V (511-k) then 2*dr V m k+dw V (511-k)-m else 2*dr V m k+dw V (511-k):=by
 have e:V/2^(511-k)=2*(V/2^(512-k))+dw V (511-k):=by
  unfold dw
  rw[show 512-k=(511-k)+1 by omega,Nat.pow_succ,←Nat.div_div_eq_div_mul]
  omega
 have h1:=NS (V:=V) (k:=k) hm
 have h2:=kY V (511-k)
 have e2:dr V m (k+1)=(2*dr V m k+dw V (511-k))%m:=by
  unfold dr
  rw[show 512-(k+1)=511-k by omega,e]
  rw[Nat.add_mod,Nat.mul_mod,Nat.add_mod (2*(V/2^(512-k)%m)),Nat.mul_mod 2 (V/2^(512-k)%m),Nat.mod_mod]
 rw[e2]
 split
 ·rw[Nat.mod_eq_sub_mod (by assumption),Nat.mod_eq_of_lt (by omega)]
 ·exact Nat.mod_eq_of_lt (by omega)
section
variable {V m:Nat}
theorem ahK {k j:Nat} (hk:k<512) (hj:(511-k)/32=j) (i:Int) (hi:i=((511-k:Nat):Int)):decide (0≤i)=true∧i.tdiv 32=((j:Nat):Int)∧((32:Int)≠0∧br (i.tdiv 32))∧0≤i.tmod 32∧br (i-1):=by
 subst hi
 rw[oD,rG,hj]
 refine ⟨decide_eq_true (by omega),rfl,⟨by decide,?_⟩,by omega,?_⟩<;>unfold br<;>omega
theorem Ly (w q:Nat→Nat) (m r:Nat) (i:Int):dl (jg i) [bW w,b8 m,bW q,b8 r]=true:=cc (by simp[eN,jN]) (WN i)
theorem Pq (w q u:Nat→Nat) (m:Nat) (i:Int):dl (gD i) [bW w,b8 m,bW zF,z8,bW q,bN u]=true:=cc (by simp[eN,jN,iy,z8]) (N3 i)
theorem ZL (hm:0<m) (hR:m<4294967296^8) {k:Nat} (hk:k<512):
  Goes Tryz.prog (ah Tryz.prog 190 4) .normal (jg ((511-k:Nat):Int)) [bW (ak V),b8 m,bW (dq V m k),b8 (dr V m k)] (jg (((511-k:Nat):Int)-1)) [bW (ak V),b8 m,bW (dq V m (k+1)),b8 (dr V m (k+1))]:=by
 have hj:(511-k)/32<16:=by omega
 obtain ⟨o1,o2,o3,o4,o5⟩:=ahK hk rfl _ rfl
 have hb:cn (ak V) ((511-k)/32) ((511-k:Nat):Int)=dw V (511-k):=by
  have:=uL V ((511-k)/32) ((511-k)%32) (by omega)
  rwa[Nat.div_add_mod] at this
 have hbl:=kY V (511-k)
 have hr:=NS (V:=V) (k:=k) hm
 have il:=Hy (V:=V) hk hm
 have hP:fZ (dr V m k) (dw V (511-k))<4294967296^8:=Nat.mod_lt _ (by decide)
 have hS:∀x y,bh x y<4294967296^8:=fun x y=>Nat.mod_lt _ (by decide)
 by_cases h1:rm (dr V m k) (dw V (511-k))=1
 ·have hfit:m≤2*dr V m k+dw V (511-k):=by unfold rm at h1;omega
  have e:bh (fZ (dr V m k) (dw V (511-k))) m=dr V m (k+1):=by
   rw[il,if_pos hfit];unfold bh fZ;unfold rm at h1;omega
  have hrun:=Yj (ak V) (dq V m k) m (dr V m k) ((511-k:Nat):Int) _ hj
  rw[hb,e] at hrun
  have hq:dq V m (k+1)=qE (dq V m k) ((511-k)/32) ((511-k:Nat):Int):=by simp only[dq];rw[decide_eq_true hfit]
  rw[hq]
  exact Runs.goes oY ⟨_,_,hrun,⟨o1,o2,o3,o4,hbl,by omega,hP,hR,decide_eq_true h1,hP,by rw[←e];exact hS _ _,o2,o3,o4,o5,trivial⟩,Ly _ _ _ _ _⟩
 ·have hX:2*dr V m k+dw V (511-k)<4294967296^8:=by unfold rm at h1;omega
  have hPe:fZ (dr V m k) (dw V (511-k))=2*dr V m k+dw V (511-k):=Nat.mod_eq_of_lt hX
  by_cases h2:m≤2*dr V m k+dw V (511-k)
  ·have e:bh (fZ (dr V m k) (dw V (511-k))) m=dr V m (k+1):=by
    rw[il,if_pos h2,hPe];unfold bh;omega
   have hK:gw (fZ (dr V m k) (dw V (511-k))) m=0:=by rw[hPe];unfold gw;rw[if_neg (by omega)]
   have hrun:=aac (ak V) (dq V m k) m (dr V m k) ((511-k:Nat):Int) _ hj
   rw[hb,e] at hrun
   have hq:dq V m (k+1)=qE (dq V m k) ((511-k)/32) ((511-k:Nat):Int):=by simp only[dq];rw[decide_eq_true h2]
   rw[hq]
   exact Runs.goes oY ⟨_,_,hrun,⟨o1,o2,o3,o4,hbl,by omega,hP,hR,decide_eq_false h1,decide_eq_true hK,hP,by rw[←e];exact hS _ _,o2,o3,o4,o5,trivial⟩,Ly _ _ _ _ _⟩
  ·have e:fZ (dr V m k) (dw V (511-k))=dr V m (k+1):=by rw[il,if_neg h2,hPe]
   have hK:¬gw (fZ (dr V m k) (dw V (511-k))) m=0:=by rw[hPe];unfold gw;rw[if_pos (by omega)];omega
   have hrun:=abv (ak V) (dq V m k) m (dr V m k) ((511-k:Nat):Int) _ hj
   have hq:dq V m (k+1)=dq V m k:=by simp only[dq];rw[decide_eq_false h2]
   rw[hb] at hrun
   rw[hq,←e]
   exact Runs.goes oY ⟨_,_,hrun,⟨o1,o2,o3,o4,hbl,by omega,hP,hR,decide_eq_false h1,decide_eq_false hK,hP,hS _ _,o5,trivial⟩,Ly _ _ _ _ _⟩
theorem Y3 (hV:V<4294967296^16) (hm:0<m) (hR:m<4294967296^8):
  Goes Tryz.prog (.loop (ah Tryz.prog 190 4)) (.exit 0) (jg 511) [bW (ak V),b8 m,bW zF,z8] (jg (-1)) [bW (ak V),b8 m,bW (dq V m 512),b8 (dY V m)]:=by
 have h0:dr V m 0=0:=by unfold dr;rw[show 512-0=32*16 from rfl,jb 16,Nat.div_eq_of_lt hV];exact Nat.zero_mod m
 have h1:dr V m 512=dY V m:=by simp[dr,dY]
 have:=bJ (P:=Tryz.prog) (y:=ah Tryz.prog 190 4) (ex:= .exit 0) (N:=512) (k:=4) (T:=fun k=>jg (511-(k:Int))) (M:=fun k=>[bW (ak V),b8 m,bW (dq V m k),b8 (dr V m k)]) (TF:=jg (-1)) (MF:=[bW (ak V),b8 m,bW (dq V m 512),b8 (dr V m 512)])
  (by simp) (fun _ _=>rfl) (fun k hk=>by
   have:=ZL (V:=V) hm hR hk
   rw[show ((511-k:Nat):Int)-1=511-((k+1:Nat):Int) by omega,show ((511-k:Nat):Int)=511-(k:Int) by omega] at this
   exact this)
  (Runs.goes oY ⟨[false],_,ZE _ _ _ _,⟨by decide,trivial⟩,Ly _ _ _ _ _⟩)
 rw[h1] at this
 refine Goes.before this (T:=jg 511) (M:=[bW (ak V),b8 m,bW zF,z8]) (dM _) ⟨⟨rfl,rfl,rfl,rfl,fun _=>rfl⟩,⟨rfl,rfl,rfl,rfl,fun _=>rfl⟩,⟨rfl,rfl,rfl,rfl,fun _=>rfl⟩,⟨rfl,rfl,rfl,rfl,fun φ=> ?_⟩,trivial⟩ (Ly _ _ _ _ _)
 simp only[h0,b8,z8,bN]
 rfl
theorem Pg (φ:c7) (n:Nat):an φ (b8 n).ps=an φ (bN (ak n)).ps:=fv φ 8 n
theorem FD {w q u':Nat→Nat} {B:Blk} (h:B.elem=32∧B.live=true∧B.ro=false∧B.esz=0) (hc:∀φ,an φ B.ps=an φ (bN u').ps):tv [bW w,b8 m,bW zF,z8,bW q,B] [bW w,b8 m,bW zF,z8,bW q,bN u']:=
 ⟨⟨rfl,rfl,rfl,rfl,fun _=>rfl⟩,⟨rfl,rfl,rfl,rfl,fun _=>rfl⟩,⟨rfl,rfl,rfl,rfl,fun _=>rfl⟩,⟨rfl,rfl,rfl,rfl,fun _=>rfl⟩,⟨rfl,rfl,rfl,rfl,fun _=>rfl⟩,⟨h.1,h.2.1,h.2.2.1,h.2.2.2,hc⟩,trivial⟩
theorem Xk (w q:Nat→Nat) (m n:Nat) (i:Int):dl (gD i) [bW w,b8 m,bW zF,z8,bW q,b8 n]=true:=cc (by simp[eN,jN,iy,z8]) (N3 i)
theorem acF (hm:0<m) (hR:m<4294967296^8) {k:Nat} (hk:k<512):
  Goes Tryz.prog (ah Tryz.prog 159 4) .normal (gD ((511-k:Nat):Int)) [bW (ak V),b8 m,bW zF,z8,bW (dq V m k),bN (ak (dr V m k))] (gD (((511-k:Nat):Int)-1)) [bW (ak V),b8 m,bW zF,z8,bW (dq V m (k+1)),bN (ak (dr V m (k+1)))]:=by
 have hj:(511-k)/32<16:=by omega
 obtain ⟨o1,o2,o3,o4,o5⟩:=ahK hk rfl _ rfl
 have hb:cn (ak V) ((511-k)/32) ((511-k:Nat):Int)=dw V (511-k):=by
  have:=uL V ((511-k)/32) ((511-k)%32) (by omega)
  rwa[Nat.div_add_mod] at this
 have hbl:=kY V (511-k)
 have hr:=NS (V:=V) (k:=k) hm
 have il:=Hy (V:=V) hk hm
 obtain ⟨hp1,hp2⟩:=y9 (dr V m k) (dw V (511-k)) (by omega) hbl
 have hd:∀i,cT (ak (dr V m k)) (dw V (511-k)) i<4294967296:=fun i=>(mF (ba _) hbl i).2
 by_cases h1:ko (ak (dr V m k)) (dw V (511-k)) 8=1
 ·have h1':=h1
  rw[hp2] at h1'
  have hfit:m≤2*dr V m k+dw V (511-k):=by omega
  have e:bh (aW 8 0 (cT (ak (dr V m k)) (dw V (511-k)))) m=dr V m (k+1):=by
   rw[hp1,il,if_pos hfit];unfold bh;omega
  have hrun:=Z6 (ak V) (dq V m k) (ak (dr V m k)) m ((511-k:Nat):Int) _ hj
  rw[hb,e] at hrun
  have hq:dq V m (k+1)=qE (dq V m k) ((511-k)/32) ((511-k:Nat):Int):=by simp only[dq];rw[decide_eq_true hfit]
  rw[hq]
  have hg:Runs ED 1000 (ED.S 159) (ah Tryz.prog 159 4) .normal (gD ((511-k:Nat):Int)) [bW (ak V),b8 m,bW zF,z8,bW (dq V m k),bN (ak (dr V m k))] (gD (((511-k:Nat):Int)-1)) [bW (ak V),b8 m,bW zF,z8,bW (qE (dq V m k) ((511-k)/32) ((511-k:Nat):Int)),(b8 (dr V m (k+1)))]:=⟨_,_,hrun,⟨o1,o2,o3,o4,decide_eq_true h1,hd 0,hd 1,hd 2,hd 3,hd 4,hd 5,hd 6,hd 7,hR,o2,o3,o2,o3,o4,o5,trivial⟩,Xk _ _ _ _ _⟩
  exact (Runs.goes oY hg).after (dM _) (FD ⟨rfl,rfl,rfl,rfl⟩ fun φ=>Pg φ _) (Pq _ _ _ _ _)
 ·have h1':=h1
  rw[hp2] at h1'
  have hX:2*dr V m k+dw V (511-k)<4294967296^8:=by omega
  rw[Nat.mod_eq_of_lt hX] at hp1
  by_cases h2:m≤2*dr V m k+dw V (511-k)
  ·have e:bh (aW 8 0 (cT (ak (dr V m k)) (dw V (511-k)))) m=dr V m (k+1):=by
    rw[hp1,il,if_pos h2];unfold bh;omega
   have hrun:=acw (ak V) (dq V m k) (ak (dr V m k)) m ((511-k:Nat):Int) _ hj
   rw[hb,e] at hrun
   have hq:dq V m (k+1)=qE (dq V m k) ((511-k)/32) ((511-k:Nat):Int):=by simp only[dq];rw[decide_eq_true h2]
   rw[hq]
   have hg:Runs ED 1000 (ED.S 159) (ah Tryz.prog 159 4) .normal (gD ((511-k:Nat):Int)) [bW (ak V),b8 m,bW zF,z8,bW (dq V m k),bN (ak (dr V m k))] (gD (((511-k:Nat):Int)-1)) [bW (ak V),b8 m,bW zF,z8,bW (qE (dq V m k) ((511-k)/32) ((511-k:Nat):Int)),(b8 (dr V m (k+1)))]:=⟨_,_,hrun,⟨o1,o2,o3,o4,decide_eq_false h1,decide_eq_false (by rw[hp1];omega),hd 0,hd 1,hd 2,hd 3,hd 4,hd 5,hd 6,hd 7,hR,hd 0,hd 1,hd 2,hd 3,hd 4,hd 5,hd 6,hd 7,hR,o2,o3,o2,o3,o4,o5,trivial⟩,Xk _ _ _ _ _⟩
   exact (Runs.goes oY hg).after (dM _) (FD ⟨rfl,rfl,rfl,rfl⟩ fun φ=>Pg φ _) (Pq _ _ _ _ _)
  ·have e:aW 8 0 (cT (ak (dr V m k)) (dw V (511-k)))=dr V m (k+1):=by rw[il,if_neg h2,hp1]
   have hrun:=adU (ak V) (dq V m k) (ak (dr V m k)) m ((511-k:Nat):Int) _ hj
   rw[hb] at hrun
   have hq:dq V m (k+1)=dq V m k:=by simp only[dq];rw[decide_eq_false h2]
   rw[hq]
   have hg:Runs ED 1000 (ED.S 159) (ah Tryz.prog 159 4) .normal (gD ((511-k:Nat):Int)) [bW (ak V),b8 m,bW zF,z8,bW (dq V m k),bN (ak (dr V m k))] (gD (((511-k:Nat):Int)-1)) [bW (ak V),b8 m,bW zF,z8,bW (dq V m k),(bN (cT (ak (dr V m k)) (dw V (511-k))))]:=⟨_,_,hrun,⟨o1,o2,o3,o4,decide_eq_false h1,decide_eq_true (by rw[hp1];omega),hd 0,hd 1,hd 2,hd 3,hd 4,hd 5,hd 6,hd 7,hR,o5,trivial⟩,Pq _ _ _ _ _⟩
   exact (Runs.goes oY hg).after (dM _)
    (FD ⟨rfl,rfl,rfl,rfl⟩ fun φ=>by rw[←Pg,←e];exact (mv φ _ 8 (fun i _=>hd i)).symm) (Pq _ _ _ _ _)
theorem gU:ak 0=zF:=by funext i;simp[ak,zF]
theorem abb (hV:V<4294967296^16) (hm:0<m) (hR:m<4294967296^8):
  Goes Tryz.prog (.loop (ah Tryz.prog 159 4)) (.exit 0) (gD 511) [bW (ak V),b8 m,bW zF,z8,bW zF,z8] (gD (-1)) [bW (ak V),b8 m,bW zF,z8,bW (dq V m 512),bN (ak (dY V m))]:=by
 have h0:dr V m 0=0:=by unfold dr;rw[show 512-0=32*16 from rfl,jb 16,Nat.div_eq_of_lt hV];exact Nat.zero_mod m
 have h1:dr V m 512=dY V m:=by simp[dr,dY]
 have:=bJ (P:=Tryz.prog) (y:=ah Tryz.prog 159 4) (ex:= .exit 0) (N:=512) (k:=6) (T:=fun k=>gD (511-(k:Int))) (M:=fun k=>[bW (ak V),b8 m,bW zF,z8,bW (dq V m k),bN (ak (dr V m k))]) (TF:=gD (-1)) (MF:=[bW (ak V),b8 m,bW zF,z8,bW (dq V m 512),bN (ak (dr V m 512))])
  (by simp) (fun _ _=>rfl) (fun k hk=>by
   have:=acF (V:=V) hm hR hk
   rw[show ((511-k:Nat):Int)-1=511-((k+1:Nat):Int) by omega,show ((511-k:Nat):Int)=511-(k:Int) by omega] at this
   exact this)
  (Runs.goes oY ⟨[false],_,Zo _ _ _ _,⟨by decide,trivial⟩,Pq _ _ _ _ _⟩)
 rw[h1,h0,gU] at this
 exact this
end
noncomputable def EDV (V m:Nat):Env:={ED with lp:=fun j=>match Nat.beq j 4 with|true=>some (ah Tryz.prog 190 4,fo (jg 511) [bW (ak V),b8 m,bW zF,z8] (jg (-1)) [bW (ak V),b8 m,bW (dq V m 512),b8 (dY V m)] (.exit 0))|false=>none}
noncomputable def EDR (V m:Nat):Env:={ED with lp:=fun j=>match Nat.beq j 4 with|true=>some (ah Tryz.prog 159 4,fo (gD 511) [bW (ak V),b8 m,bW zF,z8,bW zF,z8] (gD (-1)) [bW (ak V),b8 m,bW zF,z8,bW (dq V m 512),bN (ak (dY V m))] (.exit 0))|false=>none}
theorem adn {V m:Nat} (hV:V<4294967296^16) (hm:0<m) (hR:m<4294967296^8):EnvOK (EDV V m):=kj oY (bz rfl (Y3 hV hm hR))
theorem aaz {V m:Nat} (hV:V<4294967296^16) (hm:0<m) (hR:m<4294967296^8):EnvOK (EDR V m):=kj oY (bz rfl (abb hV hm hR))
def gX (m:Nat):Bool:=match SH [.num 8 m] (bp 8 0 zF) with|some b=>b|none=>true
theorem Z0 (V m:Nat):al (EDV V m) 1000 190 [m5 (ak V),N8 m] [false]=some ([gX m=false,ah Tryz.prog 190 4=ah Tryz.prog 190 4,
  (jg 511,[bW (ak V),b8 m,bW zF,z8])=(jg 511,[bW (ak V),b8 m,bW zF,z8]),dl (jg 511) [bW (ak V),b8 m,bW zF,z8]=true],.tup [m5 (dq V m 512),N8 (dY V m),.one (.i 0)]):=by kernel_rfl
theorem adj (V m:Nat):al (EDR V m) 1000 159 [m5 (ak V),N8 m] []=some ([ah Tryz.prog 159 4=ah Tryz.prog 159 4,
  (gD 511,[bW (ak V),b8 m,bW zF,z8,bW zF,z8])=(gD 511,[bW (ak V),b8 m,bW zF,z8,bW zF,z8]),dl (gD 511) [bW (ak V),b8 m,bW zF,z8,bW zF,z8]=true],.tup [m5 (dq V m 512),C8 (ak (dY V m))]):=by kernel_rfl
theorem jo {m:Nat} (hm:m<4294967296^8):gX m=decide (m=0):=by
 have h1:∃b,SH [.num 8 m] (bp 8 0 zF)=some b:=⟨_,rfl⟩
 obtain ⟨b,hb⟩:=h1
 have h2:=ns (φ:=fun _=>(0,0,0)) _ _ hb
 have h3:SH [.num 8 m] [.num 8 0]=some (decide (m%4294967296^8=0%4294967296^8)&&true):=rfl
 have h4:=ns (φ:=fun _=>(0,0,0)) _ _ h3
 rw[fv _ 8 0,gU] at h4
 rw[h4] at h2
 unfold gX
 rw[hb]
 simp only
 rw[←h2,Nat.mod_eq_of_lt hm]
 simp
def ahw (V m:Nat):AV:= .tup [m5 (dq V m 512),N8 (dY V m),.one (.i 0)]
def Mp (V m:Nat):AV:= .tup [m5 (dq V m 512),N8 (dY V m)]
theorem YT (V m:Nat) (hV:V<4294967296^16) (hR:m<4294967296^8) (hm:0<m):Spec 190 [mO V,N8 m] (ahw V m):=by
 refine (af (adn hV hm hR) rfl (Z0 V m) ⟨by rw[jo hR];exact decide_eq_false (by omega),rfl,rfl,cc (by simp[eN,jN,z8,iy]) (WN _),trivial⟩ rfl rfl).congr (fun φ=>by simp only[List.map_cons,List.map_nil,qN]) (fun φ=>rfl)
theorem acI (V m:Nat) (hV:V<4294967296^16) (hR:m<4294967296^8) (hm:0<m):Spec 159 [mO V,N8 m] (Mp V m):=by
 refine (af (aaz hV hm hR) rfl (adj V m) ⟨rfl,rfl,cc (by simp[eN,jN,z8,iy]) (N3 _),trivial⟩ rfl rfl).congr (fun φ=>by simp only[List.map_cons,List.map_nil,qN]) (fun φ=> ?_)
 simp only[Mp,AV.conc,List.map_cons,List.map_nil,c8]
def xk (g:Nat→Nat→AV) (vs:List V1):Option (List Prop×AV):=
 match vs with
 |[x,y]=>match el 16 x,el 8 y with
  |some (o,a),some (o',b)=>some (o++((0<b)::o'),g a b)
  |_,_=>none
 |_=>none
theorem nS {f:FuncId} {g:Nat→Nat→AV} (hg:∀a b,a<4294967296^16→b<4294967296^8→0<b→Spec f [mO a,N8 b] (g a b)) {vs:List V1} {ob:List Prop} {r:AV} (h:xk g vs=some (ob,r)) (ho:cL ob):Spec f vs r:=by
 unfold xk at h
 split at h
 ·rename_i x y
  split at h
  ·rename_i o a o' b hx hy
   obtain ⟨rfl,rfl⟩:=sI h
   rw[aY] at ho
   obtain ⟨h1,h2⟩:=aX hx ho.1
   obtain ⟨h3,h4⟩:=aX hy ho.2.2
   exact (hg a b h1 h3 ho.2.1).congr (fun φ=>by simp only[List.map_cons,List.map_nil];rw[←h2 φ,←h4 φ];rfl) (fun _=>rfl)
  ·simp at h
 ·simp at h
def ab (k:Nat):Nat:=
 match k with
 |0=>57896044618658097711785492504343953926634992332820282019728792003956564819949
 |1=>115792089210356248762697446949407573530086143415290314195533631308867097853951
 |2=>7237005577332262213973186563042994240857116359379907606001950938285454250989
 |_=>115792089210356248762697446949407573529996955224135760342422259061068512044369
theorem aj (k:Nat):ab k<4294967296^8:=by unfold ab;split<;>decide
theorem ae (k:Nat):0<ab k:=by unfold ab;split<;>decide
def oM (a b:Nat):Nat:=a*b
theorem fG {a b:Nat} (ha:a<4294967296^8) (hb:b<4294967296^8):oM a b<4294967296^16:=by
 unfold oM
 have h1:a*b≤a*4294967296^8:=Nat.mul_le_mul_left _ (Nat.le_of_lt hb)
 have h2:a*4294967296^8<4294967296^8*4294967296^8:=Nat.mul_lt_mul_of_pos_right ha (by decide)
 exact Nat.lt_of_le_of_lt h1 h2
def Hu (a b:Nat):AV:= .val (mO (oM a b))
def co (a b:Nat):Nat:=a+4294967296^8*b
def nc (a b:Nat→Nat) (i:Nat):Nat:=match Nat.blt i 8 with|true=>a i|false=>b (i-8)
theorem aeT (a b:Nat→Nat):al E0 1000 99 [C8 a,C8 b] []=some ([],.val (m5 (nc a b))):=by kernel_rfl
theorem we (φ:c7) (a b:Nat) (ha:a<4294967296^8) (hb:b<4294967296^8):(m5 (nc (ak a) (ak b))).conc φ=(mO (co a b)).conc φ:=by
 refine ry φ (fun i _=> ?_) ?_
 ·unfold nc;split
  ·exact ba _ _
  ·exact ba _ _
 ·have e:=dG (nc (ak a) (ak b)) 8 8 0
  rw[Nat.zero_add] at e
  have e1:aW 8 0 (nc (ak a) (ak b))=a:=by
   rw[←ce a 8 ha]
   exact cv 8 0 (fun i _ hi=>by unfold nc;rw[j9 (by omega)];rw[ce a 8 ha])
  have e2:aW 8 8 (nc (ak a) (ak b))=b:=by
   have h3:=f7 (nc (ak a) (ak b)) 8 8 0
   rw[Nat.zero_add] at h3
   rw[←h3]
   have:aW 8 0 (fun i=>nc (ak a) (ak b) (i+8))=aW 8 0 (ak b):=cv 8 0 (fun i _ hi=>by unfold nc;rw[kh (by omega),Nat.add_sub_cancel])
   rw[this,ce b 8 hb]
  rw[e1,e2] at e
  exact e
theorem Ft (a b:Nat) (ha:a<4294967296^8) (hb:b<4294967296^8):Spec 99 [N8 a,N8 b] (.val (mO (co a b))):=
 (af envE0 rfl (aeT (ak a) (ak b)) trivial rfl rfl).congr (fun φ=>by simp only[List.map_cons,List.map_nil,c8]) (fun φ=>we φ a b ha hb)
def acb (low:Nat):Nat→Nat
 |0=>low
 |k+1=>acb low k*((2+(4294967296-low*acb low k%4294967296%4294967296))%4294967296)%4294967296
def JD (low:Nat):Nat:=(4294967296-acb low 4%4294967296)%4294967296
theorem aiG (low:Nat):al E0 1000 192 [u32 low] []=some ([],.val (u32 (JD low))):=by kernel_rfl
def aT (k:Nat):Nat:=JD (ak (ab k) 0)
def rV (k:Nat):V1:= .agg [.num 8 (ab k),.a (.u .u32 (aT k))]
noncomputable def RF:Env:={E0 with fn:=fun f vs=>match f with|192=>(match vs with|[.one (.u .u32 x)]=>some ([],.val (u32 (JD x)))|_=>none)|_=>none}
theorem Bl:EnvOK RF:=by
 refine ⟨mixed,?_,fun _ _ _ _ _ h=>by simp[RF,E0] at h,fun _ _ _ h=>by simp[RF,E0] at h,fun _ _ _ _ _ _ h=>by simp[RF,E0] at h⟩
 intro f vs ob r h ho
 simp only[RF] at h
 split at h
 ·split at h
  ·obtain ⟨rfl,rfl⟩:=sI h
   exact af envE0 rfl (aiG _) trivial rfl rfl
  ·simp at h
 ·simp at h
theorem VO:al E0 1000 135 [.one (.i 0)] []=some ([],.tup [C8 (ak (ab 0)),.one (.v (.bool true))]):=by kernel_rfl
theorem R3:al E0 1000 9 [.one (.i 0)] []=some ([],.val (C8 (ak (ab 0)))):=by kernel_rfl
theorem QP:al RF 1000 78 [.one (.i 0)] []=some ([],.val (.agg (bp 8 0 (ak (ab 0))++[.a (.u .u32 (aT 0))]))):=by kernel_rfl
theorem Qr:al E0 1000 135 [.one (.i 1)] []=some ([],.tup [C8 (ak (ab 1)),.one (.v (.bool true))]):=by kernel_rfl
theorem R1:al E0 1000 9 [.one (.i 1)] []=some ([],.val (C8 (ak (ab 1)))):=by kernel_rfl
theorem Vs:al RF 1000 78 [.one (.i 1)] []=some ([],.val (.agg (bp 8 0 (ak (ab 1))++[.a (.u .u32 (aT 1))]))):=by kernel_rfl
theorem Wc:al E0 1000 135 [.one (.i 2)] []=some ([],.tup [C8 (ak (ab 2)),.one (.v (.bool true))]):=by kernel_rfl
theorem TI:al E0 1000 9 [.one (.i 2)] []=some ([],.val (C8 (ak (ab 2)))):=by kernel_rfl
theorem TT:al RF 1000 78 [.one (.i 2)] []=some ([],.val (.agg (bp 8 0 (ak (ab 2))++[.a (.u .u32 (aT 2))]))):=by kernel_rfl
theorem R6:al E0 1000 135 [.one (.i 3)] []=some ([],.tup [C8 (ak (ab 3)),.one (.v (.bool true))]):=by kernel_rfl
theorem Vf:al E0 1000 9 [.one (.i 3)] []=some ([],.val (C8 (ak (ab 3)))):=by kernel_rfl
theorem UT:al RF 1000 78 [.one (.i 3)] []=some ([],.val (.agg (bp 8 0 (ak (ab 3))++[.a (.u .u32 (aT 3))]))):=by kernel_rfl
def Ln (g:Nat→AV) (vs:List V1):Option (List Prop×AV):=
 match vs with
 |[.one (.i z)]=>some ([0≤z∧z<4],g z.toNat)
 |_=>none
theorem lX {f:FuncId} {g:Nat→AV} (hg:∀k:Nat,k<4→Spec f [.one (.i (k:Int))] (g k)) {vs:List V1} {ob:List Prop} {r:AV} (h:Ln g vs=some (ob,r)) (ho:cL ob):Spec f vs r:=by
 unfold Ln at h
 split at h
 ·rename_i z
  obtain ⟨rfl,rfl⟩:=sI h
  obtain ⟨n,rfl⟩:∃n:Nat,z=(n:Int):=⟨z.toNat,by have:=ho.1;omega⟩
  exact hg n (by have:=ho.1;omega)
 ·simp at h
def g39 (k:Nat):AV:= .tup [N8 (ab k),.one (.v (.bool true))]
def g21 (k:Nat):AV:= .val (N8 (ab k))
def g52 (k:Nat):AV:= .val (rV k)
theorem Pc (k:Nat) (hk:k<4):Spec 135 [.one (.i (k:Int))] (g39 k):=by
 have h:Spec 135 [.one (.i (k:Int))] (.tup [C8 (ak (ab k)),.one (.v (.bool true))]):=by
  match k,hk with
  |0,_=>exact af envE0 rfl VO trivial rfl rfl
  |1,_=>exact af envE0 rfl Qr trivial rfl rfl
  |2,_=>exact af envE0 rfl Wc trivial rfl rfl
  |3,_=>exact af envE0 rfl R6 trivial rfl rfl
  |n+4,h=>exact absurd h (by omega)
 exact h.congr (fun _=>rfl) (fun φ=>by simp only[g39,AV.conc,List.map_cons,List.map_nil,c8])
theorem wi (k:Nat) (hk:k<4):Spec 9 [.one (.i (k:Int))] (g21 k):=by
 have h:Spec 9 [.one (.i (k:Int))] (.val (C8 (ak (ab k)))):=by
  match k,hk with
  |0,_=>exact af envE0 rfl R3 trivial rfl rfl
  |1,_=>exact af envE0 rfl R1 trivial rfl rfl
  |2,_=>exact af envE0 rfl TI trivial rfl rfl
  |3,_=>exact af envE0 rfl Vf trivial rfl rfl
  |n+4,h=>exact absurd h (by omega)
 exact h.congr (fun _=>rfl) (fun φ=>by simp only[g21,AV.conc,c8])
theorem rC (k:Nat) (hk:k<4):Spec 78 [.one (.i (k:Int))] (g52 k):=by
 have h:Spec 78 [.one (.i (k:Int))] (.val (.agg (bp 8 0 (ak (ab k))++[.a (.u .u32 (aT k))]))):=by
  match k,hk with
  |0,_=>exact af Bl rfl QP trivial rfl rfl
  |1,_=>exact af Bl rfl Vs trivial rfl rfl
  |2,_=>exact af Bl rfl TT trivial rfl rfl
  |3,_=>exact af Bl rfl UT trivial rfl rfl
  |n+4,h=>exact absurd h (by omega)
 exact h.congr (fun _=>rfl) (fun φ=>by
  simp only[g52,rV,AV.conc,V1.conc,bb]
  rw[show ([.num 8 (ab k),.a (.u .u32 (aT k))]:List Piece)=[.num 8 (ab k)]++[.a (.u .u32 (aT k))] from rfl,bb,fv])
noncomputable def ER:Env:={E0 with fn:=fun f vs=>match f with|190=>xk ahw vs|159=>xk Mp vs|9=>Ln g21 vs|99=>mT (fun a b=> .val (mO (co a b))) vs|_=>none}
theorem ie:EnvOK ER:=by
 refine ⟨mixed,?_,fun _ _ _ _ _ h=>by simp[ER,E0] at h,fun _ _ _ h=>by simp[ER,E0] at h,fun _ _ _ _ _ _ h=>by simp[ER,E0] at h⟩
 intro f vs ob r h ho
 simp only[ER] at h
 split at h
 ·exact nS YT h ho
 ·exact nS acI h ho
 ·exact lX wi h ho
 ·exact de Ft h ho
 ·simp at h
theorem ahJ (V m:Nat):al ER 1000 136 [mO V,N8 m] []=some ([V<4294967296^16,0<m,m<4294967296^8],.tup [N8 (dY V m),.one (.i 0)]):=by kernel_rfl
theorem afp (k V:Nat):al ER 1000 98 [.one (.i (k:Int)),mO V] []=some ([0≤(k:Int)∧(k:Int)<4,V<4294967296^16,0<ab k,ab k<4294967296^8],.val (N8 (dY V (ab k)))):=by kernel_rfl
def acA (g:Nat→Nat→AV) (vs:List V1):Option (List Prop×AV):=
 match vs with
 |[.one (.i z),x]=>match el 16 x with
  |some (o,a)=>some ((0≤z∧z<4)::o,g z.toNat a)
  |_=>none
 |_=>none
theorem RA {f:FuncId} {g:Nat→Nat→AV} (hg:∀k a:Nat,k<4→a<4294967296^16→Spec f [.one (.i (k:Int)),mO a] (g k a)) {vs:List V1} {ob:List Prop} {r:AV} (h:acA g vs=some (ob,r)) (ho:cL ob):Spec f vs r:=by
 unfold acA at h
 split at h
 ·rename_i z x
  split at h
  ·rename_i o a hx
   obtain ⟨rfl,rfl⟩:=sI h
   obtain ⟨h1,h2⟩:=aX hx ho.2
   obtain ⟨n,rfl⟩:∃n:Nat,z=(n:Int):=⟨z.toNat,by have:=ho.1;omega⟩
   exact (hg n a (by have:=ho.1;omega) h1).congr (fun φ=>by simp only[List.map_cons,List.map_nil];rw[←h2 φ];rfl) (fun _=>rfl)
  ·simp at h
 ·simp at h
theorem v0 (V m:Nat) (hV:V<4294967296^16) (hR:m<4294967296^8) (hm:0<m):Spec 136 [mO V,N8 m] (.tup [N8 (dY V m),.one (.i 0)]):=
 af ie rfl (ahJ V m) ⟨hV,hm,hR,trivial⟩ rfl rfl
theorem YY (k V:Nat) (hk:k<4) (hV:V<4294967296^16):Spec 98 [.one (.i (k:Int)),mO V] (.val (N8 (dY V (ab k)))):=
 af ie rfl (afp k V) ⟨by omega,hV,ae k,aj k,trivial⟩ rfl rfl
noncomputable def EP:Env:={E0 with
 fn:=fun f vs=>match f with
  |184=>mT Hu vs
  |136=>xk (fun V m=> .tup [N8 (dY V m),.one (.i 0)]) vs
  |144=>mT AX vs
  |141=>mT qQ vs
  |145=>Kj vs
  |_=>none
 S:=fun f t=>match f with
  |84=>bf t [27,30]
  |169=>bf t [27]
  |_=>false}
theorem Cn:EnvOK EP:=by
 refine ⟨mixed,?_,fun _ _ _ _ _ h=>by simp[EP,E0] at h,fun _ _ _ h=>by simp[EP,E0] at h,fun _ _ _ _ _ _ h=>by simp[EP,E0] at h⟩
 intro f vs ob r h ho
 simp only[EP] at h
 split at h
 ·exact de (fun a b ha hb=>uS a b ha hb) h ho
 ·exact nS v0 h ho
 ·exact de KU h ho
 ·exact de wO h ho
 ·exact up h ho
 ·simp at h
def xx (m f:Nat):V1:= .agg [.num 8 m,.a (.u .u32 f)]
theorem adi (m f a b:Nat):al EP 1000 84 [xx m f,N8 a,N8 b] [true]=some ([a<4294967296^8,b<4294967296^8,aD a b<4294967296^8,m<4294967296^8,decide (lb a b=1)=true,
  aD a b<4294967296^8,bh (aD a b) m<4294967296^8],.val (N8 (bh (aD a b) m))):=by kernel_rfl
theorem Ym (m f a b:Nat):al EP 1000 84 [xx m f,N8 a,N8 b] [false,true]=some ([a<4294967296^8,b<4294967296^8,aD a b<4294967296^8,m<4294967296^8,decide (lb a b=1)=false,decide (gw (aD a b) m=0)=true,
  aD a b<4294967296^8,bh (aD a b) m<4294967296^8],.val (N8 (bh (aD a b) m))):=by kernel_rfl
theorem aa6 (m f a b:Nat):al EP 1000 84 [xx m f,N8 a,N8 b] [false,false]=some ([a<4294967296^8,b<4294967296^8,aD a b<4294967296^8,m<4294967296^8,decide (lb a b=1)=false,decide (gw (aD a b) m=0)=false,
  aD a b<4294967296^8,bh (aD a b) m<4294967296^8],.val (N8 (aD a b))):=by kernel_rfl
theorem abE (m f a b:Nat):al EP 1000 169 [xx m f,N8 a,N8 b] [true]=some ([a<4294967296^8,b<4294967296^8,bh a b<4294967296^8,m<4294967296^8,decide (gw a b=1)=true,
  bh a b<4294967296^8,aD (bh a b) m<4294967296^8],.val (N8 (aD (bh a b) m))):=by kernel_rfl
theorem adk (m f a b:Nat):al EP 1000 169 [xx m f,N8 a,N8 b] [false]=some ([a<4294967296^8,b<4294967296^8,bh a b<4294967296^8,m<4294967296^8,decide (gw a b=1)=false,
  bh a b<4294967296^8,aD (bh a b) m<4294967296^8],.val (N8 (bh a b))):=by kernel_rfl
def bK (m a b:Nat):Nat:=a*b%m
def addM (m a b:Nat):Nat:=(a+b)%m
def aw (m a b:Nat):Nat:=(a+m-b)%m
theorem be (a b:Nat):aD a b<4294967296^8:=Nat.mod_lt _ (by decide)
theorem cJ (a b:Nat):bh a b<4294967296^8:=Nat.mod_lt _ (by decide)
def Ni (f:FuncId) (g:Nat→Nat→Nat→Nat):Prop:=∀m q a b,m<4294967296^8→a<m→b<m→Spec f [xx m q,N8 a,N8 b] (.val (N8 (g m a b)))
theorem aau:Ni 84 addM:=by
 intro m q a b hm ha hb
 have h1:a<4294967296^8:=by omega
 have h2:b<4294967296^8:=by omega
 by_cases hK:lb a b=1
 ·have e:bh (aD a b) m=addM m a b:=by
   unfold lb at hK
   unfold bh aD addM
   rw[Nat.mod_eq_sub_mod (show a+b≥m by omega),Nat.mod_eq_of_lt (show a+b-m<m by omega)]
   omega
  have:=af Cn rfl (adi m q a b) ⟨h1,h2,be _ _,hm,decide_eq_true hK,be _ _,cJ _ _,trivial⟩ rfl rfl
  rwa[e] at this
 ·have hs:a+b<4294967296^8:=by unfold lb at hK;omega
  have ha2:aD a b=a+b:=Nat.mod_eq_of_lt hs
  by_cases hc:a+b<m
  ·have e:aD a b=addM m a b:=by unfold addM;rw[ha2,Nat.mod_eq_of_lt hc]
   have hk:¬gw (aD a b) m=0:=by rw[ha2];unfold gw;rw[if_pos hc];omega
   have:=af Cn rfl (aa6 m q a b) ⟨h1,h2,be _ _,hm,decide_eq_false hK,decide_eq_false hk,be _ _,cJ _ _,trivial⟩ rfl rfl
   rwa[e] at this
  ·have e:bh (aD a b) m=addM m a b:=by
    unfold addM
    rw[ha2,Nat.mod_eq_sub_mod (show a+b≥m by omega),Nat.mod_eq_of_lt (show a+b-m<m by omega)]
    unfold bh;omega
   have hk:gw (aD a b) m=0:=by rw[ha2];unfold gw;rw[if_neg hc]
   have:=af Cn rfl (Ym m q a b) ⟨h1,h2,be _ _,hm,decide_eq_false hK,decide_eq_true hk,be _ _,cJ _ _,trivial⟩ rfl rfl
   rwa[e] at this
theorem adO:Ni 169 aw:=by
 intro m q a b hm ha hb
 have h1:a<4294967296^8:=by omega
 have h2:b<4294967296^8:=by omega
 by_cases hc:a<b
 ·have e:aD (bh a b) m=aw m a b:=by
   unfold aD bh aw
   rw[Nat.mod_eq_of_lt (show a+m-b<m by omega)];omega
  have hk:gw a b=1:=by unfold gw;rw[if_pos hc]
  have:=af Cn rfl (abE m q a b) ⟨h1,h2,cJ _ _,hm,decide_eq_true hk,cJ _ _,be _ _,trivial⟩ rfl rfl
  rwa[e] at this
 ·have e:bh a b=aw m a b:=by
   unfold bh aw
   rw[Nat.mod_eq_sub_mod (show a+m-b≥m by omega),Nat.mod_eq_of_lt (show a+m-b-m<m by omega)];omega
  have hk:¬gw a b=1:=by unfold gw;rw[if_neg hc];omega
  have:=af Cn rfl (adk m q a b) ⟨h1,h2,cJ _ _,hm,decide_eq_false hk,cJ _ _,be _ _,trivial⟩ rfl rfl
  rwa[e] at this
def fnR (g:Nat→Nat→Nat→Nat) (vs:List V1):Option (List Prop×AV):=
 match vs with
 |[.agg [.num 8 m,.a (.u .u32 _)],x,y]=>match el 8 x,el 8 y with
  |some (o,a),some (o',b)=>some ((m<4294967296^8)::(a<m)::(b<m)::(o++o'),.val (N8 (g m a b)))
  |_,_=>none
 |_=>none
theorem Px {f:FuncId} {g:Nat→Nat→Nat→Nat} (hg:Ni f g) {vs:List V1} {ob:List Prop} {r:AV} (h:fnR g vs=some (ob,r)) (ho:cL ob):Spec f vs r:=by
 unfold fnR at h
 split at h
 ·rename_i m q x y
  split at h
  ·rename_i o a o' b hx hy
   obtain ⟨rfl,rfl⟩:=sI h
   obtain ⟨h0,h1,h2,h3⟩:=ho
   rw[aY] at h3
   obtain ⟨_,h4⟩:=aX hx h3.1
   obtain ⟨_,h5⟩:=aX hy h3.2
   exact (hg m q a b h0 h1 h2).congr (fun φ=>by simp only[List.map_cons,List.map_nil];rw[←h4 φ,←h5 φ];rfl) (fun _=>rfl)
  ·simp at h
 ·simp at h
def kV (k:Nat):V1:= .one (.i (k:Int))
end Go.Ev
