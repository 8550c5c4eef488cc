/- Numbers of limbs: what the functions on them come to -/
import Derived.Test.YtfcobjhnkghdjaaGreatPartC
namespace Go.Ev
open Go Go.Proofs Go.RowKit
def b8 (n:Nat):Blk:=⟨[.num 8 n],51,true,false,0⟩
theorem b8_free (n:Nat):Free (b8 n):=fun _=>rfl
def z8:Blk:=bN zF
noncomputable def ED:Env:={E0 with
 fn:=fun f vs=>match f with|142=>fn2 gSub vs|59=>fn2 gSub vs|55=>fn2 gLess vs|143=>fn85 vs|170=>fn87 vs|_=>none
 S:=fun f t=>match f with|167=>memN t [15,19,21,25,30,42,45,53,58,1000025,1000053]|_=>false}
theorem envED:EnvOK ED:=by
 refine ⟨mixed,?_,fun _ _ _ _ _ h=>by simp[ED,E0] at h,fun _ _ _ h=>by simp[ED,E0] at h,fun _ _ _ _ _ _ h=>by simp[ED,E0] at h⟩
 intro f vs ob r h ho
 simp only[ED] at h
 split at h
 ·exact fn2_ok spec78 h ho
 ·exact fn2_ok spec61 h ho
 ·exact fn2_ok spec57 h ho
 ·exact fn85_ok h ho
 ·exact fn87_ok h ho
 ·simp at h
def bitE (w:Nat→Nat) (j:Nat) (i:Int):Nat:=w j/2^min (i.tmod 32).toNat IntKind.u32.bits%bitsOf IntKind.u32&&&1%bitsOf IntKind.u32
def qE (q:Nat→Nat) (j:Nat) (i:Int) (m:Nat):Nat:=
 match Nat.beq m j with
 |true=>q j%4294967296|||1*2^min (i.tmod 32).toNat IntKind.u32.bits%4294967296%4294967296
 |false=>q m
def TD69 (i:Int):List AV:=slots 63 [(2,pV 0),(3,pV 1),(4,pV 2),(5,pV 3),(6,iV 0),(7,iV i)]
theorem tTD69 (i:Int):tmsWf 4 (TD69 i)=true:=by kernel_rfl
theorem run69a0 (w q:Nat→Nat) (m r:Nat) (i:Int):runTo ED 1000 (ED.S 167) (bodyOf Tryz.prog 167 4) (TD69 i) [bW w,b8 m,bW q,b8 r] [true,false,true,false] (TD69 (i-1)) 4=
  some ([decide (0≤i)=true,i.tdiv 32=((0:Nat):Int),(32:Int)≠0∧inI (i.tdiv 32),0≤i.tmod 32,bitE w 0 i≤1,r<4294967296^8,pushN r (bitE w 0 i)<4294967296^8,m<4294967296^8,decide (pushK r (bitE w 0 i)=1)=true,pushN r (bitE w 0 i)<4294967296^8,subN (pushN r (bitE w 0 i)) m<4294967296^8,i.tdiv 32=((0:Nat):Int),(32:Int)≠0∧inI (i.tdiv 32),0≤i.tmod 32,inI (i-1)],.normal,TD69 (i-1),[bW w,b8 m,bW (qE q 0 i),b8 (subN (pushN r (bitE w 0 i)) m)]):=by kernel_rfl
theorem run69b0 (w q:Nat→Nat) (m r:Nat) (i:Int):runTo ED 1000 (ED.S 167) (bodyOf Tryz.prog 167 4) (TD69 i) [bW w,b8 m,bW q,b8 r] [true,false,false,true,false] (TD69 (i-1)) 4=
  some ([decide (0≤i)=true,i.tdiv 32=((0:Nat):Int),(32:Int)≠0∧inI (i.tdiv 32),0≤i.tmod 32,bitE w 0 i≤1,r<4294967296^8,pushN r (bitE w 0 i)<4294967296^8,m<4294967296^8,decide (pushK r (bitE w 0 i)=1)=false,decide (subK (pushN r (bitE w 0 i)) m=0)=true,pushN r (bitE w 0 i)<4294967296^8,subN (pushN r (bitE w 0 i)) m<4294967296^8,i.tdiv 32=((0:Nat):Int),(32:Int)≠0∧inI (i.tdiv 32),0≤i.tmod 32,inI (i-1)],.normal,TD69 (i-1),[bW w,b8 m,bW (qE q 0 i),b8 (subN (pushN r (bitE w 0 i)) m)]):=by kernel_rfl
theorem run69n0 (w q:Nat→Nat) (m r:Nat) (i:Int):runTo ED 1000 (ED.S 167) (bodyOf Tryz.prog 167 4) (TD69 i) [bW w,b8 m,bW q,b8 r] [true,false,false,false] (TD69 (i-1)) 4=
  some ([decide (0≤i)=true,i.tdiv 32=((0:Nat):Int),(32:Int)≠0∧inI (i.tdiv 32),0≤i.tmod 32,bitE w 0 i≤1,r<4294967296^8,pushN r (bitE w 0 i)<4294967296^8,m<4294967296^8,decide (pushK r (bitE w 0 i)=1)=false,decide (subK (pushN r (bitE w 0 i)) m=0)=false,pushN r (bitE w 0 i)<4294967296^8,subN (pushN r (bitE w 0 i)) m<4294967296^8,inI (i-1)],.normal,TD69 (i-1),[bW w,b8 m,bW q,b8 (pushN r (bitE w 0 i))]):=by kernel_rfl
theorem run69a1 (w q:Nat→Nat) (m r:Nat) (i:Int):runTo ED 1000 (ED.S 167) (bodyOf Tryz.prog 167 4) (TD69 i) [bW w,b8 m,bW q,b8 r] [true,true,false,true,true,false] (TD69 (i-1)) 4=
  some ([decide (0≤i)=true,i.tdiv 32=((1:Nat):Int),(32:Int)≠0∧inI (i.tdiv 32),0≤i.tmod 32,bitE w 1 i≤1,r<4294967296^8,pushN r (bitE w 1 i)<4294967296^8,m<4294967296^8,decide (pushK r (bitE w 1 i)=1)=true,pushN r (bitE w 1 i)<4294967296^8,subN (pushN r (bitE w 1 i)) m<4294967296^8,i.tdiv 32=((1:Nat):Int),(32:Int)≠0∧inI (i.tdiv 32),0≤i.tmod 32,inI (i-1)],.normal,TD69 (i-1),[bW w,b8 m,bW (qE q 1 i),b8 (subN (pushN r (bitE w 1 i)) m)]):=by kernel_rfl
theorem run69b1 (w q:Nat→Nat) (m r:Nat) (i:Int):runTo ED 1000 (ED.S 167) (bodyOf Tryz.prog 167 4) (TD69 i) [bW w,b8 m,bW q,b8 r] [true,true,false,false,true,true,false] (TD69 (i-1)) 4=
  some ([decide (0≤i)=true,i.tdiv 32=((1:Nat):Int),(32:Int)≠0∧inI (i.tdiv 32),0≤i.tmod 32,bitE w 1 i≤1,r<4294967296^8,pushN r (bitE w 1 i)<4294967296^8,m<4294967296^8,decide (pushK r (bitE w 1 i)=1)=false,decide (subK (pushN r (bitE w 1 i)) m=0)=true,pushN r (bitE w 1 i)<4294967296^8,subN (pushN r (bitE w 1 i)) m<4294967296^8,i.tdiv 32=((1:Nat):Int),(32:Int)≠0∧inI (i.tdiv 32),0≤i.tmod 32,inI (i-1)],.normal,TD69 (i-1),[bW w,b8 m,bW (qE q 1 i),b8 (subN (pushN r (bitE w 1 i)) m)]):=by kernel_rfl
theorem run69n1 (w q:Nat→Nat) (m r:Nat) (i:Int):runTo ED 1000 (ED.S 167) (bodyOf Tryz.prog 167 4) (TD69 i) [bW w,b8 m,bW q,b8 r] [true,true,false,false,false] (TD69 (i-1)) 4=
  some ([decide (0≤i)=true,i.tdiv 32=((1:Nat):Int),(32:Int)≠0∧inI (i.tdiv 32),0≤i.tmod 32,bitE w 1 i≤1,r<4294967296^8,pushN r (bitE w 1 i)<4294967296^8,m<4294967296^8,decide (pushK r (bitE w 1 i)=1)=false,decide (subK (pushN r (bitE w 1 i)) m=0)=false,pushN r (bitE w 1 i)<4294967296^8,subN (pushN r (bitE w 1 i)) m<4294967296^8,inI (i-1)],.normal,TD69 (i-1),[bW w,b8 m,bW q,b8 (pushN r (bitE w 1 i))]):=by kernel_rfl
theorem run69a2 (w q:Nat→Nat) (m r:Nat) (i:Int):runTo ED 1000 (ED.S 167) (bodyOf Tryz.prog 167 4) (TD69 i) [bW w,b8 m,bW q,b8 r] [true,true,true,false,true,true,true,false] (TD69 (i-1)) 4=
  some ([decide (0≤i)=true,i.tdiv 32=((2:Nat):Int),(32:Int)≠0∧inI (i.tdiv 32),0≤i.tmod 32,bitE w 2 i≤1,r<4294967296^8,pushN r (bitE w 2 i)<4294967296^8,m<4294967296^8,decide (pushK r (bitE w 2 i)=1)=true,pushN r (bitE w 2 i)<4294967296^8,subN (pushN r (bitE w 2 i)) m<4294967296^8,i.tdiv 32=((2:Nat):Int),(32:Int)≠0∧inI (i.tdiv 32),0≤i.tmod 32,inI (i-1)],.normal,TD69 (i-1),[bW w,b8 m,bW (qE q 2 i),b8 (subN (pushN r (bitE w 2 i)) m)]):=by kernel_rfl
theorem run69b2 (w q:Nat→Nat) (m r:Nat) (i:Int):runTo ED 1000 (ED.S 167) (bodyOf Tryz.prog 167 4) (TD69 i) [bW w,b8 m,bW q,b8 r] [true,true,true,false,false,true,true,true,false] (TD69 (i-1)) 4=
  some ([decide (0≤i)=true,i.tdiv 32=((2:Nat):Int),(32:Int)≠0∧inI (i.tdiv 32),0≤i.tmod 32,bitE w 2 i≤1,r<4294967296^8,pushN r (bitE w 2 i)<4294967296^8,m<4294967296^8,decide (pushK r (bitE w 2 i)=1)=false,decide (subK (pushN r (bitE w 2 i)) m=0)=true,pushN r (bitE w 2 i)<4294967296^8,subN (pushN r (bitE w 2 i)) m<4294967296^8,i.tdiv 32=((2:Nat):Int),(32:Int)≠0∧inI (i.tdiv 32),0≤i.tmod 32,inI (i-1)],.normal,TD69 (i-1),[bW w,b8 m,bW (qE q 2 i),b8 (subN (pushN r (bitE w 2 i)) m)]):=by kernel_rfl
theorem run69n2 (w q:Nat→Nat) (m r:Nat) (i:Int):runTo ED 1000 (ED.S 167) (bodyOf Tryz.prog 167 4) (TD69 i) [bW w,b8 m,bW q,b8 r] [true,true,true,false,false,false] (TD69 (i-1)) 4=
  some ([decide (0≤i)=true,i.tdiv 32=((2:Nat):Int),(32:Int)≠0∧inI (i.tdiv 32),0≤i.tmod 32,bitE w 2 i≤1,r<4294967296^8,pushN r (bitE w 2 i)<4294967296^8,m<4294967296^8,decide (pushK r (bitE w 2 i)=1)=false,decide (subK (pushN r (bitE w 2 i)) m=0)=false,pushN r (bitE w 2 i)<4294967296^8,subN (pushN r (bitE w 2 i)) m<4294967296^8,inI (i-1)],.normal,TD69 (i-1),[bW w,b8 m,bW q,b8 (pushN r (bitE w 2 i))]):=by kernel_rfl
theorem run69a3 (w q:Nat→Nat) (m r:Nat) (i:Int):runTo ED 1000 (ED.S 167) (bodyOf Tryz.prog 167 4) (TD69 i) [bW w,b8 m,bW q,b8 r] [true,true,true,true,false,true,true,true,true,false] (TD69 (i-1)) 4=
  some ([decide (0≤i)=true,i.tdiv 32=((3:Nat):Int),(32:Int)≠0∧inI (i.tdiv 32),0≤i.tmod 32,bitE w 3 i≤1,r<4294967296^8,pushN r (bitE w 3 i)<4294967296^8,m<4294967296^8,decide (pushK r (bitE w 3 i)=1)=true,pushN r (bitE w 3 i)<4294967296^8,subN (pushN r (bitE w 3 i)) m<4294967296^8,i.tdiv 32=((3:Nat):Int),(32:Int)≠0∧inI (i.tdiv 32),0≤i.tmod 32,inI (i-1)],.normal,TD69 (i-1),[bW w,b8 m,bW (qE q 3 i),b8 (subN (pushN r (bitE w 3 i)) m)]):=by kernel_rfl
theorem run69b3 (w q:Nat→Nat) (m r:Nat) (i:Int):runTo ED 1000 (ED.S 167) (bodyOf Tryz.prog 167 4) (TD69 i) [bW w,b8 m,bW q,b8 r] [true,true,true,true,false,false,true,true,true,true,false] (TD69 (i-1)) 4=
  some ([decide (0≤i)=true,i.tdiv 32=((3:Nat):Int),(32:Int)≠0∧inI (i.tdiv 32),0≤i.tmod 32,bitE w 3 i≤1,r<4294967296^8,pushN r (bitE w 3 i)<4294967296^8,m<4294967296^8,decide (pushK r (bitE w 3 i)=1)=false,decide (subK (pushN r (bitE w 3 i)) m=0)=true,pushN r (bitE w 3 i)<4294967296^8,subN (pushN r (bitE w 3 i)) m<4294967296^8,i.tdiv 32=((3:Nat):Int),(32:Int)≠0∧inI (i.tdiv 32),0≤i.tmod 32,inI (i-1)],.normal,TD69 (i-1),[bW w,b8 m,bW (qE q 3 i),b8 (subN (pushN r (bitE w 3 i)) m)]):=by kernel_rfl
theorem run69n3 (w q:Nat→Nat) (m r:Nat) (i:Int):runTo ED 1000 (ED.S 167) (bodyOf Tryz.prog 167 4) (TD69 i) [bW w,b8 m,bW q,b8 r] [true,true,true,true,false,false,false] (TD69 (i-1)) 4=
  some ([decide (0≤i)=true,i.tdiv 32=((3:Nat):Int),(32:Int)≠0∧inI (i.tdiv 32),0≤i.tmod 32,bitE w 3 i≤1,r<4294967296^8,pushN r (bitE w 3 i)<4294967296^8,m<4294967296^8,decide (pushK r (bitE w 3 i)=1)=false,decide (subK (pushN r (bitE w 3 i)) m=0)=false,pushN r (bitE w 3 i)<4294967296^8,subN (pushN r (bitE w 3 i)) m<4294967296^8,inI (i-1)],.normal,TD69 (i-1),[bW w,b8 m,bW q,b8 (pushN r (bitE w 3 i))]):=by kernel_rfl
theorem run69a4 (w q:Nat→Nat) (m r:Nat) (i:Int):runTo ED 1000 (ED.S 167) (bodyOf Tryz.prog 167 4) (TD69 i) [bW w,b8 m,bW q,b8 r] [true,true,true,true,true,false,true,true,true,true,true,false] (TD69 (i-1)) 4=
  some ([decide (0≤i)=true,i.tdiv 32=((4:Nat):Int),(32:Int)≠0∧inI (i.tdiv 32),0≤i.tmod 32,bitE w 4 i≤1,r<4294967296^8,pushN r (bitE w 4 i)<4294967296^8,m<4294967296^8,decide (pushK r (bitE w 4 i)=1)=true,pushN r (bitE w 4 i)<4294967296^8,subN (pushN r (bitE w 4 i)) m<4294967296^8,i.tdiv 32=((4:Nat):Int),(32:Int)≠0∧inI (i.tdiv 32),0≤i.tmod 32,inI (i-1)],.normal,TD69 (i-1),[bW w,b8 m,bW (qE q 4 i),b8 (subN (pushN r (bitE w 4 i)) m)]):=by kernel_rfl
theorem run69b4 (w q:Nat→Nat) (m r:Nat) (i:Int):runTo ED 1000 (ED.S 167) (bodyOf Tryz.prog 167 4) (TD69 i) [bW w,b8 m,bW q,b8 r] [true,true,true,true,true,false,false,true,true,true,true,true,false] (TD69 (i-1)) 4=
  some ([decide (0≤i)=true,i.tdiv 32=((4:Nat):Int),(32:Int)≠0∧inI (i.tdiv 32),0≤i.tmod 32,bitE w 4 i≤1,r<4294967296^8,pushN r (bitE w 4 i)<4294967296^8,m<4294967296^8,decide (pushK r (bitE w 4 i)=1)=false,decide (subK (pushN r (bitE w 4 i)) m=0)=true,pushN r (bitE w 4 i)<4294967296^8,subN (pushN r (bitE w 4 i)) m<4294967296^8,i.tdiv 32=((4:Nat):Int),(32:Int)≠0∧inI (i.tdiv 32),0≤i.tmod 32,inI (i-1)],.normal,TD69 (i-1),[bW w,b8 m,bW (qE q 4 i),b8 (subN (pushN r (bitE w 4 i)) m)]):=by kernel_rfl
theorem run69n4 (w q:Nat→Nat) (m r:Nat) (i:Int):runTo ED 1000 (ED.S 167) (bodyOf Tryz.prog 167 4) (TD69 i) [bW w,b8 m,bW q,b8 r] [true,true,true,true,true,false,false,false] (TD69 (i-1)) 4=
  some ([decide (0≤i)=true,i.tdiv 32=((4:Nat):Int),(32:Int)≠0∧inI (i.tdiv 32),0≤i.tmod 32,bitE w 4 i≤1,r<4294967296^8,pushN r (bitE w 4 i)<4294967296^8,m<4294967296^8,decide (pushK r (bitE w 4 i)=1)=false,decide (subK (pushN r (bitE w 4 i)) m=0)=false,pushN r (bitE w 4 i)<4294967296^8,subN (pushN r (bitE w 4 i)) m<4294967296^8,inI (i-1)],.normal,TD69 (i-1),[bW w,b8 m,bW q,b8 (pushN r (bitE w 4 i))]):=by kernel_rfl
theorem run69a5 (w q:Nat→Nat) (m r:Nat) (i:Int):runTo ED 1000 (ED.S 167) (bodyOf Tryz.prog 167 4) (TD69 i) [bW w,b8 m,bW q,b8 r] [true,true,true,true,true,true,false,true,true,true,true,true,true,false] (TD69 (i-1)) 4=
  some ([decide (0≤i)=true,i.tdiv 32=((5:Nat):Int),(32:Int)≠0∧inI (i.tdiv 32),0≤i.tmod 32,bitE w 5 i≤1,r<4294967296^8,pushN r (bitE w 5 i)<4294967296^8,m<4294967296^8,decide (pushK r (bitE w 5 i)=1)=true,pushN r (bitE w 5 i)<4294967296^8,subN (pushN r (bitE w 5 i)) m<4294967296^8,i.tdiv 32=((5:Nat):Int),(32:Int)≠0∧inI (i.tdiv 32),0≤i.tmod 32,inI (i-1)],.normal,TD69 (i-1),[bW w,b8 m,bW (qE q 5 i),b8 (subN (pushN r (bitE w 5 i)) m)]):=by kernel_rfl
theorem run69b5 (w q:Nat→Nat) (m r:Nat) (i:Int):runTo ED 1000 (ED.S 167) (bodyOf Tryz.prog 167 4) (TD69 i) [bW w,b8 m,bW q,b8 r] [true,true,true,true,true,true,false,false,true,true,true,true,true,true,false] (TD69 (i-1)) 4=
  some ([decide (0≤i)=true,i.tdiv 32=((5:Nat):Int),(32:Int)≠0∧inI (i.tdiv 32),0≤i.tmod 32,bitE w 5 i≤1,r<4294967296^8,pushN r (bitE w 5 i)<4294967296^8,m<4294967296^8,decide (pushK r (bitE w 5 i)=1)=false,decide (subK (pushN r (bitE w 5 i)) m=0)=true,pushN r (bitE w 5 i)<4294967296^8,subN (pushN r (bitE w 5 i)) m<4294967296^8,i.tdiv 32=((5:Nat):Int),(32:Int)≠0∧inI (i.tdiv 32),0≤i.tmod 32,inI (i-1)],.normal,TD69 (i-1),[bW w,b8 m,bW (qE q 5 i),b8 (subN (pushN r (bitE w 5 i)) m)]):=by kernel_rfl
theorem run69n5 (w q:Nat→Nat) (m r:Nat) (i:Int):runTo ED 1000 (ED.S 167) (bodyOf Tryz.prog 167 4) (TD69 i) [bW w,b8 m,bW q,b8 r] [true,true,true,true,true,true,false,false,false] (TD69 (i-1)) 4=
  some ([decide (0≤i)=true,i.tdiv 32=((5:Nat):Int),(32:Int)≠0∧inI (i.tdiv 32),0≤i.tmod 32,bitE w 5 i≤1,r<4294967296^8,pushN r (bitE w 5 i)<4294967296^8,m<4294967296^8,decide (pushK r (bitE w 5 i)=1)=false,decide (subK (pushN r (bitE w 5 i)) m=0)=false,pushN r (bitE w 5 i)<4294967296^8,subN (pushN r (bitE w 5 i)) m<4294967296^8,inI (i-1)],.normal,TD69 (i-1),[bW w,b8 m,bW q,b8 (pushN r (bitE w 5 i))]):=by kernel_rfl
theorem run69a6 (w q:Nat→Nat) (m r:Nat) (i:Int):runTo ED 1000 (ED.S 167) (bodyOf Tryz.prog 167 4) (TD69 i) [bW w,b8 m,bW q,b8 r] [true,true,true,true,true,true,true,false,true,true,true,true,true,true,true,false] (TD69 (i-1)) 4=
  some ([decide (0≤i)=true,i.tdiv 32=((6:Nat):Int),(32:Int)≠0∧inI (i.tdiv 32),0≤i.tmod 32,bitE w 6 i≤1,r<4294967296^8,pushN r (bitE w 6 i)<4294967296^8,m<4294967296^8,decide (pushK r (bitE w 6 i)=1)=true,pushN r (bitE w 6 i)<4294967296^8,subN (pushN r (bitE w 6 i)) m<4294967296^8,i.tdiv 32=((6:Nat):Int),(32:Int)≠0∧inI (i.tdiv 32),0≤i.tmod 32,inI (i-1)],.normal,TD69 (i-1),[bW w,b8 m,bW (qE q 6 i),b8 (subN (pushN r (bitE w 6 i)) m)]):=by kernel_rfl
theorem run69b6 (w q:Nat→Nat) (m r:Nat) (i:Int):runTo ED 1000 (ED.S 167) (bodyOf Tryz.prog 167 4) (TD69 i) [bW w,b8 m,bW q,b8 r] [true,true,true,true,true,true,true,false,false,true,true,true,true,true,true,true,false] (TD69 (i-1)) 4=
  some ([decide (0≤i)=true,i.tdiv 32=((6:Nat):Int),(32:Int)≠0∧inI (i.tdiv 32),0≤i.tmod 32,bitE w 6 i≤1,r<4294967296^8,pushN r (bitE w 6 i)<4294967296^8,m<4294967296^8,decide (pushK r (bitE w 6 i)=1)=false,decide (subK (pushN r (bitE w 6 i)) m=0)=true,pushN r (bitE w 6 i)<4294967296^8,subN (pushN r (bitE w 6 i)) m<4294967296^8,i.tdiv 32=((6:Nat):Int),(32:Int)≠0∧inI (i.tdiv 32),0≤i.tmod 32,inI (i-1)],.normal,TD69 (i-1),[bW w,b8 m,bW (qE q 6 i),b8 (subN (pushN r (bitE w 6 i)) m)]):=by kernel_rfl
theorem run69n6 (w q:Nat→Nat) (m r:Nat) (i:Int):runTo ED 1000 (ED.S 167) (bodyOf Tryz.prog 167 4) (TD69 i) [bW w,b8 m,bW q,b8 r] [true,true,true,true,true,true,true,false,false,false] (TD69 (i-1)) 4=
  some ([decide (0≤i)=true,i.tdiv 32=((6:Nat):Int),(32:Int)≠0∧inI (i.tdiv 32),0≤i.tmod 32,bitE w 6 i≤1,r<4294967296^8,pushN r (bitE w 6 i)<4294967296^8,m<4294967296^8,decide (pushK r (bitE w 6 i)=1)=false,decide (subK (pushN r (bitE w 6 i)) m=0)=false,pushN r (bitE w 6 i)<4294967296^8,subN (pushN r (bitE w 6 i)) m<4294967296^8,inI (i-1)],.normal,TD69 (i-1),[bW w,b8 m,bW q,b8 (pushN r (bitE w 6 i))]):=by kernel_rfl
theorem run69a7 (w q:Nat→Nat) (m r:Nat) (i:Int):runTo ED 1000 (ED.S 167) (bodyOf Tryz.prog 167 4) (TD69 i) [bW w,b8 m,bW q,b8 r] [true,true,true,true,true,true,true,true,false,true,true,true,true,true,true,true,true,false] (TD69 (i-1)) 4=
  some ([decide (0≤i)=true,i.tdiv 32=((7:Nat):Int),(32:Int)≠0∧inI (i.tdiv 32),0≤i.tmod 32,bitE w 7 i≤1,r<4294967296^8,pushN r (bitE w 7 i)<4294967296^8,m<4294967296^8,decide (pushK r (bitE w 7 i)=1)=true,pushN r (bitE w 7 i)<4294967296^8,subN (pushN r (bitE w 7 i)) m<4294967296^8,i.tdiv 32=((7:Nat):Int),(32:Int)≠0∧inI (i.tdiv 32),0≤i.tmod 32,inI (i-1)],.normal,TD69 (i-1),[bW w,b8 m,bW (qE q 7 i),b8 (subN (pushN r (bitE w 7 i)) m)]):=by kernel_rfl
theorem run69b7 (w q:Nat→Nat) (m r:Nat) (i:Int):runTo ED 1000 (ED.S 167) (bodyOf Tryz.prog 167 4) (TD69 i) [bW w,b8 m,bW q,b8 r] [true,true,true,true,true,true,true,true,false,false,true,true,true,true,true,true,true,true,false] (TD69 (i-1)) 4=
  some ([decide (0≤i)=true,i.tdiv 32=((7:Nat):Int),(32:Int)≠0∧inI (i.tdiv 32),0≤i.tmod 32,bitE w 7 i≤1,r<4294967296^8,pushN r (bitE w 7 i)<4294967296^8,m<4294967296^8,decide (pushK r (bitE w 7 i)=1)=false,decide (subK (pushN r (bitE w 7 i)) m=0)=true,pushN r (bitE w 7 i)<4294967296^8,subN (pushN r (bitE w 7 i)) m<4294967296^8,i.tdiv 32=((7:Nat):Int),(32:Int)≠0∧inI (i.tdiv 32),0≤i.tmod 32,inI (i-1)],.normal,TD69 (i-1),[bW w,b8 m,bW (qE q 7 i),b8 (subN (pushN r (bitE w 7 i)) m)]):=by kernel_rfl
theorem run69n7 (w q:Nat→Nat) (m r:Nat) (i:Int):runTo ED 1000 (ED.S 167) (bodyOf Tryz.prog 167 4) (TD69 i) [bW w,b8 m,bW q,b8 r] [true,true,true,true,true,true,true,true,false,false,false] (TD69 (i-1)) 4=
  some ([decide (0≤i)=true,i.tdiv 32=((7:Nat):Int),(32:Int)≠0∧inI (i.tdiv 32),0≤i.tmod 32,bitE w 7 i≤1,r<4294967296^8,pushN r (bitE w 7 i)<4294967296^8,m<4294967296^8,decide (pushK r (bitE w 7 i)=1)=false,decide (subK (pushN r (bitE w 7 i)) m=0)=false,pushN r (bitE w 7 i)<4294967296^8,subN (pushN r (bitE w 7 i)) m<4294967296^8,inI (i-1)],.normal,TD69 (i-1),[bW w,b8 m,bW q,b8 (pushN r (bitE w 7 i))]):=by kernel_rfl
theorem run69a8 (w q:Nat→Nat) (m r:Nat) (i:Int):runTo ED 1000 (ED.S 167) (bodyOf Tryz.prog 167 4) (TD69 i) [bW w,b8 m,bW q,b8 r] [true,true,true,true,true,true,true,true,true,false,true,true,true,true,true,true,true,true,true,false] (TD69 (i-1)) 4=
  some ([decide (0≤i)=true,i.tdiv 32=((8:Nat):Int),(32:Int)≠0∧inI (i.tdiv 32),0≤i.tmod 32,bitE w 8 i≤1,r<4294967296^8,pushN r (bitE w 8 i)<4294967296^8,m<4294967296^8,decide (pushK r (bitE w 8 i)=1)=true,pushN r (bitE w 8 i)<4294967296^8,subN (pushN r (bitE w 8 i)) m<4294967296^8,i.tdiv 32=((8:Nat):Int),(32:Int)≠0∧inI (i.tdiv 32),0≤i.tmod 32,inI (i-1)],.normal,TD69 (i-1),[bW w,b8 m,bW (qE q 8 i),b8 (subN (pushN r (bitE w 8 i)) m)]):=by kernel_rfl
theorem run69b8 (w q:Nat→Nat) (m r:Nat) (i:Int):runTo ED 1000 (ED.S 167) (bodyOf Tryz.prog 167 4) (TD69 i) [bW w,b8 m,bW q,b8 r] [true,true,true,true,true,true,true,true,true,false,false,true,true,true,true,true,true,true,true,true,false] (TD69 (i-1)) 4=
  some ([decide (0≤i)=true,i.tdiv 32=((8:Nat):Int),(32:Int)≠0∧inI (i.tdiv 32),0≤i.tmod 32,bitE w 8 i≤1,r<4294967296^8,pushN r (bitE w 8 i)<4294967296^8,m<4294967296^8,decide (pushK r (bitE w 8 i)=1)=false,decide (subK (pushN r (bitE w 8 i)) m=0)=true,pushN r (bitE w 8 i)<4294967296^8,subN (pushN r (bitE w 8 i)) m<4294967296^8,i.tdiv 32=((8:Nat):Int),(32:Int)≠0∧inI (i.tdiv 32),0≤i.tmod 32,inI (i-1)],.normal,TD69 (i-1),[bW w,b8 m,bW (qE q 8 i),b8 (subN (pushN r (bitE w 8 i)) m)]):=by kernel_rfl
theorem run69n8 (w q:Nat→Nat) (m r:Nat) (i:Int):runTo ED 1000 (ED.S 167) (bodyOf Tryz.prog 167 4) (TD69 i) [bW w,b8 m,bW q,b8 r] [true,true,true,true,true,true,true,true,true,false,false,false] (TD69 (i-1)) 4=
  some ([decide (0≤i)=true,i.tdiv 32=((8:Nat):Int),(32:Int)≠0∧inI (i.tdiv 32),0≤i.tmod 32,bitE w 8 i≤1,r<4294967296^8,pushN r (bitE w 8 i)<4294967296^8,m<4294967296^8,decide (pushK r (bitE w 8 i)=1)=false,decide (subK (pushN r (bitE w 8 i)) m=0)=false,pushN r (bitE w 8 i)<4294967296^8,subN (pushN r (bitE w 8 i)) m<4294967296^8,inI (i-1)],.normal,TD69 (i-1),[bW w,b8 m,bW q,b8 (pushN r (bitE w 8 i))]):=by kernel_rfl
theorem run69a9 (w q:Nat→Nat) (m r:Nat) (i:Int):runTo ED 1000 (ED.S 167) (bodyOf Tryz.prog 167 4) (TD69 i) [bW w,b8 m,bW q,b8 r] [true,true,true,true,true,true,true,true,true,true,false,true,true,true,true,true,true,true,true,true,true,false] (TD69 (i-1)) 4=
  some ([decide (0≤i)=true,i.tdiv 32=((9:Nat):Int),(32:Int)≠0∧inI (i.tdiv 32),0≤i.tmod 32,bitE w 9 i≤1,r<4294967296^8,pushN r (bitE w 9 i)<4294967296^8,m<4294967296^8,decide (pushK r (bitE w 9 i)=1)=true,pushN r (bitE w 9 i)<4294967296^8,subN (pushN r (bitE w 9 i)) m<4294967296^8,i.tdiv 32=((9:Nat):Int),(32:Int)≠0∧inI (i.tdiv 32),0≤i.tmod 32,inI (i-1)],.normal,TD69 (i-1),[bW w,b8 m,bW (qE q 9 i),b8 (subN (pushN r (bitE w 9 i)) m)]):=by kernel_rfl
theorem run69b9 (w q:Nat→Nat) (m r:Nat) (i:Int):runTo ED 1000 (ED.S 167) (bodyOf Tryz.prog 167 4) (TD69 i) [bW w,b8 m,bW q,b8 r] [true,true,true,true,true,true,true,true,true,true,false,false,true,true,true,true,true,true,true,true,true,true,false] (TD69 (i-1)) 4=
  some ([decide (0≤i)=true,i.tdiv 32=((9:Nat):Int),(32:Int)≠0∧inI (i.tdiv 32),0≤i.tmod 32,bitE w 9 i≤1,r<4294967296^8,pushN r (bitE w 9 i)<4294967296^8,m<4294967296^8,decide (pushK r (bitE w 9 i)=1)=false,decide (subK (pushN r (bitE w 9 i)) m=0)=true,pushN r (bitE w 9 i)<4294967296^8,subN (pushN r (bitE w 9 i)) m<4294967296^8,i.tdiv 32=((9:Nat):Int),(32:Int)≠0∧inI (i.tdiv 32),0≤i.tmod 32,inI (i-1)],.normal,TD69 (i-1),[bW w,b8 m,bW (qE q 9 i),b8 (subN (pushN r (bitE w 9 i)) m)]):=by kernel_rfl
theorem run69n9 (w q:Nat→Nat) (m r:Nat) (i:Int):runTo ED 1000 (ED.S 167) (bodyOf Tryz.prog 167 4) (TD69 i) [bW w,b8 m,bW q,b8 r] [true,true,true,true,true,true,true,true,true,true,false,false,false] (TD69 (i-1)) 4=
  some ([decide (0≤i)=true,i.tdiv 32=((9:Nat):Int),(32:Int)≠0∧inI (i.tdiv 32),0≤i.tmod 32,bitE w 9 i≤1,r<4294967296^8,pushN r (bitE w 9 i)<4294967296^8,m<4294967296^8,decide (pushK r (bitE w 9 i)=1)=false,decide (subK (pushN r (bitE w 9 i)) m=0)=false,pushN r (bitE w 9 i)<4294967296^8,subN (pushN r (bitE w 9 i)) m<4294967296^8,inI (i-1)],.normal,TD69 (i-1),[bW w,b8 m,bW q,b8 (pushN r (bitE w 9 i))]):=by kernel_rfl
theorem run69a10 (w q:Nat→Nat) (m r:Nat) (i:Int):runTo ED 1000 (ED.S 167) (bodyOf Tryz.prog 167 4) (TD69 i) [bW w,b8 m,bW q,b8 r] [true,true,true,true,true,true,true,true,true,true,true,false,true,true,true,true,true,true,true,true,true,true,true,false] (TD69 (i-1)) 4=
  some ([decide (0≤i)=true,i.tdiv 32=((10:Nat):Int),(32:Int)≠0∧inI (i.tdiv 32),0≤i.tmod 32,bitE w 10 i≤1,r<4294967296^8,pushN r (bitE w 10 i)<4294967296^8,m<4294967296^8,decide (pushK r (bitE w 10 i)=1)=true,pushN r (bitE w 10 i)<4294967296^8,subN (pushN r (bitE w 10 i)) m<4294967296^8,i.tdiv 32=((10:Nat):Int),(32:Int)≠0∧inI (i.tdiv 32),0≤i.tmod 32,inI (i-1)],.normal,TD69 (i-1),[bW w,b8 m,bW (qE q 10 i),b8 (subN (pushN r (bitE w 10 i)) m)]):=by kernel_rfl
theorem run69b10 (w q:Nat→Nat) (m r:Nat) (i:Int):runTo ED 1000 (ED.S 167) (bodyOf Tryz.prog 167 4) (TD69 i) [bW w,b8 m,bW q,b8 r] [true,true,true,true,true,true,true,true,true,true,true,false,false,true,true,true,true,true,true,true,true,true,true,true,false] (TD69 (i-1)) 4=
  some ([decide (0≤i)=true,i.tdiv 32=((10:Nat):Int),(32:Int)≠0∧inI (i.tdiv 32),0≤i.tmod 32,bitE w 10 i≤1,r<4294967296^8,pushN r (bitE w 10 i)<4294967296^8,m<4294967296^8,decide (pushK r (bitE w 10 i)=1)=false,decide (subK (pushN r (bitE w 10 i)) m=0)=true,pushN r (bitE w 10 i)<4294967296^8,subN (pushN r (bitE w 10 i)) m<4294967296^8,i.tdiv 32=((10:Nat):Int),(32:Int)≠0∧inI (i.tdiv 32),0≤i.tmod 32,inI (i-1)],.normal,TD69 (i-1),[bW w,b8 m,bW (qE q 10 i),b8 (subN (pushN r (bitE w 10 i)) m)]):=by kernel_rfl
theorem run69n10 (w q:Nat→Nat) (m r:Nat) (i:Int):runTo ED 1000 (ED.S 167) (bodyOf Tryz.prog 167 4) (TD69 i) [bW w,b8 m,bW q,b8 r] [true,true,true,true,true,true,true,true,true,true,true,false,false,false] (TD69 (i-1)) 4=
  some ([decide (0≤i)=true,i.tdiv 32=((10:Nat):Int),(32:Int)≠0∧inI (i.tdiv 32),0≤i.tmod 32,bitE w 10 i≤1,r<4294967296^8,pushN r (bitE w 10 i)<4294967296^8,m<4294967296^8,decide (pushK r (bitE w 10 i)=1)=false,decide (subK (pushN r (bitE w 10 i)) m=0)=false,pushN r (bitE w 10 i)<4294967296^8,subN (pushN r (bitE w 10 i)) m<4294967296^8,inI (i-1)],.normal,TD69 (i-1),[bW w,b8 m,bW q,b8 (pushN r (bitE w 10 i))]):=by kernel_rfl
theorem run69a11 (w q:Nat→Nat) (m r:Nat) (i:Int):runTo ED 1000 (ED.S 167) (bodyOf Tryz.prog 167 4) (TD69 i) [bW w,b8 m,bW q,b8 r] [true,true,true,true,true,true,true,true,true,true,true,true,false,true,true,true,true,true,true,true,true,true,true,true,true,false] (TD69 (i-1)) 4=
  some ([decide (0≤i)=true,i.tdiv 32=((11:Nat):Int),(32:Int)≠0∧inI (i.tdiv 32),0≤i.tmod 32,bitE w 11 i≤1,r<4294967296^8,pushN r (bitE w 11 i)<4294967296^8,m<4294967296^8,decide (pushK r (bitE w 11 i)=1)=true,pushN r (bitE w 11 i)<4294967296^8,subN (pushN r (bitE w 11 i)) m<4294967296^8,i.tdiv 32=((11:Nat):Int),(32:Int)≠0∧inI (i.tdiv 32),0≤i.tmod 32,inI (i-1)],.normal,TD69 (i-1),[bW w,b8 m,bW (qE q 11 i),b8 (subN (pushN r (bitE w 11 i)) m)]):=by kernel_rfl
theorem run69b11 (w q:Nat→Nat) (m r:Nat) (i:Int):runTo ED 1000 (ED.S 167) (bodyOf Tryz.prog 167 4) (TD69 i) [bW w,b8 m,bW q,b8 r] [true,true,true,true,true,true,true,true,true,true,true,true,false,false,true,true,true,true,true,true,true,true,true,true,true,true,false] (TD69 (i-1)) 4=
  some ([decide (0≤i)=true,i.tdiv 32=((11:Nat):Int),(32:Int)≠0∧inI (i.tdiv 32),0≤i.tmod 32,bitE w 11 i≤1,r<4294967296^8,pushN r (bitE w 11 i)<4294967296^8,m<4294967296^8,decide (pushK r (bitE w 11 i)=1)=false,decide (subK (pushN r (bitE w 11 i)) m=0)=true,pushN r (bitE w 11 i)<4294967296^8,subN (pushN r (bitE w 11 i)) m<4294967296^8,i.tdiv 32=((11:Nat):Int),(32:Int)≠0∧inI (i.tdiv 32),0≤i.tmod 32,inI (i-1)],.normal,TD69 (i-1),[bW w,b8 m,bW (qE q 11 i),b8 (subN (pushN r (bitE w 11 i)) m)]):=by kernel_rfl
theorem run69n11 (w q:Nat→Nat) (m r:Nat) (i:Int):runTo ED 1000 (ED.S 167) (bodyOf Tryz.prog 167 4) (TD69 i) [bW w,b8 m,bW q,b8 r] [true,true,true,true,true,true,true,true,true,true,true,true,false,false,false] (TD69 (i-1)) 4=
  some ([decide (0≤i)=true,i.tdiv 32=((11:Nat):Int),(32:Int)≠0∧inI (i.tdiv 32),0≤i.tmod 32,bitE w 11 i≤1,r<4294967296^8,pushN r (bitE w 11 i)<4294967296^8,m<4294967296^8,decide (pushK r (bitE w 11 i)=1)=false,decide (subK (pushN r (bitE w 11 i)) m=0)=false,pushN r (bitE w 11 i)<4294967296^8,subN (pushN r (bitE w 11 i)) m<4294967296^8,inI (i-1)],.normal,TD69 (i-1),[bW w,b8 m,bW q,b8 (pushN r (bitE w 11 i))]):=by kernel_rfl
theorem run69a12 (w q:Nat→Nat) (m r:Nat) (i:Int):runTo ED 1000 (ED.S 167) (bodyOf Tryz.prog 167 4) (TD69 i) [bW w,b8 m,bW q,b8 r] [true,true,true,true,true,true,true,true,true,true,true,true,true,false,true,true,true,true,true,true,true,true,true,true,true,true,true,false] (TD69 (i-1)) 4=
  some ([decide (0≤i)=true,i.tdiv 32=((12:Nat):Int),(32:Int)≠0∧inI (i.tdiv 32),0≤i.tmod 32,bitE w 12 i≤1,r<4294967296^8,pushN r (bitE w 12 i)<4294967296^8,m<4294967296^8,decide (pushK r (bitE w 12 i)=1)=true,pushN r (bitE w 12 i)<4294967296^8,subN (pushN r (bitE w 12 i)) m<4294967296^8,i.tdiv 32=((12:Nat):Int),(32:Int)≠0∧inI (i.tdiv 32),0≤i.tmod 32,inI (i-1)],.normal,TD69 (i-1),[bW w,b8 m,bW (qE q 12 i),b8 (subN (pushN r (bitE w 12 i)) m)]):=by kernel_rfl
theorem run69b12 (w q:Nat→Nat) (m r:Nat) (i:Int):runTo ED 1000 (ED.S 167) (bodyOf Tryz.prog 167 4) (TD69 i) [bW w,b8 m,bW q,b8 r] [true,true,true,true,true,true,true,true,true,true,true,true,true,false,false,true,true,true,true,true,true,true,true,true,true,true,true,true,false] (TD69 (i-1)) 4=
  some ([decide (0≤i)=true,i.tdiv 32=((12:Nat):Int),(32:Int)≠0∧inI (i.tdiv 32),0≤i.tmod 32,bitE w 12 i≤1,r<4294967296^8,pushN r (bitE w 12 i)<4294967296^8,m<4294967296^8,decide (pushK r (bitE w 12 i)=1)=false,decide (subK (pushN r (bitE w 12 i)) m=0)=true,pushN r (bitE w 12 i)<4294967296^8,subN (pushN r (bitE w 12 i)) m<4294967296^8,i.tdiv 32=((12:Nat):Int),(32:Int)≠0∧inI (i.tdiv 32),0≤i.tmod 32,inI (i-1)],.normal,TD69 (i-1),[bW w,b8 m,bW (qE q 12 i),b8 (subN (pushN r (bitE w 12 i)) m)]):=by kernel_rfl
theorem run69n12 (w q:Nat→Nat) (m r:Nat) (i:Int):runTo ED 1000 (ED.S 167) (bodyOf Tryz.prog 167 4) (TD69 i) [bW w,b8 m,bW q,b8 r] [true,true,true,true,true,true,true,true,true,true,true,true,true,false,false,false] (TD69 (i-1)) 4=
  some ([decide (0≤i)=true,i.tdiv 32=((12:Nat):Int),(32:Int)≠0∧inI (i.tdiv 32),0≤i.tmod 32,bitE w 12 i≤1,r<4294967296^8,pushN r (bitE w 12 i)<4294967296^8,m<4294967296^8,decide (pushK r (bitE w 12 i)=1)=false,decide (subK (pushN r (bitE w 12 i)) m=0)=false,pushN r (bitE w 12 i)<4294967296^8,subN (pushN r (bitE w 12 i)) m<4294967296^8,inI (i-1)],.normal,TD69 (i-1),[bW w,b8 m,bW q,b8 (pushN r (bitE w 12 i))]):=by kernel_rfl
theorem run69a13 (w q:Nat→Nat) (m r:Nat) (i:Int):runTo ED 1000 (ED.S 167) (bodyOf Tryz.prog 167 4) (TD69 i) [bW w,b8 m,bW q,b8 r] [true,true,true,true,true,true,true,true,true,true,true,true,true,true,false,true,true,true,true,true,true,true,true,true,true,true,true,true,true,false] (TD69 (i-1)) 4=
  some ([decide (0≤i)=true,i.tdiv 32=((13:Nat):Int),(32:Int)≠0∧inI (i.tdiv 32),0≤i.tmod 32,bitE w 13 i≤1,r<4294967296^8,pushN r (bitE w 13 i)<4294967296^8,m<4294967296^8,decide (pushK r (bitE w 13 i)=1)=true,pushN r (bitE w 13 i)<4294967296^8,subN (pushN r (bitE w 13 i)) m<4294967296^8,i.tdiv 32=((13:Nat):Int),(32:Int)≠0∧inI (i.tdiv 32),0≤i.tmod 32,inI (i-1)],.normal,TD69 (i-1),[bW w,b8 m,bW (qE q 13 i),b8 (subN (pushN r (bitE w 13 i)) m)]):=by kernel_rfl
theorem run69b13 (w q:Nat→Nat) (m r:Nat) (i:Int):runTo ED 1000 (ED.S 167) (bodyOf Tryz.prog 167 4) (TD69 i) [bW w,b8 m,bW q,b8 r] [true,true,true,true,true,true,true,true,true,true,true,true,true,true,false,false,true,true,true,true,true,true,true,true,true,true,true,true,true,true,false] (TD69 (i-1)) 4=
  some ([decide (0≤i)=true,i.tdiv 32=((13:Nat):Int),(32:Int)≠0∧inI (i.tdiv 32),0≤i.tmod 32,bitE w 13 i≤1,r<4294967296^8,pushN r (bitE w 13 i)<4294967296^8,m<4294967296^8,decide (pushK r (bitE w 13 i)=1)=false,decide (subK (pushN r (bitE w 13 i)) m=0)=true,pushN r (bitE w 13 i)<4294967296^8,subN (pushN r (bitE w 13 i)) m<4294967296^8,i.tdiv 32=((13:Nat):Int),(32:Int)≠0∧inI (i.tdiv 32),0≤i.tmod 32,inI (i-1)],.normal,TD69 (i-1),[bW w,b8 m,bW (qE q 13 i),b8 (subN (pushN r (bitE w 13 i)) m)]):=by kernel_rfl
theorem run69n13 (w q:Nat→Nat) (m r:Nat) (i:Int):runTo ED 1000 (ED.S 167) (bodyOf Tryz.prog 167 4) (TD69 i) [bW w,b8 m,bW q,b8 r] [true,true,true,true,true,true,true,true,true,true,true,true,true,true,false,false,false] (TD69 (i-1)) 4=
  some ([decide (0≤i)=true,i.tdiv 32=((13:Nat):Int),(32:Int)≠0∧inI (i.tdiv 32),0≤i.tmod 32,bitE w 13 i≤1,r<4294967296^8,pushN r (bitE w 13 i)<4294967296^8,m<4294967296^8,decide (pushK r (bitE w 13 i)=1)=false,decide (subK (pushN r (bitE w 13 i)) m=0)=false,pushN r (bitE w 13 i)<4294967296^8,subN (pushN r (bitE w 13 i)) m<4294967296^8,inI (i-1)],.normal,TD69 (i-1),[bW w,b8 m,bW q,b8 (pushN r (bitE w 13 i))]):=by kernel_rfl
theorem run69a14 (w q:Nat→Nat) (m r:Nat) (i:Int):runTo ED 1000 (ED.S 167) (bodyOf Tryz.prog 167 4) (TD69 i) [bW w,b8 m,bW q,b8 r] [true,true,true,true,true,true,true,true,true,true,true,true,true,true,true,false,true,true,true,true,true,true,true,true,true,true,true,true,true,true,true,false] (TD69 (i-1)) 4=
  some ([decide (0≤i)=true,i.tdiv 32=((14:Nat):Int),(32:Int)≠0∧inI (i.tdiv 32),0≤i.tmod 32,bitE w 14 i≤1,r<4294967296^8,pushN r (bitE w 14 i)<4294967296^8,m<4294967296^8,decide (pushK r (bitE w 14 i)=1)=true,pushN r (bitE w 14 i)<4294967296^8,subN (pushN r (bitE w 14 i)) m<4294967296^8,i.tdiv 32=((14:Nat):Int),(32:Int)≠0∧inI (i.tdiv 32),0≤i.tmod 32,inI (i-1)],.normal,TD69 (i-1),[bW w,b8 m,bW (qE q 14 i),b8 (subN (pushN r (bitE w 14 i)) m)]):=by kernel_rfl
theorem run69b14 (w q:Nat→Nat) (m r:Nat) (i:Int):runTo ED 1000 (ED.S 167) (bodyOf Tryz.prog 167 4) (TD69 i) [bW w,b8 m,bW q,b8 r] [true,true,true,true,true,true,true,true,true,true,true,true,true,true,true,false,false,true,true,true,true,true,true,true,true,true,true,true,true,true,true,true,false] (TD69 (i-1)) 4=
  some ([decide (0≤i)=true,i.tdiv 32=((14:Nat):Int),(32:Int)≠0∧inI (i.tdiv 32),0≤i.tmod 32,bitE w 14 i≤1,r<4294967296^8,pushN r (bitE w 14 i)<4294967296^8,m<4294967296^8,decide (pushK r (bitE w 14 i)=1)=false,decide (subK (pushN r (bitE w 14 i)) m=0)=true,pushN r (bitE w 14 i)<4294967296^8,subN (pushN r (bitE w 14 i)) m<4294967296^8,i.tdiv 32=((14:Nat):Int),(32:Int)≠0∧inI (i.tdiv 32),0≤i.tmod 32,inI (i-1)],.normal,TD69 (i-1),[bW w,b8 m,bW (qE q 14 i),b8 (subN (pushN r (bitE w 14 i)) m)]):=by kernel_rfl
theorem run69n14 (w q:Nat→Nat) (m r:Nat) (i:Int):runTo ED 1000 (ED.S 167) (bodyOf Tryz.prog 167 4) (TD69 i) [bW w,b8 m,bW q,b8 r] [true,true,true,true,true,true,true,true,true,true,true,true,true,true,true,false,false,false] (TD69 (i-1)) 4=
  some ([decide (0≤i)=true,i.tdiv 32=((14:Nat):Int),(32:Int)≠0∧inI (i.tdiv 32),0≤i.tmod 32,bitE w 14 i≤1,r<4294967296^8,pushN r (bitE w 14 i)<4294967296^8,m<4294967296^8,decide (pushK r (bitE w 14 i)=1)=false,decide (subK (pushN r (bitE w 14 i)) m=0)=false,pushN r (bitE w 14 i)<4294967296^8,subN (pushN r (bitE w 14 i)) m<4294967296^8,inI (i-1)],.normal,TD69 (i-1),[bW w,b8 m,bW q,b8 (pushN r (bitE w 14 i))]):=by kernel_rfl
theorem run69a15 (w q:Nat→Nat) (m r:Nat) (i:Int):runTo ED 1000 (ED.S 167) (bodyOf Tryz.prog 167 4) (TD69 i) [bW w,b8 m,bW q,b8 r] [true,true,true,true,true,true,true,true,true,true,true,true,true,true,true,true,false,true,true,true,true,true,true,true,true,true,true,true,true,true,true,true,true,false] (TD69 (i-1)) 4=
  some ([decide (0≤i)=true,i.tdiv 32=((15:Nat):Int),(32:Int)≠0∧inI (i.tdiv 32),0≤i.tmod 32,bitE w 15 i≤1,r<4294967296^8,pushN r (bitE w 15 i)<4294967296^8,m<4294967296^8,decide (pushK r (bitE w 15 i)=1)=true,pushN r (bitE w 15 i)<4294967296^8,subN (pushN r (bitE w 15 i)) m<4294967296^8,i.tdiv 32=((15:Nat):Int),(32:Int)≠0∧inI (i.tdiv 32),0≤i.tmod 32,inI (i-1)],.normal,TD69 (i-1),[bW w,b8 m,bW (qE q 15 i),b8 (subN (pushN r (bitE w 15 i)) m)]):=by kernel_rfl
theorem run69b15 (w q:Nat→Nat) (m r:Nat) (i:Int):runTo ED 1000 (ED.S 167) (bodyOf Tryz.prog 167 4) (TD69 i) [bW w,b8 m,bW q,b8 r] [true,true,true,true,true,true,true,true,true,true,true,true,true,true,true,true,false,false,true,true,true,true,true,true,true,true,true,true,true,true,true,true,true,true,false] (TD69 (i-1)) 4=
  some ([decide (0≤i)=true,i.tdiv 32=((15:Nat):Int),(32:Int)≠0∧inI (i.tdiv 32),0≤i.tmod 32,bitE w 15 i≤1,r<4294967296^8,pushN r (bitE w 15 i)<4294967296^8,m<4294967296^8,decide (pushK r (bitE w 15 i)=1)=false,decide (subK (pushN r (bitE w 15 i)) m=0)=true,pushN r (bitE w 15 i)<4294967296^8,subN (pushN r (bitE w 15 i)) m<4294967296^8,i.tdiv 32=((15:Nat):Int),(32:Int)≠0∧inI (i.tdiv 32),0≤i.tmod 32,inI (i-1)],.normal,TD69 (i-1),[bW w,b8 m,bW (qE q 15 i),b8 (subN (pushN r (bitE w 15 i)) m)]):=by kernel_rfl
theorem run69n15 (w q:Nat→Nat) (m r:Nat) (i:Int):runTo ED 1000 (ED.S 167) (bodyOf Tryz.prog 167 4) (TD69 i) [bW w,b8 m,bW q,b8 r] [true,true,true,true,true,true,true,true,true,true,true,true,true,true,true,true,false,false,false] (TD69 (i-1)) 4=
  some ([decide (0≤i)=true,i.tdiv 32=((15:Nat):Int),(32:Int)≠0∧inI (i.tdiv 32),0≤i.tmod 32,bitE w 15 i≤1,r<4294967296^8,pushN r (bitE w 15 i)<4294967296^8,m<4294967296^8,decide (pushK r (bitE w 15 i)=1)=false,decide (subK (pushN r (bitE w 15 i)) m=0)=false,pushN r (bitE w 15 i)<4294967296^8,subN (pushN r (bitE w 15 i)) m<4294967296^8,inI (i-1)],.normal,TD69 (i-1),[bW w,b8 m,bW q,b8 (pushN r (bitE w 15 i))]):=by kernel_rfl
end Go.Ev

namespace Go.Ev
open Go Go.Proofs Go.RowKit
def un : Nat → List Bool → List Bool
 | 0, r => false :: r
 | n + 1, r => true :: un n r
theorem run69a (w q : Nat → Nat) (m r : Nat) (i : Int) (j : Nat) (hj : j < 16) : runTo ED 1000 (ED.S 167) (bodyOf Tryz.prog 167 4) (TD69 i) [bW w, b8 m, bW q, b8 r] (true :: un j (true :: un j [])) (TD69 (i - 1)) 4 =
  some ([decide (0 ≤ i) = true, i.tdiv 32 = ((j : Nat) : Int), (32 : Int) ≠ 0 ∧ inI (i.tdiv 32), 0 ≤ i.tmod 32, bitE w j i ≤ 1, r < 4294967296 ^ 8, pushN r (bitE w j i) < 4294967296 ^ 8, m < 4294967296 ^ 8, decide (pushK r (bitE w j i) = 1) = true, pushN r (bitE w j i) < 4294967296 ^ 8, subN (pushN r (bitE w j i)) m < 4294967296 ^ 8, i.tdiv 32 = ((j : Nat) : Int), (32 : Int) ≠ 0 ∧ inI (i.tdiv 32), 0 ≤ i.tmod 32, inI (i - 1)], .normal, TD69 (i - 1), [bW w, b8 m, bW (qE q j i), b8 (subN (pushN r (bitE w j i)) m)]) := by
 match j, hj with
 | 0, _ => exact run69a0 w q m r i
 | 1, _ => exact run69a1 w q m r i
 | 2, _ => exact run69a2 w q m r i
 | 3, _ => exact run69a3 w q m r i
 | 4, _ => exact run69a4 w q m r i
 | 5, _ => exact run69a5 w q m r i
 | 6, _ => exact run69a6 w q m r i
 | 7, _ => exact run69a7 w q m r i
 | 8, _ => exact run69a8 w q m r i
 | 9, _ => exact run69a9 w q m r i
 | 10, _ => exact run69a10 w q m r i
 | 11, _ => exact run69a11 w q m r i
 | 12, _ => exact run69a12 w q m r i
 | 13, _ => exact run69a13 w q m r i
 | 14, _ => exact run69a14 w q m r i
 | 15, _ => exact run69a15 w q m r i
 | n + 16, h => exact absurd h (by omega)
theorem run69b (w q : Nat → Nat) (m r : Nat) (i : Int) (j : Nat) (hj : j < 16) : runTo ED 1000 (ED.S 167) (bodyOf Tryz.prog 167 4) (TD69 i) [bW w, b8 m, bW q, b8 r] (true :: un j (false :: true :: un j [])) (TD69 (i - 1)) 4 =
  some ([decide (0 ≤ i) = true, i.tdiv 32 = ((j : Nat) : Int), (32 : Int) ≠ 0 ∧ inI (i.tdiv 32), 0 ≤ i.tmod 32, bitE w j i ≤ 1, r < 4294967296 ^ 8, pushN r (bitE w j i) < 4294967296 ^ 8, m < 4294967296 ^ 8, decide (pushK r (bitE w j i) = 1) = false, decide (subK (pushN r (bitE w j i)) m = 0) = true, pushN r (bitE w j i) < 4294967296 ^ 8, subN (pushN r (bitE w j i)) m < 4294967296 ^ 8, i.tdiv 32 = ((j : Nat) : Int), (32 : Int) ≠ 0 ∧ inI (i.tdiv 32), 0 ≤ i.tmod 32, inI (i - 1)], .normal, TD69 (i - 1), [bW w, b8 m, bW (qE q j i), b8 (subN (pushN r (bitE w j i)) m)]) := by
 match j, hj with
 | 0, _ => exact run69b0 w q m r i
 | 1, _ => exact run69b1 w q m r i
 | 2, _ => exact run69b2 w q m r i
 | 3, _ => exact run69b3 w q m r i
 | 4, _ => exact run69b4 w q m r i
 | 5, _ => exact run69b5 w q m r i
 | 6, _ => exact run69b6 w q m r i
 | 7, _ => exact run69b7 w q m r i
 | 8, _ => exact run69b8 w q m r i
 | 9, _ => exact run69b9 w q m r i
 | 10, _ => exact run69b10 w q m r i
 | 11, _ => exact run69b11 w q m r i
 | 12, _ => exact run69b12 w q m r i
 | 13, _ => exact run69b13 w q m r i
 | 14, _ => exact run69b14 w q m r i
 | 15, _ => exact run69b15 w q m r i
 | n + 16, h => exact absurd h (by omega)
theorem run69n (w q : Nat → Nat) (m r : Nat) (i : Int) (j : Nat) (hj : j < 16) : runTo ED 1000 (ED.S 167) (bodyOf Tryz.prog 167 4) (TD69 i) [bW w, b8 m, bW q, b8 r] (true :: un j ([false, false])) (TD69 (i - 1)) 4 =
  some ([decide (0 ≤ i) = true, i.tdiv 32 = ((j : Nat) : Int), (32 : Int) ≠ 0 ∧ inI (i.tdiv 32), 0 ≤ i.tmod 32, bitE w j i ≤ 1, r < 4294967296 ^ 8, pushN r (bitE w j i) < 4294967296 ^ 8, m < 4294967296 ^ 8, decide (pushK r (bitE w j i) = 1) = false, decide (subK (pushN r (bitE w j i)) m = 0) = false, pushN r (bitE w j i) < 4294967296 ^ 8, subN (pushN r (bitE w j i)) m < 4294967296 ^ 8, inI (i - 1)], .normal, TD69 (i - 1), [bW w, b8 m, bW q, b8 (pushN r (bitE w j i))]) := by
 match j, hj with
 | 0, _ => exact run69n0 w q m r i
 | 1, _ => exact run69n1 w q m r i
 | 2, _ => exact run69n2 w q m r i
 | 3, _ => exact run69n3 w q m r i
 | 4, _ => exact run69n4 w q m r i
 | 5, _ => exact run69n5 w q m r i
 | 6, _ => exact run69n6 w q m r i
 | 7, _ => exact run69n7 w q m r i
 | 8, _ => exact run69n8 w q m r i
 | 9, _ => exact run69n9 w q m r i
 | 10, _ => exact run69n10 w q m r i
 | 11, _ => exact run69n11 w q m r i
 | 12, _ => exact run69n12 w q m r i
 | 13, _ => exact run69n13 w q m r i
 | 14, _ => exact run69n14 w q m r i
 | 15, _ => exact run69n15 w q m r i
 | n + 16, h => exact absurd h (by omega)
theorem run69x (w q : Nat → Nat) (m r : Nat) : runTo ED 1000 (ED.S 167) (bodyOf Tryz.prog 167 4) (TD69 (-1)) [bW w, b8 m, bW q, b8 r] [false] (TD69 (-1)) 4 =
  some ([decide ((0 : Int) ≤ -1) = false], .exit 0, TD69 (-1), [bW w, b8 m, bW q, b8 r]) := by kernel_rfl
end Go.Ev

namespace Go.Ev
open Go Go.Proofs Go.RowKit
def bitN (V i : Nat) : Nat := V / 2 ^ i % 2
theorem bitN_le (V i : Nat) : bitN V i ≤ 1 := by unfold bitN; omega
theorem tmod_cast (n : Nat) : ((n : Nat) : Int).tmod 32 = ((n % 32 : Nat) : Int) := rfl
theorem tdiv_cast (n : Nat) : ((n : Nat) : Int).tdiv 32 = ((n / 32 : Nat) : Int) := rfl
theorem bitE_eq (V j t : Nat) (ht : t < 32) : bitE (limb V) j ((32 * j + t : Nat) : Int) = bitN V (32 * j + t) := by
 unfold bitE bitN
 rw [tmod_cast, Int.toNat_natCast, show (32 * j + t) % 32 = t by omega, show IntKind.u32.bits = 32 from rfl, Nat.min_eq_left (by omega), show bitsOf IntKind.u32 = 2 ^ 32 from rfl, show 1 % 2 ^ 32 = 1 from rfl, Nat.and_one_is_mod]
 have h1 : limb V j / 2 ^ t % 2 ^ 32 % 2 = limb V j / 2 ^ t % 2 := Nat.mod_mod_of_dvd _ (by decide)
 rw [h1]
 unfold limb
 rw [show (4294967296 : Nat) = 2 ^ 32 from rfl, ← Nat.pow_mul, ← Nat.toNat_testBit, Nat.testBit_mod_two_pow, decide_eq_true ht, Bool.true_and, Nat.toNat_testBit, Nat.div_div_eq_div_mul, ← Nat.pow_add]
theorem two_pow_mul (n : Nat) : 2 ^ (32 * n) = 4294967296 ^ n := by rw [Nat.pow_mul]
def remN (V m : Nat) : Nat := V % m
def dr (V m k : Nat) : Nat := V / 2 ^ (512 - k) % m
def dq (V m : Nat) : Nat → Nat → Nat
 | 0 => zF
 | k + 1 => match decide (m ≤ 2 * dr V m k + bitN V (511 - k)) with
  | true => qE (dq V m k) ((511 - k) / 32) ((511 - k : Nat) : Int)
  | false => dq V m k
theorem dr_lt {V m k : Nat} (hm : 0 < m) : dr V m k < m := Nat.mod_lt _ hm
theorem dr_step {V m k : Nat} (hk : k < 512) (hm : 0 < m) : dr V m (k + 1) = if m ≤ 2 * dr V m k + bitN V (511 - k) then 2 * dr V m k + bitN V (511 - k) - m else 2 * dr V m k + bitN V (511 - k) := by
 have e : V / 2 ^ (511 - k) = 2 * (V / 2 ^ (512 - k)) + bitN V (511 - k) := by
  unfold bitN
  rw [show 512 - k = (511 - k) + 1 by omega, Nat.pow_succ, ← Nat.div_div_eq_div_mul]
  omega
 have h1 := dr_lt (V := V) (k := k) hm
 have h2 := bitN_le V (511 - k)
 have e2 : dr V m (k + 1) = (2 * dr V m k + bitN V (511 - k)) % m := by
  unfold dr
  rw [show 512 - (k + 1) = 511 - k by omega, e]
  rw [Nat.add_mod, Nat.mul_mod, Nat.add_mod (2 * (V / 2 ^ (512 - k) % m)), Nat.mul_mod 2 (V / 2 ^ (512 - k) % m), Nat.mod_mod]
 rw [e2]
 split
 ·rw [Nat.mod_eq_sub_mod (by assumption), Nat.mod_eq_of_lt (by omega)]
 ·exact Nat.mod_eq_of_lt (by omega)
section
variable {V m : Nat}
theorem oblI {k j : Nat} (hk : k < 512) (hj : (511 - k) / 32 = j) (i : Int) (hi : i = ((511 - k : Nat) : Int)) : decide (0 ≤ i) = true ∧ i.tdiv 32 = ((j : Nat) : Int) ∧ ((32 : Int) ≠ 0 ∧ inI (i.tdiv 32)) ∧ 0 ≤ i.tmod 32 ∧ inI (i - 1) := by
 subst hi
 rw [tmod_cast, tdiv_cast, hj]
 refine ⟨decide_eq_true (by omega), rfl, ⟨by decide, ?_⟩, by omega, ?_⟩ <;> unfold inI <;> omega
theorem wf69 (w q : Nat → Nat) (m r : Nat) (i : Int) : wfS (TD69 i) [bW w, b8 m, bW q, b8 r] = true := wfS_of (by simp [b8_free, bW_free]) (tTD69 i)
theorem step69 (hm : 0 < m) (hR : m < 4294967296 ^ 8) {k : Nat} (hk : k < 512) :
  Goes Tryz.prog (bodyOf Tryz.prog 167 4) .normal (TD69 ((511 - k : Nat) : Int)) [bW (limb V), b8 m, bW (dq V m k), b8 (dr V m k)] (TD69 (((511 - k : Nat) : Int) - 1)) [bW (limb V), b8 m, bW (dq V m (k + 1)), b8 (dr V m (k + 1))] := by
 have hj : (511 - k) / 32 < 16 := by omega
 obtain ⟨o1, o2, o3, o4, o5⟩ := oblI hk rfl _ rfl
 have hb : bitE (limb V) ((511 - k) / 32) ((511 - k : Nat) : Int) = bitN V (511 - k) := by
  have := bitE_eq V ((511 - k) / 32) ((511 - k) % 32) (by omega)
  rwa [Nat.div_add_mod] at this
 have hbl := bitN_le V (511 - k)
 have hr := dr_lt (V := V) (k := k) hm
 have hst := dr_step (V := V) hk hm
 have hP : pushN (dr V m k) (bitN V (511 - k)) < 4294967296 ^ 8 := Nat.mod_lt _ (by decide)
 have hS : ∀ x y, subN x y < 4294967296 ^ 8 := fun x y => Nat.mod_lt _ (by decide)
 by_cases h1 : pushK (dr V m k) (bitN V (511 - k)) = 1
 ·have hfit : m ≤ 2 * dr V m k + bitN V (511 - k) := by unfold pushK at h1; omega
  have e : subN (pushN (dr V m k) (bitN V (511 - k))) m = dr V m (k + 1) := by
   rw [hst, if_pos hfit]; unfold subN pushN; unfold pushK at h1; omega
  have hrun := run69a (limb V) (dq V m k) m (dr V m k) ((511 - k : Nat) : Int) _ hj
  rw [hb, e] at hrun
  have hq : dq V m (k + 1) = qE (dq V m k) ((511 - k) / 32) ((511 - k : Nat) : Int) := by simp only [dq]; rw [decide_eq_true hfit]
  rw [hq]
  exact Runs.goes envED ⟨_, _, hrun, ⟨o1, o2, o3, o4, hbl, by omega, hP, hR, decide_eq_true h1, hP, by rw [← e]; exact hS _ _, o2, o3, o4, o5, trivial⟩, wf69 _ _ _ _ _⟩
 ·have hX : 2 * dr V m k + bitN V (511 - k) < 4294967296 ^ 8 := by unfold pushK at h1; omega
  have hPe : pushN (dr V m k) (bitN V (511 - k)) = 2 * dr V m k + bitN V (511 - k) := Nat.mod_eq_of_lt hX
  by_cases h2 : m ≤ 2 * dr V m k + bitN V (511 - k)
  ·have e : subN (pushN (dr V m k) (bitN V (511 - k))) m = dr V m (k + 1) := by
    rw [hst, if_pos h2, hPe]; unfold subN; omega
   have hK : subK (pushN (dr V m k) (bitN V (511 - k))) m = 0 := by rw [hPe]; unfold subK; rw [if_neg (by omega)]
   have hrun := run69b (limb V) (dq V m k) m (dr V m k) ((511 - k : Nat) : Int) _ hj
   rw [hb, e] at hrun
   have hq : dq V m (k + 1) = qE (dq V m k) ((511 - k) / 32) ((511 - k : Nat) : Int) := by simp only [dq]; rw [decide_eq_true h2]
   rw [hq]
   exact Runs.goes envED ⟨_, _, hrun, ⟨o1, o2, o3, o4, hbl, by omega, hP, hR, decide_eq_false h1, decide_eq_true hK, hP, by rw [← e]; exact hS _ _, o2, o3, o4, o5, trivial⟩, wf69 _ _ _ _ _⟩
  ·have e : pushN (dr V m k) (bitN V (511 - k)) = dr V m (k + 1) := by rw [hst, if_neg h2, hPe]
   have hK : ¬ subK (pushN (dr V m k) (bitN V (511 - k))) m = 0 := by rw [hPe]; unfold subK; rw [if_pos (by omega)]; omega
   have hrun := run69n (limb V) (dq V m k) m (dr V m k) ((511 - k : Nat) : Int) _ hj
   have hq : dq V m (k + 1) = dq V m k := by simp only [dq]; rw [decide_eq_false h2]
   rw [hb] at hrun
   rw [hq, ← e]
   exact Runs.goes envED ⟨_, _, hrun, ⟨o1, o2, o3, o4, hbl, by omega, hP, hR, decide_eq_false h1, decide_eq_false hK, hP, hS _ _, o5, trivial⟩, wf69 _ _ _ _ _⟩
theorem loop69 (hV : V < 4294967296 ^ 16) (hm : 0 < m) (hR : m < 4294967296 ^ 8) :
  Goes Tryz.prog (.loop (bodyOf Tryz.prog 167 4)) (.exit 0) (TD69 511) [bW (limb V), b8 m, bW zF, z8] (TD69 (-1)) [bW (limb V), b8 m, bW (dq V m 512), b8 (remN V m)] := by
 have h0 : dr V m 0 = 0 := by unfold dr; rw [show 512 - 0 = 32 * 16 from rfl, two_pow_mul 16, Nat.div_eq_of_lt hV]; exact Nat.zero_mod m
 have h1 : dr V m 512 = remN V m := by simp [dr, remN]
 have := loop_goes (P := Tryz.prog) (y := bodyOf Tryz.prog 167 4) (ex := .exit 0) (N := 512) (k := 4) (T := fun k => TD69 (511 - (k : Int))) (M := fun k => [bW (limb V), b8 m, bW (dq V m k), b8 (dr V m k)]) (TF := TD69 (-1)) (MF := [bW (limb V), b8 m, bW (dq V m 512), b8 (dr V m 512)])
  (by simp) (fun _ _ => rfl) (fun k hk => by
   have := step69 (V := V) hm hR hk
   rw [show ((511 - k : Nat) : Int) - 1 = 511 - ((k + 1 : Nat) : Int) by omega, show ((511 - k : Nat) : Int) = 511 - (k : Int) by omega] at this
   exact this)
  (Runs.goes envED ⟨[false], _, run69x _ _ _ _, ⟨by decide, trivial⟩, wf69 _ _ _ _ _⟩)
 rw [h1] at this
 refine Goes.before this (T := TD69 511) (M := [bW (limb V), b8 m, bW zF, z8]) (sameT_refl _) ⟨⟨rfl, rfl, rfl, rfl, fun _ => rfl⟩, ⟨rfl, rfl, rfl, rfl, fun _ => rfl⟩, ⟨rfl, rfl, rfl, rfl, fun _ => rfl⟩, ⟨rfl, rfl, rfl, rfl, fun φ => ?_⟩, trivial⟩ (wf69 _ _ _ _ _)
 simp only [h0, b8, z8, bN]
 rfl
theorem limb_zero : limb 0 = zF := by funext i; simp [limb, zF]
end
noncomputable def EDV (V m : Nat) : Env := { ED with lp := fun j => match Nat.beq j 4 with | true => some (bodyOf Tryz.prog 167 4, sumC (TD69 511) [bW (limb V), b8 m, bW zF, z8] (TD69 (-1)) [bW (limb V), b8 m, bW (dq V m 512), b8 (remN V m)] (.exit 0)) | false => none }
theorem envEDV {V m : Nat} (hV : V < 4294967296 ^ 16) (hm : 0 < m) (hR : m < 4294967296 ^ 8) : EnvOK (EDV V m) := envEL1 envED (sumC_ok rfl (loop69 hV hm hR))
def isZ (m : Nat) : Bool := match eqF [.num 8 m] (cellsU 8 0 zF) with | some b => b | none => true
theorem run69c (V m : Nat) : callR (EDV V m) 1000 167 [C16 (limb V), N8 m] [false] = some ([isZ m = false, bodyOf Tryz.prog 167 4 = bodyOf Tryz.prog 167 4,
  (TD69 511, [bW (limb V), b8 m, bW zF, z8]) = (TD69 511, [bW (limb V), b8 m, bW zF, z8]), wfS (TD69 511) [bW (limb V), b8 m, bW zF, z8] = true], .tup [C16 (dq V m 512), N8 (remN V m), .one (.i 0)]) := by kernel_rfl
theorem isZ_eq {m : Nat} (hm : m < 4294967296 ^ 8) : isZ m = decide (m = 0) := by
 have h1 : ∃ b, eqF [.num 8 m] (cellsU 8 0 zF) = some b := ⟨_, rfl⟩
 obtain ⟨b, hb⟩ := h1
 have h2 := eqF_spec (φ := fun _ => (0, 0, 0)) _ _ hb
 have h3 : eqF [.num 8 m] [.num 8 0] = some (decide (m % 4294967296 ^ 8 = 0 % 4294967296 ^ 8) && true) := rfl
 have h4 := eqF_spec (φ := fun _ => (0, 0, 0)) _ _ h3
 rw [concs_num _ 8 0, limb_zero] at h4
 rw [h4] at h2
 unfold isZ
 rw [hb]
 simp only
 rw [← h2, Nat.mod_eq_of_lt hm]
 simp
def gDiv (V m : Nat) : AV := .tup [C16 (dq V m 512), N8 (remN V m), .one (.i 0)]
theorem spec69 (V m : Nat) (hV : V < 4294967296 ^ 16) (hR : m < 4294967296 ^ 8) (hm : 0 < m) : Spec 167 [N16 V, N8 m] (gDiv V m) := by
 refine (spec_run (envEDV hV hm hR) rfl (run69c V m) ⟨by rw [isZ_eq hR]; exact decide_eq_false (by omega), rfl, rfl, wfS_of (by simp [b8_free, bW_free, z8, bN_free]) (tTD69 _), trivial⟩ rfl rfl).congr (fun φ => by simp only [List.map_cons, List.map_nil, conc_C16]) (fun φ => rfl)
def fnDiv (g : Nat → Nat → AV) (vs : List V1) : Option (List Prop × AV) :=
 match vs with
 | [x, y] => match numP 16 x, numP 8 y with
  | some (o, a), some (o', b) => some (o ++ ((0 < b) :: o'), g a b)
  | _, _ => none
 | _ => none
theorem fnDiv_ok {f : FuncId} {g : Nat → Nat → AV} (hg : ∀ a b, a < 4294967296 ^ 16 → b < 4294967296 ^ 8 → 0 < b → Spec f [N16 a, N8 b] (g a b)) {vs : List V1} {ob : List Prop} {r : AV} (h : fnDiv g vs = some (ob, r)) (ho : All ob) : Spec f vs r := by
 unfold fnDiv at h
 split at h
 ·rename_i x y
  split at h
  ·rename_i o a o' b hx hy
   simp only [Option.some.injEq, Prod.mk.injEq] at h
   obtain ⟨rfl, rfl⟩ := h
   rw [All_append] at ho
   obtain ⟨h1, h2⟩ := numP_spec hx ho.1
   obtain ⟨h3, h4⟩ := numP_spec hy ho.2.2
   exact (hg a b h1 h3 ho.2.1).congr (fun φ => by simp only [List.map_cons, List.map_nil]; rw [← h2 φ, ← h4 φ]; rfl) (fun _ => rfl)
  ·simp at h
 ·simp at h
end Go.Ev

