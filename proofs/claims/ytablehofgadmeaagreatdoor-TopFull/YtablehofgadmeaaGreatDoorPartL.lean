/- Of the proof of TopFull: what the functions come to that the law reaches. -/
import Derived.Test.YtablehofgadmeaaGreatDoorPartK
namespace Go.Ev
open Go Go.Proofs Go.RowKit
def b8 (n:Nat):Blk:=⟨[.num 8 n],185,true,false,0⟩
theorem b8_free (n:Nat):Free (b8 n):=fun _=>rfl
def z8:Blk:=bN zF
noncomputable def ED:Env:={E0 with
 fn:=fun f vs=>match f with|116=>fn2 gSub vs|118=>fn85 vs|299=>fn87 vs|_=>none
 S:=fun f t=>match f with|275=>memN t [15,19,21,25,30,42,45,53,58,1000025,1000053]|_=>false}
theorem envED:EnvOK ED:=by
 refine ⟨mixed,?_,fun _ _ _ _ _ h=>by simp[ED,E0] at h,fun _ _ _ h=>by simp[ED,E0] at h,fun _ _ _ _ _ _ h=>by simp[ED,E0] at h,fun _ _ _ _ h=>by simp[ED,E0] at h⟩
 intro f vs ob r h ho
 simp only[ED] at h
 split at h
 ·exact fn2_ok spec78 h ho
 ·exact fn85_ok h ho
 ·exact fn87_ok h ho
 ·simp at h
def bitE (w:Nat→Nat) (j:Nat) (i:Int):Nat:=w j/2^min (i.tmod 32).toNat IntKind.u32.bits%bitsOf IntKind.u32&&&1%bitsOf IntKind.u32
def qE (q:Nat→Nat) (j:Nat) (i:Int) (m:Nat):Nat:=
 match Nat.beq m j with
 |true=>q j%4294967296|||1*2^min (i.tmod 32).toNat IntKind.u32.bits%4294967296%4294967296
 |false=>q m
def TD69 (i:Int):List AV:=slots 63 [(2,pV 0),(3,pV 1),(4,pV 2),(5,pV 3),(6,iV 0),(7,iV i)]
theorem tTD69 (i:Int):tmsWf 4 (TD69 i)=true:=by kernel_rfl
theorem run69a0 (w q:Nat→Nat) (m r:Nat) (i:Int):runTo ED 1000 (ED.S 275) (bodyOf Tryz.prog 275 4) (TD69 i) [bW w,b8 m,bW q,b8 r] [true,false,true,false] (TD69 (i-1)) 4=
  some ([decide (0≤i)=true,i.tdiv 32=((0:Nat):Int),(32:Int)≠0∧inI (i.tdiv 32),0≤i.tmod 32,bitE w 0 i≤1,r<4294967296^8,pushN r (bitE w 0 i)<4294967296^8,m<4294967296^8,decide (pushK r (bitE w 0 i)=1)=true,pushN r (bitE w 0 i)<4294967296^8,subN (pushN r (bitE w 0 i)) m<4294967296^8,i.tdiv 32=((0:Nat):Int),(32:Int)≠0∧inI (i.tdiv 32),0≤i.tmod 32,inI (i-1)],.normal,TD69 (i-1),[bW w,b8 m,bW (qE q 0 i),b8 (subN (pushN r (bitE w 0 i)) m)]):=by kernel_rfl
theorem run69b0 (w q:Nat→Nat) (m r:Nat) (i:Int):runTo ED 1000 (ED.S 275) (bodyOf Tryz.prog 275 4) (TD69 i) [bW w,b8 m,bW q,b8 r] [true,false,false,true,false] (TD69 (i-1)) 4=
  some ([decide (0≤i)=true,i.tdiv 32=((0:Nat):Int),(32:Int)≠0∧inI (i.tdiv 32),0≤i.tmod 32,bitE w 0 i≤1,r<4294967296^8,pushN r (bitE w 0 i)<4294967296^8,m<4294967296^8,decide (pushK r (bitE w 0 i)=1)=false,decide (subK (pushN r (bitE w 0 i)) m=0)=true,pushN r (bitE w 0 i)<4294967296^8,subN (pushN r (bitE w 0 i)) m<4294967296^8,i.tdiv 32=((0:Nat):Int),(32:Int)≠0∧inI (i.tdiv 32),0≤i.tmod 32,inI (i-1)],.normal,TD69 (i-1),[bW w,b8 m,bW (qE q 0 i),b8 (subN (pushN r (bitE w 0 i)) m)]):=by kernel_rfl
theorem run69n0 (w q:Nat→Nat) (m r:Nat) (i:Int):runTo ED 1000 (ED.S 275) (bodyOf Tryz.prog 275 4) (TD69 i) [bW w,b8 m,bW q,b8 r] [true,false,false,false] (TD69 (i-1)) 4=
  some ([decide (0≤i)=true,i.tdiv 32=((0:Nat):Int),(32:Int)≠0∧inI (i.tdiv 32),0≤i.tmod 32,bitE w 0 i≤1,r<4294967296^8,pushN r (bitE w 0 i)<4294967296^8,m<4294967296^8,decide (pushK r (bitE w 0 i)=1)=false,decide (subK (pushN r (bitE w 0 i)) m=0)=false,pushN r (bitE w 0 i)<4294967296^8,subN (pushN r (bitE w 0 i)) m<4294967296^8,inI (i-1)],.normal,TD69 (i-1),[bW w,b8 m,bW q,b8 (pushN r (bitE w 0 i))]):=by kernel_rfl
theorem run69a1 (w q:Nat→Nat) (m r:Nat) (i:Int):runTo ED 1000 (ED.S 275) (bodyOf Tryz.prog 275 4) (TD69 i) [bW w,b8 m,bW q,b8 r] [true,true,false,true,true,false] (TD69 (i-1)) 4=
  some ([decide (0≤i)=true,i.tdiv 32=((1:Nat):Int),(32:Int)≠0∧inI (i.tdiv 32),0≤i.tmod 32,bitE w 1 i≤1,r<4294967296^8,pushN r (bitE w 1 i)<4294967296^8,m<4294967296^8,decide (pushK r (bitE w 1 i)=1)=true,pushN r (bitE w 1 i)<4294967296^8,subN (pushN r (bitE w 1 i)) m<4294967296^8,i.tdiv 32=((1:Nat):Int),(32:Int)≠0∧inI (i.tdiv 32),0≤i.tmod 32,inI (i-1)],.normal,TD69 (i-1),[bW w,b8 m,bW (qE q 1 i),b8 (subN (pushN r (bitE w 1 i)) m)]):=by kernel_rfl
theorem run69b1 (w q:Nat→Nat) (m r:Nat) (i:Int):runTo ED 1000 (ED.S 275) (bodyOf Tryz.prog 275 4) (TD69 i) [bW w,b8 m,bW q,b8 r] [true,true,false,false,true,true,false] (TD69 (i-1)) 4=
  some ([decide (0≤i)=true,i.tdiv 32=((1:Nat):Int),(32:Int)≠0∧inI (i.tdiv 32),0≤i.tmod 32,bitE w 1 i≤1,r<4294967296^8,pushN r (bitE w 1 i)<4294967296^8,m<4294967296^8,decide (pushK r (bitE w 1 i)=1)=false,decide (subK (pushN r (bitE w 1 i)) m=0)=true,pushN r (bitE w 1 i)<4294967296^8,subN (pushN r (bitE w 1 i)) m<4294967296^8,i.tdiv 32=((1:Nat):Int),(32:Int)≠0∧inI (i.tdiv 32),0≤i.tmod 32,inI (i-1)],.normal,TD69 (i-1),[bW w,b8 m,bW (qE q 1 i),b8 (subN (pushN r (bitE w 1 i)) m)]):=by kernel_rfl
theorem run69n1 (w q:Nat→Nat) (m r:Nat) (i:Int):runTo ED 1000 (ED.S 275) (bodyOf Tryz.prog 275 4) (TD69 i) [bW w,b8 m,bW q,b8 r] [true,true,false,false,false] (TD69 (i-1)) 4=
  some ([decide (0≤i)=true,i.tdiv 32=((1:Nat):Int),(32:Int)≠0∧inI (i.tdiv 32),0≤i.tmod 32,bitE w 1 i≤1,r<4294967296^8,pushN r (bitE w 1 i)<4294967296^8,m<4294967296^8,decide (pushK r (bitE w 1 i)=1)=false,decide (subK (pushN r (bitE w 1 i)) m=0)=false,pushN r (bitE w 1 i)<4294967296^8,subN (pushN r (bitE w 1 i)) m<4294967296^8,inI (i-1)],.normal,TD69 (i-1),[bW w,b8 m,bW q,b8 (pushN r (bitE w 1 i))]):=by kernel_rfl
theorem run69a2 (w q:Nat→Nat) (m r:Nat) (i:Int):runTo ED 1000 (ED.S 275) (bodyOf Tryz.prog 275 4) (TD69 i) [bW w,b8 m,bW q,b8 r] [true,true,true,false,true,true,true,false] (TD69 (i-1)) 4=
  some ([decide (0≤i)=true,i.tdiv 32=((2:Nat):Int),(32:Int)≠0∧inI (i.tdiv 32),0≤i.tmod 32,bitE w 2 i≤1,r<4294967296^8,pushN r (bitE w 2 i)<4294967296^8,m<4294967296^8,decide (pushK r (bitE w 2 i)=1)=true,pushN r (bitE w 2 i)<4294967296^8,subN (pushN r (bitE w 2 i)) m<4294967296^8,i.tdiv 32=((2:Nat):Int),(32:Int)≠0∧inI (i.tdiv 32),0≤i.tmod 32,inI (i-1)],.normal,TD69 (i-1),[bW w,b8 m,bW (qE q 2 i),b8 (subN (pushN r (bitE w 2 i)) m)]):=by kernel_rfl
theorem run69b2 (w q:Nat→Nat) (m r:Nat) (i:Int):runTo ED 1000 (ED.S 275) (bodyOf Tryz.prog 275 4) (TD69 i) [bW w,b8 m,bW q,b8 r] [true,true,true,false,false,true,true,true,false] (TD69 (i-1)) 4=
  some ([decide (0≤i)=true,i.tdiv 32=((2:Nat):Int),(32:Int)≠0∧inI (i.tdiv 32),0≤i.tmod 32,bitE w 2 i≤1,r<4294967296^8,pushN r (bitE w 2 i)<4294967296^8,m<4294967296^8,decide (pushK r (bitE w 2 i)=1)=false,decide (subK (pushN r (bitE w 2 i)) m=0)=true,pushN r (bitE w 2 i)<4294967296^8,subN (pushN r (bitE w 2 i)) m<4294967296^8,i.tdiv 32=((2:Nat):Int),(32:Int)≠0∧inI (i.tdiv 32),0≤i.tmod 32,inI (i-1)],.normal,TD69 (i-1),[bW w,b8 m,bW (qE q 2 i),b8 (subN (pushN r (bitE w 2 i)) m)]):=by kernel_rfl
theorem run69n2 (w q:Nat→Nat) (m r:Nat) (i:Int):runTo ED 1000 (ED.S 275) (bodyOf Tryz.prog 275 4) (TD69 i) [bW w,b8 m,bW q,b8 r] [true,true,true,false,false,false] (TD69 (i-1)) 4=
  some ([decide (0≤i)=true,i.tdiv 32=((2:Nat):Int),(32:Int)≠0∧inI (i.tdiv 32),0≤i.tmod 32,bitE w 2 i≤1,r<4294967296^8,pushN r (bitE w 2 i)<4294967296^8,m<4294967296^8,decide (pushK r (bitE w 2 i)=1)=false,decide (subK (pushN r (bitE w 2 i)) m=0)=false,pushN r (bitE w 2 i)<4294967296^8,subN (pushN r (bitE w 2 i)) m<4294967296^8,inI (i-1)],.normal,TD69 (i-1),[bW w,b8 m,bW q,b8 (pushN r (bitE w 2 i))]):=by kernel_rfl
theorem run69a3 (w q:Nat→Nat) (m r:Nat) (i:Int):runTo ED 1000 (ED.S 275) (bodyOf Tryz.prog 275 4) (TD69 i) [bW w,b8 m,bW q,b8 r] [true,true,true,true,false,true,true,true,true,false] (TD69 (i-1)) 4=
  some ([decide (0≤i)=true,i.tdiv 32=((3:Nat):Int),(32:Int)≠0∧inI (i.tdiv 32),0≤i.tmod 32,bitE w 3 i≤1,r<4294967296^8,pushN r (bitE w 3 i)<4294967296^8,m<4294967296^8,decide (pushK r (bitE w 3 i)=1)=true,pushN r (bitE w 3 i)<4294967296^8,subN (pushN r (bitE w 3 i)) m<4294967296^8,i.tdiv 32=((3:Nat):Int),(32:Int)≠0∧inI (i.tdiv 32),0≤i.tmod 32,inI (i-1)],.normal,TD69 (i-1),[bW w,b8 m,bW (qE q 3 i),b8 (subN (pushN r (bitE w 3 i)) m)]):=by kernel_rfl
theorem run69b3 (w q:Nat→Nat) (m r:Nat) (i:Int):runTo ED 1000 (ED.S 275) (bodyOf Tryz.prog 275 4) (TD69 i) [bW w,b8 m,bW q,b8 r] [true,true,true,true,false,false,true,true,true,true,false] (TD69 (i-1)) 4=
  some ([decide (0≤i)=true,i.tdiv 32=((3:Nat):Int),(32:Int)≠0∧inI (i.tdiv 32),0≤i.tmod 32,bitE w 3 i≤1,r<4294967296^8,pushN r (bitE w 3 i)<4294967296^8,m<4294967296^8,decide (pushK r (bitE w 3 i)=1)=false,decide (subK (pushN r (bitE w 3 i)) m=0)=true,pushN r (bitE w 3 i)<4294967296^8,subN (pushN r (bitE w 3 i)) m<4294967296^8,i.tdiv 32=((3:Nat):Int),(32:Int)≠0∧inI (i.tdiv 32),0≤i.tmod 32,inI (i-1)],.normal,TD69 (i-1),[bW w,b8 m,bW (qE q 3 i),b8 (subN (pushN r (bitE w 3 i)) m)]):=by kernel_rfl
theorem run69n3 (w q:Nat→Nat) (m r:Nat) (i:Int):runTo ED 1000 (ED.S 275) (bodyOf Tryz.prog 275 4) (TD69 i) [bW w,b8 m,bW q,b8 r] [true,true,true,true,false,false,false] (TD69 (i-1)) 4=
  some ([decide (0≤i)=true,i.tdiv 32=((3:Nat):Int),(32:Int)≠0∧inI (i.tdiv 32),0≤i.tmod 32,bitE w 3 i≤1,r<4294967296^8,pushN r (bitE w 3 i)<4294967296^8,m<4294967296^8,decide (pushK r (bitE w 3 i)=1)=false,decide (subK (pushN r (bitE w 3 i)) m=0)=false,pushN r (bitE w 3 i)<4294967296^8,subN (pushN r (bitE w 3 i)) m<4294967296^8,inI (i-1)],.normal,TD69 (i-1),[bW w,b8 m,bW q,b8 (pushN r (bitE w 3 i))]):=by kernel_rfl
theorem run69a4 (w q:Nat→Nat) (m r:Nat) (i:Int):runTo ED 1000 (ED.S 275) (bodyOf Tryz.prog 275 4) (TD69 i) [bW w,b8 m,bW q,b8 r] [true,true,true,true,true,false,true,true,true,true,true,false] (TD69 (i-1)) 4=
  some ([decide (0≤i)=true,i.tdiv 32=((4:Nat):Int),(32:Int)≠0∧inI (i.tdiv 32),0≤i.tmod 32,bitE w 4 i≤1,r<4294967296^8,pushN r (bitE w 4 i)<4294967296^8,m<4294967296^8,decide (pushK r (bitE w 4 i)=1)=true,pushN r (bitE w 4 i)<4294967296^8,subN (pushN r (bitE w 4 i)) m<4294967296^8,i.tdiv 32=((4:Nat):Int),(32:Int)≠0∧inI (i.tdiv 32),0≤i.tmod 32,inI (i-1)],.normal,TD69 (i-1),[bW w,b8 m,bW (qE q 4 i),b8 (subN (pushN r (bitE w 4 i)) m)]):=by kernel_rfl
theorem run69b4 (w q:Nat→Nat) (m r:Nat) (i:Int):runTo ED 1000 (ED.S 275) (bodyOf Tryz.prog 275 4) (TD69 i) [bW w,b8 m,bW q,b8 r] [true,true,true,true,true,false,false,true,true,true,true,true,false] (TD69 (i-1)) 4=
  some ([decide (0≤i)=true,i.tdiv 32=((4:Nat):Int),(32:Int)≠0∧inI (i.tdiv 32),0≤i.tmod 32,bitE w 4 i≤1,r<4294967296^8,pushN r (bitE w 4 i)<4294967296^8,m<4294967296^8,decide (pushK r (bitE w 4 i)=1)=false,decide (subK (pushN r (bitE w 4 i)) m=0)=true,pushN r (bitE w 4 i)<4294967296^8,subN (pushN r (bitE w 4 i)) m<4294967296^8,i.tdiv 32=((4:Nat):Int),(32:Int)≠0∧inI (i.tdiv 32),0≤i.tmod 32,inI (i-1)],.normal,TD69 (i-1),[bW w,b8 m,bW (qE q 4 i),b8 (subN (pushN r (bitE w 4 i)) m)]):=by kernel_rfl
theorem run69n4 (w q:Nat→Nat) (m r:Nat) (i:Int):runTo ED 1000 (ED.S 275) (bodyOf Tryz.prog 275 4) (TD69 i) [bW w,b8 m,bW q,b8 r] [true,true,true,true,true,false,false,false] (TD69 (i-1)) 4=
  some ([decide (0≤i)=true,i.tdiv 32=((4:Nat):Int),(32:Int)≠0∧inI (i.tdiv 32),0≤i.tmod 32,bitE w 4 i≤1,r<4294967296^8,pushN r (bitE w 4 i)<4294967296^8,m<4294967296^8,decide (pushK r (bitE w 4 i)=1)=false,decide (subK (pushN r (bitE w 4 i)) m=0)=false,pushN r (bitE w 4 i)<4294967296^8,subN (pushN r (bitE w 4 i)) m<4294967296^8,inI (i-1)],.normal,TD69 (i-1),[bW w,b8 m,bW q,b8 (pushN r (bitE w 4 i))]):=by kernel_rfl
theorem run69a5 (w q:Nat→Nat) (m r:Nat) (i:Int):runTo ED 1000 (ED.S 275) (bodyOf Tryz.prog 275 4) (TD69 i) [bW w,b8 m,bW q,b8 r] [true,true,true,true,true,true,false,true,true,true,true,true,true,false] (TD69 (i-1)) 4=
  some ([decide (0≤i)=true,i.tdiv 32=((5:Nat):Int),(32:Int)≠0∧inI (i.tdiv 32),0≤i.tmod 32,bitE w 5 i≤1,r<4294967296^8,pushN r (bitE w 5 i)<4294967296^8,m<4294967296^8,decide (pushK r (bitE w 5 i)=1)=true,pushN r (bitE w 5 i)<4294967296^8,subN (pushN r (bitE w 5 i)) m<4294967296^8,i.tdiv 32=((5:Nat):Int),(32:Int)≠0∧inI (i.tdiv 32),0≤i.tmod 32,inI (i-1)],.normal,TD69 (i-1),[bW w,b8 m,bW (qE q 5 i),b8 (subN (pushN r (bitE w 5 i)) m)]):=by kernel_rfl
theorem run69b5 (w q:Nat→Nat) (m r:Nat) (i:Int):runTo ED 1000 (ED.S 275) (bodyOf Tryz.prog 275 4) (TD69 i) [bW w,b8 m,bW q,b8 r] [true,true,true,true,true,true,false,false,true,true,true,true,true,true,false] (TD69 (i-1)) 4=
  some ([decide (0≤i)=true,i.tdiv 32=((5:Nat):Int),(32:Int)≠0∧inI (i.tdiv 32),0≤i.tmod 32,bitE w 5 i≤1,r<4294967296^8,pushN r (bitE w 5 i)<4294967296^8,m<4294967296^8,decide (pushK r (bitE w 5 i)=1)=false,decide (subK (pushN r (bitE w 5 i)) m=0)=true,pushN r (bitE w 5 i)<4294967296^8,subN (pushN r (bitE w 5 i)) m<4294967296^8,i.tdiv 32=((5:Nat):Int),(32:Int)≠0∧inI (i.tdiv 32),0≤i.tmod 32,inI (i-1)],.normal,TD69 (i-1),[bW w,b8 m,bW (qE q 5 i),b8 (subN (pushN r (bitE w 5 i)) m)]):=by kernel_rfl
theorem run69n5 (w q:Nat→Nat) (m r:Nat) (i:Int):runTo ED 1000 (ED.S 275) (bodyOf Tryz.prog 275 4) (TD69 i) [bW w,b8 m,bW q,b8 r] [true,true,true,true,true,true,false,false,false] (TD69 (i-1)) 4=
  some ([decide (0≤i)=true,i.tdiv 32=((5:Nat):Int),(32:Int)≠0∧inI (i.tdiv 32),0≤i.tmod 32,bitE w 5 i≤1,r<4294967296^8,pushN r (bitE w 5 i)<4294967296^8,m<4294967296^8,decide (pushK r (bitE w 5 i)=1)=false,decide (subK (pushN r (bitE w 5 i)) m=0)=false,pushN r (bitE w 5 i)<4294967296^8,subN (pushN r (bitE w 5 i)) m<4294967296^8,inI (i-1)],.normal,TD69 (i-1),[bW w,b8 m,bW q,b8 (pushN r (bitE w 5 i))]):=by kernel_rfl
theorem run69a6 (w q:Nat→Nat) (m r:Nat) (i:Int):runTo ED 1000 (ED.S 275) (bodyOf Tryz.prog 275 4) (TD69 i) [bW w,b8 m,bW q,b8 r] [true,true,true,true,true,true,true,false,true,true,true,true,true,true,true,false] (TD69 (i-1)) 4=
  some ([decide (0≤i)=true,i.tdiv 32=((6:Nat):Int),(32:Int)≠0∧inI (i.tdiv 32),0≤i.tmod 32,bitE w 6 i≤1,r<4294967296^8,pushN r (bitE w 6 i)<4294967296^8,m<4294967296^8,decide (pushK r (bitE w 6 i)=1)=true,pushN r (bitE w 6 i)<4294967296^8,subN (pushN r (bitE w 6 i)) m<4294967296^8,i.tdiv 32=((6:Nat):Int),(32:Int)≠0∧inI (i.tdiv 32),0≤i.tmod 32,inI (i-1)],.normal,TD69 (i-1),[bW w,b8 m,bW (qE q 6 i),b8 (subN (pushN r (bitE w 6 i)) m)]):=by kernel_rfl
theorem run69b6 (w q:Nat→Nat) (m r:Nat) (i:Int):runTo ED 1000 (ED.S 275) (bodyOf Tryz.prog 275 4) (TD69 i) [bW w,b8 m,bW q,b8 r] [true,true,true,true,true,true,true,false,false,true,true,true,true,true,true,true,false] (TD69 (i-1)) 4=
  some ([decide (0≤i)=true,i.tdiv 32=((6:Nat):Int),(32:Int)≠0∧inI (i.tdiv 32),0≤i.tmod 32,bitE w 6 i≤1,r<4294967296^8,pushN r (bitE w 6 i)<4294967296^8,m<4294967296^8,decide (pushK r (bitE w 6 i)=1)=false,decide (subK (pushN r (bitE w 6 i)) m=0)=true,pushN r (bitE w 6 i)<4294967296^8,subN (pushN r (bitE w 6 i)) m<4294967296^8,i.tdiv 32=((6:Nat):Int),(32:Int)≠0∧inI (i.tdiv 32),0≤i.tmod 32,inI (i-1)],.normal,TD69 (i-1),[bW w,b8 m,bW (qE q 6 i),b8 (subN (pushN r (bitE w 6 i)) m)]):=by kernel_rfl
theorem run69n6 (w q:Nat→Nat) (m r:Nat) (i:Int):runTo ED 1000 (ED.S 275) (bodyOf Tryz.prog 275 4) (TD69 i) [bW w,b8 m,bW q,b8 r] [true,true,true,true,true,true,true,false,false,false] (TD69 (i-1)) 4=
  some ([decide (0≤i)=true,i.tdiv 32=((6:Nat):Int),(32:Int)≠0∧inI (i.tdiv 32),0≤i.tmod 32,bitE w 6 i≤1,r<4294967296^8,pushN r (bitE w 6 i)<4294967296^8,m<4294967296^8,decide (pushK r (bitE w 6 i)=1)=false,decide (subK (pushN r (bitE w 6 i)) m=0)=false,pushN r (bitE w 6 i)<4294967296^8,subN (pushN r (bitE w 6 i)) m<4294967296^8,inI (i-1)],.normal,TD69 (i-1),[bW w,b8 m,bW q,b8 (pushN r (bitE w 6 i))]):=by kernel_rfl
theorem run69a7 (w q:Nat→Nat) (m r:Nat) (i:Int):runTo ED 1000 (ED.S 275) (bodyOf Tryz.prog 275 4) (TD69 i) [bW w,b8 m,bW q,b8 r] [true,true,true,true,true,true,true,true,false,true,true,true,true,true,true,true,true,false] (TD69 (i-1)) 4=
  some ([decide (0≤i)=true,i.tdiv 32=((7:Nat):Int),(32:Int)≠0∧inI (i.tdiv 32),0≤i.tmod 32,bitE w 7 i≤1,r<4294967296^8,pushN r (bitE w 7 i)<4294967296^8,m<4294967296^8,decide (pushK r (bitE w 7 i)=1)=true,pushN r (bitE w 7 i)<4294967296^8,subN (pushN r (bitE w 7 i)) m<4294967296^8,i.tdiv 32=((7:Nat):Int),(32:Int)≠0∧inI (i.tdiv 32),0≤i.tmod 32,inI (i-1)],.normal,TD69 (i-1),[bW w,b8 m,bW (qE q 7 i),b8 (subN (pushN r (bitE w 7 i)) m)]):=by kernel_rfl
theorem run69b7 (w q:Nat→Nat) (m r:Nat) (i:Int):runTo ED 1000 (ED.S 275) (bodyOf Tryz.prog 275 4) (TD69 i) [bW w,b8 m,bW q,b8 r] [true,true,true,true,true,true,true,true,false,false,true,true,true,true,true,true,true,true,false] (TD69 (i-1)) 4=
  some ([decide (0≤i)=true,i.tdiv 32=((7:Nat):Int),(32:Int)≠0∧inI (i.tdiv 32),0≤i.tmod 32,bitE w 7 i≤1,r<4294967296^8,pushN r (bitE w 7 i)<4294967296^8,m<4294967296^8,decide (pushK r (bitE w 7 i)=1)=false,decide (subK (pushN r (bitE w 7 i)) m=0)=true,pushN r (bitE w 7 i)<4294967296^8,subN (pushN r (bitE w 7 i)) m<4294967296^8,i.tdiv 32=((7:Nat):Int),(32:Int)≠0∧inI (i.tdiv 32),0≤i.tmod 32,inI (i-1)],.normal,TD69 (i-1),[bW w,b8 m,bW (qE q 7 i),b8 (subN (pushN r (bitE w 7 i)) m)]):=by kernel_rfl
theorem run69n7 (w q:Nat→Nat) (m r:Nat) (i:Int):runTo ED 1000 (ED.S 275) (bodyOf Tryz.prog 275 4) (TD69 i) [bW w,b8 m,bW q,b8 r] [true,true,true,true,true,true,true,true,false,false,false] (TD69 (i-1)) 4=
  some ([decide (0≤i)=true,i.tdiv 32=((7:Nat):Int),(32:Int)≠0∧inI (i.tdiv 32),0≤i.tmod 32,bitE w 7 i≤1,r<4294967296^8,pushN r (bitE w 7 i)<4294967296^8,m<4294967296^8,decide (pushK r (bitE w 7 i)=1)=false,decide (subK (pushN r (bitE w 7 i)) m=0)=false,pushN r (bitE w 7 i)<4294967296^8,subN (pushN r (bitE w 7 i)) m<4294967296^8,inI (i-1)],.normal,TD69 (i-1),[bW w,b8 m,bW q,b8 (pushN r (bitE w 7 i))]):=by kernel_rfl
theorem run69a8 (w q:Nat→Nat) (m r:Nat) (i:Int):runTo ED 1000 (ED.S 275) (bodyOf Tryz.prog 275 4) (TD69 i) [bW w,b8 m,bW q,b8 r] [true,true,true,true,true,true,true,true,true,false,true,true,true,true,true,true,true,true,true,false] (TD69 (i-1)) 4=
  some ([decide (0≤i)=true,i.tdiv 32=((8:Nat):Int),(32:Int)≠0∧inI (i.tdiv 32),0≤i.tmod 32,bitE w 8 i≤1,r<4294967296^8,pushN r (bitE w 8 i)<4294967296^8,m<4294967296^8,decide (pushK r (bitE w 8 i)=1)=true,pushN r (bitE w 8 i)<4294967296^8,subN (pushN r (bitE w 8 i)) m<4294967296^8,i.tdiv 32=((8:Nat):Int),(32:Int)≠0∧inI (i.tdiv 32),0≤i.tmod 32,inI (i-1)],.normal,TD69 (i-1),[bW w,b8 m,bW (qE q 8 i),b8 (subN (pushN r (bitE w 8 i)) m)]):=by kernel_rfl
theorem run69b8 (w q:Nat→Nat) (m r:Nat) (i:Int):runTo ED 1000 (ED.S 275) (bodyOf Tryz.prog 275 4) (TD69 i) [bW w,b8 m,bW q,b8 r] [true,true,true,true,true,true,true,true,true,false,false,true,true,true,true,true,true,true,true,true,false] (TD69 (i-1)) 4=
  some ([decide (0≤i)=true,i.tdiv 32=((8:Nat):Int),(32:Int)≠0∧inI (i.tdiv 32),0≤i.tmod 32,bitE w 8 i≤1,r<4294967296^8,pushN r (bitE w 8 i)<4294967296^8,m<4294967296^8,decide (pushK r (bitE w 8 i)=1)=false,decide (subK (pushN r (bitE w 8 i)) m=0)=true,pushN r (bitE w 8 i)<4294967296^8,subN (pushN r (bitE w 8 i)) m<4294967296^8,i.tdiv 32=((8:Nat):Int),(32:Int)≠0∧inI (i.tdiv 32),0≤i.tmod 32,inI (i-1)],.normal,TD69 (i-1),[bW w,b8 m,bW (qE q 8 i),b8 (subN (pushN r (bitE w 8 i)) m)]):=by kernel_rfl
theorem run69n8 (w q:Nat→Nat) (m r:Nat) (i:Int):runTo ED 1000 (ED.S 275) (bodyOf Tryz.prog 275 4) (TD69 i) [bW w,b8 m,bW q,b8 r] [true,true,true,true,true,true,true,true,true,false,false,false] (TD69 (i-1)) 4=
  some ([decide (0≤i)=true,i.tdiv 32=((8:Nat):Int),(32:Int)≠0∧inI (i.tdiv 32),0≤i.tmod 32,bitE w 8 i≤1,r<4294967296^8,pushN r (bitE w 8 i)<4294967296^8,m<4294967296^8,decide (pushK r (bitE w 8 i)=1)=false,decide (subK (pushN r (bitE w 8 i)) m=0)=false,pushN r (bitE w 8 i)<4294967296^8,subN (pushN r (bitE w 8 i)) m<4294967296^8,inI (i-1)],.normal,TD69 (i-1),[bW w,b8 m,bW q,b8 (pushN r (bitE w 8 i))]):=by kernel_rfl
theorem run69a9 (w q:Nat→Nat) (m r:Nat) (i:Int):runTo ED 1000 (ED.S 275) (bodyOf Tryz.prog 275 4) (TD69 i) [bW w,b8 m,bW q,b8 r] [true,true,true,true,true,true,true,true,true,true,false,true,true,true,true,true,true,true,true,true,true,false] (TD69 (i-1)) 4=
  some ([decide (0≤i)=true,i.tdiv 32=((9:Nat):Int),(32:Int)≠0∧inI (i.tdiv 32),0≤i.tmod 32,bitE w 9 i≤1,r<4294967296^8,pushN r (bitE w 9 i)<4294967296^8,m<4294967296^8,decide (pushK r (bitE w 9 i)=1)=true,pushN r (bitE w 9 i)<4294967296^8,subN (pushN r (bitE w 9 i)) m<4294967296^8,i.tdiv 32=((9:Nat):Int),(32:Int)≠0∧inI (i.tdiv 32),0≤i.tmod 32,inI (i-1)],.normal,TD69 (i-1),[bW w,b8 m,bW (qE q 9 i),b8 (subN (pushN r (bitE w 9 i)) m)]):=by kernel_rfl
theorem run69b9 (w q:Nat→Nat) (m r:Nat) (i:Int):runTo ED 1000 (ED.S 275) (bodyOf Tryz.prog 275 4) (TD69 i) [bW w,b8 m,bW q,b8 r] [true,true,true,true,true,true,true,true,true,true,false,false,true,true,true,true,true,true,true,true,true,true,false] (TD69 (i-1)) 4=
  some ([decide (0≤i)=true,i.tdiv 32=((9:Nat):Int),(32:Int)≠0∧inI (i.tdiv 32),0≤i.tmod 32,bitE w 9 i≤1,r<4294967296^8,pushN r (bitE w 9 i)<4294967296^8,m<4294967296^8,decide (pushK r (bitE w 9 i)=1)=false,decide (subK (pushN r (bitE w 9 i)) m=0)=true,pushN r (bitE w 9 i)<4294967296^8,subN (pushN r (bitE w 9 i)) m<4294967296^8,i.tdiv 32=((9:Nat):Int),(32:Int)≠0∧inI (i.tdiv 32),0≤i.tmod 32,inI (i-1)],.normal,TD69 (i-1),[bW w,b8 m,bW (qE q 9 i),b8 (subN (pushN r (bitE w 9 i)) m)]):=by kernel_rfl
theorem run69n9 (w q:Nat→Nat) (m r:Nat) (i:Int):runTo ED 1000 (ED.S 275) (bodyOf Tryz.prog 275 4) (TD69 i) [bW w,b8 m,bW q,b8 r] [true,true,true,true,true,true,true,true,true,true,false,false,false] (TD69 (i-1)) 4=
  some ([decide (0≤i)=true,i.tdiv 32=((9:Nat):Int),(32:Int)≠0∧inI (i.tdiv 32),0≤i.tmod 32,bitE w 9 i≤1,r<4294967296^8,pushN r (bitE w 9 i)<4294967296^8,m<4294967296^8,decide (pushK r (bitE w 9 i)=1)=false,decide (subK (pushN r (bitE w 9 i)) m=0)=false,pushN r (bitE w 9 i)<4294967296^8,subN (pushN r (bitE w 9 i)) m<4294967296^8,inI (i-1)],.normal,TD69 (i-1),[bW w,b8 m,bW q,b8 (pushN r (bitE w 9 i))]):=by kernel_rfl
theorem run69a10 (w q:Nat→Nat) (m r:Nat) (i:Int):runTo ED 1000 (ED.S 275) (bodyOf Tryz.prog 275 4) (TD69 i) [bW w,b8 m,bW q,b8 r] [true,true,true,true,true,true,true,true,true,true,true,false,true,true,true,true,true,true,true,true,true,true,true,false] (TD69 (i-1)) 4=
  some ([decide (0≤i)=true,i.tdiv 32=((10:Nat):Int),(32:Int)≠0∧inI (i.tdiv 32),0≤i.tmod 32,bitE w 10 i≤1,r<4294967296^8,pushN r (bitE w 10 i)<4294967296^8,m<4294967296^8,decide (pushK r (bitE w 10 i)=1)=true,pushN r (bitE w 10 i)<4294967296^8,subN (pushN r (bitE w 10 i)) m<4294967296^8,i.tdiv 32=((10:Nat):Int),(32:Int)≠0∧inI (i.tdiv 32),0≤i.tmod 32,inI (i-1)],.normal,TD69 (i-1),[bW w,b8 m,bW (qE q 10 i),b8 (subN (pushN r (bitE w 10 i)) m)]):=by kernel_rfl
theorem run69b10 (w q:Nat→Nat) (m r:Nat) (i:Int):runTo ED 1000 (ED.S 275) (bodyOf Tryz.prog 275 4) (TD69 i) [bW w,b8 m,bW q,b8 r] [true,true,true,true,true,true,true,true,true,true,true,false,false,true,true,true,true,true,true,true,true,true,true,true,false] (TD69 (i-1)) 4=
  some ([decide (0≤i)=true,i.tdiv 32=((10:Nat):Int),(32:Int)≠0∧inI (i.tdiv 32),0≤i.tmod 32,bitE w 10 i≤1,r<4294967296^8,pushN r (bitE w 10 i)<4294967296^8,m<4294967296^8,decide (pushK r (bitE w 10 i)=1)=false,decide (subK (pushN r (bitE w 10 i)) m=0)=true,pushN r (bitE w 10 i)<4294967296^8,subN (pushN r (bitE w 10 i)) m<4294967296^8,i.tdiv 32=((10:Nat):Int),(32:Int)≠0∧inI (i.tdiv 32),0≤i.tmod 32,inI (i-1)],.normal,TD69 (i-1),[bW w,b8 m,bW (qE q 10 i),b8 (subN (pushN r (bitE w 10 i)) m)]):=by kernel_rfl
theorem run69n10 (w q:Nat→Nat) (m r:Nat) (i:Int):runTo ED 1000 (ED.S 275) (bodyOf Tryz.prog 275 4) (TD69 i) [bW w,b8 m,bW q,b8 r] [true,true,true,true,true,true,true,true,true,true,true,false,false,false] (TD69 (i-1)) 4=
  some ([decide (0≤i)=true,i.tdiv 32=((10:Nat):Int),(32:Int)≠0∧inI (i.tdiv 32),0≤i.tmod 32,bitE w 10 i≤1,r<4294967296^8,pushN r (bitE w 10 i)<4294967296^8,m<4294967296^8,decide (pushK r (bitE w 10 i)=1)=false,decide (subK (pushN r (bitE w 10 i)) m=0)=false,pushN r (bitE w 10 i)<4294967296^8,subN (pushN r (bitE w 10 i)) m<4294967296^8,inI (i-1)],.normal,TD69 (i-1),[bW w,b8 m,bW q,b8 (pushN r (bitE w 10 i))]):=by kernel_rfl
theorem run69a11 (w q:Nat→Nat) (m r:Nat) (i:Int):runTo ED 1000 (ED.S 275) (bodyOf Tryz.prog 275 4) (TD69 i) [bW w,b8 m,bW q,b8 r] [true,true,true,true,true,true,true,true,true,true,true,true,false,true,true,true,true,true,true,true,true,true,true,true,true,false] (TD69 (i-1)) 4=
  some ([decide (0≤i)=true,i.tdiv 32=((11:Nat):Int),(32:Int)≠0∧inI (i.tdiv 32),0≤i.tmod 32,bitE w 11 i≤1,r<4294967296^8,pushN r (bitE w 11 i)<4294967296^8,m<4294967296^8,decide (pushK r (bitE w 11 i)=1)=true,pushN r (bitE w 11 i)<4294967296^8,subN (pushN r (bitE w 11 i)) m<4294967296^8,i.tdiv 32=((11:Nat):Int),(32:Int)≠0∧inI (i.tdiv 32),0≤i.tmod 32,inI (i-1)],.normal,TD69 (i-1),[bW w,b8 m,bW (qE q 11 i),b8 (subN (pushN r (bitE w 11 i)) m)]):=by kernel_rfl
theorem run69b11 (w q:Nat→Nat) (m r:Nat) (i:Int):runTo ED 1000 (ED.S 275) (bodyOf Tryz.prog 275 4) (TD69 i) [bW w,b8 m,bW q,b8 r] [true,true,true,true,true,true,true,true,true,true,true,true,false,false,true,true,true,true,true,true,true,true,true,true,true,true,false] (TD69 (i-1)) 4=
  some ([decide (0≤i)=true,i.tdiv 32=((11:Nat):Int),(32:Int)≠0∧inI (i.tdiv 32),0≤i.tmod 32,bitE w 11 i≤1,r<4294967296^8,pushN r (bitE w 11 i)<4294967296^8,m<4294967296^8,decide (pushK r (bitE w 11 i)=1)=false,decide (subK (pushN r (bitE w 11 i)) m=0)=true,pushN r (bitE w 11 i)<4294967296^8,subN (pushN r (bitE w 11 i)) m<4294967296^8,i.tdiv 32=((11:Nat):Int),(32:Int)≠0∧inI (i.tdiv 32),0≤i.tmod 32,inI (i-1)],.normal,TD69 (i-1),[bW w,b8 m,bW (qE q 11 i),b8 (subN (pushN r (bitE w 11 i)) m)]):=by kernel_rfl
theorem run69n11 (w q:Nat→Nat) (m r:Nat) (i:Int):runTo ED 1000 (ED.S 275) (bodyOf Tryz.prog 275 4) (TD69 i) [bW w,b8 m,bW q,b8 r] [true,true,true,true,true,true,true,true,true,true,true,true,false,false,false] (TD69 (i-1)) 4=
  some ([decide (0≤i)=true,i.tdiv 32=((11:Nat):Int),(32:Int)≠0∧inI (i.tdiv 32),0≤i.tmod 32,bitE w 11 i≤1,r<4294967296^8,pushN r (bitE w 11 i)<4294967296^8,m<4294967296^8,decide (pushK r (bitE w 11 i)=1)=false,decide (subK (pushN r (bitE w 11 i)) m=0)=false,pushN r (bitE w 11 i)<4294967296^8,subN (pushN r (bitE w 11 i)) m<4294967296^8,inI (i-1)],.normal,TD69 (i-1),[bW w,b8 m,bW q,b8 (pushN r (bitE w 11 i))]):=by kernel_rfl
theorem run69a12 (w q:Nat→Nat) (m r:Nat) (i:Int):runTo ED 1000 (ED.S 275) (bodyOf Tryz.prog 275 4) (TD69 i) [bW w,b8 m,bW q,b8 r] [true,true,true,true,true,true,true,true,true,true,true,true,true,false,true,true,true,true,true,true,true,true,true,true,true,true,true,false] (TD69 (i-1)) 4=
  some ([decide (0≤i)=true,i.tdiv 32=((12:Nat):Int),(32:Int)≠0∧inI (i.tdiv 32),0≤i.tmod 32,bitE w 12 i≤1,r<4294967296^8,pushN r (bitE w 12 i)<4294967296^8,m<4294967296^8,decide (pushK r (bitE w 12 i)=1)=true,pushN r (bitE w 12 i)<4294967296^8,subN (pushN r (bitE w 12 i)) m<4294967296^8,i.tdiv 32=((12:Nat):Int),(32:Int)≠0∧inI (i.tdiv 32),0≤i.tmod 32,inI (i-1)],.normal,TD69 (i-1),[bW w,b8 m,bW (qE q 12 i),b8 (subN (pushN r (bitE w 12 i)) m)]):=by kernel_rfl
theorem run69b12 (w q:Nat→Nat) (m r:Nat) (i:Int):runTo ED 1000 (ED.S 275) (bodyOf Tryz.prog 275 4) (TD69 i) [bW w,b8 m,bW q,b8 r] [true,true,true,true,true,true,true,true,true,true,true,true,true,false,false,true,true,true,true,true,true,true,true,true,true,true,true,true,false] (TD69 (i-1)) 4=
  some ([decide (0≤i)=true,i.tdiv 32=((12:Nat):Int),(32:Int)≠0∧inI (i.tdiv 32),0≤i.tmod 32,bitE w 12 i≤1,r<4294967296^8,pushN r (bitE w 12 i)<4294967296^8,m<4294967296^8,decide (pushK r (bitE w 12 i)=1)=false,decide (subK (pushN r (bitE w 12 i)) m=0)=true,pushN r (bitE w 12 i)<4294967296^8,subN (pushN r (bitE w 12 i)) m<4294967296^8,i.tdiv 32=((12:Nat):Int),(32:Int)≠0∧inI (i.tdiv 32),0≤i.tmod 32,inI (i-1)],.normal,TD69 (i-1),[bW w,b8 m,bW (qE q 12 i),b8 (subN (pushN r (bitE w 12 i)) m)]):=by kernel_rfl
theorem run69n12 (w q:Nat→Nat) (m r:Nat) (i:Int):runTo ED 1000 (ED.S 275) (bodyOf Tryz.prog 275 4) (TD69 i) [bW w,b8 m,bW q,b8 r] [true,true,true,true,true,true,true,true,true,true,true,true,true,false,false,false] (TD69 (i-1)) 4=
  some ([decide (0≤i)=true,i.tdiv 32=((12:Nat):Int),(32:Int)≠0∧inI (i.tdiv 32),0≤i.tmod 32,bitE w 12 i≤1,r<4294967296^8,pushN r (bitE w 12 i)<4294967296^8,m<4294967296^8,decide (pushK r (bitE w 12 i)=1)=false,decide (subK (pushN r (bitE w 12 i)) m=0)=false,pushN r (bitE w 12 i)<4294967296^8,subN (pushN r (bitE w 12 i)) m<4294967296^8,inI (i-1)],.normal,TD69 (i-1),[bW w,b8 m,bW q,b8 (pushN r (bitE w 12 i))]):=by kernel_rfl
theorem run69a13 (w q:Nat→Nat) (m r:Nat) (i:Int):runTo ED 1000 (ED.S 275) (bodyOf Tryz.prog 275 4) (TD69 i) [bW w,b8 m,bW q,b8 r] [true,true,true,true,true,true,true,true,true,true,true,true,true,true,false,true,true,true,true,true,true,true,true,true,true,true,true,true,true,false] (TD69 (i-1)) 4=
  some ([decide (0≤i)=true,i.tdiv 32=((13:Nat):Int),(32:Int)≠0∧inI (i.tdiv 32),0≤i.tmod 32,bitE w 13 i≤1,r<4294967296^8,pushN r (bitE w 13 i)<4294967296^8,m<4294967296^8,decide (pushK r (bitE w 13 i)=1)=true,pushN r (bitE w 13 i)<4294967296^8,subN (pushN r (bitE w 13 i)) m<4294967296^8,i.tdiv 32=((13:Nat):Int),(32:Int)≠0∧inI (i.tdiv 32),0≤i.tmod 32,inI (i-1)],.normal,TD69 (i-1),[bW w,b8 m,bW (qE q 13 i),b8 (subN (pushN r (bitE w 13 i)) m)]):=by kernel_rfl
theorem run69b13 (w q:Nat→Nat) (m r:Nat) (i:Int):runTo ED 1000 (ED.S 275) (bodyOf Tryz.prog 275 4) (TD69 i) [bW w,b8 m,bW q,b8 r] [true,true,true,true,true,true,true,true,true,true,true,true,true,true,false,false,true,true,true,true,true,true,true,true,true,true,true,true,true,true,false] (TD69 (i-1)) 4=
  some ([decide (0≤i)=true,i.tdiv 32=((13:Nat):Int),(32:Int)≠0∧inI (i.tdiv 32),0≤i.tmod 32,bitE w 13 i≤1,r<4294967296^8,pushN r (bitE w 13 i)<4294967296^8,m<4294967296^8,decide (pushK r (bitE w 13 i)=1)=false,decide (subK (pushN r (bitE w 13 i)) m=0)=true,pushN r (bitE w 13 i)<4294967296^8,subN (pushN r (bitE w 13 i)) m<4294967296^8,i.tdiv 32=((13:Nat):Int),(32:Int)≠0∧inI (i.tdiv 32),0≤i.tmod 32,inI (i-1)],.normal,TD69 (i-1),[bW w,b8 m,bW (qE q 13 i),b8 (subN (pushN r (bitE w 13 i)) m)]):=by kernel_rfl
theorem run69n13 (w q:Nat→Nat) (m r:Nat) (i:Int):runTo ED 1000 (ED.S 275) (bodyOf Tryz.prog 275 4) (TD69 i) [bW w,b8 m,bW q,b8 r] [true,true,true,true,true,true,true,true,true,true,true,true,true,true,false,false,false] (TD69 (i-1)) 4=
  some ([decide (0≤i)=true,i.tdiv 32=((13:Nat):Int),(32:Int)≠0∧inI (i.tdiv 32),0≤i.tmod 32,bitE w 13 i≤1,r<4294967296^8,pushN r (bitE w 13 i)<4294967296^8,m<4294967296^8,decide (pushK r (bitE w 13 i)=1)=false,decide (subK (pushN r (bitE w 13 i)) m=0)=false,pushN r (bitE w 13 i)<4294967296^8,subN (pushN r (bitE w 13 i)) m<4294967296^8,inI (i-1)],.normal,TD69 (i-1),[bW w,b8 m,bW q,b8 (pushN r (bitE w 13 i))]):=by kernel_rfl
theorem run69a14 (w q:Nat→Nat) (m r:Nat) (i:Int):runTo ED 1000 (ED.S 275) (bodyOf Tryz.prog 275 4) (TD69 i) [bW w,b8 m,bW q,b8 r] [true,true,true,true,true,true,true,true,true,true,true,true,true,true,true,false,true,true,true,true,true,true,true,true,true,true,true,true,true,true,true,false] (TD69 (i-1)) 4=
  some ([decide (0≤i)=true,i.tdiv 32=((14:Nat):Int),(32:Int)≠0∧inI (i.tdiv 32),0≤i.tmod 32,bitE w 14 i≤1,r<4294967296^8,pushN r (bitE w 14 i)<4294967296^8,m<4294967296^8,decide (pushK r (bitE w 14 i)=1)=true,pushN r (bitE w 14 i)<4294967296^8,subN (pushN r (bitE w 14 i)) m<4294967296^8,i.tdiv 32=((14:Nat):Int),(32:Int)≠0∧inI (i.tdiv 32),0≤i.tmod 32,inI (i-1)],.normal,TD69 (i-1),[bW w,b8 m,bW (qE q 14 i),b8 (subN (pushN r (bitE w 14 i)) m)]):=by kernel_rfl
theorem run69b14 (w q:Nat→Nat) (m r:Nat) (i:Int):runTo ED 1000 (ED.S 275) (bodyOf Tryz.prog 275 4) (TD69 i) [bW w,b8 m,bW q,b8 r] [true,true,true,true,true,true,true,true,true,true,true,true,true,true,true,false,false,true,true,true,true,true,true,true,true,true,true,true,true,true,true,true,false] (TD69 (i-1)) 4=
  some ([decide (0≤i)=true,i.tdiv 32=((14:Nat):Int),(32:Int)≠0∧inI (i.tdiv 32),0≤i.tmod 32,bitE w 14 i≤1,r<4294967296^8,pushN r (bitE w 14 i)<4294967296^8,m<4294967296^8,decide (pushK r (bitE w 14 i)=1)=false,decide (subK (pushN r (bitE w 14 i)) m=0)=true,pushN r (bitE w 14 i)<4294967296^8,subN (pushN r (bitE w 14 i)) m<4294967296^8,i.tdiv 32=((14:Nat):Int),(32:Int)≠0∧inI (i.tdiv 32),0≤i.tmod 32,inI (i-1)],.normal,TD69 (i-1),[bW w,b8 m,bW (qE q 14 i),b8 (subN (pushN r (bitE w 14 i)) m)]):=by kernel_rfl
theorem run69n14 (w q:Nat→Nat) (m r:Nat) (i:Int):runTo ED 1000 (ED.S 275) (bodyOf Tryz.prog 275 4) (TD69 i) [bW w,b8 m,bW q,b8 r] [true,true,true,true,true,true,true,true,true,true,true,true,true,true,true,false,false,false] (TD69 (i-1)) 4=
  some ([decide (0≤i)=true,i.tdiv 32=((14:Nat):Int),(32:Int)≠0∧inI (i.tdiv 32),0≤i.tmod 32,bitE w 14 i≤1,r<4294967296^8,pushN r (bitE w 14 i)<4294967296^8,m<4294967296^8,decide (pushK r (bitE w 14 i)=1)=false,decide (subK (pushN r (bitE w 14 i)) m=0)=false,pushN r (bitE w 14 i)<4294967296^8,subN (pushN r (bitE w 14 i)) m<4294967296^8,inI (i-1)],.normal,TD69 (i-1),[bW w,b8 m,bW q,b8 (pushN r (bitE w 14 i))]):=by kernel_rfl
theorem run69a15 (w q:Nat→Nat) (m r:Nat) (i:Int):runTo ED 1000 (ED.S 275) (bodyOf Tryz.prog 275 4) (TD69 i) [bW w,b8 m,bW q,b8 r] [true,true,true,true,true,true,true,true,true,true,true,true,true,true,true,true,false,true,true,true,true,true,true,true,true,true,true,true,true,true,true,true,true,false] (TD69 (i-1)) 4=
  some ([decide (0≤i)=true,i.tdiv 32=((15:Nat):Int),(32:Int)≠0∧inI (i.tdiv 32),0≤i.tmod 32,bitE w 15 i≤1,r<4294967296^8,pushN r (bitE w 15 i)<4294967296^8,m<4294967296^8,decide (pushK r (bitE w 15 i)=1)=true,pushN r (bitE w 15 i)<4294967296^8,subN (pushN r (bitE w 15 i)) m<4294967296^8,i.tdiv 32=((15:Nat):Int),(32:Int)≠0∧inI (i.tdiv 32),0≤i.tmod 32,inI (i-1)],.normal,TD69 (i-1),[bW w,b8 m,bW (qE q 15 i),b8 (subN (pushN r (bitE w 15 i)) m)]):=by kernel_rfl
theorem run69b15 (w q:Nat→Nat) (m r:Nat) (i:Int):runTo ED 1000 (ED.S 275) (bodyOf Tryz.prog 275 4) (TD69 i) [bW w,b8 m,bW q,b8 r] [true,true,true,true,true,true,true,true,true,true,true,true,true,true,true,true,false,false,true,true,true,true,true,true,true,true,true,true,true,true,true,true,true,true,false] (TD69 (i-1)) 4=
  some ([decide (0≤i)=true,i.tdiv 32=((15:Nat):Int),(32:Int)≠0∧inI (i.tdiv 32),0≤i.tmod 32,bitE w 15 i≤1,r<4294967296^8,pushN r (bitE w 15 i)<4294967296^8,m<4294967296^8,decide (pushK r (bitE w 15 i)=1)=false,decide (subK (pushN r (bitE w 15 i)) m=0)=true,pushN r (bitE w 15 i)<4294967296^8,subN (pushN r (bitE w 15 i)) m<4294967296^8,i.tdiv 32=((15:Nat):Int),(32:Int)≠0∧inI (i.tdiv 32),0≤i.tmod 32,inI (i-1)],.normal,TD69 (i-1),[bW w,b8 m,bW (qE q 15 i),b8 (subN (pushN r (bitE w 15 i)) m)]):=by kernel_rfl
theorem run69n15 (w q:Nat→Nat) (m r:Nat) (i:Int):runTo ED 1000 (ED.S 275) (bodyOf Tryz.prog 275 4) (TD69 i) [bW w,b8 m,bW q,b8 r] [true,true,true,true,true,true,true,true,true,true,true,true,true,true,true,true,false,false,false] (TD69 (i-1)) 4=
  some ([decide (0≤i)=true,i.tdiv 32=((15:Nat):Int),(32:Int)≠0∧inI (i.tdiv 32),0≤i.tmod 32,bitE w 15 i≤1,r<4294967296^8,pushN r (bitE w 15 i)<4294967296^8,m<4294967296^8,decide (pushK r (bitE w 15 i)=1)=false,decide (subK (pushN r (bitE w 15 i)) m=0)=false,pushN r (bitE w 15 i)<4294967296^8,subN (pushN r (bitE w 15 i)) m<4294967296^8,inI (i-1)],.normal,TD69 (i-1),[bW w,b8 m,bW q,b8 (pushN r (bitE w 15 i))]):=by kernel_rfl
def un:Nat→List Bool→List Bool
 |0,r=>false::r
 |n+1,r=>true::un n r
theorem run69a (w q:Nat→Nat) (m r:Nat) (i:Int) (j:Nat) (hj:j<16):runTo ED 1000 (ED.S 275) (bodyOf Tryz.prog 275 4) (TD69 i) [bW w,b8 m,bW q,b8 r] (true::un j (true::un j [])) (TD69 (i-1)) 4=
  some ([decide (0≤i)=true,i.tdiv 32=((j:Nat):Int),(32:Int)≠0∧inI (i.tdiv 32),0≤i.tmod 32,bitE w j i≤1,r<4294967296^8,pushN r (bitE w j i)<4294967296^8,m<4294967296^8,decide (pushK r (bitE w j i)=1)=true,pushN r (bitE w j i)<4294967296^8,subN (pushN r (bitE w j i)) m<4294967296^8,i.tdiv 32=((j:Nat):Int),(32:Int)≠0∧inI (i.tdiv 32),0≤i.tmod 32,inI (i-1)],.normal,TD69 (i-1),[bW w,b8 m,bW (qE q j i),b8 (subN (pushN r (bitE w j i)) m)]):=by
 match j,hj with
 |0,_=>exact run69a0 w q m r i
 |1,_=>exact run69a1 w q m r i
 |2,_=>exact run69a2 w q m r i
 |3,_=>exact run69a3 w q m r i
 |4,_=>exact run69a4 w q m r i
 |5,_=>exact run69a5 w q m r i
 |6,_=>exact run69a6 w q m r i
 |7,_=>exact run69a7 w q m r i
 |8,_=>exact run69a8 w q m r i
 |9,_=>exact run69a9 w q m r i
 |10,_=>exact run69a10 w q m r i
 |11,_=>exact run69a11 w q m r i
 |12,_=>exact run69a12 w q m r i
 |13,_=>exact run69a13 w q m r i
 |14,_=>exact run69a14 w q m r i
 |15,_=>exact run69a15 w q m r i
 |n+16,h=>exact absurd h (by omega)
theorem run69b (w q:Nat→Nat) (m r:Nat) (i:Int) (j:Nat) (hj:j<16):runTo ED 1000 (ED.S 275) (bodyOf Tryz.prog 275 4) (TD69 i) [bW w,b8 m,bW q,b8 r] (true::un j (false::true::un j [])) (TD69 (i-1)) 4=
  some ([decide (0≤i)=true,i.tdiv 32=((j:Nat):Int),(32:Int)≠0∧inI (i.tdiv 32),0≤i.tmod 32,bitE w j i≤1,r<4294967296^8,pushN r (bitE w j i)<4294967296^8,m<4294967296^8,decide (pushK r (bitE w j i)=1)=false,decide (subK (pushN r (bitE w j i)) m=0)=true,pushN r (bitE w j i)<4294967296^8,subN (pushN r (bitE w j i)) m<4294967296^8,i.tdiv 32=((j:Nat):Int),(32:Int)≠0∧inI (i.tdiv 32),0≤i.tmod 32,inI (i-1)],.normal,TD69 (i-1),[bW w,b8 m,bW (qE q j i),b8 (subN (pushN r (bitE w j i)) m)]):=by
 match j,hj with
 |0,_=>exact run69b0 w q m r i
 |1,_=>exact run69b1 w q m r i
 |2,_=>exact run69b2 w q m r i
 |3,_=>exact run69b3 w q m r i
 |4,_=>exact run69b4 w q m r i
 |5,_=>exact run69b5 w q m r i
 |6,_=>exact run69b6 w q m r i
 |7,_=>exact run69b7 w q m r i
 |8,_=>exact run69b8 w q m r i
 |9,_=>exact run69b9 w q m r i
 |10,_=>exact run69b10 w q m r i
 |11,_=>exact run69b11 w q m r i
 |12,_=>exact run69b12 w q m r i
 |13,_=>exact run69b13 w q m r i
 |14,_=>exact run69b14 w q m r i
 |15,_=>exact run69b15 w q m r i
 |n+16,h=>exact absurd h (by omega)
theorem run69n (w q:Nat→Nat) (m r:Nat) (i:Int) (j:Nat) (hj:j<16):runTo ED 1000 (ED.S 275) (bodyOf Tryz.prog 275 4) (TD69 i) [bW w,b8 m,bW q,b8 r] (true::un j ([false,false])) (TD69 (i-1)) 4=
  some ([decide (0≤i)=true,i.tdiv 32=((j:Nat):Int),(32:Int)≠0∧inI (i.tdiv 32),0≤i.tmod 32,bitE w j i≤1,r<4294967296^8,pushN r (bitE w j i)<4294967296^8,m<4294967296^8,decide (pushK r (bitE w j i)=1)=false,decide (subK (pushN r (bitE w j i)) m=0)=false,pushN r (bitE w j i)<4294967296^8,subN (pushN r (bitE w j i)) m<4294967296^8,inI (i-1)],.normal,TD69 (i-1),[bW w,b8 m,bW q,b8 (pushN r (bitE w j i))]):=by
 match j,hj with
 |0,_=>exact run69n0 w q m r i
 |1,_=>exact run69n1 w q m r i
 |2,_=>exact run69n2 w q m r i
 |3,_=>exact run69n3 w q m r i
 |4,_=>exact run69n4 w q m r i
 |5,_=>exact run69n5 w q m r i
 |6,_=>exact run69n6 w q m r i
 |7,_=>exact run69n7 w q m r i
 |8,_=>exact run69n8 w q m r i
 |9,_=>exact run69n9 w q m r i
 |10,_=>exact run69n10 w q m r i
 |11,_=>exact run69n11 w q m r i
 |12,_=>exact run69n12 w q m r i
 |13,_=>exact run69n13 w q m r i
 |14,_=>exact run69n14 w q m r i
 |15,_=>exact run69n15 w q m r i
 |n+16,h=>exact absurd h (by omega)
theorem run69x (w q:Nat→Nat) (m r:Nat):runTo ED 1000 (ED.S 275) (bodyOf Tryz.prog 275 4) (TD69 (-1)) [bW w,b8 m,bW q,b8 r] [false] (TD69 (-1)) 4=
  some ([decide ((0:Int)≤-1)=false],.exit 0,TD69 (-1),[bW w,b8 m,bW q,b8 r]):=by kernel_rfl
def bitN (V i:Nat):Nat:=V/2^i%2
theorem bitN_le (V i:Nat):bitN V i≤1:=by unfold bitN;omega
theorem tmod_cast (n:Nat):((n:Nat):Int).tmod 32=((n%32:Nat):Int):=rfl
theorem tdiv_cast (n:Nat):((n:Nat):Int).tdiv 32=((n/32:Nat):Int):=rfl
theorem bitE_eq (V j t:Nat) (ht:t<32):bitE (limb V) j ((32*j+t:Nat):Int)=bitN V (32*j+t):=by
 unfold bitE bitN
 rw[tmod_cast,Int.toNat_natCast,show (32*j+t)%32=t by omega,show IntKind.u32.bits=32 from rfl,Nat.min_eq_left (by omega),show bitsOf IntKind.u32=2^32 from rfl,show 1%2^32=1 from rfl,Nat.and_one_is_mod]
 have h1:limb V j/2^t%2^32%2=limb V j/2^t%2:=Nat.mod_mod_of_dvd _ (by decide)
 rw[h1]
 unfold limb
 rw[show (4294967296:Nat)=2^32 from rfl,←Nat.pow_mul,←Nat.toNat_testBit,Nat.testBit_mod_two_pow,decide_eq_true ht,Bool.true_and,Nat.toNat_testBit,Nat.div_div_eq_div_mul,←Nat.pow_add]
theorem two_pow_mul (n:Nat):2^(32*n)=4294967296^n:=by rw[Nat.pow_mul]
def remN (V m:Nat):Nat:=V%m
def dr (V m k:Nat):Nat:=V/2^(512-k)%m
def dq (V m:Nat):Nat→Nat→Nat
 |0=>zF
 |k+1=>match decide (m≤2*dr V m k+bitN V (511-k)) with
  |true=>qE (dq V m k) ((511-k)/32) ((511-k:Nat):Int)
  |false=>dq V m k
theorem dr_lt {V m k:Nat} (hm:0<m):dr V m k<m:=Nat.mod_lt _ hm
theorem dr_step {V m k:Nat} (hk:k<512) (hm:0<m):dr V m (k+1)=if m≤2*dr V m k+bitN V (511-k) then 2*dr V m k+bitN V (511-k)-m else 2*dr V m k+bitN V (511-k):=by
 have e:V/2^(511-k)=2*(V/2^(512-k))+bitN V (511-k):=by
  unfold bitN
  rw[show 512-k=(511-k)+1 by omega,Nat.pow_succ,←Nat.div_div_eq_div_mul]
  omega
 have h1:=dr_lt (V:=V) (k:=k) hm
 have h2:=bitN_le V (511-k)
 have e2:dr V m (k+1)=(2*dr V m k+bitN V (511-k))%m:=by
  unfold dr
  rw[show 512-(k+1)=511-k by omega,e]
  rw[Nat.add_mod,Nat.mul_mod,Nat.add_mod (2*(V/2^(512-k)%m)),Nat.mul_mod 2 (V/2^(512-k)%m),Nat.mod_mod]
 rw[e2]
 split
 ·rw[Nat.mod_eq_sub_mod (by assumption),Nat.mod_eq_of_lt (by omega)]
 ·exact Nat.mod_eq_of_lt (by omega)
section
variable {V m:Nat}
theorem oblI {k j:Nat} (hk:k<512) (hj:(511-k)/32=j) (i:Int) (hi:i=((511-k:Nat):Int)):decide (0≤i)=true∧i.tdiv 32=((j:Nat):Int)∧((32:Int)≠0∧inI (i.tdiv 32))∧0≤i.tmod 32∧inI (i-1):=by
 subst hi
 rw[tmod_cast,tdiv_cast,hj]
 refine ⟨decide_eq_true (by omega),rfl,⟨by decide,?_⟩,by omega,?_⟩<;>unfold inI<;>omega
theorem wf69 (w q:Nat→Nat) (m r:Nat) (i:Int):wfS (TD69 i) [bW w,b8 m,bW q,b8 r]=true:=wfS_of (by simp[b8_free,bW_free]) (tTD69 i)
theorem step69 (hm:0<m) (hR:m<4294967296^8) {k:Nat} (hk:k<512):
  Goes Tryz.prog (bodyOf Tryz.prog 275 4) .normal (TD69 ((511-k:Nat):Int)) [bW (limb V),b8 m,bW (dq V m k),b8 (dr V m k)] (TD69 (((511-k:Nat):Int)-1)) [bW (limb V),b8 m,bW (dq V m (k+1)),b8 (dr V m (k+1))]:=by
 have hj:(511-k)/32<16:=by omega
 obtain ⟨o1,o2,o3,o4,o5⟩:=oblI hk rfl _ rfl
 have hb:bitE (limb V) ((511-k)/32) ((511-k:Nat):Int)=bitN V (511-k):=by
  have:=bitE_eq V ((511-k)/32) ((511-k)%32) (by omega)
  rwa[Nat.div_add_mod] at this
 have hbl:=bitN_le V (511-k)
 have hr:=dr_lt (V:=V) (k:=k) hm
 have hst:=dr_step (V:=V) hk hm
 have hP:pushN (dr V m k) (bitN V (511-k))<4294967296^8:=Nat.mod_lt _ (by decide)
 have hS:∀x y,subN x y<4294967296^8:=fun x y=>Nat.mod_lt _ (by decide)
 by_cases h1:pushK (dr V m k) (bitN V (511-k))=1
 ·have hfit:m≤2*dr V m k+bitN V (511-k):=by unfold pushK at h1;omega
  have e:subN (pushN (dr V m k) (bitN V (511-k))) m=dr V m (k+1):=by
   rw[hst,if_pos hfit];unfold subN pushN;unfold pushK at h1;omega
  have hrun:=run69a (limb V) (dq V m k) m (dr V m k) ((511-k:Nat):Int) _ hj
  rw[hb,e] at hrun
  have hq:dq V m (k+1)=qE (dq V m k) ((511-k)/32) ((511-k:Nat):Int):=by simp only[dq];rw[decide_eq_true hfit]
  rw[hq]
  exact Runs.goes envED ⟨_,_,hrun,⟨o1,o2,o3,o4,hbl,by omega,hP,hR,decide_eq_true h1,hP,by rw[←e];exact hS _ _,o2,o3,o4,o5,trivial⟩,wf69 _ _ _ _ _⟩
 ·have hX:2*dr V m k+bitN V (511-k)<4294967296^8:=by unfold pushK at h1;omega
  have hPe:pushN (dr V m k) (bitN V (511-k))=2*dr V m k+bitN V (511-k):=Nat.mod_eq_of_lt hX
  by_cases h2:m≤2*dr V m k+bitN V (511-k)
  ·have e:subN (pushN (dr V m k) (bitN V (511-k))) m=dr V m (k+1):=by
    rw[hst,if_pos h2,hPe];unfold subN;omega
   have hK:subK (pushN (dr V m k) (bitN V (511-k))) m=0:=by rw[hPe];unfold subK;rw[if_neg (by omega)]
   have hrun:=run69b (limb V) (dq V m k) m (dr V m k) ((511-k:Nat):Int) _ hj
   rw[hb,e] at hrun
   have hq:dq V m (k+1)=qE (dq V m k) ((511-k)/32) ((511-k:Nat):Int):=by simp only[dq];rw[decide_eq_true h2]
   rw[hq]
   exact Runs.goes envED ⟨_,_,hrun,⟨o1,o2,o3,o4,hbl,by omega,hP,hR,decide_eq_false h1,decide_eq_true hK,hP,by rw[←e];exact hS _ _,o2,o3,o4,o5,trivial⟩,wf69 _ _ _ _ _⟩
  ·have e:pushN (dr V m k) (bitN V (511-k))=dr V m (k+1):=by rw[hst,if_neg h2,hPe]
   have hK:¬subK (pushN (dr V m k) (bitN V (511-k))) m=0:=by rw[hPe];unfold subK;rw[if_pos (by omega)];omega
   have hrun:=run69n (limb V) (dq V m k) m (dr V m k) ((511-k:Nat):Int) _ hj
   have hq:dq V m (k+1)=dq V m k:=by simp only[dq];rw[decide_eq_false h2]
   rw[hb] at hrun
   rw[hq,←e]
   exact Runs.goes envED ⟨_,_,hrun,⟨o1,o2,o3,o4,hbl,by omega,hP,hR,decide_eq_false h1,decide_eq_false hK,hP,hS _ _,o5,trivial⟩,wf69 _ _ _ _ _⟩
theorem loop69 (hV:V<4294967296^16) (hm:0<m) (hR:m<4294967296^8):
  Goes Tryz.prog (.loop (bodyOf Tryz.prog 275 4)) (.exit 0) (TD69 511) [bW (limb V),b8 m,bW zF,z8] (TD69 (-1)) [bW (limb V),b8 m,bW (dq V m 512),b8 (remN V m)]:=by
 have h0:dr V m 0=0:=by unfold dr;rw[show 512-0=32*16 from rfl,two_pow_mul 16,Nat.div_eq_of_lt hV];exact Nat.zero_mod m
 have h1:dr V m 512=remN V m:=by simp[dr,remN]
 have:=loop_goes (P:=Tryz.prog) (y:=bodyOf Tryz.prog 275 4) (ex:= .exit 0) (N:=512) (k:=4) (T:=fun k=>TD69 (511-(k:Int))) (M:=fun k=>[bW (limb V),b8 m,bW (dq V m k),b8 (dr V m k)]) (TF:=TD69 (-1)) (MF:=[bW (limb V),b8 m,bW (dq V m 512),b8 (dr V m 512)])
  (by simp) (fun _ _=>rfl) (fun k hk=>by
   have:=step69 (V:=V) hm hR hk
   rw[show ((511-k:Nat):Int)-1=511-((k+1:Nat):Int) by omega,show ((511-k:Nat):Int)=511-(k:Int) by omega] at this
   exact this)
  (Runs.goes envED ⟨[false],_,run69x _ _ _ _,⟨by decide,trivial⟩,wf69 _ _ _ _ _⟩)
 rw[h1] at this
 refine Goes.before this (T:=TD69 511) (M:=[bW (limb V),b8 m,bW zF,z8]) (sameT_refl _) ⟨⟨rfl,rfl,rfl,rfl,fun _=>rfl⟩,⟨rfl,rfl,rfl,rfl,fun _=>rfl⟩,⟨rfl,rfl,rfl,rfl,fun _=>rfl⟩,⟨rfl,rfl,rfl,rfl,fun φ=> ?_⟩,trivial⟩ (wf69 _ _ _ _ _)
 simp only[h0,b8,z8,bN]
 rfl
theorem limb_zero:limb 0=zF:=by funext i;simp[limb,zF]
end
noncomputable def EDV (V m:Nat):Env:={ED with lp:=fun j=>match Nat.beq j 4 with|true=>some (bodyOf Tryz.prog 275 4,sumC (TD69 511) [bW (limb V),b8 m,bW zF,z8] (TD69 (-1)) [bW (limb V),b8 m,bW (dq V m 512),b8 (remN V m)] (.exit 0))|false=>none}
theorem envEDV {V m:Nat} (hV:V<4294967296^16) (hm:0<m) (hR:m<4294967296^8):EnvOK (EDV V m):=envEL1 envED (sumC_ok rfl (loop69 hV hm hR))
def isZ (m:Nat):Bool:=match eqF [.num 8 m] (cellsU 8 0 zF) with|some b=>b|none=>true
theorem run69c (V m:Nat):callR (EDV V m) 1000 275 [C16 (limb V),N8 m] [false]=some ([isZ m=false,bodyOf Tryz.prog 275 4=bodyOf Tryz.prog 275 4,
  (TD69 511,[bW (limb V),b8 m,bW zF,z8])=(TD69 511,[bW (limb V),b8 m,bW zF,z8]),wfS (TD69 511) [bW (limb V),b8 m,bW zF,z8]=true],.tup [C16 (dq V m 512),N8 (remN V m),.one (.i 0)]):=by kernel_rfl
theorem isZ_eq {m:Nat} (hm:m<4294967296^8):isZ m=decide (m=0):=by
 have h1:∃b,eqF [.num 8 m] (cellsU 8 0 zF)=some b:=⟨_,rfl⟩
 obtain ⟨b,hb⟩:=h1
 have h2:=eqF_spec (φ:=fun _=>(0,0,0)) _ _ hb
 have h3:eqF [.num 8 m] [.num 8 0]=some (decide (m%4294967296^8=0%4294967296^8)&&true):=rfl
 have h4:=eqF_spec (φ:=fun _=>(0,0,0)) _ _ h3
 rw[concs_num _ 8 0,limb_zero] at h4
 rw[h4] at h2
 unfold isZ
 rw[hb]
 simp only
 rw[←h2,Nat.mod_eq_of_lt hm]
 simp
def gDiv (V m:Nat):AV:= .tup [C16 (dq V m 512),N8 (remN V m),.one (.i 0)]
theorem spec69 (V m:Nat) (hV:V<4294967296^16) (hR:m<4294967296^8) (hm:0<m):Spec 275 [N16 V,N8 m] (gDiv V m):=by
 refine (spec_run (envEDV hV hm hR) rfl (run69c V m) ⟨by rw[isZ_eq hR];exact decide_eq_false (by omega),rfl,rfl,wfS_of (by simp[b8_free,bW_free,z8,bN_free]) (tTD69 _),trivial⟩ rfl rfl).congr (fun φ=>by simp only[List.map_cons,List.map_nil,conc_C16]) (fun φ=>rfl)
def fnDiv (g:Nat→Nat→AV) (vs:List V1):Option (List Prop×AV):=
 match vs with
 |[x,y]=>match numP 16 x,numP 8 y with
  |some (o,a),some (o',b)=>some (o++((0<b)::o'),g a b)
  |_,_=>none
 |_=>none
theorem fnDiv_ok {f:FuncId} {g:Nat→Nat→AV} (hg:∀a b,a<4294967296^16→b<4294967296^8→0<b→Spec f [N16 a,N8 b] (g a b)) {vs:List V1} {ob:List Prop} {r:AV} (h:fnDiv g vs=some (ob,r)) (ho:All ob):Spec f vs r:=by
 unfold fnDiv at h
 split at h
 ·rename_i x y
  split at h
  ·rename_i o a o' b hx hy
   simp only[Option.some.injEq,Prod.mk.injEq] at h
   obtain ⟨rfl,rfl⟩:=h
   rw[All_append] at ho
   obtain ⟨h1,h2⟩:=numP_spec hx ho.1
   obtain ⟨h3,h4⟩:=numP_spec hy ho.2.2
   exact (hg a b h1 h3 ho.2.1).congr (fun φ=>by simp only[List.map_cons,List.map_nil];rw[←h2 φ,←h4 φ];rfl) (fun _=>rfl)
  ·simp at h
 ·simp at h
def modN (k:Nat):Nat:=
 match k with
 |0=>57896044618658097711785492504343953926634992332820282019728792003956564819949
 |1=>115792089210356248762697446949407573530086143415290314195533631308867097853951
 |2=>7237005577332262213973186563042994240857116359379907606001950938285454250989
 |_=>115792089210356248762697446949407573529996955224135760342422259061068512044369
theorem modN_lt (k:Nat):modN k<4294967296^8:=by unfold modN;split<;>decide
theorem modN_pos (k:Nat):0<modN k:=by unfold modN;split<;>decide
def mulN (a b:Nat):Nat:=a*b
theorem mulN_lt {a b:Nat} (ha:a<4294967296^8) (hb:b<4294967296^8):mulN a b<4294967296^16:=by
 unfold mulN
 have h1:a*b≤a*4294967296^8:=Nat.mul_le_mul_left _ (Nat.le_of_lt hb)
 have h2:a*4294967296^8<4294967296^8*4294967296^8:=Nat.mul_lt_mul_of_pos_right ha (by decide)
 exact Nat.lt_of_le_of_lt h1 h2
def gMul (a b:Nat):AV:= .val (N16 (mulN a b))
def joinN (a b:Nat):Nat:=a+4294967296^8*b
def joinU (a b:Nat→Nat) (i:Nat):Nat:=match Nat.blt i 8 with|true=>a i|false=>b (i-8)
theorem joinU_conc (φ:Loc) (a b:Nat) (ha:a<4294967296^8) (hb:b<4294967296^8):(C16 (joinU (limb a) (limb b))).conc φ=(N16 (joinN a b)).conc φ:=by
 refine conc_C16v φ (fun i _=> ?_) ?_
 ·unfold joinU;split
  ·exact limb_lt _ _
  ·exact limb_lt _ _
 ·have e:=valU_split (joinU (limb a) (limb b)) 8 8 0
  rw[Nat.zero_add] at e
  have e1:valU 8 0 (joinU (limb a) (limb b))=a:=by
   rw[←valU_num a 8 ha]
   exact valU_congr 8 0 (fun i _ hi=>by unfold joinU;rw[blt_t (by omega)];rw[valU_num a 8 ha])
  have e2:valU 8 8 (joinU (limb a) (limb b))=b:=by
   have h3:=valU_shift (joinU (limb a) (limb b)) 8 8 0
   rw[Nat.zero_add] at h3
   rw[←h3]
   have:valU 8 0 (fun i=>joinU (limb a) (limb b) (i+8))=valU 8 0 (limb b):=valU_congr 8 0 (fun i _ hi=>by unfold joinU;rw[blt_f (by omega),Nat.add_sub_cancel])
   rw[this,valU_num b 8 hb]
  rw[e1,e2] at e
  exact e
def facS (low:Nat):Nat→Nat
 |0=>low
 |k+1=>facS low k*((2+(4294967296-low*facS low k%4294967296%4294967296))%4294967296)%4294967296
def facF (low:Nat):Nat:=(4294967296-facS low 4%4294967296)%4294967296
theorem run89 (low:Nat):callR E0 1000 305 [u32 low] []=some ([],.val (u32 (facF low))):=by kernel_rfl
def facN (k:Nat):Nat:=facF (limb (modN k) 0)
def rV (k:Nat):V1:= .agg [.num 8 (modN k),.a (.u .u32 (facN k))]
noncomputable def E89:Env:={E0 with fn:=fun f vs=>match f with|305=>(match vs with|[.one (.u .u32 x)]=>some ([],.val (u32 (facF x)))|_=>none)|_=>none}
theorem envE89:EnvOK E89:=by
 refine ⟨mixed,?_,fun _ _ _ _ _ h=>by simp[E89,E0] at h,fun _ _ _ h=>by simp[E89,E0] at h,fun _ _ _ _ _ _ h=>by simp[E89,E0] at h,fun _ _ _ _ h=>by simp[E89,E0] at h⟩
 intro f vs ob r h ho
 simp only[E89] at h
 split at h
 ·split at h
  ·simp only[Option.some.injEq,Prod.mk.injEq] at h
   obtain ⟨rfl,rfl⟩:=h
   exact spec_run envE0 rfl (run89 _) trivial rfl rfl
  ·simp at h
 ·simp at h
theorem run39_0:callR E0 1000 241 [.one (.i 0)] []=some ([],.tup [C8 (limb (modN 0)),.one (.v (.bool true))]):=by kernel_rfl
theorem run52_0:callR E89 1000 258 [.one (.i 0)] []=some ([],.val (.agg (cellsU 8 0 (limb (modN 0))++[.a (.u .u32 (facN 0))]))):=by kernel_rfl
theorem run39_1:callR E0 1000 241 [.one (.i 1)] []=some ([],.tup [C8 (limb (modN 1)),.one (.v (.bool true))]):=by kernel_rfl
theorem run52_1:callR E89 1000 258 [.one (.i 1)] []=some ([],.val (.agg (cellsU 8 0 (limb (modN 1))++[.a (.u .u32 (facN 1))]))):=by kernel_rfl
theorem run39_2:callR E0 1000 241 [.one (.i 2)] []=some ([],.tup [C8 (limb (modN 2)),.one (.v (.bool true))]):=by kernel_rfl
theorem run52_2:callR E89 1000 258 [.one (.i 2)] []=some ([],.val (.agg (cellsU 8 0 (limb (modN 2))++[.a (.u .u32 (facN 2))]))):=by kernel_rfl
theorem run39_3:callR E0 1000 241 [.one (.i 3)] []=some ([],.tup [C8 (limb (modN 3)),.one (.v (.bool true))]):=by kernel_rfl
theorem run52_3:callR E89 1000 258 [.one (.i 3)] []=some ([],.val (.agg (cellsU 8 0 (limb (modN 3))++[.a (.u .u32 (facN 3))]))):=by kernel_rfl
def fnK (g:Nat→AV) (vs:List V1):Option (List Prop×AV):=
 match vs with
 |[.one (.i z)]=>some ([0≤z∧z<4],g z.toNat)
 |_=>none
theorem fnK_ok {f:FuncId} {g:Nat→AV} (hg:∀k:Nat,k<4→Spec f [.one (.i (k:Int))] (g k)) {vs:List V1} {ob:List Prop} {r:AV} (h:fnK g vs=some (ob,r)) (ho:All ob):Spec f vs r:=by
 unfold fnK at h
 split at h
 ·rename_i z
  simp only[Option.some.injEq,Prod.mk.injEq] at h
  obtain ⟨rfl,rfl⟩:=h
  obtain ⟨n,rfl⟩:∃n:Nat,z=(n:Int):=⟨z.toNat,by have:=ho.1;omega⟩
  exact hg n (by have:=ho.1;omega)
 ·simp at h
def g39 (k:Nat):AV:= .tup [N8 (modN k),.one (.v (.bool true))]
def g52 (k:Nat):AV:= .val (rV k)
theorem spec39 (k:Nat) (hk:k<4):Spec 241 [.one (.i (k:Int))] (g39 k):=by
 have h:Spec 241 [.one (.i (k:Int))] (.tup [C8 (limb (modN k)),.one (.v (.bool true))]):=by
  match k,hk with
  |0,_=>exact spec_run envE0 rfl run39_0 trivial rfl rfl
  |1,_=>exact spec_run envE0 rfl run39_1 trivial rfl rfl
  |2,_=>exact spec_run envE0 rfl run39_2 trivial rfl rfl
  |3,_=>exact spec_run envE0 rfl run39_3 trivial rfl rfl
  |n+4,h=>exact absurd h (by omega)
 exact h.congr (fun _=>rfl) (fun φ=>by simp only[g39,AV.conc,List.map_cons,List.map_nil,conc_C8])
theorem spec52 (k:Nat) (hk:k<4):Spec 258 [.one (.i (k:Int))] (g52 k):=by
 have h:Spec 258 [.one (.i (k:Int))] (.val (.agg (cellsU 8 0 (limb (modN k))++[.a (.u .u32 (facN k))]))):=by
  match k,hk with
  |0,_=>exact spec_run envE89 rfl run52_0 trivial rfl rfl
  |1,_=>exact spec_run envE89 rfl run52_1 trivial rfl rfl
  |2,_=>exact spec_run envE89 rfl run52_2 trivial rfl rfl
  |3,_=>exact spec_run envE89 rfl run52_3 trivial rfl rfl
  |n+4,h=>exact absurd h (by omega)
 exact h.congr (fun _=>rfl) (fun φ=>by
  simp only[g52,rV,AV.conc,V1.conc,concs_append]
  rw[show ([.num 8 (modN k),.a (.u .u32 (facN k))]:List Piece)=[.num 8 (modN k)]++[.a (.u .u32 (facN k))] from rfl,concs_append,concs_num])
noncomputable def ER:Env:={E0 with fn:=fun f vs=>match f with|275=>fnDiv gDiv vs|_=>none}
theorem envER:EnvOK ER:=by
 refine ⟨mixed,?_,fun _ _ _ _ _ h=>by simp[ER,E0] at h,fun _ _ _ h=>by simp[ER,E0] at h,fun _ _ _ _ _ _ h=>by simp[ER,E0] at h,fun _ _ _ _ h=>by simp[ER,E0] at h⟩
 intro f vs ob r h ho
 simp only[ER] at h
 split at h
 ·exact fnDiv_ok spec69 h ho
 ·simp at h
theorem run48 (V m:Nat):callR ER 1000 242 [N16 V,N8 m] []=some ([V<4294967296^16,0<m,m<4294967296^8],.tup [N8 (remN V m),.one (.i 0)]):=by kernel_rfl
theorem spec48 (V m:Nat) (hV:V<4294967296^16) (hR:m<4294967296^8) (hm:0<m):Spec 242 [N16 V,N8 m] (.tup [N8 (remN V m),.one (.i 0)]):=
 spec_run envER rfl (run48 V m) ⟨hV,hm,hR,trivial⟩ rfl rfl
noncomputable def EP:Env:={E0 with
 fn:=fun f vs=>match f with
  |114=>fn2 gMul vs
  |242=>fnDiv (fun V m=> .tup [N8 (remN V m),.one (.i 0)]) vs
  |112=>fn2 gAdd vs
  |116=>fn2 gSub vs
  |118=>fn85 vs
  |_=>none
 S:=fun f t=>match f with
  |245=>memN t [27,30]
  |303=>memN t [27]
  |_=>false}
theorem envEP:EnvOK EP:=by
 refine ⟨mixed,?_,fun _ _ _ _ _ h=>by simp[EP,E0] at h,fun _ _ _ h=>by simp[EP,E0] at h,fun _ _ _ _ _ _ h=>by simp[EP,E0] at h,fun _ _ _ _ h=>by simp[EP,E0] at h⟩
 intro f vs ob r h ho
 simp only[EP] at h
 split at h
 ·exact fn2_ok (fun a b ha hb=>spec92 a b ha hb) h ho
 ·exact fnDiv_ok spec48 h ho
 ·exact fn2_ok spec84 h ho
 ·exact fn2_ok spec78 h ho
 ·exact fn85_ok h ho
 ·simp at h
def rV0 (m f:Nat):V1:= .agg [.num 8 m,.a (.u .u32 f)]
theorem run65a (m f a b:Nat):callR EP 1000 245 [rV0 m f,N8 a,N8 b] [true]=some ([a<4294967296^8,b<4294967296^8,addN a b<4294967296^8,m<4294967296^8,decide (addK a b=1)=true,
  addN a b<4294967296^8,subN (addN a b) m<4294967296^8],.val (N8 (subN (addN a b) m))):=by kernel_rfl
theorem run65b (m f a b:Nat):callR EP 1000 245 [rV0 m f,N8 a,N8 b] [false,true]=some ([a<4294967296^8,b<4294967296^8,addN a b<4294967296^8,m<4294967296^8,decide (addK a b=1)=false,decide (subK (addN a b) m=0)=true,
  addN a b<4294967296^8,subN (addN a b) m<4294967296^8],.val (N8 (subN (addN a b) m))):=by kernel_rfl
theorem run65n (m f a b:Nat):callR EP 1000 245 [rV0 m f,N8 a,N8 b] [false,false]=some ([a<4294967296^8,b<4294967296^8,addN a b<4294967296^8,m<4294967296^8,decide (addK a b=1)=false,decide (subK (addN a b) m=0)=false,
  addN a b<4294967296^8,subN (addN a b) m<4294967296^8],.val (N8 (addN a b))):=by kernel_rfl
theorem run68a (m f a b:Nat):callR EP 1000 303 [rV0 m f,N8 a,N8 b] [true]=some ([a<4294967296^8,b<4294967296^8,subN a b<4294967296^8,m<4294967296^8,decide (subK a b=1)=true,
  subN a b<4294967296^8,addN (subN a b) m<4294967296^8],.val (N8 (addN (subN a b) m))):=by kernel_rfl
theorem run68n (m f a b:Nat):callR EP 1000 303 [rV0 m f,N8 a,N8 b] [false]=some ([a<4294967296^8,b<4294967296^8,subN a b<4294967296^8,m<4294967296^8,decide (subK a b=1)=false,
  subN a b<4294967296^8,addN (subN a b) m<4294967296^8],.val (N8 (subN a b))):=by kernel_rfl
def mulM (m a b:Nat):Nat:=a*b%m
def addM (m a b:Nat):Nat:=(a+b)%m
def subM (m a b:Nat):Nat:=(a+m-b)%m
theorem addN_lt (a b:Nat):addN a b<4294967296^8:=Nat.mod_lt _ (by decide)
theorem subN_lt (a b:Nat):subN a b<4294967296^8:=Nat.mod_lt _ (by decide)
def SpecR (f:FuncId) (g:Nat→Nat→Nat→Nat):Prop:=∀m q a b,m<4294967296^8→a<m→b<m→Spec f [rV0 m q,N8 a,N8 b] (.val (N8 (g m a b)))
theorem spec65:SpecR 245 addM:=by
 intro m q a b hm ha hb
 have h1:a<4294967296^8:=by omega
 have h2:b<4294967296^8:=by omega
 by_cases hK:addK a b=1
 ·have e:subN (addN a b) m=addM m a b:=by
   unfold addK at hK
   unfold subN addN addM
   rw[Nat.mod_eq_sub_mod (show a+b≥m by omega),Nat.mod_eq_of_lt (show a+b-m<m by omega)]
   omega
  have:=spec_run envEP rfl (run65a m q a b) ⟨h1,h2,addN_lt _ _,hm,decide_eq_true hK,addN_lt _ _,subN_lt _ _,trivial⟩ rfl rfl
  rwa[e] at this
 ·have hs:a+b<4294967296^8:=by unfold addK at hK;omega
  have ha2:addN a b=a+b:=Nat.mod_eq_of_lt hs
  by_cases hc:a+b<m
  ·have e:addN a b=addM m a b:=by unfold addM;rw[ha2,Nat.mod_eq_of_lt hc]
   have hk:¬subK (addN a b) m=0:=by rw[ha2];unfold subK;rw[if_pos hc];omega
   have:=spec_run envEP rfl (run65n m q a b) ⟨h1,h2,addN_lt _ _,hm,decide_eq_false hK,decide_eq_false hk,addN_lt _ _,subN_lt _ _,trivial⟩ rfl rfl
   rwa[e] at this
  ·have e:subN (addN a b) m=addM m a b:=by
    unfold addM
    rw[ha2,Nat.mod_eq_sub_mod (show a+b≥m by omega),Nat.mod_eq_of_lt (show a+b-m<m by omega)]
    unfold subN;omega
   have hk:subK (addN a b) m=0:=by rw[ha2];unfold subK;rw[if_neg hc]
   have:=spec_run envEP rfl (run65b m q a b) ⟨h1,h2,addN_lt _ _,hm,decide_eq_false hK,decide_eq_true hk,addN_lt _ _,subN_lt _ _,trivial⟩ rfl rfl
   rwa[e] at this
theorem spec68:SpecR 303 subM:=by
 intro m q a b hm ha hb
 have h1:a<4294967296^8:=by omega
 have h2:b<4294967296^8:=by omega
 by_cases hc:a<b
 ·have e:addN (subN a b) m=subM m a b:=by
   unfold addN subN subM
   rw[Nat.mod_eq_of_lt (show a+m-b<m by omega)];omega
  have hk:subK a b=1:=by unfold subK;rw[if_pos hc]
  have:=spec_run envEP rfl (run68a m q a b) ⟨h1,h2,subN_lt _ _,hm,decide_eq_true hk,subN_lt _ _,addN_lt _ _,trivial⟩ rfl rfl
  rwa[e] at this
 ·have e:subN a b=subM m a b:=by
   unfold subN subM
   rw[Nat.mod_eq_sub_mod (show a+m-b≥m by omega),Nat.mod_eq_of_lt (show a+m-b-m<m by omega)];omega
  have hk:¬subK a b=1:=by unfold subK;rw[if_neg hc];omega
  have:=spec_run envEP rfl (run68n m q a b) ⟨h1,h2,subN_lt _ _,hm,decide_eq_false hk,subN_lt _ _,addN_lt _ _,trivial⟩ rfl rfl
  rwa[e] at this
def fnR (g:Nat→Nat→Nat→Nat) (vs:List V1):Option (List Prop×AV):=
 match vs with
 |[.agg [.num 8 m,.a (.u .u32 _)],x,y]=>match numP 8 x,numP 8 y with
  |some (o,a),some (o',b)=>some ((m<4294967296^8)::(a<m)::(b<m)::(o++o'),.val (N8 (g m a b)))
  |_,_=>none
 |_=>none
theorem fnR_ok {f:FuncId} {g:Nat→Nat→Nat→Nat} (hg:SpecR f g) {vs:List V1} {ob:List Prop} {r:AV} (h:fnR g vs=some (ob,r)) (ho:All ob):Spec f vs r:=by
 unfold fnR at h
 split at h
 ·rename_i m q x y
  split at h
  ·rename_i o a o' b hx hy
   simp only[Option.some.injEq,Prod.mk.injEq] at h
   obtain ⟨rfl,rfl⟩:=h
   obtain ⟨h0,h1,h2,h3⟩:=ho
   rw[All_append] at h3
   obtain ⟨_,h4⟩:=numP_spec hx h3.1
   obtain ⟨_,h5⟩:=numP_spec hy h3.2
   exact (hg m q a b h0 h1 h2).congr (fun φ=>by simp only[List.map_cons,List.map_nil];rw[←h4 φ,←h5 φ];rfl) (fun _=>rfl)
  ·simp at h
 ·simp at h
theorem run77 (a b:Nat→Nat):callR E0 1000 237 [C8 a,C8 b] []=some ([],.val (C16 (joinU a b))):=by kernel_rfl
def highU (w:Nat→Nat) (i:Nat):Nat:=w (i+8)
theorem spec77 (a b:Nat) (ha:a<4294967296^8) (hb:b<4294967296^8):Spec 237 [N8 a,N8 b] (.val (N16 (joinN a b))):=by
 have h:=spec_run envE0 rfl (run77 (limb a) (limb b)) trivial rfl rfl
 refine h.congr (fun φ=>by simp only[List.map_cons,List.map_nil,conc_C8]) (fun φ=> ?_)
 exact joinU_conc φ a b ha hb
def tabL:List Nat:=[0,1,2,2,3,3,3,3,4,4,4,4,4,4,4,4,5,5,5,5,5,5,5,5,5,5,5,5,5,5,5,5,6,6,6,6,6,6,6,6,6,6,6,6,6,6,6,6,6,6,6,6,6,6,6,6,6,6,6,6,6,6,6,6,7,7,7,7,7,7,7,7,7,7,7,7,7,7,7,7,7,7,7,7,7,7,7,7,7,7,7,7,7,7,7,7,7,7,7,7,7,7,7,7,7,7,7,7,7,7,7,7,7,7,7,7,7,7,7,7,7,7,7,7,7,7,7,7,8,8,8,8,8,8,8,8,8,8,8,8,8,8,8,8,8,8,8,8,8,8,8,8,8,8,8,8,8,8,8,8,8,8,8,8,8,8,8,8,8,8,8,8,8,8,8,8,8,8,8,8,8,8,8,8,8,8,8,8,8,8,8,8,8,8,8,8,8,8,8,8,8,8,8,8,8,8,8,8,8,8,8,8,8,8,8,8,8,8,8,8,8,8,8,8,8,8,8,8,8,8,8,8,8,8,8,8,8,8,8,8,8,8,8,8,8,8,8,8,8,8,8,8,8,8,8,8]
def tabB:ByteArray:=⟨(tabL.map UInt8.ofNat).toArray⟩
def tb (n:Nat):Nat:=(tabB.data.getD n 0).toNat
theorem tb_spec:∀n,n<256→n<2^tb n∧tb n≤8:=by decide+kernel
theorem tb_size:tabB.size=256:=by kernel_rfl
noncomputable def E91:Env:={E0 with
 S:=fun f t=>match f with
  |300=>memN t [4,8,12,16,18]
  |_=>false}
theorem envE91:EnvOK E91:=⟨mixed,fun _ _ _ _ h=>by simp[E91,E0] at h,fun _ _ _ _ _ h=>by simp[E91,E0] at h,fun _ _ _ h=>by simp[E91,E0] at h,fun _ _ _ _ _ _ h=>by simp[E91,E0] at h,fun _ _ _ _ h=>by simp[E91,E0] at h⟩
theorem run91a (x:Nat):callR E91 1000 300 [u32 x] [true,true]=some ([decide (65536≤x)=true,decide (256≤x/2^min 16 IntKind.u32.bits)=true,inI (16+8),x/2^min 16 IntKind.u32.bits/2^min 8 IntKind.u32.bits%256<tabB.size,inI (24+IntKind.i64.wrap ((tb (x/2^min 16 IntKind.u32.bits/2^min 8 IntKind.u32.bits%256):Nat):Int))],iV (24+IntKind.i64.wrap ((tb (x/2^min 16 IntKind.u32.bits/2^min 8 IntKind.u32.bits%256):Nat):Int))):=by kernel_rfl
theorem run91b (x:Nat):callR E91 1000 300 [u32 x] [true,false]=some ([decide (65536≤x)=true,decide (256≤x/2^min 16 IntKind.u32.bits)=false,x/2^min 16 IntKind.u32.bits%256<tabB.size,inI (16+IntKind.i64.wrap ((tb (x/2^min 16 IntKind.u32.bits%256):Nat):Int))],iV (16+IntKind.i64.wrap ((tb (x/2^min 16 IntKind.u32.bits%256):Nat):Int))):=by kernel_rfl
theorem run91c (x:Nat):callR E91 1000 300 [u32 x] [false,true]=some ([decide (65536≤x)=false,decide (256≤x)=true,inI (0+8),x/2^min 8 IntKind.u32.bits%256<tabB.size,inI (8+IntKind.i64.wrap ((tb (x/2^min 8 IntKind.u32.bits%256):Nat):Int))],iV (8+IntKind.i64.wrap ((tb (x/2^min 8 IntKind.u32.bits%256):Nat):Int))):=by kernel_rfl
theorem run91d (x:Nat):callR E91 1000 300 [u32 x] [false,false]=some ([decide (65536≤x)=false,decide (256≤x)=false,x%256<tabB.size,inI (0+IntKind.i64.wrap ((tb (x%256):Nat):Int))],iV (0+IntKind.i64.wrap ((tb (x%256):Nat):Int))):=by kernel_rfl
def len32 (x:Nat):Nat:=
 bif decide (65536≤x) then (bif decide (256≤x/65536) then 24+tb (x/65536/256%256) else 16+tb (x/65536%256)) else (bif decide (256≤x) then 8+tb (x/256%256) else tb (x%256))
theorem wrap_small {n:Nat} (h:n≤8):IntKind.i64.wrap (n:Int)=(n:Int):=wrap64_inI ⟨by omega,by omega⟩
theorem spec91 (x:Nat) (hx:x<4294967296):Spec 300 [u32 x] (iV (len32 x:Int))∧x<2^len32 x∧len32 x≤32:=by
 have p16:(2:Nat)^min 16 IntKind.u32.bits=65536:=rfl
 have p8:(2:Nat)^min 8 IntKind.u32.bits=256:=rfl
 by_cases h1:65536≤x
 ·by_cases h2:256≤x/65536
  ·have hl:len32 x=24+tb (x/65536/256%256):=by simp only[len32,decide_eq_true h1,decide_eq_true h2,cond_true]
   have hr:=run91a x
   rw[p16,p8] at hr
   have hn:x/65536/256%256<256:=by omega
   obtain ⟨t1,t2⟩:=tb_spec _ hn
   rw[wrap_small t2] at hr
   refine ⟨?_,?_,by omega⟩
   ·rw[hl]
    exact spec_run envE91 rfl hr ⟨decide_eq_true h1,decide_eq_true h2,by decide,by rw[tb_size];omega,by unfold inI;omega,trivial⟩ rfl rfl
   ·rw[hl,Nat.pow_add];omega
  ·have hl:len32 x=16+tb (x/65536%256):=by simp only[len32,decide_eq_true h1,decide_eq_false h2,cond_true,cond_false]
   have hr:=run91b x
   rw[p16] at hr
   have hn:x/65536%256<256:=by omega
   obtain ⟨t1,t2⟩:=tb_spec _ hn
   rw[wrap_small t2] at hr
   refine ⟨?_,?_,by omega⟩
   ·rw[hl]
    exact spec_run envE91 rfl hr ⟨decide_eq_true h1,decide_eq_false h2,by rw[tb_size];omega,by unfold inI;omega,trivial⟩ rfl rfl
   ·rw[hl,Nat.pow_add];omega
 ·by_cases h2:256≤x
  ·have hl:len32 x=8+tb (x/256%256):=by simp only[len32,decide_eq_false h1,decide_eq_true h2,cond_true,cond_false]
   have hr:=run91c x
   rw[p8] at hr
   have hn:x/256%256<256:=by omega
   obtain ⟨t1,t2⟩:=tb_spec _ hn
   rw[wrap_small t2] at hr
   refine ⟨?_,?_,by omega⟩
   ·rw[hl]
    exact spec_run envE91 rfl hr ⟨decide_eq_false h1,decide_eq_true h2,by decide,by rw[tb_size];omega,by unfold inI;omega,trivial⟩ rfl rfl
   ·rw[hl,Nat.pow_add];omega
  ·have hl:len32 x=tb (x%256):=by simp only[len32,decide_eq_false h1,decide_eq_false h2,cond_false]
   have hr:=run91d x
   have hn:x%256<256:=by omega
   obtain ⟨t1,t2⟩:=tb_spec _ hn
   rw[wrap_small t2,Int.zero_add] at hr
   refine ⟨?_,?_,by omega⟩
   ·rw[hl]
    exact spec_run envE91 rfl hr ⟨decide_eq_false h1,decide_eq_false h2,by rw[tb_size];omega,by unfold inI;omega,trivial⟩ rfl rfl
   ·rw[hl];omega
noncomputable def E74:Env:={E0 with
 fn:=fun f vs=>match f with
  |300=>(match vs with|[.one (.u .u32 x)]=>some ([x<4294967296],iV (len32 x:Int))|_=>none)
  |_=>none
 S:=fun f t=>match f with
  |284=>memN t [11,18]
  |286=>memN t [6,11,1000006]
  |_=>false}
theorem envE74:EnvOK E74:=by
 refine ⟨mixed,?_,fun _ _ _ _ _ h=>by simp[E74,E0] at h,fun _ _ _ h=>by simp[E74,E0] at h,fun _ _ _ _ _ _ h=>by simp[E74,E0] at h,fun _ _ _ _ h=>by simp[E74,E0] at h⟩
 intro f vs ob r h ho
 simp only[E74] at h
 split at h
 ·split at h
  ·simp only[Option.some.injEq,Prod.mk.injEq] at h
   obtain ⟨rfl,rfl⟩:=h
   exact (spec91 _ ho.1).1
  ·simp at h
 ·simp at h
def lenU (a:Nat→Nat):Nat→Nat
 |0=>0
 |j+1=>match decide (a j=0) with|true=>lenU a j|false=>32*j+len32 (a j)
theorem lenU_spec {a:Nat→Nat} (ha:∀i,a i<4294967296):∀n,valU n 0 a<2^lenU a n∧lenU a n≤32*n
 |0=>by simp[valU,lenU]
 |j+1=>by
  obtain ⟨h1,h2⟩:=lenU_spec ha j
  simp only[lenU]
  rw[valU_snoc,Nat.zero_add]
  split
  ·rename_i h;have:=of_decide_eq_true h;rw[this,Nat.mul_zero,Nat.add_zero];exact ⟨h1,by omega⟩
  ·obtain ⟨_,h3,h4⟩:=spec91 (a j) (ha j)
   refine ⟨?_,by omega⟩
   have h5:=valU_lt a j 0 (fun i _ _=>ha i)
   rw[Nat.pow_add,two_pow_mul]
   have h6:4294967296^j*(a j+1)≤4294967296^j*2^len32 (a j):=Nat.mul_le_mul_left _ h3
   rw[Nat.mul_succ] at h6
   omega
theorem run74_0 (a:Nat→Nat):callR E74 1000 284 [C8 a] [false,false,false,false,false,false,false,true]=some ([(!decide (a 7=0))=false,(!decide (a 6=0))=false,(!decide (a 5=0))=false,(!decide (a 4=0))=false,(!decide (a 3=0))=false,(!decide (a 2=0))=false,(!decide (a 1=0))=false,(!decide (a 0=0))=true,a 0<4294967296,inI (0+(len32 (a 0):Int))],iV (0+(len32 (a 0):Int))):=by kernel_rfl
theorem run74_1 (a:Nat→Nat):callR E74 1000 284 [C8 a] [false,false,false,false,false,false,true]=some ([(!decide (a 7=0))=false,(!decide (a 6=0))=false,(!decide (a 5=0))=false,(!decide (a 4=0))=false,(!decide (a 3=0))=false,(!decide (a 2=0))=false,(!decide (a 1=0))=true,a 1<4294967296,inI (32+(len32 (a 1):Int))],iV (32+(len32 (a 1):Int))):=by kernel_rfl
theorem run74_2 (a:Nat→Nat):callR E74 1000 284 [C8 a] [false,false,false,false,false,true]=some ([(!decide (a 7=0))=false,(!decide (a 6=0))=false,(!decide (a 5=0))=false,(!decide (a 4=0))=false,(!decide (a 3=0))=false,(!decide (a 2=0))=true,a 2<4294967296,inI (64+(len32 (a 2):Int))],iV (64+(len32 (a 2):Int))):=by kernel_rfl
theorem run74_3 (a:Nat→Nat):callR E74 1000 284 [C8 a] [false,false,false,false,true]=some ([(!decide (a 7=0))=false,(!decide (a 6=0))=false,(!decide (a 5=0))=false,(!decide (a 4=0))=false,(!decide (a 3=0))=true,a 3<4294967296,inI (96+(len32 (a 3):Int))],iV (96+(len32 (a 3):Int))):=by kernel_rfl
theorem run74_4 (a:Nat→Nat):callR E74 1000 284 [C8 a] [false,false,false,true]=some ([(!decide (a 7=0))=false,(!decide (a 6=0))=false,(!decide (a 5=0))=false,(!decide (a 4=0))=true,a 4<4294967296,inI (128+(len32 (a 4):Int))],iV (128+(len32 (a 4):Int))):=by kernel_rfl
theorem run74_5 (a:Nat→Nat):callR E74 1000 284 [C8 a] [false,false,true]=some ([(!decide (a 7=0))=false,(!decide (a 6=0))=false,(!decide (a 5=0))=true,a 5<4294967296,inI (160+(len32 (a 5):Int))],iV (160+(len32 (a 5):Int))):=by kernel_rfl
theorem run74_6 (a:Nat→Nat):callR E74 1000 284 [C8 a] [false,true]=some ([(!decide (a 7=0))=false,(!decide (a 6=0))=true,a 6<4294967296,inI (192+(len32 (a 6):Int))],iV (192+(len32 (a 6):Int))):=by kernel_rfl
theorem run74_7 (a:Nat→Nat):callR E74 1000 284 [C8 a] [true]=some ([(!decide (a 7=0))=true,a 7<4294967296,inI (224+(len32 (a 7):Int))],iV (224+(len32 (a 7):Int))):=by kernel_rfl
theorem run74_e (a:Nat→Nat):callR E74 1000 284 [C8 a] [false,false,false,false,false,false,false,false]=some ([(!decide (a 7=0))=false,(!decide (a 6=0))=false,(!decide (a 5=0))=false,(!decide (a 4=0))=false,(!decide (a 3=0))=false,(!decide (a 2=0))=false,(!decide (a 1=0))=false,(!decide (a 0=0))=false],iV 0):=by kernel_rfl
theorem len_spec (a:Nat→Nat) (ha:∀i,a i<4294967296):Spec 284 [C8 a] (iV (lenU a 8:Int)):=by
 by_cases h7:a 7=0
 ·skip
  by_cases h6:a 6=0
  ·skip
   by_cases h5:a 5=0
   ·skip
    by_cases h4:a 4=0
    ·skip
     by_cases h3:a 3=0
     ·skip
      by_cases h2:a 2=0
      ·skip
       by_cases h1:a 1=0
       ·skip
        by_cases h0:a 0=0
        ·skip
         have e:lenU a 8=0:=by simp[lenU,h0,h1,h2,h3,h4,h5,h6,h7]
         rw[e]
         exact spec_run envE74 rfl (run74_e a) ⟨by simp[h7],by simp[h6],by simp[h5],by simp[h4],by simp[h3],by simp[h2],by simp[h1],by simp[h0],trivial⟩ rfl rfl
        ·have e:lenU a 8=0+len32 (a 0):=by simp[lenU,h0,h1,h2,h3,h4,h5,h6,h7]
         have hl:=(spec91 (a 0) (ha 0)).2.2
         have hr:=run74_0 a
         rw[e,show ((0+len32 (a 0):Nat):Int)=0+(len32 (a 0):Int) by omega]
         exact spec_run envE74 rfl hr ⟨by simp[h7],by simp[h6],by simp[h5],by simp[h4],by simp[h3],by simp[h2],by simp[h1],by simp[h0],ha 0,by unfold inI;omega,trivial⟩ rfl rfl
       ·have e:lenU a 8=32+len32 (a 1):=by simp[lenU,h1,h2,h3,h4,h5,h6,h7]
        have hl:=(spec91 (a 1) (ha 1)).2.2
        have hr:=run74_1 a
        rw[e,show ((32+len32 (a 1):Nat):Int)=32+(len32 (a 1):Int) by omega]
        exact spec_run envE74 rfl hr ⟨by simp[h7],by simp[h6],by simp[h5],by simp[h4],by simp[h3],by simp[h2],by simp[h1],ha 1,by unfold inI;omega,trivial⟩ rfl rfl
      ·have e:lenU a 8=64+len32 (a 2):=by simp[lenU,h2,h3,h4,h5,h6,h7]
       have hl:=(spec91 (a 2) (ha 2)).2.2
       have hr:=run74_2 a
       rw[e,show ((64+len32 (a 2):Nat):Int)=64+(len32 (a 2):Int) by omega]
       exact spec_run envE74 rfl hr ⟨by simp[h7],by simp[h6],by simp[h5],by simp[h4],by simp[h3],by simp[h2],ha 2,by unfold inI;omega,trivial⟩ rfl rfl
     ·have e:lenU a 8=96+len32 (a 3):=by simp[lenU,h3,h4,h5,h6,h7]
      have hl:=(spec91 (a 3) (ha 3)).2.2
      have hr:=run74_3 a
      rw[e,show ((96+len32 (a 3):Nat):Int)=96+(len32 (a 3):Int) by omega]
      exact spec_run envE74 rfl hr ⟨by simp[h7],by simp[h6],by simp[h5],by simp[h4],by simp[h3],ha 3,by unfold inI;omega,trivial⟩ rfl rfl
    ·have e:lenU a 8=128+len32 (a 4):=by simp[lenU,h4,h5,h6,h7]
     have hl:=(spec91 (a 4) (ha 4)).2.2
     have hr:=run74_4 a
     rw[e,show ((128+len32 (a 4):Nat):Int)=128+(len32 (a 4):Int) by omega]
     exact spec_run envE74 rfl hr ⟨by simp[h7],by simp[h6],by simp[h5],by simp[h4],ha 4,by unfold inI;omega,trivial⟩ rfl rfl
   ·have e:lenU a 8=160+len32 (a 5):=by simp[lenU,h5,h6,h7]
    have hl:=(spec91 (a 5) (ha 5)).2.2
    have hr:=run74_5 a
    rw[e,show ((160+len32 (a 5):Nat):Int)=160+(len32 (a 5):Int) by omega]
    exact spec_run envE74 rfl hr ⟨by simp[h7],by simp[h6],by simp[h5],ha 5,by unfold inI;omega,trivial⟩ rfl rfl
  ·have e:lenU a 8=192+len32 (a 6):=by simp[lenU,h6,h7]
   have hl:=(spec91 (a 6) (ha 6)).2.2
   have hr:=run74_6 a
   rw[e,show ((192+len32 (a 6):Nat):Int)=192+(len32 (a 6):Int) by omega]
   exact spec_run envE74 rfl hr ⟨by simp[h7],by simp[h6],ha 6,by unfold inI;omega,trivial⟩ rfl rfl
 ·have e:lenU a 8=224+len32 (a 7):=by simp[lenU,h7]
  have hl:=(spec91 (a 7) (ha 7)).2.2
  have hr:=run74_7 a
  rw[e,show ((224+len32 (a 7):Nat):Int)=224+(len32 (a 7):Int) by omega]
  exact spec_run envE74 rfl hr ⟨by simp[h7],ha 7,by unfold inI;omega,trivial⟩ rfl rfl
def lenN (a:Nat):Nat:=lenU (limb a) 8
theorem lenN_spec {a:Nat} (ha:a<4294967296^8):a<2^lenN a∧lenN a≤256:=by
 have:=lenU_spec (limb_lt a) 8
 rw[valU_num a 8 ha] at this
 exact this
theorem spec74 (a:Nat):Spec 284 [N8 a] (iV (lenN a:Int)):=
 (len_spec (limb a) (limb_lt a)).congr (fun φ=>by simp only[List.map_cons,List.map_nil,conc_C8]) (fun _=>rfl)
theorem run76_0 (a:Nat→Nat) (i:Int):callR E74 1000 286 [C8 a,.one (.i i)] [false]=some ([i.tdiv 32=((0:Nat):Int),(32:Int)≠0∧inI (i.tdiv 32),0≤i.tmod 32],bV (decide (bitE a 0 i=1))):=by kernel_rfl
theorem run76_1 (a:Nat→Nat) (i:Int):callR E74 1000 286 [C8 a,.one (.i i)] [true,false]=some ([i.tdiv 32=((1:Nat):Int),(32:Int)≠0∧inI (i.tdiv 32),0≤i.tmod 32],bV (decide (bitE a 1 i=1))):=by kernel_rfl
theorem run76_2 (a:Nat→Nat) (i:Int):callR E74 1000 286 [C8 a,.one (.i i)] [true,true,false]=some ([i.tdiv 32=((2:Nat):Int),(32:Int)≠0∧inI (i.tdiv 32),0≤i.tmod 32],bV (decide (bitE a 2 i=1))):=by kernel_rfl
theorem run76_3 (a:Nat→Nat) (i:Int):callR E74 1000 286 [C8 a,.one (.i i)] [true,true,true,false]=some ([i.tdiv 32=((3:Nat):Int),(32:Int)≠0∧inI (i.tdiv 32),0≤i.tmod 32],bV (decide (bitE a 3 i=1))):=by kernel_rfl
theorem run76_4 (a:Nat→Nat) (i:Int):callR E74 1000 286 [C8 a,.one (.i i)] [true,true,true,true,false]=some ([i.tdiv 32=((4:Nat):Int),(32:Int)≠0∧inI (i.tdiv 32),0≤i.tmod 32],bV (decide (bitE a 4 i=1))):=by kernel_rfl
theorem run76_5 (a:Nat→Nat) (i:Int):callR E74 1000 286 [C8 a,.one (.i i)] [true,true,true,true,true,false]=some ([i.tdiv 32=((5:Nat):Int),(32:Int)≠0∧inI (i.tdiv 32),0≤i.tmod 32],bV (decide (bitE a 5 i=1))):=by kernel_rfl
theorem run76_6 (a:Nat→Nat) (i:Int):callR E74 1000 286 [C8 a,.one (.i i)] [true,true,true,true,true,true,false]=some ([i.tdiv 32=((6:Nat):Int),(32:Int)≠0∧inI (i.tdiv 32),0≤i.tmod 32],bV (decide (bitE a 6 i=1))):=by kernel_rfl
theorem run76_7 (a:Nat→Nat) (i:Int):callR E74 1000 286 [C8 a,.one (.i i)] [true,true,true,true,true,true,true,false]=some ([i.tdiv 32=((7:Nat):Int),(32:Int)≠0∧inI (i.tdiv 32),0≤i.tmod 32],bV (decide (bitE a 7 i=1))):=by kernel_rfl
def bitB (a i:Nat):Bool:=decide (bitN a i=1)
theorem spec76 (a i:Nat) (hi:i<256):Spec 286 [N8 a,.one (.i (i:Int))] (bV (bitB a i)):=by
 have hb:bitE (limb a) (i/32) (i:Int)=bitN a i:=by
  have:=bitE_eq a (i/32) (i%32) (by omega)
  rwa[Nat.div_add_mod] at this
 have h1:((i:Nat):Int).tdiv 32=((i/32:Nat):Int):=tdiv_cast i
 have h2:(32:Int)≠0∧inI (((i:Nat):Int).tdiv 32):=⟨by decide,by rw[h1];unfold inI;omega⟩
 have h3:0≤((i:Nat):Int).tmod 32:=by rw[tmod_cast];omega
 have h:Spec 286 [C8 (limb a),.one (.i (i:Int))] (bV (decide (bitE (limb a) (i/32) (i:Int)=1))):=by
  have hj:i/32<8:=by omega
  revert h1
  generalize i/32=j at hj
  intro h1
  match j,hj with
  |0,_=>exact spec_run envE74 rfl (run76_0 (limb a) i) ⟨h1,h2,h3,trivial⟩ rfl rfl
  |1,_=>exact spec_run envE74 rfl (run76_1 (limb a) i) ⟨h1,h2,h3,trivial⟩ rfl rfl
  |2,_=>exact spec_run envE74 rfl (run76_2 (limb a) i) ⟨h1,h2,h3,trivial⟩ rfl rfl
  |3,_=>exact spec_run envE74 rfl (run76_3 (limb a) i) ⟨h1,h2,h3,trivial⟩ rfl rfl
  |4,_=>exact spec_run envE74 rfl (run76_4 (limb a) i) ⟨h1,h2,h3,trivial⟩ rfl rfl
  |5,_=>exact spec_run envE74 rfl (run76_5 (limb a) i) ⟨h1,h2,h3,trivial⟩ rfl rfl
  |6,_=>exact spec_run envE74 rfl (run76_6 (limb a) i) ⟨h1,h2,h3,trivial⟩ rfl rfl
  |7,_=>exact spec_run envE74 rfl (run76_7 (limb a) i) ⟨h1,h2,h3,trivial⟩ rfl rfl
  |n+8,h=>exact absurd h (by omega)
 rw[hb] at h
 exact h.congr (fun φ=>by simp only[List.map_cons,List.map_nil,conc_C8]) (fun _=>rfl)
def T72 (q:Nat) (b w:Nat→Nat) (i c k:Nat):Nat:=(c+(q*(b k%18446744073709551616)%18446744073709551616+w (i+k)%18446744073709551616)%18446744073709551616)%18446744073709551616
def rdT (w m:Nat→Nat) (f i:Nat):Nat→Nat→Nat:=T72 (w i*f%4294967296%18446744073709551616) m w i
def rdE (w m:Nat→Nat) (f i o:Nat):Nat:=(rowC (rdT w m f i) 8+(w (i+8)%18446744073709551616+o)%18446744073709551616)%18446744073709551616
def rdW (w m:Nat→Nat) (f i o j:Nat):Nat:=
 match Nat.blt j i with
 |true=>w j
 |false=>match Nat.blt j (i+8) with
  |true=>rdT w m f i (rowC (rdT w m f i) (j-i)) (j-i)%4294967296
  |false=>match Nat.beq j (i+8) with
   |true=>rdE w m f i o%4294967296
   |false=>w j
def rdO (w m:Nat→Nat) (f i o:Nat):Nat:=rdE w m f i o/4294967296
def u64V (n:Nat):AV:= .val (.one (.u .u64 n))
def TR (f o:Nat) (i:Int):List AV:=slots 90 [(2,.val (u32 f)),(3,pV 0),(4,pV 1),(6,pV 2),(7,u64V o),(17,iV i)]
theorem tTR (f o:Nat) (i:Int):tmsWf 3 (TR f o i)=true:=by kernel_rfl
theorem wfTR (w m:Nat→Nat) (f o:Nat) (i:Int):wfS (TR f o i) [bW w,bN m,z8]=true:=wfS_of (by simp[bN_free,bW_free,z8]) (tTR f o i)
theorem run72_0 (w m:Nat→Nat) (f o:Nat):runTo E0 1000 (E0.S 289) (bodyOf Tryz.prog 289 3) (TR f o ((0:Nat):Int)) [bW w,bN m,z8] [] (TR f (rdO w m f 0 o) ((0+1:Nat):Int)) 3=
  some ([],.normal,TR f (rdO w m f 0 o) ((0+1:Nat):Int),[bW (rdW w m f 0 o),bN m,z8]):=by kernel_rfl
theorem run72_1 (w m:Nat→Nat) (f o:Nat):runTo E0 1000 (E0.S 289) (bodyOf Tryz.prog 289 3) (TR f o ((1:Nat):Int)) [bW w,bN m,z8] [] (TR f (rdO w m f 1 o) ((1+1:Nat):Int)) 3=
  some ([],.normal,TR f (rdO w m f 1 o) ((1+1:Nat):Int),[bW (rdW w m f 1 o),bN m,z8]):=by kernel_rfl
theorem run72_2 (w m:Nat→Nat) (f o:Nat):runTo E0 1000 (E0.S 289) (bodyOf Tryz.prog 289 3) (TR f o ((2:Nat):Int)) [bW w,bN m,z8] [] (TR f (rdO w m f 2 o) ((2+1:Nat):Int)) 3=
  some ([],.normal,TR f (rdO w m f 2 o) ((2+1:Nat):Int),[bW (rdW w m f 2 o),bN m,z8]):=by kernel_rfl
theorem run72_3 (w m:Nat→Nat) (f o:Nat):runTo E0 1000 (E0.S 289) (bodyOf Tryz.prog 289 3) (TR f o ((3:Nat):Int)) [bW w,bN m,z8] [] (TR f (rdO w m f 3 o) ((3+1:Nat):Int)) 3=
  some ([],.normal,TR f (rdO w m f 3 o) ((3+1:Nat):Int),[bW (rdW w m f 3 o),bN m,z8]):=by kernel_rfl
theorem run72_4 (w m:Nat→Nat) (f o:Nat):runTo E0 1000 (E0.S 289) (bodyOf Tryz.prog 289 3) (TR f o ((4:Nat):Int)) [bW w,bN m,z8] [] (TR f (rdO w m f 4 o) ((4+1:Nat):Int)) 3=
  some ([],.normal,TR f (rdO w m f 4 o) ((4+1:Nat):Int),[bW (rdW w m f 4 o),bN m,z8]):=by kernel_rfl
theorem run72_5 (w m:Nat→Nat) (f o:Nat):runTo E0 1000 (E0.S 289) (bodyOf Tryz.prog 289 3) (TR f o ((5:Nat):Int)) [bW w,bN m,z8] [] (TR f (rdO w m f 5 o) ((5+1:Nat):Int)) 3=
  some ([],.normal,TR f (rdO w m f 5 o) ((5+1:Nat):Int),[bW (rdW w m f 5 o),bN m,z8]):=by kernel_rfl
theorem run72_6 (w m:Nat→Nat) (f o:Nat):runTo E0 1000 (E0.S 289) (bodyOf Tryz.prog 289 3) (TR f o ((6:Nat):Int)) [bW w,bN m,z8] [] (TR f (rdO w m f 6 o) ((6+1:Nat):Int)) 3=
  some ([],.normal,TR f (rdO w m f 6 o) ((6+1:Nat):Int),[bW (rdW w m f 6 o),bN m,z8]):=by kernel_rfl
theorem run72_7 (w m:Nat→Nat) (f o:Nat):runTo E0 1000 (E0.S 289) (bodyOf Tryz.prog 289 3) (TR f o ((7:Nat):Int)) [bW w,bN m,z8] [] (TR f (rdO w m f 7 o) ((7+1:Nat):Int)) 3=
  some ([],.normal,TR f (rdO w m f 7 o) ((7+1:Nat):Int),[bW (rdW w m f 7 o),bN m,z8]):=by kernel_rfl
theorem run72_8 (w m:Nat→Nat) (f o:Nat):runTo E0 1000 (E0.S 289) (bodyOf Tryz.prog 289 3) (TR f o ((8:Nat):Int)) [bW w,bN m,z8] [] (TR f o ((8:Nat):Int)) 3=
  some ([],.exit 0,TR f o ((8:Nat):Int),[bW w,bN m,z8]):=by kernel_rfl
structure RS where
 w:Nat→Nat
 o:Nat
def rdS (w m:Nat→Nat) (f:Nat):Nat→RS
 |0=>⟨w,0⟩
 |i+1=>⟨rdW (rdS w m f i).w m f i (rdS w m f i).o,rdO (rdS w m f i).w m f i (rdS w m f i).o⟩
theorem loop72 (w m:Nat→Nat) (f:Nat):Goes Tryz.prog (.loop (bodyOf Tryz.prog 289 3)) (.exit 0) (TR f 0 ((0:Nat):Int)) [bW w,bN m,z8] (TR f (rdS w m f 8).o ((8:Nat):Int)) [bW (rdS w m f 8).w,bN m,z8]:=by
 refine loop_goes (N:=8) (k:=3) (T:=fun k=>TR f (rdS w m f k).o (k:Int)) (M:=fun k=>[bW (rdS w m f k).w,bN m,z8]) (by simp) (fun _ _=>rfl) (fun k hk=> ?_) ?_
 ·have:Runs E0 1000 (E0.S 289) (bodyOf Tryz.prog 289 3) .normal (TR f (rdS w m f k).o (k:Int)) [bW (rdS w m f k).w,bN m,z8] (TR f (rdO (rdS w m f k).w m f k (rdS w m f k).o) ((k+1:Nat):Int)) [bW (rdW (rdS w m f k).w m f k (rdS w m f k).o),bN m,z8]:=by
   match k,hk with
   |0,_=>exact ⟨[],_,run72_0 _ m f _,trivial,wfTR _ _ _ _ _⟩
   |1,_=>exact ⟨[],_,run72_1 _ m f _,trivial,wfTR _ _ _ _ _⟩
   |2,_=>exact ⟨[],_,run72_2 _ m f _,trivial,wfTR _ _ _ _ _⟩
   |3,_=>exact ⟨[],_,run72_3 _ m f _,trivial,wfTR _ _ _ _ _⟩
   |4,_=>exact ⟨[],_,run72_4 _ m f _,trivial,wfTR _ _ _ _ _⟩
   |5,_=>exact ⟨[],_,run72_5 _ m f _,trivial,wfTR _ _ _ _ _⟩
   |6,_=>exact ⟨[],_,run72_6 _ m f _,trivial,wfTR _ _ _ _ _⟩
   |7,_=>exact ⟨[],_,run72_7 _ m f _,trivial,wfTR _ _ _ _ _⟩
  exact this.goes envE0
 ·exact Runs.goes envE0 ⟨[],_,run72_8 _ m f _,trivial,wfTR _ _ _ _ _⟩
theorem rdT_eq {w m:Nat→Nat} {f i:Nat} (hw:∀k,w k<4294967296) (hm:∀k,m k<4294967296) (c k:Nat) (hc:c<4294967296):rdT w m f i c k=c+(w i*f%4294967296)*m k+w (i+k):=by
 have hq:w i*f%4294967296<4294967296:=Nat.mod_lt _ (by decide)
 have h:=(T_eq hq (hm k) (hw (i+k)) hc).1
 rw[←h]
 unfold rdT T72
 rfl
theorem rdC_lt {w m:Nat→Nat} {f i:Nat} (hw:∀k,w k<4294967296) (hm:∀k,m k<4294967296) (k:Nat):rowC (rdT w m f i) k<4294967296:=
 rowC_lt (x:=w i*f%4294967296) (Nat.mod_lt _ (by decide)) hm hw (fun c k hc=>rdT_eq hw hm c k hc) k
theorem rdE_eq {w m:Nat→Nat} {f i o:Nat} (hw:∀k,w k<4294967296) (hm:∀k,m k<4294967296) (ho:o≤1):rdE w m f i o=rowC (rdT w m f i) 8+w (i+8)+o∧rdO w m f i o≤1:=by
 have h1:=rdC_lt (f:=f) (i:=i) hw hm 8
 have h2:=hw (i+8)
 unfold rdO rdE
 generalize rowC (rdT w m f i) 8=c at*
 omega
theorem rdW_lt {w m:Nat→Nat} {f i o:Nat} (hw:∀k,w k<4294967296) (j:Nat):rdW w m f i o j<4294967296:=by
 unfold rdW
 split
 ·exact hw j
 ·split
  ·exact Nat.mod_lt _ (by decide)
  ·split
   ·exact Nat.mod_lt _ (by decide)
   ·exact hw j
theorem rd_sum {u w b d:Nat→Nat} {x c e o i:Nat} (n:Nat) (h1:∀j,j<i→u j=w j) (h2:∀k,k<n→u (k+i)=d k) (h3:u (i+n)=e%4294967296) (he:e=c+w (i+n)+o)
  (hs:valU n 0 d+4294967296^n*c=x*valU n 0 b+valU n i w):valU (i+(n+1)) 0 u+4294967296^(i+(n+1))*(e/4294967296)=valU (i+(n+1)) 0 w+4294967296^(i+n)*o+4294967296^i*(x*valU n 0 b):=by
 have e1:valU i 0 u=valU i 0 w:=valU_congr i 0 (fun j _ hj=>h1 j (by omega))
 have e2:valU n i u=valU n 0 d:=by
  have:=valU_shift u i n 0
  rw[Nat.zero_add] at this
  rw[←this]
  exact valU_congr n 0 (fun k _ hk=>h2 k (by omega))
 rw[valU_split u i (n+1) 0,valU_split w i (n+1) 0,Nat.zero_add,valU_snoc,valU_snoc,e1,e2,h3]
 have e3:4294967296^n*(e%4294967296)+4294967296^n*(4294967296*(e/4294967296))=4294967296^n*c+4294967296^n*w (i+n)+4294967296^n*o:=by
  rw[←Nat.mul_add,Nat.mod_add_div,he,Nat.mul_add,Nat.mul_add]
 have e4:valU n 0 d+4294967296^n*(e%4294967296)+4294967296^n*(4294967296*(e/4294967296))=x*valU n 0 b+valU n i w+4294967296^n*w (i+n)+4294967296^n*o:=by omega
 have e5:=congrArg (4294967296^i* ·) e4
 simp only[Nat.mul_add] at e5
 rw[show i+(n+1)=i+n+1 by omega,Nat.pow_succ,Nat.pow_add,Nat.mul_assoc,Nat.mul_assoc,Nat.mul_assoc,Nat.mul_add,Nat.mul_add]
 omega
theorem rd_row {w m:Nat→Nat} {f i o:Nat} (hw:∀k,w k<4294967296) (hm:∀k,m k<4294967296) (ho:o≤1):
  valU (i+(8+1)) 0 (rdW w m f i o)+4294967296^(i+(8+1))*rdO w m f i o=valU (i+(8+1)) 0 w+4294967296^(i+8)*o+4294967296^i*((w i*f%4294967296)*valU 8 0 m):=by
 have hT:=fun c k hc=>rdT_eq (f:=f) (i:=i) hw hm c k hc
 refine rd_sum (d:=fun k=>rdT w m f i (rowC (rdT w m f i) k) k%4294967296) (c:=rowC (rdT w m f i) 8) 8 ?_ ?_ ?_ (rdE_eq hw hm ho).1 (rowC_sum (Nat.mod_lt _ (by decide)) hm hw hT 8)
 ·intro j hj
  unfold rdW
  rw[blt_t hj]
 ·intro k hk
  unfold rdW
  rw[blt_f (show ¬k+i<i by omega),blt_t (show k+i<i+8 by omega),Nat.add_sub_cancel]
 ·unfold rdW
  rw[blt_f (show ¬i+8<i by omega),blt_f (show ¬i+8<i+8 by omega),show Nat.beq (i+8) (i+8)=true from Nat.beq_refl _]
theorem rdW_hi {w m:Nat→Nat} {f i o j:Nat} (h:i+8<j):rdW w m f i o j=w j:=by
 unfold rdW
 rw[blt_f (show ¬j<i by omega),blt_f (show ¬j<i+8 by omega),show Nat.beq j (i+8)=false from by rw[Bool.eq_false_iff];intro h';have:=Nat.eq_of_beq_eq_true h';omega]
theorem rdW_lo {w m:Nat→Nat} {f i o j:Nat} (h:j<i):rdW w m f i o j=w j:=by
 unfold rdW
 rw[blt_t h]
theorem rdW_at {w m:Nat→Nat} {f i o:Nat} (hw:∀k,w k<4294967296) (hm:∀k,m k<4294967296) (hf:(m 0*f+1)%4294967296=0):rdW w m f i o i=0:=by
 unfold rdW
 rw[blt_f (show ¬i<i by omega),blt_t (show i<i+8 by omega),Nat.sub_self]
 simp only
 rw[rdT_eq hw hm _ _ (by simp[rowC])]
 simp only[rowC,Nat.zero_add,Nat.add_zero]
 have h1:(w i*f%4294967296*m 0+w i)%4294967296=(w i*(m 0*f+1))%4294967296:=by
  rw[Nat.add_mod,Nat.mod_mul_mod,←Nat.add_mod,Nat.mul_add,Nat.mul_one,Nat.mul_assoc,Nat.mul_comm f (m 0)]
 rw[h1,Nat.mul_mod,hf,Nat.mul_zero,Nat.zero_mod]
theorem rdS_spec {w m:Nat→Nat} {f:Nat} (hw:∀k,w k<4294967296) (hm:∀k,m k<4294967296) (hf:(m 0*f+1)%4294967296=0):∀i,i≤8→
  (∀k,(rdS w m f i).w k<4294967296)∧(rdS w m f i).o≤1∧(∀j,j<i→(rdS w m f i).w j=0)∧
  ∃Q,Q<4294967296^i∧valU 16 0 (rdS w m f i).w+4294967296^(i+8)*(rdS w m f i).o=valU 16 0 w+Q*valU 8 0 m
 |0,_=>⟨hw,by simp[rdS],fun j hj=>by omega,0,by simp,by simp[rdS]⟩
 |i+1,hi=>by
  obtain ⟨h1,h2,h3,Q,h4,h5⟩:=rdS_spec hw hm hf i (by omega)
  have e:rdS w m f (i+1)=⟨rdW (rdS w m f i).w m f i (rdS w m f i).o,rdO (rdS w m f i).w m f i (rdS w m f i).o⟩:=rfl
  rw[e]
  generalize (rdS w m f i).w=u at*
  generalize (rdS w m f i).o=p at*
  refine ⟨fun k=>rdW_lt h1 k,(rdE_eq h1 hm h2).2,?_,Q+4294967296^i*(u i*f%4294967296),?_,?_⟩
  ·intro j hj
   simp only
   by_cases hji:j=i
   ·subst hji;exact rdW_at h1 hm hf
   ·rw[rdW_lo (by omega)];exact h3 j (by omega)
  ·have:u i*f%4294967296<4294967296:=Nat.mod_lt _ (by decide)
   have h6:4294967296^i*(u i*f%4294967296+1)≤4294967296^i*4294967296:=Nat.mul_le_mul_left _ this
   rw[Nat.mul_succ] at h6
   rw[Nat.pow_succ]
   omega
  ·simp only
   have hr:=rd_row (f:=f) (i:=i) h1 hm h2
   have s1:=valU_split (rdW u m f i p) (i+(8+1)) (7-i) 0
   have s2:=valU_split u (i+(8+1)) (7-i) 0
   rw[show i+(8+1)+(7-i)=16 by omega,Nat.zero_add] at s1 s2
   have s3:valU (7-i) (i+(8+1)) (rdW u m f i p)=valU (7-i) (i+(8+1)) u:=valU_congr _ _ (fun j hj _=>rdW_hi (by omega))
   rw[s3] at s1
   rw[Nat.add_mul,Nat.mul_assoc,show i+1+8=i+(8+1) by omega]
   generalize 4294967296^(i+(8+1))*valU (7-i) (i+(8+1)) u=X at*
   omega
theorem redc_math {V m f:Nat} (hV:V<4294967296^16) (hm:m<4294967296^8) (hf:(limb m 0*f+1)%4294967296=0):
  (∀k,highU (rdS (limb V) (limb m) f 8).w k<4294967296)∧(rdS (limb V) (limb m) f 8).o≤1∧
  ∃Q,Q<4294967296^8∧4294967296^8*(valU 8 0 (highU (rdS (limb V) (limb m) f 8).w)+4294967296^8*(rdS (limb V) (limb m) f 8).o)=V+Q*m:=by
 obtain ⟨h1,h2,h3,Q,h4,h5⟩:=rdS_spec (limb_lt V) (limb_lt m) hf 8 (Nat.le_refl _)
 generalize (rdS (limb V) (limb m) f 8).w=u at*
 generalize (rdS (limb V) (limb m) f 8).o=p at*
 refine ⟨fun k=>h1 (k+8),h2,Q,h4,?_⟩
 have s:=valU_split u 8 8 0
 have z:valU 8 0 u=0:=by
  rw[valU_congr (v:=fun _=>0) 8 0 (fun j _ hj=>h3 j (by omega)),valU_zero]
 have hh:valU 8 0 (highU u)=valU 8 8 u:=by
  have:=valU_shift u 8 8 0
  exact this
 rw[Nat.zero_add,z,Nat.zero_add,←hh] at s
 rw[show 8+8=16 from rfl] at s
 rw[valU_num V 16 hV,valU_num m 8 hm,s,show 8+8=8+8 from rfl,Nat.pow_add,Nat.mul_assoc,←Nat.mul_add] at h5
 exact h5
def Cg (m a b:Nat):Prop:=a%m=b%m
theorem Cg.refl (m a:Nat):Cg m a a:=rfl
theorem Cg.symm {m a b:Nat} (h:Cg m a b):Cg m b a:=Eq.symm h
theorem Cg.trans {m a b c:Nat} (h:Cg m a b) (h':Cg m b c):Cg m a c:=Eq.trans h h'
theorem Cg.mul {m a b c d:Nat} (h:Cg m a b) (h':Cg m c d):Cg m (a*c) (b*d):=by
 unfold Cg at*
 rw[Nat.mul_mod,h,h',←Nat.mul_mod]
theorem Cg.add {m a b c d:Nat} (h:Cg m a b) (h':Cg m c d):Cg m (a+c) (b+d):=by
 unfold Cg at*
 rw[Nat.add_mod,h,h',←Nat.add_mod]
theorem Cg.mod (m a:Nat):Cg m (a%m) a:=Nat.mod_mod _ _
theorem Cg.of_eq {m a b:Nat} (h:a=b):Cg m a b:=by rw[h];exact Cg.refl _ _
open Classical in
noncomputable def rinv (m:Nat):Nat:=if h:∃r,Cg m (4294967296^8*r) 1 then Classical.choose h else 0
def goodF (m f:Nat):Prop:=(limb m 0*f+1)%4294967296=0
theorem rinv_spec {m f:Nat} (hR:m<4294967296^8) (hf:goodF m f):Cg m (4294967296^8*rinv m) 1:=by
 have h:∃r,Cg m (4294967296^8*r) 1:=by
  obtain ⟨_,_,Q,_,h⟩:=redc_math (V:=1) (by decide) hR hf
  refine ⟨valU 8 0 (highU (rdS (limb 1) (limb m) f 8).w)+4294967296^8*(rdS (limb 1) (limb m) f 8).o,?_⟩
  unfold Cg
  rw[h,Nat.add_mul_mod_self_right]
 unfold rinv
 rw[dif_pos h]
 exact Classical.choose_spec h
noncomputable def mredN (V m:Nat):Nat:=V*rinv m%m
theorem mred_eq {V m f r:Nat} (hR:m<4294967296^8) (hf:goodF m f) (hr:r<m) (h:Cg m (4294967296^8*r) V):r=mredN V m:=by
 have h1:=(h.mul (Cg.refl m (rinv m))).symm
 have h2:Cg m (4294967296^8*r*rinv m) (r*1):=by
  refine Cg.trans (Cg.of_eq ?_) ((Cg.refl m r).mul (rinv_spec hR hf))
  rw[Nat.mul_comm (4294967296^8) r,Nat.mul_assoc]
 have h3:=h1.trans h2
 unfold mredN
 rw[show V*rinv m%m=r*1%m from h3,Nat.mul_one,Nat.mod_eq_of_lt hr]
noncomputable def ERD (w m:Nat→Nat) (f:Nat):Env:={E0 with
 fn:=fun g vs=>match g with
  |116=>fn2 gSub vs
  |118=>fn85 vs
  |_=>none
 S:=fun g t=>match g with
  |289=>memN t [84,87]
  |_=>false
 lp:=fun j=>match Nat.beq j 3 with
  |true=>some (bodyOf Tryz.prog 289 3,sumC (TR f 0 ((0:Nat):Int)) [bW w,bN m,z8] (TR f (rdS w m f 8).o ((8:Nat):Int)) [bW (rdS w m f 8).w,bN m,z8] (.exit 0))
  |false=>none}
theorem envERD (w m:Nat→Nat) (f:Nat):EnvOK (ERD w m f):=by
 refine ⟨mixed,?_,fun _ _ _ _ _ h=>by simp[ERD,E0] at h,?_,fun _ _ _ _ _ _ h=>by simp[ERD,E0] at h,fun _ _ _ _ h=>by simp[ERD,E0] at h⟩
 ·intro g vs ob r h ho
  simp only[ERD] at h
  split at h
  ·exact fn2_ok spec78 h ho
  ·exact fn85_ok h ho
  ·simp at h
 ·intro j y f' h
  simp only[ERD] at h
  split at h
  ·simp only[Option.some.injEq,Prod.mk.injEq] at h
   obtain ⟨rfl,rfl⟩:=h
   exact sumC_ok rfl (loop72 w m f)
  ·simp at h
def obL (w m:Nat→Nat) (f:Nat):List Prop:=[bodyOf Tryz.prog 289 3=bodyOf Tryz.prog 289 3,(TR f 0 ((0:Nat):Int),[bW w,bN m,z8])=(TR f 0 ((0:Nat):Int),[bW w,bN m,z8]),wfS (TR f 0 ((0:Nat):Int)) [bW w,bN m,z8]=true]
def lt8 (u:Nat→Nat):List Prop:=[u 0<4294967296,u 1<4294967296,u 2<4294967296,u 3<4294967296,u 4<4294967296,u 5<4294967296,u 6<4294967296,u 7<4294967296]
theorem lt8_ok {u:Nat→Nat} (h:∀k,u k<4294967296):All (lt8 u):=⟨h 0,h 1,h 2,h 3,h 4,h 5,h 6,h 7,trivial⟩
def H72 (w m:Nat→Nat) (f:Nat):Nat:=valU 8 0 (highU (rdS w m f 8).w)
def M72 (m:Nat→Nat):Nat:=valU 8 0 m
theorem run72a (w m:Nat→Nat) (f:Nat):callR (ERD w m f) 1000 289 [C16 w,C8 m,u32 f] [true]=some (obL w m f++(lt8 (highU (rdS w m f 8).w)++(lt8 m++(decide ((rdS w m f 8).o=1)=true)::(lt8 (highU (rdS w m f 8).w)++[subN (H72 w m f) (M72 m)<4294967296^8]))),.val (N8 (subN (H72 w m f) (M72 m)))):=by kernel_rfl
theorem run72b (w m:Nat→Nat) (f:Nat):callR (ERD w m f) 1000 289 [C16 w,C8 m,u32 f] [false,true]=some (obL w m f++(lt8 (highU (rdS w m f 8).w)++(lt8 m++(decide ((rdS w m f 8).o=1)=false)::(decide (subK (H72 w m f) (M72 m)=0)=true)::(lt8 (highU (rdS w m f 8).w)++[subN (H72 w m f) (M72 m)<4294967296^8]))),.val (N8 (subN (H72 w m f) (M72 m)))):=by kernel_rfl
theorem run72n (w m:Nat→Nat) (f:Nat):callR (ERD w m f) 1000 289 [C16 w,C8 m,u32 f] [false,false]=some (obL w m f++(lt8 (highU (rdS w m f 8).w)++(lt8 m++(decide ((rdS w m f 8).o=1)=false)::(decide (subK (H72 w m f) (M72 m)=0)=false)::(lt8 (highU (rdS w m f 8).w)++[subN (H72 w m f) (M72 m)<4294967296^8]))),.val (N8 (H72 w m f))):=by kernel_rfl
theorem obL_ok (w m:Nat→Nat) (f:Nat):All (obL w m f):=⟨rfl,rfl,wfTR _ _ _ _ _,trivial⟩
theorem spec72 (V m f:Nat) (hV:V<4294967296^16) (hR:m<4294967296^8) (hm:0<m) (hf:goodF m f) (hVm:V<m*4294967296^8):Spec 289 [N16 V,N8 m,u32 f] (.val (N8 (mredN V m))):=by
 obtain ⟨h1,h2,Q,h3,h4⟩:=redc_math hV hR hf
 have hM:M72 (limb m)=m:=valU_num m 8 hR
 have hH:H72 (limb V) (limb m) f<4294967296^8:=valU_lt _ 8 0 (fun i _ _=>h1 i)
 have hob:=obL_ok (limb V) (limb m) f
 have hl1:=lt8_ok h1
 have hl2:=lt8_ok (limb_lt m)
 have hS:=subN_lt (H72 (limb V) (limb m) f) (M72 (limb m))
 have hQm:Q*m≤4294967296^8*m:=Nat.mul_le_mul_right _ (Nat.le_of_lt h3)
 rw[show valU 8 0 (highU (rdS (limb V) (limb m) f 8).w)=H72 (limb V) (limb m) f from rfl] at h4
 have ht:H72 (limb V) (limb m) f+4294967296^8*(rdS (limb V) (limb m) f 8).o<2*m:=by
  rw[Nat.mul_comm m] at hVm
  omega
 have hcg:Cg m (4294967296^8*(H72 (limb V) (limb m) f+4294967296^8*(rdS (limb V) (limb m) f 8).o)) V:=by
  unfold Cg;rw[h4,Nat.add_mul_mod_self_right]
 have conv:∀r,Spec 289 [C16 (limb V),C8 (limb m),u32 f] (.val (N8 r))→r=mredN V m→Spec 289 [N16 V,N8 m,u32 f] (.val (N8 (mredN V m))):=by
  intro r hr e
  rw[←e]
  exact hr.congr (fun φ=>by simp only[List.map_cons,List.map_nil,conc_C8,conc_C16]) (fun _=>rfl)
 have sub:∀t,t<2*m→m≤t→Cg m (4294967296^8*t) V→t-m=mredN V m:=by
  intro t ht hmt hc
  refine mred_eq hR hf (by omega) (Cg.trans ?_ hc)
  unfold Cg
  rw[show t=(t-m)+m by omega,Nat.mul_add,Nat.add_sub_cancel,Nat.add_mul_mod_self_right]
 by_cases hk:(rdS (limb V) (limb m) f 8).o=1
 ·refine conv _ (spec_run (envERD _ _ _) rfl (run72a _ _ _) ?_ rfl rfl) ?_
  ·simp only[All_append,All]
   exact ⟨hob,hl1,hl2,decide_eq_true hk,hl1,hS,trivial⟩
  ·rw[←sub _ ht (by rw[hk];omega) hcg,hM,hk]
   unfold subN
   omega
 ·have hk0:(rdS (limb V) (limb m) f 8).o=0:=by omega
  rw[hk0,Nat.mul_zero,Nat.add_zero] at ht hcg
  by_cases hc:H72 (limb V) (limb m) f<m
  ·have hK:¬subK (H72 (limb V) (limb m) f) (M72 (limb m))=0:=by rw[hM];unfold subK;rw[if_pos hc];omega
   refine conv _ (spec_run (envERD _ _ _) rfl (run72n _ _ _) ?_ rfl rfl) ?_
   ·simp only[All_append,All]
    exact ⟨hob,hl1,hl2,decide_eq_false hk,decide_eq_false hK,hl1,hS,trivial⟩
   ·exact mred_eq hR hf hc hcg
  ·have hK:subK (H72 (limb V) (limb m) f) (M72 (limb m))=0:=by rw[hM];unfold subK;rw[if_neg hc]
   refine conv _ (spec_run (envERD _ _ _) rfl (run72b _ _ _) ?_ rfl rfl) ?_
   ·simp only[All_append,All]
    exact ⟨hob,hl1,hl2,decide_eq_false hk,decide_eq_true hK,hl1,hS,trivial⟩
   ·rw[←sub _ ht (by omega) hcg,hM]
    unfold subN
    omega
noncomputable def fn72 (vs:List V1):Option (List Prop×AV):=
 match vs with
 |[x,y,.one (.u .u32 f)]=>match numP 16 x,numP 8 y with
  |some (o,V),some (o',m)=>some ((0<m)::goodF m f::(V<m*4294967296^8)::(o++o'),.val (N8 (mredN V m)))
  |_,_=>none
 |_=>none
theorem fn72_ok {vs:List V1} {ob:List Prop} {r:AV} (h:fn72 vs=some (ob,r)) (ho:All ob):Spec 289 vs r:=by
 unfold fn72 at h
 split at h
 ·rename_i x y f
  split at h
  ·rename_i o V o' m hx hy
   simp only[Option.some.injEq,Prod.mk.injEq] at h
   obtain ⟨rfl,rfl⟩:=h
   obtain ⟨g1,g2,g3,g4⟩:=ho
   rw[All_append] at g4
   obtain ⟨h1,h2⟩:=numP_spec hx g4.1
   obtain ⟨h3,h4⟩:=numP_spec hy g4.2
   exact (spec72 V m f h1 h3 g1 g2 g3).congr (fun φ=>by simp only[List.map_cons,List.map_nil];rw[←h2 φ,←h4 φ];rfl) (fun _=>rfl)
  ·simp at h
 ·simp at h
end Go.Ev
