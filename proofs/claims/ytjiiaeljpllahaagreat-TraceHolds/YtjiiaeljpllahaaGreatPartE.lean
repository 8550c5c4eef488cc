/- Numbers of limbs: what the functions on them come to -/
import Derived.Test.YtjiiaeljpllahaaGreatPartD
namespace Go.Ev
open Go Go.Proofs Go.RowKit
theorem afC (a b:Nat→Nat):al E0 1000 137 [C8 a,C8 b] []=some ([],.val (m5 (nc a b))):=by kernel_rfl
def mM (w:Nat→Nat) (i:Nat):Nat:=w (i+8)
theorem Hj (a b:Nat) (ha:a<4294967296^8) (hb:b<4294967296^8):Spec 137 [N8 a,N8 b] (.val (mO (co a b))):=by
 have h:=af envE0 rfl (afC (ak a) (ak b)) trivial rfl rfl
 refine h.congr (fun φ=>by simp only[List.map_cons,List.map_nil,c8]) (fun φ=> ?_)
 exact we φ a b ha hb
def tabL:List Nat:=[0,1,2,2,3,3,3,3,4,4,4,4,4,4,4,4,5,5,5,5,5,5,5,5,5,5,5,5,5,5,5,5,6,6,6,6,6,6,6,6,6,6,6,6,6,6,6,6,6,6,6,6,6,6,6,6,6,6,6,6,6,6,6,6,7,7,7,7,7,7,7,7,7,7,7,7,7,7,7,7,7,7,7,7,7,7,7,7,7,7,7,7,7,7,7,7,7,7,7,7,7,7,7,7,7,7,7,7,7,7,7,7,7,7,7,7,7,7,7,7,7,7,7,7,7,7,7,7,8,8,8,8,8,8,8,8,8,8,8,8,8,8,8,8,8,8,8,8,8,8,8,8,8,8,8,8,8,8,8,8,8,8,8,8,8,8,8,8,8,8,8,8,8,8,8,8,8,8,8,8,8,8,8,8,8,8,8,8,8,8,8,8,8,8,8,8,8,8,8,8,8,8,8,8,8,8,8,8,8,8,8,8,8,8,8,8,8,8,8,8,8,8,8,8,8,8,8,8,8,8,8,8,8,8,8,8,8,8,8,8,8,8,8,8,8,8,8,8,8,8,8,8,8,8,8,8]
def tabB:ByteArray:=⟨(tabL.map UInt8.ofNat).toArray⟩
def tb (n:Nat):Nat:=(tabB.data.getD n 0).toNat
theorem ug:∀n,n<256→n<2^tb n∧tb n≤8:=by decide+kernel
theorem ub:tabB.size=256:=by kernel_rfl
noncomputable def Ro:Env:={E0 with
 S:=fun f t=>match f with
  |185=>bf t [4,8,12,16,18]
  |_=>false}
theorem AW:EnvOK Ro:=⟨mixed,fun _ _ _ _ h=>by simp[Ro,E0] at h,fun _ _ _ _ _ h=>by simp[Ro,E0] at h,fun _ _ _ h=>by simp[Ro,E0] at h,fun _ _ _ _ _ _ h=>by simp[Ro,E0] at h⟩
theorem ZB (x:Nat):al Ro 1000 185 [u32 x] [true,true]=some ([decide (65536≤x)=true,decide (256≤x/2^min 16 IntKind.u32.bits)=true,br (16+8),x/2^min 16 IntKind.u32.bits/2^min 8 IntKind.u32.bits%256<tabB.size,br (24+IntKind.i64.wrap ((tb (x/2^min 16 IntKind.u32.bits/2^min 8 IntKind.u32.bits%256):Nat):Int))],iV (24+IntKind.i64.wrap ((tb (x/2^min 16 IntKind.u32.bits/2^min 8 IntKind.u32.bits%256):Nat):Int))):=by kernel_rfl
theorem abm (x:Nat):al Ro 1000 185 [u32 x] [true,false]=some ([decide (65536≤x)=true,decide (256≤x/2^min 16 IntKind.u32.bits)=false,x/2^min 16 IntKind.u32.bits%256<tabB.size,br (16+IntKind.i64.wrap ((tb (x/2^min 16 IntKind.u32.bits%256):Nat):Int))],iV (16+IntKind.i64.wrap ((tb (x/2^min 16 IntKind.u32.bits%256):Nat):Int))):=by kernel_rfl
theorem adW (x:Nat):al Ro 1000 185 [u32 x] [false,true]=some ([decide (65536≤x)=false,decide (256≤x)=true,br (0+8),x/2^min 8 IntKind.u32.bits%256<tabB.size,br (8+IntKind.i64.wrap ((tb (x/2^min 8 IntKind.u32.bits%256):Nat):Int))],iV (8+IntKind.i64.wrap ((tb (x/2^min 8 IntKind.u32.bits%256):Nat):Int))):=by kernel_rfl
theorem abh (x:Nat):al Ro 1000 185 [u32 x] [false,false]=some ([decide (65536≤x)=false,decide (256≤x)=false,x%256<tabB.size,br (0+IntKind.i64.wrap ((tb (x%256):Nat):Int))],iV (0+IntKind.i64.wrap ((tb (x%256):Nat):Int))):=by kernel_rfl
def bH (x:Nat):Nat:=
 bif decide (65536≤x) then (bif decide (256≤x/65536) then 24+tb (x/65536/256%256) else 16+tb (x/65536%256)) else (bif decide (256≤x) then 8+tb (x/256%256) else tb (x%256))
theorem mD {n:Nat} (h:n≤8):IntKind.i64.wrap (n:Int)=(n:Int):=gS ⟨by omega,by omega⟩
theorem j7 (x:Nat) (hx:x<4294967296):Spec 185 [u32 x] (iV (bH x:Int))∧x<2^bH x∧bH x≤32:=by
 have p16:(2:Nat)^min 16 IntKind.u32.bits=65536:=rfl
 have p8:(2:Nat)^min 8 IntKind.u32.bits=256:=rfl
 by_cases h1:65536≤x
 ·by_cases h2:256≤x/65536
  ·have hl:bH x=24+tb (x/65536/256%256):=by simp only[bH,decide_eq_true h1,decide_eq_true h2,cond_true]
   have hr:=ZB x
   rw[p16,p8] at hr
   have hn:x/65536/256%256<256:=by omega
   obtain ⟨t1,t2⟩:=ug _ hn
   rw[mD t2] at hr
   refine ⟨?_,?_,by omega⟩
   ·rw[hl]
    exact af AW rfl hr ⟨decide_eq_true h1,decide_eq_true h2,by decide,by rw[ub];omega,by unfold br;omega,trivial⟩ rfl rfl
   ·rw[hl,Nat.pow_add];omega
  ·have hl:bH x=16+tb (x/65536%256):=by simp only[bH,decide_eq_true h1,decide_eq_false h2,cond_true,cond_false]
   have hr:=abm x
   rw[p16] at hr
   have hn:x/65536%256<256:=by omega
   obtain ⟨t1,t2⟩:=ug _ hn
   rw[mD t2] at hr
   refine ⟨?_,?_,by omega⟩
   ·rw[hl]
    exact af AW rfl hr ⟨decide_eq_true h1,decide_eq_false h2,by rw[ub];omega,by unfold br;omega,trivial⟩ rfl rfl
   ·rw[hl,Nat.pow_add];omega
 ·by_cases h2:256≤x
  ·have hl:bH x=8+tb (x/256%256):=by simp only[bH,decide_eq_false h1,decide_eq_true h2,cond_true,cond_false]
   have hr:=adW x
   rw[p8] at hr
   have hn:x/256%256<256:=by omega
   obtain ⟨t1,t2⟩:=ug _ hn
   rw[mD t2] at hr
   refine ⟨?_,?_,by omega⟩
   ·rw[hl]
    exact af AW rfl hr ⟨decide_eq_false h1,decide_eq_true h2,by decide,by rw[ub];omega,by unfold br;omega,trivial⟩ rfl rfl
   ·rw[hl,Nat.pow_add];omega
  ·have hl:bH x=tb (x%256):=by simp only[bH,decide_eq_false h1,decide_eq_false h2,cond_false]
   have hr:=abh x
   have hn:x%256<256:=by omega
   obtain ⟨t1,t2⟩:=ug _ hn
   rw[mD t2,Int.zero_add] at hr
   refine ⟨?_,?_,by omega⟩
   ·rw[hl]
    exact af AW rfl hr ⟨decide_eq_false h1,decide_eq_false h2,by rw[ub];omega,by unfold br;omega,trivial⟩ rfl rfl
   ·rw[hl];omega
noncomputable def qH:Env:={E0 with
 fn:=fun f vs=>match f with
  |185=>(match vs with|[.one (.u .u32 x)]=>some ([x<4294967296],iV (bH x:Int))|_=>none)
  |_=>none
 S:=fun f t=>match f with
  |127=>bf t [11,18]
  |129=>bf t [6,11,1000006]
  |_=>false}
theorem ff:EnvOK qH:=by
 refine ⟨mixed,?_,fun _ _ _ _ _ h=>by simp[qH,E0] at h,fun _ _ _ h=>by simp[qH,E0] at h,fun _ _ _ _ _ _ h=>by simp[qH,E0] at h⟩
 intro f vs ob r h ho
 simp only[qH] at h
 split at h
 ·split at h
  ·obtain ⟨rfl,rfl⟩:=sI h
   exact (j7 _ ho.1).1
  ·simp at h
 ·simp at h
def iB (a:Nat→Nat):Nat→Nat
 |0=>0
 |j+1=>match decide (a j=0) with|true=>iB a j|false=>32*j+bH (a j)
theorem zm {a:Nat→Nat} (ha:∀i,a i<4294967296):∀n,aW n 0 a<2^iB a n∧iB a n≤32*n
 |0=>by simp[aW,iB]
 |j+1=>by
  obtain ⟨h1,h2⟩:=zm ha j
  simp only[iB]
  rw[dQ,Nat.zero_add]
  split
  ·rename_i h;have:=of_decide_eq_true h;rw[this,Nat.mul_zero,Nat.add_zero];exact ⟨h1,by omega⟩
  ·obtain ⟨_,h3,h4⟩:=j7 (a j) (ha j)
   refine ⟨?_,by omega⟩
   have h5:=ip a j 0 (fun i _ _=>ha i)
   rw[Nat.pow_add,jb]
   have h6:4294967296^j*(a j+1)≤4294967296^j*2^bH (a j):=Nat.mul_le_mul_left _ h3
   rw[Nat.mul_succ] at h6
   omega
theorem UZ (a:Nat→Nat):al qH 1000 127 [C8 a] [false,false,false,false,false,false,false,true]=some ([(!decide (a 7=0))=false,(!decide (a 6=0))=false,(!decide (a 5=0))=false,(!decide (a 4=0))=false,(!decide (a 3=0))=false,(!decide (a 2=0))=false,(!decide (a 1=0))=false,(!decide (a 0=0))=true,a 0<4294967296,br (0+(bH (a 0):Int))],iV (0+(bH (a 0):Int))):=by kernel_rfl
theorem Ul (a:Nat→Nat):al qH 1000 127 [C8 a] [false,false,false,false,false,false,true]=some ([(!decide (a 7=0))=false,(!decide (a 6=0))=false,(!decide (a 5=0))=false,(!decide (a 4=0))=false,(!decide (a 3=0))=false,(!decide (a 2=0))=false,(!decide (a 1=0))=true,a 1<4294967296,br (32+(bH (a 1):Int))],iV (32+(bH (a 1):Int))):=by kernel_rfl
theorem VU (a:Nat→Nat):al qH 1000 127 [C8 a] [false,false,false,false,false,true]=some ([(!decide (a 7=0))=false,(!decide (a 6=0))=false,(!decide (a 5=0))=false,(!decide (a 4=0))=false,(!decide (a 3=0))=false,(!decide (a 2=0))=true,a 2<4294967296,br (64+(bH (a 2):Int))],iV (64+(bH (a 2):Int))):=by kernel_rfl
theorem Rm (a:Nat→Nat):al qH 1000 127 [C8 a] [false,false,false,false,true]=some ([(!decide (a 7=0))=false,(!decide (a 6=0))=false,(!decide (a 5=0))=false,(!decide (a 4=0))=false,(!decide (a 3=0))=true,a 3<4294967296,br (96+(bH (a 3):Int))],iV (96+(bH (a 3):Int))):=by kernel_rfl
theorem Ti (a:Nat→Nat):al qH 1000 127 [C8 a] [false,false,false,true]=some ([(!decide (a 7=0))=false,(!decide (a 6=0))=false,(!decide (a 5=0))=false,(!decide (a 4=0))=true,a 4<4294967296,br (128+(bH (a 4):Int))],iV (128+(bH (a 4):Int))):=by kernel_rfl
theorem Rg (a:Nat→Nat):al qH 1000 127 [C8 a] [false,false,true]=some ([(!decide (a 7=0))=false,(!decide (a 6=0))=false,(!decide (a 5=0))=true,a 5<4294967296,br (160+(bH (a 5):Int))],iV (160+(bH (a 5):Int))):=by kernel_rfl
theorem R2 (a:Nat→Nat):al qH 1000 127 [C8 a] [false,true]=some ([(!decide (a 7=0))=false,(!decide (a 6=0))=true,a 6<4294967296,br (192+(bH (a 6):Int))],iV (192+(bH (a 6):Int))):=by kernel_rfl
theorem SY (a:Nat→Nat):al qH 1000 127 [C8 a] [true]=some ([(!decide (a 7=0))=true,a 7<4294967296,br (224+(bH (a 7):Int))],iV (224+(bH (a 7):Int))):=by kernel_rfl
theorem US (a:Nat→Nat):al qH 1000 127 [C8 a] [false,false,false,false,false,false,false,false]=some ([(!decide (a 7=0))=false,(!decide (a 6=0))=false,(!decide (a 5=0))=false,(!decide (a 4=0))=false,(!decide (a 3=0))=false,(!decide (a 2=0))=false,(!decide (a 1=0))=false,(!decide (a 0=0))=false],iV 0):=by kernel_rfl
theorem OU (a:Nat→Nat) (ha:∀i,a i<4294967296):Spec 127 [C8 a] (iV (iB a 8:Int)):=by
 by_cases h7:a 7=0
 ·skip
  by_cases h6:a 6=0
  ·skip
   by_cases h5:a 5=0
   ·skip
    by_cases h4:a 4=0
    ·skip
     by_cases h3:a 3=0
     ·skip
      by_cases h2:a 2=0
      ·skip
       by_cases h1:a 1=0
       ·skip
        by_cases h0:a 0=0
        ·skip
         have e:iB a 8=0:=by simp[iB,h0,h1,h2,h3,h4,h5,h6,h7]
         rw[e]
         exact af ff rfl (US a) ⟨by simp[h7],by simp[h6],by simp[h5],by simp[h4],by simp[h3],by simp[h2],by simp[h1],by simp[h0],trivial⟩ rfl rfl
        ·have e:iB a 8=0+bH (a 0):=by simp[iB,h0,h1,h2,h3,h4,h5,h6,h7]
         have hl:=(j7 (a 0) (ha 0)).2.2
         have hr:=UZ a
         rw[e,show ((0+bH (a 0):Nat):Int)=0+(bH (a 0):Int) by omega]
         exact af ff rfl hr ⟨by simp[h7],by simp[h6],by simp[h5],by simp[h4],by simp[h3],by simp[h2],by simp[h1],by simp[h0],ha 0,by unfold br;omega,trivial⟩ rfl rfl
       ·have e:iB a 8=32+bH (a 1):=by simp[iB,h1,h2,h3,h4,h5,h6,h7]
        have hl:=(j7 (a 1) (ha 1)).2.2
        have hr:=Ul a
        rw[e,show ((32+bH (a 1):Nat):Int)=32+(bH (a 1):Int) by omega]
        exact af ff rfl hr ⟨by simp[h7],by simp[h6],by simp[h5],by simp[h4],by simp[h3],by simp[h2],by simp[h1],ha 1,by unfold br;omega,trivial⟩ rfl rfl
      ·have e:iB a 8=64+bH (a 2):=by simp[iB,h2,h3,h4,h5,h6,h7]
       have hl:=(j7 (a 2) (ha 2)).2.2
       have hr:=VU a
       rw[e,show ((64+bH (a 2):Nat):Int)=64+(bH (a 2):Int) by omega]
       exact af ff rfl hr ⟨by simp[h7],by simp[h6],by simp[h5],by simp[h4],by simp[h3],by simp[h2],ha 2,by unfold br;omega,trivial⟩ rfl rfl
     ·have e:iB a 8=96+bH (a 3):=by simp[iB,h3,h4,h5,h6,h7]
      have hl:=(j7 (a 3) (ha 3)).2.2
      have hr:=Rm a
      rw[e,show ((96+bH (a 3):Nat):Int)=96+(bH (a 3):Int) by omega]
      exact af ff rfl hr ⟨by simp[h7],by simp[h6],by simp[h5],by simp[h4],by simp[h3],ha 3,by unfold br;omega,trivial⟩ rfl rfl
    ·have e:iB a 8=128+bH (a 4):=by simp[iB,h4,h5,h6,h7]
     have hl:=(j7 (a 4) (ha 4)).2.2
     have hr:=Ti a
     rw[e,show ((128+bH (a 4):Nat):Int)=128+(bH (a 4):Int) by omega]
     exact af ff rfl hr ⟨by simp[h7],by simp[h6],by simp[h5],by simp[h4],ha 4,by unfold br;omega,trivial⟩ rfl rfl
   ·have e:iB a 8=160+bH (a 5):=by simp[iB,h5,h6,h7]
    have hl:=(j7 (a 5) (ha 5)).2.2
    have hr:=Rg a
    rw[e,show ((160+bH (a 5):Nat):Int)=160+(bH (a 5):Int) by omega]
    exact af ff rfl hr ⟨by simp[h7],by simp[h6],by simp[h5],ha 5,by unfold br;omega,trivial⟩ rfl rfl
  ·have e:iB a 8=192+bH (a 6):=by simp[iB,h6,h7]
   have hl:=(j7 (a 6) (ha 6)).2.2
   have hr:=R2 a
   rw[e,show ((192+bH (a 6):Nat):Int)=192+(bH (a 6):Int) by omega]
   exact af ff rfl hr ⟨by simp[h7],by simp[h6],ha 6,by unfold br;omega,trivial⟩ rfl rfl
 ·have e:iB a 8=224+bH (a 7):=by simp[iB,h7]
  have hl:=(j7 (a 7) (ha 7)).2.2
  have hr:=SY a
  rw[e,show ((224+bH (a 7):Nat):Int)=224+(bH (a 7):Int) by omega]
  exact af ff rfl hr ⟨by simp[h7],ha 7,by unfold br;omega,trivial⟩ rfl rfl
def dp (a:Nat):Nat:=iB (ak a) 8
theorem fU {a:Nat} (ha:a<4294967296^8):a<2^dp a∧dp a≤256:=by
 have:=zm (ba a) 8
 rw[ce a 8 ha] at this
 exact this
theorem Aw (a:Nat):Spec 127 [N8 a] (iV (dp a:Int)):=
 (OU (ak a) (ba a)).congr (fun φ=>by simp only[List.map_cons,List.map_nil,c8]) (fun _=>rfl)
theorem Vk (a:Nat→Nat) (i:Int):al qH 1000 129 [C8 a,.one (.i i)] [false]=some ([i.tdiv 32=((0:Nat):Int),(32:Int)≠0∧br (i.tdiv 32),0≤i.tmod 32],bV (decide (cn a 0 i=1))):=by kernel_rfl
theorem R4 (a:Nat→Nat) (i:Int):al qH 1000 129 [C8 a,.one (.i i)] [true,false]=some ([i.tdiv 32=((1:Nat):Int),(32:Int)≠0∧br (i.tdiv 32),0≤i.tmod 32],bV (decide (cn a 1 i=1))):=by kernel_rfl
theorem RR (a:Nat→Nat) (i:Int):al qH 1000 129 [C8 a,.one (.i i)] [true,true,false]=some ([i.tdiv 32=((2:Nat):Int),(32:Int)≠0∧br (i.tdiv 32),0≤i.tmod 32],bV (decide (cn a 2 i=1))):=by kernel_rfl
theorem Vm (a:Nat→Nat) (i:Int):al qH 1000 129 [C8 a,.one (.i i)] [true,true,true,false]=some ([i.tdiv 32=((3:Nat):Int),(32:Int)≠0∧br (i.tdiv 32),0≤i.tmod 32],bV (decide (cn a 3 i=1))):=by kernel_rfl
theorem Sz (a:Nat→Nat) (i:Int):al qH 1000 129 [C8 a,.one (.i i)] [true,true,true,true,false]=some ([i.tdiv 32=((4:Nat):Int),(32:Int)≠0∧br (i.tdiv 32),0≤i.tmod 32],bV (decide (cn a 4 i=1))):=by kernel_rfl
theorem U' (a:Nat→Nat) (i:Int):al qH 1000 129 [C8 a,.one (.i i)] [true,true,true,true,true,false]=some ([i.tdiv 32=((5:Nat):Int),(32:Int)≠0∧br (i.tdiv 32),0≤i.tmod 32],bV (decide (cn a 5 i=1))):=by kernel_rfl
theorem U0 (a:Nat→Nat) (i:Int):al qH 1000 129 [C8 a,.one (.i i)] [true,true,true,true,true,true,false]=some ([i.tdiv 32=((6:Nat):Int),(32:Int)≠0∧br (i.tdiv 32),0≤i.tmod 32],bV (decide (cn a 6 i=1))):=by kernel_rfl
theorem P4 (a:Nat→Nat) (i:Int):al qH 1000 129 [C8 a,.one (.i i)] [true,true,true,true,true,true,true,false]=some ([i.tdiv 32=((7:Nat):Int),(32:Int)≠0∧br (i.tdiv 32),0≤i.tmod 32],bV (decide (cn a 7 i=1))):=by kernel_rfl
def eY (a i:Nat):Bool:=decide (dw a i=1)
theorem MU (a i:Nat) (hi:i<256):Spec 129 [N8 a,.one (.i (i:Int))] (bV (eY a i)):=by
 have hb:cn (ak a) (i/32) (i:Int)=dw a i:=by
  have:=uL a (i/32) (i%32) (by omega)
  rwa[Nat.div_add_mod] at this
 have h1:((i:Nat):Int).tdiv 32=((i/32:Nat):Int):=rG i
 have h2:(32:Int)≠0∧br (((i:Nat):Int).tdiv 32):=⟨by decide,by rw[h1];unfold br;omega⟩
 have h3:0≤((i:Nat):Int).tmod 32:=by rw[oD];omega
 have h:Spec 129 [C8 (ak a),.one (.i (i:Int))] (bV (decide (cn (ak a) (i/32) (i:Int)=1))):=by
  have hj:i/32<8:=by omega
  revert h1
  generalize i/32=j at hj
  intro h1
  match j,hj with
  |0,_=>exact af ff rfl (Vk (ak a) i) ⟨h1,h2,h3,trivial⟩ rfl rfl
  |1,_=>exact af ff rfl (R4 (ak a) i) ⟨h1,h2,h3,trivial⟩ rfl rfl
  |2,_=>exact af ff rfl (RR (ak a) i) ⟨h1,h2,h3,trivial⟩ rfl rfl
  |3,_=>exact af ff rfl (Vm (ak a) i) ⟨h1,h2,h3,trivial⟩ rfl rfl
  |4,_=>exact af ff rfl (Sz (ak a) i) ⟨h1,h2,h3,trivial⟩ rfl rfl
  |5,_=>exact af ff rfl (U' (ak a) i) ⟨h1,h2,h3,trivial⟩ rfl rfl
  |6,_=>exact af ff rfl (U0 (ak a) i) ⟨h1,h2,h3,trivial⟩ rfl rfl
  |7,_=>exact af ff rfl (P4 (ak a) i) ⟨h1,h2,h3,trivial⟩ rfl rfl
  |n+8,h=>exact absurd h (by omega)
 rw[hb] at h
 exact h.congr (fun φ=>by simp only[List.map_cons,List.map_nil,c8]) (fun _=>rfl)
def T72 (q:Nat) (b w:Nat→Nat) (i c k:Nat):Nat:=(c+(q*(b k%18446744073709551616)%18446744073709551616+w (i+k)%18446744073709551616)%18446744073709551616)%18446744073709551616
def LK (w m:Nat→Nat) (f i:Nat):Nat→Nat→Nat:=T72 (w i*f%4294967296%18446744073709551616) m w i
def rdE (w m:Nat→Nat) (f i o:Nat):Nat:=(dF (LK w m f i) 8+(w (i+8)%18446744073709551616+o)%18446744073709551616)%18446744073709551616
def t7 (w m:Nat→Nat) (f i o j:Nat):Nat:=
 match Nat.blt j i with
 |true=>w j
 |false=>match Nat.blt j (i+8) with
  |true=>LK w m f i (dF (LK w m f i) (j-i)) (j-i)%4294967296
  |false=>match Nat.beq j (i+8) with
   |true=>rdE w m f i o%4294967296
   |false=>w j
def xz (w m:Nat→Nat) (f i o:Nat):Nat:=rdE w m f i o/4294967296
def GI (n:Nat):AV:= .val (.one (.u .u64 n))
def TR (f o:Nat) (i:Int):List AV:=bt 90 [(2,.val (u32 f)),(3,pV 0),(4,pV 1),(6,pV 2),(7,GI o),(17,iV i)]
theorem tTR (f o:Nat) (i:Int):cw 3 (TR f o i)=true:=by kernel_rfl
theorem xK (w m:Nat→Nat) (f o:Nat) (i:Int):dl (TR f o i) [bW w,bN m,z8]=true:=cc (by simp[iy,jN,z8]) (tTR f o i)
theorem RX (w m:Nat→Nat) (f o:Nat):aH E0 1000 (E0.S 140) (ah Tryz.prog 140 3) (TR f o ((0:Nat):Int)) [bW w,bN m,z8] [] (TR f (xz w m f 0 o) ((0+1:Nat):Int)) 3=
  some ([],.normal,TR f (xz w m f 0 o) ((0+1:Nat):Int),[bW (t7 w m f 0 o),bN m,z8]):=by kernel_rfl
theorem Qj (w m:Nat→Nat) (f o:Nat):aH E0 1000 (E0.S 140) (ah Tryz.prog 140 3) (TR f o ((1:Nat):Int)) [bW w,bN m,z8] [] (TR f (xz w m f 1 o) ((1+1:Nat):Int)) 3=
  some ([],.normal,TR f (xz w m f 1 o) ((1+1:Nat):Int),[bW (t7 w m f 1 o),bN m,z8]):=by kernel_rfl
theorem Qk (w m:Nat→Nat) (f o:Nat):aH E0 1000 (E0.S 140) (ah Tryz.prog 140 3) (TR f o ((2:Nat):Int)) [bW w,bN m,z8] [] (TR f (xz w m f 2 o) ((2+1:Nat):Int)) 3=
  some ([],.normal,TR f (xz w m f 2 o) ((2+1:Nat):Int),[bW (t7 w m f 2 o),bN m,z8]):=by kernel_rfl
theorem Sm (w m:Nat→Nat) (f o:Nat):aH E0 1000 (E0.S 140) (ah Tryz.prog 140 3) (TR f o ((3:Nat):Int)) [bW w,bN m,z8] [] (TR f (xz w m f 3 o) ((3+1:Nat):Int)) 3=
  some ([],.normal,TR f (xz w m f 3 o) ((3+1:Nat):Int),[bW (t7 w m f 3 o),bN m,z8]):=by kernel_rfl
theorem Th (w m:Nat→Nat) (f o:Nat):aH E0 1000 (E0.S 140) (ah Tryz.prog 140 3) (TR f o ((4:Nat):Int)) [bW w,bN m,z8] [] (TR f (xz w m f 4 o) ((4+1:Nat):Int)) 3=
  some ([],.normal,TR f (xz w m f 4 o) ((4+1:Nat):Int),[bW (t7 w m f 4 o),bN m,z8]):=by kernel_rfl
theorem SV (w m:Nat→Nat) (f o:Nat):aH E0 1000 (E0.S 140) (ah Tryz.prog 140 3) (TR f o ((5:Nat):Int)) [bW w,bN m,z8] [] (TR f (xz w m f 5 o) ((5+1:Nat):Int)) 3=
  some ([],.normal,TR f (xz w m f 5 o) ((5+1:Nat):Int),[bW (t7 w m f 5 o),bN m,z8]):=by kernel_rfl
theorem R9 (w m:Nat→Nat) (f o:Nat):aH E0 1000 (E0.S 140) (ah Tryz.prog 140 3) (TR f o ((6:Nat):Int)) [bW w,bN m,z8] [] (TR f (xz w m f 6 o) ((6+1:Nat):Int)) 3=
  some ([],.normal,TR f (xz w m f 6 o) ((6+1:Nat):Int),[bW (t7 w m f 6 o),bN m,z8]):=by kernel_rfl
theorem Tm (w m:Nat→Nat) (f o:Nat):aH E0 1000 (E0.S 140) (ah Tryz.prog 140 3) (TR f o ((7:Nat):Int)) [bW w,bN m,z8] [] (TR f (xz w m f 7 o) ((7+1:Nat):Int)) 3=
  some ([],.normal,TR f (xz w m f 7 o) ((7+1:Nat):Int),[bW (t7 w m f 7 o),bN m,z8]):=by kernel_rfl
theorem QK (w m:Nat→Nat) (f o:Nat):aH E0 1000 (E0.S 140) (ah Tryz.prog 140 3) (TR f o ((8:Nat):Int)) [bW w,bN m,z8] [] (TR f o ((8:Nat):Int)) 3=
  some ([],.exit 0,TR f o ((8:Nat):Int),[bW w,bN m,z8]):=by kernel_rfl
structure RS where
 w:Nat→Nat
 o:Nat
def jc (w m:Nat→Nat) (f:Nat):Nat→RS
 |0=>⟨w,0⟩
 |i+1=>⟨t7 (jc w m f i).w m f i (jc w m f i).o,xz (jc w m f i).w m f i (jc w m f i).o⟩
theorem adY (w m:Nat→Nat) (f:Nat):Goes Tryz.prog (.loop (ah Tryz.prog 140 3)) (.exit 0) (TR f 0 ((0:Nat):Int)) [bW w,bN m,z8] (TR f (jc w m f 8).o ((8:Nat):Int)) [bW (jc w m f 8).w,bN m,z8]:=by
 refine bJ (N:=8) (k:=3) (T:=fun k=>TR f (jc w m f k).o (k:Int)) (M:=fun k=>[bW (jc w m f k).w,bN m,z8]) (by simp) (fun _ _=>rfl) (fun k hk=> ?_) ?_
 ·have:Runs E0 1000 (E0.S 140) (ah Tryz.prog 140 3) .normal (TR f (jc w m f k).o (k:Int)) [bW (jc w m f k).w,bN m,z8] (TR f (xz (jc w m f k).w m f k (jc w m f k).o) ((k+1:Nat):Int)) [bW (t7 (jc w m f k).w m f k (jc w m f k).o),bN m,z8]:=by
   match k,hk with
   |0,_=>exact ⟨[],_,RX _ m f _,trivial,xK _ _ _ _ _⟩
   |1,_=>exact ⟨[],_,Qj _ m f _,trivial,xK _ _ _ _ _⟩
   |2,_=>exact ⟨[],_,Qk _ m f _,trivial,xK _ _ _ _ _⟩
   |3,_=>exact ⟨[],_,Sm _ m f _,trivial,xK _ _ _ _ _⟩
   |4,_=>exact ⟨[],_,Th _ m f _,trivial,xK _ _ _ _ _⟩
   |5,_=>exact ⟨[],_,SV _ m f _,trivial,xK _ _ _ _ _⟩
   |6,_=>exact ⟨[],_,R9 _ m f _,trivial,xK _ _ _ _ _⟩
   |7,_=>exact ⟨[],_,Tm _ m f _,trivial,xK _ _ _ _ _⟩
  exact this.goes envE0
 ·exact Runs.goes envE0 ⟨[],_,QK _ m f _,trivial,xK _ _ _ _ _⟩
theorem GV {w m:Nat→Nat} {f i:Nat} (hw:∀k,w k<4294967296) (hm:∀k,m k<4294967296) (c k:Nat) (hc:c<4294967296):LK w m f i c k=c+(w i*f%4294967296)*m k+w (i+k):=by
 have hq:w i*f%4294967296<4294967296:=Nat.mod_lt _ (by decide)
 have h:=(Ox hq (hm k) (hw (i+k)) hc).1
 rw[←h]
 unfold LK T72
 rfl
theorem acB {w m:Nat→Nat} {f i:Nat} (hw:∀k,w k<4294967296) (hm:∀k,m k<4294967296) (k:Nat):dF (LK w m f i) k<4294967296:=
 qF (x:=w i*f%4294967296) (Nat.mod_lt _ (by decide)) hm hw (fun c k hc=>GV hw hm c k hc) k
theorem O9 {w m:Nat→Nat} {f i o:Nat} (hw:∀k,w k<4294967296) (hm:∀k,m k<4294967296) (ho:o≤1):rdE w m f i o=dF (LK w m f i) 8+w (i+8)+o∧xz w m f i o≤1:=by
 have h1:=acB (f:=f) (i:=i) hw hm 8
 have h2:=hw (i+8)
 unfold xz rdE
 generalize dF (LK w m f i) 8=c at*
 omega
theorem acj {w m:Nat→Nat} {f i o:Nat} (hw:∀k,w k<4294967296) (j:Nat):t7 w m f i o j<4294967296:=by
 unfold t7
 split
 ·exact hw j
 ·split
  ·exact Nat.mod_lt _ (by decide)
  ·split
   ·exact Nat.mod_lt _ (by decide)
   ·exact hw j
theorem aaK {u w b d:Nat→Nat} {x c e o i:Nat} (n:Nat) (h1:∀j,j<i→u j=w j) (h2:∀k,k<n→u (k+i)=d k) (h3:u (i+n)=e%4294967296) (he:e=c+w (i+n)+o)
  (hs:aW n 0 d+4294967296^n*c=x*aW n 0 b+aW n i w):aW (i+(n+1)) 0 u+4294967296^(i+(n+1))*(e/4294967296)=aW (i+(n+1)) 0 w+4294967296^(i+n)*o+4294967296^i*(x*aW n 0 b):=by
 have e1:aW i 0 u=aW i 0 w:=cv i 0 (fun j _ hj=>h1 j (by omega))
 have e2:aW n i u=aW n 0 d:=by
  have:=f7 u i n 0
  rw[Nat.zero_add] at this
  rw[←this]
  exact cv n 0 (fun k _ hk=>h2 k (by omega))
 rw[dG u i (n+1) 0,dG w i (n+1) 0,Nat.zero_add,dQ,dQ,e1,e2,h3]
 have e3:4294967296^n*(e%4294967296)+4294967296^n*(4294967296*(e/4294967296))=4294967296^n*c+4294967296^n*w (i+n)+4294967296^n*o:=by
  rw[←Nat.mul_add,Nat.mod_add_div,he,Nat.mul_add,Nat.mul_add]
 have e4:aW n 0 d+4294967296^n*(e%4294967296)+4294967296^n*(4294967296*(e/4294967296))=x*aW n 0 b+aW n i w+4294967296^n*w (i+n)+4294967296^n*o:=by omega
 have e5:=congrArg (4294967296^i* ·) e4
 simp only[Nat.mul_add] at e5
 rw[show i+(n+1)=i+n+1 by omega,Nat.pow_succ,Nat.pow_add,Nat.mul_assoc,Nat.mul_assoc,Nat.mul_assoc,Nat.mul_add,Nat.mul_add]
 omega
theorem X4 {w m:Nat→Nat} {f i o:Nat} (hw:∀k,w k<4294967296) (hm:∀k,m k<4294967296) (ho:o≤1):
  aW (i+(8+1)) 0 (t7 w m f i o)+4294967296^(i+(8+1))*xz w m f i o=aW (i+(8+1)) 0 w+4294967296^(i+8)*o+4294967296^i*((w i*f%4294967296)*aW 8 0 m):=by
 have hT:=fun c k hc=>GV (f:=f) (i:=i) hw hm c k hc
 refine aaK (d:=fun k=>LK w m f i (dF (LK w m f i) k) k%4294967296) (c:=dF (LK w m f i) 8) 8 ?_ ?_ ?_ (O9 hw hm ho).1 (xa (Nat.mod_lt _ (by decide)) hm hw hT 8)
 ·intro j hj
  unfold t7
  rw[j9 hj]
 ·intro k hk
  unfold t7
  rw[kh (show ¬k+i<i by omega),j9 (show k+i<i+8 by omega),Nat.add_sub_cancel]
 ·unfold t7
  rw[kh (show ¬i+8<i by omega),kh (show ¬i+8<i+8 by omega),show Nat.beq (i+8) (i+8)=true from Nat.beq_refl _]
theorem Yh {w m:Nat→Nat} {f i o j:Nat} (h:i+8<j):t7 w m f i o j=w j:=by
 unfold t7
 rw[kh (show ¬j<i by omega),kh (show ¬j<i+8 by omega),show Nat.beq j (i+8)=false from by rw[Bool.eq_false_iff];intro h';have:=Nat.eq_of_beq_eq_true h';omega]
theorem aby {w m:Nat→Nat} {f i o j:Nat} (h:j<i):t7 w m f i o j=w j:=by
 unfold t7
 rw[j9 h]
theorem abk {w m:Nat→Nat} {f i o:Nat} (hw:∀k,w k<4294967296) (hm:∀k,m k<4294967296) (hf:(m 0*f+1)%4294967296=0):t7 w m f i o i=0:=by
 unfold t7
 rw[kh (show ¬i<i by omega),j9 (show i<i+8 by omega),Nat.sub_self]
 simp only
 rw[GV hw hm _ _ (by simp[dF])]
 simp only[dF,Nat.zero_add,Nat.add_zero]
 have h1:(w i*f%4294967296*m 0+w i)%4294967296=(w i*(m 0*f+1))%4294967296:=by
  rw[Nat.add_mod,Nat.mod_mul_mod,←Nat.add_mod,Nat.mul_add,Nat.mul_one,Nat.mul_assoc,Nat.mul_comm f (m 0)]
 rw[h1,Nat.mul_mod,hf,Nat.mul_zero,Nat.zero_mod]
theorem Em {w m:Nat→Nat} {f:Nat} (hw:∀k,w k<4294967296) (hm:∀k,m k<4294967296) (hf:(m 0*f+1)%4294967296=0):∀i,i≤8→
  (∀k,(jc w m f i).w k<4294967296)∧(jc w m f i).o≤1∧(∀j,j<i→(jc w m f i).w j=0)∧
  ∃Q,Q<4294967296^i∧aW 16 0 (jc w m f i).w+4294967296^(i+8)*(jc w m f i).o=aW 16 0 w+Q*aW 8 0 m
 |0,_=>⟨hw,by simp[jc],fun j hj=>by omega,0,by simp,by simp[jc]⟩
 |i+1,hi=>by
  obtain ⟨h1,h2,h3,Q,h4,h5⟩:=Em hw hm hf i (by omega)
  have e:jc w m f (i+1)=⟨t7 (jc w m f i).w m f i (jc w m f i).o,xz (jc w m f i).w m f i (jc w m f i).o⟩:=rfl
  rw[e]
  generalize (jc w m f i).w=u at*
  generalize (jc w m f i).o=p at*
  refine ⟨fun k=>acj h1 k,(O9 h1 hm h2).2,?_,Q+4294967296^i*(u i*f%4294967296),?_,?_⟩
  ·intro j hj
   simp only
   by_cases hji:j=i
   ·subst hji;exact abk h1 hm hf
   ·rw[aby (by omega)];exact h3 j (by omega)
  ·have:u i*f%4294967296<4294967296:=Nat.mod_lt _ (by decide)
   have h6:4294967296^i*(u i*f%4294967296+1)≤4294967296^i*4294967296:=Nat.mul_le_mul_left _ this
   rw[Nat.mul_succ] at h6
   rw[Nat.pow_succ]
   omega
  ·simp only
   have hr:=X4 (f:=f) (i:=i) h1 hm h2
   have s1:=dG (t7 u m f i p) (i+(8+1)) (7-i) 0
   have s2:=dG u (i+(8+1)) (7-i) 0
   rw[show i+(8+1)+(7-i)=16 by omega,Nat.zero_add] at s1 s2
   have s3:aW (7-i) (i+(8+1)) (t7 u m f i p)=aW (7-i) (i+(8+1)) u:=cv _ _ (fun j hj _=>Yh (by omega))
   rw[s3] at s1
   rw[Nat.add_mul,Nat.mul_assoc,show i+1+8=i+(8+1) by omega]
   generalize 4294967296^(i+(8+1))*aW (7-i) (i+(8+1)) u=X at*
   omega
theorem yS {V m f:Nat} (hV:V<4294967296^16) (hm:m<4294967296^8) (hf:(ak m 0*f+1)%4294967296=0):
  (∀k,mM (jc (ak V) (ak m) f 8).w k<4294967296)∧(jc (ak V) (ak m) f 8).o≤1∧
  ∃Q,Q<4294967296^8∧4294967296^8*(aW 8 0 (mM (jc (ak V) (ak m) f 8).w)+4294967296^8*(jc (ak V) (ak m) f 8).o)=V+Q*m:=by
 obtain ⟨h1,h2,h3,Q,h4,h5⟩:=Em (ba V) (ba m) hf 8 (Nat.le_refl _)
 generalize (jc (ak V) (ak m) f 8).w=u at*
 generalize (jc (ak V) (ak m) f 8).o=p at*
 refine ⟨fun k=>h1 (k+8),h2,Q,h4,?_⟩
 have s:=dG u 8 8 0
 have z:aW 8 0 u=0:=by
  rw[cv (v:=fun _=>0) 8 0 (fun j _ hj=>h3 j (by omega)),oo]
 have hh:aW 8 0 (mM u)=aW 8 8 u:=by
  have:=f7 u 8 8 0
  exact this
 rw[Nat.zero_add,z,Nat.zero_add,←hh] at s
 rw[show 8+8=16 from rfl] at s
 rw[ce V 16 hV,ce m 8 hm,s,show 8+8=8+8 from rfl,Nat.pow_add,Nat.mul_assoc,←Nat.mul_add] at h5
 exact h5
def Cg (m a b:Nat):Prop:=a%m=b%m
theorem Cg.refl (m a:Nat):Cg m a a:=rfl
theorem Cg.symm {m a b:Nat} (h:Cg m a b):Cg m b a:=Eq.symm h
theorem Cg.trans {m a b c:Nat} (h:Cg m a b) (h':Cg m b c):Cg m a c:=Eq.trans h h'
theorem Cg.mul {m a b c d:Nat} (h:Cg m a b) (h':Cg m c d):Cg m (a*c) (b*d):=by
 unfold Cg at*
 rw[Nat.mul_mod,h,h',←Nat.mul_mod]
theorem Cg.mod (m a:Nat):Cg m (a%m) a:=Nat.mod_mod _ _
theorem Cg.of_eq {m a b:Nat} (h:a=b):Cg m a b:=by rw[h];exact Cg.refl _ _
open Classical in
noncomputable def gG (m:Nat):Nat:=if h:∃r,Cg m (4294967296^8*r) 1 then Classical.choose h else 0
def bc (m f:Nat):Prop:=(ak m 0*f+1)%4294967296=0
theorem jP {m f:Nat} (hR:m<4294967296^8) (hf:bc m f):Cg m (4294967296^8*gG m) 1:=by
 have h:∃r,Cg m (4294967296^8*r) 1:=by
  obtain ⟨_,_,Q,_,h⟩:=yS (V:=1) (by decide) hR hf
  refine ⟨aW 8 0 (mM (jc (ak 1) (ak m) f 8).w)+4294967296^8*(jc (ak 1) (ak m) f 8).o,?_⟩
  unfold Cg
  rw[h,Nat.add_mul_mod_self_right]
 unfold gG
 rw[dif_pos h]
 exact Classical.choose_spec h
noncomputable def fj (V m:Nat):Nat:=V*gG m%m
theorem ua {V m f r:Nat} (hR:m<4294967296^8) (hf:bc m f) (hr:r<m) (h:Cg m (4294967296^8*r) V):r=fj V m:=by
 have h1:=(h.mul (Cg.refl m (gG m))).symm
 have h2:Cg m (4294967296^8*r*gG m) (r*1):=by
  refine Cg.trans (Cg.of_eq ?_) ((Cg.refl m r).mul (jP hR hf))
  rw[Nat.mul_comm (4294967296^8) r,Nat.mul_assoc]
 have h3:=h1.trans h2
 unfold fj
 rw[show V*gG m%m=r*1%m from h3,Nat.mul_one,Nat.mod_eq_of_lt hr]
noncomputable def WY (w m:Nat→Nat) (f:Nat):Env:={E0 with
 fn:=fun g vs=>match g with
  |141=>mT qQ vs
  |145=>Kj vs
  |_=>none
 S:=fun g t=>match g with
  |140=>bf t [84,87]
  |_=>false
 lp:=fun j=>match Nat.beq j 3 with
  |true=>some (ah Tryz.prog 140 3,fo (TR f 0 ((0:Nat):Int)) [bW w,bN m,z8] (TR f (jc w m f 8).o ((8:Nat):Int)) [bW (jc w m f 8).w,bN m,z8] (.exit 0))
  |false=>none}
theorem Hi (w m:Nat→Nat) (f:Nat):EnvOK (WY w m f):=by
 refine ⟨mixed,?_,fun _ _ _ _ _ h=>by simp[WY,E0] at h,?_,fun _ _ _ _ _ _ h=>by simp[WY,E0] at h⟩
 ·intro g vs ob r h ho
  simp only[WY] at h
  split at h
  ·exact de wO h ho
  ·exact up h ho
  ·simp at h
 ·intro j y f' h
  simp only[WY] at h
  split at h
  ·obtain ⟨rfl,rfl⟩:=sI h
   exact bz rfl (adY w m f)
  ·simp at h
def obL (w m:Nat→Nat) (f:Nat):List Prop:=[ah Tryz.prog 140 3=ah Tryz.prog 140 3,(TR f 0 ((0:Nat):Int),[bW w,bN m,z8])=(TR f 0 ((0:Nat):Int),[bW w,bN m,z8]),dl (TR f 0 ((0:Nat):Int)) [bW w,bN m,z8]=true]
def AA (u:Nat→Nat):List Prop:=[u 0<4294967296,u 1<4294967296,u 2<4294967296,u 3<4294967296,u 4<4294967296,u 5<4294967296,u 6<4294967296,u 7<4294967296]
theorem AQ {u:Nat→Nat} (h:∀k,u k<4294967296):cL (AA u):=⟨h 0,h 1,h 2,h 3,h 4,h 5,h 6,h 7,trivial⟩
def E6 (w m:Nat→Nat) (f:Nat):Nat:=aW 8 0 (mM (jc w m f 8).w)
def E' (m:Nat→Nat):Nat:=aW 8 0 m
theorem ach (w m:Nat→Nat) (f:Nat):al (WY w m f) 1000 140 [m5 w,C8 m,u32 f] [true]=some (obL w m f++(AA (mM (jc w m f 8).w)++(AA m++(decide ((jc w m f 8).o=1)=true)::(AA (mM (jc w m f 8).w)++[bh (E6 w m f) (E' m)<4294967296^8]))),.val (N8 (bh (E6 w m f) (E' m)))):=by kernel_rfl
theorem XO (w m:Nat→Nat) (f:Nat):al (WY w m f) 1000 140 [m5 w,C8 m,u32 f] [false,true]=some (obL w m f++(AA (mM (jc w m f 8).w)++(AA m++(decide ((jc w m f 8).o=1)=false)::(decide (gw (E6 w m f) (E' m)=0)=true)::(AA (mM (jc w m f 8).w)++[bh (E6 w m f) (E' m)<4294967296^8]))),.val (N8 (bh (E6 w m f) (E' m)))):=by kernel_rfl
theorem abt (w m:Nat→Nat) (f:Nat):al (WY w m f) 1000 140 [m5 w,C8 m,u32 f] [false,false]=some (obL w m f++(AA (mM (jc w m f 8).w)++(AA m++(decide ((jc w m f 8).o=1)=false)::(decide (gw (E6 w m f) (E' m)=0)=false)::(AA (mM (jc w m f 8).w)++[bh (E6 w m f) (E' m)<4294967296^8]))),.val (N8 (E6 w m f))):=by kernel_rfl
theorem Yy (w m:Nat→Nat) (f:Nat):cL (obL w m f):=⟨rfl,rfl,xK _ _ _ _ _,trivial⟩
theorem zw (V m f:Nat) (hV:V<4294967296^16) (hR:m<4294967296^8) (hm:0<m) (hf:bc m f) (hVm:V<m*4294967296^8):Spec 140 [mO V,N8 m,u32 f] (.val (N8 (fj V m))):=by
 obtain ⟨h1,h2,Q,h3,h4⟩:=yS hV hR hf
 have hM:E' (ak m)=m:=ce m 8 hR
 have hH:E6 (ak V) (ak m) f<4294967296^8:=ip _ 8 0 (fun i _ _=>h1 i)
 have hob:=Yy (ak V) (ak m) f
 have hl1:=AQ h1
 have hl2:=AQ (ba m)
 have hS:=cJ (E6 (ak V) (ak m) f) (E' (ak m))
 have hQm:Q*m≤4294967296^8*m:=Nat.mul_le_mul_right _ (Nat.le_of_lt h3)
 rw[show aW 8 0 (mM (jc (ak V) (ak m) f 8).w)=E6 (ak V) (ak m) f from rfl] at h4
 have ht:E6 (ak V) (ak m) f+4294967296^8*(jc (ak V) (ak m) f 8).o<2*m:=by
  rw[Nat.mul_comm m] at hVm
  omega
 have hcg:Cg m (4294967296^8*(E6 (ak V) (ak m) f+4294967296^8*(jc (ak V) (ak m) f 8).o)) V:=by
  unfold Cg;rw[h4,Nat.add_mul_mod_self_right]
 have conv:∀r,Spec 140 [m5 (ak V),C8 (ak m),u32 f] (.val (N8 r))→r=fj V m→Spec 140 [mO V,N8 m,u32 f] (.val (N8 (fj V m))):=by
  intro r hr e
  rw[←e]
  exact hr.congr (fun φ=>by simp only[List.map_cons,List.map_nil,c8,qN]) (fun _=>rfl)
 have sub:∀t,t<2*m→m≤t→Cg m (4294967296^8*t) V→t-m=fj V m:=by
  intro t ht hmt hc
  refine ua hR hf (by omega) (Cg.trans ?_ hc)
  unfold Cg
  rw[show t=(t-m)+m by omega,Nat.mul_add,Nat.add_sub_cancel,Nat.add_mul_mod_self_right]
 by_cases hk:(jc (ak V) (ak m) f 8).o=1
 ·refine conv _ (af (Hi _ _ _) rfl (ach _ _ _) ?_ rfl rfl) ?_
  ·simp only[aY,cL]
   exact ⟨hob,hl1,hl2,decide_eq_true hk,hl1,hS,trivial⟩
  ·rw[←sub _ ht (by rw[hk];omega) hcg,hM,hk]
   unfold bh
   omega
 ·have hk0:(jc (ak V) (ak m) f 8).o=0:=by omega
  rw[hk0,Nat.mul_zero,Nat.add_zero] at ht hcg
  by_cases hc:E6 (ak V) (ak m) f<m
  ·have hK:¬gw (E6 (ak V) (ak m) f) (E' (ak m))=0:=by rw[hM];unfold gw;rw[if_pos hc];omega
   refine conv _ (af (Hi _ _ _) rfl (abt _ _ _) ?_ rfl rfl) ?_
   ·simp only[aY,cL]
    exact ⟨hob,hl1,hl2,decide_eq_false hk,decide_eq_false hK,hl1,hS,trivial⟩
   ·exact ua hR hf hc hcg
  ·have hK:gw (E6 (ak V) (ak m) f) (E' (ak m))=0:=by rw[hM];unfold gw;rw[if_neg hc]
   refine conv _ (af (Hi _ _ _) rfl (XO _ _ _) ?_ rfl rfl) ?_
   ·simp only[aY,cL]
    exact ⟨hob,hl1,hl2,decide_eq_false hk,decide_eq_true hK,hl1,hS,trivial⟩
   ·rw[←sub _ ht (by omega) hcg,hM]
    unfold bh
    omega
noncomputable def UF (vs:List V1):Option (List Prop×AV):=
 match vs with
 |[x,y,.one (.u .u32 f)]=>match el 16 x,el 8 y with
  |some (o,V),some (o',m)=>some ((0<m)::bc m f::(V<m*4294967296^8)::(o++o'),.val (N8 (fj V m)))
  |_,_=>none
 |_=>none
theorem IR {vs:List V1} {ob:List Prop} {r:AV} (h:UF vs=some (ob,r)) (ho:cL ob):Spec 140 vs r:=by
 unfold UF at h
 split at h
 ·rename_i x y f
  split at h
  ·rename_i o V o' m hx hy
   obtain ⟨rfl,rfl⟩:=sI h
   obtain ⟨g1,g2,g3,g4⟩:=ho
   rw[aY] at g4
   obtain ⟨h1,h2⟩:=aX hx g4.1
   obtain ⟨h3,h4⟩:=aX hy g4.2
   exact (zw V m f h1 h3 g1 g2 g3).congr (fun φ=>by simp only[List.map_cons,List.map_nil];rw[←h2 φ,←h4 φ];rfl) (fun _=>rfl)
  ·simp at h
 ·simp at h
noncomputable def ap (m a b:Nat):Nat:=fj (oM a b) m
noncomputable def ci (m a:Nat):Nat:=fj (co a 0) m
def aq (m a:Nat):Nat:=dY (co 0 a) m
def O2 (f:FuncId) (g:Nat→Nat→Nat→Nat):Prop:=∀m q a b,m<4294967296^8→a<m→b<m→bc m q→Spec f [xx m q,N8 a,N8 b] (.val (N8 (g m a b)))
def Sj (g:Nat→Nat→Nat→Nat) (vs:List V1):Option (List Prop×AV):=
 match vs with
 |[.agg [.num 8 m,.a (.u .u32 q)],x,y]=>match el 8 x,el 8 y with
  |some (o,a),some (o',b)=>some ((m<4294967296^8)::(a<m)::(b<m)::bc m q::(o++o'),.val (N8 (g m a b)))
  |_,_=>none
 |_=>none
theorem IY {f:FuncId} {g:Nat→Nat→Nat→Nat} (hg:O2 f g) {vs:List V1} {ob:List Prop} {r:AV} (h:Sj g vs=some (ob,r)) (ho:cL ob):Spec f vs r:=by
 unfold Sj at h
 split at h
 ·rename_i m q x y
  split at h
  ·rename_i o a o' b hx hy
   obtain ⟨rfl,rfl⟩:=sI h
   obtain ⟨h0,h1,h2,hq,h3⟩:=ho
   rw[aY] at h3
   obtain ⟨_,h4⟩:=aX hx h3.1
   obtain ⟨_,h5⟩:=aX hy h3.2
   exact (hg m q a b h0 h1 h2 hq).congr (fun φ=>by simp only[List.map_cons,List.map_nil];rw[←h4 φ,←h5 φ];rfl) (fun _=>rfl)
  ·simp at h
 ·simp at h
def No (f:FuncId) (g:Nat→Nat→Nat→Nat):Prop:=∀m q a b,m<4294967296^8→a<m→b<4294967296^8→bc m q→Spec f [xx m q,N8 a,N8 b] (.val (N8 (g m a b)))
def V6 (g:Nat→Nat→Nat→Nat) (vs:List V1):Option (List Prop×AV):=
 match vs with
 |[.agg [.num 8 m,.a (.u .u32 q)],x,y]=>match el 8 x,el 8 y with
  |some (o,a),some (o',b)=>some ((m<4294967296^8)::(a<m)::bc m q::(o++o'),.val (N8 (g m a b)))
  |_,_=>none
 |_=>none
theorem IH {f:FuncId} {g:Nat→Nat→Nat→Nat} (hg:No f g) {vs:List V1} {ob:List Prop} {r:AV} (h:V6 g vs=some (ob,r)) (ho:cL ob):Spec f vs r:=by
 unfold V6 at h
 split at h
 ·rename_i m q x y
  split at h
  ·rename_i o a o' b hx hy
   obtain ⟨rfl,rfl⟩:=sI h
   obtain ⟨h0,h1,hq,h3⟩:=ho
   rw[aY] at h3
   obtain ⟨_,h4⟩:=aX hx h3.1
   obtain ⟨h6,h5⟩:=aX hy h3.2
   exact (hg m q a b h0 h1 h6 hq).congr (fun φ=>by simp only[List.map_cons,List.map_nil];rw[←h4 φ,←h5 φ];rfl) (fun _=>rfl)
  ·simp at h
 ·simp at h
def GU (f:FuncId) (g:Nat→Nat→Nat):Prop:=∀m q a,m<4294967296^8→a<m→bc m q→Spec f [xx m q,N8 a] (.val (N8 (g m a)))
def Ov (g:Nat→Nat→Nat) (vs:List V1):Option (List Prop×AV):=
 match vs with
 |[.agg [.num 8 m,.a (.u .u32 q)],x]=>match el 8 x with
  |some (o,a)=>some ((m<4294967296^8)::(a<m)::bc m q::o,.val (N8 (g m a)))
  |_=>none
 |_=>none
theorem zR {f:FuncId} {g:Nat→Nat→Nat} (hg:GU f g) {vs:List V1} {ob:List Prop} {r:AV} (h:Ov g vs=some (ob,r)) (ho:cL ob):Spec f vs r:=by
 unfold Ov at h
 split at h
 ·rename_i m q x
  split at h
  ·rename_i o a hx
   obtain ⟨rfl,rfl⟩:=sI h
   obtain ⟨h0,h1,hq,h3⟩:=ho
   obtain ⟨_,h4⟩:=aX hx h3
   exact (hg m q a h0 h1 hq).congr (fun φ=>by simp only[List.map_cons,List.map_nil];rw[←h4 φ];rfl) (fun _=>rfl)
  ·simp at h
 ·simp at h
noncomputable def Xm:Env:={E0 with
 fn:=fun f vs=>match f with
  |184=>mT Hu vs
  |140=>UF vs
  |137=>mT (fun a b=> .val (mO (co a b))) vs
  |136=>xk (fun V m=> .tup [N8 (dY V m),.one (.i 0)]) vs
  |_=>none}
theorem Fr:EnvOK Xm:=by
 refine ⟨mixed,?_,fun _ _ _ _ _ h=>by simp[Xm,E0] at h,fun _ _ _ h=>by simp[Xm,E0] at h,fun _ _ _ _ _ _ h=>by simp[Xm,E0] at h⟩
 intro f vs ob r h ho
 simp only[Xm] at h
 split at h
 ·exact de (fun a b ha hb=>uS a b ha hb) h ho
 ·exact IR h ho
 ·exact de Hj h ho
 ·exact nS v0 h ho
 ·simp at h
theorem afo (m q a b:Nat):al Xm 1000 126 [xx m q,N8 a,N8 b] []=some ([a<4294967296^8,b<4294967296^8,0<m,bc m q,oM a b<m*4294967296^8,oM a b<4294967296^16,m<4294967296^8],.val (N8 (ap m a b))):=by kernel_rfl
theorem Mg:O2 126 ap:=by
 intro m q a b hm ha hb hq
 have h1:oM a b<m*4294967296^8:=by
  unfold oM
  have h2:a*b≤a*4294967296^8:=Nat.mul_le_mul_left _ (by omega)
  have h3:a*4294967296^8<m*4294967296^8:=Nat.mul_lt_mul_of_pos_right ha (by decide)
  omega
 exact af Fr rfl (afo m q a b) ⟨by omega,by omega,by omega,hq,h1,fG (by omega) (by omega),hm,trivial⟩ rfl rfl
theorem aiU (a:Nat):al Xm 1000 76 [N8 a] []=some ([a<4294967296^8,0<4294967296,0<4294967296,0<4294967296,0<4294967296,0<4294967296,0<4294967296,0<4294967296,0<4294967296],.val (mO (co a 0))):=by kernel_rfl
def xA (g:Nat→AV) (vs:List V1):Option (List Prop×AV):=
 match vs with
 |[x]=>match el 8 x with
  |some (o,a)=>some (o,g a)
  |_=>none
 |_=>none
theorem ej {f:FuncId} {g:Nat→AV} (hg:∀a,a<4294967296^8→Spec f [N8 a] (g a)) {vs:List V1} {ob:List Prop} {r:AV} (h:xA g vs=some (ob,r)) (ho:cL ob):Spec f vs r:=by
 unfold xA at h
 split at h
 ·rename_i x
  split at h
  ·rename_i o a hx
   obtain ⟨rfl,rfl⟩:=sI h
   obtain ⟨h1,h2⟩:=aX hx ho
   exact (hg a h1).congr (fun φ=>by simp only[List.map_cons,List.map_nil];rw[←h2 φ];rfl) (fun _=>rfl)
  ·simp at h
 ·simp at h
theorem spec73 (a:Nat) (ha:a<4294967296^8):Spec 76 [N8 a] (.val (mO (co a 0))):=by
 have h0:(0:Nat)<4294967296:=by decide
 exact af Fr rfl (aiU a) ⟨ha,h0,h0,h0,h0,h0,h0,h0,h0,trivial⟩ rfl rfl
noncomputable def EO2:Env:={E0 with
 fn:=fun f vs=>match f with
  |76=>xA (fun a=> .val (mO (co a 0))) vs
  |140=>UF vs
  |_=>none}
theorem XQ:EnvOK EO2:=by
 refine ⟨mixed,?_,fun _ _ _ _ _ h=>by simp[EO2,E0] at h,fun _ _ _ h=>by simp[EO2,E0] at h,fun _ _ _ _ _ _ h=>by simp[EO2,E0] at h⟩
 intro f vs ob r h ho
 simp only[EO2] at h
 split at h
 ·exact ej spec73 h ho
 ·exact IR h ho
 ·simp at h
theorem agd (m q a:Nat):al EO2 1000 79 [xx m q,N8 a] []=some ([a<4294967296^8,0<m,bc m q,co a 0<m*4294967296^8,co a 0<4294967296^16,m<4294967296^8],.val (N8 (ci m a))):=by kernel_rfl
theorem NK:GU 79 ci:=by
 intro m q a hm ha hq
 have h1:co a 0<m*4294967296^8:=by unfold co;omega
 exact af XQ rfl (agd m q a) ⟨by omega,by omega,hq,h1,by unfold co;omega,hm,trivial⟩ rfl rfl
theorem ae7 (m q a:Nat):al Xm 1000 81 [xx m q,N8 a] []=some ([0<4294967296,0<4294967296,0<4294967296,0<4294967296,0<4294967296,0<4294967296,0<4294967296,0<4294967296,a<4294967296^8,co 0 a<4294967296^16,0<m,m<4294967296^8],.val (N8 (aq m a))):=by kernel_rfl
theorem FZ (m q a:Nat) (hm:m<4294967296^8) (h0:0<m) (ha:a<4294967296^8):Spec 81 [xx m q,N8 a] (.val (N8 (aq m a))):=by
 have hz:(0:Nat)<4294967296:=by decide
 exact af Fr rfl (ae7 m q a) ⟨hz,hz,hz,hz,hz,hz,hz,hz,ha,by unfold co;omega,h0,hm,trivial⟩ rfl rfl
def NM (vs:List V1):Option (List Prop×AV):=
 match vs with
 |[.agg [.num 8 m,.a (.u .u32 _)],x]=>match el 8 x with
  |some (o,a)=>some ((m<4294967296^8)::(0<m)::o,.val (N8 (aq m a)))
  |_=>none
 |_=>none
theorem A0 {vs:List V1} {ob:List Prop} {r:AV} (h:NM vs=some (ob,r)) (ho:cL ob):Spec 81 vs r:=by
 unfold NM at h
 split at h
 ·rename_i m q x
  split at h
  ·rename_i o a hx
   obtain ⟨rfl,rfl⟩:=sI h
   obtain ⟨h0,h1,h3⟩:=ho
   obtain ⟨h5,h4⟩:=aX hx h3
   exact (FZ m q a h0 h1 h5).congr (fun φ=>by simp only[List.map_cons,List.map_nil];rw[←h4 φ];rfl) (fun _=>rfl)
  ·simp at h
 ·simp at h
noncomputable def am (m a n:Nat):Nat:=fj a m^n*4294967296^8%m
theorem Fb {m q x y:Nat} (hR:m<4294967296^8) (hq:bc m q):ap m (x*4294967296^8%m) (y*4294967296^8%m)=x*y*4294967296^8%m:=by
 unfold ap fj oM
 have h1:Cg m (x*4294967296^8%m*(y*4294967296^8%m)*gG m) (x*4294967296^8*(y*4294967296^8)*gG m):=((Cg.mod m _).mul (Cg.mod m _)).mul (Cg.refl _ _)
 have h2:x*4294967296^8*(y*4294967296^8)*gG m=x*y*4294967296^8*(4294967296^8*gG m):=by
  generalize (4294967296:Nat)^8=R
  ac_rfl
 have h3:Cg m (x*y*4294967296^8*(4294967296^8*gG m)) (x*y*4294967296^8*1):=(Cg.refl _ _).mul (jP hR hq)
 rw[Nat.mul_one] at h3
 exact h1.trans ((Cg.of_eq h2).trans h3)
theorem yW {m q a:Nat} (hR:m<4294967296^8) (hq:bc m q) (ha:a<m):fj a m*4294967296^8%m=a:=by
 unfold fj
 have h1:Cg m (a*gG m%m*4294967296^8) (a*gG m*4294967296^8):=(Cg.mod m _).mul (Cg.refl _ _)
 have h2:a*gG m*4294967296^8=a*(4294967296^8*gG m):=by
  generalize (4294967296:Nat)^8=R
  ac_rfl
 have h3:Cg m (a*(4294967296^8*gG m)) (a*1):=(Cg.refl _ _).mul (jP hR hq)
 rw[Nat.mul_one] at h3
 have:=h1.trans ((Cg.of_eq h2).trans h3)
 rw[show a*gG m%m*4294967296^8%m=a%m from this,Nat.mod_eq_of_lt ha]
noncomputable def EPw:Env:={E0 with
 fn:=fun f vs=>match f with
  |126=>Sj ap vs
  |127=>xA (fun a=>iV (dp a:Int)) vs
  |81=>NM vs
  |129=>(match vs with|[x,.one (.i z)]=>(match el 8 x with|some (o,a)=>some ((0≤z∧z<256)::o,bV (eY a z.toNat))|_=>none)|_=>none)
  |_=>none
 S:=fun f t=>match f with
  |142=>bf t [14,16,18,25]
  |_=>false}
theorem zT:EnvOK EPw:=by
 refine ⟨mixed,?_,fun _ _ _ _ _ h=>by simp[EPw,E0] at h,fun _ _ _ h=>by simp[EPw,E0] at h,fun _ _ _ _ _ _ h=>by simp[EPw,E0] at h⟩
 intro f vs ob r h ho
 simp only[EPw] at h
 split at h
 ·exact IY Mg h ho
 ·exact ej (fun a _=>Aw a) h ho
 ·exact A0 h ho
 ·split at h
  ·rename_i x z
   split at h
   ·rename_i o a hx
    obtain ⟨rfl,rfl⟩:=sI h
    obtain ⟨h1,h2⟩:=ho
    obtain ⟨_,h4⟩:=aX hx h2
    obtain ⟨n,rfl⟩:∃n:Nat,z=(n:Int):=⟨z.toNat,by omega⟩
    exact (MU a n (by omega)).congr (fun φ=>by simp only[List.map_cons,List.map_nil];rw[←h4 φ];rfl) (fun _=>rfl)
   ·simp at h
  ·simp at h
 ·simp at h
def bR (m q:Nat):Blk:=⟨[.num 8 m,.a (.u .u32 q)],93,true,false,0⟩
def TP (i:Int):List AV:=bt 31 [(3,pV 0),(4,pV 1),(5,pV 2),(6,pV 3),(7,pV 4),(8,iV i)]
theorem tTP (i:Int):cw 5 (TP i)=true:=by kernel_rfl
theorem Ts (m q a n x:Nat) (i:Int):dl (TP i) [bR m q,b8 a,b8 n,z8,b8 x]=true:=cc (by
 intro b hb
 simp only[List.mem_cons,List.not_mem_nil,or_false] at hb
 rcases hb with rfl|rfl|rfl|rfl|rfl
 ·exact fun _=>rfl
 ·exact eN _
 ·exact eN _
 ·exact iy _
 ·exact eN _) (tTP i)
def ac8 (m q a b:Nat):List Prop:=[m<4294967296^8,a<m,b<m,bc m q,a<4294967296^8,b<4294967296^8]
theorem ZC (m q a n x j:Nat):aH EPw 1000 (EPw.S 142) (ah Tryz.prog 142 3) (TP (j:Int)) [bR m q,b8 a,b8 n,z8,b8 x] [true,true] (TP ((j:Int)-1)) 5=
  some ((decide (0≤(j:Int))=true)::(ac8 m q x x++((eY n j=true)::(0≤(j:Int)∧(j:Int)<256)::(n<4294967296^8)::(ac8 m q (ap m x x) a++[br ((j:Int)-1)]))),.normal,TP ((j:Int)-1),[bR m q,b8 a,b8 n,z8,b8 (ap m (ap m x x) a)]):=by kernel_rfl
theorem abI (m q a n x j:Nat):aH EPw 1000 (EPw.S 142) (ah Tryz.prog 142 3) (TP (j:Int)) [bR m q,b8 a,b8 n,z8,b8 x] [true,false] (TP ((j:Int)-1)) 5=
  some ((decide (0≤(j:Int))=true)::(ac8 m q x x++((eY n j=false)::(0≤(j:Int)∧(j:Int)<256)::(n<4294967296^8)::[br ((j:Int)-1)])),.normal,TP ((j:Int)-1),[bR m q,b8 a,b8 n,z8,b8 (ap m x x)]):=by kernel_rfl
theorem abj (m q a n x:Nat):aH EPw 1000 (EPw.S 142) (ah Tryz.prog 142 3) (TP (-1)) [bR m q,b8 a,b8 n,z8,b8 x] [false] (TP (-1)) 5=
  some ([decide ((0:Int)≤-1)=false],.exit 0,TP (-1),[bR m q,b8 a,b8 n,z8,b8 x]):=by kernel_rfl
noncomputable def oP (m a n L k:Nat):Nat:=fj a m^(n/2^(L-k))*4294967296^8%m
theorem Da {m q a n L k:Nat} (hR:m<4294967296^8) (hq:bc m q) (ha:a<m) (hk:k<L):
  (eY n (L-1-k)=true→ap m (ap m (oP m a n L k) (oP m a n L k)) a=oP m a n L (k+1))∧(eY n (L-1-k)=false→ap m (oP m a n L k) (oP m a n L k)=oP m a n L (k+1)):=by
 have e:n/2^(L-(k+1))=n/2^(L-k)+n/2^(L-k)+dw n (L-1-k):=by
  unfold dw
  rw[show L-k=(L-1-k)+1 by omega,show L-(k+1)=L-1-k by omega,Nat.pow_succ,←Nat.div_div_eq_div_mul]
  omega
 have sq:ap m (oP m a n L k) (oP m a n L k)=fj a m^(n/2^(L-k)+n/2^(L-k))*4294967296^8%m:=by
  unfold oP
  rw[Fb hR hq,←Nat.pow_add]
 constructor
 ·intro hb
  have hb:dw n (L-1-k)=1:=of_decide_eq_true hb
  rw[sq]
  have:=Fb (x:=fj a m^(n/2^(L-k)+n/2^(L-k))) (y:=fj a m) hR hq
  rw[yW hR hq ha] at this
  rw[this,←Nat.pow_succ]
  unfold oP
  rw[e,hb]
 ·intro hb
  have hb:dw n (L-1-k)≠1:=of_decide_eq_false hb
  have:dw n (L-1-k)=0:=by have:=kY n (L-1-k);omega
  rw[sq]
  unfold oP
  rw[e,this,Nat.add_zero]
theorem Gu {m q a n:Nat} (hR:m<4294967296^8) (hq:bc m q) (ha:a<m) (hn:n<4294967296^8):
  Goes Tryz.prog (.loop (ah Tryz.prog 142 3)) (.exit 0) (TP ((dp n:Int)-1)) [bR m q,b8 a,b8 n,z8,b8 (aq m 1)] (TP (-1)) [bR m q,b8 a,b8 n,z8,b8 (am m a n)]:=by
 obtain ⟨hl1,hl2⟩:=fU hn
 have hm0:0<m:=by omega
 have p0:oP m a n (dp n) 0=aq m 1:=by
  unfold oP aq dY co
  rw[Nat.sub_zero,Nat.div_eq_of_lt hl1,Nat.pow_zero,Nat.zero_add,Nat.mul_comm]
 have p1:oP m a n (dp n) (dp n)=am m a n:=by
  unfold oP am
  rw[Nat.sub_self,Nat.pow_zero,Nat.div_one]
 have:=bJ (P:=Tryz.prog) (y:=ah Tryz.prog 142 3) (ex:= .exit 0) (N:=dp n) (k:=5) (T:=fun k=>TP ((dp n:Int)-1-(k:Int))) (M:=fun k=>[bR m q,b8 a,b8 n,z8,b8 (oP m a n (dp n) k)]) (TF:=TP (-1)) (MF:=[bR m q,b8 a,b8 n,z8,b8 (oP m a n (dp n) (dp n))])
  (by simp) (fun _ _=>rfl) (fun k hk=>by
   obtain ⟨s1,s2⟩:=Da (n:=n) hR hq ha hk
   have hx:oP m a n (dp n) k<m:=Nat.mod_lt _ hm0
   have hmm:ap m (oP m a n (dp n) k) (oP m a n (dp n) k)<m:=Nat.mod_lt _ hm0
   have hI:((dp n-1-k:Nat):Int)=(dp n:Int)-1-(k:Int):=by omega
   have hI2:((dp n-1-k:Nat):Int)-1=(dp n:Int)-1-((k+1:Nat):Int):=by omega
   have o0:decide (0≤((dp n-1-k:Nat):Int))=true:=decide_eq_true (by omega)
   have o1:0≤((dp n-1-k:Nat):Int)∧((dp n-1-k:Nat):Int)<256:=by omega
   have o2:br (((dp n-1-k:Nat):Int)-1):=by unfold br;omega
   rw[←hI,←hI2]
   cases hb:eY n (dp n-1-k) with
   |true=>
    have hrun:=ZC m q a n (oP m a n (dp n) k) (dp n-1-k)
    rw[s1 hb] at hrun
    exact Runs.goes zT ⟨_,_,hrun,⟨o0,hR,hx,hx,hq,by omega,by omega,hb,o1,hn,hR,hmm,ha,hq,by omega,by omega,o2,trivial⟩,Ts _ _ _ _ _ _⟩
   |false=>
    have hrun:=abI m q a n (oP m a n (dp n) k) (dp n-1-k)
    rw[s2 hb] at hrun
    exact Runs.goes zT ⟨_,_,hrun,⟨o0,hR,hx,hx,hq,by omega,by omega,hb,o1,hn,o2,trivial⟩,Ts _ _ _ _ _ _⟩)
  (by
   rw[show (dp n:Int)-1-(dp n:Int)= -1 by omega]
   exact Runs.goes zT ⟨[false],_,abj _ _ _ _ _,⟨by decide,trivial⟩,Ts _ _ _ _ _ _⟩)
 rw[p0,p1,show (dp n:Int)-1-((0:Nat):Int)=(dp n:Int)-1 by omega] at this
 exact this
noncomputable def EPx (m q a n:Nat):Env:={EPw with lp:=fun j=>match Nat.beq j 3 with
  |true=>some (ah Tryz.prog 142 3,fo (TP ((dp n:Int)-1)) [bR m q,b8 a,b8 n,z8,b8 (aq m 1)] (TP (-1)) [bR m q,b8 a,b8 n,z8,b8 (am m a n)] (.exit 0))
  |false=>none}
theorem adF {m q a n:Nat} (hR:m<4294967296^8) (hq:bc m q) (ha:a<m) (hn:n<4294967296^8):EnvOK (EPx m q a n):=kj zT (bz (by simp only[List.length_cons]) (Gu hR hq ha hn))
theorem afd (m q a n:Nat):al (EPx m q a n) 1000 142 [xx m q,N8 a,N8 n] []=some ([m<4294967296^8,0<m,1<4294967296,0<4294967296,0<4294967296,0<4294967296,0<4294967296,0<4294967296,0<4294967296,0<4294967296,n<4294967296^8,br ((dp n:Int)-1),
  ah Tryz.prog 142 3=ah Tryz.prog 142 3,(TP ((dp n:Int)-1),[bR m q,b8 a,b8 n,z8,b8 (aq m 1)])=(TP ((dp n:Int)-1),[bR m q,b8 a,b8 n,z8,b8 (aq m 1)]),dl (TP ((dp n:Int)-1)) [bR m q,b8 a,b8 n,z8,b8 (aq m 1)]=true],.val (N8 (am m a n))):=by kernel_rfl
theorem Bq:No 142 am:=by
 intro m q a n hR ha hn hq
 have h0:(0:Nat)<4294967296:=by decide
 have h1:(1:Nat)<4294967296:=by decide
 have hl:=(fU hn).2
 exact af (adF hR hq ha hn) rfl (afd m q a n) ⟨hR,by omega,h1,h0,h0,h0,h0,h0,h0,h0,hn,by unfold br;omega,rfl,rfl,Ts _ _ _ _ _ _,trivial⟩ rfl rfl
end Go.Ev
