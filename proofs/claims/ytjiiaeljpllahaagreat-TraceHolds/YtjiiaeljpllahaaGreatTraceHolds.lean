/- TraceHolds holds of every argument: an evaluator of code with values known in part, its soundness, the contracts of both signature schemes, and the law of every input -/
import Derived.Test.YtjiiaeljpllahaaGreatPartO
import Derived.Test.YtjiiaeljpllahaaGreatPartN
import Derived.Test.YtjiiaeljpllahaaGreatPartI
import Derived.Deep.Strs
import Derived.JoinedOf
import Derived.SizedLaws
namespace Go.Ev.H5
open Go Go.Proofs Go.RowKit
set_option maxRecDepth 100000
noncomputable def EH9 (c:Cells) (len cap:Nat):Env:=fY (EH c) 3 (ah Tryz.prog 5 3) (af_ c len cap)
theorem agv (c:Cells) (len cap:Nat):iD (ep (EH9 c len cap) (dH (EH9 c len cap) 1000) 5 [V1.one (.sl 0 0 len cap)] (MC c len) [])=
  some ([ah Tryz.prog 5 3=ah Tryz.prog 5 3,(TH len cap (len:Int) ((0:Nat):Int),MC c len)=(TH len cap (len:Int) ((0:Nat):Int),MC c len),dl (TH len cap (len:Int) ((0:Nat):Int)) (MC c len)=true],bV (decide ((9000:Int)<hv c len 0 (len:Int)))):=by kernel_rfl
theorem aco {c:Cells} {len cap:Nat} (hB:∀j,j<len*9→(sA c j).size≤BB) (hl:len≤maxLen) {w:World} {φ:c7} (hm:MRel w φ (MC c len) w):
  Calls Tryz.prog 5 #[(V1.one (.sl 0 0 len cap)).conc φ] w fun e w'=>e= .returned (.bool (decide ((9000:Int)<hv c len 0 (len:Int))))∧Below w.heap.size w w':=by
 obtain ⟨c',m',h'⟩:=mo (agv c len cap)
 have hE:EnvOK (EH9 c len cap):=da (Ib c) (Tz c len cap hB hl)
 refine (jQ hE (lv hE 1000) _ _ _ _ _ _ _ _ h' ⟨rfl,rfl,aeI _ _ _ _ _ _,trivial⟩ w φ w hm (by simp[V1.wf,Nat.blt,MC])).mono ?_
 rintro e w' ⟨φ',rfl,_,_,hm',_⟩
 exact ⟨rfl,hm'.below⟩
def agI:V1:= .one (.v (.slice none 0 0))
noncomputable def SN9:FuncId→Nat→Bool:=fun f t=>match f with|5=>bf t [10]|_=>false
theorem rn9:al (cd [] SN9) 1000 5 [agI] [false]=some ([decide ((0:Int)<0)=false],bV false):=by kernel_rfl
theorem ans:Spec 5 [agI] (bV false):=af (aF (L:=[]) trivial SN9) rfl rn9 ⟨by decide,trivial⟩ rfl rfl
def acm (vs:List V1):Option (List Prop×AV):=match vs with|[.one (.v (.slice none 0 0))]=>some ([],bV false)|_=>none
theorem alh:aU ⟨5,acm⟩:=by
 intro vs ob r h _
 simp only[acm] at h
 split at h
 ·obtain ⟨rfl,rfl⟩:=sI h
  exact ans
 ·simp at h
noncomputable def fm9 (c:Cells) (len:Nat):List V1→List (Option Blk)→Option (List Prop×AV):=fun vs bs=>match vs,bs with
 |[.one (.sl _ 0 n _)],[some k]=>some ([k.live=true,∀φ,an φ k.ps=an φ (c9 c m9 len 0),n=len,len≤maxLen,∀j,j<len*9→(sA c j).size≤BB],bV (decide ((9000:Int)<hv c len 0 (len:Int))))
 |_,_=>none
theorem Yc {c:Cells} {len:Nat} {vs:List V1} {mem:List Blk} {ob:List Prop} {r:AV} (h:fm9 c len vs (jF mem vs)=some (ob,r)) (ho:cL ob) {w0 w:World} {φ:c7} (hm:MRel w0 φ mem w):
  Calls Tryz.prog 5 (vs.map (V1.conc φ)).toArray w fun e w'=>e= .returned (r.conc φ)∧Below w.heap.size w w':=by
 unfold fm9 at h
 split at h
 ·rename_i b' n' cap k hb
  obtain ⟨rfl,rfl⟩:=sI h
  obtain ⟨hl,hps,rfl,hmx,hB,_⟩:=ho
  have hm':=Tr.moveRow 27 hm (Tr.blks_sl hb) hl hps
  have e1:((([V1.one (.sl b' 0 n' cap)]:List V1).map (V1.conc φ)).toArray:Array Value)= #[(V1.one (.sl 0 0 n' cap)).conc (fun _=>φ b')]:=rfl
  rw[e1]
  exact aco (cap:=cap) hB hmx hm'
 ·simp at h
noncomputable def fmA (cE:Cells) (lE:Nat):FuncId→List V1→List (Option Blk)→Option (List Prop×AV):=fun f vs bs=>match f with
 |5=>fm9 cE lE vs bs
 |_=>none
theorem Zc (cE:Cells) (lE:Nat):∀f vs mem ob r,fmA cE lE f vs (jF mem vs)=some (ob,r)→cL ob→∀w0 φ w,MRel w0 φ mem w→Calls Tryz.prog f (vs.map (V1.conc φ)).toArray w fun e w'=>e= .returned (r.conc φ)∧Below w.heap.size w w':=by
 intro f vs mem ob r h ho w0 φ w hm
 unfold fmA at h
 split at h
 ·exact Yc h ho hm
 ·simp at h
abbrev shR:List SK:=Tr.shR
def bx4 (z:Int) (m cap:Nat) (xE:Atom):Blk:=⟨[.a (.sl 0 0 m cap),.a (.i z),.a xE],48,true,false,0⟩
def M2 (c:Cells) (m:Nat) (cE:Cells) (lE:Nat):List Blk:=[jf c shR m 52,jf cE m9 lE 27]
def M3 (c:Cells) (m cap:Nat) (cE:Cells) (lE:Nat) (xE:Atom) (z:Int):List Blk:=[jf c shR m 52,jf cE m9 lE 27,bx4 z m cap xE]
def M4 (c:Cells) (m cap:Nat) (cE:Cells) (lE:Nat) (xE:Atom) (z:Int):List Blk:=[jf c shR m 52,jf cE m9 lE 27,bx4 z m cap xE,bx4 z m cap xE]
noncomputable def L4q (q:QF) (c cE:Cells):List CT:=⟨19,UD q⟩::⟨21,Rf q⟩::⟨22,RP q⟩::⟨24,Ce q⟩::⟨25,Ce q⟩::⟨20,ajR q⟩::⟨18,J6⟩::⟨23,qk⟩::⟨27,bT⟩::⟨5,acm⟩::Xw 9 (fun off=>sS (sA c off))::Xw 52 (fun off=> .agg (eW c shR off))::Xw 27 (fun off=> .agg (eW cE m9 off))::[]
theorem Zx {q:QF} (hq:QFok q) (c cE:Cells):bw (L4q q c cE):=⟨hq.c19,hq.c21,hq.c22,hq.c24,hq.c25,hq.c20,T7 (by simp),Jn,ctT Tr.wakes8,alh,wN _ _,wN _ _,wN _ _,trivial⟩
def S4q:FuncId→Nat→Bool:=fun f t=>match f with
 |4=>bf t [17,22,28,39,2000040,46,50,55,62,2000063,70,82,95,2000096,129,133]
 |17=>bf t [12,15,23,31,39,2000025,2000033,2000041,27,35,43,18,45,50]
 |_=>false
noncomputable def mY (q:QF) (c cE:Cells) (lE:Nat):Env:=Tr.addM (cd (L4q q c cE) S4q) (fmA cE lE)
theorem fW {q:QF} (hq:QFok q) (c cE:Cells) (lE:Nat):EnvOK (mY q c cE lE):=Tr.envAddM (aF (Zx hq c cE) S4q) (Zc cE lE)
def k4 (n i:Int):List AV:=bt 57 [(1,pV 3),(2,bV false),(3,iV n),(4,iV i)]
def PM (c:Cells) (n:Int) (i:Nat):Int:=n+((sA c (0+i*4+0)).size:Int)+((sA c (0+i*4+2)).size:Int)+((sA c (0+i*4+3)).size:Int)
def OG (m i:Nat):Prop:=(0:Int)≤(i:Int)∧(i:Int)<(m:Int)
def ldL (c:Cells) (m i f:Nat):Prop:=dg Tryz.prog 9 (c9 c shR m 0) (0+i*4+f) (.one (.v (.string (sA c (0+i*4+f)))))
theorem hLA (q:QF) (c:Cells) (m cap:Nat) (cE:Cells) (lE:Nat) (xE:Atom) (z n:Int) (i:Nat):aH (mY q c cE lE) 1000 ((mY q c cE lE).S 17) (ah Tryz.prog 17 3) (k4 n (i:Int)) (M4 c m cap cE lE xE z) [true,true] (k4 (PM c n i) ((i:Int)+1)) 4=
  some ([decide ((i:Int)<(m:Int))=true,decide (n<1048576)=true,OG m i,ldL c m i 0,br (n+((sA c (0+i*4+0)).size:Int)),OG m i,ldL c m i 2,br (n+((sA c (0+i*4+0)).size:Int)+((sA c (0+i*4+2)).size:Int)),OG m i,ldL c m i 3,br (PM c n i),br ((i:Int)+1)],.normal,k4 (PM c n i) ((i:Int)+1),M4 c m cap cE lE xE z):=by kernel_rfl
theorem hLB (q:QF) (c:Cells) (m cap:Nat) (cE:Cells) (lE:Nat) (xE:Atom) (z n:Int) (i:Nat):aH (mY q c cE lE) 1000 ((mY q c cE lE).S 17) (ah Tryz.prog 17 3) (k4 n (i:Int)) (M4 c m cap cE lE xE z) [true,false] (k4 n (i:Int)) 4=
  some ([decide ((i:Int)<(m:Int))=true,decide (n<1048576)=false],.exit 0,k4 n (i:Int),M4 c m cap cE lE xE z):=by kernel_rfl
theorem hLC (q:QF) (c:Cells) (m cap:Nat) (cE:Cells) (lE:Nat) (xE:Atom) (z n:Int) (i:Nat):aH (mY q c cE lE) 1000 ((mY q c cE lE).S 17) (ah Tryz.prog 17 3) (k4 n (i:Int)) (M4 c m cap cE lE xE z) [false] (k4 n (i:Int)) 4=
  some ([decide ((i:Int)<(m:Int))=false],.exit 0,k4 n (i:Int),M4 c m cap cE lE xE z):=by kernel_rfl
def PT (a:Atom):Prop:=a= .v (.slice none 0 0)∨∃l k,a= .sl 1 0 l k
theorem wm {k:Nat} (hk:2≤k) {z:Int} {m cap:Nat} {xE:Atom} (hx:PT xE):aI (fun b=>Nat.blt b k) (bx4 z m cap xE).ps=true:=by
 have h0:Nat.blt 0 k=true:=by rw[Nat.blt];exact Nat.ble_eq_true_of_le (by omega)
 have h1:Nat.blt 1 k=true:=by rw[Nat.blt];exact Nat.ble_eq_true_of_le (by omega)
 rcases hx with rfl|⟨l,k',rfl⟩<;>simp[bx4,aI,h0,h1]
theorem wf3 {n:Nat} {l:List (Nat×AV)} {c:Cells} {m cap:Nat} {cE:Cells} {lE:Nat} {xE:Atom} {z:Int} (hx:PT xE) (h:cw 3 (bt n l)=true):dl (bt n l) (M3 c m cap cE lE xE z)=true:=by
 unfold dl
 simp only[M3,List.length_cons,List.length_nil]
 rw[h]
 simp only[mJ,iY _ _ _ _ _,Bool.true_and,Bool.and_true]
 exact wm (by omega) hx
theorem KF {n:Nat} {l:List (Nat×AV)} {c:Cells} {m cap:Nat} {cE:Cells} {lE:Nat} {xE:Atom} {z:Int} (hx:PT xE) (h:cw 4 (bt n l)=true):dl (bt n l) (M4 c m cap cE lE xE z)=true:=by
 unfold dl
 simp only[M4,List.length_cons,List.length_nil]
 rw[h]
 simp only[mJ,iY _ _ _ _ _,Bool.true_and,Bool.and_true,Bool.and_eq_true]
 exact ⟨wm (by omega) hx,wm (by omega) hx⟩
def DF (c:Cells):Nat→Nat→Int→Int
 |0,_,n=>n
 |k+1,i,n=>bif decide (n<1048576) then DF c k (i+1) (PM c n i) else n
def iL (c:Cells):Nat→Nat→Int→Nat
 |0,i,_=>i
 |k+1,i,n=>bif decide (n<1048576) then iL c k (i+1) (PM c n i) else i
theorem LO:dm Tryz.prog 9=some false:=by kernel_rfl
theorem ldS (c:Cells) {m i:Nat} (f:Nat) (hf:f=0∨f=2∨f=3) (h:i<m):ldL c m i f:=by
 rcases hf with rfl|rfl|rfl
 ·exact iZ [] .s [.u64,.s,.s] rfl LO h (by simp[ec,Tr.shR,SK.sz]) rfl
 ·exact iZ [.s,.u64] .s [.s] rfl LO h (by simp[ec,Tr.shR,SK.sz]) rfl
 ·exact iZ [.s,.u64,.s] .s [] rfl LO h (by simp[ec,Tr.shR,SK.sz]) rfl
theorem Fg {q:QF} (hq:QFok q) {c:Cells} {m cap:Nat} {cE:Cells} {lE:Nat} {xE:Atom} {z:Int} (hx:PT xE) (hB:∀j,j<m*4→(sA c j).size≤BB) (hm:m≤maxLen):∀(k i:Nat) (n:Int),i+k=m→0≤n→
  GoesN Tryz.prog (ah Tryz.prog 17 3) (k+1) (.exit 0) (k4 n (i:Int)) (M4 c m cap cE lE xE z) (k4 (DF c k i n) ((iL c k i n:Nat):Int)) (M4 c m cap cE lE xE z)
 |0,i,n,hk,_=>GoesN.out (by simp) (Runs.goes (fW hq c cE lE) ⟨_,_,hLC q c m cap cE lE xE z n i,⟨decide_eq_false (by omega),trivial⟩,KF hx (by kernel_rfl)⟩)
 |k+1,i,n,hk,h0=>by
  have hi:i<m:=by omega
  have hii:OG m i:=by unfold OG;omega
  have hll:decide ((i:Int)<(m:Int))=true:=decide_eq_true (by omega)
  have hmm:m≤9223372036854775807:=hm
  have hb:=PC
  show GoesN Tryz.prog (ah Tryz.prog 17 3) (k+1+1) (.exit 0) (k4 n (i:Int)) (M4 c m cap cE lE xE z) (k4 (bif decide (n<1048576) then DF c k (i+1) (PM c n i) else n) (((bif decide (n<1048576) then iL c k (i+1) (PM c n i) else i):Nat):Int)) (M4 c m cap cE lE xE z)
  by_cases hn0:n<1048576
  ·have s0:=hB (0+i*4+0) (by omega)
   have s2:=hB (0+i*4+2) (by omega)
   have s3:=hB (0+i*4+3) (by omega)
   have hd:decide (n<1048576)=true:=decide_eq_true hn0
   have ih:=Fg hq hx hB hm k (i+1) (PM c n i) (by omega) (by unfold PM;omega) (cap:=cap) (cE:=cE) (lE:=lE) (z:=z)
   rw[show ((i+1:Nat):Int)=(i:Int)+1 by omega] at ih
   rw[hd,cond_true,cond_true]
   refine GoesN.cons (M1:=M4 c m cap cE lE xE z) rfl (Runs.goes (fW hq c cE lE) ⟨_,_,hLA q c m cap cE lE xE z n i,⟨hll,hd,hii,ldS c 0 (by omega) hi,?_,hii,ldS c 2 (by omega) hi,?_,hii,ldS c 3 (by omega) hi,?_,?_,trivial⟩,KF hx (by kernel_rfl)⟩) ih
   all_goals (unfold br;first|omega|(unfold PM;omega))
  ·have hd:decide (n<1048576)=false:=decide_eq_false hn0
   rw[hd,cond_false,cond_false]
   exact GoesN.out (by simp) (Runs.goes (fW hq c cE lE) ⟨_,_,hLB q c m cap cE lE xE z n i,⟨hll,hd,trivial⟩,KF hx (by kernel_rfl)⟩)
def rlP (p:ByteArray) (n:Nat) (m s:ByteArray):List Piece:=[.a (.v (.string p)),.a (.u .u64 n),.a (.v (.string m)),.a (.v (.string s))]
def rlB (p:ByteArray) (n:Nat) (m s:ByteArray):Blk:=⟨rlP p n m s,52,true,false,0⟩
def ag7 (p:ByteArray) (n:Nat) (m s s':ByteArray):Blk:=⟨rlP p n m s++rlP p n m s'++rlP p ((n+1)%18446744073709551616) m s',52,true,false,0⟩
def kG (i:Int):List AV:=bt 136 [(1,pV 2),(2,bV false),(3,iV i)]
def nZ (z:Int) (u:ByteArray) (b:Nat) (k:Int):List AV:=bt 136 [(1,pV 2),(2,bV false),(3,iV 0),(5,iV z),(6,sv u),(10,.val (.one (.sl b 0 3 3))),(11,iV k)]
def n1 (n:Nat):Nat:=(n+1)%18446744073709551616
def MA (c:Cells) (m cap:Nat) (cE:Cells) (lE:Nat) (xE:Atom) (z:Int) (K C p:ByteArray) (n:Nat) (g s s':ByteArray):List Blk:=M3 c m cap cE lE xE z++[rlB p n g s',uz K C,rlB p (n1 n) g s',ag7 p n g s s']
def MB (c:Cells) (m cap:Nat) (cE:Cells) (lE:Nat) (xE:Atom) (z:Int) (p:ByteArray) (n:Nat) (g s:ByteArray):List Blk:=M3 c m cap cE lE xE z++[rlB p n g s,rlB p (n1 n) g s,ag7 p n g s s]
def agc (n:Nat) (k:Nat):Nat:=match k with|0=>n|1=>n|_=>n1 n
def anc (s s':ByteArray) (k:Nat):ByteArray:=match k with|0=>s|_=>s'
def obI (q:QF) (z:Int) (u p:ByteArray) (n:Nat) (g s:ByteArray):List Prop:=[g.size≤KD,g.size≤KD,(!decide (q.e z u p n g s=q.e z u p n g s))=false,(!(q.b z u p n g s==q.b z u p n g s))=false]
theorem tIA (q:QF) (c:Cells) (m cap:Nat) (cE:Cells) (lE kE:Nat) (z:Int) (K C u p:ByteArray) (n:Nat) (g s s':ByteArray):∀k:Nat,k<3→aH (mY q c cE lE) 1000 ((mY q c cE lE).S 4) (ah Tryz.prog 4 18) (nZ z u 6 (k:Int)) (MA c m cap cE lE (.sl 1 0 lE kE) z K C p n g s s') [false,false] (nZ z u 6 ((k+1:Nat):Int)) 7=
  some (obI q z u p (agc n k) g (anc s s' k),.normal,nZ z u 6 ((k+1:Nat):Int),MA c m cap cE lE (.sl 1 0 lE kE) z K C p n g s s')
 |0,_=>by kernel_rfl
 |1,_=>by kernel_rfl
 |2,_=>by kernel_rfl
theorem ann (q:QF) (c:Cells) (m cap:Nat) (cE:Cells) (lE kE:Nat) (z:Int) (K C u p:ByteArray) (n:Nat) (g s s':ByteArray):aH (mY q c cE lE) 1000 ((mY q c cE lE).S 4) (ah Tryz.prog 4 18) (nZ z u 6 ((3:Nat):Int)) (MA c m cap cE lE (.sl 1 0 lE kE) z K C p n g s s') [] (nZ z u 6 ((3:Nat):Int)) 7=
  some ([],.exit 2,nZ z u 6 ((3:Nat):Int),MA c m cap cE lE (.sl 1 0 lE kE) z K C p n g s s'):=by kernel_rfl
theorem tIB (q:QF) (c:Cells) (m cap:Nat) (cE:Cells) (lE kE:Nat) (z:Int) (u p:ByteArray) (n:Nat) (g s:ByteArray):∀k:Nat,k<3→aH (mY q c cE lE) 1000 ((mY q c cE lE).S 4) (ah Tryz.prog 4 18) (nZ z u 5 (k:Int)) (MB c m cap cE lE (.sl 1 0 lE kE) z p n g s) [false,false] (nZ z u 5 ((k+1:Nat):Int)) 6=
  some (obI q z u p (agc n k) g s,.normal,nZ z u 5 ((k+1:Nat):Int),MB c m cap cE lE (.sl 1 0 lE kE) z p n g s)
 |0,_=>by kernel_rfl
 |1,_=>by kernel_rfl
 |2,_=>by kernel_rfl
theorem amq (q:QF) (c:Cells) (m cap:Nat) (cE:Cells) (lE kE:Nat) (z:Int) (u p:ByteArray) (n:Nat) (g s:ByteArray):aH (mY q c cE lE) 1000 ((mY q c cE lE).S 4) (ah Tryz.prog 4 18) (nZ z u 5 ((3:Nat):Int)) (MB c m cap cE lE (.sl 1 0 lE kE) z p n g s) [] (nZ z u 5 ((3:Nat):Int)) 6=
  some ([],.exit 2,nZ z u 5 ((3:Nat):Int),MB c m cap cE lE (.sl 1 0 lE kE) z p n g s):=by kernel_rfl
def pA (c:Cells):ByteArray:=sA c (0+0)
def nA' (c:Cells):Nat:=nU c (0+1)
def gA (c:Cells):ByteArray:=sA c (0+2)
def sA' (c:Cells):ByteArray:=sA c (0+3)
def Jo (cE:Cells):ByteArray:=sA cE 0
noncomputable def J4 (q:QF) (z:Int) (cE:Cells):ByteArray:=q.F (Jo cE)
noncomputable def PH (q:QF) (z:Int) (cE:Cells):ByteArray:=q.P z (q.K z (J4 q z cE))
noncomputable def apJ (q:QF) (z:Int) (c cE:Cells):ByteArray:=q.S z (q.K z (J4 q z cE)) (bm (nA' c)++gA c)
noncomputable def gx (lE kE:Nat):Atom:= .sl 1 0 lE kE
noncomputable def NX (c:Cells) (m cap:Nat) (cE:Cells) (lE kE:Nat) (z:Int):List Blk:=M3 c (m+1) cap cE (lE+1) (gx (lE+1) kE) z
noncomputable def MA' (q:QF) (c:Cells) (m cap:Nat) (cE:Cells) (lE kE:Nat) (z:Int):List Blk:=MA c (m+1) cap cE (lE+1) (gx (lE+1) kE) z (q.K z (J4 q z cE)) (q.C z (J4 q z cE)) (pA c) (nA' c) (gA c) (sA' c) (apJ q z c cE)
noncomputable def MB' (c:Cells) (m cap:Nat) (cE:Cells) (lE kE:Nat) (z:Int):List Blk:=MB c (m+1) cap cE (lE+1) (gx (lE+1) kE) z (pA c) (nA' c) (gA c) (sA' c)
noncomputable def EA4 (q:QF) (c:Cells) (m cap:Nat) (cE:Cells) (lE kE:Nat) (z:Int):Env:=fY (mY q c cE (lE+1)) 18 (ah Tryz.prog 4 18) (fo (nZ z (PH q z cE) 6 ((0:Nat):Int)) (MA' q c m cap cE lE kE z) (nZ z (PH q z cE) 6 ((3:Nat):Int)) (MA' q c m cap cE lE kE z) (.exit 2))
noncomputable def EB4 (q:QF) (c:Cells) (m cap:Nat) (cE:Cells) (lE kE:Nat) (z:Int):Env:=fY (mY q c cE (lE+1)) 18 (ah Tryz.prog 4 18) (fo (nZ z (Jo cE) 5 ((0:Nat):Int)) (MB' c m cap cE lE kE z) (nZ z (Jo cE) 5 ((3:Nat):Int)) (MB' c m cap cE lE kE z) (.exit 2))
def W0 (m:Nat):Prop:=(0:Int)≤0∧(0:Int)<((m+1:Nat):Int)
def OB (c:Cells) (m:Nat):Prop:=dg Tryz.prog 52 (c9 c shR (m+1) 0) 0 (.agg (eW c shR 0))
def afY (cE:Cells) (lE:Nat):Prop:=dg Tryz.prog 27 (c9 cE m9 (lE+1) 0) 0 (.agg (eW cE m9 0))
def ob0 (c:Cells) (m lE:Nat):List Prop:=[decide ((0:Int)<((m+1:Nat):Int))=true,decide ((0:Int)<((lE+1:Nat):Int))=true,W0 m,OB c m,W0 lE]
noncomputable def obM (q:QF) (z:Int) (c cE:Cells) (lE:Nat) (b:Bool):List Prop:=[Bm z=true,decide (((gA c).size:Int)<1000)=true,W0 lE,afY cE lE,(Jo cE).size≤1000000,(sA cE (0+1)).size≤1000000,(J4 q z cE).size≤1000000,decide (q.E z (J4 q z cE)=0)=b]
noncomputable def alr (q:QF) (z:Int) (c cE:Cells):List Prop:=[(q.K z (J4 q z cE)).size=32,Ws (nA' c) (gA c),(q.K z (J4 q z cE)).size=32,q.M z (q.K z (J4 q z cE))=true,(bm (nA' c)++gA c).size≤4096]
noncomputable def alp (q:QF) (c:Cells) (m cap:Nat) (cE:Cells) (lE kE:Nat) (z:Int):List Prop:=[W0 m,OB c m,ah Tryz.prog 4 18=ah Tryz.prog 4 18,(nZ z (PH q z cE) 6 ((0:Nat):Int),MA' q c m cap cE lE kE z)=(nZ z (PH q z cE) 6 ((0:Nat):Int),MA' q c m cap cE lE kE z),dl (nZ z (PH q z cE) 6 ((0:Nat):Int)) (MA' q c m cap cE lE kE z)=true]
noncomputable def afW (c:Cells) (m cap:Nat) (cE:Cells) (lE kE:Nat) (z:Int):List Prop:=[W0 m,OB c m,ah Tryz.prog 4 18=ah Tryz.prog 4 18,(nZ z (Jo cE) 5 ((0:Nat):Int),MB' c m cap cE lE kE z)=(nZ z (Jo cE) 5 ((0:Nat):Int),MB' c m cap cE lE kE z),dl (nZ z (Jo cE) 5 ((0:Nat):Int)) (MB' c m cap cE lE kE z)=true]
theorem uA (q:QF) (c:Cells) (m cap:Nat) (cE:Cells) (lE kE:Nat) (z:Int):aH (EA4 q c m cap cE lE kE z) 1000 ((mY q c cE (lE+1)).S 4) (ah Tryz.prog 4 4) (kG 0) (NX c m cap cE lE kE z) [true,true,true,true,true] (kG 1) 3=
  some (ob0 c m lE++obM q z c cE lE true++alr q z c cE++alp q c m cap cE lE kE z,.normal,kG 1,NX c m cap cE lE kE z):=by kernel_rfl
theorem uB1 (q:QF) (c:Cells) (m cap:Nat) (cE:Cells) (lE kE:Nat) (z:Int):aH (EB4 q c m cap cE lE kE z) 1000 ((mY q c cE (lE+1)).S 4) (ah Tryz.prog 4 4) (kG 0) (NX c m cap cE lE kE z) [true,true,false] (kG 1) 3=
  some (ob0 c m lE++[Bm z=false]++afW c m cap cE lE kE z,.normal,kG 1,NX c m cap cE lE kE z):=by kernel_rfl
theorem uB2 (q:QF) (c:Cells) (m cap:Nat) (cE:Cells) (lE kE:Nat) (z:Int):aH (EB4 q c m cap cE lE kE z) 1000 ((mY q c cE (lE+1)).S 4) (ah Tryz.prog 4 4) (kG 0) (NX c m cap cE lE kE z) [true,true,true,false] (kG 1) 3=
  some (ob0 c m lE++[Bm z=true,decide (((gA c).size:Int)<1000)=false]++afW c m cap cE lE kE z,.normal,kG 1,NX c m cap cE lE kE z):=by kernel_rfl
noncomputable def MC' (q:QF) (c:Cells) (m cap:Nat) (cE:Cells) (lE kE:Nat) (z:Int):List Blk:=MA c (m+1) cap cE (lE+1) (gx (lE+1) kE) z (q.K z (J4 q z cE)) (q.C z (J4 q z cE)) (pA c) (nA' c) (gA c) (sA' c) (sA' c)
noncomputable def EC4 (q:QF) (c:Cells) (m cap:Nat) (cE:Cells) (lE kE:Nat) (z:Int):Env:=fY (mY q c cE (lE+1)) 18 (ah Tryz.prog 4 18) (fo (nZ z (Jo cE) 6 ((0:Nat):Int)) (MC' q c m cap cE lE kE z) (nZ z (Jo cE) 6 ((3:Nat):Int)) (MC' q c m cap cE lE kE z) (.exit 2))
noncomputable def an_ (q:QF) (c:Cells) (m cap:Nat) (cE:Cells) (lE kE:Nat) (z:Int):List Prop:=[W0 m,OB c m,ah Tryz.prog 4 18=ah Tryz.prog 4 18,(nZ z (Jo cE) 6 ((0:Nat):Int),MC' q c m cap cE lE kE z)=(nZ z (Jo cE) 6 ((0:Nat):Int),MC' q c m cap cE lE kE z),dl (nZ z (Jo cE) 6 ((0:Nat):Int)) (MC' q c m cap cE lE kE z)=true]
theorem uC (q:QF) (c:Cells) (m cap:Nat) (cE:Cells) (lE kE:Nat) (z:Int):aH (EC4 q c m cap cE lE kE z) 1000 ((mY q c cE (lE+1)).S 4) (ah Tryz.prog 4 4) (kG 0) (NX c m cap cE lE kE z) [true,true,true,true,false] (kG 1) 3=
  some (ob0 c m lE++obM q z c cE lE false++an_ q c m cap cE lE kE z,.normal,kG 1,NX c m cap cE lE kE z):=by kernel_rfl
theorem uX1 (q:QF) (c:Cells) (m cap:Nat) (cE:Cells) (lE:Nat) (xE:Atom) (z i:Int):aH (mY q c cE lE) 1000 ((mY q c cE lE).S 4) (ah Tryz.prog 4 4) (kG i) (M3 c m cap cE lE xE z) [false] (kG i) 3=
  some ([decide (i<(m:Int))=false],.exit 0,kG i,M3 c m cap cE lE xE z):=by kernel_rfl
theorem uX2 (q:QF) (c:Cells) (m cap:Nat) (cE:Cells) (lE kE:Nat) (z i:Int):aH (mY q c cE lE) 1000 ((mY q c cE lE).S 4) (ah Tryz.prog 4 4) (kG i) (M3 c m cap cE lE (gx lE kE) z) [true,false] (kG i) 3=
  some ([decide (i<(m:Int))=true,decide (i<(lE:Int))=false],.exit 0,kG i,M3 c m cap cE lE (gx lE kE) z):=by kernel_rfl
theorem uX3 (q:QF) (c:Cells) (m cap:Nat) (cE:Cells) (lE kE:Nat) (z:Int):aH (mY q c cE lE) 1000 ((mY q c cE lE).S 4) (ah Tryz.prog 4 4) (kG 1) (M3 c m cap cE lE (gx lE kE) z) [true,true] (kG 1) 3=
  some ([decide ((1:Int)<(m:Int))=true,decide ((1:Int)<(lE:Int))=true],.exit 0,kG 1,M3 c m cap cE lE (gx lE kE) z):=by kernel_rfl
theorem uX4 (q:QF) (c:Cells) (m cap:Nat) (cE:Cells) (lE:Nat) (z:Int):aH (mY q c cE lE) 1000 ((mY q c cE lE).S 4) (ah Tryz.prog 4 4) (kG 0) (M3 c m cap cE lE (.v (.slice none 0 0)) z) [true,false] (kG 0) 3=
  some ([decide ((0:Int)<(m:Int))=true,decide ((0:Int)<((0:Nat):Int))=false],.exit 0,kG 0,M3 c m cap cE lE (.v (.slice none 0 0)) z):=by kernel_rfl
theorem xj (l k:Nat):PT (gx l k):= .inr ⟨_,_,rfl⟩
theorem wfA {n:Nat} {l:List (Nat×AV)} {c:Cells} {m cap:Nat} {cE:Cells} {lE:Nat} {xE:Atom} {z:Int} {K C p:ByteArray} {x:Nat} {g s s':ByteArray} (hx:PT xE) (h:cw 7 (bt n l)=true):dl (bt n l) (MA c m cap cE lE xE z K C p x g s s')=true:=by
 unfold dl
 simp only[MA,M3,List.cons_append,List.nil_append,List.length_cons,List.length_nil]
 rw[h]
 simp only[mJ,iY _ _ _ _ _,Bool.true_and,Bool.and_true,Bool.and_eq_true]
 exact ⟨wm (by omega) hx,rfl,rfl,rfl,rfl⟩
theorem wfB {n:Nat} {l:List (Nat×AV)} {c:Cells} {m cap:Nat} {cE:Cells} {lE:Nat} {xE:Atom} {z:Int} {p:ByteArray} {x:Nat} {g s:ByteArray} (hx:PT xE) (h:cw 6 (bt n l)=true):dl (bt n l) (MB c m cap cE lE xE z p x g s)=true:=by
 unfold dl
 simp only[MB,M3,List.cons_append,List.nil_append,List.length_cons,List.length_nil]
 rw[h]
 simp only[mJ,iY _ _ _ _ _,Bool.true_and,Bool.and_true,Bool.and_eq_true]
 exact ⟨wm (by omega) hx,rfl,rfl,rfl⟩
theorem Hv (z:Int) (u:ByteArray) (k:Int):cw 7 (nZ z u 6 k)=true:=by kernel_rfl
theorem Ja (z:Int) (u:ByteArray) (k:Int):cw 6 (nZ z u 5 k)=true:=by kernel_rfl
theorem JH (i:Int):cw 3 (kG i)=true:=by kernel_rfl
theorem Oo {q:QF} {z:Int} {u p:ByteArray} {n:Nat} {g s:ByteArray} (hg:g.size≤KD):cL (obI q z u p n g s):=⟨hg,hg,by simp,by simp,trivial⟩
theorem lIA {q:QF} (hq:QFok q) {c:Cells} {m cap:Nat} {cE:Cells} {lE kE:Nat} {z:Int} {K C u p:ByteArray} {n:Nat} {g s s':ByteArray} (hg:g.size≤KD):
  Goes Tryz.prog (.loop (ah Tryz.prog 4 18)) (.exit 2) (nZ z u 6 ((0:Nat):Int)) (MA c m cap cE lE (.sl 1 0 lE kE) z K C p n g s s') (nZ z u 6 ((3:Nat):Int)) (MA c m cap cE lE (.sl 1 0 lE kE) z K C p n g s s'):=by
 refine bJ (N:=3) (k:=7) (T:=fun k=>nZ z u 6 (k:Int)) (M:=fun _=>MA c m cap cE lE (.sl 1 0 lE kE) z K C p n g s s') (by simp) (fun _ _=>rfl) (fun k hk=> ?_) ?_
 ·exact Runs.goes (fW hq c cE lE) ⟨_,_,tIA q c m cap cE lE kE z K C u p n g s s' k hk,Oo hg,wfA (xj _ _) (Hv _ _ _)⟩
 ·exact Runs.goes (fW hq c cE lE) ⟨_,_,ann q c m cap cE lE kE z K C u p n g s s',trivial,wfA (xj _ _) (Hv _ _ _)⟩
theorem lIB {q:QF} (hq:QFok q) {c:Cells} {m cap:Nat} {cE:Cells} {lE kE:Nat} {z:Int} {u p:ByteArray} {n:Nat} {g s:ByteArray} (hg:g.size≤KD):
  Goes Tryz.prog (.loop (ah Tryz.prog 4 18)) (.exit 2) (nZ z u 5 ((0:Nat):Int)) (MB c m cap cE lE (.sl 1 0 lE kE) z p n g s) (nZ z u 5 ((3:Nat):Int)) (MB c m cap cE lE (.sl 1 0 lE kE) z p n g s):=by
 refine bJ (N:=3) (k:=6) (T:=fun k=>nZ z u 5 (k:Int)) (M:=fun _=>MB c m cap cE lE (.sl 1 0 lE kE) z p n g s) (by simp) (fun _ _=>rfl) (fun k hk=> ?_) ?_
 ·exact Runs.goes (fW hq c cE lE) ⟨_,_,tIB q c m cap cE lE kE z u p n g s k hk,Oo hg,wfB (xj _ _) (Ja _ _ _)⟩
 ·exact Runs.goes (fW hq c cE lE) ⟨_,_,amq q c m cap cE lE kE z u p n g s,trivial,wfB (xj _ _) (Ja _ _ _)⟩
theorem ahs:dm Tryz.prog 52=some true:=by kernel_rfl
theorem aj7:d8 Tryz.prog 52=some (ec shR):=by kernel_rfl
theorem ID (c:Cells) (m:Nat):OB c m:=st (sh:=shR) (i:=0) [] shR [] rfl ahs aj7 (Nat.succ_pos m) rfl
theorem Hx (cE:Cells) (lE:Nat):afY cE lE:=st (sh:=m9) (i:=0) [] m9 [] rfl am5 s38 (Nat.succ_pos lE) rfl
theorem uX (m:Nat):W0 m:=by unfold W0;omega
theorem Ad (c:Cells) (m lE:Nat):cL (ob0 c m lE):=⟨decide_eq_true (by omega),decide_eq_true (by omega),uX m,ID c m,uX lE,trivial⟩
theorem agf {q:QF} (hq:QFok q) {c:Cells} {m cap:Nat} {cE:Cells} {lE kE:Nat} {z:Int} (hg:(gA c).size≤KD) (h0:(sA cE (0+0*9+0)).size≤9000) (h1:(sA cE (0+0*9+1)).size≤9000):
  Goes Tryz.prog (ah Tryz.prog 4 4) .normal (kG 0) (NX c m cap cE lE kE z) (kG 1) (NX c m cap cE lE kE z):=by
 have hk:(Jo cE).size≤1000000:=Nat.le_trans h0 (by decide)
 have hk1:(sA cE (0+1)).size≤1000000:=Nat.le_trans h1 (by decide)
 have hF:(J4 q z cE).size=32:=hq.fS _
 have hw:dl (kG 1) (NX c m cap cE lE kE z)=true:=wf3 (xj _ _) (JH 1)
 have hi:=uX m
 have hl:=ID c m
 cases hc:Bm z with
 |false=>
  have hE:EnvOK (EB4 q c m cap cE lE kE z):=da (fW hq c cE (lE+1)) (bz rfl (lIB hq hg))
  exact Runs.goes hE ⟨_,_,uB1 q c m cap cE lE kE z,bq (bq (Ad c m lE) ⟨hc,trivial⟩) ⟨hi,hl,rfl,rfl,wfB (xj _ _) (Ja _ _ _),trivial⟩,hw⟩
 |true=>
  by_cases hs:(gA c).size<1000
  ·have hd:decide (((gA c).size:Int)<1000)=true:=decide_eq_true (by omega)
   by_cases he:q.E z (J4 q z cE)=0
   ·obtain ⟨g1,g2⟩:=hq.good z _ he
    have hE:EnvOK (EA4 q c m cap cE lE kE z):=da (fW hq c cE (lE+1)) (bz rfl (lIA hq hg))
    have h8:(bm (nA' c)++gA c).size≤4096:=by rw[ByteArray.size_append,f5];omega
    exact Runs.goes hE ⟨_,_,uA q c m cap cE lE kE z,bq (bq (bq (Ad c m lE) ⟨hc,hd,uX lE,Hx cE lE,hk,hk1,by omega,decide_eq_true he,trivial⟩) ⟨g1,Fv hg,g1,g2,h8,trivial⟩) ⟨hi,hl,rfl,rfl,wfA (xj _ _) (Hv _ _ _),trivial⟩,hw⟩
   ·have hE:EnvOK (EC4 q c m cap cE lE kE z):=da (fW hq c cE (lE+1)) (bz rfl (lIA hq hg))
    exact Runs.goes hE ⟨_,_,uC q c m cap cE lE kE z,bq (bq (Ad c m lE) ⟨hc,hd,uX lE,Hx cE lE,hk,hk1,by omega,decide_eq_false he,trivial⟩) ⟨hi,hl,rfl,rfl,wfA (xj _ _) (Hv _ _ _),trivial⟩,hw⟩
  ·have hE:EnvOK (EB4 q c m cap cE lE kE z):=da (fW hq c cE (lE+1)) (bz rfl (lIB hq hg))
   exact Runs.goes hE ⟨_,_,uB2 q c m cap cE lE kE z,bq (bq (Ad c m lE) ⟨hc,decide_eq_false (by omega),trivial⟩) ⟨hi,hl,rfl,rfl,wfB (xj _ _) (Ja _ _ _),trivial⟩,hw⟩
def alk (m lE:Nat):Int:=bif decide (0<m)&&decide (0<lE) then 1 else 0
theorem aj1 {q:QF} (hq:QFok q) {c:Cells} {m cap:Nat} {cE:Cells} {lE kE:Nat} {z:Int} (hB:∀j,j<m*4→(sA c j).size≤BB) (hs:∀j,j<lE→(sA cE (0+j*9+0)).size≤9000∧(sA cE (0+j*9+1)).size≤9000):
  Goes Tryz.prog (.loop (ah Tryz.prog 4 4)) (.exit 0) (kG 0) (M3 c m cap cE lE (gx lE kE) z) (kG (alk m lE)) (M3 c m cap cE lE (gx lE kE) z):=by
 have hw:∀i,dl (kG i) (M3 c m cap cE lE (gx lE kE) z)=true:=fun i=>wf3 (xj _ _) (JH i)
 have hE:=fW hq c cE lE
 match m,lE with
 |0,lE=>exact GoesN.loop (GoesN.out (n:=0) (by simp) (Runs.goes hE ⟨_,_,uX1 q c 0 cap cE lE _ z 0,⟨by decide,trivial⟩,hw 0⟩))
 |m+1,0=>exact GoesN.loop (GoesN.out (n:=0) (by simp) (Runs.goes hE ⟨_,_,uX2 q c (m+1) cap cE 0 kE z 0,⟨decide_eq_true (by omega),by decide,trivial⟩,hw 0⟩))
 |m+1,lE+1=>
  obtain ⟨h0,h1⟩:=hs 0 (by omega)
  have hg:(gA c).size≤KD:=Nat.le_trans (hB 2 (by omega)) (by decide)
  have ht:=agf hq (c:=c) (m:=m) (cap:=cap) (cE:=cE) (lE:=lE) (kE:=kE) (z:=z) hg h0 h1
  refine (GoesN.cons (M1:=M3 c (m+1) cap cE (lE+1) (gx (lE+1) kE) z) rfl ht (GoesN.out (n:=0) (by simp) ?_)).loop
  show Goes Tryz.prog (ah Tryz.prog 4 4) (.exit 0) (kG 1) _ (kG 1) _
  by_cases e1:1<m+1
  ·by_cases e2:1<lE+1
   ·exact Runs.goes hE ⟨_,_,uX3 q c (m+1) cap cE (lE+1) kE z,⟨decide_eq_true (by omega),decide_eq_true (by omega),trivial⟩,hw 1⟩
   ·exact Runs.goes hE ⟨_,_,uX2 q c (m+1) cap cE (lE+1) kE z 1,⟨decide_eq_true (by omega),decide_eq_false (by omega),trivial⟩,hw 1⟩
  ·exact Runs.goes hE ⟨_,_,uX1 q c (m+1) cap cE (lE+1) _ z 1,⟨decide_eq_false (by omega),trivial⟩,hw 1⟩
end Go.Ev.H5
namespace Go.Ev
open Go Go.RowKit Go.ChangeShapes Go.WideShapes Go.ChangeAt
section
variable {P:Program}
theorem Lr {H:Type} {enc:TypeId×Value→H} {W:World} {base:Nat} {sp:Nat→Bool} {held:Bool} {t:TypeId} (ht:P.underlying t=some (.int .i64)) {n:Nat} {x:Value} {y:DataW H×List MemPlace} (h:DataW.trod enc P W base sp held n t [x]=some y):∃z,x= .int .i64 z:=by
 cases n with
 |zero=>simp[DataW.trod] at h
 |succ n=>
  unfold DataW.trod at h
  rw[ht] at h
  split at h<;>simp_all
theorem Gm {H:Type} {enc:TypeId×Value→H} {t eA eB:TypeId} {f0 f1 f2:Field} (shA shB:List SK) {DA DB B:Nat} (ht:P.underlying t=some (.struct #[f0,f1,f2])) (o0:f0.offset=0) (o1:f1.offset=1) (o2:f2.offset=2)
  (hct:P.cellTypes P.depth t=some [f0.type,f1.type,f2.type]) (hc0:P.cellsOf f0.type=1) (hc1:P.cellsOf f1.type=1) (hc2:P.cellsOf f2.type=1) (hcs:P.cellsOf t=3)
  (hA:P.underlying f0.type=some (.slice eA)) (hkA:fa P DA eA=some (pu shA)) (hsA:d8 P eA=some (ec shA)) (hbA:0<P.bytesOf eA)
  (hI:P.underlying f1.type=some (.int .i64))
  (hB:P.underlying f2.type=some (.slice eB)) (hkB:fa P DB eB=some (pu shB)) (hsB:d8 P eB=some (ec shB)) (hbB:0<P.bytesOf eB)
  {r:Reach} {W:World} {base:Nat} {v:Value} {d:DataW H} {ps:List MemPlace} (hval:Value.okWide P W r base t v) (h:DataW.Trod enc P W 0 (fun _=>true) true t v d ps) (hwt:∀n∈d.weights P t,n≤B):
  ∃a z b,v= .agg #[a,.int .i64 z,b]∧NI W shA B a∧NI W shB B b:=by
 unfold Value.okWide at hval
 rw[ht] at hval
 obtain ⟨cs,rfl,hsz,ts,hts,_,hcell⟩:=hval
 rw[hct] at hts
 simp only[Option.some.injEq] at hts
 subst hts
 rw[hcs] at hsz
 have e:cs= #[cs[0],cs[1],cs[2]]:=by
  apply Array.ext
  ·simpa using hsz
  ·intro i h1 h2
   match i,h2 with
   |0,_=>rfl
   |1,_=>rfl
   |2,_=>rfl
 obtain ⟨u0,hu0,hk0⟩:=hcell 0 cs[0] (by rw[Array.getElem?_eq_getElem])
 obtain ⟨u2,hu2,hk2⟩:=hcell 2 cs[2] (by rw[Array.getElem?_eq_getElem])
 have hu0:f0.type=u0:=by simpa using hu0
 have hu2:f2.type=u2:=by simpa using hu2
 subst hu0;subst hu2
 generalize cs[0]=a at*
 generalize cs[1]=x at*
 generalize cs[2]=b at*
 subst e
 have va:Value.okWide P W r base f0.type a:=by unfold Value.okWide;rw[hA];exact hk0
 have vb:Value.okWide P W r base f2.type b:=by unfold Value.okWide;rw[hB];exact hk2
 obtain ⟨fuel,hf⟩:=h
 obtain ⟨y0,y1,y2,n,hx,_,h0,h1,h2⟩:=Go.Deep.trod_struct3 ht hf
 simp only[Prod.mk.injEq] at hx
 obtain ⟨rfl,rfl⟩:=hx
 rw[o0,hc0] at h0
 rw[o1,hc1] at h1
 rw[o2,hc2] at h2
 obtain ⟨z,rfl⟩:=Lr hI (x:=x) h1
 have ca:a.cells.toList=[a]:=by obtain ⟨_,_,_,rfl⟩:=okWide_slice hA va;rfl
 have cb:b.cells.toList=[b]:=by obtain ⟨_,_,_,rfl⟩:=okWide_slice hB vb;rfl
 refine ⟨a,z,b,rfl,?_,?_⟩
 ·refine te (enc:=enc) shA hA hkA hsA hbA va (d:=y0.1) (ps:=y0.2) ⟨n,?_⟩ fun q hq=>hwt q ?_
  ·rw[ca];exact h0
  ·simp only[DataW.weights,ht]
   exact DataW.weights_mem_each (j:=0) (t:=f0.type) (d:=y0.1) rfl rfl q hq
 ·refine te (enc:=enc) shB hB hkB hsB hbB vb (d:=y2.1) (ps:=y2.2) ⟨n,?_⟩ fun q hq=>hwt q ?_
  ·rw[cb];exact h2
  ·simp only[DataW.weights,ht]
   exact DataW.weights_mem_each (j:=2) (t:=f2.type) (d:=y2.1) rfl rfl q hq
end
end Go.Ev
namespace Go.Ev.H5
open Go Go.Proofs Go.RowKit
set_option maxRecDepth 100000
noncomputable def sr (q:QF) (c:Cells) (m cap:Nat) (cE:Cells) (lE:Nat) (xE:Atom) (z e:Int):Env:=fY (fY (mY q c cE lE) 3 (ah Tryz.prog 17 3) (fo (k4 (m:Int) ((0:Nat):Int)) (M4 c m cap cE lE xE z) (k4 (DF c m 0 (m:Int)) ((iL c m 0 (m:Int):Nat):Int)) (M4 c m cap cE lE xE z) (.exit 0))) 4 (ah Tryz.prog 4 4) (fo (kG 0) (M3 c m cap cE lE xE z) (kG e) (M3 c m cap cE lE xE z) (.exit 0))
theorem jq1 (q:QF) (c:Cells) (m cap:Nat) (cE:Cells) (lE:Nat) (z e:Int):iD (ep (sr q c m cap cE lE (.v (.slice none 0 0)) z e) (dH (sr q c m cap cE lE (.v (.slice none 0 0)) z e) 1000) 4 [V1.agg [.a (.sl 0 0 m cap),.a (.i z),.a (.v (.slice none 0 0))]] (M2 c m cE lE) [true,true])=
  some ([true=true,ah Tryz.prog 17 3=ah Tryz.prog 17 3,(k4 (m:Int) ((0:Nat):Int),M4 c m cap cE lE (.v (.slice none 0 0)) z)=(k4 (m:Int) ((0:Nat):Int),M4 c m cap cE lE (.v (.slice none 0 0)) z),dl (k4 (m:Int) ((0:Nat):Int)) (M4 c m cap cE lE (.v (.slice none 0 0)) z)=true,decide ((9000:Int)<DF c m 0 (m:Int))=true],bV true):=by kernel_rfl
theorem jq2 (q:QF) (c:Cells) (m cap:Nat) (cE:Cells) (lE:Nat) (z e:Int):iD (ep (sr q c m cap cE lE (.v (.slice none 0 0)) z e) (dH (sr q c m cap cE lE (.v (.slice none 0 0)) z e) 1000) 4 [V1.agg [.a (.sl 0 0 m cap),.a (.i z),.a (.v (.slice none 0 0))]] (M2 c m cE lE) [false,true,true])=
  some ([true=true,ah Tryz.prog 17 3=ah Tryz.prog 17 3,(k4 (m:Int) ((0:Nat):Int),M4 c m cap cE lE (.v (.slice none 0 0)) z)=(k4 (m:Int) ((0:Nat):Int),M4 c m cap cE lE (.v (.slice none 0 0)) z),dl (k4 (m:Int) ((0:Nat):Int)) (M4 c m cap cE lE (.v (.slice none 0 0)) z)=true,decide ((9000:Int)<DF c m 0 (m:Int))=false,decide ((200:Int)<(m:Int))=true],bV true):=by kernel_rfl
theorem jq4 (q:QF) (c:Cells) (m cap:Nat) (cE:Cells) (lE:Nat) (z e:Int):iD (ep (sr q c m cap cE lE (.v (.slice none 0 0)) z e) (dH (sr q c m cap cE lE (.v (.slice none 0 0)) z e) 1000) 4 [V1.agg [.a (.sl 0 0 m cap),.a (.i z),.a (.v (.slice none 0 0))]] (M2 c m cE lE) [false,false,false])=
  some ([false=false,ah Tryz.prog 17 3=ah Tryz.prog 17 3,(k4 (m:Int) ((0:Nat):Int),M4 c m cap cE lE (.v (.slice none 0 0)) z)=(k4 (m:Int) ((0:Nat):Int),M4 c m cap cE lE (.v (.slice none 0 0)) z),dl (k4 (m:Int) ((0:Nat):Int)) (M4 c m cap cE lE (.v (.slice none 0 0)) z)=true,decide ((9000:Int)<DF c m 0 (m:Int))=false,decide ((200:Int)<(m:Int))=false,ah Tryz.prog 4 4=ah Tryz.prog 4 4,(kG 0,M3 c m cap cE lE (.v (.slice none 0 0)) z)=(kG 0,M3 c m cap cE lE (.v (.slice none 0 0)) z),dl (kG 0) (M3 c m cap cE lE (.v (.slice none 0 0)) z)=true],bV true):=by kernel_rfl
theorem kq1 (q:QF) (c:Cells) (m cap:Nat) (cE:Cells) (lE:Nat) (kE:Nat) (z e:Int):iD (ep (sr q c m cap cE lE (gx lE kE) z e) (dH (sr q c m cap cE lE (gx lE kE) z e) 1000) 4 [V1.agg [.a (.sl 0 0 m cap),.a (.i z),.a (gx lE kE)]] (M2 c m cE lE) [true,true])=
  some ([true=true,ah Tryz.prog 17 3=ah Tryz.prog 17 3,(k4 (m:Int) ((0:Nat):Int),M4 c m cap cE lE (gx lE kE) z)=(k4 (m:Int) ((0:Nat):Int),M4 c m cap cE lE (gx lE kE) z),dl (k4 (m:Int) ((0:Nat):Int)) (M4 c m cap cE lE (gx lE kE) z)=true,decide ((9000:Int)<DF c m 0 (m:Int))=true],bV true):=by kernel_rfl
theorem kq2 (q:QF) (c:Cells) (m cap:Nat) (cE:Cells) (lE:Nat) (kE:Nat) (z e:Int):iD (ep (sr q c m cap cE lE (gx lE kE) z e) (dH (sr q c m cap cE lE (gx lE kE) z e) 1000) 4 [V1.agg [.a (.sl 0 0 m cap),.a (.i z),.a (gx lE kE)]] (M2 c m cE lE) [false,true,true])=
  some ([true=true,ah Tryz.prog 17 3=ah Tryz.prog 17 3,(k4 (m:Int) ((0:Nat):Int),M4 c m cap cE lE (gx lE kE) z)=(k4 (m:Int) ((0:Nat):Int),M4 c m cap cE lE (gx lE kE) z),dl (k4 (m:Int) ((0:Nat):Int)) (M4 c m cap cE lE (gx lE kE) z)=true,decide ((9000:Int)<DF c m 0 (m:Int))=false,decide ((200:Int)<(m:Int))=true],bV true):=by kernel_rfl
theorem kq4 (q:QF) (c:Cells) (m cap:Nat) (cE:Cells) (lE:Nat) (kE:Nat) (z e:Int):iD (ep (sr q c m cap cE lE (gx lE kE) z e) (dH (sr q c m cap cE lE (gx lE kE) z e) 1000) 4 [V1.agg [.a (.sl 0 0 m cap),.a (.i z),.a (gx lE kE)]] (M2 c m cE lE) [false,false,false])=
  some ([decide ((9000:Int)<hv cE lE 0 (lE:Int))=false,ah Tryz.prog 17 3=ah Tryz.prog 17 3,(k4 (m:Int) ((0:Nat):Int),M4 c m cap cE lE (gx lE kE) z)=(k4 (m:Int) ((0:Nat):Int),M4 c m cap cE lE (gx lE kE) z),dl (k4 (m:Int) ((0:Nat):Int)) (M4 c m cap cE lE (gx lE kE) z)=true,decide ((9000:Int)<DF c m 0 (m:Int))=false,decide ((200:Int)<(m:Int))=false,true=true,∀φ:c7,an φ (c9 cE m9 lE 0)=an φ (c9 cE m9 lE 0),lE=lE,lE≤maxLen,∀j,j<lE*9→(sA cE j).size≤BB,ah Tryz.prog 4 4=ah Tryz.prog 4 4,(kG 0,M3 c m cap cE lE (gx lE kE) z)=(kG 0,M3 c m cap cE lE (gx lE kE) z),dl (kG 0) (M3 c m cap cE lE (gx lE kE) z)=true],bV true):=by kernel_rfl
noncomputable def Zf (q:QF) (c:Cells) (m cap:Nat) (cE:Cells) (lE kE:Nat) (z:Int):Env:=(fY (mY q c cE lE) 3 (ah Tryz.prog 17 3) (fo (k4 (m:Int) ((0:Nat):Int)) (M4 c m cap cE lE (gx lE kE) z) (k4 (DF c m 0 (m:Int)) ((iL c m 0 (m:Int):Nat):Int)) (M4 c m cap cE lE (gx lE kE) z) (.exit 0)))
theorem aq1 (q:QF) (c:Cells) (m cap:Nat) (cE:Cells) (lE kE:Nat) (z:Int):iD (ep (Zf q c m cap cE lE kE z) (dH (Zf q c m cap cE lE kE z) 1000) 4 [V1.agg [.a (.sl 0 0 m cap),.a (.i z),.a (gx lE kE)]] (M2 c m cE lE) [true,true])=
  some ([true=true,ah Tryz.prog 17 3=ah Tryz.prog 17 3,(k4 (m:Int) ((0:Nat):Int),M4 c m cap cE lE (gx lE kE) z)=(k4 (m:Int) ((0:Nat):Int),M4 c m cap cE lE (gx lE kE) z),dl (k4 (m:Int) ((0:Nat):Int)) (M4 c m cap cE lE (gx lE kE) z)=true,decide ((9000:Int)<DF c m 0 (m:Int))=true],bV true):=by kernel_rfl
theorem aq2 (q:QF) (c:Cells) (m cap:Nat) (cE:Cells) (lE kE:Nat) (z:Int):iD (ep (Zf q c m cap cE lE kE z) (dH (Zf q c m cap cE lE kE z) 1000) 4 [V1.agg [.a (.sl 0 0 m cap),.a (.i z),.a (gx lE kE)]] (M2 c m cE lE) [false,true,true])=
  some ([true=true,ah Tryz.prog 17 3=ah Tryz.prog 17 3,(k4 (m:Int) ((0:Nat):Int),M4 c m cap cE lE (gx lE kE) z)=(k4 (m:Int) ((0:Nat):Int),M4 c m cap cE lE (gx lE kE) z),dl (k4 (m:Int) ((0:Nat):Int)) (M4 c m cap cE lE (gx lE kE) z)=true,decide ((9000:Int)<DF c m 0 (m:Int))=false,decide ((200:Int)<(m:Int))=true],bV true):=by kernel_rfl
theorem aq3 (q:QF) (c:Cells) (m cap:Nat) (cE:Cells) (lE kE:Nat) (z:Int):iD (ep (Zf q c m cap cE lE kE z) (dH (Zf q c m cap cE lE kE z) 1000) 4 [V1.agg [.a (.sl 0 0 m cap),.a (.i z),.a (gx lE kE)]] (M2 c m cE lE) [false,false,true])=
  some ([decide ((9000:Int)<hv cE lE 0 (lE:Int))=true,ah Tryz.prog 17 3=ah Tryz.prog 17 3,(k4 (m:Int) ((0:Nat):Int),M4 c m cap cE lE (gx lE kE) z)=(k4 (m:Int) ((0:Nat):Int),M4 c m cap cE lE (gx lE kE) z),dl (k4 (m:Int) ((0:Nat):Int)) (M4 c m cap cE lE (gx lE kE) z)=true,decide ((9000:Int)<DF c m 0 (m:Int))=false,decide ((200:Int)<(m:Int))=false,true=true,∀φ:c7,an φ (c9 cE m9 lE 0)=an φ (c9 cE m9 lE 0),lE=lE,lE≤maxLen,∀j,j<lE*9→(sA cE j).size≤BB],bV true):=by kernel_rfl
def yD:Cells:=⟨fun _=>false,fun _=>ByteArray.empty,fun _=>0,fun _=>0⟩
theorem nq1 (q:QF) (z:Int):iD (ep (mY q yD yD 0) (dH (mY q yD yD 0) 1000) 4 [V1.agg [Piece.a (Atom.v (Value.slice none 0 0)),Piece.a (Atom.i z),Piece.a (Atom.v (Value.slice none 0 0))]] [] [false,false,false,false,false])=
  some ([false=false,decide ((0:Int)<((0:Nat):Int))=false,decide ((9000:Int)<((0:Nat):Int))=false,decide ((200:Int)<((0:Nat):Int))=false,decide ((0:Int)<((0:Nat):Int))=false],bV true):=by kernel_rfl
theorem nq2 (q:QF) (cE:Cells) (lE kE:Nat) (z:Int):iD (ep (mY q yD cE lE) (dH (mY q yD cE lE) 1000) 4 [V1.agg [Piece.a (Atom.v (Value.slice none 0 0)),Piece.a (Atom.i z),Piece.a (gx lE kE)]] [jf yD shR 0 52,jf cE m9 lE 27] [false,false,false,false,false])=
  some ([decide ((9000:Int)<hv cE lE 0 (lE:Int))=false,decide ((0:Int)<((0:Nat):Int))=false,decide ((9000:Int)<((0:Nat):Int))=false,decide ((200:Int)<((0:Nat):Int))=false,true=true,∀φ:c7,an φ (c9 cE m9 lE 0)=an φ (c9 cE m9 lE 0),lE=lE,lE≤maxLen,∀j,j<lE*9→(sA cE j).size≤BB,decide ((0:Int)<((0:Nat):Int))=false],bV true):=by kernel_rfl
theorem nq3 (q:QF) (cE:Cells) (lE kE:Nat) (z:Int):iD (ep (mY q yD cE lE) (dH (mY q yD cE lE) 1000) 4 [V1.agg [Piece.a (Atom.v (Value.slice none 0 0)),Piece.a (Atom.i z),Piece.a (gx lE kE)]] [jf yD shR 0 52,jf cE m9 lE 27] [false,false,false,true])=
  some ([decide ((9000:Int)<hv cE lE 0 (lE:Int))=true,decide ((0:Int)<((0:Nat):Int))=false,decide ((9000:Int)<((0:Nat):Int))=false,decide ((200:Int)<((0:Nat):Int))=false,true=true,∀φ:c7,an φ (c9 cE m9 lE 0)=an φ (c9 cE m9 lE 0),lE=lE,lE≤maxLen,∀j,j<lE*9→(sA cE j).size≤BB],bV true):=by kernel_rfl
theorem Za {q:QF} (hq:QFok q) {c:Cells} {m cap:Nat} {cE:Cells} {lE:Nat} {z:Int}:Goes Tryz.prog (.loop (ah Tryz.prog 4 4)) (.exit 0) (kG 0) (M3 c m cap cE lE (.v (.slice none 0 0)) z) (kG 0) (M3 c m cap cE lE (.v (.slice none 0 0)) z):=by
 have hx:PT (.v (.slice none 0 0)):= .inl rfl
 have hE:=fW hq c cE lE
 refine GoesN.loop (GoesN.out (n:=0) (by simp) ?_)
 match m with
 |0=>exact Runs.goes hE ⟨_,_,uX1 q c 0 cap cE lE _ z 0,⟨by decide,trivial⟩,wf3 hx (JH 0)⟩
 |m+1=>exact Runs.goes hE ⟨_,_,uX4 q c (m+1) cap cE lE z,⟨decide_eq_true (by omega),by decide,trivial⟩,wf3 hx (JH 0)⟩
theorem I1 {q:QF} (hq:QFok q) {c:Cells} {m cap:Nat} {cE:Cells} {lE:Nat} {xE:Atom} {z e:Int} (hx:PT xE) (hm:m≤BB) (hB:∀j,j<m*4→(sA c j).size≤BB)
  (hl:Goes Tryz.prog (.loop (ah Tryz.prog 4 4)) (.exit 0) (kG 0) (M3 c m cap cE lE xE z) (kG e) (M3 c m cap cE lE xE z)):EnvOK (sr q c m cap cE lE xE z e):=
 da (da (fW hq c cE lE) (bz rfl (Fg hq hx hB (Nat.le_trans hm (by decide)) m 0 (m:Int) (by omega) (by omega)).loop)) (bz rfl hl)
def fL:Field:={name:= "L",type:=46,offset:=0,embedded:=false,tag:= "",pkgPath:= "",byteOffset:=0}
def fC:Field:={name:= "Curve",type:=3,offset:=1,embedded:=false,tag:= "",pkgPath:= "",byteOffset:=24}
def fE:Field:={name:= "E",type:=22,offset:=2,embedded:=false,tag:= "",pkgPath:= "",byteOffset:=32}
theorem u48:Tryz.prog.underlying 48=some (.struct #[fL,fC,fE]):=by kernel_rfl
theorem am7:Tryz.prog.cellTypes Tryz.prog.depth 48=some [fL.type,fC.type,fE.type]:=by kernel_rfl
theorem c46:Tryz.prog.cellsOf fL.type=1:=by kernel_rfl
theorem c3t:Tryz.prog.cellsOf fC.type=1:=by kernel_rfl
theorem c22:Tryz.prog.cellsOf fE.type=1:=by kernel_rfl
theorem c48:Tryz.prog.cellsOf 48=3:=by kernel_rfl
theorem u46:Tryz.prog.underlying fL.type=some (.slice 52):=by kernel_rfl
theorem u3t:Tryz.prog.underlying fC.type=some (.int .i64):=by kernel_rfl
theorem amw:Tryz.prog.underlying fE.type=some (.slice 27):=by kernel_rfl
theorem k52:fa Tryz.prog 20 52=some (pu shR):=by kernel_rfl
theorem b52:0<Tryz.prog.bytesOf 52:=of_decide_eq_true (by kernel_rfl)
theorem b27:0<Tryz.prog.bytesOf 27:=of_decide_eq_true (by kernel_rfl)
theorem rd48:Tryz.prog.readableRec 48=true:=by kernel_rfl
theorem row48:(48:Nat)<Tryz.prog.types.size:=of_decide_eq_true (by kernel_rfl)
theorem eQ {E:Env} (hE:EnvOK E) {n:Nat} {f:FuncId} {v:V1} {M:List Blk} {c:List Bool} {ob:List Prop}
  (h:iD (ep E (dH E n) f [v] M c)=some (ob,bV true)) (ho:cL ob) {w:World} {φ:c7} (hm:MRel w φ M w) (hv:v.wf M.length=true):Calls E.P f #[v.conc φ] w (yC w):=by
 obtain ⟨c',m',h'⟩:=mo h
 exact OA hE h' ho hm hv
theorem kC {w:World} {φ:c7} {z:Int} {xL xE:Atom} {a b:Value} (ha:a=xL.conc φ) (hb:b=xE.conc φ) (h:Calls Tryz.prog 4 #[(V1.agg [.a xL,.a (.i z),.a xE]).conc φ] w (yC w)):Calls Tryz.prog 4 #[.agg #[a,.int .i64 z,b]] w (yC w):=by
 subst ha;subst hb;exact h
theorem afa {q:QF} (hq:QFok q) {H:Type} {enc:TypeId×Value→H} {r:Reach} {W:World} {base:Nat} {v:Value} {d:DataW H} {ps:List MemPlace} (hval:Value.okWide Tryz.prog W r base 48 v) (h:DataW.Trod enc Tryz.prog W 0 (fun _=>true) true 48 v d ps) (hwt:∀n∈d.weights Tryz.prog 48,n≤BB):
  Calls Tryz.prog 4 #[v] W (yC W):=by
 obtain ⟨a,z,b,rfl,ha,hb⟩:=Gm shR m9 (DA:=20) (DB:=20) (B:=BB) u48 rfl rfl rfl am7 c46 c3t c22 c48 u46 k52 aj7 b52 u3t amw k38 s38 b27 hval h hwt
 have hbb:=PC
 have hM:maxLen=9223372036854775807:=by decide
 rcases ha with rfl|⟨c,m,cap,bA,pA,rfl,hmc,hcm,hob,hBA,hmB,hltA,hcA⟩
 ·rcases hb with rfl|⟨cE,lE,kE,bB,pB,rfl,hlk,hkm,hobE,hBE,hlB,hltB,hcB⟩
  ·exact eQ (φ:=fun _=>(0,0,0)) (fW hq yD yD 0) (nq1 q z) ⟨rfl,by decide,by decide,by decide,by decide,trivial⟩ ⟨Below.refl _ _,by simp,by simp,by simp,by simp,by simp⟩ rfl
  ·have hm:=uY (W:=W) (shA:=shR) (shB:=m9) (eA:=52) (eB:=27) (cA:=yD) (cB:=cE) (lA:=0) (lB:=lE) (bA:=bB) (oA:=pB) hltB hltB (fun φ j x hx=>by simp[c9,an] at hx) hcB
   by_cases hE:(9000:Int)<hv cE lE 0 (lE:Int)
   ·refine kC (φ:=fun i=>if i=0 then (bB,pB,0) else (bB,pB,0)) (xL:=(.v (.slice none 0 0))) (xE:=(gx lE kE)) (by simp[Atom.conc]) (by simp[gx,Atom.conc]) (eQ (fW hq yD cE lE) (nq3 q cE lE kE z) ⟨decide_eq_true hE,by decide,by decide,by decide,rfl,fun _=>rfl,rfl,by omega,hBE,trivial⟩ hm rfl)
   ·refine kC (φ:=fun i=>if i=0 then (bB,pB,0) else (bB,pB,0)) (xL:=(.v (.slice none 0 0))) (xE:=(gx lE kE)) (by simp[Atom.conc]) (by simp[gx,Atom.conc]) (eQ (fW hq yD cE lE) (nq2 q cE lE kE z) ⟨decide_eq_false hE,by decide,by decide,by decide,rfl,fun _=>rfl,rfl,by omega,hBE,by decide,trivial⟩ hm rfl)
 ·rcases hb with rfl|⟨cE,lE,kE,bB,pB,rfl,hlk,hkm,hobE,hBE,hlB,hltB,hcB⟩
  ·have hm:=uY (W:=W) (shA:=shR) (shB:=m9) (eA:=52) (eB:=27) (cA:=c) (cB:=yD) (lA:=m) (lB:=0) (bB:=bA) (oB:=pA) hltA hltA hcA (fun φ j x hx=>by simp[c9,an] at hx)
   have hx:PT (.v (.slice none 0 0)):= .inl rfl
   have hE13:=I1 hq (cap:=cap) (cE:=yD) (lE:=0) (z:=z) hx hmB hBA (Za hq)
   by_cases h1:(9000:Int)<DF c m 0 (m:Int)
   ·refine kC (φ:=fun i=>if i=0 then (bA,pA,0) else (bA,pA,0)) (xL:=(.sl 0 0 m cap)) (xE:=(.v (.slice none 0 0))) (by simp[Atom.conc]) (by simp[Atom.conc]) (eQ hE13 (jq1 q c m cap yD 0 z 0) ⟨rfl,rfl,rfl,KF hx (by kernel_rfl),decide_eq_true h1,trivial⟩ hm rfl)
   ·by_cases h2:(200:Int)<(m:Int)
    ·refine kC (φ:=fun i=>if i=0 then (bA,pA,0) else (bA,pA,0)) (xL:=(.sl 0 0 m cap)) (xE:=(.v (.slice none 0 0))) (by simp[Atom.conc]) (by simp[Atom.conc]) (eQ hE13 (jq2 q c m cap yD 0 z 0) ⟨rfl,rfl,rfl,KF hx (by kernel_rfl),decide_eq_false h1,decide_eq_true h2,trivial⟩ hm rfl)
    ·refine kC (φ:=fun i=>if i=0 then (bA,pA,0) else (bA,pA,0)) (xL:=(.sl 0 0 m cap)) (xE:=(.v (.slice none 0 0))) (by simp[Atom.conc]) (by simp[Atom.conc]) (eQ hE13 (jq4 q c m cap yD 0 z 0) ⟨rfl,rfl,rfl,KF hx (by kernel_rfl),decide_eq_false h1,decide_eq_false h2,rfl,rfl,wf3 hx (JH 0),trivial⟩ hm rfl)
  ·have hm:=uY (W:=W) (shA:=shR) (shB:=m9) (eA:=52) (eB:=27) (cA:=c) (cB:=cE) (lA:=m) (lB:=lE) hltA hltB hcA hcB
   have hx:=xj lE kE
   by_cases hE:(9000:Int)<hv cE lE 0 (lE:Int)
   ·have hA:EnvOK (Zf q c m cap cE lE kE z):=da (fW hq c cE lE) (bz rfl (Fg hq hx hBA (Nat.le_trans hmB (by decide)) m 0 (m:Int) (by omega) (by omega)).loop)
    by_cases h1:(9000:Int)<DF c m 0 (m:Int)
    ·refine kC (φ:=fun i=>if i=0 then (bA,pA,0) else (bB,pB,0)) (xL:=(.sl 0 0 m cap)) (xE:=(gx lE kE)) (by simp[Atom.conc]) (by simp[gx,Atom.conc]) (eQ hA (aq1 q c m cap cE lE kE z) ⟨rfl,rfl,rfl,KF hx (by kernel_rfl),decide_eq_true h1,trivial⟩ hm rfl)
    ·by_cases h2:(200:Int)<(m:Int)
     ·refine kC (φ:=fun i=>if i=0 then (bA,pA,0) else (bB,pB,0)) (xL:=(.sl 0 0 m cap)) (xE:=(gx lE kE)) (by simp[Atom.conc]) (by simp[gx,Atom.conc]) (eQ hA (aq2 q c m cap cE lE kE z) ⟨rfl,rfl,rfl,KF hx (by kernel_rfl),decide_eq_false h1,decide_eq_true h2,trivial⟩ hm rfl)
     ·refine kC (φ:=fun i=>if i=0 then (bA,pA,0) else (bB,pB,0)) (xL:=(.sl 0 0 m cap)) (xE:=(gx lE kE)) (by simp[Atom.conc]) (by simp[gx,Atom.conc]) (eQ hA (aq3 q c m cap cE lE kE z) ⟨decide_eq_true hE,rfl,rfl,KF hx (by kernel_rfl),decide_eq_false h1,decide_eq_false h2,rfl,fun _=>rfl,rfl,by omega,hBE,trivial⟩ hm rfl)
   ·have hs:=(Cd cE lE 0 (lE:Int) (by omega) (by omega)).2
    have hE13:=I1 hq (cap:=cap) (cE:=cE) (lE:=lE) (z:=z) hx hmB hBA (aj1 hq (kE:=kE) hBA (fun j hj=>by obtain ⟨h1,h2,_,_⟩:=hs j (Nat.zero_le _) (by omega);exact ⟨h1,h2⟩))
    by_cases h1:(9000:Int)<DF c m 0 (m:Int)
    ·refine kC (φ:=fun i=>if i=0 then (bA,pA,0) else (bB,pB,0)) (xL:=(.sl 0 0 m cap)) (xE:=(gx lE kE)) (by simp[Atom.conc]) (by simp[gx,Atom.conc]) (eQ hE13 (kq1 q c m cap cE lE kE z _) ⟨rfl,rfl,rfl,KF hx (by kernel_rfl),decide_eq_true h1,trivial⟩ hm rfl)
    ·by_cases h2:(200:Int)<(m:Int)
     ·refine kC (φ:=fun i=>if i=0 then (bA,pA,0) else (bB,pB,0)) (xL:=(.sl 0 0 m cap)) (xE:=(gx lE kE)) (by simp[Atom.conc]) (by simp[gx,Atom.conc]) (eQ hE13 (kq2 q c m cap cE lE kE z _) ⟨rfl,rfl,rfl,KF hx (by kernel_rfl),decide_eq_false h1,decide_eq_true h2,trivial⟩ hm rfl)
     ·refine kC (φ:=fun i=>if i=0 then (bA,pA,0) else (bB,pB,0)) (xL:=(.sl 0 0 m cap)) (xE:=(gx lE kE)) (by simp[Atom.conc]) (by simp[gx,Atom.conc]) (eQ hE13 (kq4 q c m cap cE lE kE z _) ⟨decide_eq_false hE,rfl,rfl,KF hx (by kernel_rfl),decide_eq_false h1,decide_eq_false h2,rfl,fun _=>rfl,rfl,by omega,hBE,rfl,rfl,wf3 hx (JH 0),trivial⟩ hm rfl)
theorem law4 {H:Type} {enc:TypeId×Value→H} {r:Reach} {W:World} {base:Nat} {v:Value} {d:DataW H} {ps:List MemPlace} (hval:Value.okWide Tryz.prog W r base 48 v) (h:DataW.Trod enc Tryz.prog W 0 (fun _=>true) true 48 v d ps) (hwt:∀n∈d.weights Tryz.prog 48,n≤BB):
  Calls Tryz.prog 4 #[v] W (yC W):=afa (agY (ah5 afr ad1) (ajj anm)) hval h hwt
end Go.Ev.H5
namespace Go.Proofs.YtjiiaeljpllahaaGreat.Laws
open Go Go.Ev Go.Ev.H5 Go.RowKit Go.ChangeShapes Go.WideShapes Go.ChangeAt
set_option maxRecDepth 100000 in
theorem lifted4 (os : Os) (started : os.Started) (H : Type) (enc : TypeId × Value → H) :
    ReturnsInHanded {} Tryz.checked os 4 .any (Rows.traceHoldsSpec.pre6 enc Tryz.prog Tryz.f4 Rows.traceHoldsRow.domain false) (Rows.traceHoldsSpec.post enc Tryz.prog Tryz.f4 false true false false) := by
  refine returnsInHanded_of_change_sized (C := Tryz.checked) own started (by kernel_rfl) Tryz.func4
    (ChangeSpec.witness6 (enc := enc) (C := Tryz.checked) false ⟨#[], #[.agg #[.slice none 0 0, .int .i64 0, .slice none 0 0]], []⟩ 8 (by kernel_rfl) (by kernel_rfl) (by kernel_rfl) (by kernel_rfl)) ?_
  intro W base args ds gs before hval0 hW _ hsz0 _
  have hsz : (DataW.weightsEach Tryz.prog (Tryz.f4.params.toList ++ Rows.traceHoldsSpec.plain.varTypes Tryz.prog) (ds ++ gs)).all (· ≤ reachBytes) = true := hsz0
  clear hsz0
  have hval : ∀ (j : Nat) t v, Tryz.f4.params[j]? = some t → args[j]? = some v → Value.okWide Tryz.prog W .any base t v := hval0
  have hW' := hW
  obtain ⟨p, q, hA0, hV, hbef, hfz, hnd⟩ := hW
  have hp : Tryz.f4.params = #[48] := by kernel_rfl
  have hA : DataW.TrodAll enc Tryz.prog W 0 (fun _ => true) true Tryz.f4.params.toList args.toList ds p := hA0
  rw [hp] at hA hval
  obtain ⟨v0, d0, rfl, rfl, h0⟩ := trodAll_one hA
  obtain ⟨rfl, rfl⟩ := trodVars_none hV
  refine (law4 (hval 0 48 v0 rfl rfl) h0 (fun n hn => by simpa using List.all_eq_true.1 hsz n (DataW.weights_mem_each (j := 0) (t := 48) (by rw [hp]; rfl) rfl n hn))).mono ?_
  rintro e W' ⟨rfl, hb⟩
  exact ⟨_, rfl, post_true (tb := 4) rfl hp (by kernel_rfl) u4 laid rd48 row48 rfl rfl hW' hb⟩
theorem holds4 : Rows.TraceHoldsSaid :=
  OpenClaim.holds_of_wide 4 Tryz.f4 rfl rfl rfl rfl rfl rfl rfl ⟨rfl, rfl, rfl, rfl, rfl⟩ rfl rfl rfl rfl rfl (by kernel_rfl) Tryz.func4 (by kernel_rfl)
    (of_decide_eq_true (by kernel_rfl)) (by unfold Func.isWrapper; first | (rw [if_pos (by decide +kernel)]; kernel_rfl) | (rw [if_neg (by decide +kernel)]; exact ⟨rfl, rfl⟩))
    (fun os started H enc _ => lifted4 os started H enc)
end Go.Proofs.YtjiiaeljpllahaaGreat.Laws
namespace Go.Proofs.YtjiiaeljpllahaaGreat
open Go
theorem traceHolds_holds : Rows.TraceHoldsSaid := Laws.holds4
end Go.Proofs.YtjiiaeljpllahaaGreat
