/- SHA-512: the program and the page come to one sum -/
import Derived.Test.YtjiiaeljpllahaaGreatPartI
import Derived.Test.YtjiiaeljpllahaaGreatPartH
namespace Go.Ev.H5
open Go Go.Proofs Go.RowKit
def u64 (n:Nat):V1:= .one (.u .u64 n)
def gR (s:ByteArray) (i:Nat):Nat:=(s.data.getD i 0).toNat
def t4:Nat:=18446744073709551616
def Xr (x b:Nat):Nat:=x*256%t4%t4|||b%t4%t4
def lN (s:ByteArray) (i:Nat):Nat:=Xr (Xr (Xr (Xr (Xr (Xr (Xr (Xr 0 (gR s i)) (gR s (i+1))) (gR s (i+2))) (gR s (i+3))) (gR s (i+4))) (gR s (i+5))) (gR s (i+6))) (gR s (i+7))
noncomputable def aai:Env:={E0 with S:=fun f t=>match f with|223=>bf t [11]|197=>bf t [13]|_=>false}
theorem Ik:EnvOK aai:=⟨mixed,envE0.fns,envE0.fms,envE0.lps,envE0.fbs⟩
def ace (s:ByteArray):List Prop:=[(0:Int)≤0∧(0:Int)<s.size,(0:Int)≤1∧(1:Int)<s.size,(0:Int)≤2∧(2:Int)<s.size,(0:Int)≤3∧(3:Int)<s.size,(0:Int)≤4∧(4:Int)<s.size,(0:Int)≤5∧(5:Int)<s.size,(0:Int)≤6∧(6:Int)<s.size,(0:Int)≤7∧(7:Int)<s.size]
theorem XV (s:ByteArray):al aai 1000 223 [sS s] []=some (ace s,.val (u64 (lN s 0))):=by kernel_rfl
theorem Y9 (s:ByteArray):al aai 1000 197 [sS s] []=some (ace s,.val (u64 (lN s 0))):=by kernel_rfl
def JS (vs:List V1):Option (List Prop×AV):=
 match vs with
 |[.one (.v (.string s))]=>some ([8≤s.size],.val (u64 (lN s 0)))
 |_=>none
theorem ah' {s:ByteArray} (h:8≤s.size):cL (ace s):=⟨by omega,by omega,by omega,by omega,by omega,by omega,by omega,by omega,trivial⟩
theorem aiT:aU ⟨223,JS⟩:=by
 intro vs ob r h ho
 simp only[JS] at h
 split at h
 ·obtain ⟨rfl,rfl⟩:=sI h
  exact af Ik rfl (XV _) (ah' ho.1) rfl rfl
 ·simp at h
theorem ahA:aU ⟨197,JS⟩:=by
 intro vs ob r h ho
 simp only[JS] at h
 split at h
 ·obtain ⟨rfl,rfl⟩:=sI h
  exact af Ik rfl (Y9 _) (ah' ho.1) rfl rfl
 ·simp at h
def xu (x n:Nat):Nat:=x*2^(64-n)%t4%t4|||x/2^n%t4
def uP (x n:Nat):Nat:=x/2^n%t4|||x*2^(64-n)%t4%t4
theorem VL (x n:Nat):uP x n=xu x n:=Nat.or_comm _ _
def MM:List Nat:=[1,8,14,18,19,28,34,39,41,61]
theorem aaL (x:Nat):(al E0 1000 219 [u64 x,.one (.i 1)] []=some ([],.val (u64 (xu x 1))))∧(al E0 1000 219 [u64 x,.one (.i 8)] []=some ([],.val (u64 (xu x 8))))∧(al E0 1000 219 [u64 x,.one (.i 14)] []=some ([],.val (u64 (xu x 14))))
  ∧(al E0 1000 219 [u64 x,.one (.i 18)] []=some ([],.val (u64 (xu x 18))))∧(al E0 1000 219 [u64 x,.one (.i 19)] []=some ([],.val (u64 (xu x 19))))∧(al E0 1000 219 [u64 x,.one (.i 28)] []=some ([],.val (u64 (xu x 28))))
  ∧(al E0 1000 219 [u64 x,.one (.i 34)] []=some ([],.val (u64 (xu x 34))))∧(al E0 1000 219 [u64 x,.one (.i 39)] []=some ([],.val (u64 (xu x 39))))∧(al E0 1000 219 [u64 x,.one (.i 41)] []=some ([],.val (u64 (xu x 41))))
  ∧(al E0 1000 219 [u64 x,.one (.i 61)] []=some ([],.val (u64 (xu x 61)))):=by
 refine ⟨?_,?_,?_,?_,?_,?_,?_,?_,?_,?_⟩<;>kernel_rfl
theorem aaO (x:Nat):(al E0 1000 198 [u64 x,.one (.i 1)] []=some ([],.val (u64 (uP x 1))))∧(al E0 1000 198 [u64 x,.one (.i 8)] []=some ([],.val (u64 (uP x 8))))∧(al E0 1000 198 [u64 x,.one (.i 14)] []=some ([],.val (u64 (uP x 14))))
  ∧(al E0 1000 198 [u64 x,.one (.i 18)] []=some ([],.val (u64 (uP x 18))))∧(al E0 1000 198 [u64 x,.one (.i 19)] []=some ([],.val (u64 (uP x 19))))∧(al E0 1000 198 [u64 x,.one (.i 28)] []=some ([],.val (u64 (uP x 28))))
  ∧(al E0 1000 198 [u64 x,.one (.i 34)] []=some ([],.val (u64 (uP x 34))))∧(al E0 1000 198 [u64 x,.one (.i 39)] []=some ([],.val (u64 (uP x 39))))∧(al E0 1000 198 [u64 x,.one (.i 41)] []=some ([],.val (u64 (uP x 41))))
  ∧(al E0 1000 198 [u64 x,.one (.i 61)] []=some ([],.val (u64 (uP x 61)))):=by
 refine ⟨?_,?_,?_,?_,?_,?_,?_,?_,?_,?_⟩<;>kernel_rfl
def y8 (vs:List V1):Option (List Prop×AV):=
 match vs with
 |[.one (.u .u64 x),.one (.i (.ofNat n))]=>match bf n MM with
  |true=>some ([],.val (u64 (xu x n)))
  |false=>none
 |_=>none
theorem zo {n:Nat} (h:bf n MM=true):n=1∨n=8∨n=14∨n=18∨n=19∨n=28∨n=34∨n=39∨n=41∨n=61:=by
 simp only[MM,bf,Bool.or_false,Bool.or_eq_true] at h
 simpa only[Nat.beq_eq] using h
theorem ahf:aU ⟨219,y8⟩:=by
 intro vs ob r h _
 simp only[y8] at h
 split at h
 ·rename_i x n
  split at h
  ·rename_i hn
   obtain ⟨_,rfl⟩:=sI h
   obtain ⟨h1,h2,h3,h4,h5,h6,h7,h8,h9,h10⟩:=aaL x
   rcases zo hn with rfl|rfl|rfl|rfl|rfl|rfl|rfl|rfl|rfl|rfl
   ·exact af envE0 rfl h1 trivial rfl rfl
   ·exact af envE0 rfl h2 trivial rfl rfl
   ·exact af envE0 rfl h3 trivial rfl rfl
   ·exact af envE0 rfl h4 trivial rfl rfl
   ·exact af envE0 rfl h5 trivial rfl rfl
   ·exact af envE0 rfl h6 trivial rfl rfl
   ·exact af envE0 rfl h7 trivial rfl rfl
   ·exact af envE0 rfl h8 trivial rfl rfl
   ·exact af envE0 rfl h9 trivial rfl rfl
   ·exact af envE0 rfl h10 trivial rfl rfl
  ·simp at h
 ·simp at h
theorem Zq:aU ⟨198,y8⟩:=by
 intro vs ob r h _
 simp only[y8] at h
 split at h
 ·rename_i x n
  split at h
  ·rename_i hn
   obtain ⟨_,rfl⟩:=sI h
   obtain ⟨h1,h2,h3,h4,h5,h6,h7,h8,h9,h10⟩:=aaO x
   simp only[VL] at h1 h2 h3 h4 h5 h6 h7 h8 h9 h10
   rcases zo hn with rfl|rfl|rfl|rfl|rfl|rfl|rfl|rfl|rfl|rfl
   ·exact af envE0 rfl h1 trivial rfl rfl
   ·exact af envE0 rfl h2 trivial rfl rfl
   ·exact af envE0 rfl h3 trivial rfl rfl
   ·exact af envE0 rfl h4 trivial rfl rfl
   ·exact af envE0 rfl h5 trivial rfl rfl
   ·exact af envE0 rfl h6 trivial rfl rfl
   ·exact af envE0 rfl h7 trivial rfl rfl
   ·exact af envE0 rfl h8 trivial rfl rfl
   ·exact af envE0 rfl h9 trivial rfl rfl
   ·exact af envE0 rfl h10 trivial rfl rfl
  ·simp at h
 ·simp at h
def nH (x y:Nat):Nat:=x%t4^^^y%t4
def B7 (x y:Nat):Nat:=x%t4&&&y%t4
def fx (x y:Nat):Nat:=(x+y)%t4
def aiX (x:Nat):Nat:=t4-1-x%t4
def ajG (x:Nat):Nat:=nH (nH (xu x 1) (xu x 8)) (x/2^7)
def ahi (y:Nat):Nat:=nH (nH (xu y 19) (xu y 61)) (y/2^6)
def xH (i d:Nat):Nat:=0+((i:Int)-(d:Int)).toNat*1
def Cl (l:List Nat) (i:Nat):Nat:=fx (fx (fx (l.getD (xH i 16) 0) (ajG (l.getD (xH i 15) 0))) (l.getD (xH i 7) 0)) (ahi (l.getD (xH i 2) 0))
def adC (l:List Nat) (i:Nat):Nat:=fx (fx (fx (l.getD (xH i 16) 0) (l.getD (xH i 7) 0)) (ajG (l.getD (xH i 15) 0))) (ahi (l.getD (xH i 2) 0))
theorem Fs (a b c:Nat):fx (fx a b) c=fx (fx a c) b:=by
 unfold fx
 rw[Nat.mod_add_mod,Nat.mod_add_mod]
 congr 1;omega
theorem Vi (l:List Nat) (i:Nat):adC l i=Cl l i:=by unfold adC Cl;rw[Fs (l.getD (xH i 16) 0)]
def wB (l:List Nat):Blk:=⟨[.arr .u64 l],220,true,false,0⟩
noncomputable def O3:List CT:=[⟨223,JS⟩,⟨197,JS⟩,⟨219,y8⟩,⟨198,y8⟩]
theorem zB:bw O3:=⟨aiT,ahA,ahf,Zq,trivial⟩
noncomputable def amh:FuncId→Nat→Bool:=fun f t=>match f with|217=>bf t [9,12,16,17,19,4000019,21,22,2000023,25,26,2000027,46,47,2000048,52,53,2000054,58,4000058,59]|_=>false
def j4 (s:ByteArray) (i:Int):List AV:=bt 61 [(0,.val (sS s)),(2,pV 0),(8,iV i)]
noncomputable def DT:Env:=cd O3 amh
theorem ajh (s:ByteArray) (l:List Nat) (i:Nat):aH DT 1000 (Env.S DT 217) (ah Tryz.prog 217 2) (j4 s (↑i:Int)) [wB l] [true,true] (j4 s ((↑i:Int)+(1:Int))) 1=
  some ([decide ((↑i:Int)<(80:Int))=true,decide ((↑i:Int)<(16:Int))=true,br ((8:Int)*(↑i:Int)),(0:Int)≤(8:Int)*(↑i:Int)∧(8:Int)*(↑i:Int)≤(↑(ByteArray.size s):Int),8≤ByteArray.size (ByteArray.extract s (Int.toNat ((8:Int)*(↑i:Int))) (ByteArray.size s)),(0:Int)≤(↑i:Int)∧(↑i:Int)<((80:Nat):Int),0+i*1<List.length l,br ((↑i:Int)+(1:Int))],.normal,j4 s ((i:Int)+1),[wB (l.set (0+(i:Int).toNat*1) (lN (s.extract (8*i) s.size) 0))]):=by kernel_rfl
theorem afh (s:ByteArray) (l:List Nat) (i:Nat):aH DT 1000 (Env.S DT 217) (ah Tryz.prog 217 2) (j4 s (↑i:Int)) [wB l] [true,false] (j4 s ((↑i:Int)+(1:Int))) 1=
  some ([decide ((↑i:Int)<(80:Int))=true,decide ((↑i:Int)<(16:Int))=false,br ((↑i:Int)-(15:Int)),(0:Int)≤(↑i:Int)-(15:Int)∧(↑i:Int)-(15:Int)<((80:Nat):Int),0+Int.toNat ((↑i:Int)-(15:Int))*1<List.length l,br ((↑i:Int)-(2:Int)),(0:Int)≤(↑i:Int)-(2:Int)∧(↑i:Int)-(2:Int)<((80:Nat):Int),0+Int.toNat ((↑i:Int)-(2:Int))*1<List.length l,br ((↑i:Int)-(16:Int)),(0:Int)≤(↑i:Int)-(16:Int)∧(↑i:Int)-(16:Int)<((80:Nat):Int),0+Int.toNat ((↑i:Int)-(16:Int))*1<List.length l,br ((↑i:Int)-(7:Int)),(0:Int)≤(↑i:Int)-(7:Int)∧(↑i:Int)-(7:Int)<((80:Nat):Int),0+Int.toNat ((↑i:Int)-(7:Int))*1<List.length l,(0:Int)≤(↑i:Int)∧(↑i:Int)<((80:Nat):Int),0+i*1<List.length l,br ((↑i:Int)+(1:Int))],.normal,j4 s ((i:Int)+1),[wB (l.set (0+(i:Int).toNat*1) (Cl l i))]):=by kernel_rfl
theorem afA (s:ByteArray) (l:List Nat) (i:Nat):aH DT 1000 (Env.S DT 217) (ah Tryz.prog 217 2) (j4 s (↑i:Int)) [wB l] [false] (j4 s (↑i:Int)) 1=
  some ([decide ((↑i:Int)<(80:Int))=false],(.exit 0),j4 s (i:Int),[wB l]):=by kernel_rfl
def Ax (s:ByteArray):Nat→List Nat
 |0=>List.replicate 80 0
 |i+1=>(Ax s i).set i (bif decide (i<16) then lN s (8*i) else Cl (Ax s i) i)
theorem nw (s:ByteArray):∀i,(Ax s i).length=80
 |0=>List.length_replicate
 |i+1=>by rw[Ax,List.length_set];exact nw s i
theorem f4 (s:ByteArray) (a b i:Nat) (h:a+i<b) (hb:b≤s.size):gR (s.extract a b) i=gR s (a+i):=by
 unfold gR
 rw[ByteArray.data_extract]
 simp only[Array.getD_eq_getD_getElem?]
 rw[Array.getElem?_extract]
 have:i<min b s.data.size-a:=by
  have:s.data.size=s.size:=rfl
  omega
 rw[if_pos this]
theorem yR (s:ByteArray) (a b:Nat) (h:a+8≤b) (hb:b≤s.size):lN (s.extract a b) 0=lN s a:=by
 unfold lN
 rw[f4 s a b 0 (by omega) hb,f4 s a b (0+1) (by omega) hb,f4 s a b (0+2) (by omega) hb,f4 s a b (0+3) (by omega) hb,
  f4 s a b (0+4) (by omega) hb,f4 s a b (0+5) (by omega) hb,f4 s a b (0+6) (by omega) hb,f4 s a b (0+7) (by omega) hb]
 rfl
theorem qU (l:List Nat):er (wB l):=fun _=>rfl
theorem Jb (s:ByteArray) (l:List Nat) (i:Int):dl (j4 s i) [wB l]=true:=cc (by
 intro b hb
 simp only[List.mem_cons,List.not_mem_nil,or_false] at hb
 subst hb
 exact qU l) (by show cw 1 _=true;kernel_rfl)
theorem uK:EnvOK DT:=aF zB _
theorem fM (s:ByteArray) (a b:Nat) (hb:b≤s.size):(s.extract a b).size=b-a:=by
 rw[ByteArray.size_extract];omega
theorem RO (s:ByteArray) (hs:128≤s.size) (hl:s.size≤4611686018427387904) (i:Nat) (hi:i<80) (l:List Nat) (hlen:l.length=80):
  Goes Tryz.prog (ah Tryz.prog 217 2) .normal (j4 s (i:Int)) [wB l] (j4 s ((i:Int)+1)) [wB (l.set i (bif decide (i<16) then lN s (8*i) else Cl l i))]:=by
 have e0:(0+(i:Int).toNat*1)=i:=by omega
 by_cases h16:i<16
 ·have hr:=ajh s l i
  rw[show (Int.toNat ((8:Int)*(i:Int)))=8*i by omega,yR s (8*i) s.size (by omega) (Nat.le_refl _),e0] at hr
  rw[decide_eq_true h16,cond_true]
  exact Runs.goes uK ⟨_,_,hr,⟨decide_eq_true (by omega),decide_eq_true (by omega),by unfold br;omega,by omega,by rw[fM _ _ _ (Nat.le_refl _)];omega,by omega,by omega,by unfold br;omega,trivial⟩,Jb _ _ _⟩
 ·have hr:=afh s l i
  rw[e0] at hr
  rw[decide_eq_false h16,cond_false]
  exact Runs.goes uK ⟨_,_,hr,⟨decide_eq_true (by omega),decide_eq_false (by omega),by unfold br;omega,by omega,by omega,by unfold br;omega,by omega,by omega,by unfold br;omega,by omega,by omega,by unfold br;omega,by omega,by omega,by omega,by omega,by unfold br;omega,trivial⟩,Jb _ _ _⟩
theorem TW (s:ByteArray) (hs:128≤s.size) (hl:s.size≤4611686018427387904) (n:Nat) (hn:n=80) (L:Nat→List Nat) (hL:∀i,(L i).length=80) (h:∀i,L (i+1)=(L i).set i (bif decide (i<16) then lN s (8*i) else Cl (L i) i)):
  Goes Tryz.prog (.loop (ah Tryz.prog 217 2)) (.exit 0) (j4 s ((0:Nat):Int)) [wB (L 0)] (j4 s (n:Int)) [wB (L n)]:=by
 refine bJ (N:=n) (k:=1) (T:=fun i=>j4 s (i:Int)) (M:=fun i=>[wB (L i)]) (by simp) (fun _ _=>rfl) (fun i hi=> ?_) ?_
 ·have:=RO s hs hl i (by omega) (L i) (hL i)
  rw[←h i] at this
  exact this
 ·exact Runs.goes uK ⟨_,_,afA s (L n) n,⟨decide_eq_false (by omega),trivial⟩,Jb _ _ _⟩
def eg:Nat→Nat→(Nat→Nat)→List Piece
 |0,_,_=>[]
 |n+1,j,u=> .a (.u .u64 (u j))::eg n (j+1) u
theorem jD (φ:c7) (u:Nat→Nat):∀n j,an φ (eg n j u)=(List.range' j n).map fun i=>Value.int .u64 ((u i:Nat):Int)
 |0,_=>rfl
 |n+1,j=>by
  rw[List.range'_succ,List.map_cons,←jD φ u n (j+1)]
  rfl
theorem lY (φ:c7) (l:List Nat) (n:Nat) (h:l.length=n):an φ [.arr .u64 l]=an φ (eg n 0 fun j=>l.getD j 0):=by
 rw[jD,dD]
 subst h
 apply List.ext_getElem (by simp)
 intro i h1 h2
 simp only[List.getElem_map,List.getElem_range']
 rw[List.length_map] at h1
 simp[List.getD_eq_getElem?_getD,List.getElem?_eq_getElem h1]
theorem dV (u:Nat→Nat) (f:Nat→Bool):∀n j,aI f (eg n j u)=true
 |0,_=>rfl
 |n+1,j=>dV u f n (j+1)
noncomputable def mi (s:ByteArray) (j:Nat):Nat:=(Ax s 80).getD j 0
def cB (u:Nat→Nat):Blk:=⟨eg 80 0 u,220,true,false,0⟩
theorem oF (u:Nat→Nat):er (cB u):=fun f=>dV u f 80 0
theorem OV (s:ByteArray) (u:Nat→Nat) (i:Int):dl (j4 s i) [cB u]=true:=cc (by
 intro b hb
 simp only[List.mem_cons,List.not_mem_nil,or_false] at hb
 subst hb
 exact oF u) (by show cw 1 _=true;kernel_rfl)
def zW (_:Nat):Nat:=0
theorem O1 (s:ByteArray) (hs:128≤s.size) (hl:s.size≤4611686018427387904):Goes Tryz.prog (.loop (ah Tryz.prog 217 2)) (.exit 0) (j4 s ((0:Nat):Int)) [cB zW] (j4 s ((80:Nat):Int)) [cB (mi s)]:=by
 refine Goes.before (Goes.after (TW s hs hl 80 rfl (Ax s) (nw s) (fun _=>rfl)) (dM _) ⟨⟨rfl,rfl,rfl,rfl,fun φ=> ?_⟩,trivial⟩ (OV _ _ _)) (dM _) ⟨⟨rfl,rfl,rfl,rfl,fun φ=> ?_⟩,trivial⟩ (Jb _ _ _)
 ·exact lY φ (Ax s 80) 80 (nw s 80)
 ·exact (lY φ (List.replicate 80 0) 80 List.length_replicate).symm
structure W8 where
 (a b c d e f g h:Nat)
def W8.cells (x:W8):List Piece:=[.a (.u .u64 x.a),.a (.u .u64 x.b),.a (.u .u64 x.c),.a (.u .u64 x.d),.a (.u .u64 x.e),.a (.u .u64 x.f),.a (.u .u64 x.g),.a (.u .u64 x.h)]
def aV (x:W8):V1:= .agg x.cells
noncomputable def Xj (s:ByteArray):Env:=nR DT 2 (ah Tryz.prog 217 2) (fo (j4 s ((0:Nat):Int)) [cB zW] (j4 s ((80:Nat):Int)) [cB (mi s)] (.exit 0))
noncomputable def GX (s:ByteArray):V1:= .agg (eg 80 0 (mi s))
theorem am0 (s:ByteArray):al (Xj s) 1000 217 [sS s] []=
  some ([ah Tryz.prog 217 2=ah Tryz.prog 217 2,(j4 s ((0:Nat):Int),[cB zW])=(j4 s ((0:Nat):Int),[cB zW]),dl (j4 s ((0:Nat):Int)) [cB zW]=true],.val (GX s)):=by kernel_rfl
theorem M8 (s:ByteArray) (hs:128≤s.size) (hl:s.size≤4611686018427387904):EnvOK (Xj s):=gy uK (bz (by simp only[List.length_cons]) (O1 s hs hl))
theorem RD (s:ByteArray) (hs:128≤s.size) (hl:s.size≤4611686018427387904):Spec 217 [sS s] (.val (GX s)):=
 af (M8 s hs hl) rfl (am0 s) ⟨rfl,rfl,OV _ _ _,trivial⟩ rfl rfl
noncomputable def Os (vs:List V1):Option (List Prop×AV):=
 match vs with
 |[.one (.v (.string s))]=>some ([128≤s.size∧s.size≤4611686018427387904],.val (GX s))
 |_=>none
theorem aia:aU ⟨217,Os⟩:=by
 intro vs ob r h ho
 simp only[Os] at h
 split at h
 ·obtain ⟨rfl,rfl⟩:=sI h
  exact RD _ ho.1.1 ho.1.2
 ·simp at h
def shaL:List Nat:=[4794697086780616226,8158064640168781261,13096744586834688815,16840607885511220156,4131703408338449720,6480981068601479193,10538285296894168987,12329834152419229976,15566598209576043074,1334009975649890238,2608012711638119052,6128411473006802146,8268148722764581231,9286055187155687089,11230858885718282805,13951009754708518548,16472876342353939154,17275323862435702243,1135362057144423861,2597628984639134821,3308224258029322869,5365058923640841347,6679025012923562964,8573033837759648693,10970295158949994411,12119686244451234320,12683024718118986047,13788192230050041572,14330467153632333762,15395433587784984357,489312712824947311,1452737877330783856,2861767655752347644,3322285676063803686,5560940570517711597,5996557281743188959,7280758554555802590,8532644243296465576,9350256976987008742,10552545826968843579,11727347734174303076,12113106623233404929,14000437183269869457,14369950271660146224,15101387698204529176,15463397548674623760,17586052441742319658,1182934255886127544,1847814050463011016,2177327727835720531,2830643537854262169,3796741975233480872,4115178125766777443,5681478168544905931,6601373596472566643,7507060721942968483,8399075790359081724,8693463985226723168,9568029438360202098,10144078919501101548,10430055236837252648,11840083180663258601,13761210420658862357,14299343276471374635,14566680578165727644,15097957966210449927,16922976911328602910,17689382322260857208,500013540394364858,748580250866718886,1242879168328830382,1977374033974150939,2944078676154940804,3659926193048069267,4368137639120453308,4836135668995329356,5532061633213252278,6448918945643986474,6902733635092675308,7801388544844847127]
def jd (i:Nat):Nat:=shaL.getD i 0
def ady:V1:= .agg (eg 80 0 jd)
theorem aqK:al E0 1000 218 [] []=some ([],.val ady):=by kernel_rfl
def ZK (v:W8) (k w:Nat):W8:=
 let one:=fx (fx (fx (fx v.h (nH (nH (xu v.e 14) (xu v.e 18)) (xu v.e 41))) (nH (B7 v.e v.f) (B7 (aiX v.e) v.g))) k) w
 let two:=fx (nH (nH (xu v.a 28) (xu v.a 34)) (xu v.a 39)) (nH (nH (B7 v.a v.b) (B7 v.a v.c)) (B7 v.b v.c))
 ⟨fx one two,v.a,v.b,v.c,fx v.d one,v.e,v.f,v.g⟩
def anb (x y:W8):W8:=⟨fx x.a y.a,fx x.b y.b,fx x.c y.c,fx x.d y.d,fx x.e y.e,fx x.f y.f,fx x.g y.g,fx x.h y.h⟩
def hB (x:W8):Blk:=⟨x.cells,174,true,false,0⟩
def z8W:W8:=⟨0,0,0,0,0,0,0,0⟩
noncomputable def ldW (p q:Nat) (u:Nat→Nat):CT:=⟨3000050,fun vs=>match vs with
 |[.one (.ptr b off)]=>match Nat.beq b p with
  |true=>some ([False],.val (u64 (u off)))
  |false=>match Nat.beq b q with
   |true=>some ([False],.val (u64 (jd off)))
   |false=>none
 |_=>none⟩
theorem Lo (p q:Nat) (u:Nat→Nat):aU (ldW p q u):=by
 intro vs ob r h ho
 simp only[ldW] at h
 split at h
 ·split at h
  ·obtain ⟨rfl,_⟩:=sI h
   exact ho.1.elim
  ·split at h
   ·obtain ⟨rfl,_⟩:=sI h
    exact ho.1.elim
   ·simp at h
 ·simp at h
theorem ah0:aU ⟨218,cV (.val ady)⟩:=tG (af envE0 rfl aqK trivial rfl rfl)
noncomputable def L96 (u:Nat→Nat):List CT:=ldW 2 3 u::⟨217,Os⟩::⟨218,cV (.val ady)⟩::O3
theorem YC (u:Nat→Nat):bw (L96 u):=⟨Lo _ _ _,aia,ah0,zB⟩
noncomputable def S96:FuncId→Nat→Bool:=fun f t=>match f with|206=>bf t [19,48,2000049,52,2000053,97]|163=>bf t [73,104,2000105,108,2000109,75]|_=>false
noncomputable def E96 (u:Nat→Nat):Env:=cd (L96 u) S96
def zL (i:Int):List AV:=bt 111 [(2,pV 0),(4,pV 1),(5,pV 2),(6,pV 3),(7,pV 4),(18,iV i)]
def x0 (h v:W8) (u:Nat→Nat):List Blk:=[hB h,hB z8W,cB u,cB jd,hB v]
def iT (i:Nat):Nat:=0+(i:Int).toNat*1
theorem lH (i:Nat):iT i=i:=by unfold iT;omega
theorem aoa (h v:W8) (u:Nat→Nat) (i:Nat):aH (E96 u) 1000 ((E96 u).S 206) (ah Tryz.prog 206 3) (zL (i:Int)) (x0 h v u) [true] (zL ((i:Int)+1)) 5=
  some ([decide ((i:Int)<80)=true,(0:Int)≤(i:Int)∧(i:Int)<((80:Nat):Int),dg Tryz.prog 50 (eg 80 0 jd) (iT i) (.one (.u .u64 (jd (iT i)))),(0:Int)≤(i:Int)∧(i:Int)<((80:Nat):Int),dg Tryz.prog 50 (eg 80 0 u) (iT i) (.one (.u .u64 (u (iT i)))),br ((i:Int)+1)],.normal,zL ((i:Int)+1),x0 h (ZK v (jd (iT i)) (u (iT i))) u):=by kernel_rfl
theorem ald (h v:W8) (u:Nat→Nat) (i:Nat):aH (E96 u) 1000 ((E96 u).S 206) (ah Tryz.prog 206 3) (zL (i:Int)) (x0 h v u) [false] (zL (i:Int)) 5=
  some ([decide ((i:Int)<80)=false],.exit 0,zL (i:Int),x0 h v u):=by kernel_rfl
theorem ai6:dm Tryz.prog 50=some false:=by kernel_rfl
theorem T9 (u:Nat→Nat) (n off:Nat) (h:off<n):dg Tryz.prog 50 (eg n 0 u) off (.one (.u .u64 (u off))):=by
 intro φ
 refine ⟨ai6,?_⟩
 rw[jD,List.getElem?_map,List.getElem?_range' h]
 simp[V1.conc,Atom.conc]
def vR (u:Nat→Nat) (v:W8):Nat→W8
 |0=>v
 |i+1=>ZK (vR u v i) (jd i) (u i)
theorem i4 (x:W8):er (hB x):=fun _=>rfl
theorem Pv (h v:W8) (u:Nat→Nat):∀b∈x0 h v u,er b:=by
 intro b hb
 simp only[x0,List.mem_cons,List.not_mem_nil,or_false] at hb
 rcases hb with rfl|rfl|rfl|rfl|rfl
 ·exact i4 _
 ·exact i4 _
 ·exact oF _
 ·exact oF _
 ·exact i4 _
theorem uo (h v:W8) (u:Nat→Nat):(x0 h v u).length=5:=by simp only[x0,List.length_cons,List.length_nil]
theorem ab7 (h v:W8) (u:Nat→Nat) (i:Int):dl (zL i) (x0 h v u)=true:=cc (Pv h v u) (by rw[uo];kernel_rfl)
theorem FW (u:Nat→Nat):EnvOK (E96 u):=aF (YC u) _
theorem X3 (h v:W8) (u:Nat→Nat) (i:Nat) (hi:i<80):Goes Tryz.prog (ah Tryz.prog 206 3) .normal (zL (i:Int)) (x0 h v u) (zL ((i:Int)+1)) (x0 h (ZK v (jd i) (u i)) u):=by
 have hr:=aoa h v u i
 rw[lH] at hr
 exact Runs.goes (FW u) ⟨_,_,hr,⟨decide_eq_true (by omega),by omega,T9 _ _ _ hi,by omega,T9 _ _ _ hi,by unfold br;omega,trivial⟩,ab7 _ _ _ _⟩
theorem aba (h:W8) (u:Nat→Nat) (n:Nat) (hn:n=80) (V:Nat→W8) (hV:∀i,V (i+1)=ZK (V i) (jd i) (u i)):
  Goes Tryz.prog (.loop (ah Tryz.prog 206 3)) (.exit 0) (zL ((0:Nat):Int)) (x0 h (V 0) u) (zL (n:Int)) (x0 h (V n) u):=by
 refine bJ (N:=n) (k:=5) (T:=fun i=>zL (i:Int)) (M:=fun i=>x0 h (V i) u) (by simp) (fun _ _=>uo _ _ _) (fun i hi=> ?_) ?_
 ·have:=X3 h (V i) u i (by omega)
  rw[←hV i] at this
  exact this
 ·exact Runs.goes (FW u) ⟨_,_,ald h (V n) u n,⟨decide_eq_false (by omega),trivial⟩,ab7 _ _ _ _⟩
noncomputable def vE (u:Nat→Nat) (h:W8):W8:=vR u h 80
theorem OY (h:W8) (u:Nat→Nat):Goes Tryz.prog (.loop (ah Tryz.prog 206 3)) (.exit 0) (zL ((0:Nat):Int)) (x0 h h u) (zL ((80:Nat):Int)) (x0 h (vE u h) u):=aba h u 80 rfl (vR u h) (fun _=>rfl)
noncomputable def agA (h:W8) (u:Nat→Nat):Env:=nR (E96 u) 3 (ah Tryz.prog 206 3) (fo (zL ((0:Nat):Int)) (x0 h h u) (zL ((80:Nat):Int)) (x0 h (vE u h) u) (.exit 0))
theorem VZ (h:W8) (u:Nat→Nat):EnvOK (agA h u):=gy (FW u) (bz (by rw[uo,uo]) (OY h u))
noncomputable def ss (h:W8) (s:ByteArray):W8:=anb h (vE (mi s) h)
theorem r96 (h:W8) (s:ByteArray):al (agA h (mi s)) 1000 206 [aV h,sS s] []=
  some ([128≤s.size∧s.size≤4611686018427387904,ah Tryz.prog 206 3=ah Tryz.prog 206 3,(zL ((0:Nat):Int),x0 h h (mi s))=(zL ((0:Nat):Int),x0 h h (mi s)),dl (zL ((0:Nat):Int)) (x0 h h (mi s))=true],.val (aV (ss h s))):=by kernel_rfl
theorem aah (h:W8) (s:ByteArray) (h1:128≤s.size) (h2:s.size≤4611686018427387904):Spec 206 [aV h,sS s] (.val (aV (ss h s))):=
 af (VZ h (mi s)) rfl (r96 h s) ⟨⟨h1,h2⟩,rfl,rfl,ab7 _ _ _ _,trivial⟩ rfl rfl
noncomputable def Pm (vs:List V1):Option (List Prop×AV):=
 match vs with
 |[.agg [.a (.u .u64 a),.a (.u .u64 b),.a (.u .u64 c),.a (.u .u64 d),.a (.u .u64 e),.a (.u .u64 f),.a (.u .u64 g),.a (.u .u64 h)],.one (.v (.string s))]=>some ([128≤s.size∧s.size≤4611686018427387904],.val (aV (ss ⟨a,b,c,d,e,f,g,h⟩ s)))
 |_=>none
theorem amu:aU ⟨206,Pm⟩:=by
 intro vs ob r h ho
 simp only[Pm] at h
 split at h
 ·obtain ⟨rfl,rfl⟩:=sI h
  exact aah _ _ ho.1.1 ho.1.2
 ·simp at h
def tB (e:TypeId):Blk:=⟨eg 80 0 jd,e,true,true,0⟩
noncomputable def S65:FuncId→Nat→Bool:=fun f t=>match f with|163=>bf t [19,23,27,29,30,31,33,4000033,35,36,2000037,39,40,2000041,44,45,2000046,48,49,2000050,70,4000070,21,73,104,2000105,108,2000109,75]|_=>false
noncomputable def KL (u:Nat→Nat):Env:=cd (ldW 3 0 u::O3) S65
theorem sG (u:Nat→Nat):EnvOK (KL u):=aF (show bw (ldW 3 0 u::O3) from ⟨Lo _ _ _,zB⟩) _
def kD (s:ByteArray) (c:Nat) (i:Int):List AV:=bt 167 [(1,.val (sS s)),(2,.val (.one (.sl 0 0 80 c))),(3,pV 1),(6,pV 2),(7,pV 3),(8,iV i)]
def kg (e:TypeId) (h:W8) (w:Blk):List Blk:=[tB e,hB h,hB z8W,w]
def mA (c:Nat) (i:Int):List AV:=bt 167 [(2,.val (.one (.sl 0 0 80 c))),(3,pV 1),(6,pV 2),(7,pV 3),(11,pV 4),(12,iV i)]
def lg (e:TypeId) (h v:W8) (u:Nat→Nat):List Blk:=[tB e,hB h,hB z8W,cB u,hB v]
end Go.Ev.H5
namespace Go.Ev
open Go Go.Proofs Go.RowKit
def iD:Option (List Prop×List Bool×AV×List Blk)→Option (List Prop×AV)
 |some (o,_,r,_)=>some (o,r)
 |none=>none
theorem mo {x:Option (List Prop×List Bool×AV×List Blk)} {o:List Prop} {r:AV} (h:iD x=some (o,r)):∃c m,x=some (o,c,r,m):=by
 unfold iD at h
 split at h
 ·rename_i o' c r' m
  obtain ⟨rfl,rfl⟩:=sI h
  exact ⟨c,m,rfl⟩
 ·simp at h
end Go.Ev
namespace Go.Ev.H5
open Go Go.Proofs Go.RowKit
theorem alC (e:TypeId) (h:W8) (c:Nat) (s:ByteArray) (l:List Nat) (i:Nat):aH (KL zW) 1000 (Env.S (KL zW) 163) (ah Tryz.prog 163 3) (kD s c (↑i:Int)) (kg e h (wB l)) [true,true] (kD s c ((↑i:Int)+(1:Int))) 4=
  some ([decide ((↑i:Int)<(80:Int))=true,decide ((↑i:Int)<(16:Int))=true,br ((8:Int)*(↑i:Int)),br ((8:Int)*(↑i:Int)),br ((8:Int)*(↑i:Int)+(8:Int)),(0:Int)≤(8:Int)*(↑i:Int)+(8:Int)∧(8:Int)*(↑i:Int)+(8:Int)≤(↑(ByteArray.size s):Int),(0:Int)≤(8:Int)*(↑i:Int)∧(8:Int)*(↑i:Int)≤(↑(Int.toNat ((8:Int)*(↑i:Int)+(8:Int))):Int),8≤ByteArray.size (ByteArray.extract s (Int.toNat ((8:Int)*(↑i:Int))) (Int.toNat ((8:Int)*(↑i:Int)+(8:Int)))),(0:Int)≤(↑i:Int)∧(↑i:Int)<((80:Nat):Int),0+i*1<List.length l,br ((↑i:Int)+(1:Int))],.normal,kD s c ((i:Int)+1),kg e h (wB (l.set (iT i) (lN (s.extract (8*i) (8*i+8)) 0)))):=by kernel_rfl
theorem alX (e:TypeId) (h:W8) (c:Nat) (s:ByteArray) (l:List Nat) (i:Nat):aH (KL zW) 1000 (Env.S (KL zW) 163) (ah Tryz.prog 163 3) (kD s c (↑i:Int)) (kg e h (wB l)) [true,false] (kD s c ((↑i:Int)+(1:Int))) 4=
  some ([decide ((↑i:Int)<(80:Int))=true,decide ((↑i:Int)<(16:Int))=false,br ((↑i:Int)-(15:Int)),(0:Int)≤(↑i:Int)-(15:Int)∧(↑i:Int)-(15:Int)<((80:Nat):Int),0+Int.toNat ((↑i:Int)-(15:Int))*1<List.length l,br ((↑i:Int)-(2:Int)),(0:Int)≤(↑i:Int)-(2:Int)∧(↑i:Int)-(2:Int)<((80:Nat):Int),0+Int.toNat ((↑i:Int)-(2:Int))*1<List.length l,br ((↑i:Int)-(16:Int)),(0:Int)≤(↑i:Int)-(16:Int)∧(↑i:Int)-(16:Int)<((80:Nat):Int),0+Int.toNat ((↑i:Int)-(16:Int))*1<List.length l,br ((↑i:Int)-(7:Int)),(0:Int)≤(↑i:Int)-(7:Int)∧(↑i:Int)-(7:Int)<((80:Nat):Int),0+Int.toNat ((↑i:Int)-(7:Int))*1<List.length l,(0:Int)≤(↑i:Int)∧(↑i:Int)<((80:Nat):Int),0+i*1<List.length l,br ((↑i:Int)+(1:Int))],.normal,kD s c ((i:Int)+1),kg e h (wB (l.set (iT i) (adC l i)))):=by kernel_rfl
theorem aoE (e:TypeId) (h:W8) (c:Nat) (s:ByteArray) (l:List Nat) (i:Nat):aH (KL zW) 1000 (Env.S (KL zW) 163) (ah Tryz.prog 163 3) (kD s c (↑i:Int)) (kg e h (wB l)) [false] (kD s c (↑i:Int)) 4=
  some ([decide ((↑i:Int)<(80:Int))=false],(.exit 0),kD s c (i:Int),kg e h (wB l)):=by kernel_rfl
theorem apd (e:TypeId) (h v:W8) (u:Nat→Nat) (c i:Nat):aH (KL u) 1000 (Env.S (KL u) 163) (ah Tryz.prog 163 11) (mA c (i:Int)) (lg e h v u) [true] (mA c ((i:Int)+1)) 5=
  some ([decide ((i:Int)<80)=true,(0:Int)≤(i:Int)∧(i:Int)<((80:Nat):Int),dg Tryz.prog 50 (eg 80 0 jd) (iT i) (.one (.u .u64 (jd (iT i)))),(0:Int)≤(i:Int)∧(i:Int)<((80:Nat):Int),dg Tryz.prog 50 (eg 80 0 u) (iT i) (.one (.u .u64 (u (iT i)))),br ((i:Int)+1)],.normal,mA c ((i:Int)+1),lg e h (ZK v (jd (iT i)) (u (iT i))) u):=by kernel_rfl
theorem alY (e:TypeId) (h:W8) (v:W8) (u:Nat→Nat) (c:Nat) (i:Nat):aH (KL u) 1000 (Env.S (KL u) 163) (ah Tryz.prog 163 11) (mA c (↑i:Int)) (lg e h v u) [false] (mA c (↑i:Int)) 5=
  some ([decide ((↑i:Int)<(80:Int))=false],(.exit 2),mA c (i:Int),lg e h v u):=by kernel_rfl
theorem JP (e:TypeId) (h:W8) (w:Blk) (hw:er w):∀b∈kg e h w,er b:=by
 intro b hb
 simp only[kg,List.mem_cons,List.not_mem_nil,or_false] at hb
 rcases hb with rfl|rfl|rfl|rfl
 ·exact fun f=>dV _ f _ _
 ·exact i4 _
 ·exact i4 _
 ·exact hw
theorem qB (e:TypeId) (h:W8) (w:Blk):(kg e h w).length=4:=by simp only[kg,List.length_cons,List.length_nil]
theorem y6 (e:TypeId) (h:W8) (w:Blk) (hw:er w) (s:ByteArray) (c:Nat) (i:Int):dl (kD s c i) (kg e h w)=true:=cc (JP e h w hw) (by rw[qB];kernel_rfl)
theorem J2 (e:TypeId) (h v:W8) (u:Nat→Nat):∀b∈lg e h v u,er b:=by
 intro b hb
 simp only[lg,List.mem_cons,List.not_mem_nil,or_false] at hb
 rcases hb with rfl|rfl|rfl|rfl|rfl
 ·exact fun f=>dV _ f _ _
 ·exact i4 _
 ·exact i4 _
 ·exact oF _
 ·exact i4 _
theorem qK (e:TypeId) (h v:W8) (u:Nat→Nat):(lg e h v u).length=5:=by simp only[lg,List.length_cons,List.length_nil]
theorem NQ (e:TypeId) (h v:W8) (u:Nat→Nat) (c:Nat) (i:Int):dl (mA c i) (lg e h v u)=true:=cc (J2 e h v u) (by rw[qK];kernel_rfl)
theorem Us (e:TypeId) (h:W8) (c:Nat) (s:ByteArray) (hs:128≤s.size) (hl:s.size≤4611686018427387904) (i:Nat) (hi:i<80) (l:List Nat) (hlen:l.length=80):
  Goes Tryz.prog (ah Tryz.prog 163 3) .normal (kD s c (i:Int)) (kg e h (wB l)) (kD s c ((i:Int)+1)) (kg e h (wB (l.set i (bif decide (i<16) then lN s (8*i) else Cl l i)))):=by
 by_cases h16:i<16
 ·have hr:=alC e h c s l i
  rw[show (Int.toNat ((8:Int)*(i:Int)))=8*i by omega,show (Int.toNat ((8:Int)*(i:Int)+8))=8*i+8 by omega,yR s (8*i) (8*i+8) (by omega) (by omega),lH] at hr
  rw[decide_eq_true h16,cond_true]
  exact Runs.goes (sG zW) ⟨_,_,hr,⟨decide_eq_true (by omega),decide_eq_true (by omega),by unfold br;omega,by unfold br;omega,by unfold br;omega,by omega,by omega,by rw[fM _ _ _ (by omega)];omega,by omega,by omega,by unfold br;omega,trivial⟩,y6 _ _ _ (qU _) _ _ _⟩
 ·have hr:=alX e h c s l i
  rw[lH,Vi] at hr
  rw[decide_eq_false h16,cond_false]
  exact Runs.goes (sG zW) ⟨_,_,hr,⟨decide_eq_true (by omega),decide_eq_false (by omega),by unfold br;omega,by omega,by omega,by unfold br;omega,by omega,by omega,by unfold br;omega,by omega,by omega,by unfold br;omega,by omega,by omega,by omega,by omega,by unfold br;omega,trivial⟩,y6 _ _ _ (qU _) _ _ _⟩
theorem RU (e:TypeId) (h0:W8) (c:Nat) (s:ByteArray) (hs:128≤s.size) (hl:s.size≤4611686018427387904) (n:Nat) (hn:n=80) (L:Nat→List Nat) (hL:∀i,(L i).length=80) (h:∀i,L (i+1)=(L i).set i (bif decide (i<16) then lN s (8*i) else Cl (L i) i)):
  Goes Tryz.prog (.loop (ah Tryz.prog 163 3)) (.exit 0) (kD s c ((0:Nat):Int)) (kg e h0 (wB (L 0))) (kD s c (n:Int)) (kg e h0 (wB (L n))):=by
 refine bJ (N:=n) (k:=4) (T:=fun i=>kD s c (i:Int)) (M:=fun i=>kg e h0 (wB (L i))) (by simp) (fun _ _=>qB _ _ _) (fun i hi=> ?_) ?_
 ·have:=Us e h0 c s hs hl i (by omega) (L i) (hL i)
  rw[←h i] at this
  exact this
 ·exact Runs.goes (sG zW) ⟨_,_,aoE e h0 c s (L n) n,⟨decide_eq_false (by omega),trivial⟩,y6 _ _ _ (qU _) _ _ _⟩
theorem ag5 (e:TypeId) (h:W8) (c:Nat) (s:ByteArray) (hs:128≤s.size) (hl:s.size≤4611686018427387904):
  Goes Tryz.prog (.loop (ah Tryz.prog 163 3)) (.exit 0) (kD s c ((0:Nat):Int)) (kg e h (cB zW)) (kD s c ((80:Nat):Int)) (kg e h (cB (mi s))):=by
 refine Goes.before (Goes.after (RU e h c s hs hl 80 rfl (Ax s) (nw s) (fun _=>rfl)) (dM _) ⟨⟨rfl,rfl,rfl,rfl,fun φ=>rfl⟩,⟨rfl,rfl,rfl,rfl,fun φ=>rfl⟩,⟨rfl,rfl,rfl,rfl,fun φ=>rfl⟩,⟨rfl,rfl,rfl,rfl,fun φ=> ?_⟩,trivial⟩ (y6 _ _ _ (oF _) _ _ _))
  (dM _) ⟨⟨rfl,rfl,rfl,rfl,fun φ=>rfl⟩,⟨rfl,rfl,rfl,rfl,fun φ=>rfl⟩,⟨rfl,rfl,rfl,rfl,fun φ=>rfl⟩,⟨rfl,rfl,rfl,rfl,fun φ=> ?_⟩,trivial⟩ (y6 _ _ _ (qU _) _ _ _)
 ·exact lY φ (Ax s 80) 80 (nw s 80)
 ·exact (lY φ (List.replicate 80 0) 80 List.length_replicate).symm
theorem Vn (e:TypeId) (h v:W8) (u:Nat→Nat) (c i:Nat) (hi:i<80):Goes Tryz.prog (ah Tryz.prog 163 11) .normal (mA c (i:Int)) (lg e h v u) (mA c ((i:Int)+1)) (lg e h (ZK v (jd i) (u i)) u):=by
 have hr:=apd e h v u c i
 rw[lH] at hr
 exact Runs.goes (sG u) ⟨_,_,hr,⟨decide_eq_true (by omega),by omega,T9 _ _ _ hi,by omega,T9 _ _ _ hi,by unfold br;omega,trivial⟩,NQ _ _ _ _ _ _⟩
theorem VI (e:TypeId) (h:W8) (u:Nat→Nat) (c n:Nat) (hn:n=80) (V:Nat→W8) (hV:∀i,V (i+1)=ZK (V i) (jd i) (u i)):
  Goes Tryz.prog (.loop (ah Tryz.prog 163 11)) (.exit 2) (mA c ((0:Nat):Int)) (lg e h (V 0) u) (mA c (n:Int)) (lg e h (V n) u):=by
 refine bJ (N:=n) (k:=5) (T:=fun i=>mA c (i:Int)) (M:=fun i=>lg e h (V i) u) (by simp) (fun _ _=>qK _ _ _ _) (fun i hi=> ?_) ?_
 ·have:=Vn e h (V i) u c i (by omega)
  rw[←hV i] at this
  exact this
 ·exact Runs.goes (sG u) ⟨_,_,alY e h (V n) u c n,⟨decide_eq_false (by omega),trivial⟩,NQ _ _ _ _ _ _⟩
theorem Pp (e:TypeId) (h:W8) (u:Nat→Nat) (c:Nat):Goes Tryz.prog (.loop (ah Tryz.prog 163 11)) (.exit 2) (mA c ((0:Nat):Int)) (lg e h h u) (mA c ((80:Nat):Int)) (lg e h (vE u h) u):=VI e h u c 80 rfl (vR u h) (fun _=>rfl)
noncomputable def agm (e:TypeId) (h:W8) (s:ByteArray) (c:Nat):Env:=nR (KL (mi s)) 3 (ah Tryz.prog 163 3) (fo (kD s c ((0:Nat):Int)) (kg e h (cB zW)) (kD s c ((80:Nat):Int)) (kg e h (cB (mi s))) (.exit 0))
noncomputable def fY (E:Env) (k:Nat) (y:Code) (f:List AV→List Blk→List Bool→E7):Env:={E with lp:=fun j=>match Nat.beq j k with|true=>some (y,f)|false=>E.lp j}
theorem da {E:Env} (hE:EnvOK E) {k:Nat} {y:Code} {f:List AV→List Blk→List Bool→E7} (h:pa E.P (.loop y) f):EnvOK (fY E k y f):=by
 refine ⟨hE.mixed,hE.fns,hE.fms,?_,hE.fbs⟩
 intro j y' f' hj
 simp only[fY] at hj
 split at hj
 ·obtain ⟨rfl,rfl⟩:=sI hj
  exact h
 ·exact hE.lps j y' f' hj
noncomputable def YA (e:TypeId) (h:W8) (s:ByteArray) (c:Nat):Env:=fY (agm e h s c) 11 (ah Tryz.prog 163 11) (fo (mA c ((0:Nat):Int)) (lg e h h (mi s)) (mA c ((80:Nat):Int)) (lg e h (vE (mi s) h) (mi s)) (.exit 2))
theorem Rv (e:TypeId) (h:W8) (s:ByteArray) (c:Nat) (hs:128≤s.size) (hl:s.size≤4611686018427387904):EnvOK (agm e h s c):=gy (sG _) (bz (by rw[qB,qB]) (ag5 e h c s hs hl))
theorem TZ (e:TypeId) (h:W8) (s:ByteArray) (c:Nat) (hs:128≤s.size) (hl:s.size≤4611686018427387904):EnvOK (YA e h s c):=da (Rv e h s c hs hl) (bz (by rw[qK,qK]) (Pp e h (mi s) c))
def slK (c:Nat):V1:= .one (.sl 0 0 80 c)
theorem r65 (e:TypeId) (h:W8) (s:ByteArray) (c:Nat):iD (ep (YA e h s c) (dH (YA e h s c) 1000) 163 [aV h,sS s,slK c] [tB e] [])=
  some ([ah Tryz.prog 163 3=ah Tryz.prog 163 3,(kD s c ((0:Nat):Int),kg e h (cB zW))=(kD s c ((0:Nat):Int),kg e h (cB zW)),dl (kD s c ((0:Nat):Int)) (kg e h (cB zW))=true,
   ah Tryz.prog 163 11=ah Tryz.prog 163 11,(mA c ((0:Nat):Int),lg e h h (mi s))=(mA c ((0:Nat):Int),lg e h h (mi s)),dl (mA c ((0:Nat):Int)) (lg e h h (mi s))=true],.val (aV (ss h s))):=by kernel_rfl
end Go.Ev.H5
