/- Keyed sums, nodes, and the law, of every input; Sums of numbers, bytes, and spots; The group of the spots; Z; Bytes of numbers and of points -/
import Derived.Test.YtjiiaeljpllahaaGreatPartL
import Derived.Test.YtjiiaeljpllahaaGreatPartK
import Derived.Test.YtjiiaeljpllahaaGreatPartJ
import Derived.Test.YtjiiaeljpllahaaGreatPartI
import Derived.KernelRfl
import Derived.Test.YtjiiaeljpllahaaGreatPartH
namespace Go.Ev.H5
open Go Go.Proofs Go.RowKit
def Bg:Nat:=4294967296
def rR (x n:Nat):Nat:=x*2^(32-n)%Bg%Bg|||x/2^n%Bg
def Xt (x n:Nat):Nat:=x/2^n%Bg|||x*2^(32-n)%Bg%Bg
theorem Li (x n:Nat):Xt x n=rR x n:=Nat.or_comm _ _
def vv:List Nat:=[2,6,7,11,13,17,18,19,22,25]
theorem acE (x:Nat):∀n,n∈vv→al E0 1000 134 [u32 x,.one (.i (n:Int))] []=some ([],.val (u32 (rR x n))):=by
 intro n h
 simp only[vv,List.mem_cons,List.not_mem_nil,or_false] at h
 rcases h with rfl|rfl|rfl|rfl|rfl|rfl|rfl|rfl|rfl|rfl<;>kernel_rfl
theorem acN (x:Nat):∀n,n∈vv→al E0 1000 156 [u32 x,.one (.i (n:Int))] []=some ([],.val (u32 (Xt x n))):=by
 intro n h
 simp only[vv,List.mem_cons,List.not_mem_nil,or_false] at h
 rcases h with rfl|rfl|rfl|rfl|rfl|rfl|rfl|rfl|rfl|rfl<;>kernel_rfl
def rP (vs:List V1):Option (List Prop×AV):=
 match vs with
 |[.one (.u .u32 x),.one (.i (.ofNat n))]=>match bf n vv with
  |true=>some ([],.val (u32 (rR x n)))
  |false=>none
 |_=>none
theorem wx {n:Nat}:∀{l:List Nat},bf n l=true→n∈l
 |[],h=>by simp[bf] at h
 |a::l,h=>by
  simp only[bf,Bool.or_eq_true] at h
  rcases h with h|h
  ·rw[Nat.eq_of_beq_eq_true h];exact List.mem_cons_self
  ·exact List.mem_cons_of_mem _ (wx h)
theorem aiq:aU ⟨134,rP⟩:=by
 intro vs ob r h _
 simp only[rP] at h
 split at h
 ·split at h
  ·rename_i hn
   obtain ⟨_,rfl⟩:=sI h
   exact af envE0 rfl (acE _ _ (wx hn)) trivial rfl rfl
  ·simp at h
 ·simp at h
theorem af4:aU ⟨156,rP⟩:=by
 intro vs ob r h _
 simp only[rP] at h
 split at h
 ·rename_i x n
  split at h
  ·rename_i hn
   obtain ⟨_,rfl⟩:=sI h
   have:=af envE0 rfl (acN x n (wx hn)) trivial rfl rfl
   rw[Li] at this
   exact this
  ·simp at h
 ·simp at h
def nX (x y:Nat):Nat:=x%Bg^^^y%Bg
def DE (x y:Nat):Nat:=x%Bg&&&y%Bg
def Yo (x y:Nat):Nat:=x%Bg|||y%Bg
def fy (x y:Nat):Nat:=(x+y)%Bg
def ajs (x:Nat):Nat:=Bg-1-x%Bg
def sg0 (x:Nat):Nat:=nX (nX (rR x 7) (rR x 18)) (x/2^3)
def sg1 (y:Nat):Nat:=nX (nX (rR y 17) (rR y 19)) (y/2^10)
def scP (l:List Nat) (i:Nat):Nat:=fy (fy (fy (l.getD (xH i 16) 0) (sg0 (l.getD (xH i 15) 0))) (l.getD (xH i 7) 0)) (sg1 (l.getD (xH i 2) 0))
def scQ (l:List Nat) (i:Nat):Nat:=fy (fy (fy (l.getD (xH i 16) 0) (l.getD (xH i 7) 0)) (sg0 (l.getD (xH i 15) 0))) (sg1 (l.getD (xH i 2) 0))
theorem GN (a b c:Nat):fy (fy a b) c=fy (fy a c) b:=by
 unfold fy
 rw[Nat.mod_add_mod,Nat.mod_add_mod]
 congr 1;omega
theorem Z9 (l:List Nat) (i:Nat):scQ l i=scP l i:=by unfold scQ scP;rw[GN (l.getD (xH i 16) 0)]
def vI (l:List Nat):Blk:=⟨[.arr .u32 l],159,true,false,0⟩
noncomputable def Up:List CT:=[⟨134,rP⟩,⟨156,rP⟩]
theorem BI:bw Up:=⟨aiq,af4,trivial⟩
noncomputable def aeH:FuncId→Nat→Bool:=fun f t=>match f with
 |132=>bf t [9,12,16,17,22,23,24,30,31,32,38,39,40,43,4000043,45,46,2000047,49,50,2000051,70,71,2000072,76,77,2000078,82,4000082,83]
 |94=>bf t [19,23,27,28,33,34,35,41,42,43,49,50,51,54,4000054,56,57,2000058,60,61,2000062,65,66,2000067,69,70,2000071,91,4000091,21,94,125,2000126,131,2000132,96]
 |_=>false
def kJ (s:ByteArray) (i:Int):List AV:=bt 85 [(0,.val (sS s)),(2,pV 0),(8,iV i)]
noncomputable def Cp:Env:=cd Up aeH
def sh4 (b n:Nat):Nat:=b%Bg*2^n%Bg
def wd4 (s:ByteArray) (a b c d:Nat):Nat:=Yo (Yo (Yo (sh4 (gR s a) 24) (sh4 (gR s b) 16)) (sh4 (gR s c) 8)) (gR s d%Bg)
def Kb (s:ByteArray) (z:Int):Prop:=0≤z∧z<(s.size:Int)
def ob4 (s:ByteArray) (i:Nat):List Prop:=[br (4*(i:Int)),Kb s (4*(i:Int)),br (4*(i:Int)),br (4*(i:Int)+1),Kb s (4*(i:Int)+1),br (4*(i:Int)),br (4*(i:Int)+2),Kb s (4*(i:Int)+2),br (4*(i:Int)),br (4*(i:Int)+3),Kb s (4*(i:Int)+3)]
def wdi (s:ByteArray) (i:Nat):Nat:=wd4 s (4*(i:Int)).toNat (4*(i:Int)+1).toNat (4*(i:Int)+2).toNat (4*(i:Int)+3).toNat
def rz (i:Nat):Prop:=(0:Int)≤(i:Int)∧(i:Int)<((64:Nat):Int)
def TK (d:Nat) (l:List Nat) (i:Nat):List Prop:=[br ((i:Int)-(d:Int)),(0:Int)≤(i:Int)-(d:Int)∧(i:Int)-(d:Int)<((64:Nat):Int),xH i d<l.length]
theorem aqO (s:ByteArray) (l:List Nat) (i:Nat):aH Cp 1000 (Env.S Cp 132) (ah Tryz.prog 132 2) (kJ s (i:Int)) [vI l] [true,true] (kJ s ((i:Int)+1)) 1=
  some ((decide ((i:Int)<64)=true)::(decide ((i:Int)<16)=true)::(ob4 s i++[rz i,iT i<l.length,br ((i:Int)+1)]),.normal,kJ s ((i:Int)+1),[vI (l.set (iT i) (wdi s i))]):=by kernel_rfl
theorem aoh (s:ByteArray) (l:List Nat) (i:Nat):aH Cp 1000 (Env.S Cp 132) (ah Tryz.prog 132 2) (kJ s (i:Int)) [vI l] [true,false] (kJ s ((i:Int)+1)) 1=
  some ((decide ((i:Int)<64)=true)::(decide ((i:Int)<16)=false)::(TK 15 l i++TK 2 l i++TK 16 l i++TK 7 l i++[rz i,iT i<l.length,br ((i:Int)+1)]),.normal,kJ s ((i:Int)+1),[vI (l.set (iT i) (scP l i))]):=by kernel_rfl
theorem aqr (s:ByteArray) (l:List Nat) (i:Nat):aH Cp 1000 (Env.S Cp 132) (ah Tryz.prog 132 2) (kJ s (i:Int)) [vI l] [false] (kJ s (i:Int)) 1=
  some ([decide ((i:Int)<64)=false],.exit 0,kJ s (i:Int),[vI l]):=by kernel_rfl
def K4 (s:ByteArray) (i:Nat):Nat:=wd4 s i (i+1) (i+2) (i+3)
theorem Lc (s:ByteArray) (i:Nat):wdi s i=K4 s (4*i):=by
 unfold wdi K4
 rw[show (4*(i:Int)).toNat=4*i by omega,show (4*(i:Int)+1).toNat=4*i+1 by omega,show (4*(i:Int)+2).toNat=4*i+2 by omega,show (4*(i:Int)+3).toNat=4*i+3 by omega]
def Nv (s:ByteArray) (l:List Nat) (i:Nat):Nat:=bif decide (i<16) then K4 s (4*i) else scP l i
def Dh (s:ByteArray):Nat→List Nat
 |0=>List.replicate 64 0
 |i+1=>(Dh s i).set i (Nv s (Dh s i) i)
theorem rk (s:ByteArray):∀i,(Dh s i).length=64
 |0=>List.length_replicate
 |i+1=>by rw[Dh,List.length_set];exact rk s i
theorem jj (l:List Nat):er (vI l):=fun _=>rfl
theorem XG {b:Blk} (h:er b):∀c∈[b],er c:=by
 intro c hc
 rw[List.mem_singleton] at hc
 subst hc;exact h
theorem yQ (s:ByteArray) (w:Blk) (hw:er w) (i:Int):dl (kJ s i) [w]=true:=cc (XG hw) (by show cw 1 _=true;kernel_rfl)
theorem uh:EnvOK Cp:=aF BI _
theorem acn {s:ByteArray} (hs:64≤s.size) {i:Nat} (h:i<16):cL (ob4 s i):=by
 have a:∀z:Int,0≤z→z<64→br z:=fun z h1 h2=>by unfold br;omega
 have b:∀z:Int,0≤z→z<64→Kb s z:=fun z h1 h2=>by unfold Kb;omega
 exact ⟨a _ (by omega) (by omega),b _ (by omega) (by omega),a _ (by omega) (by omega),a _ (by omega) (by omega),b _ (by omega) (by omega),a _ (by omega) (by omega),a _ (by omega) (by omega),b _ (by omega) (by omega),a _ (by omega) (by omega),a _ (by omega) (by omega),b _ (by omega) (by omega),trivial⟩
theorem ab0 {d i:Nat} {l:List Nat} (hl:l.length=64) (h1:d≤i) (h2:i<64) (h3:0<d):br ((i:Int)-(d:Int))∧((0:Int)≤(i:Int)-(d:Int)∧(i:Int)-(d:Int)<((64:Nat):Int))∧xH i d<l.length:=by
 refine ⟨by unfold br;omega,by omega,?_⟩
 unfold xH;omega
theorem IN {i:Nat} {l:List Nat} (hl:l.length=64) (h:i<64):cL [rz i,iT i<l.length,br ((i:Int)+1)]:=
 ⟨by unfold rz;omega,by rw[lH];omega,by unfold br;omega,trivial⟩
theorem bq:∀{a b:List Prop},cL a→cL b→cL (a++b)
 |[],_,_,hb=>hb
 |_::_,_,ha,hb=>⟨ha.1,bq ha.2 hb⟩
theorem NG {s:ByteArray} (hs:64≤s.size) {i:Nat} {l:List Nat} (hl:l.length=64) (h:i<16):cL ((decide ((i:Int)<64)=true)::(decide ((i:Int)<16)=true)::(ob4 s i++[rz i,iT i<l.length,br ((i:Int)+1)])):=
 ⟨decide_eq_true (by omega),decide_eq_true (by omega),bq (acn hs h) (IN hl (by omega))⟩
def Zb (l:List Nat) (i:Nat):List Prop:=TK 15 l i++TK 2 l i++TK 16 l i++TK 7 l i++[rz i,iT i<l.length,br ((i:Int)+1)]
theorem Mn {i:Nat} {l:List Nat} (hl:l.length=64) (h1:16≤i) (h2:i<64):cL ((decide ((i:Int)<64)=true)::(decide ((i:Int)<16)=false)::Zb l i):=by
 have g:∀d,0<d→d≤16→cL (TK d l i):=fun d h3 h4=>by
  obtain ⟨a,b,c⟩:=ab0 (d:=d) hl (by omega) h2 h3
  exact ⟨a,b,c,trivial⟩
 exact ⟨decide_eq_true (by omega),decide_eq_false (by omega),bq (bq (bq (bq (g 15 (by omega) (by omega)) (g 2 (by omega) (by omega))) (g 16 (by omega) (by omega))) (g 7 (by omega) (by omega))) (IN hl h2)⟩
theorem QQ (s:ByteArray) (hs:64≤s.size) (i:Nat) (hi:i<64) (l:List Nat) (hlen:l.length=64):
  Goes Tryz.prog (ah Tryz.prog 132 2) .normal (kJ s (i:Int)) [vI l] (kJ s ((i:Int)+1)) [vI (l.set i (Nv s l i))]:=by
 unfold Nv
 by_cases h16:i<16
 ·have hr:=aqO s l i
  rw[Lc] at hr
  have ho:=NG hs hlen h16
  rw[lH] at hr ho
  rw[decide_eq_true h16,cond_true]
  exact Runs.goes uh ⟨_,_,hr,ho,yQ _ _ (jj _) _⟩
 ·have hr:=aoh s l i
  have ho:=Mn hlen (by omega) hi
  unfold Zb at ho
  rw[lH] at hr ho
  rw[decide_eq_false h16,cond_false]
  exact Runs.goes uh ⟨_,_,hr,ho,yQ _ _ (jj _) _⟩
theorem nl (φ:c7) (u:Nat→Nat):∀n j,an φ (bp n j u)=(List.range' j n).map fun i=>Value.int .u32 ((u i:Nat):Int)
 |0,_=>rfl
 |n+1,j=>by
  rw[List.range'_succ,List.map_cons,←nl φ u n (j+1)]
  rfl
theorem me (φ:c7) (l:List Nat) (n:Nat) (h:l.length=n):an φ [.arr .u32 l]=an φ (bp n 0 fun j=>l.getD j 0):=by
 rw[nl,dD]
 subst h
 apply List.ext_getElem (by simp)
 intro i h1 h2
 simp only[List.getElem_map,List.getElem_range']
 rw[List.length_map] at h1
 simp[List.getD_eq_getElem?_getD,List.getElem?_eq_getElem h1]
noncomputable def AH (s:ByteArray) (j:Nat):Nat:=(Dh s 64).getD j 0
def BR (u:Nat→Nat):Blk:=⟨bp 64 0 u,159,true,false,0⟩
theorem j8 (u:Nat→Nat):er (BR u):=fun f=>gY u f 64 0
theorem Uz (s:ByteArray) (hs:64≤s.size):Goes Tryz.prog (.loop (ah Tryz.prog 132 2)) (.exit 0) (kJ s ((0:Nat):Int)) [BR zW] (kJ s ((64:Nat):Int)) [BR (AH s)]:=by
 have h:Goes Tryz.prog (.loop (ah Tryz.prog 132 2)) (.exit 0) (kJ s ((0:Nat):Int)) [vI (Dh s 0)] (kJ s ((64:Nat):Int)) [vI (Dh s 64)]:=by
  refine bJ (N:=64) (k:=1) (T:=fun i=>kJ s (i:Int)) (M:=fun i=>[vI (Dh s i)]) (by simp) (fun _ _=>rfl) (fun i hi=>QQ s hs i hi (Dh s i) (rk s i)) ?_
  exact Runs.goes uh ⟨_,_,aqr s (Dh s 64) 64,⟨by decide,trivial⟩,yQ _ _ (jj _) _⟩
 refine Goes.before (Goes.after h (dM _) ⟨⟨rfl,rfl,rfl,rfl,fun φ=> ?_⟩,trivial⟩ (yQ _ _ (j8 _) _)) (dM _) ⟨⟨rfl,rfl,rfl,rfl,fun φ=> ?_⟩,trivial⟩ (yQ _ _ (jj _) _)
 ·exact me φ (Dh s 64) 64 (rk s 64)
 ·exact (me φ (List.replicate 64 0) 64 List.length_replicate).symm
def W8.c32 (x:W8):List Piece:=[.a (.u .u32 x.a),.a (.u .u32 x.b),.a (.u .u32 x.c),.a (.u .u32 x.d),.a (.u .u32 x.e),.a (.u .u32 x.f),.a (.u .u32 x.g),.a (.u .u32 x.h)]
def BU (x:W8):V1:= .agg x.c32
noncomputable def ag8 (s:ByteArray):Env:=nR Cp 2 (ah Tryz.prog 132 2) (fo (kJ s ((0:Nat):Int)) [BR zW] (kJ s ((64:Nat):Int)) [BR (AH s)] (.exit 0))
noncomputable def scV (s:ByteArray):V1:= .agg (bp 64 0 (AH s))
theorem ap_ (s:ByteArray):al (ag8 s) 1000 132 [sS s] []=
  some ([ah Tryz.prog 132 2=ah Tryz.prog 132 2,(kJ s ((0:Nat):Int),[BR zW])=(kJ s ((0:Nat):Int),[BR zW]),dl (kJ s ((0:Nat):Int)) [BR zW]=true],.val (scV s)):=by kernel_rfl
noncomputable def Gw (vs:List V1):Option (List Prop×AV):=
 match vs with
 |[.one (.v (.string s))]=>some ([64≤s.size],.val (scV s))
 |_=>none
theorem ahq:aU ⟨132,Gw⟩:=by
 intro vs ob r h ho
 simp only[Gw] at h
 split at h
 ·obtain ⟨rfl,rfl⟩:=sI h
  exact af (gy uh (bz (by simp only[List.length_cons]) (Uz _ ho.1))) rfl (ap_ _) ⟨rfl,rfl,yQ _ _ (j8 _) _,trivial⟩ rfl rfl
 ·simp at h
def k2 (i:Nat):Nat:=jd i/2^32%Bg
def kV2:V1:= .agg (bp 64 0 k2)
theorem apN:al E0 1000 133 [] []=some ([],.val kV2):=by kernel_rfl
theorem ajv:aU ⟨133,cV (.val kV2)⟩:=tG (af envE0 rfl apN trivial rfl rfl)
def Po (v:W8) (k w:Nat):W8:=
 let one:=fy (fy (fy (fy v.h (nX (nX (rR v.e 6) (rR v.e 11)) (rR v.e 25))) (nX (DE v.e v.f) (DE (ajs v.e) v.g))) k) w
 let two:=fy (nX (nX (rR v.a 2) (rR v.a 13)) (rR v.a 22)) (nX (nX (DE v.a v.b) (DE v.a v.c)) (DE v.b v.c))
 ⟨fy one two,v.a,v.b,v.c,fy v.d one,v.e,v.f,v.g⟩
def ajS (x y:W8):W8:=⟨fy x.a y.a,fy x.b y.b,fy x.c y.c,fy x.d y.d,fy x.e y.e,fy x.f y.f,fy x.g y.g,fy x.h y.h⟩
def sk (x:W8):Blk:=⟨x.c32,31,true,false,0⟩
noncomputable def ldV (t p:Nat) (g:Nat→V1):CT:=⟨3000000+t,fun vs=>match vs with
 |[.one (.ptr b off)]=>match Nat.beq b p with
  |true=>some ([False],.val (g off))
  |false=>none
 |_=>none⟩
theorem Ow (t p:Nat) (g:Nat→V1):aU (ldV t p g):=by
 intro vs ob r h ho
 simp only[ldV] at h
 split at h
 ·split at h
  ·obtain ⟨rfl,_⟩:=sI h
   exact ho.1.elim
  ·simp at h
 ·simp at h
noncomputable def Yb (p q:Nat) (u:Nat→Nat):CT:=⟨3000024,fun vs=>match vs with
 |[.one (.ptr b off)]=>match Nat.beq b p with
  |true=>some ([False],.val (u32 (u off)))
  |false=>match Nat.beq b q with
   |true=>some ([False],.val (u32 (k2 off)))
   |false=>none
 |_=>none⟩
theorem Vw (p q:Nat) (u:Nat→Nat):aU (Yb p q u):=by
 intro vs ob r h ho
 simp only[Yb] at h
 split at h
 ·split at h
  ·obtain ⟨rfl,_⟩:=sI h
   exact ho.1.elim
  ·split at h
   ·obtain ⟨rfl,_⟩:=sI h
    exact ho.1.elim
   ·simp at h
 ·simp at h
noncomputable def L74 (u:Nat→Nat):List CT:=Yb 2 3 u::⟨132,Gw⟩::⟨133,cV (.val kV2)⟩::Up
theorem aca (u:Nat→Nat):bw (L74 u):=⟨Vw _ _ _,ahq,ajv,BI⟩
noncomputable def S74:FuncId→Nat→Bool:=fun f t=>match f with|74=>bf t [19,48,2000049,52,2000053,97]|_=>false
noncomputable def qH (u:Nat→Nat):Env:=cd (L74 u) S74
def Ey (i:Int):List AV:=bt 111 [(2,pV 0),(4,pV 1),(5,pV 2),(6,pV 3),(7,pV 4),(18,iV i)]
def AU (h v:W8) (u:Nat→Nat):List Blk:=[sk h,sk z8W,BR u,BR k2,sk v]
noncomputable def ajF (u:Nat→Nat) (i:Nat):List Prop:=[decide ((i:Int)<64)=true,rz i,dg Tryz.prog 24 (bp 64 0 k2) (iT i) (u32 (k2 (iT i))),rz i,dg Tryz.prog 24 (bp 64 0 u) (iT i) (u32 (u (iT i))),br ((i:Int)+1)]
theorem anU (h v:W8) (u:Nat→Nat) (i:Nat):aH (qH u) 1000 ((qH u).S 74) (ah Tryz.prog 74 3) (Ey (i:Int)) (AU h v u) [true] (Ey ((i:Int)+1)) 5=
  some (ajF u i,.normal,Ey ((i:Int)+1),AU h (Po v (k2 (iT i)) (u (iT i))) u):=by kernel_rfl
theorem amv (h v:W8) (u:Nat→Nat) (i:Nat):aH (qH u) 1000 ((qH u).S 74) (ah Tryz.prog 74 3) (Ey (i:Int)) (AU h v u) [false] (Ey (i:Int)) 5=
  some ([decide ((i:Int)<64)=false],.exit 0,Ey (i:Int),AU h v u):=by kernel_rfl
theorem aeE:dm Tryz.prog 24=some false:=by kernel_rfl
theorem abz (u:Nat→Nat) (n off:Nat) (h:off<n):dg Tryz.prog 24 (bp n 0 u) off (u32 (u off)):=by
 intro φ
 refine ⟨aeE,?_⟩
 rw[nl,List.getElem?_map,List.getElem?_range' h]
 simp[Atom.conc]
theorem acR {u:Nat→Nat} {i:Nat} (hi:i<64):cL (ajF u i):=by
 have hj:iT i<64:=by rw[lH];exact hi
 exact ⟨decide_eq_true (by omega),by unfold rz;omega,abz _ _ _ hj,by unfold rz;omega,abz _ _ _ hj,by unfold br;omega,trivial⟩
def vR2 (u:Nat→Nat) (v:W8):Nat→W8
 |0=>v
 |i+1=>Po (vR2 u v i) (k2 i) (u i)
theorem gE (x:W8):er (sk x):=fun _=>rfl
theorem ML (h v:W8) (u:Nat→Nat):∀b∈AU h v u,er b:=by
 intro b hb
 simp only[AU,List.mem_cons,List.not_mem_nil,or_false] at hb
 rcases hb with rfl|rfl|rfl|rfl|rfl
 ·exact gE _
 ·exact gE _
 ·exact j8 _
 ·exact j8 _
 ·exact gE _
theorem uD (h v:W8) (u:Nat→Nat):(AU h v u).length=5:=by simp only[AU,List.length_cons,List.length_nil]
theorem Z8 (h v:W8) (u:Nat→Nat) (i:Int):dl (Ey i) (AU h v u)=true:=cc (ML h v u) (by rw[uD];kernel_rfl)
theorem ff (u:Nat→Nat):EnvOK (qH u):=aF (aca u) _
noncomputable def vE2 (u:Nat→Nat) (h:W8):W8:=vR2 u h 64
theorem aaH (h:W8) (u:Nat→Nat) (n:Nat) (hn:n=64) (V:Nat→W8) (hV:∀i,V (i+1)=Po (V i) (k2 i) (u i)):
  Goes Tryz.prog (.loop (ah Tryz.prog 74 3)) (.exit 0) (Ey ((0:Nat):Int)) (AU h (V 0) u) (Ey (n:Int)) (AU h (V n) u):=by
 refine bJ (N:=n) (k:=5) (T:=fun i=>Ey (i:Int)) (M:=fun i=>AU h (V i) u) (by simp) (fun _ _=>uD _ _ _) (fun i hi=> ?_) ?_
 ·have hr:=anU h (V i) u i
  rw[lH,←hV i] at hr
  exact Runs.goes (ff u) ⟨_,_,hr,acR (by omega),Z8 _ _ _ _⟩
 ·exact Runs.goes (ff u) ⟨_,_,amv h (V n) u n,⟨decide_eq_false (by omega),trivial⟩,Z8 _ _ _ _⟩
theorem Mo (h:W8) (u:Nat→Nat):Goes Tryz.prog (.loop (ah Tryz.prog 74 3)) (.exit 0) (Ey ((0:Nat):Int)) (AU h h u) (Ey ((64:Nat):Int)) (AU h (vE2 u h) u):=aaH h u 64 rfl (vR2 u h) (fun _=>rfl)
noncomputable def agb (h:W8) (u:Nat→Nat):Env:=nR (qH u) 3 (ah Tryz.prog 74 3) (fo (Ey ((0:Nat):Int)) (AU h h u) (Ey ((64:Nat):Int)) (AU h (vE2 u h) u) (.exit 0))
theorem QS (h:W8) (u:Nat→Nat):EnvOK (agb h u):=gy (ff u) (bz (by rw[uD,uD]) (Mo h u))
noncomputable def vJ (h:W8) (s:ByteArray):W8:=ajS h (vE2 (AH s) h)
theorem r74 (h:W8) (s:ByteArray):al (agb h (AH s)) 1000 74 [BU h,sS s] []=
  some ([64≤s.size,ah Tryz.prog 74 3=ah Tryz.prog 74 3,(Ey ((0:Nat):Int),AU h h (AH s))=(Ey ((0:Nat):Int),AU h h (AH s)),dl (Ey ((0:Nat):Int)) (AU h h (AH s))=true],.val (BU (vJ h s))):=by kernel_rfl
theorem Aw (h:W8) (s:ByteArray) (hs:64≤s.size):Spec 74 [BU h,sS s] (.val (BU (vJ h s))):=
 af (QS h (AH s)) rfl (r74 h s) ⟨hs,rfl,rfl,Z8 _ _ _ _,trivial⟩ rfl rfl
noncomputable def N0 (vs:List V1):Option (List Prop×AV):=
 match vs with
 |[.agg [.a (.u .u32 a),.a (.u .u32 b),.a (.u .u32 c),.a (.u .u32 d),.a (.u .u32 e),.a (.u .u32 f),.a (.u .u32 g),.a (.u .u32 h)],.one (.v (.string s))]=>some ([64≤s.size],.val (BU (vJ ⟨a,b,c,d,e,f,g,h⟩ s)))
 |_=>none
theorem alB:aU ⟨74,N0⟩:=by
 intro vs ob r h ho
 simp only[N0] at h
 split at h
 ·obtain ⟨rfl,rfl⟩:=sI h
  exact Aw _ _ ho.1
 ·simp at h
noncomputable def L94 (u:Nat→Nat):List CT:=ldV 24 3 (fun off=>u32 (u off))::ldV 50 0 (fun off=>u64 (jd off))::Up
theorem adE (u:Nat→Nat):bw (L94 u):=⟨Ow _ _ _,Ow _ _ _,BI⟩
noncomputable def KI (u:Nat→Nat):Env:=cd (L94 u) aeH
theorem so (u:Nat→Nat):EnvOK (KI u):=aF (adE u) _
def kI (s:ByteArray) (c:Nat) (i:Int):List AV:=bt 190 [(1,.val (sS s)),(2,.val (.one (.sl 0 0 80 c))),(3,pV 1),(6,pV 2),(7,pV 3),(8,iV i)]
def kr (e:TypeId) (h:W8) (w:Blk):List Blk:=[tB e,sk h,sk z8W,w]
def nI (c:Nat) (i:Int):List AV:=bt 190 [(2,.val (.one (.sl 0 0 80 c))),(3,pV 1),(6,pV 2),(7,pV 3),(11,pV 4),(12,iV i)]
def lV (e:TypeId) (h v:W8) (u:Nat→Nat):List Blk:=[tB e,sk h,sk z8W,BR u,sk v]
theorem a94 (e:TypeId) (h:W8) (c:Nat) (s:ByteArray) (l:List Nat) (i:Nat):aH (KI zW) 1000 (Env.S (KI zW) 94) (ah Tryz.prog 94 3) (kI s c (i:Int)) (kr e h (vI l)) [true,true] (kI s c ((i:Int)+1)) 4=
  some ((decide ((i:Int)<64)=true)::(decide ((i:Int)<16)=true)::(ob4 s i++[rz i,iT i<l.length,br ((i:Int)+1)]),.normal,kI s c ((i:Int)+1),kr e h (vI (l.set (iT i) (wdi s i)))):=by kernel_rfl
theorem b94 (e:TypeId) (h:W8) (c:Nat) (s:ByteArray) (l:List Nat) (i:Nat):aH (KI zW) 1000 (Env.S (KI zW) 94) (ah Tryz.prog 94 3) (kI s c (i:Int)) (kr e h (vI l)) [true,false] (kI s c ((i:Int)+1)) 4=
  some ((decide ((i:Int)<64)=true)::(decide ((i:Int)<16)=false)::Zb l i,.normal,kI s c ((i:Int)+1),kr e h (vI (l.set (iT i) (scQ l i)))):=by kernel_rfl
theorem x94 (e:TypeId) (h:W8) (c:Nat) (s:ByteArray) (l:List Nat) (i:Nat):aH (KI zW) 1000 (Env.S (KI zW) 94) (ah Tryz.prog 94 3) (kI s c (i:Int)) (kr e h (vI l)) [false] (kI s c (i:Int)) 4=
  some ([decide ((i:Int)<64)=false],.exit 0,kI s c (i:Int),kr e h (vI l)):=by kernel_rfl
noncomputable def afG (u:Nat→Nat) (i:Nat):List Prop:=[decide ((i:Int)<64)=true,(0:Int)≤(i:Int)∧(i:Int)<((80:Nat):Int),dg Tryz.prog 50 (eg 80 0 jd) (iT i) (u64 (jd (iT i))),rz i,dg Tryz.prog 24 (bp 64 0 u) (iT i) (u32 (u (iT i))),br ((i:Int)+1)]
theorem c94 (e:TypeId) (h v:W8) (u:Nat→Nat) (c i:Nat):aH (KI u) 1000 (Env.S (KI u) 94) (ah Tryz.prog 94 11) (nI c (i:Int)) (lV e h v u) [true] (nI c ((i:Int)+1)) 5=
  some (afG u i,.normal,nI c ((i:Int)+1),lV e h (Po v (k2 (iT i)) (u (iT i))) u):=by kernel_rfl
theorem y94 (e:TypeId) (h v:W8) (u:Nat→Nat) (c i:Nat):aH (KI u) 1000 (Env.S (KI u) 94) (ah Tryz.prog 94 11) (nI c (i:Int)) (lV e h v u) [false] (nI c (i:Int)) 5=
  some ([decide ((i:Int)<64)=false],.exit 2,nI c (i:Int),lV e h v u):=by kernel_rfl
theorem Ks (e:TypeId) (h:W8) (w:Blk) (hw:er w):∀b∈kr e h w,er b:=by
 intro b hb
 simp only[kr,List.mem_cons,List.not_mem_nil,or_false] at hb
 rcases hb with rfl|rfl|rfl|rfl
 ·exact fun f=>dV _ f _ _
 ·exact gE _
 ·exact gE _
 ·exact hw
theorem qq (e:TypeId) (h:W8) (w:Blk):(kr e h w).length=4:=by simp only[kr,List.length_cons,List.length_nil]
theorem yv (e:TypeId) (h:W8) (w:Blk) (hw:er w) (s:ByteArray) (c:Nat) (i:Int):dl (kI s c i) (kr e h w)=true:=cc (Ks e h w hw) (by rw[qq];kernel_rfl)
theorem JW (e:TypeId) (h v:W8) (u:Nat→Nat):∀b∈lV e h v u,er b:=by
 intro b hb
 simp only[lV,List.mem_cons,List.not_mem_nil,or_false] at hb
 rcases hb with rfl|rfl|rfl|rfl|rfl
 ·exact fun f=>dV _ f _ _
 ·exact gE _
 ·exact gE _
 ·exact j8 _
 ·exact gE _
theorem rp (e:TypeId) (h v:W8) (u:Nat→Nat):(lV e h v u).length=5:=by simp only[lV,List.length_cons,List.length_nil]
theorem Lq (e:TypeId) (h v:W8) (u:Nat→Nat) (c:Nat) (i:Int):dl (nI c i) (lV e h v u)=true:=cc (JW e h v u) (by rw[rp];kernel_rfl)
theorem ads (e:TypeId) (h:W8) (c:Nat) (s:ByteArray) (hs:64≤s.size) (i:Nat) (hi:i<64) (l:List Nat) (hlen:l.length=64):
  Goes Tryz.prog (ah Tryz.prog 94 3) .normal (kI s c (i:Int)) (kr e h (vI l)) (kI s c ((i:Int)+1)) (kr e h (vI (l.set i (Nv s l i)))):=by
 unfold Nv
 by_cases h16:i<16
 ·have hr:=a94 e h c s l i
  rw[Lc] at hr
  have ho:=NG hs hlen h16
  rw[lH] at hr ho
  rw[decide_eq_true h16,cond_true]
  exact Runs.goes (so zW) ⟨_,_,hr,ho,yv _ _ _ (jj _) _ _ _⟩
 ·have hr:=b94 e h c s l i
  have ho:=Mn hlen (by omega) hi
  rw[Z9,lH] at hr
  rw[decide_eq_false h16,cond_false]
  exact Runs.goes (so zW) ⟨_,_,hr,ho,yv _ _ _ (jj _) _ _ _⟩
theorem agL (e:TypeId) (h:W8) (c:Nat) (s:ByteArray) (hs:64≤s.size):
  Goes Tryz.prog (.loop (ah Tryz.prog 94 3)) (.exit 0) (kI s c ((0:Nat):Int)) (kr e h (BR zW)) (kI s c ((64:Nat):Int)) (kr e h (BR (AH s))):=by
 have hg:Goes Tryz.prog (.loop (ah Tryz.prog 94 3)) (.exit 0) (kI s c ((0:Nat):Int)) (kr e h (vI (Dh s 0))) (kI s c ((64:Nat):Int)) (kr e h (vI (Dh s 64))):=by
  refine bJ (N:=64) (k:=4) (T:=fun i=>kI s c (i:Int)) (M:=fun i=>kr e h (vI (Dh s i))) (by simp) (fun _ _=>qq _ _ _) (fun i hi=>ads e h c s hs i hi (Dh s i) (rk s i)) ?_
  exact Runs.goes (so zW) ⟨_,_,x94 e h c s (Dh s 64) 64,⟨by decide,trivial⟩,yv _ _ _ (jj _) _ _ _⟩
 refine Goes.before (Goes.after hg (dM _) ⟨⟨rfl,rfl,rfl,rfl,fun φ=>rfl⟩,⟨rfl,rfl,rfl,rfl,fun φ=>rfl⟩,⟨rfl,rfl,rfl,rfl,fun φ=>rfl⟩,⟨rfl,rfl,rfl,rfl,fun φ=> ?_⟩,trivial⟩ (yv _ _ _ (j8 _) _ _ _))
  (dM _) ⟨⟨rfl,rfl,rfl,rfl,fun φ=>rfl⟩,⟨rfl,rfl,rfl,rfl,fun φ=>rfl⟩,⟨rfl,rfl,rfl,rfl,fun φ=>rfl⟩,⟨rfl,rfl,rfl,rfl,fun φ=> ?_⟩,trivial⟩ (yv _ _ _ (jj _) _ _ _)
 ·exact me φ (Dh s 64) 64 (rk s 64)
 ·exact (me φ (List.replicate 64 0) 64 List.length_replicate).symm
theorem agt:dm Tryz.prog 50=some false:=by kernel_rfl
theorem apk (u:Nat→Nat) (n off:Nat) (h:off<n):dg Tryz.prog 50 (eg n 0 u) off (u64 (u off)):=by
 intro φ
 refine ⟨agt,?_⟩
 rw[jD,List.getElem?_map,List.getElem?_range' h]
 simp[Atom.conc]
theorem UV (e:TypeId) (h:W8) (u:Nat→Nat) (c n:Nat) (hn:n=64) (V:Nat→W8) (hV:∀i,V (i+1)=Po (V i) (k2 i) (u i)):
  Goes Tryz.prog (.loop (ah Tryz.prog 94 11)) (.exit 2) (nI c ((0:Nat):Int)) (lV e h (V 0) u) (nI c (n:Int)) (lV e h (V n) u):=by
 refine bJ (N:=n) (k:=5) (T:=fun i=>nI c (i:Int)) (M:=fun i=>lV e h (V i) u) (by simp) (fun _ _=>rp _ _ _ _) (fun i hi=> ?_) ?_
 ·have hr:=c94 e h (V i) u c i
  have hj:iT i<64:=by rw[lH];omega
  have ho:cL (afG u i):=⟨decide_eq_true (by omega),by omega,apk _ _ _ (by omega),by unfold rz;omega,abz _ _ _ hj,by unfold br;omega,trivial⟩
  rw[lH,←hV i] at hr
  exact Runs.goes (so u) ⟨_,_,hr,ho,Lq _ _ _ _ _ _⟩
 ·exact Runs.goes (so u) ⟨_,_,y94 e h (V n) u c n,⟨decide_eq_false (by omega),trivial⟩,Lq _ _ _ _ _ _⟩
theorem NB (e:TypeId) (h:W8) (u:Nat→Nat) (c:Nat):Goes Tryz.prog (.loop (ah Tryz.prog 94 11)) (.exit 2) (nI c ((0:Nat):Int)) (lV e h h u) (nI c ((64:Nat):Int)) (lV e h (vE2 u h) u):=UV e h u c 64 rfl (vR2 u h) (fun _=>rfl)
noncomputable def aaZ (e:TypeId) (h:W8) (s:ByteArray) (c:Nat):Env:=fY (nR (KI (AH s)) 3 (ah Tryz.prog 94 3) (fo (kI s c ((0:Nat):Int)) (kr e h (BR zW)) (kI s c ((64:Nat):Int)) (kr e h (BR (AH s))) (.exit 0))) 11 (ah Tryz.prog 94 11) (fo (nI c ((0:Nat):Int)) (lV e h h (AH s)) (nI c ((64:Nat):Int)) (lV e h (vE2 (AH s) h) (AH s)) (.exit 2))
theorem Sf (e:TypeId) (h:W8) (s:ByteArray) (c:Nat) (hs:64≤s.size):EnvOK (aaZ e h s c):=da (gy (so _) (bz (by rw[qq,qq]) (agL e h c s hs))) (bz (by rw[rp,rp]) (NB e h (AH s) c))
theorem am2 (e:TypeId) (h:W8) (s:ByteArray) (c:Nat):iD (ep (aaZ e h s c) (dH (aaZ e h s c) 1000) 94 [BU h,sS s,slK c] [tB e] [])=
  some ([ah Tryz.prog 94 3=ah Tryz.prog 94 3,(kI s c ((0:Nat):Int),kr e h (BR zW))=(kI s c ((0:Nat):Int),kr e h (BR zW)),dl (kI s c ((0:Nat):Int)) (kr e h (BR zW))=true,
   ah Tryz.prog 94 11=ah Tryz.prog 94 11,(nI c ((0:Nat):Int),lV e h h (AH s))=(nI c ((0:Nat):Int),lV e h h (AH s)),dl (nI c ((0:Nat):Int)) (lV e h h (AH s))=true],.val (BU (vJ h s))):=by kernel_rfl
theorem U8 (e:TypeId) (h:W8) (s:ByteArray) (c:Nat) (hs:64≤s.size) {w:World} {φ:c7} (hm:MRel w φ [tB e] w):
  Calls Tryz.prog 94 (([BU h,sS s,slK c]:List V1).map (V1.conc φ)).toArray w fun x w'=>x= .returned ((AV.val (BU (vJ h s))).conc φ)∧Below w.heap.size w w':=by
 obtain ⟨c',m',h'⟩:=mo (am2 e h s c)
 refine rj (Sf e h s c hs) rfl h' ⟨rfl,rfl,yv _ _ _ (j8 _) _ _ _,rfl,rfl,Lq _ _ _ _ _ _,trivial⟩ rfl hm ?_
 intro v hv
 simp only[List.mem_cons,List.not_mem_nil,or_false] at hv
 rcases hv with rfl|rfl|rfl<;>rfl
noncomputable def ac6 (vs:List V1) (bs:List (Option Blk)):Option (List Prop×AV):=
 match vs,bs with
 |[.agg [.a (.u .u32 a),.a (.u .u32 b),.a (.u .u32 c),.a (.u .u32 d),.a (.u .u32 e),.a (.u .u32 f),.a (.u .u32 g),.a (.u .u32 h)],.one (.v (.string s)),.one (.sl _ 0 80 _)],[_,_,some k]=>
  some ([k.ps=eg 80 0 jd,64≤s.size],.val (BU (vJ ⟨a,b,c,d,e,f,g,h⟩ s)))
 |_,_=>none
theorem QJ {vs:List V1} {mem:List Blk} {ob:List Prop} {r:AV} (h:ac6 vs (jF mem vs)=some (ob,r)) (ho:cL ob) (w0:World) (φ:c7) (w:World) (hm:MRel w0 φ mem w):
  Calls Tryz.prog 94 (vs.map (V1.conc φ)).toArray w fun e w'=>e= .returned (r.conc φ)∧Below w.heap.size w w':=by
 unfold ac6 at h
 split at h
 ·rename_i a b c d e f g h8 s bl cp y1 y2 k hbs
  obtain ⟨rfl,rfl⟩:=sI h
  simp only[jF,List.cons.injEq,and_true] at hbs
  obtain ⟨_,_,hb⟩:=hbs
  replace hb:(match mem[bl]? with|some k=>(match k.live with|true=>some k|false=>none)|none=>none)=some k:=hb
  split at hb
  ·rename_i k' hk
   split at hb
   ·rename_i hl
    simp only[Option.some.injEq] at hb
    subst hb
    obtain ⟨hps,h1,_⟩:=ho
    have hw:=hm.window hk hl (fun f=>by rw[hps];exact dV _ f _ _)
    rw[hps] at hw
    have:=U8 k'.elem ⟨a,b,c,d,e,f,g,h8⟩ s cp h1 hw
    simpa[BU,W8.c32,sS,slK,V1.conc,Atom.conc,AV.conc,an,Piece.conc] using this
   ·simp at hb
  ·simp at hb
 ·simp at h
noncomputable def aae:FuncId→List V1→List (Option Blk)→Option (List Prop×AV):=fun f vs bs=>match f with|94=>ac6 vs bs|_=>none
theorem RM:∀f vs mem ob r,aae f vs (jF mem vs)=some (ob,r)→cL ob→∀w0 φ w,MRel w0 φ mem w→Calls Tryz.prog f (vs.map (V1.conc φ)).toArray w fun e w'=>e= .returned (r.conc φ)∧Below w.heap.size w w':=by
 intro f vs mem ob r h ho w0 φ w hm
 unfold aae at h
 split at h
 ·exact QJ h ho w0 φ w hm
 ·simp at h
def BS:W8:=⟨1779033703,3144134277,1013904242,2773480762,1359893119,2600822924,528734635,1541459225⟩
theorem aqL:al E0 1000 72 [] []=some ([],.val (BU BS)):=by kernel_rfl
theorem amk:al E0 1000 93 [] []=some ([],.val (BU BS)):=by kernel_rfl
theorem Xh:aU ⟨72,cV (.val (BU BS))⟩:=tG (af envE0 rfl aqL trivial rfl rfl)
theorem ajO:aU ⟨93,cV (.val (BU BS))⟩:=tG (af envE0 rfl amk trivial rfl rfl)
def QO (x:Nat):List Nat:=[x/2^24%256,x/2^16%256,x/2^8%256,x%256]
def db (x:Nat):ByteArray:=bQ (QO x)
theorem an7 (x:Nat):al E0 1000 95 [u32 x] []=some ([],.val (sS (db x))):=by kernel_rfl
def GG (vs:List V1):Option (List Prop×AV):=match vs with|[.one (.u .u32 x)]=>some ([],.val (sS (db x)))|_=>none
theorem aeW:aU ⟨95,GG⟩:=by
 intro vs ob r h _
 simp only[GG] at h
 split at h
 ·obtain ⟨_,rfl⟩:=sI h
  exact af envE0 rfl (an7 _) trivial rfl rfl
 ·simp at h
noncomputable def L46:List CT:=[⟨7,DO⟩,⟨23,qk⟩,⟨72,cV (.val (BU BS))⟩,⟨93,cV (.val (BU BS))⟩,⟨95,GG⟩]
theorem aci:bw L46:=⟨B3,Jn,Xh,ajO,aeW,trivial⟩
noncomputable def S46:FuncId→Nat→Bool:=fun f t=>match f with|46=>bf t [13,16,19,24,29,36,37,31,49]|_=>false
noncomputable def E46:Env:=mkF L46 aae S46
theorem Fm:EnvOK E46:=MJ aci RM S46
def Dv (F:ByteArray) (i:Int):List AV:=bt 51 [(0,.val (sS F)),(3,.val (.one (.sl 0 0 80 80))),(5,pV 1),(6,iV i)]
def Br (h:W8):List Blk:=[kB,sk h]
theorem am1 (h:W8) (F:ByteArray) (i:Nat):aH E46 1000 (Env.S E46 46) (ah Tryz.prog 46 6) (Dv F (i:Int)) (Br h) [true] (Dv F ((i:Int)+64)) 2=
  some ([decide ((i:Int)<(F.size:Int))=true,br ((i:Int)+64),(0:Int)≤(i:Int)+64∧(i:Int)+64≤(F.size:Int),(0:Int)≤(i:Int)∧(i:Int)≤(((i:Int)+64).toNat:Int),kB.ps=kB.ps,64≤(F.extract i ((i:Int)+64).toNat).size,br ((i:Int)+64)],.normal,Dv F ((i:Int)+64),Br (vJ h (F.extract i (i+64)))):=by kernel_rfl
theorem apg (h:W8) (F:ByteArray) (i:Nat):aH E46 1000 (Env.S E46 46) (ah Tryz.prog 46 6) (Dv F (i:Int)) (Br h) [false] (Dv F (i:Int)) 2=
  some ([decide ((i:Int)<(F.size:Int))=false],.exit 0,Dv F (i:Int),Br h):=by kernel_rfl
def vA (n:Nat):Int:=Int.tmod (119-Int.tmod (n:Int) 64) 64
noncomputable def iF (s:ByteArray):ByteArray:=((s++x80)++zs (vA s.size).toNat)++bm (Ds s.size)
noncomputable def yI (h:W8):ByteArray:=(((((((⟨#[]⟩++db h.a)++db h.b)++db h.c)++db h.d)++db h.e)++db h.f)++db h.g)++db h.h
noncomputable def aqc (s:ByteArray) (n:Int) (h:W8):Env:=fY E46 6 (ah Tryz.prog 46 6) (fo (Dv (iF s) ((0:Nat):Int)) (Br BS) (Dv (iF s) n) (Br h) (.exit 0))
def mx (a b:ByteArray):Prop:=a.size+b.size≤9223372036854775807
theorem alM (s:ByteArray) (n:Int) (h:W8):al (aqc s n h) 1000 46 [sS s] []=
  some ([mx s x80,br (119-Int.tmod (s.size:Int) 64),0≤vA s.size∧vA s.size≤1000000,mx (s++x80) (zs (vA s.size).toNat),mx ((s++x80)++zs (vA s.size).toNat) (bm (Ds s.size)),
   ah Tryz.prog 46 6=ah Tryz.prog 46 6,(Dv (iF s) ((0:Nat):Int),Br BS)=(Dv (iF s) ((0:Nat):Int),Br BS),dl (Dv (iF s) ((0:Nat):Int)) (Br BS)=true,
   mx ⟨#[]⟩ (db h.a),mx (⟨#[]⟩++db h.a) (db h.b),mx ((⟨#[]⟩++db h.a)++db h.b) (db h.c),mx (((⟨#[]⟩++db h.a)++db h.b)++db h.c) (db h.d),mx ((((⟨#[]⟩++db h.a)++db h.b)++db h.c)++db h.d) (db h.e),
   mx (((((⟨#[]⟩++db h.a)++db h.b)++db h.c)++db h.d)++db h.e) (db h.f),mx ((((((⟨#[]⟩++db h.a)++db h.b)++db h.c)++db h.d)++db h.e)++db h.f) (db h.g),
   mx (((((((⟨#[]⟩++db h.a)++db h.b)++db h.c)++db h.d)++db h.e)++db h.f)++db h.g) (db h.h)],.val (sS (yI h))):=by kernel_rfl
theorem xb (x:Nat):(db x).size=4:=by unfold db;rw[dh];rfl
theorem A7 (n:Nat):vA n=(((119-n%64)%64:Nat):Int):=by
 unfold vA
 have e1:Int.tmod (n:Int) 64=((n%64:Nat):Int):=by
  rw[Int.tmod_eq_emod_of_nonneg (by omega)];omega
 rw[e1,Int.tmod_eq_emod_of_nonneg (by omega)];omega
def N2 (n:Nat):Nat:=(n+72)/64
theorem ox (s:ByteArray):(iF s).size=64*N2 s.size:=by
 unfold iF N2
 simp only[ByteArray.size_append,f5,i9,ll,A7,Int.toNat_natCast]
 omega
noncomputable def JV (F:ByteArray):Nat→W8
 |0=>BS
 |j+1=>vJ (JV F j) (F.extract (64*j) (64*j+64))
noncomputable def nF (s:ByteArray):ByteArray:=yI (JV (iF s) (N2 s.size))
theorem Nj (h:W8):∀b∈Br h,er b:=by
 intro b hb
 simp only[Br,List.mem_cons,List.not_mem_nil,or_false] at hb
 rcases hb with rfl|rfl
 ·exact fun f=>dV _ f _ _
 ·exact gE _
theorem t9 (h:W8):(Br h).length=2:=by simp only[Br,List.length_cons,List.length_nil]
theorem X9 (F:ByteArray) (h:W8) (i:Int):dl (Dv F i) (Br h)=true:=cc (Nj h) (by rw[t9];kernel_rfl)
theorem Y7 (F:ByteArray) (n:Nat) (hn:F.size=64*n) (h2:F.size≤1000000000000000) (V:Nat→W8) (hV:∀j,V (j+1)=vJ (V j) (F.extract (64*j) (64*j+64))):
  Goes Tryz.prog (.loop (ah Tryz.prog 46 6)) (.exit 0) (Dv F ((64*0:Nat):Int)) (Br (V 0)) (Dv F ((64*n:Nat):Int)) (Br (V n)):=by
 refine bJ (N:=n) (k:=2) (T:=fun j=>Dv F ((64*j:Nat):Int)) (M:=fun j=>Br (V j)) (by simp) (fun _ _=>t9 _) (fun j hj=> ?_) ?_
 ·have hr:=am1 (V j) F (64*j)
  rw[show Int.toNat (((64*j:Nat):Int)+64)=64*j+64 by omega,←hV j] at hr
  rw[show ((64*(j+1):Nat):Int)=((64*j:Nat):Int)+64 by omega]
  have hz:=fM F (64*j) (64*j+64) (by omega)
  exact Runs.goes Fm ⟨_,_,hr,⟨decide_eq_true (by omega),by unfold br;omega,by omega,by omega,rfl,by omega,by unfold br;omega,trivial⟩,X9 _ _ _⟩
 ·exact Runs.goes Fm ⟨_,_,apg (V n) F (64*n),⟨decide_eq_false (by omega),trivial⟩,X9 _ _ _⟩
theorem YZ (s:ByteArray) (h2:s.size≤100000000000000):Goes Tryz.prog (.loop (ah Tryz.prog 46 6)) (.exit 0) (Dv (iF s) ((0:Nat):Int)) (Br BS) (Dv (iF s) ((64*N2 s.size:Nat):Int)) (Br (JV (iF s) (N2 s.size))):=
 Y7 (iF s) (N2 s.size) (ox s) (by rw[ox];unfold N2;omega) (JV (iF s)) (fun _=>rfl)
theorem V2 (s:ByteArray) (h2:s.size≤100000000000000):Spec 46 [sS s] (.val (sS (nF s))):=by
 have hz:=A7 s.size
 refine af (da Fm (bz (by rw[t9,t9]) (YZ s h2))) rfl (alM s _ _) ⟨?_,?_,?_,?_,?_,rfl,rfl,X9 _ _ _,?_,?_,?_,?_,?_,?_,?_,?_,trivial⟩ rfl rfl
 ·unfold mx;rw[ll];omega
 ·rw[Int.tmod_eq_emod_of_nonneg (by omega)];unfold br;omega
 ·omega
 all_goals (unfold mx;simp only[ByteArray.size_append,f5,xb,i9,ll,uv];omega)
noncomputable def DZ (vs:List V1):Option (List Prop×AV):=
 match vs with
 |[.one (.v (.string s))]=>some ([s.size≤100000000000000],.val (sS (nF s)))
 |_=>none
theorem aaf:aU ⟨46,DZ⟩:=by
 intro vs ob r h ho
 simp only[DZ] at h
 split at h
 ·obtain ⟨rfl,rfl⟩:=sI h
  exact V2 _ ho.1
 ·simp at h
theorem Hf (h:W8):(yI h).size=32:=by
 unfold yI
 simp only[ByteArray.size_append,xb,uv]
theorem oh (s:ByteArray):(nF s).size=32:=Hf _
def sg (s:ByteArray) (b n:Nat):List AV:=bt 35 [(0,.val (sS s)),(3,slX b n)]
noncomputable def S73:FuncId→Nat→Bool:=fun f t=>match f with|73=>bf t [2000007,2000009,13,2000016,2000032,2000034,9000000]|_=>false
noncomputable def E73:Env:={E0 with S:=S73}
theorem Fo:EnvOK E73:=⟨mixed,envE0.fns,envE0.fms,envE0.lps,envE0.fbs⟩
theorem aow (s:ByteArray) (l:List Nat) (n:Nat):aH E73 1000 (Env.S E73 73) (ah Tryz.prog 73 2) (sg s 2 n) [dB (aZ s),oB 128,aB l] [true] (sg s 4 (n+1)) 5=
  some ([(!decide (Int.ofNat (n%64)=(56:Int)))=true,n=List.length l∧0<1∧(n+1)*1≤140737488355328∧n+1≤140737488355328],.normal,sg s 4 (n+1),[dB (aZ s),oB 128,dB l,oB 0,aB (l++[0])]):=by kernel_rfl
theorem alU (s:ByteArray) (l:List Nat) (n:Nat):aH E73 1000 (Env.S E73 73) (ah Tryz.prog 73 2) (sg s 2 n) [dB (aZ s),oB 128,aB l] [false] (sg s 2 n) 3=
  some ([(!decide (Int.ofNat (n%64)=(56:Int)))=false],.exit 0,sg s 2 n,[dB (aZ s),oB 128,aB l]):=by kernel_rfl
theorem TO {n:Nat} (h:n%64≠56):(!decide (Int.ofNat (n%64)=(56:Int)))=true:=by
 have:Int.ofNat (n%64)≠(56:Int):=by simp only[Int.ofNat_eq_natCast];omega
 rw[decide_eq_false this];rfl
theorem UI {n:Nat} (h:n%64=56):(!decide (Int.ofNat (n%64)=(56:Int)))=false:=by
 have:Int.ofNat (n%64)=(56:Int):=by simp only[Int.ofNat_eq_natCast];omega
 rw[decide_eq_true this];rfl
theorem FF (s:ByteArray) (l:List Nat) (n:Nat):dl (sg s 2 n) [dB (aZ s),oB 128,aB l]=true:=cc (WB s l) (by show cw 3 _=true;kernel_rfl)
theorem ab5 (s:ByteArray) (l:List Nat) (n:Nat):dl (sg s 4 n) [dB (aZ s),oB 128,dB l,oB 0,aB (l++[0])]=true:=cc (Wk s l) (by show cw 5 _=true;kernel_rfl)
theorem aar (s:ByteArray) (l:List Nat) (n:Nat):dl (sg s 3 n) [dB (aZ s),oB 128,dB [],aB l]=true:=cc (Xe s l) (by show cw 4 _=true;kernel_rfl)
theorem ai9 (s:ByteArray) (b b' n:Nat):Nn 2 b b' (sg s b n) (sg s b' n):=by
 show Nn 2 b b' [_,.junk,.junk,_,.junk,.junk,.junk,.junk,.junk,.junk,.junk,.junk,.junk,.junk,.junk,.junk,.junk,.junk,.junk,.junk,.junk,.junk,.junk,.junk,.junk,.junk,.junk,.junk,.junk,.junk,.junk,.junk,.junk,.junk,.junk] [_,.junk,.junk,_,.junk,.junk,.junk,.junk,.junk,.junk,.junk,.junk,.junk,.junk,.junk,.junk,.junk,.junk,.junk,.junk,.junk,.junk,.junk,.junk,.junk,.junk,.junk,.junk,.junk,.junk,.junk,.junk,.junk,.junk,.junk]
 simp only[Nn,and_true,true_or,true_and]
 exact ⟨.inr (.inl rfl),.inr (.inr ⟨n,rfl,rfl⟩)⟩
set_option maxRecDepth 100000 in
theorem ZM (s:ByteArray) (l:List Nat) (n:Nat) (hn:n=l.length) (h:n%64≠56) (hb:n+1≤140737488355328):
  GoesK Tryz.prog 2 (ah Tryz.prog 73 2) .normal (sg s 2 n) [dB (aZ s),oB 128,aB l] (sg s 2 (n+1)) [dB (aZ s),oB 128,aB (l++[0])]:=by
 have h1:Goes Tryz.prog (ah Tryz.prog 73 2) .normal (sg s 2 n) [dB (aZ s),oB 128,aB l] (sg s 4 (n+1)) [dB (aZ s),oB 128,dB l,oB 0,aB (l++[0])]:=Runs.goes Fo ⟨_,_,aow s l n,⟨TO h,⟨hn,by decide,by omega,hb⟩,trivial⟩,ab5 _ _ _⟩
 refine (h1.toK (K:=2) (by simp only[List.length_cons,List.length_nil];omega)).move (b:=4) (b':=2) (ai9 s 4 2 (n+1)) (by omega) (by omega) ?_ (FF _ _ _)
 intro i k hk hl
 match i,hk with
 |0,hk=>simp only[List.getElem?_cons_zero,Option.some.injEq] at hk;subst hk;exact absurd hl (by simp[dB])
 |1,hk=>simp only[List.getElem?_cons_succ,List.getElem?_cons_zero,Option.some.injEq] at hk;subst hk;exact ⟨fun _=>rfl,.inl ⟨by omega,rfl⟩⟩
 |2,hk=>simp only[List.getElem?_cons_succ,List.getElem?_cons_zero,Option.some.injEq] at hk;subst hk;exact ⟨fun _=>rfl,.inr ⟨rfl,by omega,rfl⟩⟩
 |i+3,hk=>simp at hk
set_option maxRecDepth 100000 in
theorem XR (s:ByteArray) (l:List Nat) (z:Nat) (hz:∀j,j<z→(l.length+j)%64≠56) (h:(l.length+z)%64=56) (hb:l.length+z≤140737488355328):
  Goes Tryz.prog (.loop (ah Tryz.prog 73 2)) (.exit 0) (sg s 2 l.length) [dB (aZ s),oB 128,aB l] (sg s 3 (l.length+z)) [dB (aZ s),oB 128,dB [],aB (l++List.replicate z 0)]:=by
 have hK:GoesK Tryz.prog 2 (.loop (ah Tryz.prog 73 2)) (.exit 0) (sg s 2 (l.length+0)) [dB (aZ s),oB 128,aB (l++List.replicate 0 0)] (sg s 2 (l.length+z)) [dB (aZ s),oB 128,aB (l++List.replicate z 0)]:=by
  refine wH (N:=z) (T:=fun j=>sg s 2 (l.length+j)) (M:=fun j=>[dB (aZ s),oB 128,aB (l++List.replicate j 0)]) (by simp) (fun j hj=> ?_) ?_
  ·have:=ZM s (l++List.replicate j 0) (l.length+j) (by simp) (hz j hj) (by omega)
   rw[List.append_assoc,←List.replicate_succ'] at this
   exact this
  ·have h2:Goes Tryz.prog (ah Tryz.prog 73 2) (.exit 0) (sg s 2 (l.length+z)) [dB (aZ s),oB 128,aB (l++List.replicate z 0)] (sg s 2 (l.length+z)) [dB (aZ s),oB 128,aB (l++List.replicate z 0)]:=Runs.goes Fo ⟨_,_,alU s (l++List.replicate z 0) (l.length+z),⟨UI h,trivial⟩,FF _ _ _⟩
   exact h2.toK (by simp only[List.length_cons,List.length_nil];omega)
 rw[List.replicate_zero,List.append_nil,Nat.add_zero] at hK
 refine GoesK.goes (K:=3) (hK.move (b:=2) (b':=3) (ai9 s 2 3 (l.length+z)) (by omega) (by omega) ?_ (aar _ _ _)) (by simp only[List.length_cons,List.length_nil])
 intro i k hk hl
 match i,hk with
 |0,hk=>simp only[List.getElem?_cons_zero,Option.some.injEq] at hk;subst hk;exact absurd hl (by simp[dB])
 |1,hk=>simp only[List.getElem?_cons_succ,List.getElem?_cons_zero,Option.some.injEq] at hk;subst hk;exact ⟨fun _=>rfl,.inl ⟨by omega,rfl⟩⟩
 |2,hk=>simp only[List.getElem?_cons_succ,List.getElem?_cons_zero,Option.some.injEq] at hk;subst hk;exact absurd hl (by simp[dB])
 |3,hk=>simp only[List.getElem?_cons_succ,List.getElem?_cons_zero,Option.some.injEq] at hk;subst hk;exact ⟨fun _=>rfl,.inr ⟨rfl,by omega,rfl⟩⟩
 |i+4,hk=>simp at hk
noncomputable def amp (s:ByteArray) (n m:Nat) (l l':List Nat):Env:=fY E73 1002 (ah Tryz.prog 73 2) (Ri (sg s 2 n) [dB (aZ s),oB 128,aB l] (sg s 3 m) [dB (aZ s),oB 128,dB [],aB l'] (.exit 0))
def qC (n:Nat):Nat:=iO n*8%t4
def R' (l:List Nat) (x:Nat):Nat→List Nat
 |0=>l
 |k+1=>R' l x k++[x/2^(8*(7-k))%256]
theorem BL (l:List Nat) (x:Nat):∀k,(R' l x k).length=l.length+k
 |0=>rfl
 |k+1=>by rw[R',List.length_append,BL l x k];rfl
def Sr (m:Nat) (l:List Nat) (x k:Nat):Prop:=m+k=(R' l x k).length∧0<1∧(m+k+1)*1≤140737488355328∧m+k+1≤140737488355328
set_option maxRecDepth 100000 in
theorem anQ (s:ByteArray) (m:Nat) (l':List Nat):al (amp s (s.size+1) m (aZ s++[128]) l') 1000 73 [sS s] []=
  some ([s.size≤140737488355328,s.size=(aZ s).length∧0<1∧(s.size+1)*1≤140737488355328∧s.size+1≤140737488355328,ah Tryz.prog 73 2=ah Tryz.prog 73 2,
   (sg s 2 (s.size+1),[dB (aZ s),oB 128,aB (aZ s++[128])])=(sg s 2 (s.size+1),[dB (aZ s),oB 128,aB (aZ s++[128])]),dl (sg s 2 (s.size+1)) [dB (aZ s),oB 128,aB (aZ s++[128])]=true,
   Sr m l' (qC s.size) 0,Sr m l' (qC s.size) 1,Sr m l' (qC s.size) 2,Sr m l' (qC s.size) 3,Sr m l' (qC s.size) 4,Sr m l' (qC s.size) 5,Sr m l' (qC s.size) 6,Sr m l' (qC s.size) 7,
   0=0∧m+8=(R' l' (qC s.size) 8).length],.val (sS (bQ (R' l' (qC s.size) 8)))):=by kernel_rfl
theorem Ya (l:List Nat) (x:Nat):R' l x 8=l++gu x:=by simp[R',gu]
theorem P7 (n:Nat):qC n=Ds n:=by unfold qC Ds;show iO n*8%t4=8*iO n%t4;rw[Nat.mul_comm]
theorem TG (s:ByteArray):bQ (R' ((aZ s++[128])++List.replicate (vA s.size).toNat 0) (qC s.size) 8)=iF s:=by
 rw[Ya,P7]
 unfold iF
 rw[dT,dT,dT,nB]
 rfl
theorem YI {m k x:Nat} {l:List Nat} (hl:l.length=m) (hm:m+k+1≤140737488355328):Sr m l x k:=⟨by rw[BL,hl],by decide,by omega,hm⟩
theorem spec73 (s:ByteArray) (h:s.size≤100000000000000):Spec 73 [sS s] (.val (sS (iF s))):=by
 rw[←TG s]
 have hl:(aZ s++[128]).length=s.size+1:=by rw[List.length_append,lC];rfl
 have hp:=A7 s.size
 have hg:=XR s (aZ s++[128]) (vA s.size).toNat (by rw[hl];intro j hj;omega) (by rw[hl];omega) (by rw[hl];omega)
 rw[hl] at hg
 have hlen:((aZ s++[128])++List.replicate (vA s.size).toNat 0).length=s.size+1+(vA s.size).toNat:=by rw[List.length_append,hl,List.length_replicate]
 have ho:=fun k (hk:k<8)=>YI (k:=k) (x:=qC s.size) hlen (by omega)
 exact af (da Fo (IO (by simp only[List.length_cons,List.length_nil];omega) hg)) rfl (anQ s _ _) ⟨by omega,⟨(lC s).symm,by decide,by omega,by omega⟩,rfl,rfl,FF _ _ _,ho 0 (by omega),ho 1 (by omega),ho 2 (by omega),ho 3 (by omega),ho 4 (by omega),ho 5 (by omega),ho 6 (by omega),ho 7 (by omega),⟨rfl,by rw[BL,hlen]⟩,trivial⟩ rfl rfl
noncomputable def XY (vs:List V1):Option (List Prop×AV):=
 match vs with
 |[.one (.v (.string s))]=>some ([s.size≤100000000000000],.val (sS (iF s)))
 |_=>none
theorem aoO:aU ⟨73,XY⟩:=by
 intro vs ob r h ho
 simp only[XY] at h
 split at h
 ·obtain ⟨rfl,rfl⟩:=sI h
  exact spec73 _ ho.1
 ·simp at h
noncomputable def L33:List CT:=[⟨72,cV (.val (BU BS))⟩,⟨73,XY⟩,⟨74,N0⟩]
theorem XN:bw L33:=⟨Xh,aoO,alB,trivial⟩
noncomputable def S33:FuncId→Nat→Bool:=fun f t=>match f with|33=>bf t [11,13,16,9000000]|_=>false
noncomputable def E33:Env:=cd L33 S33
theorem Gj:EnvOK E33:=aF XN _
def Eu (F:ByteArray):List AV:=bt 39 [(0,.val (sS F)),(3,pV 0)]
theorem aqb (h:W8) (F:ByteArray):aH E33 1000 (Env.S E33 33) (ah Tryz.prog 33 3) (Eu F) [sk h] [true] (Eu (F.extract 64 F.size)) 1=
  some ([(!F.toList==(⟨#[]⟩:ByteArray).toList)=true,(0:Int)≤64∧(64:Int)≤(F.size:Int),64≤(F.extract 0 64).size,(0:Int)≤64∧(64:Int)≤(F.size:Int)],.normal,Eu (F.extract 64 F.size),[sk (vJ h (F.extract 0 64))]):=by kernel_rfl
theorem amx (h:W8) (F:ByteArray):aH E33 1000 (Env.S E33 33) (ah Tryz.prog 33 3) (Eu F) [sk h] [false] (Eu F) 1=
  some ([(!F.toList==(⟨#[]⟩:ByteArray).toList)=false],.exit 0,Eu F,[sk h]):=by kernel_rfl
def KY (h:W8):ByteArray:=bQ (QO h.a++QO h.b++QO h.c++QO h.d++QO h.e++QO h.f++QO h.g++QO h.h)
noncomputable def amV (s G:ByteArray) (h:W8):Env:=fY E33 1003 (ah Tryz.prog 33 3) (fo (Eu (iF s)) [sk BS] (Eu G) [sk h] (.exit 0))
theorem ao6 (s G:ByteArray) (h:W8):al (amV s G h) 1000 33 [sS s] []=
  some ([s.size≤100000000000000,ah Tryz.prog 33 3=ah Tryz.prog 33 3,(Eu (iF s),[sk BS])=(Eu (iF s),[sk BS]),dl (Eu (iF s)) [sk BS]=true],.val (sS (KY h))):=by kernel_rfl
theorem ZJ (F:ByteArray) (h:W8):dl (Eu F) [sk h]=true:=cc (XG (gE h)) (by show cw 1 _=true;kernel_rfl)
theorem Y8 (F:ByteArray) (n:Nat) (hn:F.size=64*n) (h2:F.size≤1000000000000000) (V:Nat→W8) (hV:∀j,V (j+1)=vJ (V j) (F.extract (64*j) (64*j+64))):
  Goes Tryz.prog (.loop (ah Tryz.prog 33 3)) (.exit 0) (Eu (F.extract (64*0) F.size)) [sk (V 0)] (Eu (F.extract (64*n) F.size)) [sk (V n)]:=by
 refine bJ (N:=n) (k:=1) (T:=fun j=>Eu (F.extract (64*j) F.size)) (M:=fun j=>[sk (V j)]) (by simp) (fun _ _=>by simp only[List.length_cons,List.length_nil]) (fun j hj=> ?_) ?_
 ·have hr:=aqb (V j) (F.extract (64*j) F.size)
  have hz:=fM F (64*j) F.size (Nat.le_refl _)
  have hz2:(F.extract (64*j) (64*j+64)).size=64:=by rw[fM F (64*j) (64*j+64) (by omega)];omega
  rw[hz,ut F _ _ _ (by omega),ut F _ _ _ (by omega),show 64*j+(F.size-64*j)=F.size by omega,show 64*j+0=64*j by omega,←hV j,show 64*j+64=64*(j+1) by omega] at hr
  rw[show 64*j+64=64*(j+1) by omega] at hz2
  exact Runs.goes Gj ⟨_,_,hr,⟨EC (by rw[hz];omega),by omega,by rw[hz2];omega,by omega,trivial⟩,ZJ _ _⟩
 ·exact Runs.goes Gj ⟨_,_,amx (V n) _,⟨Dt (by rw[fM F _ _ (Nat.le_refl _)];omega),trivial⟩,ZJ _ _⟩
theorem ac_ (s:ByteArray) (h2:s.size≤100000000000000):Goes Tryz.prog (.loop (ah Tryz.prog 33 3)) (.exit 0) (Eu (iF s)) [sk BS] (Eu ((iF s).extract (64*N2 s.size) (iF s).size)) [sk (JV (iF s) (N2 s.size))]:=by
 have h:=Y8 (iF s) (N2 s.size) (ox s) (by rw[ox];unfold N2;omega) (JV (iF s)) (fun _=>rfl)
 rw[Nat.mul_zero,Ia] at h
 exact h
theorem N7 (h:W8):KY h=yI h:=by
 unfold KY yI db
 rw[yK]
 simp only[dT]
theorem YQ (s:ByteArray) (h2:s.size≤100000000000000):Spec 33 [sS s] (.val (sS (nF s))):=by
 have h:=af (da Gj (bz (by simp only[List.length_cons,List.length_nil]) (ac_ s h2))) rfl (ao6 s _ _) ⟨h2,rfl,rfl,ZJ _ _,trivial⟩ rfl rfl
 rw[N7] at h
 exact h
theorem adA:aU ⟨33,DZ⟩:=by
 intro vs ob r h ho
 simp only[DZ] at h
 split at h
 ·obtain ⟨rfl,rfl⟩:=sI h
  exact YQ _ ho.1
 ·simp at h
set_option maxRecDepth 100000
def bB (l:List Nat):Blk:=⟨[.arr .u8 l],5,true,false,0⟩
def u8V (x:Nat):AV:= .val (.one (.u .u8 x))
def slV (n:Nat):AV:= .val (.one (.sl 0 0 n n))
noncomputable def S86:FuncId→Nat→Bool:=fun f t=>match f with|213=>bf t [2000010,2000013,2000022,4000025,2000028,21,25,17,26]|107=>bf t [2000010,13,19,21,24,25,4000025,30,2000031,34,4000034,15,2000036]|_=>false
noncomputable def E86:Env:={E0 with S:=S86}
theorem jq:EnvOK E86:=⟨mixed,envE0.fns,envE0.fms,envE0.lps,envE0.fbs⟩
def Ab (x:Nat) (i:Int):List AV:=bt 29 [(2,u8V x),(7,slV 64),(15,iV 64),(16,iV i)]
def jG (k:ByteArray) (x:Nat) (i:Int):List AV:=bt 37 [(0,.val (sS k)),(1,iV 64),(2,u8V x),(7,slV 64),(8,iV i)]
def xr (a x:Nat):Nat:=a%256^^^x%256
theorem t86 (x i:Nat) (l:List Nat):aH E86 1000 (E86.S 213) (ah Tryz.prog 213 4) (Ab x (i:Int)) [bB l] [true] (Ab x ((i:Int)+1)) 1=
  some ([decide ((i:Int)<64)=true,(0:Int)≤(i:Int)∧(i:Int)<((64:Nat):Int),0+i*1<l.length,(0:Int)≤(i:Int)∧(i:Int)<((64:Nat):Int),0+i*1<l.length,br ((i:Int)+1)],.normal,Ab x ((i:Int)+1),[bB (l.set (0+i*1) (xr (l.getD (0+i*1) 0) x))]):=by kernel_rfl
theorem x86 (x i:Nat) (l:List Nat):aH E86 1000 (E86.S 213) (ah Tryz.prog 213 4) (Ab x (i:Int)) [bB l] [false] (Ab x (i:Int)) 1=
  some ([decide ((i:Int)<64)=false],.exit 0,Ab x (i:Int),[bB l]):=by kernel_rfl
def kb (k:ByteArray) (j:Nat):Nat:=(k.data.getD j 0).toNat
theorem Yf (k:ByteArray) (x i:Nat) (l:List Nat):aH E86 1000 (E86.S 107) (ah Tryz.prog 107 3) (jG k x (i:Int)) [bB l] [true,true] (jG k x ((i:Int)+1)) 1=
  some ([decide ((i:Int)<64)=true,decide ((i:Int)<(k.size:Int))=true,(0:Int)≤(i:Int)∧(i:Int)<(k.size:Int),(0:Int)≤(i:Int)∧(i:Int)<((64:Nat):Int),0+i*1<l.length,(0:Int)≤(i:Int)∧(i:Int)<((64:Nat):Int),0+i*1<(l.set (0+i*1) (kb k i)).length,(0:Int)≤(i:Int)∧(i:Int)<((64:Nat):Int),0+i*1<(l.set (0+i*1) (kb k i)).length,br ((i:Int)+1)],.normal,jG k x ((i:Int)+1),[bB ((l.set (0+i*1) (kb k i)).set (0+i*1) (xr ((l.set (0+i*1) (kb k i)).getD (0+i*1) 0) x))]):=by kernel_rfl
theorem ZV (k:ByteArray) (x i:Nat) (l:List Nat):aH E86 1000 (E86.S 107) (ah Tryz.prog 107 3) (jG k x (i:Int)) [bB l] [true,false] (jG k x ((i:Int)+1)) 1=
  some ([decide ((i:Int)<64)=true,decide ((i:Int)<(k.size:Int))=false,(0:Int)≤(i:Int)∧(i:Int)<((64:Nat):Int),0+i*1<l.length,(0:Int)≤(i:Int)∧(i:Int)<((64:Nat):Int),0+i*1<l.length,br ((i:Int)+1)],.normal,jG k x ((i:Int)+1),[bB (l.set (0+i*1) (xr (l.getD (0+i*1) 0) x))]):=by kernel_rfl
theorem x52 (k:ByteArray) (x i:Nat) (l:List Nat):aH E86 1000 (E86.S 107) (ah Tryz.prog 107 3) (jG k x (i:Int)) [bB l] [false] (jG k x (i:Int)) 1=
  some ([decide ((i:Int)<64)=false],.exit 0,jG k x (i:Int),[bB l]):=by kernel_rfl
noncomputable def aiC (x:Nat) (l0 l1:List Nat):Env:=fY E86 4 (ah Tryz.prog 213 4) (fo (Ab x 0) [bB l0] (Ab x 64) [bB l1] (.exit 0))
noncomputable def MH (k:ByteArray) (x:Nat) (l0 l1:List Nat):Env:=fY E86 3 (ah Tryz.prog 107 3) (fo (jG k x 0) [bB l0] (jG k x 64) [bB l1] (.exit 0))
def rep0:List Nat:=List.replicate 64 0
theorem r86 (x:Nat) (k:ByteArray) (l0 l1:List Nat):al (aiC x l0 l1) 1000 213 [sS k,.one (.i 64),.one (.u .u8 x)] []=
  some ([(0:Int)≤64∧(64:Int)=64∧(64:Int)≤140737488355328,0=0∧64=rep0.length∧k.size≤64,ah Tryz.prog 213 4=ah Tryz.prog 213 4,(Ab x 0,[bB (aZ k++List.drop k.size rep0)])=(Ab x 0,[bB l0]),dl (Ab x 0) [bB l0]=true,0=0∧64=l1.length],.val (sS (bQ l1))):=by kernel_rfl
theorem r52 (x:Nat) (k:ByteArray) (l0 l1:List Nat):al (MH k x l0 l1) 1000 107 [sS k,.one (.i 64),.one (.u .u8 x)] []=
  some ([(0:Int)≤64∧(64:Int)=64∧(64:Int)≤140737488355328,ah Tryz.prog 107 3=ah Tryz.prog 107 3,(jG k x 0,[bB rep0])=(jG k x 0,[bB l0]),dl (jG k x 0) [bB l0]=true,0=0∧64=l1.length],.val (sS (bQ l1))):=by kernel_rfl
def gI (f:Nat→Nat):List Nat:=(List.range 64).map f
theorem iv (f:Nat→Nat):(gI f).length=64:=by simp[gI]
theorem oJ (f:Nat→Nat) {i:Nat} (h:i<64):(gI f).getD i 0=f i:=by
 unfold gI
 rw[List.getD_eq_getElem?_getD,List.getElem?_map,List.getElem?_range h];rfl
theorem gK {f g:Nat→Nat} (h:∀i,i<64→f i=g i):gI f=gI g:=List.map_congr_left fun i hi=>h i (List.mem_range.1 hi)
theorem k6 (f:Nat→Nat) (i v:Nat):(gI f).set i v=gI fun j=>if j=i then v else f j:=by
 apply List.ext_getElem?
 intro j
 unfold gI
 rw[List.getElem?_set]
 by_cases hj:j<64
 ·rw[List.getElem?_map,List.getElem?_map,List.getElem?_range hj]
  by_cases e:i=j
  ·subst e;simp[hj]
  ·simp[e,Ne.symm e]
 ·rw[List.getElem?_eq_none (by simp;omega),List.getElem?_eq_none (by simp;omega)]
  split
  ·split
   ·rename_i h1 h2;rw[List.length_map,List.length_range] at h2;omega
   ·rfl
  ·rfl
theorem AT {l:List Nat} {f:Nat→Nat} (hl:l.length=64) (h:∀i,i<64→l.getD i 0=f i):l=gI f:=by
 apply List.ext_getElem?
 intro j
 unfold gI
 by_cases hj:j<64
 ·rw[List.getElem?_map,List.getElem?_range hj,Option.map_some,←h j hj,List.getD_eq_getElem?_getD,List.getElem?_eq_getElem (by omega)];rfl
 ·rw[List.getElem?_eq_none (by omega),List.getElem?_eq_none (by simp;omega)]
def eb (k:ByteArray) (x:Nat):ByteArray:=bQ (gI fun j=>xr (kb k j) x)
theorem lM (k:ByteArray) (x:Nat):(eb k x).size=64:=by unfold eb;rw[dh,iv]
theorem zu {k:ByteArray} {j:Nat} (h:k.size≤j):kb k j=0:=by
 unfold kb
 rw[Array.getD,dif_neg (by show ¬j<k.size;omega)];rfl
theorem Kd (k:ByteArray) (j:Nat):(aZ k).getD j 0=kb k j:=by
 unfold aZ kb
 rw[List.getD_eq_getElem?_getD,List.getElem?_map]
 by_cases h:j<k.data.size
 ·rw[Array.getElem?_toList,Array.getElem?_eq_getElem h];simp only[Array.getD,dif_pos h];rfl
 ·rw[Array.getElem?_toList,Array.getElem?_eq_none (by omega)];simp only[Array.getD,dif_neg h];rfl
theorem Yr {k:ByteArray} (h:k.size≤64):aZ k++List.drop k.size rep0=gI (kb k):=by
 have hn:(aZ k).length=k.size:=lC k
 have hr:rep0.length=64:=List.length_replicate
 refine AT (by rw[List.length_append,hn,List.length_drop,hr];omega) fun i hi=> ?_
 rw[List.getD_eq_getElem?_getD]
 by_cases hj:i<k.size
 ·rw[List.getElem?_append_left (by omega),←List.getD_eq_getElem?_getD,Kd]
 ·rw[List.getElem?_append_right (by omega),hn,zu (by omega),List.getElem?_drop]
  unfold rep0
  rw[List.getElem?_replicate]
  split<;>rfl
theorem FT:rep0=gI fun _=>0:=by
 refine AT List.length_replicate fun i hi=> ?_
 unfold rep0
 rw[List.getD_eq_getElem?_getD,List.getElem?_replicate,if_pos hi];rfl
theorem ur (l:List Nat):∀b∈[bB l],er b:=by
 intro b hb
 simp only[List.mem_cons,List.not_mem_nil,or_false] at hb
 subst hb;exact fun _=>rfl
theorem ZZ (x:Nat) (i:Int) (l:List Nat):dl (Ab x i) [bB l]=true:=cc (ur l) (by show cw 1 _=true;kernel_rfl)
theorem AY (k:ByteArray) (x:Nat) (i:Int) (l:List Nat):dl (jG k x i) [bB l]=true:=cc (ur l) (by show cw 1 _=true;kernel_rfl)
theorem YP (x i:Nat) (l:List Nat) (hl:l.length=64) (hi:i<64):Goes Tryz.prog (ah Tryz.prog 213 4) .normal (Ab x (i:Int)) [bB l] (Ab x ((i:Int)+1)) [bB (l.set (0+i*1) (xr (l.getD (0+i*1) 0) x))]:=
 Runs.goes jq ⟨_,_,t86 x i l,⟨decide_eq_true (by omega),by omega,by omega,by omega,by omega,by unfold br;omega,trivial⟩,ZZ _ _ _⟩
theorem ahz (x:Nat) (l:List Nat):Goes Tryz.prog (ah Tryz.prog 213 4) (.exit 0) (Ab x ((64:Nat):Int)) [bB l] (Ab x ((64:Nat):Int)) [bB l]:=
 Runs.goes jq ⟨_,_,x86 x 64 l,⟨by decide,trivial⟩,ZZ _ _ _⟩
theorem zy (k:ByteArray) (x i:Nat) (l:List Nat) (hl:l.length=64) (hi:i<64) (hk:i<k.size):Goes Tryz.prog (ah Tryz.prog 107 3) .normal (jG k x (i:Int)) [bB l] (jG k x ((i:Int)+1)) [bB ((l.set (0+i*1) (kb k i)).set (0+i*1) (xr ((l.set (0+i*1) (kb k i)).getD (0+i*1) 0) x))]:=
 Runs.goes jq ⟨_,_,Yf k x i l,⟨decide_eq_true (by omega),decide_eq_true (by omega),by omega,by omega,by omega,by omega,by rw[List.length_set];omega,by omega,by rw[List.length_set];omega,by unfold br;omega,trivial⟩,AY _ _ _ _⟩
theorem Ap (k:ByteArray) (x i:Nat) (l:List Nat) (hl:l.length=64) (hi:i<64) (hk:k.size≤i):Goes Tryz.prog (ah Tryz.prog 107 3) .normal (jG k x (i:Int)) [bB l] (jG k x ((i:Int)+1)) [bB (l.set (0+i*1) (xr (l.getD (0+i*1) 0) x))]:=
 Runs.goes jq ⟨_,_,ZV k x i l,⟨decide_eq_true (by omega),decide_eq_false (by omega),by omega,by omega,by omega,by omega,by unfold br;omega,trivial⟩,AY _ _ _ _⟩
theorem K1 (k:ByteArray) (x:Nat) (l:List Nat):Goes Tryz.prog (ah Tryz.prog 107 3) (.exit 0) (jG k x ((64:Nat):Int)) [bB l] (jG k x ((64:Nat):Int)) [bB l]:=
 Runs.goes jq ⟨_,_,x52 k x 64 l,⟨by decide,trivial⟩,AY _ _ _ _⟩
theorem abJ (k:ByteArray) (x:Nat):Goes Tryz.prog (.loop (ah Tryz.prog 213 4)) (.exit 0) (Ab x ((0:Nat):Int)) [bB (gI (kb k))] (Ab x ((64:Nat):Int)) [bB (gI fun j=>xr (kb k j) x)]:=by
 have e0:gI (kb k)=gI fun j=>if j<0 then xr (kb k j) x else kb k j:=gK fun i _=>by simp
 have e1:(gI fun j=>xr (kb k j) x)=gI fun j=>if j<64 then xr (kb k j) x else kb k j:=gK fun i hi=>by simp[hi]
 rw[e0,e1]
 refine bJ (N:=64) (k:=1) (T:=fun i=>Ab x (i:Int)) (M:=fun i=>[bB (gI fun j=>if j<i then xr (kb k j) x else kb k j)]) (by simp) (fun _ _=>rfl) (fun i hi=> ?_) ?_
 ·have h:=YP x i (gI fun j=>if j<i then xr (kb k j) x else kb k j) (iv _) hi
  rw[show 0+i*1=i by omega,oJ _ hi,k6,if_neg (Nat.lt_irrefl i)] at h
  have e:(gI fun j=>if j=i then xr (kb k i) x else if j<i then xr (kb k j) x else kb k j)=gI fun j=>if j<i+1 then xr (kb k j) x else kb k j:=gK fun j _=>by
   by_cases h1:j=i
   ·subst h1;simp
   ·by_cases h2:j<i
    ·simp[h1,h2,show j<i+1 by omega]
    ·simp[h1,h2,show ¬j<i+1 by omega]
  rw[e] at h
  exact h
 ·exact ahz x _
theorem GD (k:ByteArray) (x:Nat):Goes Tryz.prog (.loop (ah Tryz.prog 107 3)) (.exit 0) (jG k x ((0:Nat):Int)) [bB rep0] (jG k x ((64:Nat):Int)) [bB (gI fun j=>xr (kb k j) x)]:=by
 have e0:rep0=gI fun j=>if j<0 then xr (kb k j) x else 0:=by rw[FT];exact gK fun i _=>by simp
 have e1:(gI fun j=>xr (kb k j) x)=gI fun j=>if j<64 then xr (kb k j) x else 0:=gK fun i hi=>by simp[hi]
 rw[e0,e1]
 refine bJ (N:=64) (k:=1) (T:=fun i=>jG k x (i:Int)) (M:=fun i=>[bB (gI fun j=>if j<i then xr (kb k j) x else 0)]) (by simp) (fun _ _=>rfl) (fun i hi=> ?_) ?_
 ·have e:(gI fun j=>if j=i then xr (kb k i) x else if j<i then xr (kb k j) x else 0)=gI fun j=>if j<i+1 then xr (kb k j) x else 0:=gK fun j _=>by
   by_cases h1:j=i
   ·subst h1;simp
   ·by_cases h2:j<i
    ·simp[h1,h2,show j<i+1 by omega]
    ·simp[h1,h2,show ¬j<i+1 by omega]
  by_cases hk:i<k.size
  ·have h:=zy k x i (gI fun j=>if j<i then xr (kb k j) x else 0) (iv _) hi hk
   rw[show 0+i*1=i by omega,k6,k6,oJ _ hi,if_pos rfl] at h
   have e2:(gI fun j=>if j=i then xr (kb k i) x else if j=i then kb k i else if j<i then xr (kb k j) x else 0)=gI fun j=>if j=i then xr (kb k i) x else if j<i then xr (kb k j) x else 0:=gK fun j _=>by
    by_cases h1:j=i<;>simp[h1]
   rw[e2,e] at h
   exact h
  ·have h:=Ap k x i (gI fun j=>if j<i then xr (kb k j) x else 0) (iv _) hi (by omega)
   rw[show 0+i*1=i by omega,oJ _ hi,k6,if_neg (Nat.lt_irrefl i)] at h
   have e3:xr 0 x=xr (kb k i) x:=by rw[zu (by omega)]
   rw[e3,e] at h
   exact h
 ·exact K1 k x _
theorem FB (k:ByteArray) (x:Nat) (h:k.size≤64):Spec 213 [sS k,.one (.i 64),.one (.u .u8 x)] (.val (sS (eb k x))):=by
 have hE:EnvOK (aiC x (gI (kb k)) (gI fun j=>xr (kb k j) x)):=da jq (bz rfl (abJ k x))
 exact af hE rfl (r86 x k _ _) ⟨by omega,⟨rfl,List.length_replicate.symm,h⟩,rfl,by rw[Yr h],ZZ _ _ _,⟨rfl,(iv _).symm⟩,trivial⟩ rfl rfl
theorem rC (k:ByteArray) (x:Nat):Spec 107 [sS k,.one (.i 64),.one (.u .u8 x)] (.val (sS (eb k x))):=by
 have hE:EnvOK (MH k x rep0 (gI fun j=>xr (kb k j) x)):=da jq (bz rfl (GD k x))
 exact af hE rfl (r52 x k _ _) ⟨by omega,rfl,rfl,AY _ _ _ _,⟨rfl,(iv _).symm⟩,trivial⟩ rfl rfl
def oV (vs:List V1):Option (List Prop×AV):=match vs with|[.one (.v (.string k)),.one (.i z),.one (.u .u8 x)]=>some ([z=64,k.size≤64],.val (sS (eb k x)))|_=>none
theorem aj3:aU ⟨213,oV⟩:=by
 intro vs ob r h ho
 simp only[oV] at h
 split at h
 ·obtain ⟨rfl,rfl⟩:=sI h
  obtain ⟨rfl,h2,_⟩:=ho
  exact FB _ _ h2
 ·simp at h
theorem ain:aU ⟨107,oV⟩:=by
 intro vs ob r h ho
 simp only[oV] at h
 split at h
 ·obtain ⟨rfl,rfl⟩:=sI h
  obtain ⟨rfl,_,_⟩:=ho
  exact rC _ _
 ·simp at h
noncomputable def bU (k s:ByteArray):ByteArray:=nF (eb k 92++nF (eb k 54++s))
noncomputable def LHm:List CT:=[⟨213,oV⟩,⟨107,oV⟩,⟨33,DZ⟩,⟨46,DZ⟩]
theorem Bh:bw LHm:=⟨aj3,ain,adA,aaf,trivial⟩
noncomputable def Z3:FuncId→Nat→Bool:=fun f t=>match f with|188=>bf t [12,25,27]|157=>bf t [7,15,17]|_=>false
theorem r39 (k s:ByteArray):al (cd LHm Z3) 1000 131 [sS k,sS s] [false]=
  some ([decide ((64:Int)<(k.size:Int))=false,(64:Int)=64,k.size≤64,(64:Int)=64,k.size≤64,(eb k 54).size+s.size≤9223372036854775807,(eb k 54++s).size≤100000000000000,(eb k 92).size+(nF (eb k 54++s)).size≤9223372036854775807,(eb k 92++nF (eb k 54++s)).size≤100000000000000],.val (sS (bU k s))):=by kernel_rfl
theorem r31 (k s:ByteArray):al (cd LHm Z3) 1000 157 [sS k,sS s] [false]=
  some ([decide ((64:Int)<(k.size:Int))=false,(64:Int)=64,k.size≤64,(64:Int)=64,k.size≤64,(eb k 54).size+s.size≤9223372036854775807,(eb k 54++s).size≤100000000000000,(eb k 92).size+(nF (eb k 54++s)).size≤9223372036854775807,(eb k 92++nF (eb k 54++s)).size≤100000000000000],.val (sS (bU k s))):=by kernel_rfl
theorem ez (k s:ByteArray):(bU k s).size=32:=oh _
theorem Ic {k s:ByteArray} (hk:k.size≤64) (hs:s.size≤10000000000000):cL [decide ((64:Int)<(k.size:Int))=false,(64:Int)=64,k.size≤64,(64:Int)=64,k.size≤64,(eb k 54).size+s.size≤9223372036854775807,(eb k 54++s).size≤100000000000000,(eb k 92).size+(nF (eb k 54++s)).size≤9223372036854775807,(eb k 92++nF (eb k 54++s)).size≤100000000000000]:=by
 have e1:=lM k 54
 have e2:=lM k 92
 have e3:=oh (eb k 54++s)
 have e4:(eb k 54++s).size=64+s.size:=by rw[ByteArray.size_append,e1]
 have e5:(eb k 92++nF (eb k 54++s)).size=96:=by rw[ByteArray.size_append,e2,e3]
 exact ⟨decide_eq_false (by omega),rfl,hk,rfl,hk,by omega,by omega,by omega,by omega,trivial⟩
noncomputable def IQ (vs:List V1):Option (List Prop×AV):=match vs with|[.one (.v (.string k)),.one (.v (.string s))]=>some ([k.size≤64,s.size≤10000000000000],.val (sS (bU k s)))|_=>none
theorem ajk:aU ⟨131,IQ⟩:=by
 intro vs ob r h ho
 simp only[IQ] at h
 split at h
 ·obtain ⟨rfl,rfl⟩:=sI h
  obtain ⟨h1,h2,_⟩:=ho
  exact af (aF Bh Z3) rfl (r39 _ _) (Ic h1 h2) rfl rfl
 ·simp at h
theorem aiK:aU ⟨157,IQ⟩:=by
 intro vs ob r h ho
 simp only[IQ] at h
 split at h
 ·obtain ⟨rfl,rfl⟩:=sI h
  obtain ⟨h1,h2,_⟩:=ho
  exact af (aF Bh Z3) rfl (r31 _ _) (Ic h1 h2) rfl rfl
 ·simp at h
end Go.Ev.H5
namespace Go.Ev
open Go Go.Proofs Go.RowKit
structure J3 where
 x:Nat
 y:Nat
 z:Nat
def J3.lt (p:J3):Prop:=p.x<ab 1∧p.y<ab 1∧p.z<ab 1
def f3 (p:J3):V1:= .agg [.num 8 p.x,.num 8 p.y,.num 8 p.z]
def aJ:Arg:= .s [.n8,.n8,.n8]
noncomputable def ii:V1:= .agg [.num 8 (ab 1),.a (.u .u32 (aT 1)),.num 8 eL]
theorem li:eL<ab 1:=au (ae 1)
noncomputable def kF (a b c d ac bd:Nat):Nat:=aw (ab 1) (ap (ab 1) (addM (ab 1) a b) (addM (ab 1) c d)) (addM (ab 1) ac bd)
noncomputable def fK (a:Nat):Nat:=addM (ab 1) (addM (ab 1) a a) a
theorem fX {a b c d ac bd:Nat}:kF a b c d ac bd<ab 1:=av (ae 1)
theorem fh {a:Nat}:fK a<ab 1:=ao (ae 1)
theorem ao0 (a:Nat):al (cd PU iA) 1000 65 [] []=
  some ([(0:Int)≤(1:Int)∧(1:Int)<(4:Int),ab 1<4294967296^8,0<ab 1,m8<4294967296^8],.val ii):=by kernel_rfl
theorem VD:Spec 65 [] (.val ii):=by
 have h0:=rJ
 exact af (aF lT iA) rfl (ao0 0) ⟨(by decide),(aj _),(ae _),(by first|with_reducible assumption|with_reducible exact L8 (by with_reducible assumption)|exact decide_eq_true (by omega)|exact decide_eq_false (by omega)|omega),trivial⟩ rfl rfl
noncomputable def dj (x y:Nat) (i:Bool):J3:=bif i then ⟨0,aq (ab 1) 1,0⟩ else ⟨aq (ab 1) x,aq (ab 1) y,aq (ab 1) 1⟩
theorem lQ (x y:Nat) (i:Bool):(dj x y i).lt:=by
 have hp:=ae 1
 cases i
 ·exact ⟨au hp,au hp,au hp⟩
 ·exact ⟨hp,au hp,hp⟩
theorem ahN (x:Nat) (y:Nat):al (cd PU iA) 1000 68 [ii,P3 x y true] []=
  some ([ab 1<4294967296^8,0<ab 1,1<4294967296,0<4294967296,0<4294967296,0<4294967296,0<4294967296,0<4294967296,0<4294967296,0<4294967296],.val (.agg (bp 8 0 zF++(.num 8 (aq (ab 1) 1)::bp 8 0 zF)))):=by kernel_rfl
theorem afI (x:Nat) (y:Nat):al (cd PU iA) 1000 68 [ii,P3 x y false] []=
  some ([ab 1<4294967296^8,0<ab 1,1<4294967296,0<4294967296,0<4294967296,0<4294967296,0<4294967296,0<4294967296,0<4294967296,0<4294967296,ab 1<4294967296^8,0<ab 1,x<4294967296^8,ab 1<4294967296^8,0<ab 1,y<4294967296^8],.val (f3 (dj x y false))):=by kernel_rfl
theorem Q8 (x y:Nat) (i:Bool) (h:i=true∨(x<ab 1∧y<ab 1)):Spec 68 [ii,P3 x y i] (.val (f3 (dj x y i))):=by
 have h1:=a9 1
 cases i with
 |true=>exact (af (aF lT iA) rfl (ahN x y) ⟨(aj _),(ae _),tR,bL,bL,bL,bL,bL,bL,bL,trivial⟩ rfl rfl).congr (fun _=>rfl) (fun φ=>by
   simp only[AV.conc,V1.conc,f3,dj,cond_true,bb]
   rw[←gU,←fv φ 8 0]
   rfl)
 |false=>
  rcases h with h|⟨hx,hy⟩
  ·simp at h
  ·exact af (aF lT iA) rfl (afI x y) (by refine ⟨(aj _),(ae _),tR,bL,bL,bL,bL,bL,bL,bL,(aj _),(ae _),?_,(aj _),(ae _),?_,trivial⟩<;>first|with_reducible assumption|with_reducible exact L8 (by with_reducible assumption)|exact decide_eq_true (by omega)|exact decide_eq_false (by omega)|omega) rfl rfl
theorem apb (a:Nat) (b:Nat) (c:Nat) (d:Nat) (e:Nat) (g:Nat):al (cd PU iA) 1000 186 [ii,N8 a,N8 b,N8 c,N8 d,N8 e,N8 g] []=
  some ([ab 1<4294967296^8,a<ab 1,b<ab 1,a<4294967296^8,b<4294967296^8,ab 1<4294967296^8,c<ab 1,d<ab 1,c<4294967296^8,d<4294967296^8,ab 1<4294967296^8,addM (ab 1) a b<ab 1,addM (ab 1) c d<ab 1,bc (ab 1) (aT 1),addM (ab 1) a b<4294967296^8,addM (ab 1) c d<4294967296^8,ab 1<4294967296^8,e<ab 1,g<ab 1,e<4294967296^8,g<4294967296^8,ab 1<4294967296^8,ap (ab 1) (addM (ab 1) a b) (addM (ab 1) c d)<ab 1,addM (ab 1) e g<ab 1,ap (ab 1) (addM (ab 1) a b) (addM (ab 1) c d)<4294967296^8,addM (ab 1) e g<4294967296^8],.val (N8 (kF a b c d e g))):=by kernel_rfl
theorem aoT (a:Nat):al (cd PU iA) 1000 187 [ii,N8 a] []=
  some ([ab 1<4294967296^8,a<ab 1,a<ab 1,a<4294967296^8,a<4294967296^8,ab 1<4294967296^8,addM (ab 1) a a<ab 1,a<ab 1,addM (ab 1) a a<4294967296^8,a<4294967296^8],.val (N8 (fK a))):=by kernel_rfl
theorem Sw (a b c d e g:Nat) (ha:a<ab 1) (hb:b<ab 1) (hc:c<ab 1) (hd:d<ab 1) (he:e<ab 1) (hg:g<ab 1):Spec 186 [ii,N8 a,N8 b,N8 c,N8 d,N8 e,N8 g] (.val (N8 (kF a b c d e g))):=af (aF lT iA) rfl (apb a b c d e g) (by refine ⟨(aj _),?_,?_,?_,?_,(aj _),?_,?_,?_,?_,(aj _),(ao (ae _)),(ao (ae _)),(aK (by decide)),(L8 (ao (ae _))),(L8 (ao (ae _))),(aj _),?_,?_,?_,?_,(aj _),(ai (ae _)),(ao (ae _)),(L8 (ai (ae _))),(L8 (ao (ae _))),trivial⟩<;>first|with_reducible assumption|with_reducible exact L8 (by with_reducible assumption)|exact decide_eq_true (by omega)|exact decide_eq_false (by omega)|omega) rfl rfl
theorem SN (a:Nat) (ha:a<ab 1):Spec 187 [ii,N8 a] (.val (N8 (fK a))):=af (aF lT iA) rfl (aoT a) (by refine ⟨(aj _),?_,?_,?_,?_,(aj _),(ao (ae _)),?_,(L8 (ao (ae _))),?_,trivial⟩<;>first|with_reducible assumption|with_reducible exact L8 (by with_reducible assumption)|exact decide_eq_true (by omega)|exact decide_eq_false (by omega)|omega) rfl rfl
noncomputable def Fh:List Val→Option (List Prop×AV)
 |[.n m,.n q,.n w,.n a,.n b,.n c,.n d,.n e,.n g]=>some ([m=ab 1,q=aT 1,w=eL,a<ab 1,b<ab 1,c<ab 1,d<ab 1,e<ab 1,g<ab 1],.val (N8 (kF a b c d e g)))
 |_=>none
noncomputable def X7:List Val→Option (List Prop×AV)
 |[.n m,.n q,.n w,.n a]=>some ([m=ab 1,q=aT 1,w=eL,a<ab 1],.val (N8 (fK a)))
 |_=>none
noncomputable def gOf:List Val→Option (List Prop×AV)
 |[.n m,.n q,.n w,.n x,.n y,.b i]=>some ([m=ab 1,q=aT 1,w=eL,i=true∨(x<ab 1∧y<ab 1)],.val (f3 (dj x y i)))
 |_=>none
theorem aio:aU ⟨186,dU [fd,aN,aN,aN,aN,aN,aN] Fh⟩:=jE (by
 intro xs ob r hb h ho
 unfold Fh at h
 split at h
 ·obtain ⟨rfl,rfl⟩:=sI h
  obtain ⟨e0,e1,e2,h1,h2,h3,h4,h5,h6,_⟩:=ho
  subst e0 e1 e2
  exact Sw _ _ _ _ _ _ h1 h2 h3 h4 h5 h6
 ·simp at h)
theorem ai1:aU ⟨187,dU [fd,aN] X7⟩:=jE (by
 intro xs ob r hb h ho
 unfold X7 at h
 split at h
 ·obtain ⟨rfl,rfl⟩:=sI h
  obtain ⟨e0,e1,e2,h1,_⟩:=ho
  subst e0 e1 e2
  exact SN _ h1
 ·simp at h)
theorem ajM:aU ⟨68,dU [fd,qg] gOf⟩:=jE (by
 intro xs ob r hb h ho
 unfold gOf at h
 split at h
 ·rename_i m q w x y i
  obtain ⟨rfl,rfl⟩:=sI h
  obtain ⟨e0,e1,e2,h1,_⟩:=ho
  subst e0 e1 e2
  exact Q8 x y i h1
 ·simp at h)
noncomputable def L4a:List CT:=[⟨65,cV (.val ii)⟩,⟨186,dU [fd,aN,aN,aN,aN,aN,aN] Fh⟩,⟨187,dU [fd,aN] X7⟩,⟨68,dU [fd,qg] gOf⟩]++PU
theorem Aj:bw L4a:=⟨tG VD,aio,ai1,ajM,lT⟩
noncomputable def mXX (p q:J3):Nat:=ap (ab 1) p.x q.x
noncomputable def mYY (p q:J3):Nat:=ap (ab 1) p.y q.y
noncomputable def mZZ (p q:J3):Nat:=ap (ab 1) p.z q.z
noncomputable def mXY (p q:J3):Nat:=kF p.x p.y q.x q.y (mXX p q) (mYY p q)
noncomputable def mYZ (p q:J3):Nat:=kF p.y p.z q.y q.z (mYY p q) (mZZ p q)
noncomputable def mXZ (p q:J3):Nat:=kF p.x p.z q.x q.z (mXX p q) (mZZ p q)
noncomputable def mSi (p q:J3):Nat:=fK (aw (ab 1) (mXZ p q) (ap (ab 1) eL (mZZ p q)))
noncomputable def mLe (p q:J3):Nat:=aw (ab 1) (mYY p q) (mSi p q)
noncomputable def mRi (p q:J3):Nat:=addM (ab 1) (mYY p q) (mSi p q)
noncomputable def mZ3 (p q:J3):Nat:=fK (mZZ p q)
noncomputable def mMM (p q:J3):Nat:=fK (aw (ab 1) (aw (ab 1) (ap (ab 1) eL (mXZ p q)) (mZ3 p q)) (mXX p q))
noncomputable def mNN (p q:J3):Nat:=aw (ab 1) (fK (mXX p q)) (mZ3 p q)
noncomputable def kp (p q:J3):J3:=⟨aw (ab 1) (ap (ab 1) (mXY p q) (mRi p q)) (ap (ab 1) (mYZ p q) (mMM p q)),addM (ab 1) (ap (ab 1) (mRi p q) (mLe p q)) (ap (ab 1) (mNN p q) (mMM p q)),addM (ab 1) (ap (ab 1) (mYZ p q) (mLe p q)) (ap (ab 1) (mXY p q) (mNN p q))⟩
theorem uu (p q:J3):(kp p q).lt:=⟨av (ae 1),ao (ae 1),ao (ae 1)⟩
noncomputable abbrev uR (p q:J3):=ap (ab 1) p.1 q.1
noncomputable abbrev qh (p q:J3):=ap (ab 1) p.3 q.3
noncomputable abbrev WI (p q:J3):=kF p.1 p.3 q.1 q.3 (uR p q) (qh p q)
noncomputable abbrev zi (p q:J3):=aw (ab 1) (WI p q) (ap (ab 1) eL (qh p q))
noncomputable abbrev W5h (p q:J3):=aw (ab 1) (ap (ab 1) eL (WI p q)) (fK (qh p q))
noncomputable abbrev pe (p q:J3):=ap (ab 1) p.2 q.2
noncomputable abbrev TM (p q:J3):=aw (ab 1) (W5h p q) (uR p q)
noncomputable abbrev W5g (p q:J3):=aw (ab 1) (fK (uR p q)) (fK (qh p q))
theorem aps (p:J3) (q:J3):al (cd L4a iA) 1000 128 [ii,f3 p,f3 q] []=
  some ([ab 1<4294967296^8,p.1<ab 1,q.1<ab 1,bc (ab 1) (aT 1),p.1<4294967296^8,q.1<4294967296^8,ab 1<4294967296^8,p.2<ab 1,q.2<ab 1,bc (ab 1) (aT 1),p.2<4294967296^8,q.2<4294967296^8,ab 1<4294967296^8,p.3<ab 1,q.3<ab 1,bc (ab 1) (aT 1),p.3<4294967296^8,q.3<4294967296^8,ab 1<4294967296^8,aT 1<4294967296,eL<4294967296^8,p.1<4294967296^8,p.2<4294967296^8,q.1<4294967296^8,q.2<4294967296^8,ap (ab 1) p.1 q.1<4294967296^8,ap (ab 1) p.2 q.2<4294967296^8,ab 1=ab 1,aT 1=aT 1,eL=eL,p.1<ab 1,p.2<ab 1,q.1<ab 1,q.2<ab 1,ap (ab 1) p.1 q.1<ab 1,ap (ab 1) p.2 q.2<ab 1,ab 1<4294967296^8,aT 1<4294967296,eL<4294967296^8,p.2<4294967296^8,p.3<4294967296^8,q.2<4294967296^8,q.3<4294967296^8,ap (ab 1) p.2 q.2<4294967296^8,ap (ab 1) p.3 q.3<4294967296^8,ab 1=ab 1,aT 1=aT 1,eL=eL,p.2<ab 1,p.3<ab 1,q.2<ab 1,q.3<ab 1,ap (ab 1) p.2 q.2<ab 1,ap (ab 1) p.3 q.3<ab 1,ab 1<4294967296^8,aT 1<4294967296,eL<4294967296^8,p.1<4294967296^8,p.3<4294967296^8,q.1<4294967296^8,q.3<4294967296^8,ap (ab 1) p.1 q.1<4294967296^8,ap (ab 1) p.3 q.3<4294967296^8,ab 1=ab 1,aT 1=aT 1,eL=eL,p.1<ab 1,p.3<ab 1,q.1<ab 1,q.3<ab 1,ap (ab 1) p.1 q.1<ab 1,ap (ab 1) p.3 q.3<ab 1,ab 1<4294967296^8,eL<ab 1,ap (ab 1) p.3 q.3<ab 1,bc (ab 1) (aT 1),eL<4294967296^8,ap (ab 1) p.3 q.3<4294967296^8,ab 1<4294967296^8,kF p.1 p.3 q.1 q.3 (uR p q) (qh p q)<ab 1,ap (ab 1) eL (qh p q)<ab 1,kF p.1 p.3 q.1 q.3 (uR p q) (qh p q)<4294967296^8,ap (ab 1) eL (qh p q)<4294967296^8,ab 1<4294967296^8,aT 1<4294967296,eL<4294967296^8,aw (ab 1) (WI p q) (ap (ab 1) eL (qh p q))<4294967296^8,ab 1=ab 1,aT 1=aT 1,eL=eL,aw (ab 1) (WI p q) (ap (ab 1) eL (qh p q))<ab 1,ab 1<4294967296^8,ap (ab 1) p.2 q.2<ab 1,fK (zi p q)<ab 1,ap (ab 1) p.2 q.2<4294967296^8,fK (zi p q)<4294967296^8,ab 1<4294967296^8,ap (ab 1) p.2 q.2<ab 1,fK (zi p q)<ab 1,ap (ab 1) p.2 q.2<4294967296^8,fK (zi p q)<4294967296^8,ab 1<4294967296^8,aT 1<4294967296,eL<4294967296^8,ap (ab 1) p.3 q.3<4294967296^8,ab 1=ab 1,aT 1=aT 1,eL=eL,ap (ab 1) p.3 q.3<ab 1,ab 1<4294967296^8,eL<ab 1,kF p.1 p.3 q.1 q.3 (uR p q) (qh p q)<ab 1,bc (ab 1) (aT 1),eL<4294967296^8,kF p.1 p.3 q.1 q.3 (uR p q) (qh p q)<4294967296^8,ab 1<4294967296^8,ap (ab 1) eL (WI p q)<ab 1,fK (qh p q)<ab 1,ap (ab 1) eL (WI p q)<4294967296^8,fK (qh p q)<4294967296^8,ab 1<4294967296^8,aw (ab 1) (ap (ab 1) eL (WI p q)) (fK (qh p q))<ab 1,ap (ab 1) p.1 q.1<ab 1,aw (ab 1) (ap (ab 1) eL (WI p q)) (fK (qh p q))<4294967296^8,ap (ab 1) p.1 q.1<4294967296^8,ab 1<4294967296^8,aT 1<4294967296,eL<4294967296^8,aw (ab 1) (W5h p q) (uR p q)<4294967296^8,ab 1=ab 1,aT 1=aT 1,eL=eL,aw (ab 1) (W5h p q) (uR p q)<ab 1,ab 1<4294967296^8,aT 1<4294967296,eL<4294967296^8,ap (ab 1) p.1 q.1<4294967296^8,ab 1=ab 1,aT 1=aT 1,eL=eL,ap (ab 1) p.1 q.1<ab 1,ab 1<4294967296^8,fK (uR p q)<ab 1,fK (qh p q)<ab 1,fK (uR p q)<4294967296^8,fK (qh p q)<4294967296^8,ab 1<4294967296^8,kF p.1 p.2 q.1 q.2 (uR p q) (pe p q)<ab 1,addM (ab 1) (pe p q) (fK (zi p q))<ab 1,bc (ab 1) (aT 1),kF p.1 p.2 q.1 q.2 (uR p q) (pe p q)<4294967296^8,addM (ab 1) (pe p q) (fK (zi p q))<4294967296^8,ab 1<4294967296^8,kF p.2 p.3 q.2 q.3 (pe p q) (qh p q)<ab 1,fK (TM p q)<ab 1,bc (ab 1) (aT 1),kF p.2 p.3 q.2 q.3 (pe p q) (qh p q)<4294967296^8,fK (TM p q)<4294967296^8,ab 1<4294967296^8,ap (ab 1) (kF p.1 p.2 q.1 q.2 (uR p q) (pe p q)) (addM (ab 1) (pe p q) (fK (zi p q)))<ab 1,ap (ab 1) (kF p.2 p.3 q.2 q.3 (pe p q) (qh p q)) (fK (TM p q))<ab 1,ap (ab 1) (kF p.1 p.2 q.1 q.2 (uR p q) (pe p q)) (addM (ab 1) (pe p q) (fK (zi p q)))<4294967296^8,ap (ab 1) (kF p.2 p.3 q.2 q.3 (pe p q) (qh p q)) (fK (TM p q))<4294967296^8,ab 1<4294967296^8,addM (ab 1) (pe p q) (fK (zi p q))<ab 1,aw (ab 1) (pe p q) (fK (zi p q))<ab 1,bc (ab 1) (aT 1),addM (ab 1) (pe p q) (fK (zi p q))<4294967296^8,aw (ab 1) (pe p q) (fK (zi p q))<4294967296^8,ab 1<4294967296^8,aw (ab 1) (fK (uR p q)) (fK (qh p q))<ab 1,fK (TM p q)<ab 1,bc (ab 1) (aT 1),aw (ab 1) (fK (uR p q)) (fK (qh p q))<4294967296^8,fK (TM p q)<4294967296^8,ab 1<4294967296^8,ap (ab 1) (addM (ab 1) (pe p q) (fK (zi p q))) (aw (ab 1) (pe p q) (fK (zi p q)))<ab 1,ap (ab 1) (W5g p q) (fK (TM p q))<ab 1,ap (ab 1) (addM (ab 1) (pe p q) (fK (zi p q))) (aw (ab 1) (pe p q) (fK (zi p q)))<4294967296^8,ap (ab 1) (W5g p q) (fK (TM p q))<4294967296^8,ab 1<4294967296^8,kF p.2 p.3 q.2 q.3 (pe p q) (qh p q)<ab 1,aw (ab 1) (pe p q) (fK (zi p q))<ab 1,bc (ab 1) (aT 1),kF p.2 p.3 q.2 q.3 (pe p q) (qh p q)<4294967296^8,aw (ab 1) (pe p q) (fK (zi p q))<4294967296^8,ab 1<4294967296^8,kF p.1 p.2 q.1 q.2 (uR p q) (pe p q)<ab 1,aw (ab 1) (fK (uR p q)) (fK (qh p q))<ab 1,bc (ab 1) (aT 1),kF p.1 p.2 q.1 q.2 (uR p q) (pe p q)<4294967296^8,aw (ab 1) (fK (uR p q)) (fK (qh p q))<4294967296^8,ab 1<4294967296^8,ap (ab 1) (kF p.2 p.3 q.2 q.3 (pe p q) (qh p q)) (aw (ab 1) (pe p q) (fK (zi p q)))<ab 1,ap (ab 1) (kF p.1 p.2 q.1 q.2 (uR p q) (pe p q)) (W5g p q)<ab 1,ap (ab 1) (kF p.2 p.3 q.2 q.3 (pe p q) (qh p q)) (aw (ab 1) (pe p q) (fK (zi p q)))<4294967296^8,ap (ab 1) (kF p.1 p.2 q.1 q.2 (uR p q) (pe p q)) (W5g p q)<4294967296^8],.val (f3 (kp p q))):=by kernel_rfl
theorem Tp (p q:J3) (hp:p.lt) (hq:q.lt):Spec 128 [ii,f3 p,f3 q] (.val (f3 (kp p q))):=by
 obtain ⟨h1,h2,h3⟩:=hp
 obtain ⟨h5,h6,h7⟩:=hq
 have hb:=li
 exact af (aF Aj iA) rfl (aps p q) (by refine ⟨(aj _),?_,?_,(aK (by decide)),?_,?_,(aj _),?_,?_,(aK (by decide)),?_,?_,(aj _),?_,?_,(aK (by decide)),?_,?_,(aj _),(bu 1),?_,?_,?_,?_,?_,(L8 (ai (ae _))),(L8 (ai (ae _))),rfl,rfl,rfl,?_,?_,?_,?_,(ai (ae _)),(ai (ae _)),(aj _),(bu 1),?_,?_,?_,?_,?_,(L8 (ai (ae _))),(L8 (ai (ae _))),rfl,rfl,rfl,?_,?_,?_,?_,(ai (ae _)),(ai (ae _)),(aj _),(bu 1),?_,?_,?_,?_,?_,(L8 (ai (ae _))),(L8 (ai (ae _))),rfl,rfl,rfl,?_,?_,?_,?_,(ai (ae _)),(ai (ae _)),(aj _),?_,(ai (ae _)),(aK (by decide)),?_,(L8 (ai (ae _))),(aj _),(fX),(ai (ae _)),(L8 (fX)),(L8 (ai (ae _))),(aj _),(bu 1),?_,(L8 (av (ae _))),rfl,rfl,rfl,(av (ae _)),(aj _),(ai (ae _)),(fh),(L8 (ai (ae _))),(L8 (fh)),(aj _),(ai (ae _)),(fh),(L8 (ai (ae _))),(L8 (fh)),(aj _),(bu 1),?_,(L8 (ai (ae _))),rfl,rfl,rfl,(ai (ae _)),(aj _),?_,(fX),(aK (by decide)),?_,(L8 (fX)),(aj _),(ai (ae _)),(fh),(L8 (ai (ae _))),(L8 (fh)),(aj _),(av (ae _)),(ai (ae _)),(L8 (av (ae _))),(L8 (ai (ae _))),(aj _),(bu 1),?_,(L8 (av (ae _))),rfl,rfl,rfl,(av (ae _)),(aj _),(bu 1),?_,(L8 (ai (ae _))),rfl,rfl,rfl,(ai (ae _)),(aj _),(fh),(fh),(L8 (fh)),(L8 (fh)),(aj _),(fX),(ao (ae _)),(aK (by decide)),(L8 (fX)),(L8 (ao (ae _))),(aj _),(fX),(fh),(aK (by decide)),(L8 (fX)),(L8 (fh)),(aj _),(ai (ae _)),(ai (ae _)),(L8 (ai (ae _))),(L8 (ai (ae _))),(aj _),(ao (ae _)),(av (ae _)),(aK (by decide)),(L8 (ao (ae _))),(L8 (av (ae _))),(aj _),(av (ae _)),(fh),(aK (by decide)),(L8 (av (ae _))),(L8 (fh)),(aj _),(ai (ae _)),(ai (ae _)),(L8 (ai (ae _))),(L8 (ai (ae _))),(aj _),(fX),(av (ae _)),(aK (by decide)),(L8 (fX)),(L8 (av (ae _))),(aj _),(fX),(av (ae _)),(aK (by decide)),(L8 (fX)),(L8 (av (ae _))),(aj _),(ai (ae _)),(ai (ae _)),(L8 (ai (ae _))),(L8 (ai (ae _))),trivial⟩<;>first|with_reducible assumption|with_reducible exact L8 (by with_reducible assumption)|exact decide_eq_true (by omega)|exact decide_eq_false (by omega)|omega) rfl rfl
noncomputable def Og:List Val→Option (List Prop×AV)
 |[.n m,.n q,.n w,.n x1,.n y1,.n z1,.n x2,.n y2,.n z2]=>some ([m=ab 1,q=aT 1,w=eL,J3.lt ⟨x1,y1,z1⟩,J3.lt ⟨x2,y2,z2⟩],.val (f3 (kp ⟨x1,y1,z1⟩ ⟨x2,y2,z2⟩)))
 |_=>none
theorem ahH:aU ⟨128,dU [fd,aJ,aJ] Og⟩:=jE (by
 intro xs ob r hb h ho
 unfold Og at h
 split at h
 ·rename_i m q w x1 y1 z1 x2 y2 z2
  obtain ⟨rfl,rfl⟩:=sI h
  obtain ⟨e0,e1,e2,h1,h2,_⟩:=ho
  subst e0 e1 e2
  exact Tp ⟨x1,y1,z1⟩ ⟨x2,y2,z2⟩ h1 h2
 ·simp at h)
noncomputable def YS (p:J3):Nat:=bif decide (p.z=0) then 0 else ci (ab 1) (ap (ab 1) p.x (cI (ab 1) p.z))
noncomputable def wDy (p:J3):Nat:=bif decide (p.z=0) then 0 else ci (ab 1) (ap (ab 1) p.y (cI (ab 1) p.z))
def Jg (p:J3):Bool:=decide (p.z=0)
noncomputable def S41:FuncId→Nat→Bool:=fun f t=>match f with|66=>bf t [9]|_=>false
theorem ag' (p:J3):al (cd L4a S41) 1000 66 [ii,f3 p] [true]=
  some ([(gX (p.3))=true],.val (.agg (bp 16 0 zF++[.a (.v (.bool true))]))):=by kernel_rfl
theorem afJ (p:J3):al (cd L4a S41) 1000 66 [ii,f3 p] [false]=
  some ([(gX (p.3))=false,ab 1<4294967296^8,p.3<ab 1,bc (ab 1) (aT 1),p.3<4294967296^8,ab 1<4294967296^8,p.1<ab 1,cI (ab 1) p.3<ab 1,bc (ab 1) (aT 1),p.1<4294967296^8,cI (ab 1) p.3<4294967296^8,ab 1<4294967296^8,ap (ab 1) p.1 (cI (ab 1) p.3)<ab 1,bc (ab 1) (aT 1),ap (ab 1) p.1 (cI (ab 1) p.3)<4294967296^8,ab 1<4294967296^8,p.2<ab 1,cI (ab 1) p.3<ab 1,bc (ab 1) (aT 1),p.2<4294967296^8,cI (ab 1) p.3<4294967296^8,ab 1<4294967296^8,ap (ab 1) p.2 (cI (ab 1) p.3)<ab 1,bc (ab 1) (aT 1),ap (ab 1) p.2 (cI (ab 1) p.3)<4294967296^8],.val (P3 (ci (ab 1) (ap (ab 1) p.x (cI (ab 1) p.z))) (ci (ab 1) (ap (ab 1) p.y (cI (ab 1) p.z))) false)):=by kernel_rfl
theorem HD (φ:c7):an φ (bp 16 0 zF++[.a (.v (.bool true))])=an φ [.num 8 0,.num 8 0,.a (.v (.bool true))]:=by kernel_rfl
theorem QT (p:J3) (hp:p.lt):Spec 66 [ii,f3 p] (.val (P3 (YS p) (wDy p) (Jg p))):=by
 obtain ⟨h1,h2,h3⟩:=hp
 have hz8:=L8 h3
 unfold YS wDy Jg
 cases hz:decide (p.z=0) with
 |true=>
  have hz':gX p.z=true:=by rw[jo hz8];exact hz
  rw[cond_true,cond_true]
  exact (af (aF Aj S41) rfl (ag' p) ⟨(by first|with_reducible assumption|with_reducible exact L8 (by with_reducible assumption)|exact decide_eq_true (by omega)|exact decide_eq_false (by omega)|omega),trivial⟩ rfl rfl).congr (fun _=>rfl) (fun φ=>by
   simp only[AV.conc,V1.conc,P3,HD])
 |false=>
  have hz':gX p.z=false:=by rw[jo hz8];exact hz
  rw[cond_false,cond_false]
  exact af (aF Aj S41) rfl (afJ p) (by refine ⟨?_,(aj _),?_,(aK (by decide)),?_,(aj _),?_,(cg (ae _)),(aK (by decide)),?_,(L8 (cg (ae _))),(aj _),(ai (ae _)),(aK (by decide)),(L8 (ai (ae _))),(aj _),?_,(cg (ae _)),(aK (by decide)),?_,(L8 (cg (ae _))),(aj _),(ai (ae _)),(aK (by decide)),(L8 (ai (ae _))),trivial⟩<;>first|with_reducible assumption|with_reducible exact L8 (by with_reducible assumption)|exact decide_eq_true (by omega)|exact decide_eq_false (by omega)|omega) rfl rfl
noncomputable def Mu:List Val→Option (List Prop×AV)
 |[.n m,.n q,.n w,.n x1,.n y1,.n z1]=>some ([m=ab 1,q=aT 1,w=eL,J3.lt ⟨x1,y1,z1⟩],.val (P3 (YS ⟨x1,y1,z1⟩) (wDy ⟨x1,y1,z1⟩) (Jg ⟨x1,y1,z1⟩)))
 |_=>none
theorem aiv:aU ⟨66,dU [fd,aJ] Mu⟩:=jE (by
 intro xs ob r hb h ho
 unfold Mu at h
 split at h
 ·rename_i m q w x1 y1 z1
  obtain ⟨rfl,rfl⟩:=sI h
  obtain ⟨e0,e1,e2,h1,_⟩:=ho
  subst e0 e1 e2
  exact QT ⟨x1,y1,z1⟩ h1
 ·simp at h)
noncomputable def Ze:List CT:=[⟨128,dU [fd,aJ,aJ] Og⟩,⟨66,dU [fd,aJ] Mu⟩]++L4a
theorem sc:bw Ze:=⟨ahH,aiv,Aj⟩
noncomputable def ph (k:Nat) (p:J3) (j:Nat) (x:J3):J3:=bif eY k j then kp (kp x x) p else kp x x
noncomputable def lS (k:Nat) (p:J3):Nat→J3→J3
 |0,x=>x
 |j+1,x=>lS k p j (ph k p j x)
noncomputable def gj (k:Nat) (p:J3):J3:=lS k p (dp k) (dj 0 0 true)
theorem Ch (k:Nat) (p:J3) (j:Nat) (x:J3):(ph k p j x).lt:=by
 unfold ph;cases eY k j<;>exact uu _ _
theorem wT (k:Nat) (p:J3):∀j x,x.lt→(lS k p j x).lt
 |0,_,h=>h
 |j+1,x,_=>wT k p j _ (Ch k p j x)
theorem sy (k:Nat) (p:J3):(gj k p).lt:=wT k p _ _ (lQ 0 0 true)
def yw (i:Int):List AV:=bt 31 [(3,pV 0),(4,pV 1),(5,pV 2),(6,pV 3),(7,pV 4),(8,iV i)]
noncomputable def BQ (k:Nat) (p x:J3):List Blk:=[⟨[.num 8 (ab 1),.a (.u .u32 (aT 1)),.num 8 eL],95,true,false,0⟩,⟨[.num 8 k],32,true,false,0⟩,⟨[.num 8 p.x,.num 8 p.y,.num 8 p.z],99,true,false,0⟩,⟨bp 24 0 zF,99,true,false,0⟩,⟨[.num 8 x.x,.num 8 x.y,.num 8 x.z],99,true,false,0⟩]
noncomputable def S43:FuncId→Nat→Bool:=fun f t=>match f with|67=>bf t [14,16,18,25]|_=>false
noncomputable def WC:Env:=cd Ze S43
theorem Ai:EnvOK WC:=aF sc S43
theorem IU (k:Nat) (p x:J3) (i:Int):dl (yw i) (BQ k p x)=true:=by
 unfold dl
 rw[show cw (BQ k p x).length (yw i)=true by show cw 5 _=true;kernel_rfl,Bool.true_and]
 kernel_rfl
theorem ahe (k:Nat) (p:J3) (x:J3) (j:Nat):aH WC 1000 (Env.S WC 67) (ah Tryz.prog 67 3) (yw (↑j:Int)) (BQ k p x) [true,true] (yw ((↑j:Int)-(1:Int))) 5=
  some ([decide ((0:Int)≤(↑j:Int))=true,ab 1<4294967296^8,aT 1<4294967296,eL<4294967296^8,x.1<4294967296^8,x.2<4294967296^8,x.3<4294967296^8,x.1<4294967296^8,x.2<4294967296^8,x.3<4294967296^8,ab 1=ab 1,aT 1=aT 1,eL=eL,J3.lt (J3.mk (J3.x x) (J3.y x) (J3.z x)),J3.lt (J3.mk (J3.x x) (J3.y x) (J3.z x)),eY k j=true,k<4294967296^8,(0:Int)≤(↑j:Int)∧(↑j:Int)<(256:Int),ab 1<4294967296^8,aT 1<4294967296,eL<4294967296^8,aw (ab 1) (ap (ab 1) (kF x.1 x.2 x.1 x.2 (ap (ab 1) x.1 x.1) (ap (ab 1) x.2 x.2)) (addM (ab 1) (ap (ab 1) x.2 x.2) (fK (aw (ab 1) (kF x.1 x.3 x.1 x.3 (ap (ab 1) x.1 x.1) (ap (ab 1) x.3 x.3)) (ap (ab 1) eL (ap (ab 1) x.3 x.3)))))) (ap (ab 1) (kF x.2 x.3 x.2 x.3 (ap (ab 1) x.2 x.2) (ap (ab 1) x.3 x.3)) (fK (aw (ab 1) (aw (ab 1) (ap (ab 1) eL (kF x.1 x.3 x.1 x.3 (ap (ab 1) x.1 x.1) (ap (ab 1) x.3 x.3))) (fK (ap (ab 1) x.3 x.3))) (ap (ab 1) x.1 x.1))))<4294967296^8,addM (ab 1) (ap (ab 1) (addM (ab 1) (ap (ab 1) x.2 x.2) (fK (aw (ab 1) (kF x.1 x.3 x.1 x.3 (ap (ab 1) x.1 x.1) (ap (ab 1) x.3 x.3)) (ap (ab 1) eL (ap (ab 1) x.3 x.3))))) (aw (ab 1) (ap (ab 1) x.2 x.2) (fK (aw (ab 1) (kF x.1 x.3 x.1 x.3 (ap (ab 1) x.1 x.1) (ap (ab 1) x.3 x.3)) (ap (ab 1) eL (ap (ab 1) x.3 x.3)))))) (ap (ab 1) (aw (ab 1) (fK (ap (ab 1) x.1 x.1)) (fK (ap (ab 1) x.3 x.3))) (fK (aw (ab 1) (aw (ab 1) (ap (ab 1) eL (kF x.1 x.3 x.1 x.3 (ap (ab 1) x.1 x.1) (ap (ab 1) x.3 x.3))) (fK (ap (ab 1) x.3 x.3))) (ap (ab 1) x.1 x.1))))<4294967296^8,addM (ab 1) (ap (ab 1) (kF x.2 x.3 x.2 x.3 (ap (ab 1) x.2 x.2) (ap (ab 1) x.3 x.3)) (aw (ab 1) (ap (ab 1) x.2 x.2) (fK (aw (ab 1) (kF x.1 x.3 x.1 x.3 (ap (ab 1) x.1 x.1) (ap (ab 1) x.3 x.3)) (ap (ab 1) eL (ap (ab 1) x.3 x.3)))))) (ap (ab 1) (kF x.1 x.2 x.1 x.2 (ap (ab 1) x.1 x.1) (ap (ab 1) x.2 x.2)) (aw (ab 1) (fK (ap (ab 1) x.1 x.1)) (fK (ap (ab 1) x.3 x.3))))<4294967296^8,p.1<4294967296^8,p.2<4294967296^8,p.3<4294967296^8,ab 1=ab 1,aT 1=aT 1,eL=eL,J3.lt (J3.mk (J3.x (kp (J3.mk (J3.x x) (J3.y x) (J3.z x)) (J3.mk (J3.x x) (J3.y x) (J3.z x)))) (J3.y (kp (J3.mk (J3.x x) (J3.y x) (J3.z x)) (J3.mk (J3.x x) (J3.y x) (J3.z x)))) (J3.z (kp (J3.mk (J3.x x) (J3.y x) (J3.z x)) (J3.mk (J3.x x) (J3.y x) (J3.z x))))),J3.lt (J3.mk (J3.x p) (J3.y p) (J3.z p)),br ((↑j:Int)-(1:Int))],.normal,yw ((j:Int)-1),BQ k p (kp (kp x x) p)):=by kernel_rfl
theorem afK (k:Nat) (p:J3) (x:J3) (j:Nat):aH WC 1000 (Env.S WC 67) (ah Tryz.prog 67 3) (yw (↑j:Int)) (BQ k p x) [true,false] (yw ((↑j:Int)-(1:Int))) 5=
  some ([decide ((0:Int)≤(↑j:Int))=true,ab 1<4294967296^8,aT 1<4294967296,eL<4294967296^8,x.1<4294967296^8,x.2<4294967296^8,x.3<4294967296^8,x.1<4294967296^8,x.2<4294967296^8,x.3<4294967296^8,ab 1=ab 1,aT 1=aT 1,eL=eL,J3.lt (J3.mk (J3.x x) (J3.y x) (J3.z x)),J3.lt (J3.mk (J3.x x) (J3.y x) (J3.z x)),eY k j=false,k<4294967296^8,(0:Int)≤(↑j:Int)∧(↑j:Int)<(256:Int),br ((↑j:Int)-(1:Int))],.normal,yw ((j:Int)-1),BQ k p (kp x x)):=by kernel_rfl
theorem ait (k:Nat) (p:J3) (x:J3):aH WC 1000 (Env.S WC 67) (ah Tryz.prog 67 3) (yw (-1:Int)) (BQ k p x) [false] (yw (-1:Int)) 5=
  some ([decide ((0:Int)≤(-1:Int))=false],.exit 0,yw (-1),BQ k p x):=by kernel_rfl
theorem Oy {k:Nat} {p:J3} (hk:k<4294967296^8) (hp:p.lt):∀(j:Nat) (x:J3),j≤256→x.lt→GoesN Tryz.prog (ah Tryz.prog 67 3) (j+1) (.exit 0) (yw ((j:Int)-1)) (BQ k p x) (yw (-1)) (BQ k p (lS k p j x))
 |0,x,_,hx=>by
  have hwb:=li
  obtain ⟨hx1,hx2,hx3⟩:=id hx
  obtain ⟨hp1,hp2,hp3⟩:=id hp
  exact GoesN.out (by simp) (Runs.goes Ai ⟨[false],_,ait k p x,⟨(by first|with_reducible assumption|with_reducible exact L8 (by with_reducible assumption)|exact decide_eq_true (by omega)|exact decide_eq_false (by omega)|omega),trivial⟩,IU _ _ _ _⟩)
 |j+1,x,hj,hx=>by
  have ih:=Oy hk hp j (ph k p j x) (by omega) (Ch k p j x)
  have hwb:=li
  have hxx:=uu x x
  obtain ⟨hx1,hx2,hx3⟩:=id hx
  obtain ⟨hp1,hp2,hp3⟩:=id hp
  obtain ⟨hq1,hq2,hq3⟩:=id hxx
  have h0:decide (0≤(j:Int))=true:=decide_eq_true (by omega)
  have hr:0≤(j:Int)∧(j:Int)<256:=by omega
  have hI:br ((j:Int)-1):=by unfold br;omega
  rw[show ((j+1:Nat):Int)-1=(j:Int) by omega]
  have hs:Goes Tryz.prog (ah Tryz.prog 67 3) .normal (yw (j:Int)) (BQ k p x) (yw ((j:Int)-1)) (BQ k p (ph k p j x)):=by
   unfold ph
   cases hb:eY k j with
   |true=>exact Runs.goes Ai ⟨_,_,ahe k p x j,(by refine ⟨?_,(aj _),(bu 1),?_,?_,?_,?_,?_,?_,?_,rfl,rfl,rfl,?_,?_,?_,?_,?_,(aj _),(bu 1),?_,(L8 (av (ae _))),(L8 (ao (ae _))),(L8 (ao (ae _))),?_,?_,?_,rfl,rfl,rfl,?_,?_,?_,trivial⟩<;>first|with_reducible assumption|with_reducible exact L8 (by with_reducible assumption)|exact decide_eq_true (by omega)|exact decide_eq_false (by omega)|omega),IU _ _ _ _⟩
   |false=>exact Runs.goes Ai ⟨_,_,afK k p x j,(by refine ⟨?_,(aj _),(bu 1),?_,?_,?_,?_,?_,?_,?_,rfl,rfl,rfl,?_,?_,?_,?_,?_,?_,trivial⟩<;>first|with_reducible assumption|with_reducible exact L8 (by with_reducible assumption)|exact decide_eq_true (by omega)|exact decide_eq_false (by omega)|omega),IU _ _ _ _⟩
  exact GoesN.cons (M1:=BQ k p (ph k p j x)) rfl hs ih
noncomputable def aiI (k:Nat) (p:J3):Env:=nR WC 3 (ah Tryz.prog 67 3) (fo (yw ((dp k:Int)-1)) (BQ k p (dj 0 0 true)) (yw (-1)) (BQ k p (lS k p (dp k) (dj 0 0 true))) (.exit 0))
theorem VJ {k:Nat} {p:J3} (hk:k<4294967296^8) (hp:p.lt):EnvOK (aiI k p):=gy Ai (bz rfl (Oy hk hp (dp k) _ ((fU hk).2) (lQ 0 0 true)).loop)
theorem aqG (k:Nat) (p:J3):al (aiI k p) 1000 67 [ii,N8 k,f3 p] []=
  some ([ab 1<4294967296^8,aT 1<4294967296,eL<4294967296^8,0<4294967296,0<4294967296,0<4294967296,0<4294967296,0<4294967296,0<4294967296,0<4294967296,0<4294967296,0<4294967296,0<4294967296,0<4294967296,0<4294967296,0<4294967296,0<4294967296,0<4294967296,0<4294967296,ab 1=ab 1,aT 1=aT 1,eL=eL,true=true∨0<ab 1∧0<ab 1,k<4294967296^8,br ((↑(dp k):Int)-(1:Int)),(ah Tryz.prog 67 3)=(ah Tryz.prog 67 3),(yw ((dp k:Int)-1),BQ k p (dj 0 0 true))=(yw ((dp k:Int)-1),BQ k p (dj 0 0 true)),dl (yw ((dp k:Int)-1)) (BQ k p (dj 0 0 true))=true],.val (f3 (lS k p (dp k) (dj 0 0 true)))):=by kernel_rfl
theorem QA (k:Nat) (p:J3) (hk:k<4294967296^8) (hp:p.lt):Spec 67 [ii,N8 k,f3 p] (.val (f3 (gj k p))):=by
 obtain ⟨hp1,hp2,hp3⟩:=id hp
 have hwb:=li
 have hl:=(fU hk).2
 have hI:br ((dp k:Int)-1):=by unfold br;omega
 have hw:=IU k p (dj 0 0 true) ((dp k:Int)-1)
 have h:=af (VJ hk hp) rfl (aqG k p) (by refine ⟨(aj _),(bu 1),?_,bL,bL,bL,bL,bL,bL,bL,bL,bL,bL,bL,bL,bL,bL,bL,bL,rfl,rfl,rfl,?_,?_,?_,rfl,rfl,(by assumption),trivial⟩<;>first|with_reducible assumption|with_reducible exact L8 (by with_reducible assumption)|exact decide_eq_true (by omega)|exact decide_eq_false (by omega)|omega) rfl rfl
 exact h
noncomputable def ek (x y:Nat) (i:Bool):J3:=bif i then ⟨aq (ab 1) 1,aq (ab 1) 1,0⟩ else ⟨aq (ab 1) x,aq (ab 1) y,aq (ab 1) 1⟩
theorem lI (x y:Nat) (i:Bool):(ek x y i).lt:=by
 have hp:=ae 1
 cases i
 ·exact ⟨au hp,au hp,au hp⟩
 ·exact ⟨au hp,au hp,hp⟩
noncomputable abbrev sb:=aA (ak (ab 1) 0)
theorem aht (x:Nat) (y:Nat):al (cd Ze iA) 1000 91 [oZ,P3 x y true] []=
  some ([1<4294967296,bg (ab 1) sb (aO (ab 1)),1<ab 1,1<4294967296^8,1<4294967296,bg (ab 1) sb (aO (ab 1)),1<ab 1,1<4294967296^8],.val (.agg (.num 8 (aq (ab 1) 1):: .num 8 (aq (ab 1) 1)::bp 8 0 zF))):=by kernel_rfl
theorem ae5 (x:Nat) (y:Nat):al (cd Ze iA) 1000 91 [oZ,P3 x y false] []=
  some ([bg (ab 1) sb (aO (ab 1)),x<ab 1,x<4294967296^8,bg (ab 1) sb (aO (ab 1)),y<ab 1,y<4294967296^8,1<4294967296,bg (ab 1) sb (aO (ab 1)),1<ab 1,1<4294967296^8],.val (f3 (ek x y false))):=by kernel_rfl
theorem Tv (x y:Nat) (i:Bool) (h:i=true∨(x<ab 1∧y<ab 1)):Spec 91 [oZ,P3 x y i] (.val (f3 (ek x y i))):=by
 have h1:=a9 1
 cases i with
 |true=>exact (af (aF sc iA) rfl (aht x y) ⟨tR,(aC (by decide)),(a9 _),nk,tR,(aC (by decide)),(a9 _),nk,trivial⟩ rfl rfl).congr (fun _=>rfl) (fun φ=>by
   simp only[AV.conc,V1.conc,f3,ek,cond_true]
   rw[show ([.num 8 (aq (ab 1) 1),.num 8 (aq (ab 1) 1),.num 8 0]:List Piece)=[.num 8 (aq (ab 1) 1),.num 8 (aq (ab 1) 1)]++[.num 8 0] from rfl,show (.num 8 (aq (ab 1) 1):: .num 8 (aq (ab 1) 1)::bp 8 0 zF:List Piece)=[.num 8 (aq (ab 1) 1),.num 8 (aq (ab 1) 1)]++bp 8 0 zF from rfl,bb,bb,fv φ 8 0,gU])
 |false=>
  rcases h with h|⟨hx,hy⟩
  ·simp at h
  ·exact af (aF sc iA) rfl (ae5 x y) (by refine ⟨(aC (by decide)),?_,?_,(aC (by decide)),?_,?_,tR,(aC (by decide)),(a9 _),nk,trivial⟩<;>first|with_reducible assumption|with_reducible exact L8 (by with_reducible assumption)|exact decide_eq_true (by omega)|exact decide_eq_false (by omega)|omega) rfl rfl
noncomputable def rS (p:J3):Nat:=addM (ab 1) (addM (ab 1) (ap (ab 1) p.x (ap (ab 1) p.y p.y)) (ap (ab 1) p.x (ap (ab 1) p.y p.y))) (addM (ab 1) (ap (ab 1) p.x (ap (ab 1) p.y p.y)) (ap (ab 1) p.x (ap (ab 1) p.y p.y)))
noncomputable def rM0 (p:J3):Nat:=ap (ab 1) (aw (ab 1) p.x (ap (ab 1) p.z p.z)) (addM (ab 1) p.x (ap (ab 1) p.z p.z))
noncomputable def rM (p:J3):Nat:=addM (ab 1) (rM0 p) (addM (ab 1) (rM0 p) (rM0 p))
noncomputable def rX (p:J3):Nat:=aw (ab 1) (ap (ab 1) (rM p) (rM p)) (addM (ab 1) (rS p) (rS p))
noncomputable def rY1 (p:J3):Nat:=addM (ab 1) (ap (ab 1) (ap (ab 1) p.y p.y) (ap (ab 1) p.y p.y)) (ap (ab 1) (ap (ab 1) p.y p.y) (ap (ab 1) p.y p.y))
noncomputable def rY2 (p:J3):Nat:=addM (ab 1) (rY1 p) (rY1 p)
noncomputable def rY4 (p:J3):Nat:=addM (ab 1) (rY2 p) (rY2 p)
noncomputable def rY (p:J3):Nat:=aw (ab 1) (ap (ab 1) (rM p) (aw (ab 1) (rS p) (rX p))) (rY4 p)
noncomputable def rZ (p:J3):Nat:=addM (ab 1) (ap (ab 1) p.y p.z) (ap (ab 1) p.y p.z)
noncomputable def S90:FuncId→Nat→Bool:=fun f t=>match f with|151=>bf t [17]|_=>false
theorem ahI (p:J3):al (cd Ze S90) 1000 151 [oZ,f3 p] [true]=
  some ([(gX (p.3))=true],.val (f3 p)):=by kernel_rfl
noncomputable abbrev Gz (p:J3):=ap (ab 1) p.2 p.2
noncomputable abbrev PL (p:J3):=ap (ab 1) p.1 (Gz p)
noncomputable abbrev W7i (p:J3):=ap (ab 1) p.3 p.3
noncomputable abbrev W7m (p:J3):=aw (ab 1) p.1 (W7i p)
noncomputable abbrev W7n (p:J3):=addM (ab 1) p.1 (W7i p)
noncomputable abbrev Kx (p:J3):=ap (ab 1) (W7m p) (W7n p)
noncomputable abbrev W7l (p:J3):=addM (ab 1) (Kx p) (Kx p)
noncomputable abbrev Id (p:J3):=addM (ab 1) (PL p) (PL p)
noncomputable abbrev KK (p:J3):=addM (ab 1) (Kx p) (W7l p)
noncomputable abbrev I' (p:J3):=addM (ab 1) (Id p) (Id p)
noncomputable abbrev PS (p:J3):=ap (ab 1) (Gz p) (Gz p)
noncomputable abbrev E9 (p:J3):=addM (ab 1) (PS p) (PS p)
noncomputable abbrev W7j (p:J3):=aw (ab 1) (ap (ab 1) (KK p) (KK p)) (addM (ab 1) (I' p) (I' p))
theorem ajb (p:J3):al (cd Ze S90) 1000 151 [oZ,f3 p] [false]=
  some ([(gX (p.3))=false,bg (ab 1) sb (aO (ab 1)),p.3<ab 1,p.3<ab 1,p.3<4294967296^8,p.3<4294967296^8,bg (ab 1) sb (aO (ab 1)),p.2<ab 1,p.2<ab 1,p.2<4294967296^8,p.2<4294967296^8,bg (ab 1) sb (aO (ab 1)),p.1<ab 1,ap (ab 1) p.2 p.2<ab 1,p.1<4294967296^8,ap (ab 1) p.2 p.2<4294967296^8,bg (ab 1) sb (aO (ab 1)),ap (ab 1) p.1 (Gz p)<ab 1,ap (ab 1) p.1 (Gz p)<ab 1,ap (ab 1) p.1 (Gz p)<4294967296^8,ap (ab 1) p.1 (Gz p)<4294967296^8,bg (ab 1) sb (aO (ab 1)),addM (ab 1) (PL p) (PL p)<ab 1,addM (ab 1) (PL p) (PL p)<ab 1,addM (ab 1) (PL p) (PL p)<4294967296^8,addM (ab 1) (PL p) (PL p)<4294967296^8,bg (ab 1) sb (aO (ab 1)),p.1<ab 1,ap (ab 1) p.3 p.3<ab 1,p.1<4294967296^8,ap (ab 1) p.3 p.3<4294967296^8,bg (ab 1) sb (aO (ab 1)),p.1<ab 1,ap (ab 1) p.3 p.3<ab 1,p.1<4294967296^8,ap (ab 1) p.3 p.3<4294967296^8,bg (ab 1) sb (aO (ab 1)),aw (ab 1) p.1 (W7i p)<ab 1,addM (ab 1) p.1 (W7i p)<ab 1,aw (ab 1) p.1 (W7i p)<4294967296^8,addM (ab 1) p.1 (W7i p)<4294967296^8,bg (ab 1) sb (aO (ab 1)),ap (ab 1) (W7m p) (W7n p)<ab 1,ap (ab 1) (W7m p) (W7n p)<ab 1,ap (ab 1) (W7m p) (W7n p)<4294967296^8,ap (ab 1) (W7m p) (W7n p)<4294967296^8,bg (ab 1) sb (aO (ab 1)),ap (ab 1) (W7m p) (W7n p)<ab 1,addM (ab 1) (Kx p) (Kx p)<ab 1,ap (ab 1) (W7m p) (W7n p)<4294967296^8,addM (ab 1) (Kx p) (Kx p)<4294967296^8,bg (ab 1) sb (aO (ab 1)),addM (ab 1) (Kx p) (W7l p)<ab 1,addM (ab 1) (Kx p) (W7l p)<ab 1,addM (ab 1) (Kx p) (W7l p)<4294967296^8,addM (ab 1) (Kx p) (W7l p)<4294967296^8,bg (ab 1) sb (aO (ab 1)),addM (ab 1) (Id p) (Id p)<ab 1,addM (ab 1) (Id p) (Id p)<ab 1,addM (ab 1) (Id p) (Id p)<4294967296^8,addM (ab 1) (Id p) (Id p)<4294967296^8,bg (ab 1) sb (aO (ab 1)),ap (ab 1) (KK p) (KK p)<ab 1,addM (ab 1) (I' p) (I' p)<ab 1,ap (ab 1) (KK p) (KK p)<4294967296^8,addM (ab 1) (I' p) (I' p)<4294967296^8,bg (ab 1) sb (aO (ab 1)),ap (ab 1) p.2 p.2<ab 1,ap (ab 1) p.2 p.2<ab 1,ap (ab 1) p.2 p.2<4294967296^8,ap (ab 1) p.2 p.2<4294967296^8,bg (ab 1) sb (aO (ab 1)),ap (ab 1) (Gz p) (Gz p)<ab 1,ap (ab 1) (Gz p) (Gz p)<ab 1,ap (ab 1) (Gz p) (Gz p)<4294967296^8,ap (ab 1) (Gz p) (Gz p)<4294967296^8,bg (ab 1) sb (aO (ab 1)),addM (ab 1) (PS p) (PS p)<ab 1,addM (ab 1) (PS p) (PS p)<ab 1,addM (ab 1) (PS p) (PS p)<4294967296^8,addM (ab 1) (PS p) (PS p)<4294967296^8,bg (ab 1) sb (aO (ab 1)),addM (ab 1) (E9 p) (E9 p)<ab 1,addM (ab 1) (E9 p) (E9 p)<ab 1,addM (ab 1) (E9 p) (E9 p)<4294967296^8,addM (ab 1) (E9 p) (E9 p)<4294967296^8,bg (ab 1) sb (aO (ab 1)),addM (ab 1) (Id p) (Id p)<ab 1,aw (ab 1) (ap (ab 1) (KK p) (KK p)) (addM (ab 1) (I' p) (I' p))<ab 1,addM (ab 1) (Id p) (Id p)<4294967296^8,aw (ab 1) (ap (ab 1) (KK p) (KK p)) (addM (ab 1) (I' p) (I' p))<4294967296^8,bg (ab 1) sb (aO (ab 1)),addM (ab 1) (Kx p) (W7l p)<ab 1,aw (ab 1) (I' p) (W7j p)<ab 1,addM (ab 1) (Kx p) (W7l p)<4294967296^8,aw (ab 1) (I' p) (W7j p)<4294967296^8,bg (ab 1) sb (aO (ab 1)),ap (ab 1) (KK p) (aw (ab 1) (I' p) (W7j p))<ab 1,addM (ab 1) (addM (ab 1) (E9 p) (E9 p)) (addM (ab 1) (E9 p) (E9 p))<ab 1,ap (ab 1) (KK p) (aw (ab 1) (I' p) (W7j p))<4294967296^8,addM (ab 1) (addM (ab 1) (E9 p) (E9 p)) (addM (ab 1) (E9 p) (E9 p))<4294967296^8,bg (ab 1) sb (aO (ab 1)),p.2<ab 1,p.3<ab 1,p.2<4294967296^8,p.3<4294967296^8,bg (ab 1) sb (aO (ab 1)),ap (ab 1) p.2 p.3<ab 1,ap (ab 1) p.2 p.3<ab 1,ap (ab 1) p.2 p.3<4294967296^8,ap (ab 1) p.2 p.3<4294967296^8],.val (f3 ⟨rX p,rY p,rZ p⟩)):=by kernel_rfl
noncomputable def j' (p:J3):J3:=bif decide (p.z=0) then p else ⟨rX p,rY p,rZ p⟩
theorem qG {p:J3} (h:p.lt):(j' p).lt:=by
 unfold j'
 cases decide (p.z=0)
 ·exact ⟨av (ae 1),av (ae 1),ao (ae 1)⟩
 ·exact h
theorem SM (p:J3) (hp:p.lt):Spec 151 [oZ,f3 p] (.val (f3 (j' p))):=by
 obtain ⟨h1,h2,h3⟩:=hp
 have hz8:=L8 h3
 unfold j'
 cases hz:decide (p.z=0) with
 |true=>
  have hz':gX p.z=true:=by rw[jo hz8];exact hz
  rw[cond_true]
  exact af (aF sc S90) rfl (ahI p) ⟨(by first|with_reducible assumption|with_reducible exact L8 (by with_reducible assumption)|exact decide_eq_true (by omega)|exact decide_eq_false (by omega)|omega),trivial⟩ rfl rfl
 |false=>
  have hz':gX p.z=false:=by rw[jo hz8];exact hz
  rw[cond_false]
  exact af (aF sc S90) rfl (ajb p) (by refine ⟨?_,(aC (by decide)),?_,?_,?_,?_,(aC (by decide)),?_,?_,?_,?_,(aC (by decide)),?_,(ai (ae _)),?_,(L8 (ai (ae _))),(aC (by decide)),(ai (ae _)),(ai (ae _)),(L8 (ai (ae _))),(L8 (ai (ae _))),(aC (by decide)),(ao (ae _)),(ao (ae _)),(L8 (ao (ae _))),(L8 (ao (ae _))),(aC (by decide)),?_,(ai (ae _)),?_,(L8 (ai (ae _))),(aC (by decide)),?_,(ai (ae _)),?_,(L8 (ai (ae _))),(aC (by decide)),(av (ae _)),(ao (ae _)),(L8 (av (ae _))),(L8 (ao (ae _))),(aC (by decide)),(ai (ae _)),(ai (ae _)),(L8 (ai (ae _))),(L8 (ai (ae _))),(aC (by decide)),(ai (ae _)),(ao (ae _)),(L8 (ai (ae _))),(L8 (ao (ae _))),(aC (by decide)),(ao (ae _)),(ao (ae _)),(L8 (ao (ae _))),(L8 (ao (ae _))),(aC (by decide)),(ao (ae _)),(ao (ae _)),(L8 (ao (ae _))),(L8 (ao (ae _))),(aC (by decide)),(ai (ae _)),(ao (ae _)),(L8 (ai (ae _))),(L8 (ao (ae _))),(aC (by decide)),(ai (ae _)),(ai (ae _)),(L8 (ai (ae _))),(L8 (ai (ae _))),(aC (by decide)),(ai (ae _)),(ai (ae _)),(L8 (ai (ae _))),(L8 (ai (ae _))),(aC (by decide)),(ao (ae _)),(ao (ae _)),(L8 (ao (ae _))),(L8 (ao (ae _))),(aC (by decide)),(ao (ae _)),(ao (ae _)),(L8 (ao (ae _))),(L8 (ao (ae _))),(aC (by decide)),(ao (ae _)),(av (ae _)),(L8 (ao (ae _))),(L8 (av (ae _))),(aC (by decide)),(ao (ae _)),(av (ae _)),(L8 (ao (ae _))),(L8 (av (ae _))),(aC (by decide)),(ai (ae _)),(ao (ae _)),(L8 (ai (ae _))),(L8 (ao (ae _))),(aC (by decide)),?_,?_,?_,?_,(aC (by decide)),(ai (ae _)),(ai (ae _)),(L8 (ai (ae _))),(L8 (ai (ae _))),trivial⟩<;>first|with_reducible assumption|with_reducible exact L8 (by with_reducible assumption)|exact decide_eq_true (by omega)|exact decide_eq_false (by omega)|omega) rfl rfl
noncomputable def adB:List Val→Option (List Prop×AV)
 |[.n m,.n q,.n w,.n x1,.n y1,.n z1]=>some ([m=ab 1,q=aA (ak (ab 1) 0),w=aO (ab 1),J3.lt ⟨x1,y1,z1⟩],.val (f3 (j' ⟨x1,y1,z1⟩)))
 |_=>none
theorem ajN:aU ⟨151,dU [fd,aJ] adB⟩:=jE (by
 intro xs ob r hb h ho
 unfold adB at h
 split at h
 ·rename_i m q w x1 y1 z1
  obtain ⟨rfl,rfl⟩:=sI h
  obtain ⟨e0,e1,e2,h1,_⟩:=ho
  have hS:=SM ⟨x1,y1,z1⟩ h1
  unfold oZ BP rg at hS
  rw[←e2,←e1,←e0] at hS
  exact hS
 ·simp at h)
noncomputable def Ht:List Val→Option (List Prop×AV)
 |[.n m,.n q,.n w,.n x,.n y,.b i]=>some ([m=ab 1,q=aA (ak (ab 1) 0),w=aO (ab 1),i=true∨(x<ab 1∧y<ab 1)],.val (f3 (ek x y i)))
 |_=>none
theorem aja:aU ⟨91,dU [fd,qg] Ht⟩:=jE (by
 intro xs ob r hb h ho
 unfold Ht at h
 split at h
 ·rename_i m q w x y i
  obtain ⟨rfl,rfl⟩:=sI h
  obtain ⟨e0,e1,e2,h1,_⟩:=ho
  have hS:=Tv x y i h1
  unfold oZ BP rg at hS
  rw[←e2,←e1,←e0] at hS
  exact hS
 ·simp at h)
noncomputable def VR:List CT:=[⟨151,dU [fd,aJ] adB⟩,⟨91,dU [fd,qg] Ht⟩]++Ze
theorem nO:bw VR:=⟨ajN,aja,sc⟩
noncomputable def jU (p q:J3):Nat:=ap (ab 1) p.x (ap (ab 1) q.z q.z)
noncomputable def jV (p q:J3):Nat:=ap (ab 1) q.x (ap (ab 1) p.z p.z)
noncomputable def jS (p q:J3):Nat:=ap (ab 1) p.y (ap (ab 1) (ap (ab 1) q.z q.z) q.z)
noncomputable def jT (p q:J3):Nat:=ap (ab 1) q.y (ap (ab 1) (ap (ab 1) p.z p.z) p.z)
noncomputable def jH (p q:J3):Nat:=aw (ab 1) (jV p q) (jU p q)
noncomputable def jK (p q:J3):Nat:=aw (ab 1) (jT p q) (jS p q)
noncomputable def jH2 (p q:J3):Nat:=ap (ab 1) (jH p q) (jH p q)
noncomputable def jH3 (p q:J3):Nat:=ap (ab 1) (jH2 p q) (jH p q)
noncomputable def jW (p q:J3):Nat:=ap (ab 1) (jU p q) (jH2 p q)
noncomputable def jX (p q:J3):Nat:=aw (ab 1) (aw (ab 1) (ap (ab 1) (jK p q) (jK p q)) (jH3 p q)) (addM (ab 1) (jW p q) (jW p q))
noncomputable def jY (p q:J3):Nat:=aw (ab 1) (ap (ab 1) (jK p q) (aw (ab 1) (jW p q) (jX p q))) (ap (ab 1) (jS p q) (jH3 p q))
noncomputable def jZ (p q:J3):Nat:=ap (ab 1) (jH p q) (ap (ab 1) p.z q.z)
noncomputable def PN:FuncId→Nat→Bool:=fun f t=>match f with|153=>bf t [23,28,72,75]|_=>false
theorem ajQ (p:J3) (q:J3):al (cd VR PN) 1000 153 [oZ,f3 p,f3 q] [true]=
  some ([(gX (p.3))=true],.val (f3 q)):=by kernel_rfl
theorem ae1 (p:J3) (q:J3):al (cd VR PN) 1000 153 [oZ,f3 p,f3 q] [false,true]=
  some ([(gX (p.3))=false,(gX (q.3))=true],.val (f3 p)):=by kernel_rfl
noncomputable abbrev fw:=aA (ak (ab 1) 0)
noncomputable abbrev pk (q:J3):=ap (ab 1) q.3 q.3
noncomputable abbrev nQ (p:J3):=ap (ab 1) p.3 p.3
noncomputable abbrev Gi (q:J3):=ap (ab 1) (pk q) q.3
theorem ag1 (p:J3) (q:J3):al (cd VR PN) 1000 153 [oZ,f3 p,f3 q] [false,false,true,true]=
  some ([(gX (p.3))=false,(gX (q.3))=false,bg (ab 1) fw (aO (ab 1)),p.3<ab 1,p.3<ab 1,p.3<4294967296^8,p.3<4294967296^8,bg (ab 1) fw (aO (ab 1)),q.3<ab 1,q.3<ab 1,q.3<4294967296^8,q.3<4294967296^8,bg (ab 1) fw (aO (ab 1)),p.1<ab 1,ap (ab 1) q.3 q.3<ab 1,p.1<4294967296^8,ap (ab 1) q.3 q.3<4294967296^8,bg (ab 1) fw (aO (ab 1)),q.1<ab 1,ap (ab 1) p.3 p.3<ab 1,q.1<4294967296^8,ap (ab 1) p.3 p.3<4294967296^8,bg (ab 1) fw (aO (ab 1)),ap (ab 1) q.3 q.3<ab 1,q.3<ab 1,ap (ab 1) q.3 q.3<4294967296^8,q.3<4294967296^8,bg (ab 1) fw (aO (ab 1)),p.2<ab 1,ap (ab 1) (pk q) q.3<ab 1,p.2<4294967296^8,ap (ab 1) (pk q) q.3<4294967296^8,bg (ab 1) fw (aO (ab 1)),ap (ab 1) p.3 p.3<ab 1,p.3<ab 1,ap (ab 1) p.3 p.3<4294967296^8,p.3<4294967296^8,bg (ab 1) fw (aO (ab 1)),q.2<ab 1,ap (ab 1) (nQ p) p.3<ab 1,q.2<4294967296^8,ap (ab 1) (nQ p) p.3<4294967296^8,(decide (ap (ab 1) p.1 (pk q)%4294967296^8=ap (ab 1) q.1 (nQ p)%4294967296^8)&&true)=true,(decide (ap (ab 1) p.2 (Gi q)%4294967296^8=ap (ab 1) q.2 (ap (ab 1) (nQ p) p.3)%4294967296^8)&&true)=true,ab 1<4294967296^8,aA (ak (ab 1) 0)<4294967296,aO (ab 1)<4294967296^8,p.1<4294967296^8,p.2<4294967296^8,p.3<4294967296^8,ab 1=ab 1,aA (ak (ab 1) 0)=aA (ak (ab 1) 0),aO (ab 1)=aO (ab 1),J3.lt (J3.mk (J3.x p) (J3.y p) (J3.z p))],.val (f3 (j' p))):=by kernel_rfl
theorem af1 (p:J3) (q:J3):al (cd VR PN) 1000 153 [oZ,f3 p,f3 q] [false,false,true,false]=
  some ([(gX (p.3))=false,(gX (q.3))=false,bg (ab 1) fw (aO (ab 1)),p.3<ab 1,p.3<ab 1,p.3<4294967296^8,p.3<4294967296^8,bg (ab 1) fw (aO (ab 1)),q.3<ab 1,q.3<ab 1,q.3<4294967296^8,q.3<4294967296^8,bg (ab 1) fw (aO (ab 1)),p.1<ab 1,ap (ab 1) q.3 q.3<ab 1,p.1<4294967296^8,ap (ab 1) q.3 q.3<4294967296^8,bg (ab 1) fw (aO (ab 1)),q.1<ab 1,ap (ab 1) p.3 p.3<ab 1,q.1<4294967296^8,ap (ab 1) p.3 p.3<4294967296^8,bg (ab 1) fw (aO (ab 1)),ap (ab 1) q.3 q.3<ab 1,q.3<ab 1,ap (ab 1) q.3 q.3<4294967296^8,q.3<4294967296^8,bg (ab 1) fw (aO (ab 1)),p.2<ab 1,ap (ab 1) (pk q) q.3<ab 1,p.2<4294967296^8,ap (ab 1) (pk q) q.3<4294967296^8,bg (ab 1) fw (aO (ab 1)),ap (ab 1) p.3 p.3<ab 1,p.3<ab 1,ap (ab 1) p.3 p.3<4294967296^8,p.3<4294967296^8,bg (ab 1) fw (aO (ab 1)),q.2<ab 1,ap (ab 1) (nQ p) p.3<ab 1,q.2<4294967296^8,ap (ab 1) (nQ p) p.3<4294967296^8,(decide (ap (ab 1) p.1 (pk q)%4294967296^8=ap (ab 1) q.1 (nQ p)%4294967296^8)&&true)=true,(decide (ap (ab 1) p.2 (Gi q)%4294967296^8=ap (ab 1) q.2 (ap (ab 1) (nQ p) p.3)%4294967296^8)&&true)=false,1<4294967296,bg (ab 1) fw (aO (ab 1)),1<ab 1,1<4294967296^8,1<4294967296,bg (ab 1) fw (aO (ab 1)),1<ab 1,1<4294967296^8],.val (.agg (.num 8 (aq (ab 1) 1):: .num 8 (aq (ab 1) 1)::bp 8 0 zF))):=by kernel_rfl
noncomputable abbrev Bb (q p:J3):=ap (ab 1) q.1 (nQ p)
noncomputable abbrev oN (p q:J3):=ap (ab 1) p.1 (pk q)
noncomputable abbrev pO (q p:J3):=aw (ab 1) (Bb q p) (oN p q)
noncomputable abbrev Fz (q p:J3):=ap (ab 1) q.2 (ap (ab 1) (nQ p) p.3)
noncomputable abbrev AI (p q:J3):=ap (ab 1) p.2 (Gi q)
noncomputable abbrev tN (q p:J3):=aw (ab 1) (Fz q p) (AI p q)
noncomputable abbrev t5 (q p:J3):=ap (ab 1) (pO q p) (pO q p)
noncomputable abbrev Mb (q p:J3):=ap (ab 1) (t5 q p) (pO q p)
noncomputable abbrev qM (p q:J3):=ap (ab 1) (oN p q) (t5 q p)
noncomputable abbrev Zl (q p:J3):=aw (ab 1) (ap (ab 1) (tN q p) (tN q p)) (Mb q p)
noncomputable abbrev Se (q p:J3):=aw (ab 1) (Zl q p) (addM (ab 1) (qM p q) (qM p q))
theorem agG (p:J3) (q:J3):al (cd VR PN) 1000 153 [oZ,f3 p,f3 q] [false,false,false]=
  some ([(gX (p.3))=false,(gX (q.3))=false,bg (ab 1) fw (aO (ab 1)),p.3<ab 1,p.3<ab 1,p.3<4294967296^8,p.3<4294967296^8,bg (ab 1) fw (aO (ab 1)),q.3<ab 1,q.3<ab 1,q.3<4294967296^8,q.3<4294967296^8,bg (ab 1) fw (aO (ab 1)),p.1<ab 1,ap (ab 1) q.3 q.3<ab 1,p.1<4294967296^8,ap (ab 1) q.3 q.3<4294967296^8,bg (ab 1) fw (aO (ab 1)),q.1<ab 1,ap (ab 1) p.3 p.3<ab 1,q.1<4294967296^8,ap (ab 1) p.3 p.3<4294967296^8,bg (ab 1) fw (aO (ab 1)),ap (ab 1) q.3 q.3<ab 1,q.3<ab 1,ap (ab 1) q.3 q.3<4294967296^8,q.3<4294967296^8,bg (ab 1) fw (aO (ab 1)),p.2<ab 1,ap (ab 1) (pk q) q.3<ab 1,p.2<4294967296^8,ap (ab 1) (pk q) q.3<4294967296^8,bg (ab 1) fw (aO (ab 1)),ap (ab 1) p.3 p.3<ab 1,p.3<ab 1,ap (ab 1) p.3 p.3<4294967296^8,p.3<4294967296^8,bg (ab 1) fw (aO (ab 1)),q.2<ab 1,ap (ab 1) (nQ p) p.3<ab 1,q.2<4294967296^8,ap (ab 1) (nQ p) p.3<4294967296^8,(decide (ap (ab 1) p.1 (pk q)%4294967296^8=ap (ab 1) q.1 (nQ p)%4294967296^8)&&true)=false,bg (ab 1) fw (aO (ab 1)),ap (ab 1) q.1 (nQ p)<ab 1,ap (ab 1) p.1 (pk q)<ab 1,ap (ab 1) q.1 (nQ p)<4294967296^8,ap (ab 1) p.1 (pk q)<4294967296^8,bg (ab 1) fw (aO (ab 1)),ap (ab 1) q.2 (ap (ab 1) (nQ p) p.3)<ab 1,ap (ab 1) p.2 (Gi q)<ab 1,ap (ab 1) q.2 (ap (ab 1) (nQ p) p.3)<4294967296^8,ap (ab 1) p.2 (Gi q)<4294967296^8,bg (ab 1) fw (aO (ab 1)),aw (ab 1) (Bb q p) (oN p q)<ab 1,aw (ab 1) (Bb q p) (oN p q)<ab 1,aw (ab 1) (Bb q p) (oN p q)<4294967296^8,aw (ab 1) (Bb q p) (oN p q)<4294967296^8,bg (ab 1) fw (aO (ab 1)),ap (ab 1) (pO q p) (pO q p)<ab 1,aw (ab 1) (Bb q p) (oN p q)<ab 1,ap (ab 1) (pO q p) (pO q p)<4294967296^8,aw (ab 1) (Bb q p) (oN p q)<4294967296^8,bg (ab 1) fw (aO (ab 1)),ap (ab 1) p.1 (pk q)<ab 1,ap (ab 1) (pO q p) (pO q p)<ab 1,ap (ab 1) p.1 (pk q)<4294967296^8,ap (ab 1) (pO q p) (pO q p)<4294967296^8,bg (ab 1) fw (aO (ab 1)),aw (ab 1) (Fz q p) (AI p q)<ab 1,aw (ab 1) (Fz q p) (AI p q)<ab 1,aw (ab 1) (Fz q p) (AI p q)<4294967296^8,aw (ab 1) (Fz q p) (AI p q)<4294967296^8,bg (ab 1) fw (aO (ab 1)),ap (ab 1) (tN q p) (tN q p)<ab 1,ap (ab 1) (t5 q p) (pO q p)<ab 1,ap (ab 1) (tN q p) (tN q p)<4294967296^8,ap (ab 1) (t5 q p) (pO q p)<4294967296^8,bg (ab 1) fw (aO (ab 1)),ap (ab 1) (oN p q) (t5 q p)<ab 1,ap (ab 1) (oN p q) (t5 q p)<ab 1,ap (ab 1) (oN p q) (t5 q p)<4294967296^8,ap (ab 1) (oN p q) (t5 q p)<4294967296^8,bg (ab 1) fw (aO (ab 1)),aw (ab 1) (ap (ab 1) (tN q p) (tN q p)) (Mb q p)<ab 1,addM (ab 1) (qM p q) (qM p q)<ab 1,aw (ab 1) (ap (ab 1) (tN q p) (tN q p)) (Mb q p)<4294967296^8,addM (ab 1) (qM p q) (qM p q)<4294967296^8,bg (ab 1) fw (aO (ab 1)),ap (ab 1) (oN p q) (t5 q p)<ab 1,aw (ab 1) (Zl q p) (addM (ab 1) (qM p q) (qM p q))<ab 1,ap (ab 1) (oN p q) (t5 q p)<4294967296^8,aw (ab 1) (Zl q p) (addM (ab 1) (qM p q) (qM p q))<4294967296^8,bg (ab 1) fw (aO (ab 1)),aw (ab 1) (Fz q p) (AI p q)<ab 1,aw (ab 1) (qM p q) (Se q p)<ab 1,aw (ab 1) (Fz q p) (AI p q)<4294967296^8,aw (ab 1) (qM p q) (Se q p)<4294967296^8,bg (ab 1) fw (aO (ab 1)),ap (ab 1) p.2 (Gi q)<ab 1,ap (ab 1) (t5 q p) (pO q p)<ab 1,ap (ab 1) p.2 (Gi q)<4294967296^8,ap (ab 1) (t5 q p) (pO q p)<4294967296^8,bg (ab 1) fw (aO (ab 1)),ap (ab 1) (tN q p) (aw (ab 1) (qM p q) (Se q p))<ab 1,ap (ab 1) (AI p q) (Mb q p)<ab 1,ap (ab 1) (tN q p) (aw (ab 1) (qM p q) (Se q p))<4294967296^8,ap (ab 1) (AI p q) (Mb q p)<4294967296^8,bg (ab 1) fw (aO (ab 1)),p.3<ab 1,q.3<ab 1,p.3<4294967296^8,q.3<4294967296^8,bg (ab 1) fw (aO (ab 1)),aw (ab 1) (Bb q p) (oN p q)<ab 1,ap (ab 1) p.3 q.3<ab 1,aw (ab 1) (Bb q p) (oN p q)<4294967296^8,ap (ab 1) p.3 q.3<4294967296^8],.val (f3 ⟨jX p q,jY p q,jZ p q⟩)):=by kernel_rfl
theorem ape (p q:J3) (h1:p.x<ab 1) (h2:p.y<ab 1) (h3:p.z<ab 1) (h5:q.x<ab 1) (h6:q.y<ab 1) (h7:q.z<ab 1) (hz:gX p.z=false) (hy:gX q.z=false) (eU:((decide (ap (ab 1) p.x (ap (ab 1) q.z q.z)%4294967296^8=ap (ab 1) q.x (ap (ab 1) p.z p.z)%4294967296^8)&&true)=false)):Spec 153 [oZ,f3 p,f3 q] (.val (f3 ⟨jX p q,jY p q,jZ p q⟩)):=by
 have hlp:J3.lt p:=⟨h1,h2,h3⟩
 have hone:=a9 1
 exact af (aF nO PN) rfl (agG p q) (by refine ⟨?_,?_,(aC (by decide)),?_,?_,?_,?_,(aC (by decide)),?_,?_,?_,?_,(aC (by decide)),?_,(ai (ae _)),?_,(L8 (ai (ae _))),(aC (by decide)),?_,(ai (ae _)),?_,(L8 (ai (ae _))),(aC (by decide)),(ai (ae _)),?_,(L8 (ai (ae _))),?_,(aC (by decide)),?_,(ai (ae _)),?_,(L8 (ai (ae _))),(aC (by decide)),(ai (ae _)),?_,(L8 (ai (ae _))),?_,(aC (by decide)),?_,(ai (ae _)),?_,(L8 (ai (ae _))),?_,(aC (by decide)),(ai (ae _)),(ai (ae _)),(L8 (ai (ae _))),(L8 (ai (ae _))),(aC (by decide)),(ai (ae _)),(ai (ae _)),(L8 (ai (ae _))),(L8 (ai (ae _))),(aC (by decide)),(av (ae _)),(av (ae _)),(L8 (av (ae _))),(L8 (av (ae _))),(aC (by decide)),(ai (ae _)),(av (ae _)),(L8 (ai (ae _))),(L8 (av (ae _))),(aC (by decide)),(ai (ae _)),(ai (ae _)),(L8 (ai (ae _))),(L8 (ai (ae _))),(aC (by decide)),(av (ae _)),(av (ae _)),(L8 (av (ae _))),(L8 (av (ae _))),(aC (by decide)),(ai (ae _)),(ai (ae _)),(L8 (ai (ae _))),(L8 (ai (ae _))),(aC (by decide)),(ai (ae _)),(ai (ae _)),(L8 (ai (ae _))),(L8 (ai (ae _))),(aC (by decide)),(av (ae _)),(ao (ae _)),(L8 (av (ae _))),(L8 (ao (ae _))),(aC (by decide)),(ai (ae _)),(av (ae _)),(L8 (ai (ae _))),(L8 (av (ae _))),(aC (by decide)),(av (ae _)),(av (ae _)),(L8 (av (ae _))),(L8 (av (ae _))),(aC (by decide)),(ai (ae _)),(ai (ae _)),(L8 (ai (ae _))),(L8 (ai (ae _))),(aC (by decide)),(ai (ae _)),(ai (ae _)),(L8 (ai (ae _))),(L8 (ai (ae _))),(aC (by decide)),?_,?_,?_,?_,(aC (by decide)),(av (ae _)),(ai (ae _)),(L8 (av (ae _))),(L8 (ai (ae _))),trivial⟩<;>first|with_reducible assumption|with_reducible exact L8 (by with_reducible assumption)|exact decide_eq_true (by omega)|exact decide_eq_false (by omega)|omega) rfl rfl
theorem aon (p q:J3) (h1:p.x<ab 1) (h2:p.y<ab 1) (h3:p.z<ab 1) (h5:q.x<ab 1) (h6:q.y<ab 1) (h7:q.z<ab 1) (hz:gX p.z=false) (hy:gX q.z=false) (eU:((decide (ap (ab 1) p.x (ap (ab 1) q.z q.z)%4294967296^8=ap (ab 1) q.x (ap (ab 1) p.z p.z)%4294967296^8)&&true)=true)) (eS:((decide (ap (ab 1) p.y (ap (ab 1) (ap (ab 1) q.z q.z) q.z)%4294967296^8=ap (ab 1) q.y (ap (ab 1) (ap (ab 1) p.z p.z) p.z)%4294967296^8)&&true)=true)):Spec 153 [oZ,f3 p,f3 q] (.val (f3 (j' p))):=by
 have hlp:J3.lt p:=⟨h1,h2,h3⟩
 have hone:=a9 1
 exact af (aF nO PN) rfl (ag1 p q) (by refine ⟨?_,?_,(aC (by decide)),?_,?_,?_,?_,(aC (by decide)),?_,?_,?_,?_,(aC (by decide)),?_,(ai (ae _)),?_,(L8 (ai (ae _))),(aC (by decide)),?_,(ai (ae _)),?_,(L8 (ai (ae _))),(aC (by decide)),(ai (ae _)),?_,(L8 (ai (ae _))),?_,(aC (by decide)),?_,(ai (ae _)),?_,(L8 (ai (ae _))),(aC (by decide)),(ai (ae _)),?_,(L8 (ai (ae _))),?_,(aC (by decide)),?_,(ai (ae _)),?_,(L8 (ai (ae _))),?_,?_,(aj _),(bv _),(L8 (du (by decide))),?_,?_,?_,rfl,rfl,rfl,?_,trivial⟩<;>first|with_reducible assumption|with_reducible exact L8 (by with_reducible assumption)|exact decide_eq_true (by omega)|exact decide_eq_false (by omega)|omega) rfl rfl
theorem aqA (p q:J3) (h1:p.x<ab 1) (h2:p.y<ab 1) (h3:p.z<ab 1) (h5:q.x<ab 1) (h6:q.y<ab 1) (h7:q.z<ab 1) (hz:gX p.z=false) (hy:gX q.z=false) (eU:((decide (ap (ab 1) p.x (ap (ab 1) q.z q.z)%4294967296^8=ap (ab 1) q.x (ap (ab 1) p.z p.z)%4294967296^8)&&true)=true)) (eS:((decide (ap (ab 1) p.y (ap (ab 1) (ap (ab 1) q.z q.z) q.z)%4294967296^8=ap (ab 1) q.y (ap (ab 1) (ap (ab 1) p.z p.z) p.z)%4294967296^8)&&true)=false)):Spec 153 [oZ,f3 p,f3 q] (.val (.agg (.num 8 (aq (ab 1) 1):: .num 8 (aq (ab 1) 1)::bp 8 0 zF))):=by
 have hlp:J3.lt p:=⟨h1,h2,h3⟩
 have hone:=a9 1
 exact af (aF nO PN) rfl (af1 p q) (by refine ⟨?_,?_,(aC (by decide)),?_,?_,?_,?_,(aC (by decide)),?_,?_,?_,?_,(aC (by decide)),?_,(ai (ae _)),?_,(L8 (ai (ae _))),(aC (by decide)),?_,(ai (ae _)),?_,(L8 (ai (ae _))),(aC (by decide)),(ai (ae _)),?_,(L8 (ai (ae _))),?_,(aC (by decide)),?_,(ai (ae _)),?_,(L8 (ai (ae _))),(aC (by decide)),(ai (ae _)),?_,(L8 (ai (ae _))),?_,(aC (by decide)),?_,(ai (ae _)),?_,(L8 (ai (ae _))),?_,?_,tR,(aC (by decide)),(a9 _),nk,tR,(aC (by decide)),(a9 _),nk,trivial⟩<;>first|with_reducible assumption|with_reducible exact L8 (by with_reducible assumption)|exact decide_eq_true (by omega)|exact decide_eq_false (by omega)|omega) rfl rfl
theorem amz (p q:J3) (h1:p.x<ab 1) (h2:p.y<ab 1) (h3:p.z<ab 1) (h5:q.x<ab 1) (h6:q.y<ab 1) (h7:q.z<ab 1) (hz:gX p.z=true):Spec 153 [oZ,f3 p,f3 q] (.val (f3 q)):=by
 have hlp:J3.lt p:=⟨h1,h2,h3⟩
 have hone:=a9 1
 exact af (aF nO PN) rfl (ajQ p q) ⟨(by first|with_reducible assumption|with_reducible exact L8 (by with_reducible assumption)|exact decide_eq_true (by omega)|exact decide_eq_false (by omega)|omega),trivial⟩ rfl rfl
theorem anV (p q:J3) (h1:p.x<ab 1) (h2:p.y<ab 1) (h3:p.z<ab 1) (h5:q.x<ab 1) (h6:q.y<ab 1) (h7:q.z<ab 1) (hz:gX p.z=false) (hy:gX q.z=true):Spec 153 [oZ,f3 p,f3 q] (.val (f3 p)):=by
 have hlp:J3.lt p:=⟨h1,h2,h3⟩
 have hone:=a9 1
 exact af (aF nO PN) rfl (ae1 p q) (by refine ⟨?_,?_,trivial⟩<;>first|with_reducible assumption|with_reducible exact L8 (by with_reducible assumption)|exact decide_eq_true (by omega)|exact decide_eq_false (by omega)|omega) rfl rfl
noncomputable def gC (p q:J3):J3:=bif decide (p.z=0) then q else bif decide (q.z=0) then p else bif decide (jU p q=jV p q) then (bif decide (jS p q=jT p q) then j' p else ⟨aq (ab 1) 1,aq (ab 1) 1,0⟩) else ⟨jX p q,jY p q,jZ p q⟩
theorem afS (p q:J3):jU p q<4294967296^8:=L8 (ai (ae 1))
theorem aif (p q:J3):jV p q<4294967296^8:=L8 (ai (ae 1))
theorem afm (p q:J3):jS p q<4294967296^8:=L8 (ai (ae 1))
theorem aeM (p q:J3):jT p q<4294967296^8:=L8 (ai (ae 1))
theorem eUo {p q:J3} {b:Bool} (h:decide (jU p q=jV p q)=b):(decide (jU p q%4294967296^8=jV p q%4294967296^8)&&true)=b:=(nL (afS p q) (aif p q)).trans h
theorem eSo {p q:J3} {b:Bool} (h:decide (jS p q=jT p q)=b):(decide (jS p q%4294967296^8=jT p q%4294967296^8)&&true)=b:=(nL (afm p q) (aeM p q)).trans h
theorem Zh {p q:J3} (h:decide (p.z=0)=true):gC p q=q:=by unfold gC;rw[h,cond_true]
theorem ac0 {p q:J3} (h:decide (p.z=0)=false) (h2:decide (q.z=0)=true):gC p q=p:=by unfold gC;rw[h,cond_false,h2,cond_true]
theorem XM {p q:J3} (h:decide (p.z=0)=false) (h2:decide (q.z=0)=false) (h3:decide (jU p q=jV p q)=false):gC p q=⟨jX p q,jY p q,jZ p q⟩:=by unfold gC;rw[h,cond_false,h2,cond_false,h3,cond_false]
theorem XS {p q:J3} (h:decide (p.z=0)=false) (h2:decide (q.z=0)=false) (h3:decide (jU p q=jV p q)=true) (h4:decide (jS p q=jT p q)=true):gC p q=j' p:=by unfold gC;rw[h,cond_false,h2,cond_false,h3,cond_true,h4,cond_true]
theorem adc {p q:J3} (h:decide (p.z=0)=false) (h2:decide (q.z=0)=false) (h3:decide (jU p q=jV p q)=true) (h4:decide (jS p q=jT p q)=false):gC p q=⟨aq (ab 1) 1,aq (ab 1) 1,0⟩:=by unfold gC;rw[h,cond_false,h2,cond_false,h3,cond_true,h4,cond_false]
theorem wU {p q:J3} (hp:p.lt) (hq:q.lt):(gC p q).lt:=by
 have hm:=ae 1
 cases hz:decide (p.z=0) with
 |true=>rw[Zh hz];exact hq
 |false=>
 cases hy:decide (q.z=0) with
 |true=>rw[ac0 hz hy];exact hp
 |false=>
 cases hu:decide (jU p q=jV p q) with
 |false=>rw[XM hz hy hu];exact ⟨av hm,av hm,ai hm⟩
 |true=>
  cases hs:decide (jS p q=jT p q) with
  |true=>rw[XS hz hy hu hs];exact qG hp
  |false=>rw[adc hz hy hu hs];exact ⟨au hm,au hm,hm⟩
theorem XP (φ:c7) (a:Nat):an φ (.num 8 a:: .num 8 a::bp 8 0 zF)=an φ [.num 8 a,.num 8 a,.num 8 0]:=by
 rw[show ([.num 8 a,.num 8 a,.num 8 0]:List Piece)=[.num 8 a,.num 8 a]++[.num 8 0] from rfl,show (.num 8 a:: .num 8 a::bp 8 0 zF:List Piece)=[.num 8 a,.num 8 a]++bp 8 0 zF from rfl,bb,bb,fv φ 8 0,gU]
theorem Si (p q:J3) (hp:p.lt) (hq:q.lt):Spec 153 [oZ,f3 p,f3 q] (.val (f3 (gC p q))):=by
 obtain ⟨h1,h2,h3⟩:=hp
 obtain ⟨h5,h6,h7⟩:=hq
 cases hz:decide (p.z=0) with
 |true=>rw[Zh hz];exact amz p q h1 h2 h3 h5 h6 h7 ((jo (L8 h3)).trans hz)
 |false=>
 have hz':gX p.z=false:=(jo (L8 h3)).trans hz
 cases hy:decide (q.z=0) with
 |true=>rw[ac0 hz hy];exact anV p q h1 h2 h3 h5 h6 h7 hz' ((jo (L8 h7)).trans hy)
 |false=>
 have hy':gX q.z=false:=(jo (L8 h7)).trans hy
 cases hu:decide (jU p q=jV p q) with
 |false=>rw[XM hz hy hu];exact ape p q h1 h2 h3 h5 h6 h7 hz' hy' (eUo hu)
 |true=>
  cases hs:decide (jS p q=jT p q) with
  |true=>rw[XS hz hy hu hs];exact aon p q h1 h2 h3 h5 h6 h7 hz' hy' (eUo hu) (eSo hs)
  |false=>
   rw[adc hz hy hu hs]
   exact (aqA p q h1 h2 h3 h5 h6 h7 hz' hy' (eUo hu) (eSo hs)).congr (fun _=>rfl) (fun φ=>by
    simp only[AV.conc,V1.conc,f3,XP])
noncomputable def LT:List Val→Option (List Prop×AV)
 |[.n m,.n q,.n w,.n x1,.n y1,.n z1,.n x2,.n y2,.n z2]=>some ([m=ab 1,q=aA (ak (ab 1) 0),w=aO (ab 1),J3.lt ⟨x1,y1,z1⟩,J3.lt ⟨x2,y2,z2⟩],.val (f3 (gC ⟨x1,y1,z1⟩ ⟨x2,y2,z2⟩)))
 |_=>none
theorem agS:aU ⟨153,dU [fd,aJ,aJ] LT⟩:=jE (by
 intro xs ob r hb h ho
 unfold LT at h
 split at h
 ·rename_i m q w x1 y1 z1 x2 y2 z2
  obtain ⟨rfl,rfl⟩:=sI h
  obtain ⟨e0,e1,e2,h1,h2,_⟩:=ho
  have hS:=Si ⟨x1,y1,z1⟩ ⟨x2,y2,z2⟩ h1 h2
  unfold oZ BP rg at hS
  rw[←e2,←e1,←e0] at hS
  exact hS
 ·simp at h)
noncomputable def ZI:List CT:=⟨153,dU [fd,aJ,aJ] LT⟩::VR
theorem Jj:bw ZI:=⟨agS,nO⟩
noncomputable def mQ (k:Nat) (p:J3) (j:Nat) (x:J3):J3:=bif eY k j then gC (j' x) p else j' x
noncomputable def ow (k:Nat) (p:J3):Nat→J3→J3
 |0,x=>x
 |j+1,x=>ow k p j (mQ k p j x)
noncomputable def dt (k:Nat) (p:J3):J3:=ow k p (dp k) (ek 0 0 true)
theorem IC {k:Nat} {p:J3} {j:Nat} {x:J3} (h:eY k j=true):mQ k p j x=gC (j' x) p:=by unfold mQ;rw[h,cond_true]
theorem IK {k:Nat} {p:J3} {j:Nat} {x:J3} (h:eY k j=false):mQ k p j x=j' x:=by unfold mQ;rw[h,cond_false]
theorem Ci {k:Nat} {p:J3} {j:Nat} {x:J3} (hp:p.lt) (hx:x.lt):(mQ k p j x).lt:=by
 unfold mQ
 cases eY k j
 ·rw[cond_false];exact qG hx
 ·rw[cond_true];exact wU (qG hx) hp
theorem wJ {k:Nat} {p:J3} (hp:p.lt):∀j x,x.lt→(ow k p j x).lt
 |0,_,h=>h
 |j+1,x,h=>wJ hp j _ (Ci hp h)
theorem rB {k:Nat} {p:J3} (hp:p.lt):(dt k p).lt:=wJ hp _ _ (lI 0 0 true)
def yN (i:Int):List AV:=bt 30 [(3,pV 0),(4,pV 1),(5,pV 2),(6,pV 3),(7,pV 4),(8,iV i)]
noncomputable def BZ (k:Nat) (p x:J3):List Blk:=[⟨[.num 8 (ab 1),.a (.u .u32 (aA (ak (ab 1) 0))),.num 8 (aO (ab 1))],81,true,false,0⟩,⟨[.num 8 k],32,true,false,0⟩,⟨[.num 8 p.x,.num 8 p.y,.num 8 p.z],119,true,false,0⟩,⟨bp 24 0 zF,119,true,false,0⟩,⟨[.num 8 x.x,.num 8 x.y,.num 8 x.z],119,true,false,0⟩]
noncomputable def xG:FuncId→Nat→Bool:=fun f t=>match f with|90=>bf t [14,16,18,24]|_=>false
noncomputable def Wv:Env:=cd ZI xG
theorem BF:EnvOK Wv:=aF Jj xG
theorem If (k:Nat) (p x:J3) (i:Int):dl (yN i) (BZ k p x)=true:=by
 unfold dl
 rw[show cw (BZ k p x).length (yN i)=true by show cw 5 _=true;kernel_rfl,Bool.true_and]
 kernel_rfl
theorem aeK (k:Nat) (p:J3) (x:J3) (j:Nat):aH Wv 1000 (Env.S Wv 90) (ah Tryz.prog 90 3) (yN (↑j:Int)) (BZ k p x) [true,true] (yN ((↑j:Int)-(1:Int))) 5=
  some ([decide ((0:Int)≤(↑j:Int))=true,ab 1<4294967296^8,aA (ak (ab 1) 0)<4294967296,aO (ab 1)<4294967296^8,x.1<4294967296^8,x.2<4294967296^8,x.3<4294967296^8,ab 1=ab 1,aA (ak (ab 1) 0)=aA (ak (ab 1) 0),aO (ab 1)=aO (ab 1),J3.lt (J3.mk (J3.x x) (J3.y x) (J3.z x)),eY k j=true,(0:Int)≤(↑j:Int)∧(↑j:Int)<(256:Int),k<4294967296^8,ab 1<4294967296^8,aA (ak (ab 1) 0)<4294967296,aO (ab 1)<4294967296^8,(j' (J3.mk (J3.x x) (J3.y x) (J3.z x))).1<4294967296^8,(j' (J3.mk (J3.x x) (J3.y x) (J3.z x))).2<4294967296^8,(j' (J3.mk (J3.x x) (J3.y x) (J3.z x))).3<4294967296^8,p.1<4294967296^8,p.2<4294967296^8,p.3<4294967296^8,ab 1=ab 1,aA (ak (ab 1) 0)=aA (ak (ab 1) 0),aO (ab 1)=aO (ab 1),J3.lt (J3.mk (J3.x (j' (J3.mk (J3.x x) (J3.y x) (J3.z x)))) (J3.y (j' (J3.mk (J3.x x) (J3.y x) (J3.z x)))) (J3.z (j' (J3.mk (J3.x x) (J3.y x) (J3.z x))))),J3.lt (J3.mk (J3.x p) (J3.y p) (J3.z p)),br ((↑j:Int)-(1:Int))],.normal,yN ((j:Int)-1),BZ k p (gC (j' x) p)):=by kernel_rfl
theorem agX (k:Nat) (p:J3) (x:J3) (j:Nat):aH Wv 1000 (Env.S Wv 90) (ah Tryz.prog 90 3) (yN (↑j:Int)) (BZ k p x) [true,false] (yN ((↑j:Int)-(1:Int))) 5=
  some ([decide ((0:Int)≤(↑j:Int))=true,ab 1<4294967296^8,aA (ak (ab 1) 0)<4294967296,aO (ab 1)<4294967296^8,x.1<4294967296^8,x.2<4294967296^8,x.3<4294967296^8,ab 1=ab 1,aA (ak (ab 1) 0)=aA (ak (ab 1) 0),aO (ab 1)=aO (ab 1),J3.lt (J3.mk (J3.x x) (J3.y x) (J3.z x)),eY k j=false,(0:Int)≤(↑j:Int)∧(↑j:Int)<(256:Int),k<4294967296^8,br ((↑j:Int)-(1:Int))],.normal,yN ((j:Int)-1),BZ k p (j' x)):=by kernel_rfl
theorem ajY (k:Nat) (p:J3) (x:J3):aH Wv 1000 (Env.S Wv 90) (ah Tryz.prog 90 3) (yN (-1:Int)) (BZ k p x) [false] (yN (-1:Int)) 5=
  some ([decide ((0:Int)≤(-1:Int))=false],.exit 0,yN (-1),BZ k p x):=by kernel_rfl
theorem K5 {k:Nat} {p:J3} (hk:k<4294967296^8) (hp:p.lt):∀(j:Nat) (x:J3),j≤256→x.lt→GoesN Tryz.prog (ah Tryz.prog 90 3) (j+1) (.exit 0) (yN ((j:Int)-1)) (BZ k p x) (yN (-1)) (BZ k p (ow k p j x))
 |0,x,_,hx=>by
  have hwb:=a9 1
  obtain ⟨hx1,hx2,hx3⟩:=id hx
  obtain ⟨hp1,hp2,hp3⟩:=id hp
  exact GoesN.out (by simp) (Runs.goes BF ⟨[false],_,ajY k p x,⟨(by first|with_reducible assumption|with_reducible exact L8 (by with_reducible assumption)|exact decide_eq_true (by omega)|exact decide_eq_false (by omega)|omega),trivial⟩,If _ _ _ _⟩)
 |j+1,x,hj,hx=>by
  have ih:=K5 hk hp j (mQ k p j x) (by omega) (Ci hp hx)
  have hwb:=a9 1
  have hxx:=qG hx
  obtain ⟨hx1,hx2,hx3⟩:=id hx
  obtain ⟨hp1,hp2,hp3⟩:=id hp
  obtain ⟨hq1,hq2,hq3⟩:=id hxx
  have h0:decide (0≤(j:Int))=true:=decide_eq_true (by omega)
  have hr:0≤(j:Int)∧(j:Int)<256:=by omega
  have hI:br ((j:Int)-1):=by unfold br;omega
  rw[show ((j+1:Nat):Int)-1=(j:Int) by omega]
  have hs:Goes Tryz.prog (ah Tryz.prog 90 3) .normal (yN (j:Int)) (BZ k p x) (yN ((j:Int)-1)) (BZ k p (mQ k p j x)):=by
   cases hb:eY k j with
   |true=>rw[IC hb];exact Runs.goes BF ⟨_,_,aeK k p x j,(by refine ⟨?_,(aj _),(bv _),(L8 (du (by decide))),?_,?_,?_,rfl,rfl,rfl,?_,?_,?_,?_,(aj _),(bv _),(L8 (du (by decide))),?_,?_,?_,?_,?_,?_,rfl,rfl,rfl,?_,?_,?_,trivial⟩<;>first|with_reducible assumption|with_reducible exact L8 (by with_reducible assumption)|exact decide_eq_true (by omega)|exact decide_eq_false (by omega)|omega),If _ _ _ _⟩
   |false=>rw[IK hb];exact Runs.goes BF ⟨_,_,agX k p x j,(by refine ⟨?_,(aj _),(bv _),(L8 (du (by decide))),?_,?_,?_,rfl,rfl,rfl,?_,?_,?_,?_,?_,trivial⟩<;>first|with_reducible assumption|with_reducible exact L8 (by with_reducible assumption)|exact decide_eq_true (by omega)|exact decide_eq_false (by omega)|omega),If _ _ _ _⟩
  exact GoesN.cons (M1:=BZ k p (mQ k p j x)) rfl hs ih
noncomputable def ah6 (k:Nat) (p:J3) (n:Nat) (x y:J3):Env:=nR Wv 3 (ah Tryz.prog 90 3) (fo (yN ((n:Int)-1)) (BZ k p x) (yN (-1)) (BZ k p y) (.exit 0))
theorem Wj {k:Nat} {p:J3} (hk:k<4294967296^8) (hp:p.lt) {n:Nat} (hn:n≤256) {x:J3} (hx:x.lt):EnvOK (ah6 k p n x (ow k p n x)):=gy BF (bz rfl (K5 hk hp n x hn hx).loop)
theorem al9 (k:Nat) (p:J3) (n:Nat) (x:J3) (y:J3):al (ah6 k p n x y) 1000 90 [oZ,N8 k,f3 p] []=
  some ([ab 1<4294967296^8,aA (ak (ab 1) 0)<4294967296,aO (ab 1)<4294967296^8,0<4294967296,0<4294967296,0<4294967296,0<4294967296,0<4294967296,0<4294967296,0<4294967296,0<4294967296,0<4294967296,0<4294967296,0<4294967296,0<4294967296,0<4294967296,0<4294967296,0<4294967296,0<4294967296,ab 1=ab 1,aA (ak (ab 1) 0)=aA (ak (ab 1) 0),aO (ab 1)=aO (ab 1),true=true∨0<ab 1∧0<ab 1,k<4294967296^8,br ((↑(eP k 256):Int)-(1:Int)),(ah Tryz.prog 90 3)=(ah Tryz.prog 90 3),(yN ((eP k 256:Int)-1),BZ k p (ek 0 0 true))=(yN ((n:Int)-1),BZ k p x),dl (yN ((n:Int)-1)) (BZ k p x)=true],.val (f3 y)):=by kernel_rfl
theorem Rs (k:Nat) (p:J3) (hk:k<4294967296^8) (hp:p.lt):Spec 90 [oZ,N8 k,f3 p] (.val (f3 (dt k p))):=by
 obtain ⟨hp1,hp2,hp3⟩:=id hp
 have hwb:=a9 1
 have hl:=(i2 k 256 hk).2
 have hI:br ((eP k 256:Int)-1):=by unfold br;omega
 have hw:=If k p (ek 0 0 true) ((eP k 256:Int)-1)
 have hpp:=ae 1
 have h:=af (Wj hk hp hl (lI 0 0 true)) rfl (al9 k p _ _ _) (by refine ⟨(aj _),(bv _),(L8 (du (by decide))),bL,bL,bL,bL,bL,bL,bL,bL,bL,bL,bL,bL,bL,bL,bL,bL,rfl,rfl,rfl,?_,?_,?_,rfl,rfl,(by assumption),trivial⟩<;>first|with_reducible assumption|with_reducible exact L8 (by with_reducible assumption)|exact decide_eq_true (by omega)|exact decide_eq_false (by omega)|omega) rfl rfl
 rw[M7 hk] at h
 exact h
noncomputable def Zv (p:J3):Nat:=bif decide (p.z=0) then 0 else ci (ab 1) (ap (ab 1) p.x (ap (ab 1) (cI (ab 1) p.z) (cI (ab 1) p.z)))
noncomputable def YM (p:J3):Nat:=bif decide (p.z=0) then 0 else ci (ab 1) (ap (ab 1) p.y (ap (ab 1) (ap (ab 1) (cI (ab 1) p.z) (cI (ab 1) p.z)) (cI (ab 1) p.z)))
noncomputable def xC:FuncId→Nat→Bool:=fun f t=>match f with|89=>bf t [12]|_=>false
theorem ahg (p:J3):al (cd VR xC) 1000 89 [oZ,f3 p] [true]=
  some ([(gX (p.3))=true],.val (.agg (bp 16 0 zF++[.a (.v (.bool true))]))):=by kernel_rfl
theorem aeQ (p:J3):al (cd VR xC) 1000 89 [oZ,f3 p] [false]=
  some ([(gX (p.3))=false,2<4294967296,ab 1<4294967296^8,2<4294967296^8,bg (ab 1) (aA (ak (ab 1) 0)) (aO (ab 1)),1<ab 1,p.3<ab 1,p.3<4294967296^8,bh (ab 1) (2)<4294967296^8,bg (ab 1) (aA (ak (ab 1) 0)) (aO (ab 1)),am (ab 1) p.3 (bh (ab 1) (2))<ab 1,am (ab 1) p.3 (bh (ab 1) (2))<ab 1,am (ab 1) p.3 (bh (ab 1) (2))<4294967296^8,am (ab 1) p.3 (bh (ab 1) (2))<4294967296^8,bg (ab 1) (aA (ak (ab 1) 0)) (aO (ab 1)),p.1<ab 1,ap (ab 1) (am (ab 1) p.3 (bh (ab 1) (2))) (am (ab 1) p.3 (bh (ab 1) (2)))<ab 1,p.1<4294967296^8,ap (ab 1) (am (ab 1) p.3 (bh (ab 1) (2))) (am (ab 1) p.3 (bh (ab 1) (2)))<4294967296^8,bg (ab 1) (aA (ak (ab 1) 0)) (aO (ab 1)),ap (ab 1) p.1 (ap (ab 1) (am (ab 1) p.3 (bh (ab 1) (2))) (am (ab 1) p.3 (bh (ab 1) (2))))<ab 1,ap (ab 1) p.1 (ap (ab 1) (am (ab 1) p.3 (bh (ab 1) (2))) (am (ab 1) p.3 (bh (ab 1) (2))))<4294967296^8,bg (ab 1) (aA (ak (ab 1) 0)) (aO (ab 1)),ap (ab 1) (am (ab 1) p.3 (bh (ab 1) (2))) (am (ab 1) p.3 (bh (ab 1) (2)))<ab 1,am (ab 1) p.3 (bh (ab 1) (2))<ab 1,ap (ab 1) (am (ab 1) p.3 (bh (ab 1) (2))) (am (ab 1) p.3 (bh (ab 1) (2)))<4294967296^8,am (ab 1) p.3 (bh (ab 1) (2))<4294967296^8,bg (ab 1) (aA (ak (ab 1) 0)) (aO (ab 1)),p.2<ab 1,ap (ab 1) (ap (ab 1) (am (ab 1) p.3 (bh (ab 1) (2))) (am (ab 1) p.3 (bh (ab 1) (2)))) (am (ab 1) p.3 (bh (ab 1) (2)))<ab 1,p.2<4294967296^8,ap (ab 1) (ap (ab 1) (am (ab 1) p.3 (bh (ab 1) (2))) (am (ab 1) p.3 (bh (ab 1) (2)))) (am (ab 1) p.3 (bh (ab 1) (2)))<4294967296^8,bg (ab 1) (aA (ak (ab 1) 0)) (aO (ab 1)),ap (ab 1) p.2 (ap (ab 1) (ap (ab 1) (am (ab 1) p.3 (bh (ab 1) (2))) (am (ab 1) p.3 (bh (ab 1) (2)))) (am (ab 1) p.3 (bh (ab 1) (2))))<ab 1,ap (ab 1) p.2 (ap (ab 1) (ap (ab 1) (am (ab 1) p.3 (bh (ab 1) (2))) (am (ab 1) p.3 (bh (ab 1) (2)))) (am (ab 1) p.3 (bh (ab 1) (2))))<4294967296^8],.val (P3 (ci (ab 1) (ap (ab 1) p.x (ap (ab 1) (cI (ab 1) p.z) (cI (ab 1) p.z)))) (ci (ab 1) (ap (ab 1) p.y (ap (ab 1) (ap (ab 1) (cI (ab 1) p.z) (cI (ab 1) p.z)) (cI (ab 1) p.z)))) false)):=by kernel_rfl
theorem RI (p:J3) (hp:p.lt):Spec 89 [oZ,f3 p] (.val (P3 (Zv p) (YM p) (Jg p))):=by
 obtain ⟨h1,h2,h3⟩:=hp
 have hz8:=L8 h3
 have hm2:=en 1
 have h1m:=a9 1
 unfold Zv YM Jg
 cases hz:decide (p.z=0) with
 |true=>
  have hz':gX p.z=true:=by rw[jo hz8];exact hz
  rw[cond_true,cond_true]
  exact (af (aF nO xC) rfl (ahg p) ⟨(by first|with_reducible assumption|with_reducible exact L8 (by with_reducible assumption)|exact decide_eq_true (by omega)|exact decide_eq_false (by omega)|omega),trivial⟩ rfl rfl).congr (fun _=>rfl) (fun φ=>by
   simp only[AV.conc,V1.conc,P3,HD])
 |false=>
  have hz':gX p.z=false:=by rw[jo hz8];exact hz
  rw[cond_false,cond_false]
  exact af (aF nO xC) rfl (aeQ p) (by refine ⟨?_,afV,(aj _),OW,(aC (by decide)),(a9 _),?_,?_,(cJ _ _),(aC (by decide)),(bk (ae _)),(bk (ae _)),(L8 (bk (ae _))),(L8 (bk (ae _))),(aC (by decide)),?_,(ai (ae _)),?_,(L8 (ai (ae _))),(aC (by decide)),(ai (ae _)),(L8 (ai (ae _))),(aC (by decide)),(ai (ae _)),(bk (ae _)),(L8 (ai (ae _))),(L8 (bk (ae _))),(aC (by decide)),?_,(ai (ae _)),?_,(L8 (ai (ae _))),(aC (by decide)),(ai (ae _)),(L8 (ai (ae _))),trivial⟩<;>first|with_reducible assumption|with_reducible exact L8 (by with_reducible assumption)|exact decide_eq_true (by omega)|exact decide_eq_false (by omega)|omega) rfl rfl
noncomputable def Fe:List Val→Option (List Prop×AV)
 |[.n m,.n q,.n w,.n x1,.n y1,.n z1]=>some ([m=ab 1,q=aA (ak (ab 1) 0),w=aO (ab 1),J3.lt ⟨x1,y1,z1⟩],.val (P3 (Zv ⟨x1,y1,z1⟩) (YM ⟨x1,y1,z1⟩) (Jg ⟨x1,y1,z1⟩)))
 |_=>none
theorem aie:aU ⟨89,dU [fd,aJ] Fe⟩:=jE (by
 intro xs ob r hb h ho
 unfold Fe at h
 split at h
 ·rename_i m q w x1 y1 z1
  obtain ⟨rfl,rfl⟩:=sI h
  obtain ⟨e0,e1,e2,h1,_⟩:=ho
  have hS:=RI ⟨x1,y1,z1⟩ h1
  unfold oZ BP rg at hS
  rw[←e2,←e1,←e0] at hS
  exact hS
 ·simp at h)
noncomputable def A4:List Val→Option (List Prop×AV)
 |[.n m,.n q,.n w,.n k,.n x1,.n y1,.n z1]=>some ([m=ab 1,q=aT 1,w=eL,J3.lt ⟨x1,y1,z1⟩],.val (f3 (gj k ⟨x1,y1,z1⟩)))
 |_=>none
theorem agw:aU ⟨67,dU [fd,aN,aJ] A4⟩:=jE (by
 intro xs ob r hb h ho
 unfold A4 at h
 split at h
 ·rename_i m q w k x1 y1 z1
  obtain ⟨rfl,rfl⟩:=sI h
  obtain ⟨e0,e1,e2,h1,_⟩:=ho
  obtain ⟨_,⟨hk,_⟩,_⟩:=hb
  subst e0 e1 e2
  have hS:=QA k ⟨x1,y1,z1⟩ hk h1
  exact hS
 ·simp at h)
noncomputable def BM:List Val→Option (List Prop×AV)
 |[.n m,.n q,.n w,.n k,.n x1,.n y1,.n z1]=>some ([m=ab 1,q=aA (ak (ab 1) 0),w=aO (ab 1),J3.lt ⟨x1,y1,z1⟩],.val (f3 (dt k ⟨x1,y1,z1⟩)))
 |_=>none
theorem ajw:aU ⟨90,dU [fd,aN,aJ] BM⟩:=jE (by
 intro xs ob r hb h ho
 unfold BM at h
 split at h
 ·rename_i m q w k x1 y1 z1
  obtain ⟨rfl,rfl⟩:=sI h
  obtain ⟨e0,e1,e2,h1,_⟩:=ho
  obtain ⟨_,⟨hk,_⟩,_⟩:=hb
  have hS:=Rs k ⟨x1,y1,z1⟩ hk h1
  unfold oZ BP rg at hS
  rw[←e2,←e1,←e0] at hS
  exact hS
 ·simp at h)
noncomputable def abU:List CT:=[⟨89,dU [fd,aJ] Fe⟩,⟨67,dU [fd,aN,aJ] A4⟩,⟨90,dU [fd,aN,aJ] BM⟩]++ZI
theorem Jl:bw abU:=⟨aie,agw,ajw,Jj⟩
def wB:Nat:=41058363725152142129326129780047268409114441015993725554835256314039467401291
abbrev C1 (a b:Int):Prop:=Cz (ab 1) a b
theorem ON:Go.NT.Pr (ab 1):=prK (by decide)
theorem mz:¬C1 1 0:=by
 intro h
 have:=Cz.nat (m:=ab 1) (x:=1) (y:=0) (a9 1) (ae 1) h
 exact absurd this (by decide)
theorem i7:¬C1 2 0:=by
 intro h
 have:=Cz.nat (m:=ab 1) (x:=2) (y:=0) (en 1) (ae 1) h
 exact absurd this (by decide)
theorem ck {a b:Int} (ha:¬C1 a 0) (hb:¬C1 b 0):¬C1 (a*b) 0:=fun h=>by
 rcases gZ ON h with h|h
 ·exact ha h
 ·exact hb h
structure Tri3 where
 a:Nat
 b:Nat
 c:Nat
def Tri3.ev (p:Tri3) (r:Int):Int:=(p.a:Int)+p.b*r+p.c*(r*r)
def Tri3.mul (m k:Nat) (p q:Tri3):Tri3:=
 ⟨(p.a*q.a+k*(p.b*q.c+p.c*q.b))%m,(p.a*q.b+p.b*q.a+3*(p.b*q.c+p.c*q.b)+k*(p.c*q.c))%m,(p.a*q.c+p.b*q.b+p.c*q.a+3*(p.c*q.c))%m⟩
theorem Tri3.ev_mul {m k B:Nat} (hk:Cz m k (-(B:Int))) {r:Int} (hr:Cz m (r*r*r) (3*r-B)) (p q:Tri3):Cz m ((Tri3.mul m k p q).ev r) (p.ev r*q.ev r):=by
 have h1:=gP (m:=m) (p.a*q.a+k*(p.b*q.c+p.c*q.b))
 have h2:=gP (m:=m) (p.a*q.b+p.b*q.a+3*(p.b*q.c+p.c*q.b)+k*(p.c*q.c))
 have h3:=gP (m:=m) (p.a*q.c+p.b*q.b+p.c*q.a+3*(p.c*q.c))
 unfold Tri3.ev Tri3.mul
 simp only
 generalize (p.a*q.a+k*(p.b*q.c+p.c*q.b))%m=A at*
 generalize (p.a*q.b+p.b*q.a+3*(p.b*q.c+p.c*q.b)+k*(p.c*q.c))%m=B1 at*
 generalize (p.a*q.c+p.b*q.b+p.c*q.a+3*(p.c*q.c))%m=C at*
 simp only[Int.natCast_add,Int.natCast_mul] at h1 h2 h3
 have e1:Cz m ((A:Int)+B1*r+C*(r*r)) (((p.a:Int)*q.a+k*(p.b*q.c+p.c*q.b))+(p.a*q.b+p.b*q.a+((3:Nat):Int)*(p.b*q.c+p.c*q.b)+k*(p.c*q.c))*r+(p.a*q.c+p.b*q.b+p.c*q.a+((3:Nat):Int)*(p.c*q.c))*(r*r)):=
  (h1.add (h2.mul (Cz.refl m r))).add (h3.mul (Cz.refl m (r*r)))
 refine e1.trans ?_
 exact hr.lc2 hk (-((p.b:Int)*q.c+p.c*q.b)-p.c*q.c*r) ((p.b:Int)*q.c+p.c*q.b+p.c*q.c*r) (by grind)
def Tri3.pow (m k:Nat) (t:Tri3):Nat→Nat→Tri3
 |0,_=>⟨1,0,0⟩
 |f+1,e=>let s:=Tri3.pow m k t f (e/2);bif decide (e%2=1) then Tri3.mul m k (Tri3.mul m k s s) t else Tri3.mul m k s s
theorem Tri3.ev_pow {m k B:Nat} (hk:Cz m k (-(B:Int))) {r:Int} (hr:Cz m (r*r*r) (3*r-B)) (t:Tri3):∀(f e:Nat),e<2^f→Cz m ((Tri3.pow m k t f e).ev r) (t.ev r^e)
 |0,e,h=>by
  have:e=0:=by simpa using h
  subst this
  exact Cz.of_eq (by simp[Tri3.pow,Tri3.ev])
 |f+1,e,h=>by
  have ih:=Tri3.ev_pow hk hr t f (e/2) (by rw[Nat.pow_succ] at h;omega)
  have h2:=(Tri3.ev_mul hk hr (Tri3.pow m k t f (e/2)) (Tri3.pow m k t f (e/2))).trans (ih.mul ih)
  unfold Tri3.pow
  simp only
  by_cases hb:e%2=1
  ·rw[decide_eq_true hb,cond_true]
   refine (Tri3.ev_mul hk hr _ t).trans ((h2.mul (Cz.refl m _)).trans (Cz.of_eq ?_))
   rw[←Int.pow_add,←Int.pow_succ]
   congr 1;omega
  ·rw[decide_eq_false hb,cond_false]
   refine h2.trans (Cz.of_eq ?_)
   rw[←Int.pow_add]
   congr 1;omega
def tP:Tri3:=⟨0,1,0⟩
def kW:Nat:=ab 1-wB
def gP3:Tri3:=Tri3.pow (ab 1) kW tP 256 (ab 1)
def uP3:Tri3:=⟨76626890310466861426869089647039036757962535851890885406097439786770458211455,74462945259064871768191128030512052509059297803194871526163573358218695456204,34768139465301476436978405170953382516735956999154666452188405812258086013549⟩
def hP3:Tri3:=⟨gP3.a,(gP3.b+(ab 1-1))%ab 1,gP3.c⟩
theorem bez:(let q:=Tri3.mul (ab 1) kW uP3 hP3;decide (q.a=1)&&(decide (q.b=0)&&decide (q.c=0)))=true:=by decide+kernel
theorem Rz {k r:Nat} (hk:k<4) (hr:r<ab k):Cz (ab k) ((r:Int)^ab k) r:=by
 rcases Nat.eq_zero_or_pos r with h0|h0
 ·subst h0
  refine Cz.of_eq ?_
  rw[show ((0:Nat):Int)=0 from rfl,Int.zero_pow (by have:=ae k;omega)]
 ·have h:=Go.NT.fermatK hk h0 (by rwa[fV] at hr)
  rw[←fV] at h
  have h1:=gP (m:=ab k) (r^(ab k-1))
  rw[h] at h1
  have h2:Cz (ab k) ((r:Int)^(ab k-1)) 1:=by
   have:=h1.symm
   rwa[Int.natCast_pow] at this
  have h3:=h2.mul (Cz.refl (ab k) (r:Int))
  rw[←Int.pow_succ,show (ab k-1).succ=ab k by have:=ae k;omega,Int.one_mul] at h3
  exact h3
theorem H2 {t:Int} (h:C1 (t*t*t-3*t+wB) 0):False:=by
 have hm:=ae 1
 have hc:=j5 hm t
 have hlt:qj (ab 1) t<ab 1:=by
  unfold qj
  have:=Int.emod_lt_of_pos t (show (0:Int)<(ab 1:Int) by omega)
  have:=Int.emod_nonneg t (show ((ab 1:Nat):Int)≠0 by omega)
  omega
 generalize qj (ab 1) t=r at*
 have hk:Cz (ab 1) (kW:Int) (-(wB:Int)):=by
  have e:(kW:Int)=(ab 1:Int)-wB:=by
   have:wB<ab 1:=by decide+kernel
   unfold kW;omega
  rw[e]
  exact ⟨1,by omega⟩
 have hr:C1 ((r:Int)*r*r) (3*r-wB):=by
  have h1:C1 ((r:Int)*r*r) (t*t*t):=(hc.mul hc).mul hc
  have h2:C1 (3*(r:Int)) (3*t):=(Cz.refl _ 3).mul hc
  exact h1.lc3 h2 h 1 (-1) 1 (by grind)
 have hp:=Tri3.ev_pow hk hr tP 256 (ab 1) (by decide+kernel)
 have et:tP.ev (r:Int)=r:=by unfold Tri3.ev tP;simp only;grind
 rw[et] at hp
 have hg:C1 (gP3.ev (r:Int)) r:=hp.trans (Rz (by decide) hlt)
 have hh:C1 (hP3.ev (r:Int)) 0:=by
  have h1:=gP (m:=ab 1) (gP3.b+(ab 1-1))
  rw[Int.natCast_add,show ((ab 1-1:Nat):Int)=(ab 1:Int)-1 by omega] at h1
  have h2:C1 ((hP3.b:Int)) ((gP3.b:Int)-1):=h1.trans ⟨1,by omega⟩
  have h3:C1 ((hP3.b:Int)*r) (((gP3.b:Int)-1)*r):=h2.mul (Cz.refl _ _)
  have e1:hP3.ev (r:Int)=(gP3.a:Int)+hP3.b*r+gP3.c*((r:Int)*r):=rfl
  have e2:gP3.ev (r:Int)=(gP3.a:Int)+gP3.b*r+gP3.c*((r:Int)*r):=rfl
  rw[e1]
  rw[e2] at hg
  generalize (gP3.a:Int)=ga at*
  generalize (gP3.b:Int)=gb at*
  generalize (gP3.c:Int)=gc at*
  generalize (hP3.b:Int)=hb at*
  exact h3.lc2 hg 1 1 (by grind)
 have hb:=Tri3.ev_mul hk hr uP3 hP3
 have hz:=bez
 simp only[Bool.and_eq_true,decide_eq_true_iff] at hz
 obtain ⟨z1,z2,z3⟩:=hz
 have ev1:(Tri3.mul (ab 1) kW uP3 hP3).ev (r:Int)=1:=by
  unfold Tri3.ev
  rw[z1,z2,z3]
  grind
 rw[ev1] at hb
 exact mz (hb.trans (((Cz.refl _ (uP3.ev (r:Int))).mul hh).trans (Cz.of_eq (by grind))))
end Go.Ev
namespace Go.NT
def dc:Nat→Type
 |0=>Int
 |n+1=>List (dc n)
def pn {α:Type} (f:α→Int) (t:Int):List α→Int
 |[]=>0
 |a::l=>f a+t*pn f t l
def um:(n:Nat)→dc n→(Nat→Int)→Int
 |0,c,_=>c
 |n+1,l,x=>pn (fun a=>um n a x) (x n) l
def m7 {α:Type} (f:α→α→α):List α→List α→List α
 |[],m=>m
 |a::l,[]=>a::l
 |a::l,b::m=>f a b::m7 f l m
def nY {α:Type} (f:α→α):List α→List α
 |[]=>[]
 |a::l=>f a::nY f l
def oQ {α:Type} (add:α→α→α) (zero:α) (mul:α→α→α):List α→List α→List α
 |[],_=>[]
 |a::l,m=>m7 add (nY (mul a) m) (zero::oQ add zero mul l m)
def oT:(n:Nat)→dc n
 |0=>(0:Int)
 |_+1=>[]
def xU:(n:Nat)→dc n→dc n→dc n
 |0,a,b=>(show Int from a)+(show Int from b)
 |n+1,l,m=>m7 (xU n) l m
def EX:(n:Nat)→dc n→dc n
 |0,a=> -(show Int from a)
 |n+1,l=>nY (EX n) l
def Gn:(n:Nat)→dc n→dc n→dc n
 |0,a,b=>(show Int from a)*(show Int from b)
 |n+1,l,m=>oQ (xU n) (oT n) (Gn n) l m
def cP:(n:Nat)→Int→dc n
 |0,z=>z
 |n+1,z=>[cP n z]
def vP:(n:Nat)→Nat→dc n
 |0,_=>(0:Int)
 |n+1,i=>if i=n then [oT n,cP n 1] else [vP n i]
theorem A5 {α:Type} {f:α→Int} {g:α→α→α} (h:∀a b,f (g a b)=f a+f b) (t:Int):∀l m:List α,pn f t (m7 g l m)=pn f t l+pn f t m
 |[],m=>by simp[m7,pn]
 |a::l,[]=>by simp[m7,pn]
 |a::l,b::m=>by
  simp only[m7,pn,h,A5 h t l m,Int.mul_add]
  omega
theorem AP {α:Type} {f:α→Int} {g:α→α} {c:Int} (h:∀a,f (g a)=c*f a) (t:Int):∀l:List α,pn f t (nY g l)=c*pn f t l
 |[]=>by simp[nY,pn]
 |a::l=>by
  simp only[nY,pn,h,AP h t l,Int.mul_add]
  rw[←Int.mul_assoc,Int.mul_comm t c,Int.mul_assoc]
theorem EY:∀(n:Nat) (x:Nat→Int),um n (oT n) x=0
 |0,_=>rfl
 |_+1,_=>rfl
theorem BK:∀(n:Nat) (x:Nat→Int) (p q:dc n),um n (xU n p q) x=um n p x+um n q x
 |0,_,_,_=>rfl
 |n+1,x,p,q=>A5 (fun a b=>BK n x a b) (x n) p q
theorem I8:∀(n:Nat) (x:Nat→Int) (p:dc n),um n (EX n p) x= -um n p x
 |0,_,_=>rfl
 |n+1,x,p=>by
  have:=AP (f:=fun a=>um n a x) (g:=EX n) (c:= -1) (fun a=>by rw[I8 n x a];omega) (x n) p
  show pn _ _ (nY _ p)= -pn _ _ p
  rw[this];omega
theorem IL {α:Type} {f:α→Int} {add mul:α→α→α} {zero:α} (ha:∀a b,f (add a b)=f a+f b) (h0:f zero=0) (hm:∀a b,f (mul a b)=f a*f b) (t:Int):
  ∀l m:List α,pn f t (oQ add zero mul l m)=pn f t l*pn f t m
 |[],m=>by simp[oQ,pn]
 |a::l,m=>by
  simp only[oQ,A5 ha,AP (fun b=>hm a b),pn,h0,IL ha h0 hm t l m,Int.add_mul,Int.zero_add,Int.mul_assoc]
theorem II:∀(n:Nat) (x:Nat→Int) (p q:dc n),um n (Gn n p q) x=um n p x*um n q x
 |0,_,_,_=>rfl
 |n+1,x,p,q=>IL (fun a b=>BK n x a b) (EY n x) (fun a b=>II n x a b) (x n) p q
theorem LB:∀(n:Nat) (x:Nat→Int) (z:Int),um n (cP n z) x=z
 |0,_,_=>rfl
 |n+1,x,z=>by
  show um n (cP n z) x+x n*0=z
  rw[LB n x z];omega
theorem CV:∀(n:Nat) (x:Nat→Int) (i:Nat),i<n→um n (vP n i) x=x i
 |0,_,_,h=>absurd h (by omega)
 |n+1,x,i,h=>by
  show pn _ _ (if i=n then _ else _)=_
  split
  ·rename_i hi
   subst hi
   simp only[pn,EY,LB];omega
  ·rename_i hi
   simp only[pn,CV n x i (by omega)];omega
def iI {α:Type} (f:α→Nat):List α→Nat
 |[]=>0
 |a::l=>f a+iI f l
def yZ:(n:Nat)→dc n→Nat
 |0,c=>(show Int from c).natAbs
 |n+1,l=>iI (yZ n) l
def rx:(n:Nat)→dc n→(Nat→Nat)→Prop
 |0,_,_=>True
 |n+1,l,d=>(show List (dc n) from l).length≤d n∧∀a∈(show List (dc n) from l),rx n a d
theorem vn {α:Type} {f:α→Nat} {g:α→α→α} (h:∀a b,f (g a b)≤f a+f b):∀l m:List α,iI f (m7 g l m)≤iI f l+iI f m
 |[],m=>by simp[m7,iI]
 |a::l,[]=>by simp[m7,iI]
 |a::l,b::m=>by
  have:=h a b
  have:=vn h l m
  simp only[m7,iI];omega
theorem vq {α:Type} {f:α→Nat} {g:α→α} {c:Nat} (h:∀a,f (g a)≤c*f a):∀l:List α,iI f (nY g l)≤c*iI f l
 |[]=>by simp[nY,iI]
 |a::l=>by
  have:=h a
  have:=vq h l
  simp only[nY,iI,Nat.mul_add];omega
theorem Eb:∀n,yZ n (oT n)=0
 |0=>rfl
 |_+1=>rfl
theorem A8:∀(n:Nat) (p q:dc n),yZ n (xU n p q)≤yZ n p+yZ n q
 |0,a,b=>Int.natAbs_add_le a b
 |n+1,p,q=>vn (A8 n) p q
theorem Ig:∀(n:Nat) (p:dc n),yZ n (EX n p)≤yZ n p
 |0,a=>Nat.le_of_eq (Int.natAbs_neg a)
 |n+1,p=>by
  have:=vq (f:=yZ n) (g:=EX n) (c:=1) (fun a=>by rw[Nat.one_mul];exact Ig n a) p
  rw[Nat.one_mul] at this
  exact this
theorem CD {α:Type} {f:α→Nat} {add mul:α→α→α} {zero:α} (ha:∀a b,f (add a b)≤f a+f b) (h0:f zero=0) (hm:∀a b,f (mul a b)≤f a*f b):
  ∀l m:List α,iI f (oQ add zero mul l m)≤iI f l*iI f m
 |[],m=>by simp[oQ,iI]
 |a::l,m=>by
  have h1:=vn ha (nY (mul a) m) (zero::oQ add zero mul l m)
  have h2:=vq (fun b=>hm a b) m
  have h3:=CD ha h0 hm l m
  simp only[oQ,iI,h0,Nat.add_mul] at*
  omega
theorem Ie:∀(n:Nat) (p q:dc n),yZ n (Gn n p q)≤yZ n p*yZ n q
 |0,a,b=>Nat.le_of_eq (Int.natAbs_mul a b)
 |n+1,p,q=>CD (A8 n) (Eb n) (Ie n) p q
theorem OP:∀(n:Nat) (z:Int),yZ n (cP n z)=z.natAbs
 |0,_=>rfl
 |n+1,z=>by show yZ n (cP n z)+0=_;rw[OP n z,Nat.add_zero]
theorem EV:∀(n:Nat) (i:Nat),yZ n (vP n i)≤1
 |0,_=>Nat.zero_le _
 |n+1,i=>by
  show iI _ (if i=n then _ else _)≤1
  split
  ·simp[iI,Eb,OP]
  ·have:=EV n i
   simp only[iI];omega
theorem v4 {α:Type} (g:α→α→α):∀l m:List α,(m7 g l m).length≤max l.length m.length
 |[],m=>by simp[m7]
 |a::l,[]=>by simp[m7]
 |a::l,b::m=>by
  have:=v4 g l m
  simp only[m7,List.length_cons];omega
theorem uQ {α:Type} (g:α→α):∀l:List α,(nY g l).length=l.length
 |[]=>rfl
 |a::l=>by simp[nY,uQ g l]
theorem vD {α:Type} {P Q R:α→Prop} {g:α→α→α} (hP:∀a,P a→R a) (hQ:∀a,Q a→R a) (h:∀a b,P a→Q b→R (g a b)):∀l m:List α,(∀a∈l,P a)→(∀a∈m,Q a)→∀a∈m7 g l m,R a
 |[],m,_,h2,a,ha=>hQ a (h2 a ha)
 |a::l,[],h1,_,b,hb=>hP b (h1 b hb)
 |a::l,b::m,h1,h2,c,hc=>by
  simp only[m7,List.mem_cons] at hc
  rcases hc with rfl|hc
  ·exact h a b (h1 a (by simp)) (h2 b (by simp))
  ·exact vD hP hQ h l m (fun a ha=>h1 a (by simp[ha])) (fun a ha=>h2 a (by simp[ha])) c hc
theorem vu {α:Type} {P Q:α→Prop} {g:α→α} (h:∀a,P a→Q (g a)):∀l:List α,(∀a∈l,P a)→∀a∈nY g l,Q a
 |[],_,a,ha=>by simp[nY] at ha
 |a::l,h1,b,hb=>by
  simp only[nY,List.mem_cons] at hb
  rcases hb with rfl|hb
  ·exact h a (h1 a (by simp))
  ·exact vu h l (fun a ha=>h1 a (by simp[ha])) b hb
theorem ft:∀(n:Nat) (p:dc n) {d e:Nat→Nat},(∀i,d i≤e i)→rx n p d→rx n p e
 |0,_,_,_,_,_=>trivial
 |n+1,_,_,_,h,hp=>⟨Nat.le_trans hp.1 (h n),fun a ha=>ft n a h (hp.2 a ha)⟩
theorem C3:∀n d,rx n (oT n) d
 |0,_=>trivial
 |n+1,d=>⟨Nat.zero_le _,fun a ha=>by simp[oT] at ha⟩
theorem AZ:∀(n:Nat) (p q:dc n) {d e:Nat→Nat},rx n p d→rx n q e→rx n (xU n p q) (fun i=>max (d i) (e i))
 |0,_,_,_,_,_,_=>trivial
 |n+1,p,q,d,e,hp,hq=>by
  refine ⟨?_,?_⟩
  ·have:=v4 (xU n) p q
   have h1:=hp.1
   have h2:=hq.1
   show (m7 (xU n) p q).length≤_
   simp only at*
   omega
  ·exact vD (P:=fun a=>rx n a d) (Q:=fun a=>rx n a e) (fun a ha=>ft n a (fun i=>Nat.le_max_left _ _) ha) (fun a ha=>ft n a (fun i=>Nat.le_max_right _ _) ha)
    (fun a b ha hb=>AZ n a b ha hb) p q hp.2 hq.2
theorem In:∀(n:Nat) (p:dc n) {d:Nat→Nat},rx n p d→rx n (EX n p) d
 |0,_,_,_=>trivial
 |n+1,p,d,hp=>by
  refine ⟨?_,?_⟩
  ·exact Nat.le_trans (Nat.le_of_eq (uQ (EX n) p)) hp.1
  ·exact vu (P:=fun a=>rx n a d) (fun a ha=>In n a ha) p hp.2
theorem Pn:∀(n:Nat) (z:Int),rx n (cP n z) (fun _=>1)
 |0,_=>trivial
 |n+1,z=>⟨Nat.le_refl 1,fun a ha=>by
  simp only[cP,List.mem_singleton] at ha
  subst ha;exact Pn n z⟩
theorem Du:∀(n:Nat) (i:Nat),rx n (vP n i) (fun j=>if j=i then 2 else 1)
 |0,_=>trivial
 |n+1,i=>by
  by_cases h:i=n
  ·have e:vP (n+1) i=[oT n,cP n 1]:=if_pos h
   rw[e]
   refine ⟨by show 2≤(if n=i then 2 else 1);rw[if_pos h.symm];exact Nat.le_refl 2,fun a ha=> ?_⟩
   replace ha:a=oT n∨a=cP n 1:=by simpa using ha
   rcases ha with rfl|rfl
   ·exact C3 _ _
   ·exact ft _ _ (fun j=>by split<;>omega) (Pn n 1)
  ·have e:vP (n+1) i=[vP n i]:=if_neg h
   rw[e]
   refine ⟨by show 1≤(if n=i then 2 else 1);split<;>omega,fun a ha=> ?_⟩
   replace ha:a=vP n i:=by simpa using ha
   subst ha;exact Du n i
def B5 (W:Nat→Nat) (d:Nat→Nat):Nat→Nat
 |0=>1
 |n+1=>B5 W d n*W n^d n
theorem Ot {α:Type} {f:α→Int} {g:α→Nat} {W B:Nat} (hW:1≤W):∀(l:List α) (k:Nat),l.length≤k→(∀a∈l,(f a).natAbs≤g a*B)→(pn f W l).natAbs≤iI g l*(B*W^k)
 |[],k,_,_=>by simp[pn]
 |a::l,0,h,_=>by simp at h
 |a::l,k+1,h,hf=>by
  have ih:=Ot hW l k (by simpa using h) (fun b hb=>hf b (by simp[hb]))
  have h0:=hf a (by simp)
  have h1:=Int.natAbs_add_le (f a) ((W:Int)*pn f W l)
  rw[Int.natAbs_mul,Int.natAbs_natCast] at h1
  have h2:W*(pn f W l).natAbs≤W*(iI g l*(B*W^k)):=Nat.mul_le_mul_left _ ih
  have h3:g a*B≤g a*(B*W^(k+1)):=Nat.mul_le_mul_left _ (Nat.le_mul_of_pos_right _ (Nat.pow_pos hW))
  have h4:W*(iI g l*(B*W^k))=iI g l*(B*W^(k+1)):=by
   rw[Nat.pow_succ,←Nat.mul_assoc B,Nat.mul_comm W,Nat.mul_assoc]
  simp only[pn,iI,Nat.add_mul]
  omega
theorem Md {W:Nat→Nat} (hW:∀i,1≤W i):∀(n:Nat) (p:dc n) {d:Nat→Nat},rx n p d→(um n p (fun i=>(W i:Int))).natAbs≤yZ n p*B5 W d n
 |0,p,d,_=>by simp[um,yZ,B5]
 |n+1,p,d,h=>Ot (hW n) p (d n) h.1 (fun a ha=>Md hW n a (h.2 a ha))
theorem yf {W:Nat→Nat} (hW:∀i,1≤W i):∀(n:Nat) (p:dc n) {d:Nat→Nat} {N:Nat},rx n p d→yZ n p≤N→(∀i,i<n→N*B5 W d i<W i)→um n p (fun i=>(W i:Int))=0→∀x,um n p x=0
 |0,p,_,_,_,_,_,h,x=>h
 |n+1,p,d,N,hd,hN,hb,h,x=>by
  have key:∀l:List (dc n),(∀a∈l,rx n a d)→iI (yZ n) l≤N→pn (fun a=>um n a (fun i=>(W i:Int))) (W n:Int) l=0→pn (fun a=>um n a x) (x n) l=0:=by
   intro l
   induction l with
   |nil=>intro _ _ _;rfl
   |cons a l ih=>
    intro h1 h2 h3
    simp only[iI] at h2
    simp only[pn] at h3 ⊢
    have hle:=Md hW n a (h1 a (by simp))
    have hlt:(um n a (fun i=>(W i:Int))).natAbs<W n:=by
     refine Nat.lt_of_le_of_lt (Nat.le_trans hle (Nat.mul_le_mul_right _ ?_)) (hb n (by omega))
     omega
    generalize hc:um n a (fun i=>(W i:Int))=c at*
    generalize he:pn (fun a=>um n a (fun i=>(W i:Int))) (W n:Int) l=r at*
    have hc0:c=0:=by
     have hdv:(W n:Int)∣c:=⟨-r,by rw[Int.mul_neg];omega⟩
     have:=Int.natAbs_dvd_natAbs.2 hdv
     rw[Int.natAbs_natCast] at this
     rcases Nat.eq_zero_or_pos c.natAbs with h0|h0
     ·exact Int.natAbs_eq_zero.1 h0
     ·exact absurd (Nat.le_of_dvd h0 this) (by omega)
    subst hc0
    have hr0:r=0:=by
     have hWn:=hW n
     rcases Int.mul_eq_zero.1 (show (W n:Int)*r=0 by omega) with h0|h0
     ·omega
     ·exact h0
    rw[ih (fun b hb=>h1 b (by simp[hb])) (by omega) (by first|exact hr0|exact he.trans hr0),yf hW n a (h1 a (by simp)) (show yZ n a≤N by omega) (fun i hi=>hb i (by omega)) hc x]
    omega
  exact key p hd.2 hN h
end Go.NT
namespace Go.NT
structure Ops (α : Type) where
  add : α → α → α
  sub : α → α → α
  mul : α → α → α
  c : Int → α
structure OpsRel {α β : Type} (R : α → β → Prop) (o : Ops α) (o' : Ops β) : Prop where
  add : ∀ a b a' b', R a a' → R b b' → R (o.add a b) (o'.add a' b')
  sub : ∀ a b a' b', R a a' → R b b' → R (o.sub a b) (o'.sub a' b')
  mul : ∀ a b a' b', R a a' → R b b' → R (o.mul a b) (o'.mul a' b')
  c : ∀ z, R (o.c z) (o'.c z)
def dd : Ops Int := ⟨fun a b => a + b, fun a b => a - b, fun a b => a * b, fun z => z⟩
def JL {α : Type} (o : Ops α) (f : α) : Ops (α × α) :=
  ⟨fun a b => (o.add a.1 b.1, o.add a.2 b.2), fun a b => (o.sub a.1 b.1, o.sub a.2 b.2),
   fun a b => (o.add (o.mul a.1 b.1) (o.mul f (o.mul a.2 b.2)), o.add (o.mul a.1 b.2) (o.mul a.2 b.1)), fun z => (o.c z, o.c 0)⟩
def gF {α β : Type} (R : α → β → Prop) (a : α × α) (b : β × β) : Prop := R a.1 b.1 ∧ R a.2 b.2
theorem By {α β : Type} {R : α → β → Prop} {o : Ops α} {o' : Ops β} (h : OpsRel R o o') {f : α} {f' : β} (hf : R f f') : OpsRel (gF R) (JL o f) (JL o' f') :=
  ⟨fun _ _ _ _ h1 h2 => ⟨h.add _ _ _ _ h1.1 h2.1, h.add _ _ _ _ h1.2 h2.2⟩, fun _ _ _ _ h1 h2 => ⟨h.sub _ _ _ _ h1.1 h2.1, h.sub _ _ _ _ h1.2 h2.2⟩,
   fun _ _ _ _ h1 h2 => ⟨h.add _ _ _ _ (h.mul _ _ _ _ h1.1 h2.1) (h.mul _ _ _ _ hf (h.mul _ _ _ _ h1.2 h2.2)), h.add _ _ _ _ (h.mul _ _ _ _ h1.1 h2.2) (h.mul _ _ _ _ h1.2 h2.1)⟩,
   fun z => ⟨h.c z, h.c 0⟩⟩
def jk (m : Nat) (a b : Int) : Prop := (m : Int) ∣ a - b
def mI {α : Type} (m : Nat) (R : α → Int → Prop) (y : Int) (a : α × α) (z : Int) : Prop := ∃ u v, R a.1 u ∧ R a.2 v ∧ jk m z (u + y * v)
theorem AN {α : Type} {m : Nat} {R : α → Int → Prop} {o : Ops α} (h : OpsRel R o dd) {f : α} {F y : Int} (hf : R f F) (hy : jk m (y * y) F) : OpsRel (mI m R y) (JL o f) dd := by
  refine ⟨?_, ?_, ?_, ?_⟩
  · rintro a b a' b' ⟨u, v, h1, h2, h3⟩ ⟨u', v', g1, g2, g3⟩
    refine ⟨_, _, h.add _ _ _ _ h1 g1, h.add _ _ _ _ h2 g2, ?_⟩
    obtain ⟨k, hk⟩ := h3
    obtain ⟨l, hl⟩ := g3
    exact ⟨k + l, by simp only [dd]; grind⟩
  · rintro a b a' b' ⟨u, v, h1, h2, h3⟩ ⟨u', v', g1, g2, g3⟩
    refine ⟨_, _, h.sub _ _ _ _ h1 g1, h.sub _ _ _ _ h2 g2, ?_⟩
    obtain ⟨k, hk⟩ := h3
    obtain ⟨l, hl⟩ := g3
    exact ⟨k - l, by simp only [dd]; grind⟩
  · rintro a b a' b' ⟨u, v, h1, h2, h3⟩ ⟨u', v', g1, g2, g3⟩
    refine ⟨_, _, h.add _ _ _ _ (h.mul _ _ _ _ h1 g1) (h.mul _ _ _ _ hf (h.mul _ _ _ _ h2 g2)), h.add _ _ _ _ (h.mul _ _ _ _ h1 g2) (h.mul _ _ _ _ h2 g1), ?_⟩
    obtain ⟨k, hk⟩ := h3
    obtain ⟨l, hl⟩ := g3
    obtain ⟨r, hr⟩ := hy
    refine ⟨k * b' + l * (u + y * v) + r * v * v', ?_⟩
    simp only [dd]
    have e1 : a' = m * k + (u + y * v) := by omega
    have e2 : b' = m * l + (u' + y * v') := by omega
    have e3 : y * y = m * r + F := by omega
    subst e1
    generalize (m : Int) = M at *
    subst e2
    grind
  · intro z
    exact ⟨_, _, h.c z, h.c 0, ⟨0, by simp only [dd]; grind⟩⟩
def Jp (p q : Option (dc 4)) : Option (dc 4) := match p, q with
  | none, q => q
  | some p, none => some p
  | some p, some q => some (xU 4 p q)
def Oi (p : Option (dc 4)) : Option (dc 4) := match p with
  | none => none
  | some p => some (EX 4 p)
def Y0 (p q : Option (dc 4)) : Option (dc 4) := match p, q with
  | some p, some q => some (Gn 4 p q)
  | _, _ => none
def cO (z : Int) : Option (dc 4) := if z = 0 then none else some (cP 4 z)
def NU : Ops (Option (dc 4)) := ⟨Jp, fun p q => Jp p (Oi q), Y0, cO⟩
def xO (x : Nat → Int) (p : Option (dc 4)) : Int := match p with
  | none => 0
  | some p => um 4 p x
def BV (x : Nat → Int) (p : Option (dc 4)) (z : Int) : Prop := xO x p = z
theorem HZ (x : Nat → Int) (p q : Option (dc 4)) : xO x (Jp p q) = xO x p + xO x q := by
  cases p <;> cases q <;> simp [Jp, xO, BK]
theorem VM (x : Nat → Int) (p : Option (dc 4)) : xO x (Oi p) = - xO x p := by
  cases p <;> simp [Oi, xO, I8]
theorem HS (x : Nat → Int) : OpsRel (BV x) NU dd := by
  refine ⟨?_, ?_, ?_, ?_⟩
  · rintro a b _ _ rfl rfl; exact HZ x a b
  · rintro a b _ _ rfl rfl
    show xO x (Jp a (Oi b)) = xO x a - xO x b
    rw [HZ, VM]; omega
  · rintro a b _ _ rfl rfl
    show xO x (Y0 a b) = xO x a * xO x b
    cases a <;> cases b <;> simp [Y0, xO, II]
  · intro z
    show xO x (cO z) = z
    unfold cO
    split
    · rename_i h; subst h; rfl
    · exact LB 4 x z
structure Bd where
  n : Nat
  d0 : Nat
  d1 : Nat
  d2 : Nat
  d3 : Nat
def Bd.d (b : Bd) (i : Nat) : Nat := match i with | 0 => b.d0 | 1 => b.d1 | 2 => b.d2 | _ => b.d3
def ado (p q : Option Bd) : Option Bd := match p, q with
  | none, q => q
  | some p, none => some p
  | some p, some q => some ⟨p.n + q.n, max p.d0 q.d0, max p.d1 q.d1, max p.d2 q.d2, max p.d3 q.d3⟩
def alN (p q : Option Bd) : Option Bd := match p, q with
  | some p, some q => some ⟨p.n * q.n, p.d0 + q.d0, p.d1 + q.d1, p.d2 + q.d2, p.d3 + q.d3⟩
  | _, _ => none
def cB (z : Int) : Option Bd := if z = 0 then none else some ⟨z.natAbs, 0, 0, 0, 0⟩
def VH : Ops (Option Bd) := ⟨ado, ado, alN, cB⟩
def Jv (p : Option (dc 4)) (b : Option Bd) : Prop := match p, b with
  | none, _ => True
  | some p, some b => yZ 4 p ≤ b.n ∧ rx 4 p (fun i => b.d i + 1)
  | some _, none => False
theorem ym {α : Type} (add mul : α → α → α) (zero : α) : ∀ (l m : List α) {d e : Nat}, l.length ≤ d + 1 → m.length ≤ e + 1 → (oQ add zero mul l m).length ≤ d + e + 1
  | [], m, d, e, _, _ => by simp [oQ]
  | a :: l, m, d, e, h1, h2 => by
    have h3 := v4 add (nY (mul a) m) (zero :: oQ add zero mul l m)
    rw [uQ] at h3
    cases d with
    | zero =>
      have hl : l = [] := by
        cases l with
        | nil => rfl
        | cons b l => simp at h1
      subst hl
      simp only [oQ, List.length_cons, List.length_nil] at *
      omega
    | succ d =>
      have h4 := ym add mul zero l m (d := d) (e := e) (by simpa using h1) h2
      simp only [oQ, List.length_cons] at *
      omega
theorem Dk : ∀ (n : Nat) (p q : dc n) {d e : Nat → Nat}, rx n p (fun i => d i + 1) → rx n q (fun i => e i + 1) → rx n (Gn n p q) (fun i => d i + e i + 1)
  | 0, _, _, _, _, _, _ => trivial
  | n + 1, p, q, d, e, hp, hq => by
    refine ⟨ym (xU n) (Gn n) (oT n) p q hp.1 hq.1, ?_⟩
    have key : ∀ l : List (dc n), (∀ a ∈ l, rx n a (fun i => d i + 1)) → ∀ a ∈ oQ (xU n) (oT n) (Gn n) l q, rx n a (fun i => d i + e i + 1) := by
      intro l
      induction l with
      | nil => intro _ a ha; simp [oQ] at ha
      | cons b l ih =>
        intro h1
        refine vD (P := fun a => rx n a (fun i => d i + e i + 1)) (Q := fun a => rx n a (fun i => d i + e i + 1)) (fun _ h => h) (fun _ h => h) ?_ _ _ ?_ ?_
        · intro a b ha hb
          exact ft n _ (fun i => Nat.le_of_eq (Nat.max_self _)) (AZ n a b ha hb)
        · exact vu (P := fun a => rx n a (fun i => e i + 1)) (fun a ha => Dk n b a (h1 b (by simp)) ha) q hq.2
        · intro a ha
          simp only [List.mem_cons] at ha
          rcases ha with rfl | ha
          · exact C3 n _
          · exact ih (fun a ha => h1 a (by simp [ha])) a ha
    exact key p hp.2
theorem Ml {p q : Option (dc 4)} {b c : Option Bd} (h1 : Jv p b) (h2 : Jv q c) : Jv (Jp p q) (ado b c) := by
  cases p with
  | none =>
    cases q with
    | none => trivial
    | some q =>
      cases c with
      | none => exact h2.elim
      | some c =>
        cases b with
        | none => exact h2
        | some b => exact ⟨Nat.le_trans h2.1 (Nat.le_add_left _ _), ft 4 q (fun i => by
            unfold Bd.d; split <;> simp only <;> omega) h2.2⟩
  | some p =>
    cases b with
    | none => exact h1.elim
    | some b =>
      cases q with
      | none =>
        cases c with
        | none => exact h1
        | some c => exact ⟨Nat.le_trans h1.1 (Nat.le_add_right _ _), ft 4 p (fun i => by
            unfold Bd.d; split <;> simp only <;> omega) h1.2⟩
      | some q =>
        cases c with
        | none => exact h2.elim
        | some c =>
          refine ⟨Nat.le_trans (A8 4 p q) (Nat.add_le_add h1.1 h2.1), ft 4 _ (fun i => ?_) (AZ 4 p q h1.2 h2.2)⟩
          unfold Bd.d; split <;> simp only <;> omega
theorem YK {p : Option (dc 4)} {b : Option Bd} (h : Jv p b) : Jv (Oi p) b := by
  cases p with
  | none => trivial
  | some p =>
    cases b with
    | none => exact h.elim
    | some b => exact ⟨Nat.le_trans (Ig 4 p) h.1, In 4 p h.2⟩
theorem WJ : OpsRel Jv NU VH := by
  refine ⟨fun _ _ _ _ h1 h2 => Ml h1 h2, fun _ _ _ _ h1 h2 => Ml h1 (YK h2), ?_, ?_⟩
  · intro p q b c h1 h2
    cases p with
    | none => trivial
    | some p =>
      cases q with
      | none => trivial
      | some q =>
        cases b with
        | none => exact h1.elim
        | some b =>
          cases c with
          | none => exact h2.elim
          | some c =>
            refine ⟨Nat.le_trans (Ie 4 p q) (Nat.mul_le_mul h1.1 h2.1), ft 4 _ (fun i => ?_) (Dk 4 p q (d := b.d) (e := c.d) h1.2 h2.2)⟩
            unfold Bd.d; split <;> simp only <;> omega
  · intro z
    show Jv (cO z) (cB z)
    unfold cO cB
    split
    · trivial
    · refine ⟨Nat.le_of_eq (OP 4 z), ft 4 _ (fun i => ?_) (Pn 4 z)⟩
      unfold Bd.d; split <;> simp
end Go.NT
namespace Go.NT
inductive SOp where
 |add (i j:Nat)
 |sub (i j:Nat)
 |mul (i j:Nat)
 |c (z:Int)
def m4 {α:Type} (o:Ops α):List α→Nat→α
 |[],_=>o.c 0
 |a::_,0=>a
 |_::l,i+1=>m4 o l i
def MY {α:Type} (o:Ops α) (l:List α):SOp→α
 | .add i j=>o.add (m4 o l i) (m4 o l j)
 | .sub i j=>o.sub (m4 o l i) (m4 o l j)
 | .mul i j=>o.mul (m4 o l i) (m4 o l j)
 | .c z=>o.c z
def tL {α:Type} (o:Ops α):List SOp→List α→List α
 |[],l=>l
 |p::ps,l=>tL o ps (MY o l p::l)
def EI {α β:Type} (R:α→β→Prop):List α→List β→Prop
 |[],[]=>True
 |a::l,b::m=>R a b∧EI R l m
 |_,_=>False
section
variable {α β:Type} {R:α→β→Prop} {o:Ops α} {o':Ops β} (h:OpsRel R o o')
include h
theorem kX:∀(l:List α) (m:List β) (i:Nat),EI R l m→R (m4 o l i) (m4 o' m i)
 |[],[],_,_=>h.c 0
 |[],_::_,_,hr=>hr.elim
 |_::_,[],_,hr=>hr.elim
 |_::_,_::_,0,hr=>hr.1
 |_::l,_::m,i+1,hr=>kX l m i hr.2
theorem MO {l:List α} {m:List β} (hr:EI R l m) (p:SOp):R (MY o l p) (MY o' m p):=by
 cases p with
 |add i j=>exact h.add _ _ _ _ (kX h l m i hr) (kX h l m j hr)
 |sub i j=>exact h.sub _ _ _ _ (kX h l m i hr) (kX h l m j hr)
 |mul i j=>exact h.mul _ _ _ _ (kX h l m i hr) (kX h l m j hr)
 |c z=>exact h.c z
theorem I9:∀(ps:List SOp) {l:List α} {m:List β},EI R l m→EI R (tL o ps l) (tL o' ps m)
 |[],_,_,hr=>hr
 |p::ps,_,_,hr=>I9 ps ⟨MO h hr p,hr⟩
theorem rn (ps:List SOp) {l:List α} {m:List β} (hr:EI R l m) (i:Nat):R (m4 o (tL o ps l) i) (m4 o' (tL o' ps m) i):=kX h _ _ i (I9 h ps hr)
end
def cub {α:Type} (o:Ops α) (x b:α):α:=o.add (o.sub (o.mul (o.mul x x) x) (o.mul (o.c 3) x)) b
def xQ {α:Type} (o:Ops α) (a:α):α×α:=(a,o.c 0)
def gen {α:Type} (o:Ops α):α×α:=(o.c 0,o.c 1)
abbrev T2 (α:Type):=(α×α)×(α×α)
abbrev T3 (α:Type):=T2 α×T2 α
structure V4 (α:Type) where
 x1:α
 x2:α
 x3:α
 b:α
def o1 {α:Type} (o:Ops α) (v:V4 α):Ops (α×α):=JL o (cub o v.x1 v.b)
def o2 {α:Type} (o:Ops α) (v:V4 α):Ops (T2 α):=JL (o1 o v) (cub (o1 o v) (xQ o v.x2) (xQ o v.b))
def o3 {α:Type} (o:Ops α) (v:V4 α):Ops (T3 α):=JL (o2 o v) (cub (o2 o v) (xQ (o1 o v) (xQ o v.x3)) (xQ (o1 o v) (xQ o v.b)))
def Wn {α:Type} (o:Ops α) (v:V4 α):List (T3 α):=
 let L:α→T3 α:=fun a=>xQ (o2 o v) (xQ (o1 o v) (xQ o a))
 [L v.x1,xQ (o2 o v) (xQ (o1 o v) (gen o)),L v.x2,xQ (o2 o v) (gen (o1 o v)),L v.x3,gen (o2 o v),L v.b]
section
variable {α β:Type} {R:α→β→Prop} {o:Ops α} {o':Ops β} (h:OpsRel R o o')
include h
theorem oC {x b:α} {x' b':β} (hx:R x x') (hb:R b b'):R (cub o x b) (cub o' x' b'):=
 h.add _ _ _ _ (h.sub _ _ _ _ (h.mul _ _ _ _ (h.mul _ _ _ _ hx hx) hx) (h.mul _ _ _ _ (h.c 3) hx)) hb
theorem gH {a:α} {a':β} (ha:R a a'):gF R (xQ o a) (xQ o' a'):=⟨ha,h.c 0⟩
theorem AO:gF R (gen o) (gen o'):=⟨h.c 0,h.c 1⟩
variable {v:V4 α} {v':V4 β} (h1:R v.x1 v'.x1) (h2:R v.x2 v'.x2) (h3:R v.x3 v'.x3) (hb:R v.b v'.b)
include h1 hb
theorem vc:OpsRel (gF R) (o1 o v) (o1 o' v'):=By h (oC h h1 hb)
include h2
theorem Gd:OpsRel (gF (gF R)) (o2 o v) (o2 o' v'):=By (vc h h1 hb) (oC (vc h h1 hb) (gH h h2) (gH h hb))
include h3
theorem Gc:OpsRel (gF (gF (gF R))) (o3 o v) (o3 o' v'):=
 By (Gd h h1 h2 hb) (oC (Gd h h1 h2 hb) (gH (vc h h1 hb) (gH h h3)) (gH (vc h h1 hb) (gH h hb)))
theorem A3:EI (gF (gF (gF R))) (Wn o v) (Wn o' v'):=by
 have k1:=vc h h1 hb
 have k2:=Gd h h1 h2 hb
 have L:∀{a a'},R a a'→gF (gF (gF R)) (xQ (o2 o v) (xQ (o1 o v) (xQ o a))) (xQ (o2 o' v') (xQ (o1 o' v') (xQ o' a'))):=fun ha=>gH k2 (gH k1 (gH h ha))
 exact ⟨L h1,gH k2 (gH k1 (AO h)),L h2,gH k2 (AO k1),L h3,AO k2,L hb,trivial⟩
end
def sP {α:Type} (P:α→Prop) (t:T3 α):Prop:=((P t.1.1.1∧P t.1.1.2)∧(P t.1.2.1∧P t.1.2.2))∧((P t.2.1.1∧P t.2.1.2)∧(P t.2.2.1∧P t.2.2.2))
def IG {α:Type} (P:α→Bool) (t:T3 α):Bool:=((P t.1.1.1&&P t.1.1.2)&&(P t.1.2.1&&P t.1.2.2))&&((P t.2.1.1&&P t.2.1.2)&&(P t.2.2.1&&P t.2.2.2))
theorem ye {α:Type} {P:α→Bool} {t:T3 α}:IG P t=true↔sP (fun a=>P a=true) t:=by
 simp only[IG,sP,Bool.and_eq_true]
theorem M6 {α β:Type} {R:α→β→Prop} {P:α→Prop} {Q:β→Prop} (h:∀a b,R a b→P a→Q b) {t:T3 α} {u:T3 β} (hr:gF (gF (gF R)) t u) (ht:sP P t):sP Q u:=by
 obtain ⟨⟨⟨r1,r2⟩,⟨r3,r4⟩⟩,⟨⟨r5,r6⟩,⟨r7,r8⟩⟩⟩:=hr
 obtain ⟨⟨⟨p1,p2⟩,⟨p3,p4⟩⟩,⟨⟨p5,p6⟩,⟨p7,p8⟩⟩⟩:=ht
 exact ⟨⟨⟨h _ _ r1 p1,h _ _ r2 p2⟩,⟨h _ _ r3 p3,h _ _ r4 p4⟩⟩,⟨⟨h _ _ r5 p5,h _ _ r6 p6⟩,⟨h _ _ r7 p7,h _ _ r8 p8⟩⟩⟩
theorem yB {α β:Type} {R:α→β→Prop} {P:α→Prop} {Q:β→Prop} (h:∀a b,R a b→Q b→P a) {t:T3 α} {u:T3 β} (hr:gF (gF (gF R)) t u) (hu:sP Q u):sP P t:=by
 obtain ⟨⟨⟨r1,r2⟩,⟨r3,r4⟩⟩,⟨⟨r5,r6⟩,⟨r7,r8⟩⟩⟩:=hr
 obtain ⟨⟨⟨p1,p2⟩,⟨p3,p4⟩⟩,⟨⟨p5,p6⟩,⟨p7,p8⟩⟩⟩:=hu
 exact ⟨⟨⟨h _ _ r1 p1,h _ _ r2 p2⟩,⟨h _ _ r3 p3,h _ _ r4 p4⟩⟩,⟨⟨h _ _ r5 p5,h _ _ r6 p6⟩,⟨h _ _ r7 p7,h _ _ r8 p8⟩⟩⟩
theorem K7 {α:Type} {P Q:α→Prop} {t:T3 α} (hp:sP P t) (hq:sP Q t):sP (fun a=>P a∧Q a) t:=by
 obtain ⟨⟨⟨a1,a2⟩,⟨a3,a4⟩⟩,⟨⟨a5,a6⟩,⟨a7,a8⟩⟩⟩:=hp
 obtain ⟨⟨⟨b1,b2⟩,⟨b3,b4⟩⟩,⟨⟨b5,b6⟩,⟨b7,b8⟩⟩⟩:=hq
 exact ⟨⟨⟨⟨a1,b1⟩,⟨a2,b2⟩⟩,⟨⟨a3,b3⟩,⟨a4,b4⟩⟩⟩,⟨⟨⟨a5,b5⟩,⟨a6,b6⟩⟩,⟨⟨a7,b7⟩,⟨a8,b8⟩⟩⟩⟩
theorem Pb {α:Type} {P Q:α→Prop} (h:∀a,P a→Q a) {t:T3 α} (hp:sP P t):sP Q t:=by
 obtain ⟨⟨⟨a1,a2⟩,⟨a3,a4⟩⟩,⟨⟨a5,a6⟩,⟨a7,a8⟩⟩⟩:=hp
 exact ⟨⟨⟨h _ a1,h _ a2⟩,⟨h _ a3,h _ a4⟩⟩,⟨⟨h _ a5,h _ a6⟩,⟨h _ a7,h _ a8⟩⟩⟩
theorem Di:∀(n:Nat) (p:dc n) {d e:Nat→Nat},(∀i,i<n→d i≤e i)→rx n p d→rx n p e
 |0,_,_,_,_,_=>trivial
 |n+1,_,_,_,h,hp=>⟨Nat.le_trans hp.1 (h n (by omega)),fun a ha=>Di n a (fun i hi=>h i (by omega)) (hp.2 a ha)⟩
def Dm (x:Nat→Int):V4 Int:=⟨x 0,x 1,x 2,x 3⟩
def vP4:V4 (Option (dc 4)):=⟨some (vP 4 0),some (vP 4 1),some (vP 4 2),some (vP 4 3)⟩
def vB4:V4 (Option Bd):=⟨some ⟨1,1,0,0,0⟩,some ⟨1,0,1,0,0⟩,some ⟨1,0,0,1,0⟩,some ⟨1,0,0,0,1⟩⟩
theorem evV (x:Nat→Int):BV x vP4.x1 (Dm x).x1∧BV x vP4.x2 (Dm x).x2∧BV x vP4.x3 (Dm x).x3∧BV x vP4.b (Dm x).b:=
 ⟨CV 4 x 0 (by omega),CV 4 x 1 (by omega),CV 4 x 2 (by omega),CV 4 x 3 (by omega)⟩
theorem bdV:Jv vP4.x1 vB4.x1∧Jv vP4.x2 vB4.x2∧Jv vP4.x3 vB4.x3∧Jv vP4.b vB4.b:=by
 refine ⟨⟨EV 4 0,ft 4 _ (fun i=> ?_) (Du 4 0)⟩,⟨EV 4 1,ft 4 _ (fun i=> ?_) (Du 4 1)⟩,⟨EV 4 2,ft 4 _ (fun i=> ?_) (Du 4 2)⟩,⟨EV 4 3,?_⟩⟩
 ·unfold Bd.d;split<;>split<;>simp_all
 ·unfold Bd.d;split<;>split<;>simp_all
 ·unfold Bd.d;split<;>split<;>simp_all
 ·refine Di 4 _ (fun i hi=> ?_) (Du 4 3)
  match i,hi with
  |0,_=>exact by decide
  |1,_=>exact by decide
  |2,_=>exact by decide
  |3,_=>exact by decide
  |i+4,h=>exact absurd h (by omega)
end Go.NT
namespace Go.NT
def Tt (W:Nat→Nat) (b:Option Bd):Bool:=match b with
 |none=>true
 |some b=>decide (b.n*B5 W (fun i=>b.d i+1) 0<W 0)&&(decide (b.n*B5 W (fun i=>b.d i+1) 1<W 1)&&(decide (b.n*B5 W (fun i=>b.d i+1) 2<W 2)&&decide (b.n*B5 W (fun i=>b.d i+1) 3<W 3)))
theorem Hh {W:Nat→Nat} (hW:∀i,1≤W i) {p:Option (dc 4)} {b:Option Bd} (hb:Jv p b) (hc:Tt W b=true) (h0:xO (fun i=>(W i:Int)) p=0) (x:Nat→Int):xO x p=0:=by
 cases p with
 |none=>rfl
 |some p=>
  cases b with
  |none=>exact hb.elim
  |some b=>
   simp only[Tt,Bool.and_eq_true,decide_eq_true_iff] at hc
   obtain ⟨c0,c1,c2,c3⟩:=hc
   refine yf hW 4 p hb.2 hb.1 (fun i hi=> ?_) h0 x
   match i,hi with
   |0,_=>exact c0
   |1,_=>exact c1
   |2,_=>exact c2
   |3,_=>exact c3
   |i+4,h=>exact absurd h (by omega)
def W4 (k0 k1 k2 k3:Nat) (i:Nat):Nat:=2^(match i with|0=>k0|1=>k1|2=>k2|_=>k3)
theorem js (k0 k1 k2 k3:Nat) (i:Nat):1≤W4 k0 k1 k2 k3 i:=Nat.two_pow_pos _
def lG (W:Nat→Nat) (ps:List SOp) (i:Nat):Bool:=
 IG (fun z=>decide (z=0)) (m4 (o3 dd (Dm fun i=>(W i:Int))) (tL (o3 dd (Dm fun i=>(W i:Int))) ps (Wn dd (Dm fun i=>(W i:Int)))) i)
def lD (W:Nat→Nat) (ps:List SOp) (i:Nat):Bool:=IG (Tt W) (m4 (o3 VH vB4) (tL (o3 VH vB4) ps (Wn VH vB4)) i)
theorem fN {W:Nat→Nat} (hW:∀i,1≤W i) {ps:List SOp} {i:Nat} (hz:lG W ps i=true) (hb:lD W ps i=true) {m:Nat} {x1 y1 x2 y2 x3 y3 b:Int}
  (h1:jk m (y1*y1) (x1*x1*x1-3*x1+b)) (h2:jk m (y2*y2) (x2*x2*x2-3*x2+b)) (h3:jk m (y3*y3) (x3*x3*x3-3*x3+b)):
  jk m (m4 dd (tL dd ps [x1,y1,x2,y2,x3,y3,b]) i) 0:=by
 have hf:sP (fun p=>∀x,xO x p=0) (m4 (o3 NU vP4) (tL (o3 NU vP4) ps (Wn NU vP4)) i):=by
  obtain ⟨e1,e2,e3,e4⟩:=evV (fun i=>(W i:Int))
  obtain ⟨d1,d2,d3,d4⟩:=bdV
  have r1:=rn (Gc (HS (fun i=>(W i:Int))) e1 e2 e3 e4) ps (A3 (HS (fun i=>(W i:Int))) e1 e2 e3 e4) i
  have r2:=rn (Gc WJ d1 d2 d3 d4) ps (A3 WJ d1 d2 d3 d4) i
  have hz':=ye.1 hz
  have hb':=ye.1 hb
  have a1:=yB (P:=fun p=>xO (fun i=>(W i:Int)) p=0) (fun p z hr (hq:decide (z=0)=true)=>by
   have:=of_decide_eq_true hq
   unfold BV at hr
   rw[hr,this]) r1 hz'
  have a2:=yB (P:=fun p=>∃b,Jv p b∧Tt W b=true) (fun p b hr hq=>⟨b,hr,hq⟩) r2 hb'
  exact Pb (fun p hp=>by
   obtain ⟨c1,b,c2,c3⟩:=hp
   exact fun x=>Hh hW c2 c3 c1 x) (K7 a1 a2)
 let x:Nat→Int:=fun i=>match i with|0=>x1|1=>x2|2=>x3|_=>b
 obtain ⟨e1,e2,e3,e4⟩:=evV x
 have r3:=rn (Gc (HS x) e1 e2 e3 e4) ps (A3 (HS x) e1 e2 e3 e4) i
 have hx:sP (fun z:Int=>z=0) (m4 (o3 dd (Dm x)) (tL (o3 dd (Dm x)) ps (Wn dd (Dm x))) i):=
  M6 (fun p z hr (hp:∀x,xO x p=0)=>by unfold BV at hr;rw[←hr];exact hp x) r3 hf
 let R0:Int→Int→Prop:=fun a z=>jk m z a
 have cr:∀a:Int,jk m a a:=fun a=>⟨0,by omega⟩
 have k0:OpsRel R0 dd dd:=by
  refine ⟨?_,?_,?_,fun z=>cr z⟩
  ·rintro a b a' b' ⟨k,hk⟩ ⟨l,hl⟩;exact ⟨k+l,by simp only[dd];grind⟩
  ·rintro a b a' b' ⟨k,hk⟩ ⟨l,hl⟩;exact ⟨k-l,by simp only[dd];grind⟩
  ·rintro a b a' b' ⟨k,hk⟩ ⟨l,hl⟩
   refine ⟨k*b'+l*a,?_⟩
   simp only[dd]
   have e1:a'=m*k+a:=by omega
   have e2:b'=m*l+b:=by omega
   subst e1;generalize (m:Int)=M at*;subst e2;grind
 have l0:∀{α:Type} {R:α→Int→Prop} {o:Ops α} {y:Int} {a:α} {z:Int},OpsRel R o dd→R a z→mI m R y (xQ o a) z:=fun h ha=>⟨_,_,ha,h.c 0,⟨0,by simp only[dd];grind⟩⟩
 have g0:∀{α:Type} {R:α→Int→Prop} {o:Ops α} {y:Int},OpsRel R o dd→mI m R y (gen o) y:=fun h=>⟨_,_,h.c 0,h.c 1,⟨0,by simp only[dd];grind⟩⟩
 have k1:OpsRel (mI m R0 y1) (o1 dd (Dm x)) dd:=AN k0 (oC k0 (cr x1) (cr b)) h1
 have k2:OpsRel (mI m (mI m R0 y1) y2) (o2 dd (Dm x)) dd:=AN k1 (oC k1 (l0 k0 (cr x2)) (l0 k0 (cr b))) h2
 have k3:OpsRel (mI m (mI m (mI m R0 y1) y2) y3) (o3 dd (Dm x)) dd:=AN k2 (oC k2 (l0 k1 (l0 k0 (cr x3))) (l0 k1 (l0 k0 (cr b)))) h3
 have hin:EI (mI m (mI m (mI m R0 y1) y2) y3) (Wn dd (Dm x)) [x1,y1,x2,y2,x3,y3,b]:=
  ⟨l0 k2 (l0 k1 (l0 k0 (cr x1))),l0 k2 (l0 k1 (g0 k0)),l0 k2 (l0 k1 (l0 k0 (cr x2))),l0 k2 (g0 k1),l0 k2 (l0 k1 (l0 k0 (cr x3))),g0 k2,l0 k2 (l0 k1 (l0 k0 (cr b))),trivial⟩
 have r4:=rn k3 ps hin i
 generalize m4 (o3 dd (Dm x)) (tL (o3 dd (Dm x)) ps (Wn dd (Dm x))) i=t at*
 generalize m4 dd (tL dd ps [x1,y1,x2,y2,x3,y3,b]) i=z at*
 obtain ⟨u,v,⟨u1,u2,⟨u11,u12,p1,p2,p3⟩,⟨u21,u22,p4,p5,p6⟩,p7⟩,⟨v1,v2,⟨v11,v12,q1,q2,q3⟩,⟨v21,v22,q4,q5,q6⟩,q7⟩,hz1⟩:=r4
 obtain ⟨⟨⟨z1,z2⟩,⟨z3,z4⟩⟩,⟨⟨z5,z6⟩,⟨z7,z8⟩⟩⟩:=hx
 simp only[R0] at p1 p2 p4 p5 q1 q2 q4 q5
 rw[z1] at p1;rw[z2] at p2;rw[z3] at p4;rw[z4] at p5;rw[z5] at q1;rw[z6] at q2;rw[z7] at q4;rw[z8] at q5
 have tr:∀{a b c y:Int},jk m a (b+y*c)→jk m b 0→jk m c 0→jk m a 0:=by
  rintro a b c y ⟨k,hk⟩ ⟨l,hl⟩ ⟨r,hr⟩
  exact ⟨k+l+y*r,by grind⟩
 exact tr hz1 (tr p7 (tr p3 p1 p2) (tr p6 p4 p5)) (tr q7 (tr q3 q1 q2) (tr q6 q4 q5))
end Go.NT
namespace Go.NT
def zS (a _b _c d _e _g:Int):Int:=a*d
def AE (_a b _c _d e _g:Int):Int:=b*e
def AD (_a _b c _d _e g:Int):Int:=c*g
def Hm (a b _c d e _g:Int):Int:=a*e+b*d
def GE (_a b c _d e g:Int):Int:=b*g+c*e
def BY (a _b c d _e g:Int):Int:=a*g+c*d
def DI (k a b c d e g:Int):Int:=3*(BY a b c d e g-k*AD a b c d e g)
def J7 (k a b c d e g:Int):Int:=AE a b c d e g-DI k a b c d e g
def KH (k a b c d e g:Int):Int:=AE a b c d e g+DI k a b c d e g
def EO (a b c d e g:Int):Int:=3*AD a b c d e g
def KE (k a b c d e g:Int):Int:=3*(k*BY a b c d e g-EO a b c d e g-zS a b c d e g)
def JK (a b c d e g:Int):Int:=3*zS a b c d e g-EO a b c d e g
def wX (k a b c d e g:Int):Int:=Hm a b c d e g*KH k a b c d e g-GE a b c d e g*KE k a b c d e g
def wY (k a b c d e g:Int):Int:=KH k a b c d e g*J7 k a b c d e g+JK a b c d e g*KE k a b c d e g
def wZ (k a b c d e g:Int):Int:=GE a b c d e g*J7 k a b c d e g+Hm a b c d e g*JK a b c d e g
def psW:List SOp:=[.c 1,.c 3,.mul 2 4,.mul 4 6,.mul 3 3,.mul 5 8,.mul 7 8,.add 1 0,.mul 9 7,.mul 8 12,.add 1 0,.mul 11 10,.mul 11 14,.add 1 0,.mul 20 9,.sub 1 0,.mul 14 0,.sub 13 0,.add 14 1,.mul 17 14,.mul 26 6,.sub 0 1,.sub 0 19,.mul 21 0,.mul 22 21,.sub 0 5,.mul 18 7,.mul 16 3,.sub 1 0,.mul 10 11,.mul 4 6,.add 1 0,.mul 21 14,.mul 25 7,.add 1 0,.mul 6 39,.mul 4 41,.mul 2 36,.mul 9 43,.mul 7 43,.add 1 0,.mul 9 40,.mul 7 47,.add 1 0,.mul 15 43,.mul 10 49,.add 1 0,.mul 53 9,.sub 1 0,.mul 47 0,.sub 13 0,.add 14 1,.mul 50 14,.mul 59 6,.sub 0 1,.sub 0 19,.mul 54 0,.mul 55 21,.sub 0 5,.mul 18 7,.mul 16 3,.sub 1 0,.mul 10 11,.mul 4 6,.add 1 0,.mul 21 14,.mul 25 7,.add 1 0,.mul 70 72,.mul 72 74,.mul 69 69,.mul 73 76,.mul 75 76,.add 1 0,.mul 77 73,.mul 74 80,.add 1 0,.mul 79 76,.mul 77 82,.add 1 0,.mul 86 9,.sub 1 0,.mul 80 0,.sub 13 0,.add 14 1,.mul 83 14,.mul 92 6,.sub 0 1,.sub 0 19,.mul 87 0,.mul 88 21,.sub 0 5,.mul 18 7,.mul 16 3,.sub 1 0,.mul 10 11,.mul 4 6,.add 1 0,.mul 21 14,.mul 25 7,.add 1 0,.mul 101 6,.mul 103 4,.mul 102 2,.mul 104 6,.mul 106 10,.add 1 0,.mul 108 6,.mul 107 10,.add 1 0,.mul 110 9,.mul 110 16,.add 1 0,.mul 119 9,.sub 1 0,.mul 113 0,.sub 13 0,.add 14 1,.mul 116 14,.mul 125 6,.sub 0 1,.sub 0 19,.mul 120 0,.mul 121 21,.sub 0 5,.mul 18 7,.mul 16 3,.sub 1 0,.mul 10 11,.mul 4 6,.add 1 0,.mul 21 14,.mul 25 7,.add 1 0,.mul 72 0,.mul 67 7,.sub 1 0,.mul 72 3,.mul 70 7,.sub 1 0]
def WW:Nat→Nat:=W4 64 1024 16384 262144
theorem aqv:lG WW psW 3=true:=by decide+kernel
theorem anX:lG WW psW 0=true:=by decide+kernel
theorem alO:lD WW psW 3=true:=by decide+kernel
theorem ami:lD WW psW 0=true:=by decide+kernel
end Go.NT
namespace Go.NT
def W2:Nat→Nat:=W4 128 4096 131072 2097152
def psC:List SOp:=[.c 1,.c 3,.mul 2 4,.mul 4 6,.mul 3 3,.mul 5 8,.mul 7 8,.add 1 0,.mul 9 7,.mul 8 12,.add 1 0,.mul 11 10,.mul 11 14,.add 1 0,.mul 20 9,.sub 1 0,.mul 14 0,.sub 13 0,.add 14 1,.mul 17 14,.mul 26 6,.sub 0 1,.sub 0 19,.mul 21 0,.mul 22 21,.sub 0 5,.mul 18 7,.mul 16 3,.sub 1 0,.mul 10 11,.mul 4 6,.add 1 0,.mul 21 14,.mul 25 7,.add 1 0,.mul 3 3,.mul 0 1,.mul 8 8,.mul 0 9,.mul 37 10,.mul 5 5,.mul 1 0,.sub 3 0,.mul 8 8,.mul 0 9,.mul 51 0,.add 3 0,.sub 10 0]
theorem zC:lG W2 psC 0=true:=by decide+kernel
theorem bC:lD W2 psC 0=true:=by decide+kernel
theorem idC {m:Nat} {x1 y1 x2 y2 b:Int} (h1:jk m (y1*y1) (x1*x1*x1-3*x1+b)) (h2:jk m (y2*y2) (x2*x2*x2-3*x2+b)):
  jk m ((wY b x1 y1 1 x2 y2 1)*(wY b x1 y1 1 x2 y2 1)*(wZ b x1 y1 1 x2 y2 1)-((wX b x1 y1 1 x2 y2 1)*(wX b x1 y1 1 x2 y2 1)*(wX b x1 y1 1 x2 y2 1)-3*(wX b x1 y1 1 x2 y2 1)*((wZ b x1 y1 1 x2 y2 1)*(wZ b x1 y1 1 x2 y2 1))+b*((wZ b x1 y1 1 x2 y2 1)*(wZ b x1 y1 1 x2 y2 1)*(wZ b x1 y1 1 x2 y2 1)))) 0:=fN (js _ _ _ _) zC bC h1 h2 h1
def psZ:List SOp:=[.c 1,.c 3,.mul 2 4,.mul 4 6,.mul 3 3,.mul 5 8,.mul 7 8,.add 1 0,.mul 9 7,.mul 8 12,.add 1 0,.mul 11 10,.mul 11 14,.add 1 0,.mul 20 9,.sub 1 0,.mul 14 0,.sub 13 0,.add 14 1,.mul 17 14,.mul 26 6,.sub 0 1,.sub 0 19,.mul 21 0,.mul 22 21,.sub 0 5,.mul 18 7,.mul 16 3,.sub 1 0,.mul 10 11,.mul 4 6,.add 1 0,.mul 21 14,.mul 25 7,.add 1 0,.sub 35 37,.add 37 39,.mul 1 1,.mul 1 1,.add 39 41,.mul 0 2,.sub 2 0,.mul 42 4,.sub 0 1,.mul 7 0,.mul 7 9,.mul 47 0,.sub 2 0,.add 13 0]
theorem zZ:lG W2 psZ 0=true:=by decide+kernel
theorem bZ:lD W2 psZ 0=true:=by decide+kernel
theorem idZ {m:Nat} {x1 y1 x2 y2 b:Int} (h1:jk m (y1*y1) (x1*x1*x1-3*x1+b)) (h2:jk m (y2*y2) (x2*x2*x2-3*x2+b)):
  jk m ((wZ b x1 y1 1 x2 y2 1)+((y1+y2)*(x1*((x1-x2)*(x1-x2))-((y1+y2)*(y1+y2)-(x1+x2)*((x1-x2)*(x1-x2))))-y1*((x1-x2)*(x1-x2)*(x1-x2)))) 0:=fN (js _ _ _ _) zZ bZ h1 h2 h1
def psN:List SOp:=[.sub 0 2,.add 2 4,.mul 1 1,.mul 1 1,.add 4 6,.mul 0 2,.sub 2 0,.mul 7 4,.sub 0 1,.mul 7 0,.mul 7 9,.mul 12 0,.sub 2 0,.mul 10 10,.mul 1 1,.mul 8 8,.mul 0 9,.c 3,.mul 0 11,.mul 0 5,.sub 3 0,.mul 7 18,.mul 28 0,.add 2 0,.sub 9 0]
theorem zN:lG W2 psN 0=true:=by decide+kernel
theorem bN:lD W2 psN 0=true:=by decide+kernel
theorem idN {m:Nat} {x1 y1 x2 y2 b:Int} (h1:jk m (y1*y1) (x1*x1*x1-3*x1+b)) (h2:jk m (y2*y2) (x2*x2*x2-3*x2+b)):
  jk m (((y1+y2)*(x1*((x1-x2)*(x1-x2))-((y1+y2)*(y1+y2)-(x1+x2)*((x1-x2)*(x1-x2))))-y1*((x1-x2)*(x1-x2)*(x1-x2)))*((y1+y2)*(x1*((x1-x2)*(x1-x2))-((y1+y2)*(y1+y2)-(x1+x2)*((x1-x2)*(x1-x2))))-y1*((x1-x2)*(x1-x2)*(x1-x2)))-(((y1+y2)*(y1+y2)-(x1+x2)*((x1-x2)*(x1-x2)))*((y1+y2)*(y1+y2)-(x1+x2)*((x1-x2)*(x1-x2)))*((y1+y2)*(y1+y2)-(x1+x2)*((x1-x2)*(x1-x2)))-3*((y1+y2)*(y1+y2)-(x1+x2)*((x1-x2)*(x1-x2)))*(((x1-x2)*(x1-x2))*((x1-x2)*(x1-x2)))+b*(((x1-x2)*(x1-x2))*((x1-x2)*(x1-x2))*((x1-x2)*(x1-x2))))) 0:=fN (js _ _ _ _) zN bN h1 h2 h1
def psD:List SOp:=[.c 1,.c 3,.mul 2 2,.mul 4 4,.mul 3 3,.mul 5 6,.mul 7 6,.add 1 0,.mul 9 7,.mul 8 10,.add 1 0,.mul 11 10,.mul 11 12,.add 1 0,.mul 20 9,.sub 1 0,.mul 14 0,.sub 13 0,.add 14 1,.mul 17 14,.mul 26 6,.sub 0 1,.sub 0 19,.mul 21 0,.mul 22 21,.sub 0 5,.mul 18 7,.mul 16 3,.sub 1 0,.mul 10 11,.mul 4 6,.add 1 0,.mul 21 14,.mul 25 7,.add 1 0,.c 8,.mul 37 37,.mul 0 38,.mul 2 0,.sub 4 0]
theorem zD:lG W2 psD 0=true:=by decide+kernel
theorem bD:lD W2 psD 0=true:=by decide+kernel
theorem idD {m:Nat} {x1 y1 x2 y2 b:Int} (h1:jk m (y1*y1) (x1*x1*x1-3*x1+b)) (h2:jk m (y2*y2) (x2*x2*x2-3*x2+b)):
  jk m (wZ b x1 y1 1 x1 y1 1-8*(y1*y1*y1)) 0:=fN (js _ _ _ _) zD bD h1 h2 h1
def psO:List SOp:=[.c 1,.c 0,.sub 0 3,.c 3,.mul 4 4,.mul 6 2,.mul 5 5,.mul 7 4,.mul 9 8,.add 1 0,.mul 11 9,.mul 10 8,.add 1 0,.mul 13 12,.mul 13 14,.add 1 0,.mul 22 9,.sub 1 0,.mul 14 0,.sub 13 0,.add 14 1,.mul 17 14,.mul 28 6,.sub 0 1,.sub 0 19,.mul 21 0,.mul 22 21,.sub 0 5,.mul 18 7,.mul 16 3,.sub 1 0,.mul 10 11,.mul 4 6,.add 1 0,.mul 21 14,.mul 25 7,.add 1 0,.mul 37 37,.mul 34 0,.sub 0 35,.c 2,.mul 0 42,.mul 0 0,.mul 3 3,.mul 3 44,.mul 0 2,.sub 2 0,.mul 47 4,.sub 0 1,.mul 9 0,.mul 7 8,.mul 52 0,.sub 2 0,.sub 19 0]
theorem zO:lG W2 psO 0=true:=by decide+kernel
theorem bO:lD W2 psO 0=true:=by decide+kernel
theorem idO {m:Nat} {x1 y1 x2 y2 b:Int} (h1:jk m (y1*y1) (x1*x1*x1-3*x1+b)) (h2:jk m (y2*y2) (x2*x2*x2-3*x2+b)):
  jk m (wY b x1 y1 1 x1 (0-y1) 1-((3*(x1*x1)-3)*(x1*(2*y1*(2*y1))-((3*(x1*x1)-3)*(3*(x1*x1)-3)-2*x1*(2*y1*(2*y1))))-y1*((2*y1*(2*y1))*(2*y1)))) 0:=fN (js _ _ _ _) zO bO h1 h2 h1
def psM:List SOp:=[.c 3,.mul 1 1,.mul 1 0,.sub 0 2,.c 2,.mul 0 6,.mul 0 0,.mul 3 3,.mul 3 8,.mul 0 2,.sub 2 0,.mul 11 4,.sub 0 1,.mul 9 0,.mul 7 8,.mul 16 0,.sub 2 0,.mul 10 10,.mul 1 1,.mul 8 8,.mul 0 9,.mul 20 10,.mul 0 4,.sub 2 0,.mul 6 17,.mul 31 0,.add 2 0,.sub 8 0]
theorem zM:lG W2 psM 0=true:=by decide+kernel
theorem bM:lD W2 psM 0=true:=by decide+kernel
theorem idM {m:Nat} {x1 y1 x2 y2 b:Int} (h1:jk m (y1*y1) (x1*x1*x1-3*x1+b)) (h2:jk m (y2*y2) (x2*x2*x2-3*x2+b)):
  jk m (((3*(x1*x1)-3)*(x1*(2*y1*(2*y1))-((3*(x1*x1)-3)*(3*(x1*x1)-3)-2*x1*(2*y1*(2*y1))))-y1*((2*y1*(2*y1))*(2*y1)))*((3*(x1*x1)-3)*(x1*(2*y1*(2*y1))-((3*(x1*x1)-3)*(3*(x1*x1)-3)-2*x1*(2*y1*(2*y1))))-y1*((2*y1*(2*y1))*(2*y1)))-(((3*(x1*x1)-3)*(3*(x1*x1)-3)-2*x1*(2*y1*(2*y1)))*((3*(x1*x1)-3)*(3*(x1*x1)-3)-2*x1*(2*y1*(2*y1)))*((3*(x1*x1)-3)*(3*(x1*x1)-3)-2*x1*(2*y1*(2*y1)))-3*((3*(x1*x1)-3)*(3*(x1*x1)-3)-2*x1*(2*y1*(2*y1)))*((2*y1*(2*y1))*(2*y1*(2*y1)))+b*((2*y1*(2*y1))*(2*y1*(2*y1))*(2*y1*(2*y1))))) 0:=fN (js _ _ _ _) zM bM h1 h2 h1
theorem O8 {m:Nat} {x1 y1 x2 y2 x3 y3 b:Int} (h1:jk m (y1*y1) (x1*x1*x1-3*x1+b)) (h2:jk m (y2*y2) (x2*x2*x2-3*x2+b)) (h3:jk m (y3*y3) (x3*x3*x3-3*x3+b)):
  jk m ((wX b (wX b x1 y1 1 x2 y2 1) (wY b x1 y1 1 x2 y2 1) (wZ b x1 y1 1 x2 y2 1) x3 y3 1)*(wZ b x1 y1 1 (wX b x2 y2 1 x3 y3 1) (wY b x2 y2 1 x3 y3 1) (wZ b x2 y2 1 x3 y3 1))-(wZ b (wX b x1 y1 1 x2 y2 1) (wY b x1 y1 1 x2 y2 1) (wZ b x1 y1 1 x2 y2 1) x3 y3 1)*(wX b x1 y1 1 (wX b x2 y2 1 x3 y3 1) (wY b x2 y2 1 x3 y3 1) (wZ b x2 y2 1 x3 y3 1))) 0:=fN (js _ _ _ _) aqv alO h1 h2 h3
theorem NC {m:Nat} {x1 y1 x2 y2 x3 y3 b:Int} (h1:jk m (y1*y1) (x1*x1*x1-3*x1+b)) (h2:jk m (y2*y2) (x2*x2*x2-3*x2+b)) (h3:jk m (y3*y3) (x3*x3*x3-3*x3+b)):
  jk m ((wY b (wX b x1 y1 1 x2 y2 1) (wY b x1 y1 1 x2 y2 1) (wZ b x1 y1 1 x2 y2 1) x3 y3 1)*(wZ b x1 y1 1 (wX b x2 y2 1 x3 y3 1) (wY b x2 y2 1 x3 y3 1) (wZ b x2 y2 1 x3 y3 1))-(wZ b (wX b x1 y1 1 x2 y2 1) (wY b x1 y1 1 x2 y2 1) (wZ b x1 y1 1 x2 y2 1) x3 y3 1)*(wY b x1 y1 1 (wX b x2 y2 1 x3 y3 1) (wY b x2 y2 1 x3 y3 1) (wZ b x2 y2 1 x3 y3 1))) 0:=fN (js _ _ _ _) anX ami h1 h2 h3
end Go.NT
namespace Go.Ev
open Go Go.Proofs Go.RowKit Go.NT
def v5 (x y:Int):Prop:=C1 (y*y) (x*x*x-3*x+wB)
theorem Lz {x y:Int} (h:v5 x y):¬C1 y 0:=fun h0=>H2 (t:=x) (h.lc2 h0 (-1) y (by grind))
structure Six (m:Nat) (a b c d e g a' b' c' d' e' g':Int):Prop where
 a:Cz m a a'
 b:Cz m b b'
 c:Cz m c c'
 d:Cz m d d'
 e:Cz m e e'
 g:Cz m g g'
section
variable {m:Nat} {k a b c d e g a' b' c' d' e' g':Int} (h:Six m a b c d e g a' b' c' d' e' g')
include h
theorem cxx:Cz m (zS a b c d e g) (zS a' b' c' d' e' g'):=h.a.mul h.d
theorem cyy:Cz m (AE a b c d e g) (AE a' b' c' d' e' g'):=h.b.mul h.e
theorem czz:Cz m (AD a b c d e g) (AD a' b' c' d' e' g'):=h.c.mul h.g
theorem cxy:Cz m (Hm a b c d e g) (Hm a' b' c' d' e' g'):=(h.a.mul h.e).add (h.b.mul h.d)
theorem cyz:Cz m (GE a b c d e g) (GE a' b' c' d' e' g'):=(h.b.mul h.g).add (h.c.mul h.e)
theorem cxz:Cz m (BY a b c d e g) (BY a' b' c' d' e' g'):=(h.a.mul h.g).add (h.c.mul h.d)
theorem csi:Cz m (DI k a b c d e g) (DI k a' b' c' d' e' g'):=(Cz.refl m 3).mul ((cxz h).sub ((Cz.refl m k).mul (czz h)))
theorem cle:Cz m (J7 k a b c d e g) (J7 k a' b' c' d' e' g'):=(cyy h).sub (csi h)
theorem cri:Cz m (KH k a b c d e g) (KH k a' b' c' d' e' g'):=(cyy h).add (csi h)
theorem cz3:Cz m (EO a b c d e g) (EO a' b' c' d' e' g'):=(Cz.refl m 3).mul (czz h)
theorem cmm:Cz m (KE k a b c d e g) (KE k a' b' c' d' e' g'):=(Cz.refl m 3).mul ((((Cz.refl m k).mul (cxz h)).sub (cz3 h)).sub (cxx h))
theorem cnn:Cz m (JK a b c d e g) (JK a' b' c' d' e' g'):=((Cz.refl m 3).mul (cxx h)).sub (cz3 h)
theorem cwX:Cz m (wX k a b c d e g) (wX k a' b' c' d' e' g'):=((cxy h).mul (cri h)).sub ((cyz h).mul (cmm h))
theorem cwY:Cz m (wY k a b c d e g) (wY k a' b' c' d' e' g'):=((cri h).mul (cle h)).add ((cnn h).mul (cmm h))
theorem cwZ:Cz m (wZ k a b c d e g) (wZ k a' b' c' d' e' g'):=((cyz h).mul (cle h)).add ((cxy h).mul (cnn h))
end
theorem sX (k a b c d e g s t:Int):wX k (s*a) (s*b) (s*c) (t*d) (t*e) (t*g)=s*s*(t*t)*wX k a b c d e g:=by
 unfold wX Hm KH GE KE AE DI BY EO zS AD;grind
theorem sY (k a b c d e g s t:Int):wY k (s*a) (s*b) (s*c) (t*d) (t*e) (t*g)=s*s*(t*t)*wY k a b c d e g:=by
 unfold wY KH J7 JK KE AE DI BY EO zS AD;grind
theorem sZ (k a b c d e g s t:Int):wZ k (s*a) (s*b) (s*c) (t*d) (t*e) (t*g)=s*s*(t*t)*wZ k a b c d e g:=by
 unfold wZ GE J7 Hm JK AE DI BY EO zS AD;grind
theorem HW {X w:Int} (hw:¬C1 w 0) (h:C1 (X*X*X-3*X*(w*w)+wB*(w*w*w)) 0) (hs:∃v,w=v*v):False:=by
 have hm:=ae 1
 have hc:=j5 hm w
 have hlt:qj (ab 1) w<ab 1:=by
  unfold qj
  have:=Int.emod_lt_of_pos w (show (0:Int)<(ab 1:Int) by omega)
  have:=Int.emod_nonneg w (show ((ab 1:Nat):Int)≠0 by omega)
  omega
 have hi:=sn (k:=1) (by decide) hlt (fun h0=>hw (hc.symm.trans h0))
 generalize (qv 1 (qj (ab 1) w):Int)=i at*
 have hwi:C1 (w*i) 1:=(hc.symm.mul (Cz.refl _ i)).trans hi
 have h2:C1 (w*i*(w*i)) 1:=(hwi.mul hwi).trans (Cz.of_eq (by omega))
 have h3:C1 (w*i*(w*i)*(w*i)) 1:=(h2.mul hwi).trans (Cz.of_eq (by omega))
 exact H2 (t:=X*i) (h.lc3 h2 h3 (i*i*i) (3*X*i) (-(wB:Int)) (by grind))
theorem Nu {x1 y1 x2 y2:Int} (h1:v5 x1 y1) (h2:v5 x2 y2):¬C1 (wZ wB x1 y1 1 x2 y2 1) 0∨(C1 (wX wB x1 y1 1 x2 y2 1) 0∧¬C1 (wY wB x1 y1 1 x2 y2 1) 0∧C1 (wZ wB x1 y1 1 x2 y2 1) 0):=by
 by_cases hx:C1 (x1-x2) 0
 ·have hy:C1 ((y1-y2)*(y1+y2)) 0:=by
   unfold v5 at h1 h2
   exact h1.lc3 h2 hx 1 (-1) (x1*x1+x1*x2+x2*x2-3) (by grind)
  rcases gZ ON hy with hy|hy
  ·left
   have h6:Six (ab 1) x1 y1 1 x2 y2 1 x1 y1 1 x1 y1 1:=⟨Cz.refl _ _,Cz.refl _ _,Cz.refl _ _,hx.lc1 (-1) (by omega),hy.lc1 (-1) (by omega),Cz.refl _ _⟩
   intro h0
   have h8:C1 (wZ wB x1 y1 1 x1 y1 1-8*(y1*y1*y1)) 0:=idD (x2:=x1) (y2:=y1) h1 h1
   have h9:=(cwZ (k:=wB) h6).symm.trans h0
   have hy1:=Lz h1
   have h10:=ck (ck i7 (ck i7 i7)) (ck (ck hy1 hy1) hy1)
   exact h10 (h8.lc2 h9 (-1) 1 (by grind))
  ·right
   have h6:Six (ab 1) x1 y1 1 x2 y2 1 x1 y1 1 x1 (0-y1) 1:=⟨Cz.refl _ _,Cz.refl _ _,Cz.refl _ _,hx.lc1 (-1) (by omega),hy.lc1 1 (by omega),Cz.refl _ _⟩
   have eX:wX wB x1 y1 1 x1 (0-y1) 1=0:=by unfold wX Hm KH GE KE AE DI BY EO zS AD;grind
   have eZ:wZ wB x1 y1 1 x1 (0-y1) 1=0:=by unfold wZ GE J7 Hm JK AE DI BY EO zS AD;grind
   refine ⟨(cwX h6).trans (Cz.of_eq eX),?_,(cwZ h6).trans (Cz.of_eq eZ)⟩
   intro h0
   have h8:=idO (m:=ab 1) (x2:=x1) (y2:=y1) h1 h1
   have h9:=idM (m:=ab 1) (x2:=x1) (y2:=y1) h1 h1
   have h10:=(cwY (k:=wB) h6).symm.trans h0
   generalize wY wB x1 y1 1 x1 (0-y1) 1=V at*
   have hw:=ck (ck i7 (Lz h1)) (ck i7 (Lz h1))
   generalize ((3*(x1*x1)-3)*(x1*(2*y1*(2*y1))-((3*(x1*x1)-3)*(3*(x1*x1)-3)-2*x1*(2*y1*(2*y1))))-y1*(2*y1*(2*y1)*(2*y1)))=N at*
   have hN:C1 N 0:=Cz.lc2 (m:=ab 1) h8 h10 (-1) 1 (by grind)
   refine HW (X:=(3*(x1*x1)-3)*(3*(x1*x1)-3)-2*x1*(2*y1*(2*y1))) hw ?_ ⟨_,rfl⟩
   exact Cz.lc2 (m:=ab 1) h9 hN (-1) N (by grind)
 ·left
  intro h0
  have h8:=idZ (m:=ab 1) h1 h2
  have h9:=idN (m:=ab 1) h1 h2
  have hw:=ck hx hx
  generalize wZ wB x1 y1 1 x2 y2 1=V at*
  generalize ((y1+y2)*(x1*((x1-x2)*(x1-x2))-((y1+y2)*(y1+y2)-(x1+x2)*((x1-x2)*(x1-x2))))-y1*((x1-x2)*(x1-x2)*(x1-x2)))=N at*
  have hN:C1 N 0:=Cz.lc2 (m:=ab 1) h8 h0 1 (-1) (by grind)
  refine HW (X:=(y1+y2)*(y1+y2)-(x1+x2)*((x1-x2)*(x1-x2))) hw ?_ ⟨_,rfl⟩
  exact Cz.lc2 (m:=ab 1) h9 hN (-1) N (by grind)
abbrev nG:=Option (Int×Int)
def KM:nG→Prop
 |none=>True
 |some p=>v5 p.1 p.2
def EqO:nG→nG→Prop
 |none,none=>True
 |some p,some q=>C1 p.1 q.1∧C1 p.2 q.2
 |_,_=>False
def mZ (X Y Z:Int):nG→Prop
 |none=>C1 X 0∧¬C1 Y 0∧C1 Z 0
 |some p=>¬C1 Z 0∧C1 X (p.1*Z)∧C1 Y (p.2*Z)
theorem EqO.symm {p q:nG} (h:EqO p q):EqO q p:=by
 cases p<;>cases q<;>first|trivial|exact h.elim|exact ⟨h.1.symm,h.2.symm⟩
theorem EqO.trans {p q r:nG} (h:EqO p q) (h':EqO q r):EqO p r:=by
 cases p<;>cases q<;>cases r<;>first|trivial|exact h.elim|exact h'.elim|exact ⟨h.1.trans h'.1,h.2.trans h'.2⟩
theorem EqO.refl (p:nG):EqO p p:=by
 cases p<;>first|trivial|exact ⟨Cz.refl _ _,Cz.refl _ _⟩
theorem C9 {X Y Z X' Y' Z':Int} {p q:nG} (h:mZ X Y Z p) (h':mZ X' Y' Z' q) (hx:C1 (X*Z') (Z*X')) (hy:C1 (Y*Z') (Z*Y')):EqO p q:=by
 cases p with
 |none=>
  obtain ⟨_,h2,h3⟩:=h
  cases q with
  |none=>trivial
  |some q=>
   obtain ⟨g1,_,_⟩:=h'
   exact absurd (hy.lc2 h3 1 Y' (by grind)) (ck h2 g1)
 |some p=>
  obtain ⟨h1,h2,h3⟩:=h
  cases q with
  |none=>
   obtain ⟨_,g2,g3⟩:=h'
   exact absurd (hy.lc2 g3 (-1) Y (by grind)) (ck h1 g2)
  |some q=>
   obtain ⟨g1,g2,g3⟩:=h'
   have hz:=ck h1 g1
   exact ⟨eR ON (a:=Z*Z') (hx.lc3 h2 g2 1 (-Z') Z (by grind)) hz,eR ON (a:=Z*Z') (hy.lc3 h3 g3 1 (-Z') Z (by grind)) hz⟩
def cX:nG→Int
 |none=>0
 |some p=>p.1
def cY:nG→Int
 |none=>1
 |some p=>p.2
def cZ:nG→Int
 |none=>0
 |some _=>1
theorem lq (p:nG):mZ (cX p) (cY p) (cZ p) p:=by
 cases p with
 |none=>exact ⟨Cz.refl _ _,mz,Cz.refl _ _⟩
 |some p=>exact ⟨mz,Cz.of_eq (by show p.1=p.1*1;omega),Cz.of_eq (by show p.2=p.2*1;omega)⟩
theorem El {p q:nG} (h:EqO p q):C1 (cX p) (cX q)∧C1 (cY p) (cY q)∧C1 (cZ p) (cZ q):=by
 cases p<;>cases q<;>first|exact h.elim|exact ⟨Cz.refl _ _,Cz.refl _ _,Cz.refl _ _⟩|exact ⟨h.1,h.2,Cz.refl _ _⟩
theorem afn {p:nG} (h:KM p):¬C1 (cY p) 0:=by
 cases p with
 |none=>exact mz
 |some p=>exact Lz h
theorem yi {X Y Z:Int} {p:nG} (h:mZ X Y Z p):∃s,¬C1 s 0∧C1 X (s*cX p)∧C1 Y (s*cY p)∧C1 Z (s*cZ p):=by
 cases p with
 |none=>
  obtain ⟨h1,h2,h3⟩:=h
  exact ⟨Y,h2,h1.trans (Cz.of_eq (by show 0=Y*0;omega)),Cz.of_eq (by show Y=Y*1;omega),h3.trans (Cz.of_eq (by show 0=Y*0;omega))⟩
 |some p=>
  obtain ⟨h1,h2,h3⟩:=h
  exact ⟨Z,h1,h2.trans (Cz.of_eq (Int.mul_comm _ _)),h3.trans (Cz.of_eq (Int.mul_comm _ _)),Cz.of_eq (by show Z=Z*1;omega)⟩
theorem uf {X Y Z X' Y' Z' s:Int} {r:nG} (hs:¬C1 s 0) (h:mZ X Y Z r) (hx:C1 X' (s*X)) (hy:C1 Y' (s*Y)) (hz:C1 Z' (s*Z)):mZ X' Y' Z' r:=by
 cases r with
 |none=>
  obtain ⟨h1,h2,h3⟩:=h
  exact ⟨hx.lc2 h1 1 s (by grind),fun h0=>ck hs h2 (hy.symm.trans h0),hz.lc2 h3 1 s (by grind)⟩
 |some p=>
  obtain ⟨h1,h2,h3⟩:=h
  exact ⟨fun h0=>ck hs h1 (hz.symm.trans h0),hx.lc3 h2 hz 1 s (-p.1) (by grind),hy.lc3 h3 hz 1 s (-p.2) (by grind)⟩
def tX (p q:nG):Int:=wX wB (cX p) (cY p) (cZ p) (cX q) (cY q) (cZ q)
def tY (p q:nG):Int:=wY wB (cX p) (cY p) (cZ p) (cX q) (cY q) (cZ q)
def tZ (p q:nG):Int:=wZ wB (cX p) (cY p) (cZ p) (cX q) (cY q) (cZ q)
def tO (p q r:nG):Prop:=mZ (tX p q) (tY p q) (tZ p q) r
theorem xt {X1 Y1 Z1 X2 Y2 Z2:Int} {p q r:nG} (hp:mZ X1 Y1 Z1 p) (hq:mZ X2 Y2 Z2 q) (h:tO p q r):mZ (wX wB X1 Y1 Z1 X2 Y2 Z2) (wY wB X1 Y1 Z1 X2 Y2 Z2) (wZ wB X1 Y1 Z1 X2 Y2 Z2) r:=by
 obtain ⟨s,s0,s1,s2,s3⟩:=yi hp
 obtain ⟨t,t0,t1,t2,t3⟩:=yi hq
 have h6:Six (ab 1) X1 Y1 Z1 X2 Y2 Z2 _ _ _ _ _ _:=⟨s1,s2,s3,t1,t2,t3⟩
 exact uf (ck (ck s0 s0) (ck t0 t0)) h ((cwX h6).trans (Cz.of_eq (sX _ _ _ _ _ _ _ _ _))) ((cwY h6).trans (Cz.of_eq (sY _ _ _ _ _ _ _ _ _))) ((cwZ h6).trans (Cz.of_eq (sZ _ _ _ _ _ _ _ _ _)))
theorem gg {p q r r':nG} (h:tO p q r) (h':tO p q r'):EqO r r':=C9 h h' (Cz.of_eq (Int.mul_comm _ _)) (Cz.of_eq (Int.mul_comm _ _))
theorem nD {p q r:nG} (h:tO p q r):tO q p r:=by
 have e1:tX q p=tX p q:=by unfold tX wX Hm KH GE KE AE DI BY EO zS AD;grind
 have e2:tY q p=tY p q:=by unfold tY wY KH J7 JK KE AE DI BY EO zS AD;grind
 have e3:tZ q p=tZ p q:=by unfold tZ wZ GE J7 Hm JK AE DI BY EO zS AD;grind
 unfold tO at*
 rw[e1,e2,e3];exact h
theorem np {p q p' q' r:nG} (h:tO p q r) (hp:EqO p p') (hq:EqO q q'):tO p' q' r:=by
 obtain ⟨a1,a2,a3⟩:=El hp
 obtain ⟨b1,b2,b3⟩:=El hq
 have h6:Six (ab 1) (cX p') (cY p') (cZ p') (cX q') (cY q') (cZ q') (cX p) (cY p) (cZ p) (cX q) (cY q) (cZ q):=⟨a1.symm,a2.symm,a3.symm,b1.symm,b2.symm,b3.symm⟩
 exact uf mz h ((cwX h6).trans (Cz.of_eq (by show tX p q=1*tX p q;omega))) ((cwY h6).trans (Cz.of_eq (by show tY p q=1*tY p q;omega))) ((cwZ h6).trans (Cz.of_eq (by show tZ p q=1*tZ p q;omega)))
theorem ia {q:nG} (hq:KM q):tO none q q:=by
 refine uf (afn hq) (lq q) (Cz.of_eq ?_) (Cz.of_eq ?_) (Cz.of_eq ?_)
 ·unfold tX wX Hm KH GE KE AE DI BY EO zS AD;simp only[show cX none=0 from rfl,show cY none=1 from rfl,show cZ none=0 from rfl];grind
 ·unfold tY wY KH J7 JK KE AE DI BY EO zS AD;simp only[show cX none=0 from rfl,show cY none=1 from rfl,show cZ none=0 from rfl];grind
 ·unfold tZ wZ GE J7 Hm JK AE DI BY EO zS AD;simp only[show cX none=0 from rfl,show cY none=1 from rfl,show cZ none=0 from rfl];grind
theorem acl {p q:nG} (hp:KM p) (hq:KM q):∃r,tO p q r∧KM r:=by
 cases p with
 |none=>exact ⟨q,ia hq,hq⟩
 |some p=>
  cases q with
  |none=>exact ⟨some p,nD (ia (q:=some p) hp),hp⟩
  |some q=>
   rcases Nu hp hq with h|h
   ·have hc:=idC (m:=ab 1) (x1:=p.1) (y1:=p.2) (x2:=q.1) (y2:=q.2) (b:=wB) hp hq
    have hm:=ae 1
    have hk:=j5 hm (tZ (some p) (some q))
    have hlt:qj (ab 1) (tZ (some p) (some q))<ab 1:=by
     unfold qj
     have:=Int.emod_lt_of_pos (tZ (some p) (some q)) (show (0:Int)<(ab 1:Int) by omega)
     have:=Int.emod_nonneg (tZ (some p) (some q)) (show ((ab 1:Nat):Int)≠0 by omega)
     omega
    have hi:=sn (k:=1) (by decide) hlt (fun h0=>h (hk.symm.trans h0))
    generalize (qv 1 (qj (ab 1) (tZ (some p) (some q))):Int)=i at*
    have hzi:C1 (tZ (some p) (some q)*i) 1:=(hk.symm.mul (Cz.refl _ i)).trans hi
    change jk (ab 1) (tY (some p) (some q)*tY (some p) (some q)*tZ (some p) (some q)-(tX (some p) (some q)*tX (some p) (some q)*tX (some p) (some q)-3*tX (some p) (some q)*(tZ (some p) (some q)*tZ (some p) (some q))+wB*(tZ (some p) (some q)*tZ (some p) (some q)*tZ (some p) (some q)))) 0 at hc
    change ¬C1 (tZ (some p) (some q)) 0 at h
    refine ⟨some (tX (some p) (some q)*i,tY (some p) (some q)*i),⟨h,?_,?_⟩,?_⟩
    ·exact hzi.lc1 (-(tX (some p) (some q))) (by show tX (some p) (some q)-tX (some p) (some q)*i*tZ (some p) (some q)=_;grind)
    ·exact hzi.lc1 (-(tY (some p) (some q))) (by show tY (some p) (some q)-tY (some p) (some q)*i*tZ (some p) (some q)=_;grind)
    ·show v5 (tX (some p) (some q)*i) (tY (some p) (some q)*i)
     unfold v5
     generalize tX (some p) (some q)=X at*
     generalize tY (some p) (some q)=Y at*
     generalize tZ (some p) (some q)=Z at*
     have h2:C1 (Z*i*(Z*i)) 1:=(hzi.mul hzi).trans (Cz.of_eq (by omega))
     have h3:C1 (Z*i*(Z*i)*(Z*i)) 1:=(h2.mul hzi).trans (Cz.of_eq (by omega))
     exact Cz.lc4 (m:=ab 1) hc hzi h2 h3 (i*i*i) (-(Y*Y*i*i)) (-(3*X*i)) (wB:Int) (by grind)
   ·exact ⟨none,h,trivial⟩
theorem Ku {p q s a b c d:nG} (hp:KM p) (hq:KM q) (hs:KM s) (h1:tO p q a) (h2:tO a s b) (h3:tO q s c) (h4:tO p c d) (oc:KM c) (oa:KM a):EqO b d:=by
 cases p with
 |none=>
  have e1:=gg h1 (ia hq)
  have e2:=gg h4 (ia oc)
  have h5:=np h2 e1 (EqO.refl s)
  exact (gg h5 h3).trans e2.symm
 |some p=>
  cases q with
  |none=>
   have e1:=gg (nD h1) (ia (q:=some p) hp)
   have e2:=gg h3 (ia hs)
   exact gg (np h2 e1 (EqO.refl s)) (np h4 (EqO.refl _) e2)
  |some q=>
   cases s with
   |none=>
    have e1:=gg (nD h2) (ia oa)
    have e2:=gg (nD h3) (ia (q:=some q) hq)
    exact e1.trans (gg h1 (np h4 (EqO.refl _) e2))
   |some s=>
    have r1:=xt h1 (lq (some s)) h2
    have r2:=xt (lq (some p)) h3 h4
    have k1:=O8 (m:=ab 1) (x1:=p.1) (y1:=p.2) (x2:=q.1) (y2:=q.2) (x3:=s.1) (y3:=s.2) (b:=wB) hp hq hs
    have k2:=NC (m:=ab 1) (x1:=p.1) (y1:=p.2) (x2:=q.1) (y2:=q.2) (x3:=s.1) (y3:=s.2) (b:=wB) hp hq hs
    exact C9 r1 r2 (Cz.lc1 (m:=ab 1) k1 1 (by
     simp only[tX,tY,tZ,cX,cY,cZ]
     omega)) (Cz.lc1 (m:=ab 1) k2 1 (by
     simp only[tX,tY,tZ,cX,cY,cZ]
     omega))
theorem SI {x y:Int} (h:v5 x y):tO (some (x,y)) (some (x,0-y)) none:=by
 have h':v5 x (0-y):=by
  unfold v5 at*
  exact h.lc1 1 (by grind)
 have eZ:wZ wB x y 1 x (0-y) 1=0:=by unfold wZ GE J7 Hm JK AE DI BY EO zS AD;grind
 rcases Nu h h' with h0|h0
 ·exact absurd (Cz.of_eq eZ) h0
 ·exact h0
end Go.Ev
namespace Go.NT
def ajd:List SOp:=[.c 1,.c 3,.mul 2 4,.mul 4 6,.mul 3 3,.mul 5 8,.mul 7 8,.add 1 0,.mul 9 7,.mul 8 12,.add 1 0,.mul 11 10,.mul 11 14,.add 1 0,.mul 20 9,.sub 1 0,.mul 14 0,.sub 13 0,.add 14 1,.mul 17 14,.mul 26 6,.sub 0 1,.sub 0 19,.mul 21 0,.mul 22 21,.sub 0 5,.mul 18 7,.mul 16 3,.sub 1 0,.mul 10 11,.mul 4 6,.add 1 0,.mul 21 14,.mul 25 7,.add 1 0,.sub 37 35,.sub 39 37,.mul 1 1,.mul 0 2,.mul 39 1,.mul 3 3,.sub 0 2,.c 2,.mul 0 3,.sub 2 0,.sub 5 0,.mul 9 0,.mul 48 8,.sub 1 0,.mul 20 11,.mul 5 15,.sub 1 0]
theorem zJX:lG W2 ajd 0=true:=by decide+kernel
theorem bJX:lD W2 ajd 0=true:=by decide+kernel
theorem aqs {m:Nat} {x1 y1 x2 y2 b:Int} (h1:jk m (y1*y1) (x1*x1*x1-3*x1+b)) (h2:jk m (y2*y2) (x2*x2*x2-3*x2+b)):
  jk m ((wX b x1 y1 1 x2 y2 1)*((x2-x1)*(x2-x1))-((y2-y1)*(y2-y1)-(((x2-x1)*(x2-x1))*(x2-x1))-2*(x1*((x2-x1)*(x2-x1))))*(wZ b x1 y1 1 x2 y2 1)) 0:=fN (js _ _ _ _) zJX bJX h1 h2 h1
def afl:List SOp:=[.c 1,.c 3,.mul 2 4,.mul 4 6,.mul 3 3,.mul 5 8,.mul 7 8,.add 1 0,.mul 9 7,.mul 8 12,.add 1 0,.mul 11 10,.mul 11 14,.add 1 0,.mul 20 9,.sub 1 0,.mul 14 0,.sub 13 0,.add 14 1,.mul 17 14,.mul 26 6,.sub 0 1,.sub 0 19,.mul 21 0,.mul 22 21,.sub 0 5,.mul 18 7,.mul 16 3,.sub 1 0,.mul 10 11,.mul 4 6,.add 1 0,.mul 21 14,.mul 25 7,.add 1 0,.sub 37 35,.sub 39 37,.mul 1 1,.mul 0 2,.mul 39 1,.mul 3 3,.sub 0 2,.c 2,.mul 0 3,.sub 2 0,.sub 5 0,.mul 9 0,.mul 48 8,.sub 1 0,.mul 17 10,.mul 1 15,.sub 1 0]
theorem zJY:lG W2 afl 0=true:=by decide+kernel
theorem bJY:lD W2 afl 0=true:=by decide+kernel
theorem alj {m:Nat} {x1 y1 x2 y2 b:Int} (h1:jk m (y1*y1) (x1*x1*x1-3*x1+b)) (h2:jk m (y2*y2) (x2*x2*x2-3*x2+b)):
  jk m ((wY b x1 y1 1 x2 y2 1)*(((x2-x1)*(x2-x1))*(x2-x1))-((y2-y1)*((x1*((x2-x1)*(x2-x1)))-((y2-y1)*(y2-y1)-(((x2-x1)*(x2-x1))*(x2-x1))-2*(x1*((x2-x1)*(x2-x1)))))-y1*(((x2-x1)*(x2-x1))*(x2-x1)))*(wZ b x1 y1 1 x2 y2 1)) 0:=fN (js _ _ _ _) zJY bJY h1 h2 h1
def ajD:List SOp:=[.c 1,.c 3,.mul 2 2,.mul 4 4,.mul 3 3,.mul 5 6,.mul 7 6,.add 1 0,.mul 9 7,.mul 8 10,.add 1 0,.mul 11 10,.mul 11 12,.add 1 0,.mul 20 9,.sub 1 0,.mul 14 0,.sub 13 0,.add 14 1,.mul 17 14,.mul 26 6,.sub 0 1,.sub 0 19,.mul 21 0,.mul 22 21,.sub 0 5,.mul 18 7,.mul 16 3,.sub 1 0,.mul 10 11,.mul 4 6,.add 1 0,.mul 21 14,.mul 25 7,.add 1 0,.mul 36 36,.c 4,.mul 37 1,.mul 1 0,.sub 39 38,.add 40 39,.mul 1 0,.mul 40 0,.mul 0 0,.c 2,.mul 0 6,.sub 2 0,.sub 8 0,.mul 5 0,.c 8,.mul 14 14,.mul 1 0,.sub 3 0,.mul 8 54,.mul 0 7,.sub 26 0]
theorem zTX:lG W2 ajD 0=true:=by decide+kernel
theorem bTX:lD W2 ajD 0=true:=by decide+kernel
theorem aqe {m:Nat} {x1 y1 x2 y2 b:Int} (h1:jk m (y1*y1) (x1*x1*x1-3*x1+b)) (h2:jk m (y2*y2) (x2*x2*x2-3*x2+b)):
  jk m (wX b x1 y1 1 x1 y1 1-2*y1*((3*((x1-1)*(x1+1)))*(3*((x1-1)*(x1+1)))-2*(4*(x1*(y1*y1))))) 0:=fN (js _ _ _ _) zTX bTX h1 h2 h1
def agB:List SOp:=[.c 1,.c 3,.mul 2 2,.mul 4 4,.mul 3 3,.mul 5 6,.mul 7 6,.add 1 0,.mul 9 7,.mul 8 10,.add 1 0,.mul 11 10,.mul 11 12,.add 1 0,.mul 20 9,.sub 1 0,.mul 14 0,.sub 13 0,.add 14 1,.mul 17 14,.mul 26 6,.sub 0 1,.sub 0 19,.mul 21 0,.mul 22 21,.sub 0 5,.mul 18 7,.mul 16 3,.sub 1 0,.mul 10 11,.mul 4 6,.add 1 0,.mul 21 14,.mul 25 7,.add 1 0,.mul 36 36,.c 4,.mul 37 1,.mul 1 0,.sub 39 38,.add 40 39,.mul 1 0,.mul 40 0,.mul 0 0,.c 2,.mul 0 6,.sub 2 0,.sub 8 0,.mul 5 0,.c 8,.mul 14 14,.mul 1 0,.sub 3 0,.sub 21 0]
theorem zTY:lG W2 agB 0=true:=by decide+kernel
theorem bTY:lD W2 agB 0=true:=by decide+kernel
theorem apM {m:Nat} {x1 y1 x2 y2 b:Int} (h1:jk m (y1*y1) (x1*x1*x1-3*x1+b)) (h2:jk m (y2*y2) (x2*x2*x2-3*x2+b)):
  jk m (wY b x1 y1 1 x1 y1 1-((3*((x1-1)*(x1+1)))*((4*(x1*(y1*y1)))-((3*((x1-1)*(x1+1)))*(3*((x1-1)*(x1+1)))-2*(4*(x1*(y1*y1)))))-8*(y1*y1*(y1*y1)))) 0:=fN (js _ _ _ _) zTY bTY h1 h2 h1
end Go.NT
namespace Go.Ev
open Go Go.Proofs Go.RowKit Go.NT
def xP (X Y Z:Int):nG→Prop
 |none=>C1 Z 0
 |some p=>¬C1 Z 0∧C1 X (p.1*(Z*Z))∧C1 Y (p.2*(Z*Z*Z))
def Jy (X Z:Int):Int:=3*((X-Z*Z)*(X+Z*Z))
def Kz (X Y:Int):Int:=4*(X*(Y*Y))
def Jc (X Y Z:Int):Int:=Jy X Z*Jy X Z-2*Kz X Y
def Of (X Y Z:Int):Int:=Jy X Z*(Kz X Y-Jc X Y Z)-8*(Y*Y*(Y*Y))
def jdZ (Y Z:Int):Int:=2*(Y*Z)
def Ky (u s t v:Int):Int:=(v-t)*(v-t)-(s-u)*(s-u)*(s-u)-2*(u*((s-u)*(s-u)))
def PJ (u s t v:Int):Int:=(v-t)*(u*((s-u)*(s-u))-Ky u s t v)-t*((s-u)*(s-u)*(s-u))
theorem adM (x y Z:Int):Jc (x*(Z*Z)) (y*(Z*Z*Z)) Z=Z*Z*(Z*Z)*(Z*Z*(Z*Z))*Jc x y 1:=by
 unfold Jc Jy Kz;grind
theorem ad2 (x y Z:Int):Of (x*(Z*Z)) (y*(Z*Z*Z)) Z=Z*Z*(Z*Z)*(Z*Z*(Z*Z))*(Z*Z*(Z*Z))*Of x y 1:=by
 unfold Of Jc Jy Kz;grind
theorem adh (u s t v w:Int):Ky (u*(w*w)) (s*(w*w)) (t*(w*w*w)) (v*(w*w*w))=w*w*w*(w*w*w)*Ky u s t v:=by
 unfold Ky;grind
theorem aaY (u s t v w:Int):PJ (u*(w*w)) (s*(w*w)) (t*(w*w*w)) (v*(w*w*w))=w*w*w*(w*w*w)*(w*w*w)*PJ u s t v:=by
 unfold PJ Ky;grind
section
variable {m:Nat} {a b c d a' b' c' d':Int} (ha:Cz m a a') (hb:Cz m b b')
include ha hb
theorem WQ (Z:Int):Cz m (Jc a b Z) (Jc a' b' Z):=by
 have h1:Cz m (Jy a Z) (Jy a' Z):=(Cz.refl m 3).mul ((ha.sub (Cz.refl _ _)).mul (ha.add (Cz.refl _ _)))
 have h2:Cz m (Kz a b) (Kz a' b'):=(Cz.refl m 4).mul (ha.mul (hb.mul hb))
 exact (h1.mul h1).sub ((Cz.refl m 2).mul h2)
theorem aeP (Z:Int):Cz m (Of a b Z) (Of a' b' Z):=by
 have h1:Cz m (Jy a Z) (Jy a' Z):=(Cz.refl m 3).mul ((ha.sub (Cz.refl _ _)).mul (ha.add (Cz.refl _ _)))
 have h2:Cz m (Kz a b) (Kz a' b'):=(Cz.refl m 4).mul (ha.mul (hb.mul hb))
 exact (h1.mul (h2.sub (WQ ha hb Z))).sub ((Cz.refl m 8).mul ((hb.mul hb).mul (hb.mul hb)))
variable (hc:Cz m c c') (hd:Cz m d d')
include hc hd
theorem Xa:Cz m (Ky a b c d) (Ky a' b' c' d'):=by
 have h:=hb.sub ha
 have k:=hd.sub hc
 exact ((k.mul k).sub ((h.mul h).mul h)).sub ((Cz.refl m 2).mul (ha.mul (h.mul h)))
theorem agR:Cz m (PJ a b c d) (PJ a' b' c' d'):=by
 have h:=hb.sub ha
 have k:=hd.sub hc
 exact (k.mul ((ha.mul (h.mul h)).sub (Xa ha hb hc hd))).sub (hc.mul ((h.mul h).mul h))
end
theorem OT {X Y Z:Int} {p r:nG} (h:xP X Y Z p) (hz:¬C1 Z 0) (ho:KM p) (hs:tO p p r):xP (Jc X Y Z) (Of X Y Z) (jdZ Y Z) r:=by
 cases p with
 |none=>exact absurd h hz
 |some p=>
  obtain ⟨x,y⟩:=p
  obtain ⟨_,hX,hY⟩:=h
  change C1 X (x*(Z*Z)) at hX
  change C1 Y (y*(Z*Z*Z)) at hY
  have ho':v5 x y:=ho
  have hy:=Lz ho'
  have h1:C1 (tX (some (x,y)) (some (x,y))-2*y*Jc x y 1) 0:=Cz.lc1 (m:=ab 1) (aqe (m:=ab 1) (x2:=x) (y2:=y) (b:=wB) ho' ho') 1 (by unfold Jc Jy Kz tX cX cY cZ;grind)
  have h2:C1 (tY (some (x,y)) (some (x,y))-Of x y 1) 0:=Cz.lc1 (m:=ab 1) (apM (m:=ab 1) (x2:=x) (y2:=y) (b:=wB) ho' ho') 1 (by unfold Of Jc Jy Kz tY cX cY cZ;grind)
  have h3:C1 (tZ (some (x,y)) (some (x,y))-8*(y*y*y)) 0:=idD (m:=ab 1) (x2:=x) (y2:=y) (b:=wB) ho' ho'
  have h8:¬C1 (8*(y*y*y)) 0:=fun h0=>ck (ck i7 (ck i7 i7)) (ck (ck hy hy) hy) (h0.lc1 1 (by omega))
  unfold tO at hs
  generalize tX (some (x,y)) (some (x,y))=A at*
  generalize tY (some (x,y)) (some (x,y))=B at*
  generalize tZ (some (x,y)) (some (x,y))=C at*
  cases r with
  |none=>exact absurd (hs.2.2.lc2 h3 1 (-1) (by omega)) h8
  |some r=>
   obtain ⟨_,g1,g2⟩:=hs
   have k1:C1 (Jc x y 1) (r.1*(4*(y*y))):=by
    refine eR ON (a:=2*y) ?_ (ck i7 hy)
    exact h1.lc3 g1 h3 (-1) 1 r.1 (by grind)
   have k2:C1 (Of x y 1) (r.2*(8*(y*y*y))):=h2.lc3 g2 h3 (-1) 1 r.2 (by grind)
   have hz2:C1 (jdZ Y Z) (2*y*(Z*Z*(Z*Z))):=hY.lc1 (2*Z) (by unfold jdZ;grind)
   refine ⟨fun h0=>ck (ck i7 hy) (ck (ck hz hz) (ck hz hz)) (hz2.symm.trans h0),?_,?_⟩
   ·refine ((WQ hX hY Z).trans (Cz.of_eq (adM x y Z))).trans ?_
    exact k1.lc2 (hz2.mul hz2) (Z*Z*(Z*Z)*(Z*Z*(Z*Z))) (-r.1) (by grind)
   ·refine ((aeP hX hY Z).trans (Cz.of_eq (ad2 x y Z))).trans ?_
    exact k2.lc2 ((hz2.mul hz2).mul hz2) (Z*Z*(Z*Z)*(Z*Z*(Z*Z))*(Z*Z*(Z*Z))) (-r.2) (by grind)
theorem Fk {u s t v w x1 y1 x2 y2:Int} {r:nG} (hw:¬C1 w 0) (hu:C1 u (x1*(w*w))) (hs:C1 s (x2*(w*w))) (ht:C1 t (y1*(w*w*w))) (hv:C1 v (y2*(w*w*w)))
  (o1:v5 x1 y1) (o2:v5 x2 y2) (hne:¬C1 u s) (h:tO (some (x1,y1)) (some (x2,y2)) r):xP (Ky u s t v) (PJ u s t v) ((s-u)*w) r:=by
 have hx:¬C1 (x2-x1) 0:=fun h0=>hne (hu.lc3 hs h0 1 (-1) (-(w*w)) (by grind))
 have h1:C1 (tX (some (x1,y1)) (some (x2,y2))*((x2-x1)*(x2-x1))-Ky x1 x2 y1 y2*tZ (some (x1,y1)) (some (x2,y2))) 0:=aqs (m:=ab 1) (b:=wB) o1 o2
 have h2:C1 (tY (some (x1,y1)) (some (x2,y2))*((x2-x1)*(x2-x1)*(x2-x1))-PJ x1 x2 y1 y2*tZ (some (x1,y1)) (some (x2,y2))) 0:=alj (m:=ab 1) (b:=wB) o1 o2
 unfold tO at h
 generalize tX (some (x1,y1)) (some (x2,y2))=A at*
 generalize tY (some (x1,y1)) (some (x2,y2))=B at*
 generalize tZ (some (x1,y1)) (some (x2,y2))=C at*
 generalize hH:x2-x1=H at*
 have hsu:C1 (s-u) (H*(w*w)):=(hs.sub hu).trans (Cz.of_eq (by grind))
 cases r with
 |none=>
  obtain ⟨_,g1,g2⟩:=h
  have h3:C1 (B*(H*H*H)) 0:=h2.lc2 g2 1 (PJ x1 x2 y1 y2) (by grind)
  exact absurd h3 (ck g1 (ck (ck hx hx) hx))
 |some r=>
  obtain ⟨g0,g1,g2⟩:=h
  have k1:C1 (Ky x1 x2 y1 y2) (r.1*(H*H)):=by
   refine eR ON (a:=C) ?_ g0
   exact h1.lc2 g1 (-1) (H*H) (by grind)
  have k2:C1 (PJ x1 x2 y1 y2) (r.2*(H*H*H)):=by
   refine eR ON (a:=C) ?_ g0
   exact h2.lc2 g2 (-1) (H*H*H) (by grind)
  have hz:C1 ((s-u)*w) (H*(w*w*w)):=hsu.lc1 w (by grind)
  refine ⟨fun h0=>ck hx (ck (ck hw hw) hw) (hz.symm.trans h0),?_,?_⟩
  ·refine ((Xa hu hs ht hv).trans (Cz.of_eq (adh x1 x2 y1 y2 w))).trans ?_
   exact k1.lc2 (hz.mul hz) (w*w*w*(w*w*w)) (-r.1) (by grind)
  ·refine ((agR hu hs ht hv).trans (Cz.of_eq (aaY x1 x2 y1 y2 w))).trans ?_
   exact k2.lc2 ((hz.mul hz).mul hz) (w*w*w*(w*w*w)*(w*w*w)) (-r.2) (by grind)
theorem Hk {x1 y1 x2 y2:Int} {r:nG} (o1:v5 x1 y1) (o2:v5 x2 y2) (hx:C1 x1 x2) (hy:¬C1 y1 y2) (h:tO (some (x1,y1)) (some (x2,y2)) r):r=none:=by
 have h3:C1 ((y1-y2)*(y1+y2)) 0:=by
  unfold v5 at o1 o2
  exact o1.lc3 o2 hx 1 (-1) (x1*x1+x1*x2+x2*x2-3) (by grind)
 rcases gZ ON h3 with h4|h4
 ·exact absurd (h4.lc1 1 (by omega)) hy
 ·have h5:EqO (some (x2,y2)) (some (x1,0-y1)):=⟨hx.symm,h4.lc1 1 (by show y2-(0-y1)=_;omega)⟩
  have:=gg (np h (EqO.refl _) h5) (SI o1)
  cases r with
  |none=>rfl
  |some r=>exact this.elim
theorem Kw {X Y Z i:Int} {p:Int×Int} (h:xP X Y Z (some p)) (hi:C1 (Z*i) 1):C1 (X*(i*i)) p.1∧C1 (Y*(i*i*i)) p.2:=by
 obtain ⟨_,h1,h2⟩:=h
 have h3:C1 (Z*i*(Z*i)) 1:=(hi.mul hi).trans (Cz.of_eq (by omega))
 have h4:C1 (Z*i*(Z*i)*(Z*i)) 1:=(h3.mul hi).trans (Cz.of_eq (by omega))
 exact ⟨h1.lc2 h3 (i*i) p.1 (by grind),h2.lc2 h4 (i*i*i) p.2 (by grind)⟩
theorem J5 {X Y Z i:Int} {p:Int×Int} (h:mZ X Y Z (some p)) (hi:C1 (Z*i) 1):C1 (X*i) p.1∧C1 (Y*i) p.2:=by
 obtain ⟨_,h1,h2⟩:=h
 exact ⟨h1.lc2 hi i p.1 (by grind),h2.lc2 hi i p.2 (by grind)⟩
noncomputable def dv (a:Nat):Int:=((ci (ab 1) a:Nat):Int)
theorem q1:bc (ab 1) (aT 1):=aK (by decide)
theorem dk {a b:Nat} (ha:a<ab 1) (hb:b<ab 1):C1 (dv (ap (ab 1) a b)) (dv a*dv b):=by
 have h:=eO (k:=1) (by decide) (ci (ab 1) a) (ci (ab 1) b)
 rw[k9 (aj 1) q1 ha,k9 (aj 1) q1 hb] at h
 unfold dv
 rw[h,fi (aj 1) q1 (bi (ae 1))]
 exact ei _ _
theorem fB {a b:Nat} (ha:a<ab 1) (hb:b<ab 1):C1 (dv (addM (ab 1) a b)) (dv a+dv b):=by
 have h:=gQ (m:=ab 1) (ci (ab 1) a) (ci (ab 1) b)
 rw[k9 (aj 1) q1 ha,k9 (aj 1) q1 hb] at h
 unfold dv
 rw[h,fi (aj 1) q1 (ao (ae 1))]
 exact jp _ _
theorem f9 {a b:Nat} (ha:a<ab 1) (hb:b<ab 1):C1 (dv (aw (ab 1) a b)) (dv a-dv b):=by
 have ho:=bj (m:=ab 1) (c:=b) (ae 1)
 have h:=my (m:=ab 1) (ae 1) (a:=ci (ab 1) a) ho
 rw[k9 (aj 1) q1 ha,k9 (aj 1) q1 hb] at h
 unfold dv
 rw[h,fi (aj 1) q1 (av (ae 1))]
 exact lf ho
theorem tj {x:Nat} (hx:x<ab 1):dv (aq (ab 1) x)=x:=by unfold dv;rw[fi (aj 1) q1 hx]
theorem MW:dv 0=0:=by
 have h:=tj (ae 1)
 rw[jw,Nat.zero_mul,Nat.zero_mod] at h
 exact h
theorem Fl {a b:Nat} (ha:a<ab 1) (hb:b<ab 1) (h:C1 (dv a) (dv b)):a=b:=by
 have h1:=Cz.nat (bj (m:=ab 1) (c:=a) (ae 1)) (bj (m:=ab 1) (c:=b) (ae 1)) h
 rw[←k9 (aj 1) q1 ha,h1,k9 (aj 1) q1 hb]
theorem iw {a:Nat} (ha:a<ab 1):C1 (dv a) 0↔a=0:=by
 constructor
 ·intro h
  rw[←MW] at h
  exact Fl ha (ae 1) h
 ·rintro rfl
  rw[MW];exact Cz.refl _ _
theorem Gk:dv (aq (ab 1) 1)=1:=tj (a9 1)
theorem MS {a:Nat} (ha:a<ab 1) (h:a≠0):C1 (dv a*dv (cI (ab 1) a)) 1:=by
 have ho:=bj (m:=ab 1) (c:=a) (ae 1)
 have h1:=sn (k:=1) (by decide) ho (fun h0=>h ((iw ha).1 h0))
 have e:dv (cI (ab 1) a)=((qv 1 (ci (ab 1) a):Nat):Int):=by
  unfold cI
  rw[i6,tj (show Go.NT.pwM _ _ _<ab 1 from Nat.mod_lt _ (ae 1))]
  rfl
 rw[e];exact h1
theorem Gt {a b c d e f:Nat} (ha:a<ab 1) (hb:b<ab 1) (hc:c<ab 1) (hd:d<ab 1) (he:e<ab 1) (hf:f<ab 1):C1 (dv (kF a b c d e f)) ((dv a+dv b)*(dv c+dv d)-(dv e+dv f)):=by
 unfold kF
 have hm:=ae 1
 exact (f9 (ai hm) (ao hm)).trans (((dk (ao hm) (ao hm)).trans ((fB ha hb).mul (fB hc hd))).sub (fB he hf))
theorem AR {a:Nat} (ha:a<ab 1):C1 (dv (fK a)) (3*dv a):=by
 unfold fK
 have hm:=ae 1
 exact ((fB (ao hm) ha).trans ((fB ha ha).add (Cz.refl _ _))).trans (Cz.of_eq (by omega))
theorem WU:dv eL=wB:=tj rJ
section
variable {p q:J3} (hp:p.lt) (hq:q.lt)
include hp hq
theorem dXX:C1 (dv (mXX p q)) (zS (dv p.x) (dv p.y) (dv p.z) (dv q.x) (dv q.y) (dv q.z)):=dk hp.1 hq.1
theorem dYY:C1 (dv (mYY p q)) (AE (dv p.x) (dv p.y) (dv p.z) (dv q.x) (dv q.y) (dv q.z)):=dk hp.2.1 hq.2.1
theorem dZZ:C1 (dv (mZZ p q)) (AD (dv p.x) (dv p.y) (dv p.z) (dv q.x) (dv q.y) (dv q.z)):=dk hp.2.2 hq.2.2
theorem dXY:C1 (dv (mXY p q)) (Hm (dv p.x) (dv p.y) (dv p.z) (dv q.x) (dv q.y) (dv q.z)):=
 ((Gt hp.1 hp.2.1 hq.1 hq.2.1 (ai (ae 1)) (ai (ae 1))).trans ((Cz.refl _ _).sub ((dXX hp hq).add (dYY hp hq)))).trans (Cz.of_eq (by unfold Hm zS AE;grind))
theorem dYZ:C1 (dv (mYZ p q)) (GE (dv p.x) (dv p.y) (dv p.z) (dv q.x) (dv q.y) (dv q.z)):=
 ((Gt hp.2.1 hp.2.2 hq.2.1 hq.2.2 (ai (ae 1)) (ai (ae 1))).trans ((Cz.refl _ _).sub ((dYY hp hq).add (dZZ hp hq)))).trans (Cz.of_eq (by unfold GE AE AD;grind))
theorem dXZ:C1 (dv (mXZ p q)) (BY (dv p.x) (dv p.y) (dv p.z) (dv q.x) (dv q.y) (dv q.z)):=
 ((Gt hp.1 hp.2.2 hq.1 hq.2.2 (ai (ae 1)) (ai (ae 1))).trans ((Cz.refl _ _).sub ((dXX hp hq).add (dZZ hp hq)))).trans (Cz.of_eq (by unfold BY zS AD;grind))
theorem dSi:C1 (dv (mSi p q)) (DI wB (dv p.x) (dv p.y) (dv p.z) (dv q.x) (dv q.y) (dv q.z)):=by
 have hm:=ae 1
 have h:=(dk li (ai hm)).trans ((Cz.of_eq WU).mul (dZZ hp hq))
 exact (AR (av hm)).trans ((Cz.refl _ 3).mul ((f9 fX (ai hm)).trans ((dXZ hp hq).sub h)))
theorem dLe:C1 (dv (mLe p q)) (J7 wB (dv p.x) (dv p.y) (dv p.z) (dv q.x) (dv q.y) (dv q.z)):=(f9 (ai (ae 1)) fh).trans ((dYY hp hq).sub (dSi hp hq))
theorem dRi:C1 (dv (mRi p q)) (KH wB (dv p.x) (dv p.y) (dv p.z) (dv q.x) (dv q.y) (dv q.z)):=(fB (ai (ae 1)) fh).trans ((dYY hp hq).add (dSi hp hq))
theorem dZ3:C1 (dv (mZ3 p q)) (EO (dv p.x) (dv p.y) (dv p.z) (dv q.x) (dv q.y) (dv q.z)):=(AR (ai (ae 1))).trans ((Cz.refl _ 3).mul (dZZ hp hq))
theorem dMM:C1 (dv (mMM p q)) (KE wB (dv p.x) (dv p.y) (dv p.z) (dv q.x) (dv q.y) (dv q.z)):=by
 have hm:=ae 1
 have h:=(dk li fX).trans ((Cz.of_eq WU).mul (dXZ hp hq))
 exact (AR (av hm)).trans ((Cz.refl _ 3).mul ((f9 (av hm) (ai hm)).trans (((f9 (ai hm) fh).trans (h.sub (dZ3 hp hq))).sub (dXX hp hq))))
theorem dNN:C1 (dv (mNN p q)) (JK (dv p.x) (dv p.y) (dv p.z) (dv q.x) (dv q.y) (dv q.z)):=
 (f9 fh fh).trans (((AR (ai (ae 1))).trans ((Cz.refl _ 3).mul (dXX hp hq))).sub (dZ3 hp hq))
theorem dAx:C1 (dv (kp p q).x) (wX wB (dv p.x) (dv p.y) (dv p.z) (dv q.x) (dv q.y) (dv q.z)):=by
 have hm:=ae 1
 exact (f9 (ai hm) (ai hm)).trans (((dk fX (ao hm)).trans ((dXY hp hq).mul (dRi hp hq))).sub ((dk fX fh).trans ((dYZ hp hq).mul (dMM hp hq))))
theorem dAy:C1 (dv (kp p q).y) (wY wB (dv p.x) (dv p.y) (dv p.z) (dv q.x) (dv q.y) (dv q.z)):=by
 have hm:=ae 1
 exact (fB (ai hm) (ai hm)).trans (((dk (ao hm) (av hm)).trans ((dRi hp hq).mul (dLe hp hq))).add ((dk (av hm) fh).trans ((dNN hp hq).mul (dMM hp hq))))
theorem dAz:C1 (dv (kp p q).z) (wZ wB (dv p.x) (dv p.y) (dv p.z) (dv q.x) (dv q.y) (dv q.z)):=by
 have hm:=ae 1
 exact (fB (ai hm) (ai hm)).trans (((dk fX (av hm)).trans ((dYZ hp hq).mul (dLe hp hq))).add ((dk fX (av hm)).trans ((dXY hp hq).mul (dNN hp hq))))
end
structure Sp where
 x:Nat
 y:Nat
 i:Bool
def Sp.o (s:Sp):nG:=match s.i with|true=>none|false=>some ((s.x:Int),(s.y:Int))
def Sp.on (s:Sp):Prop:=jC s.x s.y s.i=true
def sNo:Sp:=⟨0,0,true⟩
theorem A2 {x y:Nat} (_hx:x<ab 1) (_hy:y<ab 1):eqW x y=true↔v5 x y:=by
 have hm:=ae 1
 rw[AG,decide_eq_true_iff]
 have h1:=ei (m:=ab 1) y y
 have h2:C1 (E8 x:Nat) ((x:Int)*x*x-3*x+wB):=by
  unfold E8
  exact (jp _ _).trans (((lf (ao hm)).trans (((ei _ _).trans ((Cz.refl _ _).mul (ei x x))).sub ((jp _ _).trans ((Cz.refl _ _).add (jp x x))))).add (Cz.refl _ _)|>.trans (Cz.of_eq (by show (x:Int)*(x*x)-(x+(x+x))+(wB:Int)=_;grind)))
 unfold v5
 constructor
 ·intro h
  rw[h] at h1
  exact h1.symm.trans h2
 ·intro h
  exact Cz.nat (bi hm) (pq x) ((h1.trans h).trans h2.symm)
theorem Sp.on_some {x y:Nat}:Sp.on ⟨x,y,false⟩↔x<ab 1∧y<ab 1∧v5 x y:=by
 unfold Sp.on jC ltW
 simp only[cond_false,Bool.and_eq_true,decide_eq_true_iff]
 constructor
 ·rintro ⟨⟨a,b⟩,c⟩;exact ⟨a,b,(A2 a b).1 c⟩
 ·rintro ⟨a,b,c⟩;exact ⟨⟨a,b⟩,(A2 a b).2 c⟩
theorem Sp.on_none {x y:Nat}:Sp.on ⟨x,y,true⟩↔x=0∧y=0:=by
 unfold Sp.on jC
 simp only[cond_true,Bool.and_eq_true,decide_eq_true_iff]
theorem nt:sNo.on:=Sp.on_none.2 ⟨rfl,rfl⟩
theorem Sp.on.O {s:Sp} (h:s.on):KM s.o:=by
 obtain ⟨x,y,i⟩:=s
 cases i with
 |true=>trivial
 |false=>exact (Sp.on_some.1 h).2.2
theorem Sp.on.lt {s:Sp} (h:s.on):s.i=true∨(s.x<ab 1∧s.y<ab 1):=by
 obtain ⟨x,y,i⟩:=s
 cases i with
 |true=>exact .inl rfl
 |false=>exact .inr ⟨(Sp.on_some.1 h).1,(Sp.on_some.1 h).2.1⟩
theorem Sp.on.lx {s:Sp} (h:s.on):s.x<ab 1:=by
 obtain ⟨x,y,i⟩:=s
 cases i with
 |true=>obtain ⟨rfl,rfl⟩:=Sp.on_none.1 h;exact ae 1
 |false=>exact (Sp.on_some.1 h).1
theorem Sp.on.ly {s:Sp} (h:s.on):s.y<ab 1:=by
 obtain ⟨x,y,i⟩:=s
 cases i with
 |true=>obtain ⟨rfl,rfl⟩:=Sp.on_none.1 h;exact ae 1
 |false=>exact (Sp.on_some.1 h).2.1
theorem Sp.on.eq {s t:Sp} (hs:s.on) (ht:t.on) (h:EqO s.o t.o):s=t:=by
 obtain ⟨x,y,i⟩:=s
 obtain ⟨u,v,j⟩:=t
 cases i with
 |true=>
  cases j with
  |true=>
   obtain ⟨rfl,rfl⟩:=Sp.on_none.1 hs
   obtain ⟨rfl,rfl⟩:=Sp.on_none.1 ht
   rfl
  |false=>exact h.elim
 |false=>
  cases j with
  |true=>exact h.elim
  |false=>
   obtain ⟨a,b,_⟩:=Sp.on_some.1 hs
   obtain ⟨c,d,_⟩:=Sp.on_some.1 ht
   rw[Cz.nat a c h.1,Cz.nat b d h.2]
theorem Jx {X Y Z:Int} {p q:nG} (h:mZ X Y Z p) (e:EqO p q):mZ X Y Z q:=by
 cases p with
 |none=>
  cases q with
  |none=>exact h
  |some q=>exact e.elim
 |some p=>
  cases q with
  |none=>exact e.elim
  |some q=>exact ⟨h.1,h.2.1.trans (e.1.mul (Cz.refl _ _)),h.2.2.trans (e.2.mul (Cz.refl _ _))⟩
theorem ab8 {X Y Z X' Y' Z':Int} {p:nG} (h:mZ X Y Z p) (hx:C1 X' X) (hy:C1 Y' Y) (hz:C1 Z' Z):mZ X' Y' Z' p:=
 uf mz h (hx.trans (Cz.of_eq (by omega))) (hy.trans (Cz.of_eq (by omega))) (hz.trans (Cz.of_eq (by omega)))
theorem Ji (z:Int):qj (ab 1) z<ab 1:=by
 have hm:=ae 1
 unfold qj
 have:=Int.emod_lt_of_pos z (show (0:Int)<(ab 1:Int) by omega)
 have:=Int.emod_nonneg z (show ((ab 1:Nat):Int)≠0 by omega)
 omega
theorem GJ {s t:Sp} (hs:s.on) (ht:t.on):∃r:Sp,r.on∧tO s.o t.o r.o:=by
 obtain ⟨r,h,ho⟩:=acl hs.O ht.O
 cases r with
 |none=>exact ⟨sNo,nt,h⟩
 |some r=>
  have h1:=j5 (ae 1) r.1
  have h2:=j5 (ae 1) r.2
  refine ⟨⟨qj (ab 1) r.1,qj (ab 1) r.2,false⟩,Sp.on_some.2 ⟨Ji _,Ji _,?_⟩,Jx h ⟨h1.symm,h2.symm⟩⟩
  have ho':v5 r.1 r.2:=ho
  unfold v5 at*
  exact ((h2.mul h2).trans ho').trans ((((h1.mul h1).mul h1).sub ((Cz.refl _ 3).mul h1)).add (Cz.refl _ _)).symm
noncomputable def iC (s t:Sp):Sp:= @dite Sp (∃r:Sp,r.on∧tO s.o t.o r.o) (Classical.propDecidable _) (fun h=>Classical.choose h) (fun _=>sNo)
theorem yr {s t:Sp} (hs:s.on) (ht:t.on):(iC s t).on∧tO s.o t.o (iC s t).o:=by
 have h:=GJ hs ht
 unfold iC
 rw[dif_pos h]
 exact Classical.choose_spec h
theorem ib {s t:Sp} (hs:s.on) (ht:t.on):(iC s t).on:=(yr hs ht).1
theorem jB {s t:Sp} (hs:s.on) (ht:t.on):tO s.o t.o (iC s t).o:=(yr hs ht).2
theorem Ij {s t r:Sp} (hs:s.on) (ht:t.on) (hr:r.on) (h:tO s.o t.o r.o):iC s t=r:=(ib hs ht).eq hr (gg (jB hs ht) h)
theorem JG {s t:Sp} (hs:s.on) (ht:t.on):iC s t=iC t s:=Ij hs ht (ib ht hs) (nD (jB ht hs))
theorem F0 {s t r:Sp} (hs:s.on) (ht:t.on) (hr:r.on):iC (iC s t) r=iC s (iC t r):=by
 have h1:=ib hs ht
 have h2:=ib ht hr
 exact (ib h1 hr).eq (ib hs h2) (Ku hs.O ht.O hr.O (jB hs ht) (jB h1 hr) (jB ht hr) (jB hs h2) h2.O h1.O)
theorem qV {s:Sp} (hs:s.on):iC sNo s=s:=Ij nt hs hs (ia hs.O)
theorem Bx {s:Sp} (hs:s.on):iC s sNo=s:=by rw[JG hs nt,qV hs]
def CB (s:Sp):Sp:=⟨s.x,aw (ab 1) 0 s.y,s.i⟩
theorem As {s:Sp} (h:s.on):(CB s).on:=by
 obtain ⟨x,y,i⟩:=s
 cases i with
 |true=>
  obtain ⟨rfl,rfl⟩:=Sp.on_none.1 h
  refine Sp.on_none.2 ⟨rfl,?_⟩
  show (0+ab 1-0)%ab 1=0
  rw[Nat.zero_add,Nat.sub_zero,Nat.mod_self]
 |false=>
  obtain ⟨a,b,c⟩:=Sp.on_some.1 h
  refine Sp.on_some.2 ⟨a,av (ae 1),?_⟩
  have h1:=lf (m:=ab 1) (x:=0) b
  unfold v5 at*
  exact ((h1.mul h1).trans (Cz.of_eq (by show (((0:Nat):Int)-y)*(((0:Nat):Int)-y)=(y:Int)*y;grind))).trans c
noncomputable def gr (s:Sp):Nat→Sp
 |0=>sNo
 |k+1=>iC (gr s k) s
theorem dL {s:Sp} (h:s.on):∀k,(gr s k).on
 |0=>nt
 |k+1=>ib (dL h k) h
theorem vG {s:Sp} (h:s.on) (a:Nat):∀b,gr s (a+b)=iC (gr s a) (gr s b)
 |0=>(Bx (dL h a)).symm
 |b+1=>by
  show iC (gr s (a+b)) s=iC (gr s a) (iC (gr s b) s)
  rw[vG h a b,F0 (dL h a) (dL h b) h]
def RW (x:J3) (s:Sp):Prop:=x.lt∧mZ (dv x.x) (dv x.y) (dv x.z) s.o
def RJ (x:J3) (s:Sp):Prop:=x.lt∧xP (dv x.x) (dv x.y) (dv x.z) s.o
theorem FC {x y:J3} {s t:Sp} (hs:s.on) (ht:t.on) (hx:RW x s) (hy:RW y t):RW (kp x y) (iC s t):=
 ⟨uu x y,ab8 (xt hx.2 hy.2 (jB hs ht)) (dAx hx.1 hy.1) (dAy hx.1 hy.1) (dAz hx.1 hy.1)⟩
theorem uJ {s:Sp} (hs:s.on):RW (dj s.x s.y s.i) s:=by
 obtain ⟨x,y,i⟩:=s
 refine ⟨lQ _ _ _,?_⟩
 cases i with
 |true=>
  show mZ (dv 0) (dv (aq (ab 1) 1)) (dv 0) none
  rw[MW,Gk]
  exact lq none
 |false=>
  obtain ⟨a,b,c⟩:=Sp.on_some.1 hs
  show mZ (dv (aq (ab 1) x)) (dv (aq (ab 1) y)) (dv (aq (ab 1) 1)) (some ((x:Int),(y:Int)))
  rw[tj a,tj b,Gk]
  exact lq (some ((x:Int),(y:Int)))
theorem Ir {x:J3} {s:Sp} (hs:s.on) (h:RW x s):YS x=s.x∧wDy x=s.y∧Jg x=s.i:=by
 obtain ⟨u,v,i⟩:=s
 obtain ⟨hl,h⟩:=h
 have hm:=ae 1
 unfold YS wDy Jg
 cases i with
 |true=>
  obtain ⟨rfl,rfl⟩:=Sp.on_none.1 hs
  rw[decide_eq_true ((iw hl.2.2).1 h.2.2)]
  exact ⟨rfl,rfl,rfl⟩
 |false=>
  obtain ⟨a,b,c⟩:=Sp.on_some.1 hs
  have h0:¬x.z=0:=fun h0=>h.1 ((iw hl.2.2).2 h0)
  have hi:=MS hl.2.2 h0
  obtain ⟨k1,k2⟩:=J5 h hi
  rw[decide_eq_false h0,cond_false,cond_false]
  refine ⟨?_,?_,rfl⟩
  ·exact Cz.nat (bj hm) a (Cz.trans (dk hl.1 (cg hm)) k1)
  ·exact Cz.nat (bj hm) b (Cz.trans (dk hl.2.1 (cg hm)) k2)
theorem Uv {k j:Nat} {p x:J3} {s:Sp} {a:Nat} (hs:s.on) (hp:RW p s) (hx:RW x (gr s a)):RW (ph k p j x) (gr s (2*a+dw k j)):=by
 have h1:=FC (dL hs a) (dL hs a) hx hx
 rw[←vG hs a a,←Nat.two_mul] at h1
 unfold ph eY
 have hb:=kY k j
 by_cases h:dw k j=1
 ·rw[decide_eq_true h,cond_true,h]
  exact FC (dL hs (2*a)) hs h1 hp
 ·rw[decide_eq_false h,cond_false,show dw k j=0 by omega]
  exact h1
theorem y5 {k:Nat} {p:J3} {s:Sp} (hs:s.on) (hp:RW p s):∀(j:Nat) (x:J3) (a:Nat),RW x (gr s a)→a=k/2^j→RW (lS k p j x) (gr s k)
 |0,x,a,hx,ha=>by
  rw[Nat.pow_zero,Nat.div_one] at ha
  subst ha;exact hx
 |j+1,x,a,hx,ha=>by
  refine y5 hs hp j (ph k p j x) (2*a+dw k j) (Uv hs hp hx) ?_
  subst ha
  unfold dw
  rw[Nat.pow_succ,←Nat.div_div_eq_div_mul]
  omega
theorem vd {k:Nat} (hk:k<4294967296^8) {p:J3} {s:Sp} (hs:s.on) (hp:RW p s):RW (gj k p) (gr s k):=by
 refine y5 hs hp _ _ 0 ?_ ?_
 ·exact uJ nt
 ·rw[Nat.div_eq_of_lt (fU hk).1]
theorem NN {X Y Z X' Y' Z':Int} {p:nG} (h:xP X Y Z p) (hx:C1 X' X) (hy:C1 Y' Y) (hz:C1 Z' Z):xP X' Y' Z' p:=by
 cases p with
 |none=>exact hz.trans h
 |some p=>
  obtain ⟨h1,h2,h3⟩:=h
  have hz2:=hz.mul hz
  exact ⟨fun h0=>h1 (hz.symm.trans h0),(hx.trans h2).trans ((Cz.refl _ _).mul hz2.symm),(hy.trans h3).trans ((Cz.refl _ _).mul (hz2.mul hz).symm)⟩
theorem om {X Y Z:Int} {s:Sp} (hs:s.on) (h:xP X Y Z s.o) (hz:C1 Z 0):s=sNo:=by
 obtain ⟨x,y,i⟩:=s
 cases i with
 |true=>obtain ⟨rfl,rfl⟩:=Sp.on_none.1 hs;rfl
 |false=>exact absurd hz h.1
theorem sQ {X Y Z:Int} {s:Sp} (hs:s.on) (h:xP X Y Z s.o) (hz:¬C1 Z 0):∃x y:Nat,s=⟨x,y,false⟩∧v5 x y∧C1 X (x*(Z*Z))∧C1 Y (y*(Z*Z*Z)):=by
 obtain ⟨x,y,i⟩:=s
 cases i with
 |true=>exact absurd h hz
 |false=>exact ⟨x,y,rfl,(Sp.on_some.1 hs).2.2,h.2.1,h.2.2⟩
theorem ui {s:Sp} (hs:s.on):RJ (ek s.x s.y s.i) s:=by
 obtain ⟨x,y,i⟩:=s
 refine ⟨lI _ _ _,?_⟩
 cases i with
 |true=>
  show C1 (dv 0) 0
  rw[MW];exact Cz.refl _ _
 |false=>
  obtain ⟨a,b,c⟩:=Sp.on_some.1 hs
  show xP (dv (aq (ab 1) x)) (dv (aq (ab 1) y)) (dv (aq (ab 1) 1)) (some ((x:Int),(y:Int)))
  rw[tj a,tj b,Gk]
  exact ⟨mz,Cz.of_eq (by show (x:Int)=x*(1*1);omega),Cz.of_eq (by show (y:Int)=y*(1*1*1);omega)⟩
section
variable {p:J3} (hp:p.lt)
include hp
theorem dRs:C1 (dv (rS p)) (Kz (dv p.x) (dv p.y)):=by
 have hm:=ae 1
 have h1:=(dk hp.1 (ai hm)).trans ((Cz.refl _ (dv p.x)).mul (dk hp.2.1 hp.2.1))
 have h2:=(fB (ai hm) (ai hm)).trans (h1.add h1)
 exact ((fB (ao hm) (ao hm)).trans (h2.add h2)).trans (Cz.of_eq (by unfold Kz;grind))
theorem apK:C1 (dv (rM0 p)) ((dv p.x-dv p.z*dv p.z)*(dv p.x+dv p.z*dv p.z)):=by
 have hm:=ae 1
 have h1:=dk hp.2.2 hp.2.2
 exact (dk (av hm) (ao hm)).trans (((f9 hp.1 (ai hm)).trans ((Cz.refl _ _).sub h1)).mul ((fB hp.1 (ai hm)).trans ((Cz.refl _ _).add h1)))
theorem dRm:C1 (dv (rM p)) (Jy (dv p.x) (dv p.z)):=by
 have hm:=ae 1
 have h:=apK hp
 exact ((fB (ai hm) (ao hm)).trans (h.add ((fB (ai hm) (ai hm)).trans (h.add h)))).trans (Cz.of_eq (by unfold Jy;grind))
theorem dRx:C1 (dv (rX p)) (Jc (dv p.x) (dv p.y) (dv p.z)):=by
 have hm:=ae 1
 have h:=dRm hp
 have k:=dRs hp
 exact ((f9 (ai hm) (ao hm)).trans (((dk (ao hm) (ao hm)).trans (h.mul h)).sub ((fB (ao hm) (ao hm)).trans (k.add k)))).trans (Cz.of_eq (by unfold Jc;grind))
theorem dRy:C1 (dv (rY p)) (Of (dv p.x) (dv p.y) (dv p.z)):=by
 have hm:=ae 1
 have h:=dRm hp
 have k:=dRs hp
 have x:=dRx hp
 have y2:=dk hp.2.1 hp.2.1
 have y4:=(dk (ai hm) (ai hm)).trans (y2.mul y2)
 have z1:C1 (dv (rY1 p)) _:=(fB (ai hm) (ai hm)).trans (y4.add y4)
 have z2:C1 (dv (rY2 p)) _:=(fB (ao hm) (ao hm)).trans (z1.add z1)
 have z4:C1 (dv (rY4 p)) _:=(fB (ao hm) (ao hm)).trans (z2.add z2)
 exact ((f9 (ai hm) (ao hm)).trans (((dk (ao hm) (av hm)).trans (h.mul ((f9 (ao hm) (av hm)).trans (k.sub x)))).sub z4)).trans (Cz.of_eq (by unfold Of;grind))
theorem dRz:C1 (dv (rZ p)) (jdZ (dv p.y) (dv p.z)):=by
 have hm:=ae 1
 have h:=dk hp.2.1 hp.2.2
 exact ((fB (ai hm) (ai hm)).trans (h.add h)).trans (Cz.of_eq (by unfold jdZ;grind))
end
theorem N' {p:J3} {s:Sp} (hs:s.on) (h:RJ p s):RJ (j' p) (iC s s):=by
 obtain ⟨hl,h⟩:=h
 refine ⟨qG hl,?_⟩
 unfold j'
 by_cases hz:p.z=0
 ·rw[decide_eq_true hz,cond_true]
  have h0:=(iw hl.2.2).2 hz
  have e:=om hs h h0
  rw[e,Bx nt]
  exact h0
 ·rw[decide_eq_false hz,cond_false]
  exact NN (OT h (fun h0=>hz ((iw hl.2.2).1 h0)) hs.O (jB hs hs)) (dRx hl) (dRy hl) (dRz hl)
section
variable {p q:J3} (hp:p.lt) (hq:q.lt)
include hp hq
theorem dJu:C1 (dv (jU p q)) (dv p.x*(dv q.z*dv q.z)):=(dk hp.1 (ai (ae 1))).trans ((Cz.refl _ _).mul (dk hq.2.2 hq.2.2))
theorem dJv:C1 (dv (jV p q)) (dv q.x*(dv p.z*dv p.z)):=(dk hq.1 (ai (ae 1))).trans ((Cz.refl _ _).mul (dk hp.2.2 hp.2.2))
theorem dJs:C1 (dv (jS p q)) (dv p.y*(dv q.z*dv q.z*dv q.z)):=(dk hp.2.1 (ai (ae 1))).trans ((Cz.refl _ _).mul ((dk (ai (ae 1)) hq.2.2).trans ((dk hq.2.2 hq.2.2).mul (Cz.refl _ _))))
theorem dJt:C1 (dv (jT p q)) (dv q.y*(dv p.z*dv p.z*dv p.z)):=(dk hq.2.1 (ai (ae 1))).trans ((Cz.refl _ _).mul ((dk (ai (ae 1)) hp.2.2).trans ((dk hp.2.2 hp.2.2).mul (Cz.refl _ _))))
end
section
variable (p q:J3)
theorem dJh:C1 (dv (jH p q)) (dv (jV p q)-dv (jU p q)):=f9 (ai (ae 1)) (ai (ae 1))
theorem dJk:C1 (dv (jK p q)) (dv (jT p q)-dv (jS p q)):=f9 (ai (ae 1)) (ai (ae 1))
theorem agJ:C1 (dv (jH2 p q)) ((dv (jV p q)-dv (jU p q))*(dv (jV p q)-dv (jU p q))):=(dk (av (ae 1)) (av (ae 1))).trans ((dJh p q).mul (dJh p q))
theorem ajx:C1 (dv (jH3 p q)) ((dv (jV p q)-dv (jU p q))*(dv (jV p q)-dv (jU p q))*(dv (jV p q)-dv (jU p q))):=(dk (ai (ae 1)) (av (ae 1))).trans ((agJ p q).mul (dJh p q))
theorem dJw:C1 (dv (jW p q)) (dv (jU p q)*((dv (jV p q)-dv (jU p q))*(dv (jV p q)-dv (jU p q)))):=(dk (ai (ae 1)) (ai (ae 1))).trans ((Cz.refl _ _).mul (agJ p q))
theorem dJx:C1 (dv (jX p q)) (Ky (dv (jU p q)) (dv (jV p q)) (dv (jS p q)) (dv (jT p q))):=by
 have hm:=ae 1
 have hk:=(dk (av hm) (av hm)).trans ((dJk p q).mul (dJk p q))
 exact ((f9 (av hm) (ao hm)).trans (((f9 (ai hm) (ai hm)).trans (hk.sub (ajx p q))).sub ((fB (ai hm) (ai hm)).trans ((dJw p q).add (dJw p q))))).trans (Cz.of_eq (by unfold Ky;grind))
theorem dJy:C1 (dv (jY p q)) (PJ (dv (jU p q)) (dv (jV p q)) (dv (jS p q)) (dv (jT p q))):=by
 have hm:=ae 1
 have h1:=(dk (av hm) (av hm)).trans ((dJk p q).mul ((f9 (ai hm) (av hm)).trans ((dJw p q).sub (dJx p q))))
 have h2:=(dk (ai hm) (ai hm)).trans ((Cz.refl _ (dv (jS p q))).mul (ajx p q))
 exact (f9 (ai hm) (ai hm)).trans (h1.sub h2)
theorem dJz {p q:J3} (hp:p.lt) (hq:q.lt):C1 (dv (jZ p q)) ((dv (jV p q)-dv (jU p q))*(dv p.z*dv q.z)):=(dk (av (ae 1)) (ai (ae 1))).trans ((dJh p q).mul (dk hp.2.2 hq.2.2))
end
theorem uM {a b:Int} (ha:¬C1 a 0) (hb:¬C1 b 0):¬C1 (a*b) 0:=fun h=>(gZ ON h).elim ha hb
theorem I2 {p q:J3} {s t:Sp} (hs:s.on) (ht:t.on) (h:RJ p s) (k:RJ q t):RJ (gC p q) (iC s t):=by
 obtain ⟨hl,h⟩:=h
 obtain ⟨kl,k⟩:=k
 refine ⟨wU hl kl,?_⟩
 by_cases hz:p.z=0
 ·rw[Zh (decide_eq_true hz)]
  rw[om hs h ((iw hl.2.2).2 hz),qV ht]
  exact k
 by_cases kz:q.z=0
 ·rw[ac0 (decide_eq_false hz) (decide_eq_true kz)]
  rw[om ht k ((iw kl.2.2).2 kz),Bx hs]
  exact h
 have hz':¬C1 (dv p.z) 0:=fun h0=>hz ((iw hl.2.2).1 h0)
 have kz':¬C1 (dv q.z) 0:=fun h0=>kz ((iw kl.2.2).1 h0)
 obtain ⟨x1,y1,rfl,o1,hx1,hy1⟩:=sQ hs h hz'
 obtain ⟨x2,y2,rfl,o2,hx2,hy2⟩:=sQ ht k kz'
 have hw:=uM hz' kz'
 have hu:C1 (dv (jU p q)) (x1*(dv p.z*dv q.z*(dv p.z*dv q.z))):=((dJu hl kl).trans (hx1.mul (Cz.refl _ _))).trans (Cz.of_eq (by grind))
 have hv:C1 (dv (jV p q)) (x2*(dv p.z*dv q.z*(dv p.z*dv q.z))):=((dJv hl kl).trans (hx2.mul (Cz.refl _ _))).trans (Cz.of_eq (by grind))
 have hS:C1 (dv (jS p q)) (y1*(dv p.z*dv q.z*(dv p.z*dv q.z)*(dv p.z*dv q.z))):=((dJs hl kl).trans (hy1.mul (Cz.refl _ _))).trans (Cz.of_eq (by grind))
 have hT:C1 (dv (jT p q)) (y2*(dv p.z*dv q.z*(dv p.z*dv q.z)*(dv p.z*dv q.z))):=((dJt hl kl).trans (hy2.mul (Cz.refl _ _))).trans (Cz.of_eq (by grind))
 have hsum:=jB hs ht
 by_cases hU:jU p q=jV p q
 ·have e1:C1 (x1:Int) x2:=by
   have e:=hu.symm.trans ((Cz.of_eq (by rw[hU])).trans hv)
   exact eR ON (a:=dv p.z*dv q.z*(dv p.z*dv q.z)) (e.lc1 1 (by grind)) (uM hw hw)
  by_cases hV:jS p q=jT p q
  ·have e2:C1 (y1:Int) y2:=by
    have e:=hS.symm.trans ((Cz.of_eq (by rw[hV])).trans hT)
    exact eR ON (a:=dv p.z*dv q.z*(dv p.z*dv q.z)*(dv p.z*dv q.z)) (e.lc1 1 (by grind)) (uM (uM hw hw) hw)
   rw[XS (decide_eq_false hz) (decide_eq_false kz) (decide_eq_true hU) (decide_eq_true hV)]
   have e:(⟨x1,y1,false⟩:Sp)=⟨x2,y2,false⟩:=hs.eq ht ⟨e1,e2⟩
   rw[←e]
   exact (N' hs ⟨hl,h⟩).2
  ·rw[adc (decide_eq_false hz) (decide_eq_false kz) (decide_eq_true hU) (decide_eq_false hV)]
   have hne:¬C1 (y1:Int) y2:=by
    intro e
    refine hV (Fl (ai (ae 1)) (ai (ae 1)) (hS.trans ((e.mul (Cz.refl _ _)).trans hT.symm)))
   have hn:=Hk o1 o2 e1 hne hsum
   have hg:iC ⟨x1,y1,false⟩ ⟨x2,y2,false⟩=sNo:=(ib hs ht).eq nt (by rw[hn];trivial)
   rw[hg]
   show C1 (dv 0) 0
   rw[MW];exact Cz.refl _ _
 ·rw[XM (decide_eq_false hz) (decide_eq_false kz) (decide_eq_false hU)]
  have hne:¬C1 (dv (jU p q)) (dv (jV p q)):=fun e=>hU (Fl (ai (ae 1)) (ai (ae 1)) e)
  exact NN (Fk hw hu hv hS hT o1 o2 hne hsum) (dJx p q) (dJy p q) (dJz hl kl)
theorem SL {k j:Nat} {p x:J3} {s:Sp} {a:Nat} (hs:s.on) (hp:RJ p s) (hx:RJ x (gr s a)):RJ (mQ k p j x) (gr s (2*a+dw k j)):=by
 have h1:=N' (dL hs a) hx
 rw[←vG hs a a,←Nat.two_mul] at h1
 have hb:=kY k j
 by_cases h:dw k j=1
 ·rw[IC (decide_eq_true h),h]
  exact I2 (dL hs (2*a)) hs h1 hp
 ·rw[IK (decide_eq_false h),show dw k j=0 by omega]
  exact h1
theorem yq {k:Nat} {p:J3} {s:Sp} (hs:s.on) (hp:RJ p s):∀(j:Nat) (x:J3) (a:Nat),RJ x (gr s a)→a=k/2^j→RJ (ow k p j x) (gr s k)
 |0,x,a,hx,ha=>by
  rw[Nat.pow_zero,Nat.div_one] at ha
  subst ha;exact hx
 |j+1,x,a,hx,ha=>by
  refine yq hs hp j (mQ k p j x) (2*a+dw k j) (SL hs hp hx) ?_
  subst ha
  unfold dw
  rw[Nat.pow_succ,←Nat.div_div_eq_div_mul]
  omega
theorem wV {k:Nat} (hk:k<4294967296^8) {p:J3} {s:Sp} (hs:s.on) (hp:RJ p s):RJ (dt k p) (gr s k):=by
 refine yq hs hp _ _ 0 ?_ ?_
 ·exact ui nt
 ·rw[Nat.div_eq_of_lt (fU hk).1]
theorem Ii {x:J3} {s:Sp} (hs:s.on) (h:RJ x s):Zv x=s.x∧YM x=s.y∧Jg x=s.i:=by
 obtain ⟨hl,h⟩:=h
 have hm:=ae 1
 unfold Zv YM Jg
 by_cases h0:x.z=0
 ·rw[om hs h ((iw hl.2.2).2 h0),decide_eq_true h0]
  exact ⟨rfl,rfl,rfl⟩
 ·have hn:¬C1 (dv x.z) 0:=fun e=>h0 ((iw hl.2.2).1 e)
  obtain ⟨u,v,rfl,_,hx,hy⟩:=sQ hs h hn
  obtain ⟨a,b,c⟩:=Sp.on_some.1 hs
  obtain ⟨k1,k2⟩:=Kw (p:=((u:Int),(v:Int))) h (MS hl.2.2 h0)
  have hi:=cg (m:=ab 1) (a:=x.z) hm
  rw[decide_eq_false h0,cond_false,cond_false]
  refine ⟨?_,?_,rfl⟩
  ·exact Cz.nat (bj hm) a (Cz.trans (dk hl.1 (ai hm)) (Cz.trans ((Cz.refl _ _).mul (dk hi hi)) k1))
  ·exact Cz.nat (bj hm) b (Cz.trans (dk hl.2.1 (ai hm)) (Cz.trans ((Cz.refl _ _).mul ((dk (ai hm) hi).trans ((dk hi hi).mul (Cz.refl _ _)))) k2))
end Go.Ev
namespace Go.Ev
open Go Go.Proofs Go.RowKit
def WR (s:Sp):V1:=P3 s.x s.y s.i
noncomputable def U5:FuncId→Nat→Bool:=fun f t=>match f with|122=>bf t [12,16]|_=>false
noncomputable def MQ:Env:=cd abU U5
theorem uG:EnvOK MQ:=aF Jl U5
noncomputable abbrev iM:=ak (ab 1) 0
noncomputable abbrev wK (px py:Nat) (pi:Bool):=J3.mk (J3.x (ek px py pi)) (J3.y (ek px py pi)) (J3.z (ek px py pi))
noncomputable abbrev adP (k px py:Nat) (pi:Bool):=J3.mk (J3.x (dt k (wK px py pi))) (J3.y (dt k (wK px py pi))) (J3.z (dt k (wK px py pi)))
theorem aqy (k:Nat) (px:Nat) (py:Nat) (pi:Bool):al MQ 1000 44 [N8 k,P3 px py pi] []=
  some ([(0:Int)≤(1:Int)∧(1:Int)<(4:Int),ab 1<4294967296^8,aA iM<4294967296,aO (ab 1)<4294967296^8,px<4294967296^8,py<4294967296^8,ab 1=ab 1,aA iM=aA iM,aO (ab 1)=aO (ab 1),pi=true∨px<ab 1∧py<ab 1,ab 1<4294967296^8,aA iM<4294967296,aO (ab 1)<4294967296^8,k<4294967296^8,(ek px py pi).1<4294967296^8,(ek px py pi).2<4294967296^8,(ek px py pi).3<4294967296^8,ab 1=ab 1,aA iM=aA iM,aO (ab 1)=aO (ab 1),J3.lt (wK px py pi),ab 1<4294967296^8,aA iM<4294967296,aO (ab 1)<4294967296^8,(dt k (wK px py pi)).1<4294967296^8,(dt k (wK px py pi)).2<4294967296^8,(dt k (wK px py pi)).3<4294967296^8,ab 1=ab 1,aA iM=aA iM,aO (ab 1)=aO (ab 1),J3.lt (adP k px py pi)],.val (P3 (Zv (dt k (ek px py pi))) (YM (dt k (ek px py pi))) (Jg (dt k (ek px py pi))))):=by kernel_rfl
noncomputable abbrev xZ (qx qy:Nat) (qi:Bool):=J3.mk (J3.x (ek qx qy qi)) (J3.y (ek qx qy qi)) (J3.z (ek qx qy qi))
noncomputable abbrev Kt (k px py:Nat) (pi:Bool) (m qx qy:Nat) (qi:Bool):=gC (adP k px py pi) (J3.mk (J3.x (dt m (xZ qx qy qi))) (J3.y (dt m (xZ qx qy qi))) (J3.z (dt m (xZ qx qy qi))))
theorem amJ (k:Nat) (px:Nat) (py:Nat) (pi:Bool) (m:Nat) (qx:Nat) (qy:Nat) (qi:Bool):al MQ 1000 183 [N8 k,P3 px py pi,N8 m,P3 qx qy qi] []=
  some ([(0:Int)≤(1:Int)∧(1:Int)<(4:Int),ab 1<4294967296^8,aA iM<4294967296,aO (ab 1)<4294967296^8,px<4294967296^8,py<4294967296^8,ab 1=ab 1,aA iM=aA iM,aO (ab 1)=aO (ab 1),pi=true∨px<ab 1∧py<ab 1,ab 1<4294967296^8,aA iM<4294967296,aO (ab 1)<4294967296^8,k<4294967296^8,(ek px py pi).1<4294967296^8,(ek px py pi).2<4294967296^8,(ek px py pi).3<4294967296^8,ab 1=ab 1,aA iM=aA iM,aO (ab 1)=aO (ab 1),J3.lt (wK px py pi),ab 1<4294967296^8,aA iM<4294967296,aO (ab 1)<4294967296^8,qx<4294967296^8,qy<4294967296^8,ab 1=ab 1,aA iM=aA iM,aO (ab 1)=aO (ab 1),qi=true∨qx<ab 1∧qy<ab 1,ab 1<4294967296^8,aA iM<4294967296,aO (ab 1)<4294967296^8,m<4294967296^8,(ek qx qy qi).1<4294967296^8,(ek qx qy qi).2<4294967296^8,(ek qx qy qi).3<4294967296^8,ab 1=ab 1,aA iM=aA iM,aO (ab 1)=aO (ab 1),J3.lt (xZ qx qy qi),ab 1<4294967296^8,aA iM<4294967296,aO (ab 1)<4294967296^8,(dt k (wK px py pi)).1<4294967296^8,(dt k (wK px py pi)).2<4294967296^8,(dt k (wK px py pi)).3<4294967296^8,(dt m (xZ qx qy qi)).1<4294967296^8,(dt m (xZ qx qy qi)).2<4294967296^8,(dt m (xZ qx qy qi)).3<4294967296^8,ab 1=ab 1,aA iM=aA iM,aO (ab 1)=aO (ab 1),J3.lt (adP k px py pi),J3.lt (J3.mk (J3.x (dt m (xZ qx qy qi))) (J3.y (dt m (xZ qx qy qi))) (J3.z (dt m (xZ qx qy qi)))),ab 1<4294967296^8,aA iM<4294967296,aO (ab 1)<4294967296^8,(Kt k px py pi m qx qy qi).1<4294967296^8,(Kt k px py pi m qx qy qi).2<4294967296^8,(Kt k px py pi m qx qy qi).3<4294967296^8,ab 1=ab 1,aA iM=aA iM,aO (ab 1)=aO (ab 1),J3.lt (J3.mk (J3.x (Kt k px py pi m qx qy qi)) (J3.y (Kt k px py pi m qx qy qi)) (J3.z (Kt k px py pi m qx qy qi)))],.val (P3 (Zv (gC (dt k (ek px py pi)) (dt m (ek qx qy qi)))) (YM (gC (dt k (ek px py pi)) (dt m (ek qx qy qi)))) (Jg (gC (dt k (ek px py pi)) (dt m (ek qx qy qi)))))):=by kernel_rfl
noncomputable abbrev abV (px py:Nat) (pi:Bool):=J3.mk (J3.x (dj px py pi)) (J3.y (dj px py pi)) (J3.z (dj px py pi))
noncomputable abbrev fp (k px py:Nat) (pi:Bool):=gj k (abV px py pi)
noncomputable abbrev KW (k px py:Nat) (pi:Bool):=J3.mk (J3.x (fp k px py pi)) (J3.y (fp k px py pi)) (J3.z (fp k px py pi))
theorem anM (k:Nat) (px:Nat) (py:Nat) (pi:Bool):al MQ 1000 30 [N8 k,P3 px py pi] []=
  some ([ab 1<4294967296^8,aT 1<4294967296,eL<4294967296^8,px<4294967296^8,py<4294967296^8,ab 1=ab 1,aT 1=aT 1,eL=eL,pi=true∨px<ab 1∧py<ab 1,ab 1<4294967296^8,aT 1<4294967296,eL<4294967296^8,k<4294967296^8,(dj px py pi).1<4294967296^8,(dj px py pi).2<4294967296^8,(dj px py pi).3<4294967296^8,ab 1=ab 1,aT 1=aT 1,eL=eL,J3.lt (abV px py pi),ab 1<4294967296^8,aT 1<4294967296,eL<4294967296^8,(fp k px py pi).1<4294967296^8,(fp k px py pi).2<4294967296^8,(fp k px py pi).3<4294967296^8,ab 1=ab 1,aT 1=aT 1,eL=eL,J3.lt (KW k px py pi)],.val (P3 (YS (gj k (dj px py pi))) (wDy (gj k (dj px py pi))) (Jg (gj k (dj px py pi))))):=by kernel_rfl
noncomputable abbrev fH (m qx qy:Nat) (qi:Bool):=gj m (J3.mk (J3.x (dj qx qy qi)) (J3.y (dj qx qy qi)) (J3.z (dj qx qy qi)))
noncomputable abbrev Sy (m qx qy:Nat) (qi:Bool):=J3.mk (J3.x (fH m qx qy qi)) (J3.y (fH m qx qy qi)) (J3.z (fH m qx qy qi))
noncomputable abbrev YN (k px py:Nat) (pi:Bool) (m qx qy:Nat) (qi:Bool):=kF (fp k px py pi).1 (fp k px py pi).3 (fH m qx qy qi).1 (fH m qx qy qi).3 (ap (ab 1) (fp k px py pi).1 (fH m qx qy qi).1) (ap (ab 1) (fp k px py pi).3 (fH m qx qy qi).3)
noncomputable abbrev Sb (k px py:Nat) (pi:Bool) (m qx qy:Nat) (qi:Bool):=fK (aw (ab 1) (YN k px py pi m qx qy qi) (ap (ab 1) eL (ap (ab 1) (fp k px py pi).3 (fH m qx qy qi).3)))
theorem ams (k:Nat) (px:Nat) (py:Nat) (pi:Bool) (m:Nat) (qx:Nat) (qy:Nat) (qi:Bool):al MQ 1000 122 [N8 k,P3 px py pi,N8 m,P3 qx qy qi] [true,true]=
  some ([jC px py pi=true,px<4294967296^8,py<4294967296^8,jC qx qy qi=true,qx<4294967296^8,qy<4294967296^8,ab 1<4294967296^8,aT 1<4294967296,eL<4294967296^8,px<4294967296^8,py<4294967296^8,ab 1=ab 1,aT 1=aT 1,eL=eL,pi=true∨px<ab 1∧py<ab 1,ab 1<4294967296^8,aT 1<4294967296,eL<4294967296^8,k<4294967296^8,(dj px py pi).1<4294967296^8,(dj px py pi).2<4294967296^8,(dj px py pi).3<4294967296^8,ab 1=ab 1,aT 1=aT 1,eL=eL,J3.lt (abV px py pi),ab 1<4294967296^8,aT 1<4294967296,eL<4294967296^8,qx<4294967296^8,qy<4294967296^8,ab 1=ab 1,aT 1=aT 1,eL=eL,qi=true∨qx<ab 1∧qy<ab 1,ab 1<4294967296^8,aT 1<4294967296,eL<4294967296^8,m<4294967296^8,(dj qx qy qi).1<4294967296^8,(dj qx qy qi).2<4294967296^8,(dj qx qy qi).3<4294967296^8,ab 1=ab 1,aT 1=aT 1,eL=eL,J3.lt (J3.mk (J3.x (dj qx qy qi)) (J3.y (dj qx qy qi)) (J3.z (dj qx qy qi))),ab 1<4294967296^8,aT 1<4294967296,eL<4294967296^8,(fp k px py pi).1<4294967296^8,(fp k px py pi).2<4294967296^8,(fp k px py pi).3<4294967296^8,(fH m qx qy qi).1<4294967296^8,(fH m qx qy qi).2<4294967296^8,(fH m qx qy qi).3<4294967296^8,ab 1=ab 1,aT 1=aT 1,eL=eL,J3.lt (KW k px py pi),J3.lt (Sy m qx qy qi),ab 1<4294967296^8,aT 1<4294967296,eL<4294967296^8,aw (ab 1) (ap (ab 1) (kF (fp k px py pi).1 (fp k px py pi).2 (fH m qx qy qi).1 (fH m qx qy qi).2 (ap (ab 1) (fp k px py pi).1 (fH m qx qy qi).1) (ap (ab 1) (fp k px py pi).2 (fH m qx qy qi).2)) (addM (ab 1) (ap (ab 1) (fp k px py pi).2 (fH m qx qy qi).2) (Sb k px py pi m qx qy qi))) (ap (ab 1) (kF (fp k px py pi).2 (fp k px py pi).3 (fH m qx qy qi).2 (fH m qx qy qi).3 (ap (ab 1) (fp k px py pi).2 (fH m qx qy qi).2) (ap (ab 1) (fp k px py pi).3 (fH m qx qy qi).3)) (fK (aw (ab 1) (aw (ab 1) (ap (ab 1) eL (YN k px py pi m qx qy qi)) (fK (ap (ab 1) (fp k px py pi).3 (fH m qx qy qi).3))) (ap (ab 1) (fp k px py pi).1 (fH m qx qy qi).1))))<4294967296^8,addM (ab 1) (ap (ab 1) (addM (ab 1) (ap (ab 1) (fp k px py pi).2 (fH m qx qy qi).2) (Sb k px py pi m qx qy qi)) (aw (ab 1) (ap (ab 1) (fp k px py pi).2 (fH m qx qy qi).2) (Sb k px py pi m qx qy qi))) (ap (ab 1) (aw (ab 1) (fK (ap (ab 1) (fp k px py pi).1 (fH m qx qy qi).1)) (fK (ap (ab 1) (fp k px py pi).3 (fH m qx qy qi).3))) (fK (aw (ab 1) (aw (ab 1) (ap (ab 1) eL (YN k px py pi m qx qy qi)) (fK (ap (ab 1) (fp k px py pi).3 (fH m qx qy qi).3))) (ap (ab 1) (fp k px py pi).1 (fH m qx qy qi).1))))<4294967296^8,addM (ab 1) (ap (ab 1) (kF (fp k px py pi).2 (fp k px py pi).3 (fH m qx qy qi).2 (fH m qx qy qi).3 (ap (ab 1) (fp k px py pi).2 (fH m qx qy qi).2) (ap (ab 1) (fp k px py pi).3 (fH m qx qy qi).3)) (aw (ab 1) (ap (ab 1) (fp k px py pi).2 (fH m qx qy qi).2) (Sb k px py pi m qx qy qi))) (ap (ab 1) (kF (fp k px py pi).1 (fp k px py pi).2 (fH m qx qy qi).1 (fH m qx qy qi).2 (ap (ab 1) (fp k px py pi).1 (fH m qx qy qi).1) (ap (ab 1) (fp k px py pi).2 (fH m qx qy qi).2)) (aw (ab 1) (fK (ap (ab 1) (fp k px py pi).1 (fH m qx qy qi).1)) (fK (ap (ab 1) (fp k px py pi).3 (fH m qx qy qi).3))))<4294967296^8,ab 1=ab 1,aT 1=aT 1,eL=eL,J3.lt (J3.mk (J3.x (kp (KW k px py pi) (Sy m qx qy qi))) (J3.y (kp (KW k px py pi) (Sy m qx qy qi))) (J3.z (kp (KW k px py pi) (Sy m qx qy qi))))],.tup [P3 (YS (kp (gj k (dj px py pi)) (gj m (dj qx qy qi)))) (wDy (kp (gj k (dj px py pi)) (gj m (dj qx qy qi)))) (Jg (kp (gj k (dj px py pi)) (gj m (dj qx qy qi)))),.one (.i 0)]):=by kernel_rfl
theorem RN {k:Nat} (hk:k<4294967296^8) {px py:Nat} {pi:Bool} (hp:Sp.on ⟨px,py,pi⟩):Spec 44 [N8 k,P3 px py pi] (.val (WR (gr ⟨px,py,pi⟩ k))):=by
 have hwb:=li
 have hx:=L8 hp.lx
 have hy:=L8 hp.ly
 have hl:=hp.lt
 simp only at hx hy hl
 have hA:=lI px py pi
 obtain ⟨hA1,hA2,hA3⟩:=id hA
 have hC:=rB (k:=k) hA
 obtain ⟨hC1,hC2,hC3⟩:=id hC
 have hE:=hC
 have hd:=Ii (dL hp k) (wV hk hp (ui hp))
 have hJ:=hE
 obtain ⟨hJ1,hJ2,hJ3⟩:=id hJ
 have h:=af uG rfl (aqy k px py pi) (by refine ⟨(by decide),(aj _),(bv _),(L8 (du (by decide))),?_,?_,rfl,rfl,rfl,?_,(aj _),(bv _),(L8 (du (by decide))),?_,?_,?_,?_,rfl,rfl,rfl,?_,(aj _),(bv _),(L8 (du (by decide))),?_,?_,?_,rfl,rfl,rfl,?_,trivial⟩<;>first|with_reducible assumption|with_reducible exact L8 (by with_reducible assumption)|exact decide_eq_true (by omega)|exact decide_eq_false (by omega)|omega) rfl rfl
 obtain ⟨d1,d2,d3⟩:=hd
 rw[d1,d2,d3] at h
 exact h
theorem Rt {k:Nat} (hk:k<4294967296^8) {px py:Nat} {pi:Bool} (hp:Sp.on ⟨px,py,pi⟩) {m:Nat} (hm:m<4294967296^8) {qx qy:Nat} {qi:Bool} (hq:Sp.on ⟨qx,qy,qi⟩):Spec 183 [N8 k,P3 px py pi,N8 m,P3 qx qy qi] (.val (WR (iC (gr ⟨px,py,pi⟩ k) (gr ⟨qx,qy,qi⟩ m)))):=by
 have hwb:=li
 have hx:=L8 hp.lx
 have hy:=L8 hp.ly
 have hl:=hp.lt
 simp only at hx hy hl
 have hx':=L8 hq.lx
 have hy':=L8 hq.ly
 have hl':=hq.lt
 simp only at hx' hy' hl'
 have hA:=lI px py pi
 obtain ⟨hA1,hA2,hA3⟩:=id hA
 have hB:=lI qx qy qi
 obtain ⟨hB1,sk,hB3⟩:=id hB
 have hC:=rB (k:=k) hA
 obtain ⟨hC1,hC2,hC3⟩:=id hC
 have hD:=rB (k:=m) hB
 obtain ⟨hD1,hD2,hD3⟩:=id hD
 have hE:=wU hC hD
 have hd:=Ii (ib (dL hp k) (dL hq m)) (I2 (dL hp k) (dL hq m) (wV hk hp (ui hp)) (wV hm hq (ui hq)))
 have hJ:=hE
 obtain ⟨hJ1,hJ2,hJ3⟩:=id hJ
 have h:=af uG rfl (amJ k px py pi m qx qy qi) (by refine ⟨(by decide),(aj _),(bv _),(L8 (du (by decide))),?_,?_,rfl,rfl,rfl,?_,(aj _),(bv _),(L8 (du (by decide))),?_,?_,?_,?_,rfl,rfl,rfl,?_,(aj _),(bv _),(L8 (du (by decide))),?_,?_,rfl,rfl,rfl,?_,(aj _),(bv _),(L8 (du (by decide))),?_,?_,?_,?_,rfl,rfl,rfl,?_,(aj _),(bv _),(L8 (du (by decide))),?_,?_,?_,?_,?_,?_,rfl,rfl,rfl,?_,?_,(aj _),(bv _),(L8 (du (by decide))),?_,?_,?_,rfl,rfl,rfl,?_,trivial⟩<;>first|with_reducible assumption|with_reducible exact L8 (by with_reducible assumption)|exact decide_eq_true (by omega)|exact decide_eq_false (by omega)|omega) rfl rfl
 obtain ⟨d1,d2,d3⟩:=hd
 rw[d1,d2,d3] at h
 exact h
theorem RT {k:Nat} (hk:k<4294967296^8) {px py:Nat} {pi:Bool} (hp:Sp.on ⟨px,py,pi⟩):Spec 30 [N8 k,P3 px py pi] (.val (WR (gr ⟨px,py,pi⟩ k))):=by
 have hwb:=li
 have hx:=L8 hp.lx
 have hy:=L8 hp.ly
 have hl:=hp.lt
 simp only at hx hy hl
 have hA:=lQ px py pi
 obtain ⟨hA1,hA2,hA3⟩:=id hA
 have hC:=sy k (dj px py pi)
 obtain ⟨hC1,hC2,hC3⟩:=id hC
 have hE:=hC
 have hd:=Ir (dL hp k) (vd hk hp (uJ hp))
 have hJ:=hE
 obtain ⟨hJ1,hJ2,hJ3⟩:=id hJ
 have h:=af uG rfl (anM k px py pi) (by refine ⟨(aj _),(bu 1),?_,?_,?_,rfl,rfl,rfl,?_,(aj _),(bu 1),?_,?_,?_,?_,?_,rfl,rfl,rfl,?_,(aj _),(bu 1),?_,?_,?_,?_,rfl,rfl,rfl,?_,trivial⟩<;>first|with_reducible assumption|with_reducible exact L8 (by with_reducible assumption)|exact decide_eq_true (by omega)|exact decide_eq_false (by omega)|omega) rfl rfl
 obtain ⟨d1,d2,d3⟩:=hd
 rw[d1,d2,d3] at h
 exact h
theorem ahE {px py:Nat} {pi:Bool} (hp:Sp.on ⟨px,py,pi⟩):jC px py pi=true:=hp
theorem V7 {k:Nat} (hk:k<4294967296^8) {px py:Nat} {pi:Bool} (hp:Sp.on ⟨px,py,pi⟩) {m:Nat} (hm:m<4294967296^8) {qx qy:Nat} {qi:Bool} (hq:Sp.on ⟨qx,qy,qi⟩):Spec 122 [N8 k,P3 px py pi,N8 m,P3 qx qy qi] (.tup [WR (iC (gr ⟨px,py,pi⟩ k) (gr ⟨qx,qy,qi⟩ m)),.one (.i 0)]):=by
 have hwb:=li
 have hx:=L8 hp.lx
 have hy:=L8 hp.ly
 have hl:=hp.lt
 simp only at hx hy hl
 have hx':=L8 hq.lx
 have hy':=L8 hq.ly
 have hl':=hq.lt
 simp only at hx' hy' hl'
 have o1:=ahE hp
 have o2:=ahE hq
 have hA:=lQ px py pi
 obtain ⟨hA1,hA2,hA3⟩:=id hA
 have hB:=lQ qx qy qi
 obtain ⟨hB1,sk,hB3⟩:=id hB
 have hC:=sy k (dj px py pi)
 obtain ⟨hC1,hC2,hC3⟩:=id hC
 have hD:=sy m (dj qx qy qi)
 obtain ⟨hD1,hD2,hD3⟩:=id hD
 have hE:=uu (gj k (dj px py pi)) (gj m (dj qx qy qi))
 have hd:=Ir (ib (dL hp k) (dL hq m)) (FC (dL hp k) (dL hq m) (vd hk hp (uJ hp)) (vd hm hq (uJ hq)))
 have hJ:=hE
 obtain ⟨hJ1,hJ2,hJ3⟩:=id hJ
 have h:=af uG rfl (ams k px py pi m qx qy qi) (by refine ⟨?_,?_,?_,?_,?_,?_,(aj _),(bu 1),?_,?_,?_,rfl,rfl,rfl,?_,(aj _),(bu 1),?_,?_,?_,?_,?_,rfl,rfl,rfl,?_,(aj _),(bu 1),?_,?_,?_,rfl,rfl,rfl,?_,(aj _),(bu 1),?_,?_,?_,?_,?_,rfl,rfl,rfl,?_,(aj _),(bu 1),?_,?_,?_,?_,?_,?_,?_,rfl,rfl,rfl,?_,?_,(aj _),(bu 1),?_,(L8 (av (ae _))),(L8 (ao (ae _))),(L8 (ao (ae _))),rfl,rfl,rfl,?_,trivial⟩<;>first|with_reducible assumption|with_reducible exact L8 (by with_reducible assumption)|exact decide_eq_true (by omega)|exact decide_eq_false (by omega)|omega) rfl rfl
 obtain ⟨d1,d2,d3⟩:=hd
 rw[d1,d2,d3] at h
 exact h
noncomputable def HV:List Val→Option (List Prop×AV)
 |[.n k,.n px,.n py,.b pi]=>some ([jC px py pi=true],.val (WR (gr ⟨px,py,pi⟩ k)))
 |_=>none
theorem Wp:aU ⟨30,dU [aN,qg] HV⟩:=jE (by
 intro xs ob r hb h ho
 unfold HV at h
 split at h
 ·rename_i k px py pi
  obtain ⟨rfl,rfl⟩:=sI h
  obtain ⟨⟨b0,_⟩,_⟩:=hb
  exact RT b0 ho.1
 ·simp at h)
noncomputable def CK:List Val→Option (List Prop×AV)
 |[.n k,.n px,.n py,.b pi]=>some ([jC px py pi=true],.val (WR (gr ⟨px,py,pi⟩ k)))
 |_=>none
theorem Mi:aU ⟨44,dU [aN,qg] CK⟩:=jE (by
 intro xs ob r hb h ho
 unfold CK at h
 split at h
 ·rename_i k px py pi
  obtain ⟨rfl,rfl⟩:=sI h
  obtain ⟨⟨b0,_⟩,_⟩:=hb
  exact RN b0 ho.1
 ·simp at h)
noncomputable def Jm:List Val→Option (List Prop×AV)
 |[.n k,.n px,.n py,.b pi,.n m,.n qx,.n qy,.b qi]=>some ([jC px py pi=true,jC qx qy qi=true],.val (WR (iC (gr ⟨px,py,pi⟩ k) (gr ⟨qx,qy,qi⟩ m))))
 |_=>none
theorem Xg:aU ⟨183,dU [aN,qg,aN,qg] Jm⟩:=jE (by
 intro xs ob r hb h ho
 unfold Jm at h
 split at h
 ·rename_i k px py pi m qx qy qi
  obtain ⟨rfl,rfl⟩:=sI h
  obtain ⟨⟨b0,_⟩,_,⟨b5,_⟩,_⟩:=hb
  exact Rt b0 ho.1 b5 ho.2.1
 ·simp at h)
noncomputable def afE:List CT:=[⟨30,dU [aN,qg] HV⟩,⟨44,dU [aN,qg] CK⟩,⟨183,dU [aN,qg,aN,qg] Jm⟩]++abU
theorem UW:bw afE:=⟨Wp,Mi,Xg,Jl⟩
noncomputable def aaB:Env:=cd afE U5
theorem HA:EnvOK aaB:=aF UW U5
def noC3:V1:= .agg [.a (.u .u32 0),.a (.u .u32 0),.a (.u .u32 0),.a (.u .u32 0),.a (.u .u32 0),.a (.u .u32 0),.a (.u .u32 0),.a (.u .u32 0),.a (.u .u32 0),.a (.u .u32 0),.a (.u .u32 0),.a (.u .u32 0),.a (.u .u32 0),.a (.u .u32 0),.a (.u .u32 0),.a (.u .u32 0),.a (.v (.bool false))]
def noS3:V1:=P3 0 0 false
theorem x7 (φ:c7):noC3.conc φ=noS3.conc φ:=rfl
theorem ai5 (k:Nat) (px:Nat) (py:Nat) (pi:Bool) (m:Nat) (qx:Nat) (qy:Nat) (qi:Bool):al aaB 1000 122 [N8 k,P3 px py pi,N8 m,P3 qx qy qi] [true,false]=
  some ([jC px py pi=true,px<4294967296^8,py<4294967296^8,jC qx qy qi=false,qx<4294967296^8,qy<4294967296^8],.tup [noC3,.one (.i 7)]):=by kernel_rfl
theorem afO (k:Nat) (px:Nat) (py:Nat) (pi:Bool) (m:Nat) (qx:Nat) (qy:Nat) (qi:Bool):al aaB 1000 122 [N8 k,P3 px py pi,N8 m,P3 qx qy qi] [false]=
  some ([jC px py pi=false,px<4294967296^8,py<4294967296^8],.tup [noC3,.one (.i 7)]):=by kernel_rfl
noncomputable def ZY (u v:Bool):List Val→Option (List Prop×AV)
 |[.n k,.n px,.n py,.b pi,.n m,.n qx,.n qy,.b qi]=>some ([jC px py pi=u,jC qx qy qi=v],.tup [bif u&&v then WR (iC (gr ⟨px,py,pi⟩ k) (gr ⟨qx,qy,qi⟩ m)) else noS3,.one (.i (bif u&&v then 0 else 7))])
 |_=>none
theorem ahC (u v:Bool):aU ⟨122,dU [aN,qg,aN,qg] (ZY u v)⟩:=jE (by
 intro xs ob r hb h ho
 unfold ZY at h
 split at h
 ·rename_i k px py pi m qx qy qi
  obtain ⟨rfl,rfl⟩:=sI h
  obtain ⟨⟨b0,_⟩,⟨b1,b2,_⟩,⟨b5,_⟩,⟨b3,b4,_⟩,_⟩:=hb
  obtain ⟨hu,hv,_⟩:=ho
  cases u with
  |false=>exact (af HA rfl (afO k px py pi m qx qy qi) (by refine ⟨?_,?_,?_,trivial⟩<;>first|with_reducible assumption|with_reducible exact L8 (by with_reducible assumption)|exact decide_eq_true (by omega)|exact decide_eq_false (by omega)|omega) rfl rfl).congr (fun _=>rfl) (fun _=>by simp only[AV.conc,List.map_cons,List.map_nil,x7,Bool.false_and,Bool.and_false,cond_false])
  |true=>
   cases v with
   |false=>exact (af HA rfl (ai5 k px py pi m qx qy qi) (by refine ⟨?_,?_,?_,?_,?_,?_,trivial⟩<;>first|with_reducible assumption|with_reducible exact L8 (by with_reducible assumption)|exact decide_eq_true (by omega)|exact decide_eq_false (by omega)|omega) rfl rfl).congr (fun _=>rfl) (fun _=>by simp only[AV.conc,List.map_cons,List.map_nil,x7,Bool.false_and,Bool.and_false,cond_false])
   |true=>exact V7 b0 hu b5 hv
 ·simp at h)
theorem qw:jC xS xV false=true:=by
 refine Sp.on_some.2 ⟨vy,wW,(A2 vy wW).1 ?_⟩
 rw[AG]
 decide+kernel
def fBg:List V1→Option (List Prop×AV):=xA fun a=> .val (sS (t8 a))
theorem WF:aU ⟨40,fBg⟩:=fun _ _ _ h ho=>ej (fun a h=>QB a h) h ho
theorem K9:aU ⟨8,fBg⟩:=fun _ _ _ h ho=>ej (fun a _=>Vt a) h ho
noncomputable def LBx:List CT:=⟨40,fBg⟩::⟨8,fBg⟩::PU
theorem MZ:bw LBx:=⟨WF,K9,lT⟩
noncomputable def SPk:FuncId→Nat→Bool:=fun f t=>match f with|29=>bf t [14,2000010]|43=>bf t [14,2000010]|_=>false
def Iy (x y:Nat):ByteArray:=bQ [2+y%2]++t8 x
def hdA (y:Nat):Nat:=(2+(y%4294967296%4294967296&&&1%4294967296)%256)%256
def hdB (y:Nat):Nat:=(2+(y%4294967296%4294967296&&&1%4294967296))%4294967296%256
theorem C7 (x:Nat):x%4294967296%4294967296&&&1%4294967296=x%2:=by
 rw[show (1%4294967296:Nat)=2^1-1 from rfl,Nat.and_two_pow_sub_one_eq_mod];omega
theorem aaD (y:Nat):hdA y=2+y%2:=by unfold hdA;rw[C7];omega
theorem aay (y:Nat):hdB y=2+y%2:=by unfold hdB;rw[C7];omega
theorem r58 (x y:Nat) (i:Bool):al (cd LBx SPk) 1000 29 [P3 x y i] []=some ([x<4294967296^8,(bQ [hdA y]).size+(t8 x).size≤9223372036854775807],.val (sS (bQ [hdA y]++t8 x))):=by kernel_rfl
theorem r32 (x y:Nat) (i:Bool):al (cd LBx SPk) 1000 43 [P3 x y i] []=some ([x<4294967296^8,(bQ [hdB y]).size+(t8 x).size≤9223372036854775807],.val (sS (bQ [hdB y]++t8 x))):=by kernel_rfl
theorem bgS_size (x:Nat):(t8 x).size=32:=by unfold t8;rw[lK,DP]
theorem En (n:Nat):(bQ [n]).size=1:=by rw[dh];rfl
theorem Sc (x y:Nat) (i:Bool) (hx:x<4294967296^8):Spec 29 [P3 x y i] (.val (sS (Iy x y))):=by
 have:=af (aF MZ SPk) rfl (r58 x y i) ⟨hx,by rw[En,bgS_size];decide,trivial⟩ rfl rfl
 rw[aaD] at this
 exact this
theorem VV (x y:Nat) (i:Bool) (hx:x<4294967296^8):Spec 43 [P3 x y i] (.val (sS (Iy x y))):=by
 have:=af (aF MZ SPk) rfl (r32 x y i) ⟨hx,by rw[En,bgS_size];decide,trivial⟩ rfl rfl
 rw[aay] at this
 exact this
def yj:List Val→Option (List Prop×AV)
 |[.n x,.n y,.b i]=>some ([],.val (sS (Iy x y)))
 |_=>none
theorem aiN:aU ⟨29,dU [qg] yj⟩:=jE (by
 intro xs ob r hb h ho
 unfold yj at h
 split at h
 ·obtain ⟨rfl,rfl⟩:=sI h
  obtain ⟨⟨h1,h2,_⟩,_⟩:=hb
  exact Sc _ _ _ h1
 ·simp at h)
theorem air:aU ⟨43,dU [qg] yj⟩:=jE (by
 intro xs ob r hb h ho
 unfold yj at h
 split at h
 ·obtain ⟨rfl,rfl⟩:=sI h
  obtain ⟨⟨h1,h2,_⟩,_⟩:=hb
  exact VV _ _ _ h1
 ·simp at h)
theorem Qu {x:Nat}:ci (ab 1) (Wo x)=E8 x:=by
 rw[WX,Be,fi (aj 1) (aK (by decide)) (pq x)]
def Zm:List Val→Option (List Prop×AV)
 |[.n x]=>some ([x<ab 1],.val (N8 (E8 x)))
 |_=>none
theorem afw:aU ⟨209,dU [aN] Zm⟩:=jE (by
 intro xs ob r hb h ho
 unfold Zm at h
 split at h
 ·obtain ⟨rfl,rfl⟩:=sI h
  have:=IW _ ho.1
  rw[Qu] at this
  exact this
 ·simp at h)
def Mt (x:Nat):Bool:=oE 1 (E8 x)
def Oq (x:Nat):Nat:=oS 1 (E8 x)
noncomputable def L63:List CT:=⟨209,dU [aN] Zm⟩::⟨203,dU [.z,.s [.n8]] I6⟩::PU
theorem Bw:bw L63:=⟨afw,afc,lT⟩
noncomputable def S63:FuncId→Nat→Bool:=fun f t=>match f with|177=>bf t [14]|_=>false
def zSp:V1:= .agg (bp 16 0 zF++[.a (.v (.bool false))])
theorem ao_ (x:Nat) (y:Nat) (i:Bool):al (cd L63 S63) 1000 177 [P3 x y i,V1.one (Atom.v (Value.bool true))] [true]=
  some ([x<4294967296^8,x<ab 1,addM (ab 1) (aw (ab 1) (bK (ab 1) x (bK (ab 1) x x)) (addM (ab 1) x (addM (ab 1) x x))) m8<4294967296^8,(0:Int)≤(1:Int)∧(1:Int)<(2:Int),addM (ab 1) (aw (ab 1) (bK (ab 1) x (bK (ab 1) x x)) (addM (ab 1) x (addM (ab 1) x x))) m8<ab 1,oE 1 (addM (ab 1) (aw (ab 1) (bK (ab 1) x (bK (ab 1) x x)) (addM (ab 1) x (addM (ab 1) x x))) m8)=true,(0:Int)≤(1:Int)∧(1:Int)<(4:Int),ab 1<4294967296^8,0+0<ab 1,oS 1 (addM (ab 1) (aw (ab 1) (bK (ab 1) x (bK (ab 1) x x)) (addM (ab 1) x (addM (ab 1) x x))) m8)<ab 1,0<4294967296,0<4294967296,0<4294967296,0<4294967296,0<4294967296,0<4294967296,0<4294967296,0<4294967296,oS 1 (addM (ab 1) (aw (ab 1) (bK (ab 1) x (bK (ab 1) x x)) (addM (ab 1) x (addM (ab 1) x x))) m8)<4294967296^8,oS 1 (addM (ab 1) (aw (ab 1) (bK (ab 1) x (bK (ab 1) x x)) (addM (ab 1) x (addM (ab 1) x x))) m8)<4294967296^8,aw (ab 1) 0 (oS 1 (addM (ab 1) (aw (ab 1) (bK (ab 1) x (bK (ab 1) x x)) (addM (ab 1) x (addM (ab 1) x x))) m8))<4294967296^8],.tup [P3 x (aw (ab 1) 0 (Oq x)) i,.one (.i 0)]):=by kernel_rfl
theorem aog (x:Nat) (y:Nat) (i:Bool):al (cd L63 S63) 1000 177 [P3 x y i,V1.one (Atom.v (Value.bool false))] [true]=
  some ([x<4294967296^8,x<ab 1,addM (ab 1) (aw (ab 1) (bK (ab 1) x (bK (ab 1) x x)) (addM (ab 1) x (addM (ab 1) x x))) m8<4294967296^8,(0:Int)≤(1:Int)∧(1:Int)<(2:Int),addM (ab 1) (aw (ab 1) (bK (ab 1) x (bK (ab 1) x x)) (addM (ab 1) x (addM (ab 1) x x))) m8<ab 1,oE 1 (addM (ab 1) (aw (ab 1) (bK (ab 1) x (bK (ab 1) x x)) (addM (ab 1) x (addM (ab 1) x x))) m8)=true,(0:Int)≤(1:Int)∧(1:Int)<(4:Int),ab 1<4294967296^8,0+0<ab 1,oS 1 (addM (ab 1) (aw (ab 1) (bK (ab 1) x (bK (ab 1) x x)) (addM (ab 1) x (addM (ab 1) x x))) m8)<ab 1,0<4294967296,0<4294967296,0<4294967296,0<4294967296,0<4294967296,0<4294967296,0<4294967296,0<4294967296,oS 1 (addM (ab 1) (aw (ab 1) (bK (ab 1) x (bK (ab 1) x x)) (addM (ab 1) x (addM (ab 1) x x))) m8)<4294967296^8,oS 1 (addM (ab 1) (aw (ab 1) (bK (ab 1) x (bK (ab 1) x x)) (addM (ab 1) x (addM (ab 1) x x))) m8)<4294967296^8,aw (ab 1) 0 (oS 1 (addM (ab 1) (aw (ab 1) (bK (ab 1) x (bK (ab 1) x x)) (addM (ab 1) x (addM (ab 1) x x))) m8))<4294967296^8],.tup [P3 x (Oq x) i,.one (.i 0)]):=by kernel_rfl
theorem apw (x:Nat) (y:Nat) (i:Bool) (o:Bool):al (cd L63 S63) 1000 177 [P3 x y i,V1.one (Atom.v (Value.bool o))] [false]=
  some ([x<4294967296^8,x<ab 1,addM (ab 1) (aw (ab 1) (bK (ab 1) x (bK (ab 1) x x)) (addM (ab 1) x (addM (ab 1) x x))) m8<4294967296^8,(0:Int)≤(1:Int)∧(1:Int)<(2:Int),addM (ab 1) (aw (ab 1) (bK (ab 1) x (bK (ab 1) x x)) (addM (ab 1) x (addM (ab 1) x x))) m8<ab 1,oE 1 (addM (ab 1) (aw (ab 1) (bK (ab 1) x (bK (ab 1) x x)) (addM (ab 1) x (addM (ab 1) x x))) m8)=false],.tup [zSp,.one (.i 7)]):=by kernel_rfl
def xB (x:Nat):Nat:=bif Mt x then x else 0
def wz (x:Nat) (o:Bool):Nat:=bif Mt x then (bif o then aw (ab 1) 0 (Oq x) else Oq x) else 0
def qu (x:Nat):Int:=bif Mt x then 0 else 7
theorem LI (φ:c7):zSp.conc φ=(P3 0 0 false).conc φ:=by
 have e:an φ (bp 8 0 zF++(bp 8 0 zF++[.a (.v (.bool false))]))=an φ ([.num 8 0]++([.num 8 0]++[.a (.v (.bool false))])):=by
  rw[bb,←gU,←fv,bb,←fv,bb,bb]
 exact congrArg (fun l=>Value.agg (List.toArray l)) e
theorem cS (φ:c7) (z:Int):(AV.tup [zSp,.one (.i z)]).conc φ=(AV.tup [P3 0 0 false,.one (.i z)]).conc φ:=by
 simp only[AV.conc,List.map_cons,List.map_nil,LI]
theorem QN (x y:Nat) (o:Bool) (hx:x<ab 1):Spec 177 [P3 x y false,.one (.v (.bool o))] (.tup [P3 (xB x) (wz x o) false,.one (.i (qu x))]):=by
 have hp:=pq x
 have he:oS 1 (E8 x)<ab 1:=pN (by decide)
 cases h:Mt x with
 |false=>
  have e1:xB x=0:=by unfold xB;rw[h,cond_false]
  have e2:wz x o=0:=by unfold wz;rw[h,cond_false]
  have e3:qu x=7:=by unfold qu;rw[h,cond_false]
  rw[e1,e2,e3]
  exact (af (aF Bw S63) rfl (apw x y false o) ⟨L8 hx,hx,L8 hp,by decide,hp,h,trivial⟩ rfl rfl).congr (fun _=>rfl) (fun φ=>cS φ 7)
 |true=>
  have e1:xB x=x:=by unfold xB;rw[h,cond_true]
  have e3:qu x=0:=by unfold qu;rw[h,cond_true]
  rw[e1,e3]
  cases o with
  |true=>
   have e2:wz x true=aw (ab 1) 0 (Oq x):=by unfold wz;rw[h,cond_true,cond_true]
   rw[e2]
   exact af (aF Bw S63) rfl (ao_ x y false) ⟨L8 hx,hx,L8 hp,by decide,hp,h,by decide,aj 1,ae 1,he,by decide,by decide,by decide,by decide,by decide,by decide,by decide,by decide,L8 he,L8 he,L8 (av (ae 1)),trivial⟩ rfl rfl
  |false=>
   have e2:wz x false=Oq x:=by unfold wz;rw[h,cond_true,cond_false]
   rw[e2]
   exact af (aF Bw S63) rfl (aog x y false) ⟨L8 hx,hx,L8 hp,by decide,hp,h,by decide,aj 1,ae 1,he,by decide,by decide,by decide,by decide,by decide,by decide,by decide,by decide,L8 he,L8 he,L8 (av (ae 1)),trivial⟩ rfl rfl
def gFd:List Val→Option (List Prop×AV)
 |[.n x,.n _,.b i,.b o]=>some ([x<ab 1,i=false],.tup [P3 (xB x) (wz x o) false,.one (.i (qu x))])
 |_=>none
theorem ahF:aU ⟨177,dU [qg,.b] gFd⟩:=jE (by
 intro xs ob r hb h ho
 unfold gFd at h
 split at h
 ·obtain ⟨rfl,rfl⟩:=sI h
  obtain ⟨hx,rfl,_⟩:=ho
  exact QN _ _ _ hx
 ·simp at h)
def yh (vs:List V1):Option (List Prop×AV):=match vs with|[.one (.v (.string s))]=>some ([s.size=32],.tup [N8 (gT s),.one (.i 0)])|_=>none
theorem HI:aU ⟨64,yh⟩:=by
 intro vs ob r h ho
 simp only[yh] at h
 split at h
 ·obtain ⟨rfl,rfl⟩:=sI h
  exact Vx _ ho.1
 ·simp at h
def Df (vs:List V1):Option (List Prop×AV):=match vs with|[.one (.v (.string s))]=>some ([s.size=32],.val (N8 (gT s)))|_=>none
theorem Ol:aU ⟨41,Df⟩:=by
 intro vs ob r h ho
 simp only[Df] at h
 split at h
 ·obtain ⟨rfl,rfl⟩:=sI h
  exact Ug _ ho.1
 ·simp at h
noncomputable def H6:List CT:=⟨177,dU [qg,.b] gFd⟩::⟨64,yh⟩::L63
theorem iK:bw H6:=⟨ahF,HI,Bw⟩
noncomputable def sW:FuncId→Nat→Bool:=fun f t=>match f with|121=>bf t [11,15,20,26,27,30,31,35,38,43,44,49,54,63,66,67,72]|_=>false
def k0 (s:ByteArray):Nat:=(s.data.getD 0 0).toNat
def bx (s:ByteArray):Nat:=gT (s.extract 1 33)
def yb (s:ByteArray):Nat:=gT (s.extract 33 s.size)
theorem amW (s:ByteArray):al (cd H6 sW) 1000 121 [sS s] [true,true]=
 some ([(!decide ((s.size:Int)=33))=true,(!decide ((s.size:Int)=65))=true],.tup [zSp,.one (.i 1)]):=by kernel_rfl
theorem ag2 (s:ByteArray):al (cd H6 sW) 1000 121 [sS s] [false,true,false,false]=
 some ([(!decide ((s.size:Int)=33))=false,(0:Int)≤33∧(33:Int)≤(s.size:Int),(0:Int)≤1∧(1:Int)≤((33:Nat):Int),(s.extract 1 33).size=32,(0:Int)≤0∧(0:Int)<(s.size:Int),decide (k0 s=2)=true,decide ((s.size:Int)=65)=false,fT 1 (bx s)=false,(bx s)<4294967296^8],.tup [zSp,.one (.i 6)]):=by kernel_rfl
theorem af6 (s:ByteArray):al (cd H6 sW) 1000 121 [sS s] [false,true,false,true,true,true,false]=
 some ([(!decide ((s.size:Int)=33))=false,(0:Int)≤33∧(33:Int)≤(s.size:Int),(0:Int)≤1∧(1:Int)≤((33:Nat):Int),(s.extract 1 33).size=32,(0:Int)≤0∧(0:Int)<(s.size:Int),decide (k0 s=2)=true,decide ((s.size:Int)=65)=false,fT 1 (bx s)=true,(bx s)<4294967296^8,fT 1 0=true,0<4294967296,0<4294967296,0<4294967296,0<4294967296,0<4294967296,0<4294967296,0<4294967296,0<4294967296,decide ((s.size:Int)=33)=true,(0:Int)≤0∧(0:Int)<(s.size:Int),decide (2<k0 s)=false,(bx s)<4294967296^8,0<4294967296,0<4294967296,0<4294967296,0<4294967296,0<4294967296,0<4294967296,0<4294967296,0<4294967296,bx s<ab 1,false=false],.tup [P3 (xB (bx s)) (wz (bx s) false) false,.one (.i (qu (bx s)))]):=by kernel_rfl
theorem aiY (s:ByteArray):al (cd H6 sW) 1000 121 [sS s] [false,false,true,false,false]=
 some ([(!decide ((s.size:Int)=33))=false,(0:Int)≤33∧(33:Int)≤(s.size:Int),(0:Int)≤1∧(1:Int)≤((33:Nat):Int),(s.extract 1 33).size=32,(0:Int)≤0∧(0:Int)<(s.size:Int),decide (k0 s=2)=false,(0:Int)≤0∧(0:Int)<(s.size:Int),decide (k0 s=3)=true,decide ((s.size:Int)=65)=false,fT 1 (bx s)=false,(bx s)<4294967296^8],.tup [zSp,.one (.i 6)]):=by kernel_rfl
theorem afH (s:ByteArray):al (cd H6 sW) 1000 121 [sS s] [false,false,true,false,true,true,true,true]=
 some ([(!decide ((s.size:Int)=33))=false,(0:Int)≤33∧(33:Int)≤(s.size:Int),(0:Int)≤1∧(1:Int)≤((33:Nat):Int),(s.extract 1 33).size=32,(0:Int)≤0∧(0:Int)<(s.size:Int),decide (k0 s=2)=false,(0:Int)≤0∧(0:Int)<(s.size:Int),decide (k0 s=3)=true,decide ((s.size:Int)=65)=false,fT 1 (bx s)=true,(bx s)<4294967296^8,fT 1 0=true,0<4294967296,0<4294967296,0<4294967296,0<4294967296,0<4294967296,0<4294967296,0<4294967296,0<4294967296,decide ((s.size:Int)=33)=true,(0:Int)≤0∧(0:Int)<(s.size:Int),decide (2<k0 s)=true,(bx s)<4294967296^8,0<4294967296,0<4294967296,0<4294967296,0<4294967296,0<4294967296,0<4294967296,0<4294967296,0<4294967296,bx s<ab 1,false=false],.tup [P3 (xB (bx s)) (wz (bx s) true) false,.one (.i (qu (bx s)))]):=by kernel_rfl
theorem agZ (s:ByteArray):al (cd H6 sW) 1000 121 [sS s] [false,false,false,false]=
 some ([(!decide ((s.size:Int)=33))=false,(0:Int)≤33∧(33:Int)≤(s.size:Int),(0:Int)≤1∧(1:Int)≤((33:Nat):Int),(s.extract 1 33).size=32,(0:Int)≤0∧(0:Int)<(s.size:Int),decide (k0 s=2)=false,(0:Int)≤0∧(0:Int)<(s.size:Int),decide (k0 s=3)=false,decide ((s.size:Int)=65)=false],.tup [zSp,.one (.i 6)]):=by kernel_rfl
theorem ai8 (s:ByteArray):al (cd H6 sW) 1000 121 [sS s] [true,false,true,true,false]=
 some ([(!decide ((s.size:Int)=33))=true,(!decide ((s.size:Int)=65))=false,(0:Int)≤33∧(33:Int)≤(s.size:Int),(0:Int)≤1∧(1:Int)≤((33:Nat):Int),(s.extract 1 33).size=32,(0:Int)≤0∧(0:Int)<(s.size:Int),decide (k0 s=2)=true,decide ((s.size:Int)=65)=true,(0:Int)≤33∧(33:Int)≤(s.size:Int),(s.extract 33 s.size).size=32,(0:Int)≤0∧(0:Int)<(s.size:Int),decide (k0 s=4)=false],.tup [zSp,.one (.i 6)]):=by kernel_rfl
theorem ahb (s:ByteArray):al (cd H6 sW) 1000 121 [sS s] [true,false,false,true,true,false]=
 some ([(!decide ((s.size:Int)=33))=true,(!decide ((s.size:Int)=65))=false,(0:Int)≤33∧(33:Int)≤(s.size:Int),(0:Int)≤1∧(1:Int)≤((33:Nat):Int),(s.extract 1 33).size=32,(0:Int)≤0∧(0:Int)<(s.size:Int),decide (k0 s=2)=false,(0:Int)≤0∧(0:Int)<(s.size:Int),decide (k0 s=3)=true,decide ((s.size:Int)=65)=true,(0:Int)≤33∧(33:Int)≤(s.size:Int),(s.extract 33 s.size).size=32,(0:Int)≤0∧(0:Int)<(s.size:Int),decide (k0 s=4)=false],.tup [zSp,.one (.i 6)]):=by kernel_rfl
theorem ajo (s:ByteArray):al (cd H6 sW) 1000 121 [sS s] [true,false,false,false,true,false]=
 some ([(!decide ((s.size:Int)=33))=true,(!decide ((s.size:Int)=65))=false,(0:Int)≤33∧(33:Int)≤(s.size:Int),(0:Int)≤1∧(1:Int)≤((33:Nat):Int),(s.extract 1 33).size=32,(0:Int)≤0∧(0:Int)<(s.size:Int),decide (k0 s=2)=false,(0:Int)≤0∧(0:Int)<(s.size:Int),decide (k0 s=3)=false,decide ((s.size:Int)=65)=true,(0:Int)≤33∧(33:Int)≤(s.size:Int),(s.extract 33 s.size).size=32,(0:Int)≤0∧(0:Int)<(s.size:Int),decide (k0 s=4)=false],.tup [zSp,.one (.i 6)]):=by kernel_rfl
theorem amZ (s:ByteArray):al (cd H6 sW) 1000 121 [sS s] [true,false,false,false,true,true,false]=
 some ([(!decide ((s.size:Int)=33))=true,(!decide ((s.size:Int)=65))=false,(0:Int)≤33∧(33:Int)≤(s.size:Int),(0:Int)≤1∧(1:Int)≤((33:Nat):Int),(s.extract 1 33).size=32,(0:Int)≤0∧(0:Int)<(s.size:Int),decide (k0 s=2)=false,(0:Int)≤0∧(0:Int)<(s.size:Int),decide (k0 s=3)=false,decide ((s.size:Int)=65)=true,(0:Int)≤33∧(33:Int)≤(s.size:Int),(s.extract 33 s.size).size=32,(0:Int)≤0∧(0:Int)<(s.size:Int),decide (k0 s=4)=true,fT 1 (bx s)=false,(bx s)<4294967296^8],.tup [zSp,.one (.i 6)]):=by kernel_rfl
theorem anA (s:ByteArray):al (cd H6 sW) 1000 121 [sS s] [true,false,false,false,true,true,true,false]=
 some ([(!decide ((s.size:Int)=33))=true,(!decide ((s.size:Int)=65))=false,(0:Int)≤33∧(33:Int)≤(s.size:Int),(0:Int)≤1∧(1:Int)≤((33:Nat):Int),(s.extract 1 33).size=32,(0:Int)≤0∧(0:Int)<(s.size:Int),decide (k0 s=2)=false,(0:Int)≤0∧(0:Int)<(s.size:Int),decide (k0 s=3)=false,decide ((s.size:Int)=65)=true,(0:Int)≤33∧(33:Int)≤(s.size:Int),(s.extract 33 s.size).size=32,(0:Int)≤0∧(0:Int)<(s.size:Int),decide (k0 s=4)=true,fT 1 (bx s)=true,(bx s)<4294967296^8,fT 1 (yb s)=false,(yb s)<4294967296^8],.tup [zSp,.one (.i 6)]):=by kernel_rfl
theorem an8 (s:ByteArray):al (cd H6 sW) 1000 121 [sS s] [true,false,false,false,true,true,true,true,false,false]=
 some ([(!decide ((s.size:Int)=33))=true,(!decide ((s.size:Int)=65))=false,(0:Int)≤33∧(33:Int)≤(s.size:Int),(0:Int)≤1∧(1:Int)≤((33:Nat):Int),(s.extract 1 33).size=32,(0:Int)≤0∧(0:Int)<(s.size:Int),decide (k0 s=2)=false,(0:Int)≤0∧(0:Int)<(s.size:Int),decide (k0 s=3)=false,decide ((s.size:Int)=65)=true,(0:Int)≤33∧(33:Int)≤(s.size:Int),(s.extract 33 s.size).size=32,(0:Int)≤0∧(0:Int)<(s.size:Int),decide (k0 s=4)=true,fT 1 (bx s)=true,(bx s)<4294967296^8,fT 1 (yb s)=true,(yb s)<4294967296^8,decide ((s.size:Int)=33)=false,jC (bx s) (yb s) false=false,(bx s)<4294967296^8,(yb s)<4294967296^8],.tup [zSp,.one (.i 7)]):=by kernel_rfl
theorem apP (s:ByteArray):al (cd H6 sW) 1000 121 [sS s] [true,false,false,false,true,true,true,true,false,true]=
 some ([(!decide ((s.size:Int)=33))=true,(!decide ((s.size:Int)=65))=false,(0:Int)≤33∧(33:Int)≤(s.size:Int),(0:Int)≤1∧(1:Int)≤((33:Nat):Int),(s.extract 1 33).size=32,(0:Int)≤0∧(0:Int)<(s.size:Int),decide (k0 s=2)=false,(0:Int)≤0∧(0:Int)<(s.size:Int),decide (k0 s=3)=false,decide ((s.size:Int)=65)=true,(0:Int)≤33∧(33:Int)≤(s.size:Int),(s.extract 33 s.size).size=32,(0:Int)≤0∧(0:Int)<(s.size:Int),decide (k0 s=4)=true,fT 1 (bx s)=true,(bx s)<4294967296^8,fT 1 (yb s)=true,(yb s)<4294967296^8,decide ((s.size:Int)=33)=false,jC (bx s) (yb s) false=true,(bx s)<4294967296^8,(yb s)<4294967296^8],.tup [P3 (bx s) (yb s) false,.one (.i 0)]):=by kernel_rfl
end Go.Ev
namespace Go.Ev.H5
open Go Go.Proofs Go.RowKit
set_option maxRecDepth 100000
def xq (vs:List V1):Option (List Prop×AV):=
 match vs with
 |[x,y]=>match el 16 x,el 8 y with
  |some (o,a),some (o',b)=>some ((0<b)::(o++o'),.tup [N8 (dY a b),.one (.i 0)])
  |_,_=>none
 |_=>none
theorem N6:aU ⟨136,xq⟩:=by
 intro vs ob r h ho
 simp only[xq] at h
 split at h
 ·split at h
  ·rename_i o a o' b hx hy
   obtain ⟨rfl,rfl⟩:=sI h
   obtain ⟨h0,ho⟩:=ho
   rw[aY] at ho
   obtain ⟨h1,h2⟩:=aX hx ho.1
   obtain ⟨h3,h4⟩:=aX hy ho.2
   exact (v0 a b h1 h3 h0).congr (fun φ=>by simp only[List.map_cons,List.map_nil];rw[←h2 φ,←h4 φ];rfl) (fun _=>rfl)
  ·simp at h
 ·simp at h
noncomputable def LNn:List CT:=⟨136,xq⟩::⟨184,mT fun a b=> .val (mO (a*b))⟩::⟨137,mT fun a b=> .val (mO (co a b))⟩::⟨76,xA fun a=> .val (mO (co a 0))⟩::⟨77,dU [.z,.s [.n8]] J9⟩::⟨33,DZ⟩::⟨46,DZ⟩::⟨64,yh⟩::⟨41,Df⟩::⟨40,fBg⟩::⟨8,fBg⟩::⟨7,DO⟩::L0
theorem sJ:bw LNn:=⟨N6,fun _ _ _ h ho=>de uS h ho,fun _ _ _ h ho=>de Hj h ho,fun _ _ _ h ho=>ej Go.Ev.spec73 h ho,VQ,adA,aaf,HI,Ol,WF,K9,B3,Dj⟩
def BO:FuncId→Nat→Bool:=fun f t=>match f with|39=>bf t [5]|42=>bf t [5]|88=>bf t [7,21]|82=>bf t [13,18]|35=>bf t [11,16]|_=>false
noncomputable def od (a:Nat):Nat:=dY (co a 0) (ab 3)
noncomputable def PK (a:Nat):Nat:=ci (ab 3) (cI (ab 3) (aq (ab 3) a))
theorem EE (a:Nat):od a<ab 3:=dJ (ae 3)
theorem Hs (a:Nat):PK a<ab 3:=bj (ae 3)
theorem PI {a:Nat} (h:a<4294967296^8):co a 0<4294967296^16:=gV h
theorem r75 (a:Nat):al (cd LNn BO) 1000 75 [zV 3,mO a] []=some ([0<ab 3,a<4294967296^16,ab 3<4294967296^8],.tup [N8 (dY a (ab 3)),.one (.i 0)]):=by kernel_rfl
theorem ano (a:Nat):al (cd LNn BO) 1000 34 [N8 a] []=some ([a<4294967296^8,0<ab 3,co a 0<4294967296^16,ab 3<4294967296^8],.val (N8 (od a))):=by kernel_rfl
theorem anT (a:Nat):al (cd LNn BO) 1000 49 [N8 a] []=some ([a<4294967296^8,0<4294967296,0<4294967296,0<4294967296,0<4294967296,0<4294967296,0<4294967296,0<4294967296,0<4294967296,(0:Int)≤3∧(3:Int)<4,co a 0<4294967296^16],.val (N8 (od a))):=by kernel_rfl
theorem AF (a:Nat) (h:a<4294967296^8):Spec 34 [N8 a] (.val (N8 (od a))):=af (aF sJ BO) rfl (ano a) ⟨h,ae 3,PI h,aj 3,trivial⟩ rfl rfl
theorem BE (a:Nat) (h:a<4294967296^8):Spec 49 [N8 a] (.val (N8 (od a))):=by
 have z:(0:Nat)<4294967296:=by decide
 exact af (aF sJ BO) rfl (anT a) ⟨h,z,z,z,z,z,z,z,z,by omega,PI h,trivial⟩ rfl rfl
def Zt (vs:List V1):Option (List Prop×AV):=
 match vs with
 |[.one (.i z),x]=>match el 16 x with
  |some (o,a)=>some ((z=3)::o,.tup [N8 (dY a (ab 3)),.one (.i 0)])
  |none=>none
 |_=>none
theorem Yg:aU ⟨75,Zt⟩:=by
 intro vs ob r h ho
 simp only[Zt] at h
 split at h
 ·split at h
  ·rename_i o a hx
   obtain ⟨rfl,rfl⟩:=sI h
   obtain ⟨rfl,ho⟩:=ho
   obtain ⟨h1,h2⟩:=aX hx ho
   exact (af (aF sJ BO) rfl (r75 a) ⟨ae 3,h1,aj 3,trivial⟩ rfl rfl).congr (fun φ=>by simp only[List.map_cons,List.map_nil];rw[←h2 φ];rfl) (fun _=>rfl)
  ·simp at h
 ·simp at h
theorem r83 (m q a b:Nat):al (cd LNn BO) 1000 83 [xx m q,N8 a,N8 b] []=
  some ([a<4294967296^8,b<4294967296^8,0<m,a*b<4294967296^16,m<4294967296^8],.val (N8 (dY (a*b) m))):=by kernel_rfl
theorem CR {a b:Nat} (ha:a<4294967296^8) (hb:b<4294967296^8):a*b<4294967296^16:=by
 have:=Nat.mul_lt_mul'' ha hb
 rwa[←Nat.pow_add] at this
def XJ (vs:List V1):Option (List Prop×AV):=
 match vs with
 |[.agg [.num 8 m,.a (.u .u32 _)],x,y]=>match el 8 x,el 8 y with
  |some (o,a),some (o',b)=>some ((0<m)::(m<4294967296^8)::(o++o'),.val (N8 (dY (a*b) m)))
  |_,_=>none
 |_=>none
theorem alR:aU ⟨83,XJ⟩:=by
 intro vs ob r h ho
 simp only[XJ] at h
 split at h
 ·rename_i m q x y
  split at h
  ·rename_i o a o' b hx hy
   obtain ⟨rfl,rfl⟩:=sI h
   obtain ⟨h0,hm,ho⟩:=ho
   rw[aY] at ho
   obtain ⟨h1,h2⟩:=aX hx ho.1
   obtain ⟨h3,h4⟩:=aX hy ho.2
   exact (af (aF sJ BO) rfl (r83 m q a b) ⟨h1,h3,h0,CR h1 h3,hm,trivial⟩ rfl rfl).congr (fun φ=>by simp only[List.map_cons,List.map_nil];rw[←h2 φ,←h4 φ];rfl) (fun _=>rfl)
  ·simp at h
 ·simp at h
noncomputable def LFn:List CT:=⟨75,Zt⟩::⟨83,XJ⟩::⟨34,xA fun a=> .val (N8 (od a))⟩::⟨49,xA fun a=> .val (N8 (od a))⟩::LNn
theorem wq:bw LFn:=⟨Yg,alR,fun _ _ _ h ho=>ej AF h ho,fun _ _ _ h ho=>ej BE h ho,sJ⟩
theorem r36 (a b:Nat):al (cd LFn BO) 1000 36 [zV 3,N8 a,N8 b] [false,false]=
  some ([a<4294967296^8,(!fT 3 a)=false,b<4294967296^8,(!fT 3 b)=false,(0:Int)≤3∧(3:Int)<4,0<ab 3,ab 3<4294967296^8,a<4294967296^8,b<4294967296^8],.tup [N8 (bK (ab 3) a b),.one (.i 0)]):=by kernel_rfl
theorem r37 (a b:Nat):al (cd LFn BO) 1000 37 [zV 3,N8 a,N8 b] [false,false]=
  some ([a<4294967296^8,(!fT 3 a)=false,b<4294967296^8,(!fT 3 b)=false,(0:Int)≤3∧(3:Int)<4,ab 3<4294967296^8,a<ab 3,b<ab 3,a<4294967296^8,b<4294967296^8],.tup [N8 (addM (ab 3) a b),.one (.i 0)]):=by kernel_rfl
theorem r35 (a:Nat):al (cd LFn BO) 1000 35 [zV 3,N8 a] [false,false]=
  some ([a<4294967296^8,(!fT 3 a)=false,gX a=false,(0:Int)≤3∧(3:Int)<4,ab 3<4294967296^8,0<ab 3,a<4294967296^8,ab 3<4294967296^8,aq (ab 3) a<ab 3,bc (ab 3) (aT 3),aq (ab 3) a<4294967296^8,ab 3<4294967296^8,cI (ab 3) (aq (ab 3) a)<ab 3,bc (ab 3) (aT 3),cI (ab 3) (aq (ab 3) a)<4294967296^8],.tup [N8 (PK a),.one (.i 0)]):=by kernel_rfl
theorem r53 (a:Nat):al (cd LFn BO) 1000 53 [zV 3,N8 a] []=
  some ([(0:Int)≤3∧(3:Int)<4,2<4294967296,ab 3<4294967296^8,2<4294967296^8,(0:Int)≤3∧(3:Int)<4,bg (ab 3) (aA (ak (ab 3) 0)) (aO (ab 3)),a<ab 3,a<4294967296^8,bg (ab 3) (aA (ak (ab 3) 0)) (aO (ab 3)),1<ab 3,aq (ab 3) a<ab 3,aq (ab 3) a<4294967296^8,bh (ab 3) 2<4294967296^8,bg (ab 3) (aA (ak (ab 3) 0)) (aO (ab 3)),cI (ab 3) (aq (ab 3) a)<ab 3,cI (ab 3) (aq (ab 3) a)<4294967296^8],.val (N8 (PK a))):=by kernel_rfl
theorem amA {x:Nat}:fT 3 x=decide (x<ab 3):=by unfold fT mX;rfl
theorem Dd {a:Nat} (h:a<ab 3):(!fT 3 a)=false:=by rw[amA,decide_eq_true h];rfl
def G' (g:Nat→Nat→Nat) (vs:List V1):Option (List Prop×AV):=
 match vs with
 |[.one (.i z),x,y]=>match el 8 x,el 8 y with
  |some (o,a),some (o',b)=>some ((z=3)::(a<ab 3)::(b<ab 3)::(o++o'),.tup [N8 (g a b),.one (.i 0)])
  |_,_=>none
 |_=>none
theorem HQ {f:FuncId} {g:Nat→Nat→Nat} (hg:∀a b,a<ab 3→b<ab 3→Spec f [zV 3,N8 a,N8 b] (.tup [N8 (g a b),.one (.i 0)])):aU ⟨f,G' g⟩:=by
 intro vs ob r h ho
 simp only[G'] at h
 split at h
 ·split at h
  ·rename_i o a o' b hx hy
   obtain ⟨rfl,rfl⟩:=sI h
   obtain ⟨rfl,ha,hb,ho⟩:=ho
   rw[aY] at ho
   obtain ⟨h1,h2⟩:=aX hx ho.1
   obtain ⟨h3,h4⟩:=aX hy ho.2
   exact (hg a b ha hb).congr (fun φ=>by simp only[List.map_cons,List.map_nil];rw[←h2 φ,←h4 φ];rfl) (fun _=>rfl)
  ·simp at h
 ·simp at h
theorem Xi:aU ⟨36,G' (bK (ab 3))⟩:=HQ fun a b ha hb=>af (aF wq BO) rfl (r36 a b) ⟨L8 ha,Dd ha,L8 hb,Dd hb,by decide,ae 3,aj 3,L8 ha,L8 hb,trivial⟩ rfl rfl
theorem ahP:aU ⟨37,G' (addM (ab 3))⟩:=HQ fun a b ha hb=>af (aF wq BO) rfl (r37 a b) ⟨L8 ha,Dd ha,L8 hb,Dd hb,by decide,aj 3,ha,hb,L8 ha,L8 hb,trivial⟩ rfl rfl
noncomputable def Bf (t:Bool) (vs:List V1):Option (List Prop×AV):=
 match vs with
 |[.one (.i z),x]=>match el 8 x with
  |some (o,a)=>some ((z=3)::(a<ab 3)::(gX a=false)::o,bif t then .tup [N8 (PK a),.one (.i 0)] else .val (N8 (PK a)))
  |none=>none
 |_=>none
theorem Hz (a:Nat):cI (ab 3) (aq (ab 3) a)<ab 3:=cg (ae 3)
theorem in3 (a:Nat):aq (ab 3) a<ab 3:=au (ae 3)
theorem XH:aU ⟨35,Bf true⟩:=by
 intro vs ob r h ho
 simp only[Bf] at h
 split at h
 ·split at h
  ·rename_i o a hx
   simp only[Option.some.injEq,Prod.mk.injEq,cond_true] at h
   obtain ⟨rfl,rfl⟩:=h
   obtain ⟨rfl,ha,hz,ho⟩:=ho
   obtain ⟨h1,h2⟩:=aX hx ho
   exact (af (aF wq BO) rfl (r35 a) ⟨h1,Dd ha,hz,by decide,aj 3,ae 3,h1,aj 3,in3 a,aK (by decide),L8 (in3 a),aj 3,Hz a,aK (by decide),L8 (Hz a),trivial⟩ rfl rfl).congr (fun φ=>by simp only[List.map_cons,List.map_nil];rw[←h2 φ];rfl) (fun _=>rfl)
  ·simp at h
 ·simp at h
theorem Nd:aU ⟨53,Bf false⟩:=by
 intro vs ob r h ho
 simp only[Bf] at h
 split at h
 ·split at h
  ·rename_i o a hx
   simp only[Option.some.injEq,Prod.mk.injEq,cond_false] at h
   obtain ⟨rfl,rfl⟩:=h
   obtain ⟨rfl,ha,hz,ho⟩:=ho
   obtain ⟨h1,h2⟩:=aX hx ho
   exact (af (aF wq BO) rfl (r53 a) ⟨by decide,by decide,aj 3,by decide,by decide,aC (by decide),ha,h1,aC (by decide),a9 3,in3 a,L8 (in3 a),cJ _ _,aC (by decide),Hz a,L8 (Hz a),trivial⟩ rfl rfl).congr (fun φ=>by simp only[List.map_cons,List.map_nil];rw[←h2 φ];rfl) (fun _=>rfl)
  ·simp at h
 ·simp at h
noncomputable def Yd:List CT:=⟨36,G' (bK (ab 3))⟩::⟨37,G' (addM (ab 3))⟩::⟨35,Bf true⟩::⟨53,Bf false⟩::LFn
theorem sa:bw Yd:=⟨Xi,ahP,XH,Nd,wq⟩
noncomputable def PW:FuncId→Nat→Bool:=fun f t=>match f with
 |39=>bf t [5]|42=>bf t [5]|82=>bf t [12,17]|88=>bf t [7,21]|_=>false
def gd (a:Nat):Bool:= !gX a&&decide (a<ab 3)
theorem aof (a:Nat):al (cd Yd PW) 1000 39 [N8 a] [false]=some ([(!gX a)=false],bV false):=by kernel_rfl
theorem anY (a:Nat):al (cd Yd PW) 1000 39 [N8 a] [true]=some ([(!gX a)=true,a<4294967296^8],bV (decide (a<ab 3))):=by kernel_rfl
theorem anE (a:Nat):al (cd Yd PW) 1000 42 [N8 a] [false]=some ([(!gX a)=false],bV false):=by kernel_rfl
theorem aqa (a:Nat):al (cd Yd PW) 1000 42 [N8 a] [true,true,true]=some ([(!gX a)=true,iz 3=true,(0:Int)≤3∧(3:Int)<4,decide (a<ab 3)=true,a<4294967296^8,ab 3<4294967296^8],bV true):=by kernel_rfl
theorem alS (a:Nat):al (cd Yd PW) 1000 42 [N8 a] [true,true,false]=some ([(!gX a)=true,iz 3=true,(0:Int)≤3∧(3:Int)<4,decide (a<ab 3)=false,a<4294967296^8,ab 3<4294967296^8],bV false):=by kernel_rfl
theorem zw (a:Nat) (h:a<4294967296^8):Spec 39 [N8 a] (bV (gd a)):=by
 unfold gd
 cases hz:gX a with
 |true=>exact af (aF sa PW) rfl (aof a) ⟨by rw[hz];rfl,trivial⟩ rfl rfl
 |false=>exact af (aF sa PW) rfl (anY a) ⟨by rw[hz];rfl,h,trivial⟩ rfl rfl
theorem Hw (a:Nat) (h:a<4294967296^8):Spec 42 [N8 a] (bV (gd a)):=by
 unfold gd
 cases hz:gX a with
 |true=>exact af (aF sa PW) rfl (anE a) ⟨by rw[hz];rfl,trivial⟩ rfl rfl
 |false=>
  cases hd:decide (a<ab 3) with
  |true=>exact af (aF sa PW) rfl (aqa a) ⟨by rw[hz];rfl,by decide,by omega,hd,h,aj 3,trivial⟩ rfl rfl
  |false=>exact af (aF sa PW) rfl (alS a) ⟨by rw[hz];rfl,by decide,by omega,hd,h,aj 3,trivial⟩ rfl rfl
noncomputable def gGd:List V1→Option (List Prop×AV):=xA fun a=>bV (gd a)
noncomputable def LKz:List CT:=⟨39,gGd⟩::⟨42,gGd⟩::Yd
theorem vi:bw LKz:=⟨fun _ _ _ h ho=>ej zw h ho,fun _ _ _ h ho=>ej Hw h ho,sa⟩
noncomputable def SKz:FuncId→Nat→Bool:=fun f t=>match f with
 |12=>bf t [7]|58=>bf t [4,7]|18=>bf t [4,7]|55=>bf t [19,25,29]|82=>bf t [12,17]|_=>false
def zK:V1:= .agg [.a (.u .u32 0),.a (.u .u32 0),.a (.u .u32 0),.a (.u .u32 0),.a (.u .u32 0),.a (.u .u32 0),.a (.u .u32 0),.a (.u .u32 0)]
theorem r43 (s:ByteArray):al (cd LKz SKz) 1000 28 [sS s] []=some ([s.size=32,gT s<4294967296^8],.tup [N8 (gT s),.one (.v (.bool (gd (gT s))))]):=by kernel_rfl
theorem r28 (s:ByteArray):al (cd LKz SKz) 1000 12 [sS s] [false]=some ([(!decide ((s.size:Int)=32))=false,s.size=32,gT s<4294967296^8],.tup [N8 (gT s),.one (.v (.bool (gd (gT s))))]):=by kernel_rfl
theorem ao2 (s:ByteArray):al (cd LKz SKz) 1000 12 [sS s] [true]=some ([(!decide ((s.size:Int)=32))=true],.tup [zK,.one (.v (.bool false))]):=by kernel_rfl
theorem fu {s:ByteArray} (h:s.size=32):gT s<4294967296^8:=by
 have:=qc (qm s)
 rw[lK,h] at this
 exact Nat.lt_of_lt_of_le this (by decide)
theorem WM {n:Nat} (h:n=32):(!decide ((n:Int)=32))=false:=by subst h;rfl
theorem aa4 {n:Nat} (h:n≠32):(!decide ((n:Int)=32))=true:=by
 have:¬((n:Int)=32):=by omega
 rw[decide_eq_false this];rfl
def Pi (s:ByteArray):Bool:=decide (s.size=32)&&gd (gT s)
def Fn (vs:List V1):Option (List Prop×AV):=match vs with|[.one (.v (.string s))]=>some ([s.size=32],.tup [N8 (gT s),.one (.v (.bool (gd (gT s))))])|_=>none
theorem apU:aU ⟨28,Fn⟩:=by
 intro vs ob r h ho
 simp only[Fn] at h
 split at h
 ·obtain ⟨rfl,rfl⟩:=sI h
  obtain ⟨h1,_⟩:=ho
  exact af (aF vi SKz) rfl (r43 _) ⟨h1,fu h1,trivial⟩ rfl rfl
 ·simp at h
theorem TX:aU ⟨12,Fn⟩:=by
 intro vs ob r h ho
 simp only[Fn] at h
 split at h
 ·obtain ⟨rfl,rfl⟩:=sI h
  obtain ⟨h1,_⟩:=ho
  exact af (aF vi SKz) rfl (r28 _) ⟨WM h1,h1,fu h1,trivial⟩ rfl rfl
 ·simp at h
noncomputable def LPb:List CT:=⟨12,Fn⟩::⟨28,Fn⟩::⟨30,dU [aN,qg] HV⟩::⟨44,dU [aN,qg] CK⟩::⟨29,dU [qg] yj⟩::⟨43,dU [qg] yj⟩::⟨31,cV (.val (P3 xS xV false))⟩::⟨45,cV (.val (P3 xS xV false))⟩::[]
theorem abM:bw LPb:=⟨TX,apU,Wp,Mi,aiN,air,tG Au,tG uI,trivial⟩
def SPb:FuncId→Nat→Bool:=fun f t=>match f with|10=>bf t [12]|_=>false
noncomputable def Aq (k:Nat):Sp:=gr (Sp.mk xS xV false) k
theorem HE (k:Nat):(Aq k).on:=dL (s:=Sp.mk xS xV false) qw k
theorem Az (k:Nat):(Aq k).x<4294967296^8∧(Aq k).y<4294967296^8:=⟨L8 (HE k).lx,L8 (HE k).ly⟩
noncomputable def abW (s:ByteArray):ByteArray:=Iy (Aq (gT s)).x (Aq (gT s)).y
theorem r30 (s:ByteArray):al (cd LPb SPb) 1000 13 [sS s] []=
  some ([s.size=32,gT s<4294967296^8,xS<4294967296^8,xV<4294967296^8,jC xS xV false=true,(Aq (gT s)).x<4294967296^8,(Aq (gT s)).y<4294967296^8],.val (sS (abW s))):=by kernel_rfl
noncomputable def ahY (vs:List V1):Option (List Prop×AV):=match vs with|[.one (.v (.string s))]=>some ([s.size=32],.val (sS (abW s)))|_=>none
theorem anx:aU ⟨13,ahY⟩:=by
 intro vs ob r h ho
 simp only[ahY] at h
 split at h
 ·obtain ⟨rfl,rfl⟩:=sI h
  obtain ⟨h1,_⟩:=ho
  exact af (aF abM SPb) rfl (r30 _) ⟨h1,fu h1,L8 vy,L8 wW,qw,(Az _).1,(Az _).2,trivial⟩ rfl rfl
 ·simp at h
def S85:FuncId→Nat→Bool:=fun f t=>match f with|85=>bf t [2000005,2000009]|146=>bf t [6,9,20,2000021,24,2000025,26,4000026,27,4000027,11,13]|_=>false
noncomputable def Xs (s:ByteArray):Nat:=bif decide (s.size=32) then gT s else 0
noncomputable def aeF (vs:List V1):Option (List Prop×AV):=match vs with|[.one (.v (.string s))]=>some ([s.size≤1000000],.tup [N8 (Xs s),.one (.v (.bool (Pi s)))])|_=>none
theorem Iw (φ:c7):zK.conc φ=(N8 0).conc φ:=by kernel_rfl
theorem Uf (s:ByteArray):Spec 12 [sS s] (.tup [N8 (Xs s),.one (.v (.bool (Pi s)))]):=by
 unfold Xs Pi
 by_cases hz:s.size=32
 ·rw[decide_eq_true hz,cond_true,Bool.true_and]
  exact af (aF vi SKz) rfl (r28 s) ⟨WM hz,hz,fu hz,trivial⟩ rfl rfl
 ·rw[decide_eq_false hz,cond_false,Bool.false_and]
  exact (af (aF vi SKz) rfl (ao2 s) ⟨aa4 hz,trivial⟩ rfl rfl).congr (fun _=>rfl) (fun φ=>by simp only[AV.conc,List.map_cons,Iw φ])
theorem ajc:aU ⟨12,aeF⟩:=by
 intro vs ob r h ho
 simp only[aeF] at h
 split at h
 ·obtain ⟨rfl,rfl⟩:=sI h
  exact Uf _
 ·simp at h
end Go.Ev.H5
