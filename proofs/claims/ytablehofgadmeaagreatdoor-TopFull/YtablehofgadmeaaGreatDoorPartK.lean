/- Of the proof of TopFull: what the functions come to that the law reaches. -/
import Derived.Test.YtablehofgadmeaaGreatDoorPartJ
import Derived.Test.YtablehofgadmeaaGreatDoorPartF
import Derived.Deep.Strs
import Derived.Test.YtablehofgadmeaaGreatDoorProg
namespace Go.Ev.Ch.T
open Go Go.Proofs Go.RowKit
set_option maxRecDepth 100000
def agL (seed key:ByteArray) (x:Atom):V1:= .agg [.a (.v (.string seed)),.a (.v (.string key)),.a x]
def HvP (k:Blk) (n cap:Nat) (hv:Int):Prop:=∀(mem:List Blk) (b:Nat) (w0:Base) (φ:Loc) (w:World),mem[b]? =some k→MRel w0 φ mem w→
 Calls Tryz.prog 15 #[(V1.one (.sl b 0 n cap)).conc φ] w fun e w'=>e= .returned (.int .i64 hv)∧Below w.heap.size w w'
def fmH (hv:Int) (f:FuncId) (vs:List V1) (bs:List (Option Blk)):Option (List Prop×AV):=match Nat.beq f 15 with
 |true=>(match vs,bs with
  |[.one (.sl _ 0 n cap)],[some k]=>some ([HvP k n cap hv],.val (.one (.i hv)))
  |_,_=>none)
 |false=>none
theorem blks_sl' {mem:List Blk} {b off n cap:Nat} {k:Blk} (h:blks mem [.one (.sl b off n cap)]=[some k]):mem[b]? =some k:=by
 simp only[blks,blkOf,List.cons.injEq,and_true] at h
 split at h
 ·rename_i k' hk
  split at h
  ·rw[hk];exact h
  ·simp at h
 ·simp at h
noncomputable def mkWH (L:List CT) (F:List FT) (hv:Int) (S:FuncId→Nat→Bool):Env:={E0 with fn:=lookC L,fw:=lookF F,fm:=fmH hv,S:=S}
theorem envWH {L:List CT} (hL:AllCT L) {F:List FT} (hF:AllFT F) (hv:Int) (S:FuncId→Nat→Bool):EnvOK (mkWH L F hv S):=
 ⟨mixed,fun _ _ _ _ h ho=>lookC_spec hL h ho,fun f vs mem ob r h ho w0 φ w hm=>by
  simp only[mkWH,fmH] at h
  split at h
  ·rename_i hf
   rw[Nat.beq_eq] at hf
   subst hf
   split at h
   ·rename_i hb
    simp only[Option.some.injEq,Prod.mk.injEq] at h
    obtain ⟨rfl,rfl⟩:=h
    exact ho.1 mem _ w0 φ w (blks_sl' hb) hm
   ·simp at h
  ·simp at h,fun _ _ _ h=>by simp[mkWH,E0] at h,fun _ _ _ _ _ _ h=>by simp[mkWH,E0] at h,fun _ _ _ _ h ho=>lookF_spec hF h ho⟩
noncomputable def STop:FuncId→Nat→Bool:=fun f t=>match f with|8=>memN t [6,14,15]|9=>memN t [5,9]|4=>memN t [15]|_=>false
noncomputable def ETop (seed key:ByteArray) (hv:Int) (A:AnF):Env:=mkWH [⟨7,fnSp 7 trV⟩] [(rsRun key seed A).fw] hv STop
theorem envTop (seed key:ByteArray) (hv:Int) (A:AnF):EnvOK (ETop seed key hv A):=envWH (L:=[⟨7,fnSp 7 trV⟩]) ⟨ctSp _ _,trivial⟩ (F:=[(rsRun key seed A).fw]) ⟨RS.ok _,trivial⟩ hv STop
noncomputable def resM (x:Option (List Prop×AV×List Blk)):Option (List Prop×AV):=match x with|some (o,r,_)=>some (o,r)|none=>none
def kT (ps:List Piece):Blk:=⟨ps,31,true,true,0⟩
noncomputable def rT (ps:List Piece) (seed key:ByteArray) (m cap:Nat) (hv:Int) (pb:Nat→ByteArray) (c:List Bool):Option (List Prop×AV):=resM (callM (ETop seed key hv (AnS pb)) 9000 3 [agL seed key (.sl 0 0 m cap)] [kT ps] c)
def oA (ps:List Piece) (m cap:Nat) (hv:Int) (b:Bool):List Prop:=[HvP (kT ps) m cap hv,decide ((6000:Int)<hv)=b]
def oB (seed key:ByteArray) (b:Bool):List Prop:=[inI ((seed.size:Int)+(key.size:Int)),decide ((1000:Int)<(seed.size:Int)+(key.size:Int))=b]
theorem top1 (ps:List Piece) (seed key:ByteArray) (m cap:Nat) (hv:Int) (pb:Nat→ByteArray):rT ps seed key m cap hv pb [true]=some (oA ps m cap hv true,trV):=by kernel_rfl
theorem top2 (ps:List Piece) (seed key:ByteArray) (m cap:Nat) (hv:Int) (pb:Nat→ByteArray):rT ps seed key m cap hv pb [false,true]=some (oA ps m cap hv false++oB seed key true,trV):=by kernel_rfl
theorem top3 (ps:List Piece) (seed key:ByteArray) (m cap:Nat) (hv:Int) (pb:Nat→ByteArray):rT ps seed key m cap hv pb [false,false,false]=some (oA ps m cap hv false++(oB seed key false++[decide ((16:Int)≤(seed.size:Int))=false]),trV):=by kernel_rfl
theorem top4 (ps:List Piece) (seed key:ByteArray) (m cap:Nat) (hv:Int) (pb:Nat→ByteArray):rT ps seed key m cap hv pb [false,false,true,false]=some (oA ps m cap hv false++(oB seed key false++[decide ((16:Int)≤(seed.size:Int))=true,decide ((seed.size:Int)≤64)=false]),trV):=by kernel_rfl
theorem top5 (ps:List Piece) (seed key:ByteArray) (m cap:Nat) (hv:Int) (pb:Nat→ByteArray):rT ps seed key m cap hv pb [false,false,true,true,false]=some (oA ps m cap hv false++(oB seed key false++[decide ((16:Int)≤(seed.size:Int))=true,decide ((seed.size:Int)≤64)=true,decide ((key.size:Int)=32)=false]),trV):=by kernel_rfl
theorem top6 (ps:List Piece) (seed key:ByteArray) (m cap:Nat) (hv:Int) (pb:Nat→ByteArray):rT ps seed key m cap hv pb [false,false,true,true,true]=some (oA ps m cap hv false++(oB seed key false++([decide ((16:Int)≤(seed.size:Int))=true,decide ((seed.size:Int)≤64)=true,decide ((key.size:Int)=32)=true]++((rsRun key seed (AnS pb)).o [sS seed,sS key,.one (.sx 32 14)] [32]++[Spec 7 [] trV]))),trV):=by kernel_rfl
theorem resM_some {x:Option (List Prop×AV×List Blk)} {o:List Prop} {r:AV} (h:resM x=some (o,r)):∃m,x=some (o,r,m):=by
 unfold resM at h
 split at h
 ·simp only[Option.some.injEq,Prod.mk.injEq] at h
  obtain ⟨rfl,rfl⟩:=h
  exact ⟨_,rfl⟩
 ·simp at h
def TopC (ps:List Piece) (seed key:ByteArray) (m cap:Nat):Prop:=∀(φ:Loc) (w:World),MRel (w:Base) φ [kT ps] w→
 Calls Tryz.prog 3 #[(agL seed key (.sl 0 0 m cap)).conc φ] w fun e w'=>e= .returned (.bool true)∧Below w.heap.size w w'
theorem topC_of {ps:List Piece} {seed key:ByteArray} {m cap:Nat} {hv:Int} {pb:Nat→ByteArray} {c:List Bool} {o:List Prop} (h:rT ps seed key m cap hv pb c=some (o,trV)) (ho:All o):TopC ps seed key m cap:=by
 obtain ⟨mem',hm'⟩:=resM_some h
 unfold callM at hm'
 split at hm'
 ·rename_i ob c1 r1 m1 h1
  simp only[Option.some.injEq,Prod.mk.injEq] at hm'
  obtain ⟨rfl,rfl,rfl⟩:=hm'
  intro φ w hm
  have hE:=envTop seed key hv (AnS pb)
  refine (callBy_ok hE (evalC_ok hE 9000) _ _ _ _ _ _ _ _ h1 ho (w:Base) φ w hm ?_).mono ?_
  ·intro v hv
   simp only[List.mem_cons,List.not_mem_nil,or_false] at hv
   subst hv;rfl
  ·rintro e w' ⟨φ',rfl,_,_,hm2,_⟩
   exact ⟨rfl,hm2.below.below⟩
 ·simp at hm'
structure PubAll (pb:ByteArray→Nat→ByteArray) (p8:ByteArray→ByteArray) (pm:ByteArray):Prop where
 k:∀seed:ByteArray,16≤seed.size∧seed.size≤64→∀k,k<8→PubR k paL nod seed (paL k) (pb seed k)
 n:∀seed:ByteArray,16≤seed.size∧seed.size≤64→PubR 8 paL nod seed (paL 8) (p8 seed)
 d:∀seed:ByteArray,16≤seed.size∧seed.size≤64→PubR 8 paL d3 seed (paL 8) (p8 seed)
 m:PubR 0 paM nod (zrS 16) pM pm
theorem top_all {pb:ByteArray→Nat→ByteArray} {p8:ByteArray→ByteArray} {pm:ByteArray} (hp:PubAll pb p8 pm) (ps:List Piece) (seed key:ByteArray) (m cap:Nat) (hv:Int) (hh:HvP (kT ps) m cap hv)
  (h1:seed.size≤140737488351232) (h2:key.size≤140737488351232):TopC ps seed key m cap:=by
 have hi:inI ((seed.size:Int)+(key.size:Int)):=by unfold inI;omega
 by_cases c1:(6000:Int)<hv
 ·exact topC_of (top1 ps seed key m cap hv (pb seed)) ⟨hh,decide_eq_true c1,trivial⟩
 have b1:=decide_eq_false c1
 by_cases c2:(1000:Int)<(seed.size:Int)+(key.size:Int)
 ·exact topC_of (top2 ps seed key m cap hv (pb seed)) ⟨hh,b1,hi,decide_eq_true c2,trivial⟩
 have b2:=decide_eq_false c2
 by_cases c3:¬(16:Int)≤(seed.size:Int)
 ·exact topC_of (top3 ps seed key m cap hv (pb seed)) ⟨hh,b1,hi,b2,decide_eq_false c3,trivial⟩
 have c3:=Decidable.not_not.1 c3
 have b3:=decide_eq_true c3
 by_cases c4:¬(seed.size:Int)≤64
 ·exact topC_of (top4 ps seed key m cap hv (pb seed)) ⟨hh,b1,hi,b2,b3,decide_eq_false c4,trivial⟩
 have c4:=Decidable.not_not.1 c4
 have b4:=decide_eq_true c4
 by_cases c5:¬(key.size:Int)=32
 ·exact topC_of (top5 ps seed key m cap hv (pb seed)) ⟨hh,b1,hi,b2,b3,b4,decide_eq_false c5,trivial⟩
 have c5:=Decidable.not_not.1 c5
 have hs:16≤seed.size∧seed.size≤64:=by omega
 refine topC_of (top6 ps seed key m cap hv (pb seed)) ⟨hh,b1,hi,b2,b3,b4,decide_eq_true c5,rfl,rfl,?_,wakes pm hp.m,trivial⟩
 exact run_P (by omega) hs (pb seed) (p8 seed) (p8 seed) (hp.k seed hs) (hp.n seed hs) (hp.d seed hs)
def PbD (F:PbF) (seed:ByteArray) (d:Nat):Prop:=Spec 203 [.one (.i 1),sS seed] (.tup [ndV F.k1 F.c1,.one (.i 0)])∧Spec 204 [.one (.i 1),ndV F.k1 F.c1,u32 (2147483648+(d-48))] (.tup [ndV F.k2 F.c2,.one (.i 0)])∧
 Spec 200 [.one (.i 1),ndV F.k2 F.c2] trV∧Spec 201 [sS F.k2] (.tup [sS F.pb,.one (.i 0)])
def PbE (F:PbF) (seed:ByteArray):Prop:=Spec 203 [.one (.i 1),sS seed] (.tup [ndV F.k1 F.c1,.one (.i 0)])∧Spec 200 [.one (.i 1),ndV F.k1 F.c1] trV∧Spec 201 [sS F.k1] (.tup [sS F.pb,.one (.i 0)])
theorem pubR_d {F:PbF} {seed:ByteArray} {k:Nat} (hk:k≤8) (pa:Nat→ByteArray) (dd:Nat→Bool) (h:PbD F seed (48+k)):PubR k pa dd seed (paL k) F.pb:=by
 have ho:All (pbO F (48+k) seed (paL k)):=⟨rfl,rfl,rfl,by omega,by omega,h.1,h.2.1,h.2.2.1,h.2.2.2,trivial⟩
 cases k with
 |zero=>exact runs_pick (envPb F 48) rfl (pb0 F seed pa dd) ho rfl rfl rfl rfl rfl rfl rfl rfl
 |succ k=>
  refine runs_pick (envPb F _) rfl (pb1.get (by omega:k<8) F seed pa dd) ho rfl rfl rfl rfl ?_ rfl ?_ rfl
  ·simp only[kBl,memWf,kR,keyPs_ptr];rfl
  ·simp only[kBl,pickW,List.map_cons,List.map_nil,renB_kR]
theorem pubR_m {F:PbF} {seed:ByteArray} (h:PbE F seed):PubR 0 paM nod seed pM F.pb:=
 runs_pick (envPm' F) rfl (pbm F seed) ⟨rfl,rfl,rfl,h.1,h.2.1,h.2.2,trivial⟩ rfl rfl rfl rfl rfl rfl rfl rfl
theorem pubAll_of {G:ByteArray→Nat→PbF} {M:PbF} (h:∀seed:ByteArray,16≤seed.size∧seed.size≤64→∀k,k≤8→PbD (G seed k) seed (48+k)) (hm:PbE M (zrS 16)):PubAll (fun s k=>(G s k).pb) (fun s=>(G s 8).pb) M.pb:=
 ⟨fun s hs k hk=>pubR_d (by omega) _ _ (h s hs k (by omega)),fun s hs=>pubR_d (k:=8) (by omega) _ _ (h s hs 8 (by omega)),fun s hs=>pubR_d (k:=8) (by omega) _ _ (h s hs 8 (by omega)),pubR_m hm⟩
structure AcC where
 v:Nat→Value
 s:Nat→ByteArray
 o:Nat→Option Addr
 n:Nat→Nat
 k:Nat→Nat
def AcC.sl (c:AcC) (p:Nat):Value:= .slice (c.o p) (c.n p) (c.k p)
def rowA (c:AcC) (p:Nat):List Piece:=[.a (.v (c.v p)),.a (.v (c.v (p+1))),.a (.v (.string (c.s (p+2)))),.a (.v (c.v (p+3))),.a (.v (.string (c.s (p+4)))),.a (.v (.string (c.s (p+5)))),.a (.v (c.v (p+6))),.a (.v (c.sl (p+7))),.a (.v (.string (c.s (p+8))))]
def rowsA (c:AcC):Nat→Nat→List Piece
 |0,_=>[]
 |m+1,i=>rowA c (i*9)++rowsA c m (i+1)
theorem rowA_len (c:AcC) (p:Nat) (φ:Loc):(concs φ (rowA c p)).length=9:=by simp[rowA,concs,Piece.conc]
theorem rowsA_len (c:AcC) (φ:Loc):∀m i,(concs φ (rowsA c m i)).length=m*9
 |0,_=>by simp[rowsA,concs]
 |m+1,i=>by simp only[rowsA,concs_append,List.length_append,rowA_len,rowsA_len c φ m,Nat.succ_mul];omega
theorem rowsA_drop (c:AcC) (φ:Loc):∀(m i k:Nat),k<m→∃r,(concs φ (rowsA c m i)).drop (k*9)=concs φ (rowA c ((i+k)*9))++r
 |0,_,_,h=>absurd h (Nat.not_lt_zero _)
 |m+1,i,0,_=>⟨concs φ (rowsA c m (i+1)),by simp[rowsA,concs_append]⟩
 |m+1,i,k+1,h=>by
  obtain ⟨r,hr⟩:=rowsA_drop c φ m (i+1) k (by omega)
  refine ⟨r,?_⟩
  simp only[rowsA,concs_append]
  rw[List.drop_append,rowA_len,List.drop_eq_nil_of_le (by rw[rowA_len];omega),List.nil_append,show (k+1)*9-9=k*9 by omega,hr,show i+1+k=i+(k+1) by omega]
theorem rowsA_get (c:AcC) (φ:Loc) {m i j:Nat} (h:i<m) (hj:j<9):(concs φ (rowsA c m 0))[i*9+j]? =(concs φ (rowA c (i*9)))[j]? :=by
 obtain ⟨r,hr⟩:=rowsA_drop c φ m 0 i h
 rw[←List.getElem?_drop,hr,List.getElem?_append_left (by rw[rowA_len];exact hj),Nat.zero_add]
theorem rowsA_ptr (c:AcC) (f:Nat→Bool):∀m i,allPtr f (rowsA c m i)=true
 |0,_=>rfl
 |m+1,i=>allPtr_app f _ _ rfl (rowsA_ptr c f m (i+1))
theorem loadsA {P:Program} {c:AcC} {m i j:Nat} {t:TypeId} {x:V1} (h:i<m) (hj:j<9)
  (hx:match x with| .one y=>isAggA P t=some false∧∀φ,(concs φ (rowA c (i*9)))[j]? =some (y.conc φ)| .agg r=>isAggA P t=some true∧∃n,sizeA P t=some n∧(∀φ,(concs φ r).length=n∧concs φ r=((concs φ (rowA c (i*9))).drop j).take n)∧j+n≤9):LoadsAs P t (rowsA c m 0) (0+i*9+j) x:=by
 intro φ
 cases x with
 |one y=>exact ⟨hx.1,by rw[Nat.zero_add,rowsA_get c φ h hj];exact hx.2 φ⟩
 |agg r=>
  obtain ⟨h1,n,h2,h3,h4⟩:=hx
  refine ⟨h1,n,h2,?_,(h3 φ).1⟩
  obtain ⟨r',hr⟩:=rowsA_drop c φ m 0 i h
  rw[Nat.zero_add,←List.drop_drop,hr,(h3 φ).2,Nat.zero_add,List.drop_append_of_le_length (by rw[rowA_len];omega),List.take_append_of_le_length (by rw[List.length_drop,rowA_len];omega)]
def kAc (c:AcC) (m:Nat):Blk:=⟨rowsA c m 0,31,true,true,0⟩
def ldO (t:TypeId) (g:Nat→V1):CT:=⟨3000000+t,fun vs=>match vs with|[.one (.ptr _ off)]=>some ([False],.val (g off))|_=>none⟩
theorem ldO_ok (t:TypeId) (g:Nat→V1):CTok (ldO t g):=by
 intro vs ob r h ho
 simp only[ldO] at h
 split at h
 ·simp only[Option.some.injEq,Prod.mk.injEq] at h
  obtain ⟨rfl,_⟩:=h
  exact ho.1.elim
 ·simp at h
def op5 (c:AcC) (off:Nat):V1:= .agg [.a (.v (c.v off)),.a (.v (.string (c.s (off+1)))),.a (.v (c.v (off+2))),.a (.v (.string (c.s (off+3)))),.a (.v (.string (c.s (off+4))))]
def fnOw (vs:List V1):Option (List Prop×AV):=match vs with
 |[.agg [.a (.v _),.a (.v (.string a)),.a (.v _),.a (.v (.string b)),.a (.v (.string d))]]=>some ([inI (1+(a.size:Int)),inI (1+(a.size:Int)+(b.size:Int)),inI (1+(a.size:Int)+(b.size:Int)+(d.size:Int))],.val (.one (.i (1+(a.size:Int)+(b.size:Int)+(d.size:Int)))))
 |_=>none
noncomputable def EOw:Env:=mkW [] [] (fun f t=>match f with|23=>memN t [6,10,14]|_=>false)
theorem envOw:EnvOK EOw:=envW (L:=[]) trivial (F:=[]) trivial _
theorem ow_ (x y:Value) (a b d:ByteArray):callR EOw 1000 23 [.agg [.a (.v x),.a (.v (.string a)),.a (.v y),.a (.v (.string b)),.a (.v (.string d))]] []=some ([inI (1+(a.size:Int)),inI (1+(a.size:Int)+(b.size:Int)),inI (1+(a.size:Int)+(b.size:Int)+(d.size:Int))],.val (.one (.i (1+(a.size:Int)+(b.size:Int)+(d.size:Int))))):=by kernel_rfl
theorem ctOw:CTok ⟨23,fnOw⟩:=by
 intro vs ob r h ho
 simp only[fnOw] at h
 split at h
 ·simp only[Option.some.injEq,Prod.mk.injEq] at h
  obtain ⟨rfl,rfl⟩:=h
  exact spec_run envOw rfl (ow_ _ _ _ _ _) ho rfl rfl
 ·simp at h
noncomputable def S15:FuncId→Nat→Bool:=fun f t=>match f with|15=>memN t [10,13,20,27,34,2000022,2000029,2000036,24,31,38,16]|_=>false
noncomputable def L15 (c:AcC):List CT:=[ldO 28 (fun off=>op5 c off),ldO 29 (fun off=> .one (.v (c.sl off))),ldO 9 (fun off=> .one (.v (.string (c.s off)))),⟨23,fnOw⟩]
theorem L15_ok (c:AcC):AllCT (L15 c):=⟨ldO_ok _ _,ldO_ok _ _,ldO_ok _ _,ctOw,trivial⟩
noncomputable def E15 (c:AcC):Env:=mkW (L15 c) [] S15
theorem envE15 (c:AcC):EnvOK (E15 c):=envW (L15_ok c) (F:=[]) trivial S15
def slN (len cap:Nat):AV:= .val (.one (.sl 0 0 len cap))
def T15 (len cap:Nat) (n i:Int):List AV:=slots 40 [(0,slN len cap),(3,iV n),(4,iV i)]
def T15x (len cap:Nat) (n:Int):List AV:=slots 40 [(0,slN len cap),(3,iV n)]
def owA (c:AcC) (i:Nat):Int:=1+((c.s (0+i*9+1+1)).size:Int)+((c.s (0+i*9+1+3)).size:Int)+((c.s (0+i*9+1+4)).size:Int)
def hnA (c:AcC) (n:Int) (i:Nat):Int:=n+owA c i+(c.n (0+i*9+7):Int)+((c.s (0+i*9+8)).size:Int)
def o15 (c:AcC) (len:Nat) (n:Int) (i:Nat):List Prop:=[decide ((i:Int)<(len:Int))=true,decide (n<1048576)=true,(0:Int)≤(i:Int)∧(i:Int)<(len:Int),LoadsAs Tryz.prog 28 (rowsA c len 0) (0+i*9+1) (op5 c (0+i*9+1)),
 inI (1+((c.s (0+i*9+1+1)).size:Int)),inI (1+((c.s (0+i*9+1+1)).size:Int)+((c.s (0+i*9+1+3)).size:Int)),inI (owA c i),inI (n+owA c i),
 (0:Int)≤(i:Int)∧(i:Int)<(len:Int),LoadsAs Tryz.prog 29 (rowsA c len 0) (0+i*9+7) (.one (.v (c.sl (0+i*9+7)))),inI (n+owA c i+(c.n (0+i*9+7):Int)),
 (0:Int)≤(i:Int)∧(i:Int)<(len:Int),LoadsAs Tryz.prog 9 (rowsA c len 0) (0+i*9+8) (.one (.v (.string (c.s (0+i*9+8))))),inI (hnA c n i),inI ((i:Int)+1)]
theorem h15b (c:AcC) (len cap:Nat) (n:Int) (i:Nat):runTo (E15 c) 1000 ((E15 c).S 15) (bodyOf Tryz.prog 15 3) (T15 len cap n (i:Int)) [kAc c len] [true,false] (T15x len cap n) 1=
  some ([decide ((i:Int)<(len:Int))=true,decide (n<1048576)=false],.exit 0,T15x len cap n,[kAc c len]):=by kernel_rfl
theorem h15c (c:AcC) (len cap:Nat) (n:Int) (i:Nat):runTo (E15 c) 1000 ((E15 c).S 15) (bodyOf Tryz.prog 15 3) (T15 len cap n (i:Int)) [kAc c len] [false] (T15x len cap n) 1=
  some ([decide ((i:Int)<(len:Int))=false],.exit 0,T15x len cap n,[kAc c len]):=by kernel_rfl
theorem h15a (c:AcC) (len cap:Nat) (n:Int) (i:Nat):runTo (E15 c) 1000 ((E15 c).S 15) (bodyOf Tryz.prog 15 3) (T15 len cap n (i:Int)) [kAc c len] [true,true] (T15 len cap (hnA c n i) ((i:Int)+1)) 1=
  some (o15 c len n i,.normal,T15 len cap (hnA c n i) ((i:Int)+1),[kAc c len]):=by kernel_rfl
theorem ag29:isAggA Tryz.prog 29=some false:=by kernel_rfl
theorem ag28:isAggA Tryz.prog 28=some true:=by kernel_rfl
theorem sz28:sizeA Tryz.prog 28=some 5:=by kernel_rfl
section
variable {c:AcC} {m i:Nat}
theorem ldA1 (h:i<m):LoadsAs Tryz.prog 28 (rowsA c m 0) (0+i*9+1) (op5 c (0+i*9+1)):=by
 refine loadsA h (by omega) ⟨ag28,5,sz28,fun φ=>⟨rfl,?_⟩,by omega⟩
 rw[Nat.zero_add];rfl
theorem ldA2 (h:i<m):LoadsAs Tryz.prog 29 (rowsA c m 0) (0+i*9+7) (.one (.v (c.sl (0+i*9+7)))):=by
 refine loadsA h (by omega) ⟨ag29,fun φ=> ?_⟩
 rw[Nat.zero_add];rfl
theorem ldA3 (h:i<m):LoadsAs Tryz.prog 9 (rowsA c m 0) (0+i*9+8) (.one (.v (.string (c.s (0+i*9+8))))):=by
 refine loadsA h (by omega) ⟨ag9,fun φ=> ?_⟩
 rw[Nat.zero_add];rfl
end
theorem mrelRo {W w:World} {φ:Loc} {M:List Blk} (hb:Below W.heap.size W w) (hro:∀(i:Nat) (b:Blk),M[i]? =some b→b.ro=true) (hold:∀(i:Nat) (b:Blk),M[i]? =some b→(φ i).1<W.heap.size∧∀j v,(concs φ b.ps)[j]? =some v→W.cell? ⟨(φ i).1,(φ i).2.1+j,none⟩=some v) (hw:memWf M.length M=true):MRel (W:Base) φ M w:=by
 refine ⟨(KB.refl (Base.of W)).trans hb,?_,?_,?_,?_,fun i b h=>memWf_mem hw i b h⟩
 ·intro i j b1 b2 hb1 _ _ _ hr _ _
  rw[hro i b1 hb1] at hr;cases hr
 ·intro i b1 hb1 _ hr
  rw[hro i b1 hb1] at hr;cases hr
 ·intro i b1 hb1 _ _
  exact hold i b1 hb1
 ·intro i b1 hb1 _ hr
  rw[hro i b1 hb1] at hr;cases hr
def hvA (c:AcC):Nat→Nat→Int→Int
 |0,_,n=>n
 |k+1,i,n=>bif decide (n<1048576) then hvA c k (i+1) (hnA c n i) else n
theorem hvA_succ (c:AcC) (k i:Nat) (n:Int):hvA c (k+1) i n=bif decide (n<1048576) then hvA c k (i+1) (hnA c n i) else n:=rfl
theorem kAc_free (c:AcC) (m:Nat):∀b∈[kAc c m],Free b:=by
 intro b hb
 simp only[List.mem_cons,List.not_mem_nil,or_false] at hb
 subst hb
 exact fun f=>rowsA_ptr _ f _ _
theorem wfA {n:Nat} {s:List (Nat×AV)} (c:AcC) (m:Nat) (h:tmsWf 1 (slots n s)=true):wfS (slots n s) [kAc c m]=true:=wfS_of (kAc_free c m) h
abbrev BB:Nat:=140737488351232
def SzA (c:AcC) (m:Nat):Prop:=m≤BB∧∀i,i<m→(c.s (0+i*9+1+1)).size≤BB∧(c.s (0+i*9+1+3)).size≤BB∧(c.s (0+i*9+1+4)).size≤BB∧c.n (0+i*9+7)≤BB∧(c.s (0+i*9+8)).size≤BB
theorem loop15 {c:AcC} {m cap:Nat} (hs:SzA c m):∀(k i:Nat) (n:Int),i+k=m→0≤n→GoesN Tryz.prog (bodyOf Tryz.prog 15 3) (k+1) (.exit 0) (T15 m cap n (i:Int)) [kAc c m] (T15x m cap (hvA c k i n)) [kAc c m]:=by
 intro k
 induction k with
 |zero=>
  intro i n hk h0
  exact GoesN.out (by simp) (Runs.goes (envE15 c) ⟨_,_,h15c c m cap n i,⟨decide_eq_false (by omega),trivial⟩,wfA _ _ (by kernel_rfl)⟩)
 |succ k ih=>
  intro i n hk h0
  rw[hvA_succ]
  by_cases hn:n<1048576
  ·obtain ⟨hm,hi⟩:=hs
   obtain ⟨s1,s2,s3,s4,s5⟩:=hi i (by omega)
   have hbb:BB=140737488351232:=rfl
   have hi':i<m:=by omega
   rw[decide_eq_true hn,cond_true]
   have ih:=ih (i+1) (hnA c n i) (by omega) (by unfold hnA owA;omega)
   rw[show ((i+1:Nat):Int)=(i:Int)+1 by omega] at ih
   refine GoesN.cons (M1:=[kAc c m]) rfl (Runs.goes (envE15 c) ⟨_,_,h15a c m cap n i,⟨decide_eq_true (by omega),decide_eq_true hn,by omega,ldA1 hi',?_,?_,?_,?_,by omega,ldA2 hi',?_,by omega,ldA3 hi',?_,?_,trivial⟩,wfA _ _ (by kernel_rfl)⟩) ih
   all_goals (first|(unfold hnA owA inI;omega)|(unfold owA inI;omega)|(unfold inI;omega))
  ·rw[decide_eq_false hn,cond_false]
   exact GoesN.out (by simp) (Runs.goes (envE15 c) ⟨_,_,h15b c m cap n i,⟨decide_eq_true (by omega),decide_eq_false hn,trivial⟩,wfA _ _ (by kernel_rfl)⟩)
noncomputable def E15L (c:AcC) (m cap:Nat):Env:=addL (E15 c) 3 (bodyOf Tryz.prog 15 3) (sumC (T15 m cap (m:Int) 0) [kAc c m] (T15x m cap (hvA c m 0 (m:Int))) [kAc c m] (.exit 0))
theorem r15 (c:AcC) (m cap:Nat):dropM (callBy (E15L c m cap) (evalC (E15L c m cap) 1000) 15 [.one (.sl 0 0 m cap)] [kAc c m] [])=
  some ([bodyOf Tryz.prog 15 3=bodyOf Tryz.prog 15 3,(T15 m cap (m:Int) 0,[kAc c m])=(T15 m cap (m:Int) 0,[kAc c m]),wfS (T15 m cap (m:Int) 0) [kAc c m]=true],.val (.one (.i (hvA c m 0 (m:Int))))):=by kernel_rfl
theorem hv_of {c:AcC} {m cap:Nat} (hs:SzA c m):HvP (kAc c m) m cap (hvA c m 0 (m:Int)):=by
 intro mem b w0 φ w hb hm
 have hm':MRel (w:Base) (fun _=>φ b) [kAc c m] w:=by
  refine mrelRo (Below.refl _ _) ?_ ?_ ?_
  ·intro i x hx
   match i,hx with
   |0,hx=>simp only[List.getElem?_cons_zero,Option.some.injEq] at hx;subst hx;rfl
   |i+1,hx=>simp at hx
  ·intro i x hx
   match i,hx with
   |0,hx=>
    simp only[List.getElem?_cons_zero,Option.some.injEq] at hx;subst hx
    refine ⟨hm.lt hb rfl,fun j v hv=> ?_⟩
    have e2:concs (fun _=>φ b) (rowsA c m 0)=concs φ (rowsA c m 0):=concs_agree (n:=0) (fun i hi=>absurd hi (Nat.not_lt_zero _)) _ (rowsA_ptr _ _ _ _)
    have hv:(concs (fun _=>φ b) (rowsA c m 0))[j]? =some v:=hv
    rw[e2] at hv
    exact hm.cell hb rfl hv
   |i+1,hx=>simp at hx
  ·simp only[kAc,memWf,rowsA_ptr,Bool.and_true]
 obtain ⟨c',m',h'⟩:=dropM_some (r15 c m cap)
 have hE:EnvOK (E15L c m cap):=envAddL (envE15 c) (sumC_ok rfl (loop15 hs m 0 (m:Int) (by omega) (by omega)).loop)
 refine (callBy_ok hE (evalC_ok hE 1000) _ _ _ _ _ _ _ _ h' ⟨rfl,rfl,wfA _ _ (by kernel_rfl),trivial⟩ (w:Base) _ w hm' ?_).mono ?_
 ·intro v hv
  simp only[List.mem_cons,List.not_mem_nil,or_false] at hv
  subst hv;rfl
 ·rintro e w' ⟨φ',rfl,_,_,hm2,_⟩
  exact ⟨rfl,hm2.below.below⟩
end Go.Ev.Ch.T
namespace Go.Ev.Ch.T
open Go Go.Proofs Go.RowKit Go.ChangeShapes Go.WideShapes Go.ChangeAt
set_option maxRecDepth 100000
noncomputable def fsOf (t:TypeId):Array Field:=match Tryz.prog.underlying t with|some (.struct fs)=>fs|_=> #[]
noncomputable def fdOf (t:TypeId) (i:Nat):Field:=(fsOf t)[i]?.getD {name:= "",type:=0,offset:=0,embedded:=false,tag:= "",pkgPath:= "",byteOffset:=0}
noncomputable def e29:TypeId:=match Tryz.prog.underlying 29 with|some (.slice e)=>e|_=>0
theorem un24:Tryz.prog.underlying 24=some (.struct #[fdOf 24 0,fdOf 24 1,fdOf 24 2]):=by kernel_rfl
theorem un31:Tryz.prog.underlying 31=some (.struct #[fdOf 31 0,fdOf 31 1,fdOf 31 2,fdOf 31 3,fdOf 31 4]):=by kernel_rfl
theorem un22:Tryz.prog.underlying 22=some (.slice 31):=by kernel_rfl
theorem un29:Tryz.prog.underlying 29=some (.slice e29):=by kernel_rfl
theorem fo24:[(fdOf 24 0).offset,(fdOf 24 1).offset,(fdOf 24 2).offset,(fdOf 24 0).type,(fdOf 24 1).type,(fdOf 24 2).type]=[0,1,2,9,9,22]:=by kernel_rfl
theorem fo31:[(fdOf 31 0).offset,(fdOf 31 1).offset,(fdOf 31 2).offset,(fdOf 31 3).offset,(fdOf 31 4).offset]=[0,1,6,7,8]:=by kernel_rfl
theorem ft31:[(fdOf 31 0).type,(fdOf 31 1).type,(fdOf 31 2).type,(fdOf 31 3).type,(fdOf 31 4).type]=[3,28,3,29,9]:=by kernel_rfl
theorem cs31:[Tryz.prog.cellsOf 3,Tryz.prog.cellsOf 28,Tryz.prog.cellsOf 29,Tryz.prog.cellsOf 9,Tryz.prog.cellsOf 31,Tryz.prog.cellsOf 22,Tryz.prog.cellsOf 24]=[1,5,1,1,9,1,3]:=by kernel_rfl
theorem b31:0<Tryz.prog.bytesOf 31:=of_decide_eq_true (by kernel_rfl)
theorem b29:0<Tryz.prog.bytesOf e29:=of_decide_eq_true (by kernel_rfl)
theorem ct24:Tryz.prog.cellTypes Tryz.prog.depth 24=some [9,9,22]:=by kernel_rfl
theorem kk28:kindsT Tryz.prog 20 28=some [5,1,5,1,1]:=by kernel_rfl
theorem kk9:kindsT Tryz.prog 20 9=some [1]:=by kernel_rfl
structure LeafP (B:Nat) (x:Nat→Value):Prop where
 a:HasK 1 (x 2)∧SzV B (x 2)
 b:HasK 1 (x 4)∧SzV B (x 4)
 c:HasK 1 (x 5)∧SzV B (x 5)
 d:∃o n k,x 7= .slice o n k∧n≤B
 e:HasK 1 (x 8)∧SzV B (x 8)
section
variable {H:Type} {enc:TypeId×Value→H} {W:World} {base:Nat} {sp:Nat→Bool} {held:Bool}
theorem sub29 {B n:Nat} {v:Value} {y:DataW H×List MemPlace} (h:DataW.trod enc Tryz.prog W base (fun _=>true) held n 29 [v]=some y) (hwt:∀m∈y.1.weights Tryz.prog 29,m≤B):∃o n k,v= .slice o n k∧n≤B:=by
 rcases Go.Deep.open_slice un29 h with ⟨hcs,_⟩|⟨a,len,cap,m,n,DD,Pl,hcs,_,hl,hcap,hm,hxe,hx⟩
 ·simp only[List.cons.injEq,and_true] at hcs
  exact ⟨none,0,0,hcs,Nat.zero_le _⟩
 ·simp only[List.cons.injEq,and_true] at hcs
  refine ⟨some a,len,cap,hcs,?_⟩
  have h1:(((List.range len).map DD).length+_)*Tryz.prog.bytesOf e29≤B:=hwt _ (by
   rw[hxe]
   simp only[DataW.weights,un29]
   exact List.mem_cons_self ..)
  rw[List.length_map,List.length_range] at h1
  exact Nat.le_trans (Nat.le_trans (Nat.le_add_right _ _) (Nat.le_mul_of_pos_right _ b29)) h1
theorem row31 {B n:Nat} {cs:List Value} {y:DataW H×List MemPlace} (h:DataW.trod enc Tryz.prog W base (fun _=>true) held n 31 cs=some y) (hlen:cs.length=9) (hD:∀m∈y.1.weights Tryz.prog 31,m≤B):LeafP B (fun j=>cs[j]?.getD undef):=by
 obtain ⟨xs,m',_,hxx,_,hxl,hfld⟩:=DataW.trod_struct un31 h
 have hxs:xs.length=5:=hxl
 have hw:∀(j:Nat) (z:DataW H×List MemPlace) (f:Field),(#[fdOf 31 0,fdOf 31 1,fdOf 31 2,fdOf 31 3,fdOf 31 4]:Array Field)[j]? =some f→xs[j]? =some z→∀q∈z.1.weights Tryz.prog f.type,q≤B:=by
  intro j z f hj hz q hq
  refine hD q ?_
  rw[hxx]
  simp only[DataW.weights,un31]
  refine DataW.weights_mem_each (j:=j) (t:=f.type) (d:=z.1) ?_ ?_ q hq
  ·rw[List.getElem?_map]
   have:(#[fdOf 31 0,fdOf 31 1,fdOf 31 2,fdOf 31 3,fdOf 31 4]:Array Field).toList[j]? =some f:=by simpa using hj
   rw[this];rfl
  ·rw[List.getElem?_map,hz];rfl
 have ho:=fo31
 have ht:=ft31
 have hc:=cs31
 simp only[List.cons.injEq,and_true] at ho ht hc
 obtain ⟨o0,o1,o2,o3,o4⟩:=ho
 obtain ⟨t0,t1,t2,t3,t4⟩:=ht
 obtain ⟨c3,c28,c29,c9,_⟩:=hc
 match cs,hlen with
 |[x0,x1,x2,x3,x4,x5,x6,x7,x8],_=>
  match xs,hxs with
  |[y0,y1,y2,y3,y4],_=>
   have g1:=hfld 1 (fdOf 31 1) rfl
   have g3:=hfld 3 (fdOf 31 3) rfl
   have g4:=hfld 4 (fdOf 31 4) rfl
   have w1:=hw 1 y1 (fdOf 31 1) rfl rfl
   have w3:=hw 3 y3 (fdOf 31 3) rfl rfl
   have w4:=hw 4 y4 (fdOf 31 4) rfl rfl
   rw[o1,t1,c28] at g1
   rw[o3,t3,c29] at g3
   rw[o4,t4,c9] at g4
   rw[t1] at w1
   rw[t3] at w3
   rw[t4] at w4
   have k1:=trod_kinds 20 _ _ kk28 _ _ _ g1 rfl
   have k4:=trod_kinds 20 _ _ kk9 _ _ _ g4 rfl
   have s1:=trod_kindsW (B:=B) 20 _ _ kk28 _ _ _ g1 rfl w1
   have s4:=trod_kindsW (B:=B) 20 _ _ kk9 _ _ _ g4 rfl w4
   obtain ⟨o,n,k,h7,hn⟩:=sub29 (B:=B) g3 w3
   exact ⟨⟨k1.2.1,s1 _ (by simp)⟩,⟨k1.2.2.2.1,s1 _ (by simp)⟩,⟨k1.2.2.2.2.1,s1 _ (by simp)⟩,⟨o,n,k,h7,hn⟩,⟨k4.1,s4 _ (by simp)⟩⟩
def OpenR (W:World) (B:Nat) (v:Value):Prop:=
 v= .slice none 0 0∨∃(V:Nat→Value) (len cap b off:Nat),v= .slice (some ⟨b,off,none⟩) len cap∧len≤B∧b<W.heap.size∧(∀j,j<len*9→W.cell? ⟨b,off+j,none⟩=some (V j))∧∀i,i<len→LeafP B (fun j=>V (i*9+j))
theorem rows_open {B:Nat} {r:Reach} {v:Value} {d:DataW H} {ps:List MemPlace} {base0:Nat} (hval:Value.okWide Tryz.prog W r base0 22 v) (h:DataW.Trod enc Tryz.prog W 0 (fun _=>true) true 22 v d ps) (hwt:∀n∈d.weights Tryz.prog 22,n≤B):OpenR W B v:=by
 obtain ⟨a0,len0,cap0,rfl⟩:=okWide_slice un22 hval
 obtain ⟨fuel,hf⟩:=h
 rcases Go.Deep.open_slice un22 hf with ⟨hcs,_⟩|⟨a,len,cap,m,n,DD,Pl,hcs,_,hl,hcap,hm,hxe,hx⟩
 ·simp[Value.cells] at hcs
  obtain ⟨rfl,rfl,rfl⟩:=hcs
  exact .inl rfl
 ·simp[Value.cells] at hcs
  obtain ⟨rfl,rfl,rfl⟩:=hcs
  simp only[if_true] at hm
  have hc:=cs31
  simp only[List.cons.injEq,and_true] at hc
  obtain ⟨_,_,_,_,c31,_⟩:=hc
  have hhas:W.has Tryz.prog r base0 a 31 cap0:=by
   simp only[Value.okWide,un22,Cell.okWide,Cell.ok] at hval
   exact hval.2.2
  obtain ⟨_,hspot,row,cells,hsh,_⟩:=hhas
  have hblk:a.block<W.heap.size:=by
   unfold World.shape? at hsh
   split at hsh
   ·rename_i hb
    exact (Array.getElem?_eq_some_iff.1 hb).1
   ·simp at hsh
  obtain ⟨b,off,sp⟩:=a
  simp only at hspot;subst hspot
  simp only[Prod.mk.injEq] at hxe
  have hDD:∀i,i<len0→∀q∈(DD i).weights Tryz.prog 31,q≤B:=by
   intro i hi q hq
   refine hwt q ?_
   rw[hxe.1]
   simp only[DataW.weights,un22]
   refine List.mem_cons_of_mem _ (List.mem_append_left _ (weights_mem_all ?_ hq))
   exact List.mem_map.2 ⟨i,List.mem_range.2 hi,rfl⟩
  have hlB:len0≤B:=by
   have h1:(((List.range len0).map DD).length+_)*Tryz.prog.bytesOf 31≤B:=hwt _ (by
    rw[hxe.1]
    simp only[DataW.weights,un22]
    exact List.mem_cons_self ..)
   rw[List.length_map,List.length_range] at h1
   exact Nat.le_trans (Nat.le_trans (Nat.le_add_right _ _) (Nat.le_mul_of_pos_right _ b31)) h1
  have hcells:∀i,i<len0→∃cs:List Value,cs.length=9∧(∀j,j<9→W.cell? ⟨b,off+(i*9+j),none⟩=cs[j]?)∧LeafP B (fun j=>cs[j]?.getD undef):=by
   intro i hi
   obtain ⟨cs,h1,h2⟩:=hx i (by omega)
   rw[c31] at h1
   obtain ⟨_,hlen,h4⟩:=World.cells?_some h1
   refine ⟨cs,hlen,fun j hj=> ?_,row31 h2 hlen (hDD i hi)⟩
   rw[←h4 j hj,Go.Deep.add_add]
   congr 1
   unfold Addr.add
   split
   ·rename_i h0;rw[h0,Nat.add_zero]
   ·rfl
  refine .inr ⟨fun j=>(W.cell? ⟨b,off+j,none⟩).getD undef,len0,cap0,b,off,rfl,hlB,hblk,fun j hj=> ?_,fun i hi=> ?_⟩
  ·obtain ⟨cs,hlen,hc,_⟩:=hcells (j/9) (by omega)
   have:=hc (j%9) (by omega)
   rw[show j/9*9+j%9=j by omega,List.getElem?_eq_getElem (by omega)] at this
   simp only[this,Option.getD_some]
  ·obtain ⟨cs,hlen,hc,hp⟩:=hcells i hi
   have e:∀j,j<9→(W.cell? ⟨b,off+(i*9+j),none⟩).getD undef=cs[j]?.getD undef:=fun j hj=>by rw[hc j hj]
   obtain ⟨p1,p2,p3,p4,p5⟩:=hp
   refine ⟨?_,?_,?_,?_,?_⟩
   ·show HasK 1 ((W.cell? ⟨b,off+(i*9+2),none⟩).getD undef)∧SzV B ((W.cell? ⟨b,off+(i*9+2),none⟩).getD undef)
    rw[e 2 (by omega)];exact p1
   ·show HasK 1 ((W.cell? ⟨b,off+(i*9+4),none⟩).getD undef)∧SzV B ((W.cell? ⟨b,off+(i*9+4),none⟩).getD undef)
    rw[e 4 (by omega)];exact p2
   ·show HasK 1 ((W.cell? ⟨b,off+(i*9+5),none⟩).getD undef)∧SzV B ((W.cell? ⟨b,off+(i*9+5),none⟩).getD undef)
    rw[e 5 (by omega)];exact p3
   ·obtain ⟨o,n,k,h7,hn⟩:=p4
    refine ⟨o,n,k,?_,hn⟩
    show (W.cell? ⟨b,off+(i*9+7),none⟩).getD undef=_
    rw[e 7 (by omega)];exact h7
   ·show HasK 1 ((W.cell? ⟨b,off+(i*9+8),none⟩).getD undef)∧SzV B ((W.cell? ⟨b,off+(i*9+8),none⟩).getD undef)
    rw[e 8 (by omega)];exact p5
theorem trod_str {n:Nat} {x:Value} {y:DataW H×List MemPlace} {B:Nat} (h:DataW.trod enc Tryz.prog W base sp held n 9 [x]=some y) (hwt:∀m∈y.1.weights Tryz.prog 9,m≤B):∃s:ByteArray,x= .string s∧s.size≤B:=by
 obtain ⟨s,hs,_⟩:=(trod_kinds 20 _ _ kk9 _ _ _ h rfl).1
 exact ⟨s,hs,trod_kindsW (B:=B) 20 _ _ kk9 _ _ _ h rfl hwt x (by simp) s hs⟩
theorem arg_open {B:Nat} {r:Reach} {v:Value} {d:DataW H} {ps:List MemPlace} {base0:Nat} (hval:Value.okWide Tryz.prog W r base0 24 v) (h:DataW.Trod enc Tryz.prog W 0 (fun _=>true) true 24 v d ps) (hwt:∀n∈d.weights Tryz.prog 24,n≤B):
  ∃(seed key:ByteArray) (x:Value),v= .agg #[.string seed,.string key,x]∧seed.size≤B∧key.size≤B∧OpenR W B x:=by
 have hc:=cs31
 have ho:=fo24
 simp only[List.cons.injEq,and_true] at ho hc
 obtain ⟨o0,o1,o2,t0,t1,t2⟩:=ho
 obtain ⟨_,_,_,c9,_,c22,c24⟩:=hc
 unfold Value.okWide at hval
 rw[un24] at hval
 obtain ⟨cs,rfl,hsz,ts,hts,_,hcell⟩:=hval
 rw[ct24] at hts
 simp only[Option.some.injEq] at hts
 subst hts
 rw[c24] at hsz
 have e:cs= #[cs[0],cs[1],cs[2]]:=by
  apply Array.ext
  ·simpa using hsz
  ·intro i h1 h2
   match i,h2 with
   |0,_=>rfl
   |1,_=>rfl
   |2,_=>rfl
 obtain ⟨u2,hu2,hk2⟩:=hcell 2 cs[2] (by rw[Array.getElem?_eq_getElem])
 have hu2:22=u2:=by simpa using hu2
 subst hu2
 generalize cs[0]=a at*
 generalize cs[1]=x at*
 generalize cs[2]=b at*
 subst e
 have vb:Value.okWide Tryz.prog W r base0 22 b:=by unfold Value.okWide;rw[un22];exact hk2
 obtain ⟨fuel,hf⟩:=h
 obtain ⟨y0,y1,y2,n,hx,_,h0,h1,h2⟩:=Go.Deep.trod_struct3 un24 hf
 simp only[Prod.mk.injEq] at hx
 obtain ⟨rfl,rfl⟩:=hx
 rw[o0,t0,c9] at h0
 rw[o1,t1,c9] at h1
 rw[o2,t2,c22] at h2
 obtain ⟨s0,rfl,z0⟩:=trod_str (B:=B) (x:=a) h0 fun q hq=>hwt q (by
  simp only[DataW.weights,un24]
  exact DataW.weights_mem_each (j:=0) (t:=9) (d:=y0.1) (by rw[←t0];rfl) rfl q hq)
 obtain ⟨s1,rfl,z1⟩:=trod_str (B:=B) (x:=x) h1 fun q hq=>hwt q (by
  simp only[DataW.weights,un24]
  exact DataW.weights_mem_each (j:=1) (t:=9) (d:=y1.1) (by rw[←t1];rfl) rfl q hq)
 have cb:b.cells.toList=[b]:=by obtain ⟨_,_,_,rfl⟩:=okWide_slice un22 vb;rfl
 refine ⟨s0,s1,b,rfl,z0,z1,rows_open vb (d:=y2.1) (ps:=y2.2) ⟨n,by rw[cb];exact h2⟩ fun q hq=>hwt q ?_⟩
 simp only[DataW.weights,un24]
 exact DataW.weights_mem_each (j:=2) (t:=22) (d:=y2.1) (by rw[←t2];rfl) rfl q hq
end
def acOf (V:Nat→Value):AcC where
 v:=V
 s p:=match V p with| .string s=>s|_=>ByteArray.empty
 o p:=match V p with| .slice o _ _=>o|_=>none
 n p:=match V p with| .slice _ n _=>n|_=>0
 k p:=match V p with| .slice _ _ k=>k|_=>0
theorem acS {V:Nat→Value} {p:Nat} {B:Nat} (h:HasK 1 (V p)∧SzV B (V p)):Value.string ((acOf V).s p)=V p∧((acOf V).s p).size≤B:=by
 obtain ⟨⟨x,hx,_⟩,hz⟩:=h
 have e:(acOf V).s p=x:=by
  show (match V p with| .string s=>s|_=>ByteArray.empty)=_
  rw[hx]
 rw[e]
 exact ⟨hx.symm,hz x hx⟩
theorem acL {V:Nat→Value} {p:Nat} {B:Nat} (h:∃o n k,V p= .slice o n k∧n≤B):(acOf V).sl p=V p∧(acOf V).n p≤B:=by
 obtain ⟨o,n,k,hx,hn⟩:=h
 have e1:(acOf V).o p=o:=by
  show (match V p with| .slice o _ _=>o|_=>none)=_
  rw[hx]
 have e2:(acOf V).n p=n:=by
  show (match V p with| .slice _ n _=>n|_=>0)=_
  rw[hx]
 have e3:(acOf V).k p=k:=by
  show (match V p with| .slice _ _ k=>k|_=>0)=_
  rw[hx]
 unfold AcC.sl
 rw[e1,e2,e3]
 exact ⟨hx.symm,hn⟩
theorem rows_rel {W:World} {V:Nat→Value} {len b off:Nat} {B:Nat} (hB:B≤BB) (hlB:len≤B) (hb:b<W.heap.size) (hc:∀j,j<len*9→W.cell? ⟨b,off+j,none⟩=some (V j)) (hr:∀i,i<len→LeafP B (fun j=>V (i*9+j))):
  MRel (W:Base) (fun _=>(b,off,0)) [kAc (acOf V) len] W∧SzA (acOf V) len:=by
 constructor
 ·refine mrelRo (Below.refl _ _) ?_ ?_ ?_
  ·intro i x hx
   match i,hx with
   |0,hx=>simp only[List.getElem?_cons_zero,Option.some.injEq] at hx;subst hx;rfl
   |i+1,hx=>simp at hx
  ·intro i x hx
   match i,hx with
   |0,hx=>
    simp only[List.getElem?_cons_zero,Option.some.injEq] at hx;subst hx
    refine ⟨hb,fun j v hv=> ?_⟩
    have hv:(concs (fun _=>(b,off,0)) (rowsA (acOf V) len 0))[j]? =some v:=hv
    have hl:j<len*9:=by
     have:=(List.getElem?_eq_some_iff.1 hv).1
     rw[rowsA_len] at this
     exact this
    have hi:j/9<len:=by omega
    have e:j=j/9*9+j%9:=by omega
    obtain ⟨p1,p2,p3,p4,p5⟩:=hr (j/9) hi
    have q1:=(acS p1).1
    have q2:=(acS p2).1
    have q3:=(acS p3).1
    have q4:=(acL p4).1
    have q5:=(acS p5).1
    show W.cell? ⟨b,off+j,none⟩=some v
    rw[hc j hl,←hv]
    rw[e,rowsA_get _ _ hi (Nat.mod_lt _ (by omega))]
    generalize j/9*9=p at*
    have er:concs (fun _=>(b,off,0)) (rowA (acOf V) p)=[V p,V (p+1),V (p+2),V (p+3),V (p+4),V (p+5),V (p+6),V (p+7),V (p+8)]:=by
     rw[←q1,←q2,←q3,←q4,←q5]
     rfl
    rw[er]
    have hm:j%9<9:=Nat.mod_lt _ (by omega)
    generalize j%9=k at*
    match k,hm with
    |0,_=>rfl
    |1,_=>rfl
    |2,_=>rfl
    |3,_=>rfl
    |4,_=>rfl
    |5,_=>rfl
    |6,_=>rfl
    |7,_=>rfl
    |8,_=>rfl
   |i+1,hx=>simp at hx
  ·simp only[kAc,memWf,rowsA_ptr,Bool.and_true]
 ·refine ⟨Nat.le_trans hlB hB,fun i hi=> ?_⟩
  obtain ⟨p1,p2,p3,p4,p5⟩:=hr i hi
  rw[Nat.zero_add]
  exact ⟨Nat.le_trans (acS p1).2 hB,Nat.le_trans (acS p2).2 hB,Nat.le_trans (acS p3).2 hB,Nat.le_trans (acL p4).2 hB,Nat.le_trans (acS p5).2 hB⟩
def nilR:Value:= .slice none 0 0
noncomputable def EN15:Env:=mkW [] [] (fun _ _=>false)
theorem n15_:callR EN15 1000 15 [.one (.v nilR)] []=some ([],.val (.one (.i 0))):=by kernel_rfl
theorem n15:Spec 15 [.one (.v nilR)] (.val (.one (.i 0))):=spec_run (envW (L:=[]) trivial (F:=[]) trivial _) rfl n15_ trivial rfl rfl
noncomputable def ETopN (seed key:ByteArray) (A:AnF):Env:=mkW [⟨7,fnSp 7 trV⟩,⟨15,fnSp 15 (.val (.one (.i 0)))⟩] [(rsRun key seed A).fw] STop
theorem envTopN (seed key:ByteArray) (A:AnF):EnvOK (ETopN seed key A):=envW (L:=[⟨7,fnSp 7 trV⟩,⟨15,fnSp 15 (.val (.one (.i 0)))⟩]) ⟨ctSp _ _,ctSp _ _,trivial⟩ (F:=[(rsRun key seed A).fw]) ⟨RS.ok _,trivial⟩ STop
noncomputable def rN (seed key:ByteArray) (pb:Nat→ByteArray) (c:List Bool):Option (List Prop×AV):=resM (callM (ETopN seed key (AnS pb)) 9000 3 [agL seed key (.v nilR)] [] c)
def oN:List Prop:=[Spec 15 [.one (.v nilR)] (.val (.one (.i 0))),decide ((6000:Int)<0)=false]
theorem ton2 (seed key:ByteArray) (pb:Nat→ByteArray):rN seed key pb [false,true]=some (oN++oB seed key true,trV):=by kernel_rfl
theorem ton3 (seed key:ByteArray) (pb:Nat→ByteArray):rN seed key pb [false,false,false]=some (oN++(oB seed key false++[decide ((16:Int)≤(seed.size:Int))=false]),trV):=by kernel_rfl
theorem ton4 (seed key:ByteArray) (pb:Nat→ByteArray):rN seed key pb [false,false,true,false]=some (oN++(oB seed key false++[decide ((16:Int)≤(seed.size:Int))=true,decide ((seed.size:Int)≤64)=false]),trV):=by kernel_rfl
theorem ton5 (seed key:ByteArray) (pb:Nat→ByteArray):rN seed key pb [false,false,true,true,false]=some (oN++(oB seed key false++[decide ((16:Int)≤(seed.size:Int))=true,decide ((seed.size:Int)≤64)=true,decide ((key.size:Int)=32)=false]),trV):=by kernel_rfl
theorem ton6 (seed key:ByteArray) (pb:Nat→ByteArray):rN seed key pb [false,false,true,true,true]=some (oN++(oB seed key false++([decide ((16:Int)≤(seed.size:Int))=true,decide ((seed.size:Int)≤64)=true,decide ((key.size:Int)=32)=true]++((rsRun key seed (AnS pb)).o [sS seed,sS key,.one (.sx 31 14)] [31]++[Spec 7 [] trV]))),trV):=by kernel_rfl
theorem tonC {seed key:ByteArray} {pb:Nat→ByteArray} {c:List Bool} {o:List Prop} (h:rN seed key pb c=some (o,trV)) (ho:All o) (w:World):Calls Tryz.prog 3 #[.agg #[.string seed,.string key,nilR]] w (Trues w):=by
 obtain ⟨mem',hm'⟩:=resM_some h
 unfold callM at hm'
 split at hm'
 ·rename_i ob c1 r1 m1 h1
  simp only[Option.some.injEq,Prod.mk.injEq] at hm'
  obtain ⟨rfl,rfl,rfl⟩:=hm'
  have hE:=envTopN seed key (AnS pb)
  refine (callBy_ok hE (evalC_ok hE 9000) _ _ _ _ _ _ _ _ h1 ho (w:Base) (fun _=>(0,0,0)) w ⟨KB.refl _,by simp,by simp,by simp,by simp,by simp⟩ ?_).mono ?_
  ·intro v hv
   simp only[List.mem_cons,List.not_mem_nil,or_false] at hv
   subst hv;rfl
  ·rintro e w' ⟨φ',rfl,_,_,hm2,_⟩
   exact ⟨rfl,hm2.below.below⟩
 ·simp at hm'
theorem top_nil {pb:ByteArray→Nat→ByteArray} {p8:ByteArray→ByteArray} {pm:ByteArray} (hp:PubAll pb p8 pm) (seed key:ByteArray) (h1:seed.size≤BB) (h2:key.size≤BB) (w:World):
  Calls Tryz.prog 3 #[.agg #[.string seed,.string key,nilR]] w (Trues w):=by
 have hbb:BB=140737488351232:=rfl
 have hi:inI ((seed.size:Int)+(key.size:Int)):=by unfold inI;omega
 have b1:decide ((6000:Int)<0)=false:=rfl
 by_cases c2:(1000:Int)<(seed.size:Int)+(key.size:Int)
 ·exact tonC (ton2 seed key (pb seed)) ⟨n15,b1,hi,decide_eq_true c2,trivial⟩ w
 have b2:=decide_eq_false c2
 by_cases c3:¬(16:Int)≤(seed.size:Int)
 ·exact tonC (ton3 seed key (pb seed)) ⟨n15,b1,hi,b2,decide_eq_false c3,trivial⟩ w
 have c3:=Decidable.not_not.1 c3
 have b3:=decide_eq_true c3
 by_cases c4:¬(seed.size:Int)≤64
 ·exact tonC (ton4 seed key (pb seed)) ⟨n15,b1,hi,b2,b3,decide_eq_false c4,trivial⟩ w
 have c4:=Decidable.not_not.1 c4
 have b4:=decide_eq_true c4
 by_cases c5:¬(key.size:Int)=32
 ·exact tonC (ton5 seed key (pb seed)) ⟨n15,b1,hi,b2,b3,b4,decide_eq_false c5,trivial⟩ w
 have c5:=Decidable.not_not.1 c5
 have hs:16≤seed.size∧seed.size≤64:=by omega
 refine tonC (ton6 seed key (pb seed)) ⟨n15,b1,hi,b2,b3,b4,decide_eq_true c5,rfl,rfl,?_,wakes pm hp.m,trivial⟩ w
 exact run_P (by omega) hs (pb seed) (p8 seed) (p8 seed) (hp.k seed hs) (hp.n seed hs) (hp.d seed hs)
theorem law3G {pb:ByteArray→Nat→ByteArray} {p8:ByteArray→ByteArray} {pm:ByteArray} (hp:PubAll pb p8 pm) {H:Type} {enc:TypeId×Value→H} {r:Reach} {W:World} {base:Nat} {v:Value} {d:DataW H} {ps:List MemPlace}
  (hval:Value.okWide Tryz.prog W r base 24 v) (h:DataW.Trod enc Tryz.prog W 0 (fun _=>true) true 24 v d ps) (hwt:∀n∈d.weights Tryz.prog 24,n≤BB):Calls Tryz.prog 3 #[v] W (Trues W):=by
 obtain ⟨seed,key,x,rfl,h1,h2,ho⟩:=arg_open hval h hwt
 rcases ho with rfl|⟨V,len,cap,b,off,rfl,hlB,hb,hc,hr⟩
 ·exact top_nil hp seed key h1 h2 W
 ·obtain ⟨hm,hs⟩:=rows_rel (Nat.le_refl _) hlB hb hc hr
  generalize acOf V=c at hm hs
  have hh:HvP (kT (rowsA c len 0)) len cap (hvA c len 0 (len:Int)):=hv_of (cap:=cap) hs
  generalize hvA c len 0 (len:Int)=hv at hh
  have hm:MRel (W:Base) (fun _=>(b,off,0)) [kT (rowsA c len 0)] W:=hm
  have h1:seed.size≤140737488351232:=h1
  have h2:key.size≤140737488351232:=h2
  have ht:=top_all hp (rowsA c len 0) seed key len cap hv hh h1 h2 (fun _=>(b,off,0)) W hm
  exact ht
end Go.Ev.Ch.T
namespace Go.Ev
open Go Go.Proofs Go.RowKit
noncomputable def E0:Env:=⟨Tryz.prog,fun _ _=>none,fun _ _ _=>none,fun _=>none,fun _ _=>false,fun _ _=>none,fun _ _ _=>none⟩
theorem mixed:Tryz.prog.follows .mixedOrders=true:=by kernel_rfl
theorem envE0:EnvOK E0:=⟨mixed,fun _ _ _ _ h=>by simp[E0] at h,fun _ _ _ _ _ h=>by simp[E0] at h,fun _ _ _ h=>by simp[E0] at h,fun _ _ _ _ _ _ h=>by simp[E0] at h,fun _ _ _ _ h=>by simp[E0] at h⟩
def callR (E:Env) (n:Nat) (f:FuncId) (vs:List V1) (c:List Bool):Option (List Prop×AV):=
 match callBy E (evalC E n) f vs [] c with
 |some (ob,_,r,_)=>some (ob,r)
 |none=>none
def bV (b:Bool):AV:= .val (.one (.v (.bool b)))
def iV (z:Int):AV:= .val (.one (.i z))
def pV (b:Nat):AV:= .val (.one (.ptr b 0))
def u32 (n:Nat):V1:= .one (.u .u32 n)
def C8 (u:Nat→Nat):V1:= .agg (cellsU 8 0 u)
def C16 (u:Nat→Nat):V1:= .agg (cellsU 16 0 u)
theorem valU_snoc (u:Nat→Nat):∀n j,valU (n+1) j u=valU n j u+4294967296^n*u (j+n)
 |0,j=>by simp[valU]
 |n+1,j=>by
  have ih:=valU_snoc u n (j+1)
  rw[show valU (n+1+1) j u=u j+4294967296*valU (n+1) (j+1) u from rfl,ih,show valU (n+1) j u=u j+4294967296*valU n (j+1) u from rfl,Nat.mul_add,←Nat.mul_assoc,Nat.pow_succ,Nat.mul_comm 4294967296 (4294967296^n),show j+1+n=j+(n+1) by omega]
  omega
theorem valU_add (u v:Nat→Nat):∀n j,valU n j (fun i=>u i+v i)=valU n j u+valU n j v
 |0,j=>rfl
 |n+1,j=>by simp only[valU,valU_add u v n (j+1)];omega
theorem valU_mul (x:Nat) (u:Nat→Nat):∀n j,valU n j (fun i=>x*u i)=x*valU n j u
 |0,j=>rfl
 |n+1,j=>by simp only[valU,valU_mul x u n (j+1),Nat.mul_add];rw[Nat.mul_left_comm]
theorem valU_congr {u v:Nat→Nat}:∀n j,(∀i,j≤i→i<j+n→u i=v i)→valU n j u=valU n j v
 |0,j,_=>rfl
 |n+1,j,h=>by simp only[valU,h j (by omega) (by omega),valU_congr n (j+1) (fun i h1 h2=>h i (by omega) (by omega))]
theorem valU_split (u:Nat→Nat):∀n m j,valU (n+m) j u=valU n j u+4294967296^n*valU m (j+n) u
 |0,m,j=>by simp[valU]
 |n+1,m,j=>by
  rw[show n+1+m=(n+m)+1 by omega]
  simp only[valU]
  rw[valU_split u n m (j+1),Nat.mul_add,←Nat.mul_assoc,Nat.pow_succ,Nat.mul_comm 4294967296 (4294967296^n),show j+1+n=j+(n+1) by omega]
  omega
theorem valU_zero:∀n j,valU n j (fun _=>0)=0
 |0,_=>rfl
 |n+1,j=>by simp[valU,valU_zero n (j+1)]
theorem valU_shift (u:Nat→Nat) (d:Nat):∀n j,valU n j (fun i=>u (i+d))=valU n (j+d) u
 |0,j=>rfl
 |n+1,j=>by simp only[valU,valU_shift u d n (j+1)];rw[show j+1+d=j+d+1 by omega]
theorem carry_sum {d t c:Nat→Nat}:∀n,(∀i,i<n→d i+4294967296*c (i+1)=t i+c i)→valU n 0 d+4294967296^n*c n=valU n 0 t+c 0
 |0,_=>by simp[valU]
 |n+1,h=>by
  have ih:=carry_sum n (fun i hi=>h i (by omega))
  have hn:=h n (by omega)
  rw[valU_snoc,valU_snoc,Nat.zero_add]
  have h2:=congrArg (4294967296^n* ·) hn
  simp only[Nat.mul_add] at h2
  rw[Nat.pow_succ,Nat.mul_assoc]
  omega
def Spec (f:FuncId) (vs:List V1) (r:AV):Prop:=∀(φ:Loc) (w:World),Calls Tryz.prog f (vs.map (V1.conc φ)).toArray w fun e w'=>e= .returned (r.conc φ)∧Below w.heap.size w w'
theorem Spec.congr {f:FuncId} {vs vs':List V1} {r r':AV} (h:Spec f vs r) (h1:∀φ,vs.map (V1.conc φ)=vs'.map (V1.conc φ)) (h2:∀φ,r.conc φ=r'.conc φ):Spec f vs' r':=by
 intro φ w
 rw[←h1,←h2]
 exact h φ w
theorem spec_run {E:Env} (hE:EnvOK E) (hP:E.P=Tryz.prog) {n:Nat} {f:FuncId} {vs:List V1} {ob:List Prop} {c:List Bool} {r:AV}
  (h:callR E n f vs c=some (ob,r)) (ho:All ob) (hr:r.wf 0=true) (hv:(vs.all fun v=>v.wf 0)=true):Spec f vs r:=by
 intro φ w
 have hv:∀v∈vs,v.wf 0=true:=by simpa using hv
 unfold callR at h
 split at h
 ·rename_i ob1 c1 r1 mem1 h1
  simp only[Option.some.injEq,Prod.mk.injEq] at h
  obtain ⟨rfl,rfl⟩:=h
  have:=callBy_calls hE h1 ho hr φ w hv
  rwa[hP] at this
 ·simp at h
def N8 (a:Nat):V1:= .agg [.num 8 a]
def N16 (a:Nat):V1:= .agg [.num 16 a]
def valP:Nat→List Piece→Option (List Prop×Nat)
 |0,[]=>some ([],0)
 |0,_::_=>none
 |_+1,[]=>none
 |n+1,.num k x::ps=>match Nat.beq (n+1) k,ps with
  |true,[]=>some ([x<4294967296^k],x)
  |_,_=>none
 |n+1,.a (.u .u32 x)::ps=>match valP n ps with
  |some (o,v)=>some ((x<4294967296)::o,x+4294967296*v)
  |none=>none
 |_+1,_::_=>none
def numP (n:Nat):V1→Option (List Prop×Nat)
 | .agg ps=>valP n ps
 |_=>none
theorem valP_spec:∀(n:Nat) (ps:List Piece) {o:List Prop} {x:Nat},valP n ps=some (o,x)→All o→x<4294967296^n∧∀φ,concs φ ps=limbs n x
 |0,[],o,x,h,_=>by
  simp only[valP,Option.some.injEq,Prod.mk.injEq] at h
  obtain ⟨_,rfl⟩:=h
  exact ⟨by simp,fun φ=>rfl⟩
 |0,_::_,o,x,h,_=>by simp[valP] at h
 |n+1,[],o,x,h,_=>by simp[valP] at h
 |n+1,.num k y::ps,o,x,h,ho=>by
  simp only[valP] at h
  split at h
  ·rename_i hk
   simp only[Option.some.injEq,Prod.mk.injEq] at h
   obtain ⟨rfl,rfl⟩:=h
   have hk:=Nat.eq_of_beq_eq_true hk
   subst hk
   exact ⟨ho.1,fun φ=>by simp[concs,Piece.conc]⟩
  ·simp at h
 |n+1,.a (.u .u32 y)::ps,o,x,h,ho=>by
  simp only[valP] at h
  split at h
  ·rename_i o' v hv
   simp only[Option.some.injEq,Prod.mk.injEq] at h
   obtain ⟨rfl,rfl⟩:=h
   obtain ⟨h1,h2⟩:=valP_spec n ps hv ho.2
   have hy:y<4294967296:=ho.1
   refine ⟨by rw[Nat.pow_succ];omega,fun φ=> ?_⟩
   simp only[concs,Piece.conc,Atom.conc,limbs,h2 φ]
   rw[show (y+4294967296*v)%4294967296=y by omega,show (y+4294967296*v)/4294967296=v by omega]
   rfl
  ·simp at h
 |n+1,.arr _ _::ps,o,x,h,_=>by simp[valP] at h
 |n+1,.a (.v _)::ps,o,x,h,_=>by simp[valP] at h
 |n+1,.a (.i _)::ps,o,x,h,_=>by simp[valP] at h
 |n+1,.a (.ptr _ _)::ps,o,x,h,_=>by simp[valP] at h
 |n+1,.a (.sl _ _ _ _)::ps,o,x,h,_=>by simp[valP] at h
 |n+1,.a (.sx _ _)::ps,o,x,h,_=>by simp[valP] at h
 |n+1,.a (.u .u8 _)::ps,o,x,h,_=>by simp[valP] at h
 |n+1,.a (.u .u16 _)::ps,o,x,h,_=>by simp[valP] at h
 |n+1,.a (.u .u64 _)::ps,o,x,h,_=>by simp[valP] at h
 |n+1,.a (.u .i8 _)::ps,o,x,h,_=>by simp[valP] at h
 |n+1,.a (.u .i16 _)::ps,o,x,h,_=>by simp[valP] at h
 |n+1,.a (.u .i32 _)::ps,o,x,h,_=>by simp[valP] at h
 |n+1,.a (.u .i64 _)::ps,o,x,h,_=>by simp[valP] at h
theorem numP_spec {n:Nat} {v:V1} {o:List Prop} {x:Nat} (h:numP n v=some (o,x)) (ho:All o):x<4294967296^n∧∀φ,(V1.agg [.num n x]).conc φ=v.conc φ:=by
 unfold numP at h
 split at h
 ·rename_i ps
  obtain ⟨h1,h2⟩:=valP_spec n ps h ho
  exact ⟨h1,fun φ=>by simp[V1.conc,h2 φ,concs,Piece.conc]⟩
 ·simp at h
theorem conc_C8 (φ:Loc) (a:Nat):(C8 (limb a)).conc φ=(N8 a).conc φ:=by simp only[C8,N8,V1.conc,concs_num]
theorem conc_C16 (φ:Loc) (a:Nat):(C16 (limb a)).conc φ=(N16 a).conc φ:=by simp only[C16,N16,V1.conc,concs_num]
theorem conc_C8v (φ:Loc) {u:Nat→Nat} (h:∀i,i<8→u i<4294967296) {a:Nat} (ha:valU 8 0 u=a):(C8 u).conc φ=(N8 a).conc φ:=by
 subst ha;simp only[C8,N8,V1.conc,concs_valU φ u 8 h]
theorem conc_C16v (φ:Loc) {u:Nat→Nat} (h:∀i,i<16→u i<4294967296) {a:Nat} (ha:valU 16 0 u=a):(C16 u).conc φ=(N16 a).conc φ:=by
 subst ha;simp only[C16,N16,V1.conc,concs_valU φ u 16 h]
def fn2 (g:Nat→Nat→AV) (vs:List V1):Option (List Prop×AV):=
 match vs with
 |[x,y]=>match numP 8 x,numP 8 y with
  |some (o,a),some (o',b)=>some (o++o',g a b)
  |_,_=>none
 |_=>none
theorem fn2_ok {f:FuncId} {g:Nat→Nat→AV} (hg:∀a b,a<4294967296^8→b<4294967296^8→Spec f [N8 a,N8 b] (g a b)) {vs:List V1} {ob:List Prop} {r:AV} (h:fn2 g vs=some (ob,r)) (ho:All ob):Spec f vs r:=by
 unfold fn2 at h
 split at h
 ·rename_i x y
  split at h
  ·rename_i o a o' b hx hy
   simp only[Option.some.injEq,Prod.mk.injEq] at h
   obtain ⟨rfl,rfl⟩:=h
   rw[All_append] at ho
   obtain ⟨h1,h2⟩:=numP_spec hx ho.1
   obtain ⟨h3,h4⟩:=numP_spec hy ho.2
   exact (hg a b h1 h3).congr (fun φ=>by simp only[List.map_cons,List.map_nil];rw[←h2 φ,←h4 φ];rfl) (fun _=>rfl)
  ·simp at h
 ·simp at h
def subD (x y b:Nat):Nat:=((x+(4294967296-y%4294967296))%4294967296+(4294967296-b%4294967296))%4294967296
def subO (x y b:Nat):Nat:=(((4294967295-x%4294967296)%4294967296&&&y%4294967296)%4294967296|||
 ((4294967295-(x%4294967296^^^y%4294967296)%4294967296)%4294967296&&&subD x y b%4294967296)%4294967296)/2147483648
theorem run93 (x y b:Nat):callR E0 1000 140 [u32 x,u32 y,u32 b] []=some ([],.tup [u32 (subD x y b),u32 (subO x y b)]):=by kernel_rfl
theorem top_bit {a:Nat} (h:a<4294967296):a/2147483648=if a.testBit 31 then 1 else 0:=by
 rw[Nat.testBit_eq_decide_div_mod_eq]
 simp only[show (2:Nat)^31=2147483648 from rfl]
 by_cases h1:a/2147483648%2=1
 ·simp[h1];omega
 ·simp[h1];omega
theorem bit31 {a:Nat} (h:a<4294967296):a.testBit 31=decide (2147483648≤a):=by
 rw[Nat.testBit_eq_decide_div_mod_eq]
 simp only[show (2:Nat)^31=2147483648 from rfl]
 rw[Bool.eq_iff_iff];simp;omega
theorem or_lt32 {a b:Nat} (ha:a<4294967296) (hb:b<4294967296):a|||b<4294967296:=Nat.or_lt_two_pow (n:=32) ha hb
theorem and_lt32 {a b:Nat} (hb:b<4294967296):a&&&b<4294967296:=Nat.and_lt_two_pow (n:=32) _ hb
theorem xor_lt32 {a b:Nat} (ha:a<4294967296) (hb:b<4294967296):a^^^b<4294967296:=Nat.xor_lt_two_pow (n:=32) ha hb
theorem not31 {a:Nat} (h:a<4294967296):(4294967295-a).testBit 31= !decide (2147483648≤a):=by
 rw[bit31 (by omega),Bool.eq_iff_iff];simp;omega
theorem sub32_spec {x y b:Nat} (hx:x<4294967296) (hy:y<4294967296) (hb:b≤1):x+4294967296*subO x y b=subD x y b+y+b∧subO x y b≤1∧subD x y b<4294967296:=by
 have hd:subD x y b<4294967296:=Nat.mod_lt _ (by decide)
 have hd2:subD x y b=(x+4294967296-y+4294967296-b)%4294967296:=by unfold subD;omega
 have hx':x^^^y<4294967296:=xor_lt32 hx hy
 have ho:subO x y b=if ((!decide (2147483648≤x)&&decide (2147483648≤y))||(!(decide (2147483648≤x)^^decide (2147483648≤y))&&decide (2147483648≤subD x y b))) then 1 else 0:=by
  unfold subO
  simp only[Nat.mod_eq_of_lt hx,Nat.mod_eq_of_lt hy,Nat.mod_eq_of_lt hx',Nat.mod_eq_of_lt hd,Nat.mod_eq_of_lt (show 4294967295-x<4294967296 by omega),Nat.mod_eq_of_lt (show 4294967295-(x^^^y)<4294967296 by omega),
   Nat.mod_eq_of_lt (and_lt32 (a:=4294967295-x) hy),Nat.mod_eq_of_lt (and_lt32 (a:=4294967295-(x^^^y)) hd)]
  rw[top_bit (or_lt32 (and_lt32 hy) (and_lt32 hd)),Nat.testBit_or,Nat.testBit_and,Nat.testBit_and,not31 hx,not31 hx',bit31 hy,bit31 hd,←bit31 hx',Nat.testBit_xor,bit31 hx,bit31 hy]
 refine ⟨?_,?_,hd⟩
 ·rw[ho]
  by_cases h1:2147483648≤x<;>by_cases h2:2147483648≤y<;>by_cases h3:2147483648≤subD x y b<;>simp[h1,h2,h3]<;>omega
 ·rw[ho];split<;>omega
def fn93 (vs:List V1):Option (List Prop×AV):=
 match vs with
 |[.one (.u .u32 x),.one (.u .u32 y),.one (.u .u32 b)]=>some ([],.tup [u32 (subD x y b),u32 (subO x y b)])
 |_=>none
theorem fn93_ok {vs:List V1} {ob:List Prop} {r:AV} (h:fn93 vs=some (ob,r)) (_:All ob):Spec 140 vs r:=by
 unfold fn93 at h
 split at h
 ·rename_i x y b
  simp only[Option.some.injEq,Prod.mk.injEq] at h
  obtain ⟨rfl,rfl⟩:=h
  exact spec_run envE0 rfl (run93 x y b) trivial rfl rfl
 ·simp at h
def addS (a b:Nat→Nat):Nat→Nat
 |0=>0
 |i+1=>(addS a b i+(a i%18446744073709551616+b i%18446744073709551616)%18446744073709551616)%18446744073709551616/4294967296
def addD (a b:Nat→Nat) (i:Nat):Nat:=(addS a b i+(a i%18446744073709551616+b i%18446744073709551616)%18446744073709551616)%18446744073709551616%4294967296
theorem run84 (a b:Nat→Nat):callR E0 1000 112 [C8 a,C8 b] []=some ([],.tup [C8 (addD a b),u32 (addS a b 8%4294967296)]):=by kernel_rfl
theorem addS_le {a b:Nat→Nat} (ha:∀i,a i<4294967296) (hb:∀i,b i<4294967296):∀i,addS a b i≤1
 |0=>by simp[addS]
 |i+1=>by
  have:=addS_le ha hb i
  have:=ha i
  have:=hb i
  simp only[addS]
  omega
theorem add_spec (a b:Nat) (ha:a<4294967296^8) (hb:b<4294967296^8):valU 8 0 (addD (limb a) (limb b))=(a+b)%4294967296^8∧addS (limb a) (limb b) 8=(a+b)/4294967296^8:=by
 have h:=carry_sum (d:=addD (limb a) (limb b)) (t:=fun i=>limb a i+limb b i) (c:=addS (limb a) (limb b)) 8 (fun i _=>by
  have h1:=addS_le (limb_lt a) (limb_lt b) i
  have h2:=limb_lt a i
  have h3:=limb_lt b i
  simp only[addD,addS]
  omega)
 rw[valU_add,valU_num a 8 ha,valU_num b 8 hb] at h
 have h1:=valU_lt (addD (limb a) (limb b)) 8 0 (fun i _ _=>Nat.mod_lt _ (by decide))
 simp only[addS] at h
 constructor
 ·rw[←Nat.add_zero (a+b),←h,Nat.add_mul_mod_self_left,Nat.mod_eq_of_lt h1]
 ·rw[←Nat.add_zero (a+b),←h,Nat.add_mul_div_left _ _ (by decide),Nat.div_eq_of_lt h1,Nat.zero_add];rfl
def addN (a b:Nat):Nat:=(a+b)%4294967296^8
def addK (a b:Nat):Nat:=(a+b)/4294967296^8
def gAdd (a b:Nat):AV:= .tup [N8 (addN a b),u32 (addK a b)]
theorem spec84 (a b:Nat) (ha:a<4294967296^8) (hb:b<4294967296^8):Spec 112 [N8 a,N8 b] (gAdd a b):=by
 have h:=spec_run envE0 rfl (run84 (limb a) (limb b)) trivial rfl rfl
 obtain ⟨h1,h2⟩:=add_spec a b ha hb
 have h3:=addS_le (limb_lt a) (limb_lt b) 8
 refine h.congr (fun φ=>by simp only[List.map_cons,List.map_nil,conc_C8]) (fun φ=> ?_)
 simp only[gAdd,addN,addK,AV.conc,List.map_cons,List.map_nil]
 rw[conc_C8v φ (u:=addD (limb a) (limb b)) (fun i _=>Nat.mod_lt _ (by decide)) h1,show addS (limb a) (limb b) 8%4294967296=addS (limb a) (limb b) 8 from Nat.mod_eq_of_lt (by omega),h2]
def subB (a b:Nat→Nat):Nat→Nat
 |0=>0
 |i+1=>subO (a i) (b i) (subB a b i)
def subDi (a b:Nat→Nat) (i:Nat):Nat:=subD (a i) (b i) (subB a b i)
noncomputable def ESub:Env:={E0 with fn:=fun f vs=>match f with|140=>fn93 vs|_=>none}
theorem envESub:EnvOK ESub:=by
 refine ⟨mixed,?_,fun _ _ _ _ _ h=>by simp[ESub,E0] at h,fun _ _ _ h=>by simp[ESub,E0] at h,fun _ _ _ _ _ _ h=>by simp[ESub,E0] at h,fun _ _ _ _ h=>by simp[ESub,E0] at h⟩
 intro f vs ob r h ho
 simp only[ESub] at h
 split at h
 ·exact fn93_ok h ho
 ·simp at h
theorem run78 (a b:Nat→Nat):callR ESub 1000 116 [C8 a,C8 b] []=some ([],.tup [C8 (subDi a b),u32 (subB a b 8)]):=by kernel_rfl
theorem subB_le {a b:Nat→Nat} (ha:∀i,a i<4294967296) (hb:∀i,b i<4294967296):∀i,subB a b i≤1
 |0=>by simp[subB]
 |i+1=>(sub32_spec (ha i) (hb i) (subB_le ha hb i)).2.1
theorem sub_spec (a b:Nat) (ha:a<4294967296^8) (hb:b<4294967296^8):valU 8 0 (subDi (limb a) (limb b))=(a+4294967296^8-b)%4294967296^8∧subB (limb a) (limb b) 8=if a<b then 1 else 0:=by
 have h:=carry_sum (d:=limb a) (t:=fun i=>subDi (limb a) (limb b) i+limb b i) (c:=subB (limb a) (limb b)) 8 (fun i _=>by
  have h1:=sub32_spec (limb_lt a i) (limb_lt b i) (subB_le (limb_lt a) (limb_lt b) i)
  simp only[subDi,subB]
  omega)
 rw[valU_add,valU_num a 8 ha,valU_num b 8 hb] at h
 have h1:=valU_lt (subDi (limb a) (limb b)) 8 0 (fun i _ _=>Nat.mod_lt _ (by decide))
 have h2:=subB_le (limb_lt a) (limb_lt b) 8
 simp only[show subB (limb a) (limb b) 0=0 from rfl] at h
 generalize valU 8 0 (subDi (limb a) (limb b))=d at*
 generalize subB (limb a) (limb b) 8=o at*
 have:o=0∨o=1:=by omega
 rcases this with rfl|rfl
 ·refine ⟨by omega,?_⟩
  rw[if_neg (by omega)]
 ·refine ⟨by omega,?_⟩
  rw[if_pos (by omega)]
def subN (a b:Nat):Nat:=(a+4294967296^8-b)%4294967296^8
def subK (a b:Nat):Nat:=if a<b then 1 else 0
def gSub (a b:Nat):AV:= .tup [N8 (subN a b),u32 (subK a b)]
theorem spec78 (a b:Nat) (ha:a<4294967296^8) (hb:b<4294967296^8):Spec 116 [N8 a,N8 b] (gSub a b):=by
 have h:=spec_run envESub rfl (run78 (limb a) (limb b)) trivial rfl rfl
 obtain ⟨h1,h2⟩:=sub_spec a b ha hb
 refine h.congr (fun φ=>by simp only[List.map_cons,List.map_nil,conc_C8]) (fun φ=> ?_)
 simp only[gSub,subN,subK,AV.conc,List.map_cons,List.map_nil]
 rw[conc_C8v φ (u:=subDi (limb a) (limb b)) (fun i _=>Nat.mod_lt _ (by decide)) h1,h2]
def selT (m:Nat) (a b:Nat→Nat) (i:Nat):Nat:=a i%4294967296^^^(m&&&(a i%4294967296^^^b i%4294967296)%4294967296)%4294967296
theorem run85t (a b:Nat→Nat):callR E0 1000 118 [C8 a,C8 b,.one (.v (.bool true))] []=some ([],.val (C8 (selT 4294967295 a b))):=by kernel_rfl
theorem run85f (a b:Nat→Nat):callR E0 1000 118 [C8 a,C8 b,.one (.v (.bool false))] []=some ([],.val (C8 (selT 0 a b))):=by kernel_rfl
theorem selT_one {a b:Nat→Nat} (ha:∀i,a i<4294967296) (hb:∀i,b i<4294967296) (i:Nat):selT 4294967295 a b i=b i:=by
 have h:=xor_lt32 (ha i) (hb i)
 unfold selT
 rw[Nat.mod_eq_of_lt (ha i),Nat.mod_eq_of_lt (hb i),Nat.mod_eq_of_lt h,Nat.and_comm,show (4294967295:Nat)=2^32-1 from rfl,Nat.and_two_pow_sub_one_eq_mod,Nat.mod_eq_of_lt (show a i^^^b i<2^32 from h),Nat.mod_eq_of_lt h,
  ←Nat.xor_assoc,Nat.xor_self,Nat.zero_xor]
theorem selT_zero {a b:Nat→Nat} (ha:∀i,a i<4294967296) (i:Nat):selT 0 a b i=a i:=by
 unfold selT
 rw[Nat.zero_and,Nat.zero_mod,Nat.xor_zero,Nat.mod_eq_of_lt (ha i)]
def selV (s:Bool) (a b:Nat):V1:=
 match s with
 |true=>N8 b
 |false=>N8 a
theorem spec85 (a b:Nat) (s:Bool) (ha:a<4294967296^8) (hb:b<4294967296^8):Spec 118 [N8 a,N8 b,.one (.v (.bool s))] (.val (selV s a b)):=by
 cases s
 ·refine (spec_run envE0 rfl (run85f (limb a) (limb b)) trivial rfl rfl).congr (fun φ=>by simp only[List.map_cons,List.map_nil,conc_C8]) (fun φ=> ?_)
  have e:∀i,selT 0 (limb a) (limb b) i=limb a i:=selT_zero (limb_lt a)
  exact conc_C8v φ (fun i _=>by rw[e];exact limb_lt a i) (by rw[valU_congr 8 0 (fun i _ _=>e i),valU_num a 8 ha])
 ·refine (spec_run envE0 rfl (run85t (limb a) (limb b)) trivial rfl rfl).congr (fun φ=>by simp only[List.map_cons,List.map_nil,conc_C8]) (fun φ=> ?_)
  have e:∀i,selT 4294967295 (limb a) (limb b) i=limb b i:=selT_one (limb_lt a) (limb_lt b)
  exact conc_C8v φ (fun i _=>by rw[e];exact limb_lt b i) (by rw[valU_congr 8 0 (fun i _ _=>e i),valU_num b 8 hb])
def fn85 (vs:List V1):Option (List Prop×AV):=
 match vs with
 |[x,y,.one (.v (.bool s))]=>match numP 8 x,numP 8 y with
  |some (o,a),some (o',b)=>some (o++o',.val (selV s a b))
  |_,_=>none
 |_=>none
theorem fn85_ok {vs:List V1} {ob:List Prop} {r:AV} (h:fn85 vs=some (ob,r)) (ho:All ob):Spec 118 vs r:=by
 unfold fn85 at h
 split at h
 ·rename_i x y s
  split at h
  ·rename_i o a o' b hx hy
   simp only[Option.some.injEq,Prod.mk.injEq] at h
   obtain ⟨rfl,rfl⟩:=h
   rw[All_append] at ho
   obtain ⟨h1,h2⟩:=numP_spec hx ho.1
   obtain ⟨h3,h4⟩:=numP_spec hy ho.2
   exact (spec85 a b s h1 h3).congr (fun φ=>by simp only[List.map_cons,List.map_nil];rw[←h2 φ,←h4 φ];rfl) (fun _=>rfl)
  ·simp at h
 ·simp at h
def pushC (a:Nat→Nat) (b:Nat):Nat→Nat
 |0=>b
 |i+1=>a i/2147483648
def pushD (a:Nat→Nat) (b:Nat) (i:Nat):Nat:=a i*2%4294967296%4294967296|||pushC a b i%4294967296
theorem run87 (a:Nat→Nat) (b:Nat):callR E0 1000 299 [C8 a,u32 b] []=some ([],.tup [C8 (pushD a b),u32 (pushC a b 8)]):=by kernel_rfl
theorem or_bit (x c:Nat) (hc:c≤1):2*x|||c=2*x+c:=by
 have:=Nat.two_pow_add_eq_or_of_lt (i:=1) (b:=c) (by omega) x
 simpa using this.symm
theorem pushD_step {a:Nat→Nat} {b:Nat} (ha:∀i,a i<4294967296) (hb:b≤1) (i:Nat):pushD a b i+4294967296*pushC a b (i+1)=2*a i+pushC a b i∧pushD a b i<4294967296:=by
 have hc:pushC a b i≤1:=by
  cases i with
  |zero=>exact hb
  |succ i=>have:=ha i;simp only[pushC];omega
 have:=ha i
 unfold pushD
 rw[show a i*2%4294967296%4294967296=2*(a i%2147483648) by omega,Nat.mod_eq_of_lt (show pushC a b i<4294967296 by omega),or_bit _ _ hc]
 rw[show pushC a b (i+1)=a i/2147483648 from rfl]
 omega
theorem push_spec (a b:Nat) (ha:a<4294967296^8) (hb:b≤1):valU 8 0 (pushD (limb a) b)=(2*a+b)%4294967296^8∧pushC (limb a) b 8=(2*a+b)/4294967296^8:=by
 have h:=carry_sum (d:=pushD (limb a) b) (t:=fun i=>2*limb a i) (c:=pushC (limb a) b) 8 (fun i _=>(pushD_step (limb_lt a) hb i).1)
 rw[valU_mul,valU_num a 8 ha] at h
 have h1:=valU_lt (pushD (limb a) b) 8 0 (fun i _ _=>(pushD_step (limb_lt a) hb i).2)
 simp only[show pushC (limb a) b 0=b from rfl] at h
 constructor
 ·rw[←h,Nat.add_mul_mod_self_left,Nat.mod_eq_of_lt h1]
 ·rw[←h,Nat.add_mul_div_left _ _ (by decide),Nat.div_eq_of_lt h1,Nat.zero_add]
def pushN (a b:Nat):Nat:=(2*a+b)%4294967296^8
def pushK (a b:Nat):Nat:=(2*a+b)/4294967296^8
def fn87 (vs:List V1):Option (List Prop×AV):=
 match vs with
 |[x,.one (.u .u32 b)]=>match numP 8 x with
  |some (o,a)=>some ((b≤1)::o,.tup [N8 (pushN a b),u32 (pushK a b)])
  |_=>none
 |_=>none
theorem fn87_ok {vs:List V1} {ob:List Prop} {r:AV} (h:fn87 vs=some (ob,r)) (ho:All ob):Spec 299 vs r:=by
 unfold fn87 at h
 split at h
 ·rename_i x b
  split at h
  ·rename_i o a hx
   simp only[Option.some.injEq,Prod.mk.injEq] at h
   obtain ⟨rfl,rfl⟩:=h
   obtain ⟨h1,h2⟩:=numP_spec hx ho.2
   obtain ⟨h3,h4⟩:=push_spec a b h1 ho.1
   refine (spec_run envE0 rfl (run87 (limb a) b) trivial rfl rfl).congr (fun φ=>by simp only[List.map_cons,List.map_nil,conc_C8];rw[←h2 φ];rfl) (fun φ=> ?_)
   simp only[AV.conc,pushN,pushK,List.map_cons,List.map_nil]
   rw[conc_C8v φ (u:=pushD (limb a) b) (fun i _=>(pushD_step (limb_lt a) ho.1 i).2) h3,h4]
  ·simp at h
 ·simp at h
def cmpZN (a b:Nat):Int:=bif decide (a<b) then-1 else bif decide (a=b) then 0 else 1
theorem cmpZN_lt {a b:Nat} (h:a<b):cmpZN a b= -1:=by simp[cmpZN,h]
theorem cmpZN_eq (a:Nat):cmpZN a a=0:=by simp[cmpZN]
theorem cmpZN_gt {a b:Nat} (h:b<a):cmpZN a b=1:=by simp[cmpZN,show ¬a<b by omega,show ¬a=b by omega]
theorem cmpZN_neg (a b:Nat):decide (cmpZN a b<0)=decide (a<b):=by
 rcases Nat.lt_trichotomy a b with h|h|h
 ·simp[cmpZN_lt h,h]
 ·subst h;simp[cmpZN_eq]
 ·simp[cmpZN_gt h];omega
theorem valU_less {a b:Nat→Nat} (ha:∀i,a i<4294967296):∀n k,k<n→(∀i,k<i→i<n→a i=b i)→a k<b k→valU n 0 a<valU n 0 b
 |0,k,hk,_,_=>by omega
 |n+1,k,hk,he,hl=>by
  rw[valU_snoc,valU_snoc,Nat.zero_add]
  by_cases h:k=n
  ·subst h
   have h1:=valU_lt a k 0 (fun i _ _=>ha i)
   have h2:4294967296^k*(a k+1)≤4294967296^k*b k:=Nat.mul_le_mul_left _ hl
   rw[Nat.mul_succ] at h2
   omega
  ·have:=valU_less ha n k (by omega) (fun i h1 h2=>he i h1 (by omega)) hl
   rw[he n (by omega) (by omega)]
   omega
noncomputable def EC94:Env:={E0 with S:=fun f t=>match f with|287=>memN t [16]|308=>memN t [5]|304=>memN t [16,19]|_=>false}
theorem envEC94:EnvOK EC94:=⟨mixed,fun _ _ _ _ h=>by simp[EC94,E0] at h,fun _ _ _ _ _ h=>by simp[EC94,E0] at h,fun _ _ _ h=>by simp[EC94,E0] at h,fun _ _ _ _ _ _ h=>by simp[EC94,E0] at h,fun _ _ _ _ h=>by simp[EC94,E0] at h⟩
theorem run88l (x y:Nat):callR EC94 1000 304 [u32 x,u32 y] [false,false,true]=some ([(!decide (x=x))=false,(!decide (y=y))=false,decide (x<y)=true],iV (-1)):=by kernel_rfl
theorem run88g (x y:Nat):callR EC94 1000 304 [u32 x,u32 y] [false,false,false,true]=some ([(!decide (x=x))=false,(!decide (y=y))=false,decide (x<y)=false,decide (y<x)=true],iV 1):=by kernel_rfl
theorem run88e (x y:Nat):callR EC94 1000 304 [u32 x,u32 y] [false,false,false,false]=some ([(!decide (x=x))=false,(!decide (y=y))=false,decide (x<y)=false,decide (y<x)=false],iV 0):=by kernel_rfl
theorem spec88 (x y:Nat):Spec 304 [u32 x,u32 y] (iV (cmpZN x y)):=by
 rcases Nat.lt_trichotomy x y with h|h|h
 ·rw[cmpZN_lt h]
  exact spec_run envEC94 rfl (run88l x y) ⟨by simp,by simp,by simp[h],trivial⟩ rfl rfl
 ·subst h;rw[cmpZN_eq]
  exact spec_run envEC94 rfl (run88e x x) ⟨by simp,by simp,by simp,by simp,trivial⟩ rfl rfl
 ·rw[cmpZN_gt h]
  exact spec_run envEC94 rfl (run88g x y) ⟨by simp,by simp,decide_eq_false (by omega),by simp[h],trivial⟩ rfl rfl
def fn88 (vs:List V1):Option (List Prop×AV):=
 match vs with
 |[.one (.u .u32 x),.one (.u .u32 y)]=>some ([],iV (cmpZN x y))
 |_=>none
theorem fn88_ok {vs:List V1} {ob:List Prop} {r:AV} (h:fn88 vs=some (ob,r)) (_:All ob):Spec 304 vs r:=by
 unfold fn88 at h
 split at h
 ·rename_i x y
  simp only[Option.some.injEq,Prod.mk.injEq] at h
  obtain ⟨rfl,rfl⟩:=h
  exact spec88 x y
 ·simp at h
noncomputable def E70:Env:={E0 with fn:=fun f vs=>match f with|304=>fn88 vs|_=>none,S:=fun f t=>match f with|287=>memN t [16]|_=>false}
theorem envE70:EnvOK E70:=by
 refine ⟨mixed,?_,fun _ _ _ _ _ h=>by simp[E70,E0] at h,fun _ _ _ h=>by simp[E70,E0] at h,fun _ _ _ _ _ _ h=>by simp[E70,E0] at h,fun _ _ _ _ h=>by simp[E70,E0] at h⟩
 intro f vs ob r h ho
 simp only[E70] at h
 split at h
 ·exact fn88_ok h ho
 ·simp at h
theorem run70n0 (a b:Nat→Nat):callR E70 1000 287 [C8 a,C8 b] [false,false,false,false,false,false,false,true]=some ([(!decide (a 7=b 7))=false,(!decide (a 6=b 6))=false,(!decide (a 5=b 5))=false,(!decide (a 4=b 4))=false,(!decide (a 3=b 3))=false,(!decide (a 2=b 2))=false,(!decide (a 1=b 1))=false,(!decide (a 0=b 0))=true],iV (cmpZN (a 0) (b 0))):=by kernel_rfl
theorem run70n1 (a b:Nat→Nat):callR E70 1000 287 [C8 a,C8 b] [false,false,false,false,false,false,true]=some ([(!decide (a 7=b 7))=false,(!decide (a 6=b 6))=false,(!decide (a 5=b 5))=false,(!decide (a 4=b 4))=false,(!decide (a 3=b 3))=false,(!decide (a 2=b 2))=false,(!decide (a 1=b 1))=true],iV (cmpZN (a 1) (b 1))):=by kernel_rfl
theorem run70n2 (a b:Nat→Nat):callR E70 1000 287 [C8 a,C8 b] [false,false,false,false,false,true]=some ([(!decide (a 7=b 7))=false,(!decide (a 6=b 6))=false,(!decide (a 5=b 5))=false,(!decide (a 4=b 4))=false,(!decide (a 3=b 3))=false,(!decide (a 2=b 2))=true],iV (cmpZN (a 2) (b 2))):=by kernel_rfl
theorem run70n3 (a b:Nat→Nat):callR E70 1000 287 [C8 a,C8 b] [false,false,false,false,true]=some ([(!decide (a 7=b 7))=false,(!decide (a 6=b 6))=false,(!decide (a 5=b 5))=false,(!decide (a 4=b 4))=false,(!decide (a 3=b 3))=true],iV (cmpZN (a 3) (b 3))):=by kernel_rfl
theorem run70n4 (a b:Nat→Nat):callR E70 1000 287 [C8 a,C8 b] [false,false,false,true]=some ([(!decide (a 7=b 7))=false,(!decide (a 6=b 6))=false,(!decide (a 5=b 5))=false,(!decide (a 4=b 4))=true],iV (cmpZN (a 4) (b 4))):=by kernel_rfl
theorem run70n5 (a b:Nat→Nat):callR E70 1000 287 [C8 a,C8 b] [false,false,true]=some ([(!decide (a 7=b 7))=false,(!decide (a 6=b 6))=false,(!decide (a 5=b 5))=true],iV (cmpZN (a 5) (b 5))):=by kernel_rfl
theorem run70n6 (a b:Nat→Nat):callR E70 1000 287 [C8 a,C8 b] [false,true]=some ([(!decide (a 7=b 7))=false,(!decide (a 6=b 6))=true],iV (cmpZN (a 6) (b 6))):=by kernel_rfl
theorem run70n7 (a b:Nat→Nat):callR E70 1000 287 [C8 a,C8 b] [true]=some ([(!decide (a 7=b 7))=true],iV (cmpZN (a 7) (b 7))):=by kernel_rfl
theorem run70e (a b:Nat→Nat):callR E70 1000 287 [C8 a,C8 b] [false,false,false,false,false,false,false,false]=some ([(!decide (a 7=b 7))=false,(!decide (a 6=b 6))=false,(!decide (a 5=b 5))=false,(!decide (a 4=b 4))=false,(!decide (a 3=b 3))=false,(!decide (a 2=b 2))=false,(!decide (a 1=b 1))=false,(!decide (a 0=b 0))=false],iV 0):=by kernel_rfl
theorem cmp70 (a b:Nat→Nat) (ha:∀i,a i<4294967296) (hb:∀i,b i<4294967296):Spec 287 [C8 a,C8 b] (iV (cmpZN (valU 8 0 a) (valU 8 0 b))):=by
 by_cases h7:a 7=b 7
 ·skip
  by_cases h6:a 6=b 6
  ·skip
   by_cases h5:a 5=b 5
   ·skip
    by_cases h4:a 4=b 4
    ·skip
     by_cases h3:a 3=b 3
     ·skip
      by_cases h2:a 2=b 2
      ·skip
       by_cases h1:a 1=b 1
       ·skip
        by_cases h0:a 0=b 0
        ·skip
         have e:valU 8 0 a=valU 8 0 b:=valU_congr 8 0 (fun i _ hi=>by rcases i with _|_|_|_|_|_|_|_|i<;>first|assumption|omega)
         rw[e,cmpZN_eq]
         exact spec_run envE70 rfl (run70e a b) ⟨by simp[h7],by simp[h6],by simp[h5],by simp[h4],by simp[h3],by simp[h2],by simp[h1],by simp[h0],trivial⟩ rfl rfl
        ·rcases Nat.lt_or_gt_of_ne h0 with hl|hl
         ·have hv:=valU_less (b:=b) ha 8 0 (by omega) (fun i h1 h2=>by rcases i with _|_|_|_|_|_|_|_|i<;>first|assumption|(apply Eq.symm;assumption)|omega) hl
          rw[cmpZN_lt hv,←cmpZN_lt hl]
          exact spec_run envE70 rfl (run70n0 a b) ⟨by simp[h7],by simp[h6],by simp[h5],by simp[h4],by simp[h3],by simp[h2],by simp[h1],by simp[h0],trivial⟩ rfl rfl
         ·have hv:=valU_less (b:=a) hb 8 0 (by omega) (fun i h1 h2=>by rcases i with _|_|_|_|_|_|_|_|i<;>first|assumption|(apply Eq.symm;assumption)|omega) hl
          rw[cmpZN_gt hv,←cmpZN_gt hl]
          exact spec_run envE70 rfl (run70n0 a b) ⟨by simp[h7],by simp[h6],by simp[h5],by simp[h4],by simp[h3],by simp[h2],by simp[h1],by simp[h0],trivial⟩ rfl rfl
       ·rcases Nat.lt_or_gt_of_ne h1 with hl|hl
        ·have hv:=valU_less (b:=b) ha 8 1 (by omega) (fun i h1 h2=>by rcases i with _|_|_|_|_|_|_|_|i<;>first|assumption|(apply Eq.symm;assumption)|omega) hl
         rw[cmpZN_lt hv,←cmpZN_lt hl]
         exact spec_run envE70 rfl (run70n1 a b) ⟨by simp[h7],by simp[h6],by simp[h5],by simp[h4],by simp[h3],by simp[h2],by simp[h1],trivial⟩ rfl rfl
        ·have hv:=valU_less (b:=a) hb 8 1 (by omega) (fun i h1 h2=>by rcases i with _|_|_|_|_|_|_|_|i<;>first|assumption|(apply Eq.symm;assumption)|omega) hl
         rw[cmpZN_gt hv,←cmpZN_gt hl]
         exact spec_run envE70 rfl (run70n1 a b) ⟨by simp[h7],by simp[h6],by simp[h5],by simp[h4],by simp[h3],by simp[h2],by simp[h1],trivial⟩ rfl rfl
      ·rcases Nat.lt_or_gt_of_ne h2 with hl|hl
       ·have hv:=valU_less (b:=b) ha 8 2 (by omega) (fun i h1 h2=>by rcases i with _|_|_|_|_|_|_|_|i<;>first|assumption|(apply Eq.symm;assumption)|omega) hl
        rw[cmpZN_lt hv,←cmpZN_lt hl]
        exact spec_run envE70 rfl (run70n2 a b) ⟨by simp[h7],by simp[h6],by simp[h5],by simp[h4],by simp[h3],by simp[h2],trivial⟩ rfl rfl
       ·have hv:=valU_less (b:=a) hb 8 2 (by omega) (fun i h1 h2=>by rcases i with _|_|_|_|_|_|_|_|i<;>first|assumption|(apply Eq.symm;assumption)|omega) hl
        rw[cmpZN_gt hv,←cmpZN_gt hl]
        exact spec_run envE70 rfl (run70n2 a b) ⟨by simp[h7],by simp[h6],by simp[h5],by simp[h4],by simp[h3],by simp[h2],trivial⟩ rfl rfl
     ·rcases Nat.lt_or_gt_of_ne h3 with hl|hl
      ·have hv:=valU_less (b:=b) ha 8 3 (by omega) (fun i h1 h2=>by rcases i with _|_|_|_|_|_|_|_|i<;>first|assumption|(apply Eq.symm;assumption)|omega) hl
       rw[cmpZN_lt hv,←cmpZN_lt hl]
       exact spec_run envE70 rfl (run70n3 a b) ⟨by simp[h7],by simp[h6],by simp[h5],by simp[h4],by simp[h3],trivial⟩ rfl rfl
      ·have hv:=valU_less (b:=a) hb 8 3 (by omega) (fun i h1 h2=>by rcases i with _|_|_|_|_|_|_|_|i<;>first|assumption|(apply Eq.symm;assumption)|omega) hl
       rw[cmpZN_gt hv,←cmpZN_gt hl]
       exact spec_run envE70 rfl (run70n3 a b) ⟨by simp[h7],by simp[h6],by simp[h5],by simp[h4],by simp[h3],trivial⟩ rfl rfl
    ·rcases Nat.lt_or_gt_of_ne h4 with hl|hl
     ·have hv:=valU_less (b:=b) ha 8 4 (by omega) (fun i h1 h2=>by rcases i with _|_|_|_|_|_|_|_|i<;>first|assumption|(apply Eq.symm;assumption)|omega) hl
      rw[cmpZN_lt hv,←cmpZN_lt hl]
      exact spec_run envE70 rfl (run70n4 a b) ⟨by simp[h7],by simp[h6],by simp[h5],by simp[h4],trivial⟩ rfl rfl
     ·have hv:=valU_less (b:=a) hb 8 4 (by omega) (fun i h1 h2=>by rcases i with _|_|_|_|_|_|_|_|i<;>first|assumption|(apply Eq.symm;assumption)|omega) hl
      rw[cmpZN_gt hv,←cmpZN_gt hl]
      exact spec_run envE70 rfl (run70n4 a b) ⟨by simp[h7],by simp[h6],by simp[h5],by simp[h4],trivial⟩ rfl rfl
   ·rcases Nat.lt_or_gt_of_ne h5 with hl|hl
    ·have hv:=valU_less (b:=b) ha 8 5 (by omega) (fun i h1 h2=>by rcases i with _|_|_|_|_|_|_|_|i<;>first|assumption|(apply Eq.symm;assumption)|omega) hl
     rw[cmpZN_lt hv,←cmpZN_lt hl]
     exact spec_run envE70 rfl (run70n5 a b) ⟨by simp[h7],by simp[h6],by simp[h5],trivial⟩ rfl rfl
    ·have hv:=valU_less (b:=a) hb 8 5 (by omega) (fun i h1 h2=>by rcases i with _|_|_|_|_|_|_|_|i<;>first|assumption|(apply Eq.symm;assumption)|omega) hl
     rw[cmpZN_gt hv,←cmpZN_gt hl]
     exact spec_run envE70 rfl (run70n5 a b) ⟨by simp[h7],by simp[h6],by simp[h5],trivial⟩ rfl rfl
  ·rcases Nat.lt_or_gt_of_ne h6 with hl|hl
   ·have hv:=valU_less (b:=b) ha 8 6 (by omega) (fun i h1 h2=>by rcases i with _|_|_|_|_|_|_|_|i<;>first|assumption|(apply Eq.symm;assumption)|omega) hl
    rw[cmpZN_lt hv,←cmpZN_lt hl]
    exact spec_run envE70 rfl (run70n6 a b) ⟨by simp[h7],by simp[h6],trivial⟩ rfl rfl
   ·have hv:=valU_less (b:=a) hb 8 6 (by omega) (fun i h1 h2=>by rcases i with _|_|_|_|_|_|_|_|i<;>first|assumption|(apply Eq.symm;assumption)|omega) hl
    rw[cmpZN_gt hv,←cmpZN_gt hl]
    exact spec_run envE70 rfl (run70n6 a b) ⟨by simp[h7],by simp[h6],trivial⟩ rfl rfl
 ·rcases Nat.lt_or_gt_of_ne h7 with hl|hl
  ·have hv:=valU_less (b:=b) ha 8 7 (by omega) (fun i h1 h2=>by rcases i with _|_|_|_|_|_|_|_|i<;>first|assumption|(apply Eq.symm;assumption)|omega) hl
   rw[cmpZN_lt hv,←cmpZN_lt hl]
   exact spec_run envE70 rfl (run70n7 a b) ⟨by simp[h7],trivial⟩ rfl rfl
  ·have hv:=valU_less (b:=a) hb 8 7 (by omega) (fun i h1 h2=>by rcases i with _|_|_|_|_|_|_|_|i<;>first|assumption|(apply Eq.symm;assumption)|omega) hl
   rw[cmpZN_gt hv,←cmpZN_gt hl]
   exact spec_run envE70 rfl (run70n7 a b) ⟨by simp[h7],trivial⟩ rfl rfl
def gCmp (a b:Nat):AV:=iV (cmpZN a b)
theorem spec70 (a b:Nat) (ha:a<4294967296^8) (hb:b<4294967296^8):Spec 287 [N8 a,N8 b] (gCmp a b):=by
 have:=cmp70 (limb a) (limb b) (limb_lt a) (limb_lt b)
 rw[valU_num a 8 ha,valU_num b 8 hb] at this
 exact this.congr (fun φ=>by simp only[List.map_cons,List.map_nil,conc_C8]) (fun _=>rfl)
def findLoop (k:Nat):Code→Option Code
 | .loop y=>match Nat.beq (lid y) k with
  |true=>some y
  |false=>findLoop k y
 | .seq a b=>match findLoop k a with
  |some y=>some y
  |none=>findLoop k b
 | .cond _ a b=>match findLoop k a with
  |some y=>some y
  |none=>findLoop k b
 | .block _ a=>findLoop k a
 |_=>none
def bodyOf (P:Program) (f k:Nat):Code:=
 match P.funcs[f]? with
 |some fn=>match fn.body with
  |some c=>match findLoop k c with
   |some y=>y
   |none=> .skip
  |none=> .skip
 |none=> .skip
def Free (B:Blk):Prop:=∀f,allPtr f B.ps=true
theorem wfS_of {T:List AV} {M:List Blk} (hM:∀b∈M,Free b) (h:tmsWf M.length T=true):wfS T M=true:=by
 unfold wfS
 rw[h,Bool.true_and]
 clear h
 generalize M.length=n
 induction M with
 |nil=>rfl
 |cons b M ih=>
  simp only[memWf,hM b (by simp) _,Bool.true_and]
  exact ih (fun x hx=>hM x (by simp[hx]))
def bN (u:Nat→Nat):Blk:=⟨cellsU 8 0 u,185,true,false,0⟩
def bW (u:Nat→Nat):Blk:=⟨cellsU 16 0 u,191,true,false,0⟩
theorem bN_free (u:Nat→Nat):Free (bN u):=fun f=>cellsU_free u f 8 0
theorem bW_free (u:Nat→Nat):Free (bW u):=fun f=>cellsU_free u f 16 0
def sumC (T0:List AV) (M0:List Blk) (TF:List AV) (MF:List Blk) (ex:Ex):List AV→List Blk→List Bool→CoR:=
 sumBy (α:=Unit) (fun _ _=>()) (fun _=>[]) (fun _=>T0) (fun _=>M0) (fun _=>TF) (fun _=>MF) ex
theorem sumC_ok {P:Program} {y:Code} {T0:List AV} {M0:List Blk} {TF:List AV} {MF:List Blk} {ex:Ex} (hl:MF.length=M0.length) (h:Goes P (.loop y) ex T0 M0 TF MF):SumOK P (.loop y) (sumC T0 M0 TF MF ex):=
 sumBy_goes (fun _=>hl) fun _ _=>h
noncomputable def EL1 (E:Env) (k:Nat) (y:Code) (f:List AV→List Blk→List Bool→CoR):Env:=
 {E with lp:=fun j=>match Nat.beq j k with|true=>some (y,f)|false=>none}
theorem envEL1 {E:Env} (hE:EnvOK E) {k:Nat} {y:Code} {f:List AV→List Blk→List Bool→CoR} (h:SumOK E.P (.loop y) f):EnvOK (EL1 E k y f):=by
 refine ⟨hE.mixed,hE.fns,hE.fms,?_,hE.fbs,hE.fws⟩
 intro j y' f' hj
 simp only[EL1] at hj
 split at hj
 ·simp only[Option.some.injEq,Prod.mk.injEq] at hj
  obtain ⟨rfl,rfl⟩:=hj
  exact h
 ·simp at hj
def rowC (T:Nat→Nat→Nat):Nat→Nat
 |0=>0
 |k+1=>T (rowC T k) k/4294967296
def rowW (T:Nat→Nat→Nat) (w:Nat→Nat) (i j:Nat):Nat:=
 match Nat.blt j i with
 |true=>w j
 |false=>match Nat.blt j (i+8) with
  |true=>T (rowC T (j-i)) (j-i)%4294967296
  |false=>match Nat.beq j (i+8) with
   |true=>rowC T 8%4294967296
   |false=>w j
def T92 (x:Nat) (b w:Nat→Nat) (i c k:Nat):Nat:=(c+(x%18446744073709551616*(b k%18446744073709551616)%18446744073709551616+w (i+k)%18446744073709551616)%18446744073709551616)%18446744073709551616
theorem T_eq {x y w c:Nat} (hx:x<4294967296) (hy:y<4294967296) (hw:w<4294967296) (hc:c<4294967296):
  (c+(x%18446744073709551616*(y%18446744073709551616)%18446744073709551616+w%18446744073709551616)%18446744073709551616)%18446744073709551616=c+x*y+w∧
  ((c+x%18446744073709551616*(y%18446744073709551616)%18446744073709551616)%18446744073709551616+w%18446744073709551616)%18446744073709551616=c+x*y+w∧(c+x*y+w)/4294967296<4294967296:=by
 have h1:x*y≤4294967295*4294967295:=Nat.mul_le_mul (by omega) (by omega)
 rw[Nat.mod_eq_of_lt (show x<18446744073709551616 by omega),Nat.mod_eq_of_lt (show y<18446744073709551616 by omega),Nat.mod_eq_of_lt (show x*y<18446744073709551616 by omega)]
 omega
theorem row_sum {u w b d:Nat→Nat} {x c i:Nat} (n:Nat) (h1:∀j,j<i→u j=w j) (h2:∀k,k<n→u (k+i)=d k) (h3:u (i+n)=c)
  (hs:valU n 0 d+4294967296^n*c=x*valU n 0 b+valU n i w):valU (i+(n+1)) 0 u=valU (i+n) 0 w+4294967296^i*(x*valU n 0 b):=by
 have e1:valU i 0 u=valU i 0 w:=valU_congr i 0 (fun j _ hj=>h1 j (by omega))
 have e2:valU n i u=valU n 0 d:=by
  have:=valU_shift u i n 0
  rw[Nat.zero_add] at this
  rw[←this]
  exact valU_congr n 0 (fun k _ hk=>h2 k (by omega))
 rw[valU_split u i (n+1) 0,valU_split w i n 0,Nat.zero_add,valU_snoc,e1,e2,h3,hs,Nat.mul_add]
 omega
theorem rowC_lt {T:Nat→Nat→Nat} {x:Nat} {b w:Nat→Nat} {i:Nat} (hx:x<4294967296) (hb:∀k,b k<4294967296) (hw:∀k,w k<4294967296)
  (hT:∀c k,c<4294967296→T c k=c+x*b k+w (i+k)):∀k,rowC T k<4294967296
 |0=>by simp[rowC]
 |k+1=>by
  have ih:=rowC_lt hx hb hw hT k
  simp only[rowC,hT _ _ ih];exact (T_eq hx (hb k) (hw (i+k)) ih).2.2
theorem rowC_sum {T:Nat→Nat→Nat} {x:Nat} {b w:Nat→Nat} {i:Nat} (hx:x<4294967296) (hb:∀k,b k<4294967296) (hw:∀k,w k<4294967296)
  (hT:∀c k,c<4294967296→T c k=c+x*b k+w (i+k)) (n:Nat):valU n 0 (fun k=>T (rowC T k) k%4294967296)+4294967296^n*rowC T n=x*valU n 0 b+valU n i w:=by
 have hs:=carry_sum (d:=fun k=>T (rowC T k) k%4294967296) (t:=fun k=>x*b k+w (k+i)) (c:=rowC T) n (fun k _=>by
  have:=hT _ k (rowC_lt hx hb hw hT k)
  rw[show rowC T (k+1)=T (rowC T k) k/4294967296 from rfl,Nat.mod_add_div,this,Nat.add_comm k i]
  omega)
 rw[valU_add,valU_mul,valU_shift,Nat.zero_add,show rowC T 0=0 from rfl,Nat.add_zero] at hs
 exact hs
theorem blt_t {j i:Nat} (h:j<i):Nat.blt j i=true:=Nat.ble_eq_true_of_le h
theorem blt_f {j i:Nat} (h:¬j<i):Nat.blt j i=false:=by
 rw[Bool.eq_false_iff];intro h';exact h (Nat.le_of_ble_eq_true h')
theorem rowW_lt {T:Nat→Nat→Nat} {w:Nat→Nat} {i:Nat} (hw:∀k,w k<4294967296) (j:Nat):rowW T w i j<4294967296:=by
 unfold rowW
 split
 ·exact hw j
 ·split
  ·exact Nat.mod_lt _ (by decide)
  ·split
   ·exact Nat.mod_lt _ (by decide)
   ·exact hw j
theorem row_spec {T:Nat→Nat→Nat} {x:Nat} {b w:Nat→Nat} {i:Nat} (hx:x<4294967296) (hb:∀k,b k<4294967296) (hw:∀k,w k<4294967296)
  (hT:∀c k,c<4294967296→T c k=c+x*b k+w (i+k)):
  valU (i+(8+1)) 0 (rowW T w i)=valU (i+8) 0 w+4294967296^i*(x*valU 8 0 b):=by
 refine row_sum (d:=fun k=>T (rowC T k) k%4294967296) (c:=rowC T 8) 8 ?_ ?_ ?_ (rowC_sum hx hb hw hT 8)
 ·intro j hj
  unfold rowW
  rw[blt_t hj]
 ·intro k hk
  unfold rowW
  rw[blt_f (show ¬k+i<i by omega),blt_t (show k+i<i+8 by omega),Nat.add_sub_cancel]
 ·unfold rowW
  rw[blt_f (show ¬i+8<i by omega),blt_f (show ¬i+8<i+8 by omega),show Nat.beq (i+8) (i+8)=true from Nat.beq_refl _]
  exact Nat.mod_eq_of_lt (rowC_lt hx hb hw hT 8)
def mulW (T:Nat→(Nat→Nat)→(Nat→Nat)→Nat→Nat→Nat→Nat) (a b:Nat→Nat):Nat→Nat→Nat
 |0=>fun _=>0
 |i+1=>rowW (T (a i) b (mulW T a b i) i) (mulW T a b i) i
theorem mulW_spec {T:Nat→(Nat→Nat)→(Nat→Nat)→Nat→Nat→Nat→Nat} {a b:Nat→Nat} (ha:∀k,a k<4294967296) (hb:∀k,b k<4294967296)
  (hT:∀x w i c k,x<4294967296→(∀k,w k<4294967296)→c<4294967296→T x b w i c k=c+x*b k+w (i+k)):
  ∀i,valU (i+8) 0 (mulW T a b i)=valU i 0 a*valU 8 0 b∧∀j,mulW T a b i j<4294967296
 |0=>⟨by simp only[mulW,valU_zero];simp[valU],fun j=>by simp[mulW]⟩
 |i+1=>by
  obtain ⟨h1,h2⟩:=mulW_spec ha hb hT i
  have:=row_spec (T:=T (a i) b (mulW T a b i) i) (i:=i) (ha i) hb h2 (fun c k hc=>hT _ _ _ _ _ (ha i) h2 hc)
  refine ⟨?_,rowW_lt h2⟩
  rw[show i+1+8=i+(8+1) by omega,show mulW T a b (i+1)=rowW (T (a i) b (mulW T a b i) i) (mulW T a b i) i from rfl,this,h1]
  generalize valU 8 0 b=B
  rw[valU_snoc,Nat.zero_add,Nat.add_mul,Nat.mul_assoc]
def TM92 (a:Nat→Nat) (i:Int):List AV:=slots 50 [(2,pV 0),(3,pV 1),(4,pV 2),(10,.val (C8 a)),(11,iV i)]
def zF:Nat→Nat:=fun _=>0
theorem run92_0 (a b w:Nat→Nat):runTo E0 1000 (E0.S 114) (bodyOf Tryz.prog 114 2) (TM92 a ((0:Nat):Int)) [bN a,bN b,bW w] [] (TM92 a ((0+1:Nat):Int)) 3=
  some ([],.normal,TM92 a ((0+1:Nat):Int),[bN a,bN b,bW (rowW (T92 (a 0) b w 0) w 0)]):=by kernel_rfl
theorem run92_1 (a b w:Nat→Nat):runTo E0 1000 (E0.S 114) (bodyOf Tryz.prog 114 2) (TM92 a ((1:Nat):Int)) [bN a,bN b,bW w] [] (TM92 a ((1+1:Nat):Int)) 3=
  some ([],.normal,TM92 a ((1+1:Nat):Int),[bN a,bN b,bW (rowW (T92 (a 1) b w 1) w 1)]):=by kernel_rfl
theorem run92_2 (a b w:Nat→Nat):runTo E0 1000 (E0.S 114) (bodyOf Tryz.prog 114 2) (TM92 a ((2:Nat):Int)) [bN a,bN b,bW w] [] (TM92 a ((2+1:Nat):Int)) 3=
  some ([],.normal,TM92 a ((2+1:Nat):Int),[bN a,bN b,bW (rowW (T92 (a 2) b w 2) w 2)]):=by kernel_rfl
theorem run92_3 (a b w:Nat→Nat):runTo E0 1000 (E0.S 114) (bodyOf Tryz.prog 114 2) (TM92 a ((3:Nat):Int)) [bN a,bN b,bW w] [] (TM92 a ((3+1:Nat):Int)) 3=
  some ([],.normal,TM92 a ((3+1:Nat):Int),[bN a,bN b,bW (rowW (T92 (a 3) b w 3) w 3)]):=by kernel_rfl
theorem run92_4 (a b w:Nat→Nat):runTo E0 1000 (E0.S 114) (bodyOf Tryz.prog 114 2) (TM92 a ((4:Nat):Int)) [bN a,bN b,bW w] [] (TM92 a ((4+1:Nat):Int)) 3=
  some ([],.normal,TM92 a ((4+1:Nat):Int),[bN a,bN b,bW (rowW (T92 (a 4) b w 4) w 4)]):=by kernel_rfl
theorem run92_5 (a b w:Nat→Nat):runTo E0 1000 (E0.S 114) (bodyOf Tryz.prog 114 2) (TM92 a ((5:Nat):Int)) [bN a,bN b,bW w] [] (TM92 a ((5+1:Nat):Int)) 3=
  some ([],.normal,TM92 a ((5+1:Nat):Int),[bN a,bN b,bW (rowW (T92 (a 5) b w 5) w 5)]):=by kernel_rfl
theorem run92_6 (a b w:Nat→Nat):runTo E0 1000 (E0.S 114) (bodyOf Tryz.prog 114 2) (TM92 a ((6:Nat):Int)) [bN a,bN b,bW w] [] (TM92 a ((6+1:Nat):Int)) 3=
  some ([],.normal,TM92 a ((6+1:Nat):Int),[bN a,bN b,bW (rowW (T92 (a 6) b w 6) w 6)]):=by kernel_rfl
theorem run92_7 (a b w:Nat→Nat):runTo E0 1000 (E0.S 114) (bodyOf Tryz.prog 114 2) (TM92 a ((7:Nat):Int)) [bN a,bN b,bW w] [] (TM92 a ((7+1:Nat):Int)) 3=
  some ([],.normal,TM92 a ((7+1:Nat):Int),[bN a,bN b,bW (rowW (T92 (a 7) b w 7) w 7)]):=by kernel_rfl
theorem run92_8 (a b w:Nat→Nat):runTo E0 1000 (E0.S 114) (bodyOf Tryz.prog 114 2) (TM92 a ((8:Nat):Int)) [bN a,bN b,bW w] [] (TM92 a ((8:Nat):Int)) 3=
  some ([],.exit 0,TM92 a ((8:Nat):Int),[bN a,bN b,bW w]):=by kernel_rfl
theorem tTM92 (a:Nat→Nat) (i:Int):tmsWf 3 (TM92 a i)=true:=by kernel_rfl
theorem wfM92 (a b w:Nat→Nat) (i:Int):wfS (TM92 a i) [bN a,bN b,bW w]=true:=wfS_of (by simp[bN_free,bW_free]) (tTM92 a i)
theorem loop92 (a b:Nat→Nat):Goes Tryz.prog (.loop (bodyOf Tryz.prog 114 2)) (.exit 0) (TM92 a ((0:Nat):Int)) [bN a,bN b,bW zF] (TM92 a ((8:Nat):Int)) [bN a,bN b,bW (mulW T92 a b 8)]:=by
 refine loop_goes (N:=8) (k:=3) (T:=fun k=>TM92 a (k:Int)) (M:=fun k=>[bN a,bN b,bW (mulW T92 a b k)]) (by simp) (fun _ _=>rfl) (fun k hk=> ?_) ?_
 ·have:Runs E0 1000 (E0.S 114) (bodyOf Tryz.prog 114 2) .normal (TM92 a (k:Int)) [bN a,bN b,bW (mulW T92 a b k)] (TM92 a ((k+1:Nat):Int)) [bN a,bN b,bW (rowW (T92 (a k) b (mulW T92 a b k) k) (mulW T92 a b k) k)]:=by
   match k,hk with
   |0,_=>exact ⟨[],_,run92_0 a b _,trivial,wfM92 _ _ _ _⟩
   |1,_=>exact ⟨[],_,run92_1 a b _,trivial,wfM92 _ _ _ _⟩
   |2,_=>exact ⟨[],_,run92_2 a b _,trivial,wfM92 _ _ _ _⟩
   |3,_=>exact ⟨[],_,run92_3 a b _,trivial,wfM92 _ _ _ _⟩
   |4,_=>exact ⟨[],_,run92_4 a b _,trivial,wfM92 _ _ _ _⟩
   |5,_=>exact ⟨[],_,run92_5 a b _,trivial,wfM92 _ _ _ _⟩
   |6,_=>exact ⟨[],_,run92_6 a b _,trivial,wfM92 _ _ _ _⟩
   |7,_=>exact ⟨[],_,run92_7 a b _,trivial,wfM92 _ _ _ _⟩
  exact this.goes envE0
 ·exact Runs.goes envE0 ⟨[],_,run92_8 a b _,trivial,wfM92 _ _ _ _⟩
noncomputable def EM92 (a b:Nat→Nat):Env:=EL1 E0 2 (bodyOf Tryz.prog 114 2) (sumC (TM92 a ((0:Nat):Int)) [bN a,bN b,bW zF] (TM92 a ((8:Nat):Int)) [bN a,bN b,bW (mulW T92 a b 8)] (.exit 0))
theorem envEM92 (a b:Nat→Nat):EnvOK (EM92 a b):=envEL1 envE0 (sumC_ok (by simp only[List.length_cons]) (loop92 a b))
theorem run92 (a b:Nat→Nat):callR (EM92 a b) 1000 114 [C8 a,C8 b] []=some ([bodyOf Tryz.prog 114 2=bodyOf Tryz.prog 114 2,
  (TM92 a ((0:Nat):Int),[bN a,bN b,bW zF])=(TM92 a ((0:Nat):Int),[bN a,bN b,bW zF]),wfS (TM92 a ((0:Nat):Int)) [bN a,bN b,bW zF]=true],.val (C16 (mulW T92 a b 8))):=by kernel_rfl
theorem spec92 (a b:Nat) (ha:a<4294967296^8) (hb:b<4294967296^8):Spec 114 [N8 a,N8 b] (.val (N16 (a*b))):=by
 have h:=spec_run (envEM92 (limb a) (limb b)) rfl (run92 (limb a) (limb b)) ⟨rfl,rfl,wfM92 _ _ _ _,trivial⟩ rfl rfl
 obtain ⟨h1,h2⟩:=mulW_spec (T:=T92) (limb_lt a) (limb_lt b) (fun x w i c k hx hw hc=>(T_eq hx (limb_lt b k) (hw (i+k)) hc).1) 8
 rw[valU_num a 8 ha,valU_num b 8 hb] at h1
 exact h.congr (fun φ=>by simp only[List.map_cons,List.map_nil,conc_C8]) (fun φ=>conc_C16v φ (fun i _=>h2 i) h1)
end Go.Ev
