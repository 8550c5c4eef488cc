/- An evaluator of the model's code with values known in part, and its soundness -/
import Derived.Test.YtjiiaeljpllahaaGreatPartA
import Derived.ProofKit
import Derived.Deep.Slices
import Derived.OpenShut
namespace Go.Ev
open Go Go.RowKit
structure Row where
 dst:Option Tmp
 look:List Tmp
 v:AV
 wr:Option (Nat×Blk)
 rd:List Nat
def rA:List Operand→List Tmp
 |[]=>[]
 | .tmp t::xs=>t::rA xs
 |_::xs=>rA xs
def nV (ops:List Oper) (o:Oper):List Tmp:=
 match o.guard with
 |some (g,_)=>match ops[g]? with
  |some q=>match q.dst with
   |some d=>d::rA o.op.operands.toList
   |none=>rA o.op.operands.toList
  |none=>rA o.op.operands.toList
 |none=>rA o.op.operands.toList
def bf (x:Nat):List Nat→Bool
 |[]=>false
 |y::ys=>Nat.beq x y||bf x ys
abbrev DR:=Option (List Prop×List Bool×AV×Option (Nat×Blk)×List Nat)
def tE (s:Bool×Bool) (c:List Bool) (ob:List Prop) (v:AV) (wr:Option (Nat×Blk)) (rd:List Nat):DR:=
 match md s c ob v [] with
 |some (ob,c',v,_)=>some (ob,c',v,wr,rd)
 |none=>none
def Rb:Op→Bool
 | .move _| .assign _| .pick .. | .build .. | .nilCheck _| .binOp .. | .unOp .. | .convert .. | .fieldAddr .. | .field .. | .indexAddr .. | .index .. | .extract .. | .slice .. =>true
 | .call cl=>match cl.callee with
  | .builtin .len=>true
  | .builtin .min=>true
  | .builtin .max=>true
  |_=>false
 |_=>false
def Ao (look:List Tmp) (tm:List AV):Operand→Option AV
 | .tmp t=>match bf t look with
  |true=>unJ (tm[t]?)
  |false=>none
 |x=>uc tm x
def mU:List Blk→List Blk
 |[]=>[]
 |_::bs=>⟨[],0,false,false,0⟩::mU bs
abbrev QF:=(FuncId→List V1→Option (List Prop×AV))×(FuncId→List V1→List (Option Blk)→Option (List Prop×AV))
def EB (mem:List Blk):V1→Option Blk
 | .one (.sl b _ _ _)=>match mem[b]? with
  |some k=>match k.live with
   |true=>some k
   |false=>none
  |none=>none
 | .one (.sx b _)=>match mem[b]? with
  |some k=>match k.live with
   |true=>some k
   |false=>none
  |none=>none
 |_=>none
def jF (mem:List Blk):List V1→List (Option Blk)
 |[]=>[]
 |v::vs=>EB mem v::jF mem vs
def mK:List V1→List Nat
 |[]=>[]
 | .one (.sl b _ _ _)::vs=>b::mK vs
 | .one (.sx b _)::vs=>b::mK vs
 |_::vs=>mK vs
def I0 (P:Program) (t:TypeId) (x y:Option V1):Option (List Piece×TypeId×Nat×Nat):=
 match P.underlying t,x,y with
 |some (.slice e),some (.one (.i l)),some (.one (.i c))=>match P.info? e,kd P e with
  |some i,some z=>match Nat.beq (fk z) i.size&&Nat.blt 0 i.size&&(decide (0≤l∧l≤c∧(i.bytes:Int)*c≤140737488355328∧c≤140737488355328)) with
   |true=>some (mP c.toNat z,e,l.toNat,c.toNat)
   |false=>none
  |_,_=>none
 |_,_,_=>none
def ta (P:Program) (qf:QF) (S:Nat→Bool) (ops:List Oper) (tm:List AV) (mem:List Blk) (c:List Bool) (hole:Nat) (o:Oper):DR:=
 match xn ops tm o with
 |none=>none
 |some false=>some ([],c,Ry,none,[])
 |some true=>
  match XC S o with
  |true=>match vw P (fun f vs=>match qf.1 f vs with|some (_,.val v)=>some v|_=>none) mem (Ao (nV ops o) tm) o.op with
   |some (ob,v,b,nb)=>some (ob,c,.val v,nb.map fun k=>(b,k),[b])
   |none=>none
  |false=>
  let s:=match o.dst with
   |some d=>(S d,S (d+1000000))
   |none=>(false,false)
  let ρ:=Ao (nV ops o) tm
  match Rb o.op with
  |true=>match ru P s.1 ρ (mU mem) o.op with
   |some (ob,v,_)=>match v.wf mem.length with
    |true=>tE s c ob v none []
    |false=>none
   |none=>none
  |false=>match o.op with
   | .alloc e=>match kd P e with
    |some ps=>match aI (fun _=>false) ps with
     |true=>match mem[hole]? with
      |some k=>match k.live with
       |false=>some ([],c,.val (.one (.ptr hole 0)),some (hole,⟨ps,e,true,false,0⟩),[hole])
       |true=>none
      |none=>none
     |false=>none
    |none=>none
   | .box e x=>match gv (ρ x) with
    |some v=>match v.pieces with
     |some ps=>match aI (mh mem.length) ps with
      |true=>match mem[hole]? with
       |some k=>match k.live with
        |false=>some ([],c,.val (.one (.ptr hole 0)),some (hole,⟨ps,e,true,false,0⟩),[hole])
        |true=>none
       |none=>none
      |false=>none
     |none=>none
    |none=>none
   | .buildSlice t len parts=>match qd ρ parts.toList with
    |some vs=>match qr P t len vs with
     |some (ps,e)=>match aI (fun _=>false) ps with
      |true=>match mem[hole]? with
       |some k=>match k.live with
        |false=>some ([],c,.val (.one (.sl hole 0 len len)),some (hole,⟨ps,e,true,false,0⟩),[hole])
        |true=>none
       |none=>none
      |false=>none
     |none=>none
    |none=>none
   | .load t x=>match gv (ρ x) with
    |some (.one (.ptr b off))=>match o9 P mem t (.one (.ptr b off)) with
     |some (ob,v,_)=>tE s c ob v none [b]
     |none=>none
    |_=>none
   | .store t x y=>match gv (ρ x),gv (ρ y) with
    |some (.one (.ptr b off)),some v=>match qe P mem t (.one (.ptr b off)) v with
     |some (ob,u,mem')=>match mem'[b]? with
      |some k=>some (ob,c,u,some (b,k),[b])
      |none=>none
     |none=>none
    |_,_=>none
   | .call cl=>match cl.callee with
    | .value x=>match Lj (ρ x),gW ρ cl.args.toList with
     |some f,some vs=>match zQ P f with
      |true=>match qf.1 f vs with
       |some (ob,r)=>match r.wf 0 with
        |true=>tE s c ob r none []
        |false=>none
       |none=>match qf.2 f vs (jF mem vs) with
        |some (ob,r)=>match r.wf 0 with
         |true=>tE s c ob r none (mK vs)
         |false=>none
        |none=>none
      |false=>none
     |_,_=>none
    | .builtin .copy=>match gW ρ cl.args.toList,cl.argTypes[0]? with
     |some [.one (.sl b off n cp),.one (.sl b' off' n' cp')],some t=>match vB P mem t (.one (.sl b off n cp)) (.one (.sl b' off' n' cp')) with
      |some (ob,u,mem')=>match mem'[b]? with
       |some k=>some (ob,c,u,some (b,k),[b,b'])
       |none=>none
      |none=>none
     |_,_=>none
    | .builtin .append=>match gW ρ cl.args.toList,cl.argTypes[0]?,cl.argTypes[1]?,cl.argTypes[2]? with
     |some [.one (.sl b off n cp),.one (.sl b' off' n' cp')],some t,some t',none=>match Nat.beq t t' with
      |true=>match jM P mem t (.one (.sl b off n cp)) (.one (.sl b' off' n' cp')) with
       |some (ob,.val (.one (.sx _ len)),mem')=>match mem'[mem.length]?,mem[hole]? with
        |some k,some d=>match aI (fun _=>false) k.ps,d.live with
         |true,false=>some (ob,c,.val (.one (.sx hole len)),some (hole,k),[hole,b,b'])
         |_,_=>none
        |_,_=>none
       |_=>none
      |false=>none
     |_,_,_,_=>none
    |_=>none
   | .makeSlice t x y=>match I0 P t (gv (ρ x)) (gv (ρ y)) with
    |some (ps,e,ln,cp)=>match aI (fun _=>false) ps with
     |true=>match mem[hole]? with
      |some k=>match k.live with
       |false=>some ([],c,.val (.one (.sl hole 0 ln cp)),some (hole,⟨ps,e,true,false,0⟩),[hole])
       |true=>none
      |none=>none
     |false=>none
    |none=>none
   |_=>none
def Le:Op→Bool
 | .alloc _| .box _ _| .buildSlice _ _ _| .makeSlice _ _ _=>true
 | .call cl=>match cl.callee with
  | .builtin .append=>true
  |_=>false
 |_=>false
def v6 (mem:List Blk):Option (Nat×Blk)→List Blk
 |none=>mem
 |some (b,k)=>mem.set b k
def ac3 {β:Type} (tm:List AV) (d:Option Tmp) (v:AV) (k:List AV→β):β:=
 match d with
 |some d=>G6 tm d v k
 |none=>k tm
def PF (P:Program) (qf:QF) (S:Nat→Bool) (ops:List Oper):List Oper→List AV→List Blk→List Bool→Nat→Option (List Prop×List Bool×List AV×List Blk×List Row)
 |[],tm,mem,c,_=>some ([],c,tm,mem,[])
 |o::rest,tm,mem,c,h=>match ta P qf S ops tm mem c h o with
  |some (ob,c',v,wr,rd)=>ac3 tm o.dst v fun tm'=>match PF P qf S ops rest tm' (v6 mem wr) c' (match Le o.op with|true=>h+1|false=>h) with
   |some (ob',c2,tm2,mem2,rows)=>some (ob++ob',c2,tm2,mem2,⟨o.dst,nV ops o,v,wr,rd⟩::rows)
   |none=>none
  |none=>none
def tn (acc:List Nat):List Edge→Nat
 |[]=>0
 |e::es=>match Region.binds .any e with
  |true=>(2^e.on|||acc.getD e.on 0)|||tn acc es
  |false=>tn acc es
def rU:List Oper→List Nat→List Nat
 |[],acc=>acc
 |o::os,acc=>rU os (acc++[tn acc o.after.toList])
def l9:Nat→List Oper→Bool
 |_,[]=>true
 |j,o::os=>(o.after.toList.all fun e=> !Region.binds .any e||Nat.blt e.on j)&&l9 (j+1) os
def DM (x:Option Nat) (l:List Nat):Bool:=
 match x with
 |some x=>bf x l
 |none=>false
def ku (x y:Option Nat):Bool:=
 match x,y with
 |some x,some y=>Nat.beq x y
 |_,_=>false
def Row.wb (r:Row):Option Nat:=
 match r.wr with
 |some (b,_)=>some b
 |none=>none
def tW (r q:Row):Bool:=
 DM r.dst q.look||DM q.dst r.look||ku r.dst q.dst||DM r.wb q.rd||DM q.wb r.rd||ku r.wb q.wb
def vj (q:Row) (p:Nat):Nat→List Row→Bool
 |_,[]=>true
 |i,r::rs=>(!tW r q||p.testBit i)&&vj q p (i+1) rs
def Ez (p j b:Nat):Nat→List Row→Bool
 |_,[]=>false
 |i,r::rs=>((Nat.beq i j||p.testBit i)&&ku r.wb (some b))||Ez p j b (i+1) rs
def AV.okP (f:Nat→Bool):AV→Bool
 | .val (.one (.ptr b _))=>f b
 | .val (.one (.sl b _ _ _))=>f b
 | .val (.one (.sx b _))=>f b
 | .val (.one _)=>true
 | .val (.agg ps)=>aI f ps
 | .tup xs=>xs.all fun
  | .one (.ptr b _)=>f b
  | .one (.sl b _ _ _)=>f b
  | .one (.sx b _)=>f b
  | .one _=>true
  | .agg ps=>aI f ps
 | .junk=>true
def Un (base total:Nat) (rows:List Row) (j p:Nat) (b:Nat):Bool:=
 Nat.blt b base||(Nat.blt b total&&Ez p j b 0 rows)
def aa2 (f:Nat→Bool):Option (Nat×Blk)→Bool
 |some (_,k)=>k.live&&aI f k.ps
 |none=>true
def zg (base total:Nat) (rows:List Row) (j p:Nat) (r:Row):Bool:=
 vj r p 0 (rows.take j)&&(r.v.okP (Un base total rows j p)&&aa2 (Un base total rows j p) r.wr)
def sj (base total:Nat) (rows:List Row):Nat→List Nat→List Row→Bool
 |_,_,[]=>true
 |j,p::ps,r::rs=>zg base total rows j p r&&sj base total rows (j+1) ps rs
 |_,[],_::_=>false
def Rh:Blk:=⟨[],0,false,false,0⟩
def lr:List Oper→List Blk
 |[]=>[]
 |o::os=>match Le o.op with
  |true=>Rh::lr os
  |false=>lr os
def ri:List Blk→Bool
 |[]=>true
 |b::bs=>b.live&&ri bs
def Lu (P:Program) (qf:QF) (S:Nat→Bool) (ops:List Oper) (tm:List AV) (mem:List Blk) (c:List Bool):Option (List Prop×List Bool×List AV×List Blk):=
 match PF P qf S ops ops tm (mem++lr ops) c mem.length with
 |some (ob,c',tm',mem',rows)=>match ri mem&&(l9 0 ops&&sj mem.length (mem++lr ops).length rows 0 (rU ops []) rows) with
  |true=>some (ob,c',tm',mem')
  |false=>none
 |none=>none
inductive Ex where
 |normal
 |exit (id:Nat)
 |ret
def Ex.to:Ex→Exit
 | .normal=> .normal
 | .exit id=> .exit id
 | .ret=> .ret
abbrev E7:=Option (List Prop×List Bool×Ex×List AV×List Blk)
structure Env where
 P:Program
 fn:FuncId→List V1→Option (List Prop×AV)
 fm:FuncId→List V1→List (Option Blk)→Option (List Prop×AV)
 lp:Nat→Option (Code×(List AV→List Blk→List Bool→E7))
 S:FuncId→Nat→Bool
 fb:FuncId→List V1→Option (List Prop×TypeId×List Piece×Nat)
def lid:Code→Nat
 | .region id _ _=>id
 | .seq a _=>lid a
 | .block _ c=>lid c
 | .loop c=>lid c
 | .cond _ a _=>lid a
 |_=>0
def BD (P:Program) (tm:List AV) (mem:List Blk):ResultVar→Option V1
 | .tmp t=>gv (tm[t]?)
 | .cell a t=>match gv (tm[a]?) with
  |some v=>match o9 P mem t v with
   |some (_,.val r,_)=>some r
   |_=>none
  |none=>none
def oI (P:Program) (tm:List AV) (mem:List Blk):List ResultVar→Option (List V1)
 |[]=>some []
 |r::rs=>match BD P tm mem r,oI P tm mem rs with
  |some v,some vs=>some (v::vs)
  |_,_=>none
def QZ (P:Program) (tm:List AV) (mem:List Blk) (rs:List ResultVar):Option AV:=
 match oI P tm mem rs with
 |some [v]=>some (.val v)
 |some vs=>some (.tup vs)
 |none=>none
def mE:Nat→List AV
 |0=>[]
 |n+1=>Ry::mE n
def Bp:List V1→List AV
 |[]=>[]
 |v::vs=> .val v::Bp vs
def ajE (S:Nat→Bool) (x:Code):Nat:=match S 9000000 with|true=>lid x+1000|false=>lid x
def ep (E:Env) (ev:(Nat→Bool)→Code→List AV→List Blk→List Bool→E7):CF:=fun f vs mem c=>
 match E.fn f vs with
 |some (ob,r)=>match r.wf 0 with
  |true=>some (ob,c,r,mem)
  |false=>none
 |none=>match E.fb f vs with
 |some (ob,e,ps,n)=>match aI (fun _=>false) ps with
  |true=>some (ob,c,.val (.one (.sx mem.length n)),mem++[⟨ps,e,true,false,0⟩])
  |false=>none
 |none=>match E.fm f vs (jF mem vs) with
 |some (ob,r)=>match r.wf 0 with
  |true=>some (ob,c,r,mem)
  |false=>none
 |none=>match E.P.funcs[f]? with
  |some fn=>match fn.body with
   |some code=>match ev (E.S f) code (Bp vs++mE (fn.ntmps-vs.length)) mem c with
    |some (_,_,.exit _,_,_)=>none
    |some (ob,c',_,tm',mem')=>match QZ E.P tm' mem' fn.results.toList with
     |some r=>match r.wf mem'.length with
      |true=>some (ob,c',r,mem')
      |false=>none
     |none=>none
    |none=>none
   |none=>none
  |none=>none
def dH (E:Env):Nat→(Nat→Bool)→Code→List AV→List Blk→List Bool→E7
 |0,_,_,_,_,_=>none
 |n+1,S,code,tm,mem,c=>
  match code with
  | .skip=>some ([],c,.normal,tm,mem)
  | .region _ ops draw=>match draw with
   |false=>match sK E.P (ep E (dH E n)) S ops.toList ops.toList tm mem c with
    |some (ob,c',tm',mem')=>some (ob,c',.normal,tm',mem')
    |none=>none
   |true=>match Lu E.P (E.fn,E.fm) S ops.toList tm mem c with
    |some (ob,c',tm',mem')=>some (ob,c',.normal,tm',mem')
    |none=>none
  | .seq x y=>match dH E n S x tm mem c with
   |some (ob,c',.normal,tm',mem')=>match dH E n S y tm' mem' c' with
    |some (ob',r)=>some (ob++ob',r)
    |none=>none
   |r=>r
  | .cond q x y=>match uc tm q with
   |some (.val (.one (.v (.bool true))))=>dH E n S x tm mem c
   |some (.val (.one (.v (.bool false))))=>dH E n S y tm mem c
   |_=>none
  | .block id x=>match dH E n S x tm mem c with
   |some (ob,c',.exit id',tm',mem')=>match Nat.beq id' id with
    |true=>some (ob,c',.normal,tm',mem')
    |false=>some (ob,c',.exit id',tm',mem')
   |r=>r
  | .loop x=>match E.lp (ajE S x) with
   |some (y,f)=>match f tm mem c with
    |some (ob,r)=>some ((x=y)::ob,r)
    |none=>none
   |none=>match dH E n S x tm mem c with
    |some (ob,c',.normal,tm',mem')=>match dH E n S (.loop x) tm' mem' c' with
     |some (ob',r)=>some (ob++ob',r)
     |none=>none
    |r=>r
  | .exit id=>some ([],c,.exit id,tm,mem)
  | .ret=>some ([],c,.ret,tm,mem)
  |_=>none
theorem Bt {α β:Type}:∀(l:List α) (n:Nat) (v:α) (k:List α→β),G6 l n v k=k (l.set n v)
 |[],n,v,k=>by simp[G6]
 |x::xs,0,v,k=>by simp[G6]
 |x::xs,n+1,v,k=>by simp[G6,Bt xs n v]
structure TmR (φ:c7) (tm:List AV) (ts:Array Value):Prop where
 size:ts.size=tm.length
 get:∀(t:Nat) (x:AV),tm[t]? =some x→x≠.junk→ts[t]? =some (x.conc φ)
theorem TmR.mk' {φ:c7} {tm:List AV} {ts:Array Value} (h:ts=(tm.map (AV.conc φ)).toArray):TmR φ tm ts:=
 ⟨by simp[h],fun t x ht _=>by simp[h,ht]⟩
theorem TmR.to {φ φ':c7} {tm:List AV} {ts:Array Value} (h:TmR φ tm ts) (hx:∀x∈tm,x.conc φ'=x.conc φ):TmR φ' tm ts:=
 ⟨h.size,fun t x ht hj=>by rw[hx x (List.mem_of_getElem? ht)];exact h.get t x ht hj⟩
theorem TmR.set {φ:c7} {tm:List AV} {ts:Array Value} (h:TmR φ tm ts) (d:Nat) (v:AV):TmR φ (tm.set d v) (ts.setIfInBounds d (v.conc φ)):=by
 refine ⟨by simp[h.size],?_⟩
 intro t x ht hj
 rw[List.getElem?_set] at ht
 rw[Array.getElem?_setIfInBounds,h.size]
 split at ht
 ·rename_i hd
  subst hd
  split at ht
  ·rename_i hlt
   simp only[Option.some.injEq] at ht;subst ht
   simp[hlt]
  ·simp at ht
 ·rename_i hd
  rw[if_neg hd]
  exact h.get t x ht hj
structure Rel (w0:World) (φ:c7) (tm:List AV) (mem:List Blk) (a:Act) (w:World):Prop where
 tmps:TmR φ tm a.tmps
 defs:a.defers=[]
 wft:∀x∈tm,x.wf mem.length=true
 mrel:MRel w0 φ mem w
section
variable {P:Program} {w0 w:World} {φ:c7} {mem:List Blk} {tm:List AV} {a:Act}
theorem fR (h:Rel w0 φ tm mem a w):qA φ (uc tm) a.eval:=by
 intro x u hu
 cases x with
 |tmp t=>
  simp only[uc] at hu
  obtain ⟨hu,hj⟩:=xe hu
  simp[Act.eval,h.tmps.get t u hu hj]
 |const v=>simp only[uc,Option.some.injEq] at hu;subst hu;simp[Act.eval,AV.conc,s5]
 |global g=>simp[uc] at hu
 |func f=>simp only[uc,Option.some.injEq] at hu;subst hu;rfl
theorem D0 (x:Value) (n:Nat):(V1.one (kq x)).wf n=true:=by
 unfold kq
 split<;>rfl
theorem JI (x:Value) (n:Nat):(nu x).wf n=true:=by
 unfold nu
 split
 ·rename_i cs
  simp only[V1.wf]
  have:∀l:List Value,aI (fun b=>Nat.blt b n) (l.map fun c=> .a (kq c))=true:=by
   intro l
   induction l with
   |nil=>rfl
   |cons c l ih=>
    simp only[List.map_cons]
    have hc:=D0 c n
    cases hv:kq c<;>simp[hv,V1.wf] at hc<;>simp[aI,ih,hc]
  exact this _
 ·exact D0 _ _
theorem acJ (h:Rel w0 φ tm mem a w):∀x u,uc tm x=some u→u.wf mem.length=true:=by
 intro x u hu
 cases x with
 |tmp t=>simp only[uc] at hu;exact h.wft u (List.mem_of_getElem? (xe hu).1)
 |const v=>simp only[uc,Option.some.injEq] at hu;subst hu;exact JI _ _
 |global g=>simp[uc] at hu
 |func f=>simp only[uc,Option.some.injEq] at hu;subst hu;rfl
theorem Rel.put {φ':c7} {mem':List Blk} {w':World} (h:Rel w0 φ tm mem a w) (d:Option Tmp) {v:AV} (ha:Agree mem.length φ φ') (hl:mem.length≤mem'.length)
  (hm:MRel w0 φ' mem' w') (hv:v.wf mem'.length=true):Rel w0 φ' (ik tm d v) mem' (a.put d (v.conc φ')) w':=by
 have hmap:TmR φ' tm a.tmps:=h.tmps.to fun x hx=>AV.conc_agree ha x (h.wft x hx)
 cases d with
 |none=>
  exact ⟨by rw[Act.put,ik];exact hmap,h.defs,fun x hx=>AV.wf_mono hl x (h.wft x hx),hm⟩
 |some d=>
  refine ⟨?_,h.defs,fun x hx=> ?_,hm⟩
  ·simp only[Act.put,ik]
   exact hmap.set d v
  ·simp only[ik] at hx
   rcases List.mem_or_eq_of_mem_set hx with hx|rfl
   ·exact AV.wf_mono hl x (h.wft x hx)
   ·exact hv
def Lm (P:Program) (cf:CF):Prop:=
 ∀f vs mem c ob c' r mem',cf f vs mem c=some (ob,c',r,mem')→cL ob→∀w0 φ w,MRel w0 φ mem w→(∀v∈vs,v.wf mem.length=true)→
  Calls P f (vs.map (V1.conc φ)).toArray w fun e w'=>∃φ',e= .returned (r.conc φ')∧Agree mem.length φ φ'∧mem.length≤mem'.length∧MRel w0 φ' mem' w'∧r.wf mem'.length=true
theorem CS {ρ:Operand→Option AV} {n:Nat} (h:∀x u,ρ x=some u→u.wf n=true):∀(xs:List Operand) {vs:List V1},gW ρ xs=some vs→∀v∈vs,v.wf n=true
 |[],vs,hv=>by simp only[gW,Option.some.injEq] at hv;subst hv;simp
 |x::xs,vs,hv=>by
  simp only[gW] at hv
  split at hv
  ·rename_i v vs' hx hxs
   simp only[Option.some.injEq] at hv;subst hv
   intro u hu
   rcases List.mem_cons.1 hu with rfl|hu
   ·exact h x _ hx
   ·exact CS h xs hxs u hu
  ·simp at hv
theorem mB {s:Bool×Bool} {c c':List Bool} {ob ob':List Prop} {v v':AV} {mem mem':List Blk} (h:md s c ob v mem=some (ob',c',v',mem')) (ho:cL ob'):v'=v∧mem'=mem∧cL ob:=by
 unfold md at h
 split at h
 ·split at h
  ·simp only[Option.some.injEq,Prod.mk.injEq] at h
   obtain ⟨rfl,rfl,rfl,rfl⟩:=h
   exact ⟨by rw[ho.1],rfl,ho.2⟩
  ·simp at h
 unfold Dp at h
 split at h
 ·split at h
  ·simp only[Option.some.injEq,Prod.mk.injEq] at h
   obtain ⟨rfl,rfl,rfl,rfl⟩:=h
   exact ⟨by rw[ho.1],rfl,ho.2⟩
  ·simp at h
 ·simp only[Option.some.injEq,Prod.mk.injEq] at h
  obtain ⟨rfl,rfl,rfl,rfl⟩:=h
  exact ⟨rfl,rfl,ho⟩
theorem pR {f:FuncId} (h:zQ P f=true) (args:Array Value) (w:World):(callFunc f args).run P w= .ok (.enter f args) w:=by
 unfold zQ at h
 split at h
 ·rename_i fn hf
  simp only[Bool.and_eq_true,Bool.not_eq_true'] at h
  have hb:fn.body.isNone=false:=by cases hfb:fn.body<;>simp[hfb] at h ⊢
  simp only[callFunc,Sem.run_bind,run_program,Result.andThen_ok,hf,h.1,hb,Bool.false_eq_true,if_false,Sem.run_pure]
 ·simp at h
theorem pY {ρ:Operand→Option AV} {a:Operand→Value} (h:qA φ ρ a) {x:Operand} {f:FuncId} (hf:Lj (ρ x)=some f):a x= .func (.func f) #[] #[]:=by
 unfold Lj at hf
 split at hf
 ·rename_i g p q hg
  split at hf
  ·rename_i hp hq
   simp only[Option.some.injEq] at hf
   subst hf
   have hp':p= #[]:=Array.toList_eq_nil_iff.1 hp
   have hq':q= #[]:=Array.toList_eq_nil_iff.1 hq
   rw[h x _ hg,hp',hq'];rfl
  ·simp at hf
 ·simp at hf
theorem lL {o:Oper} {v:AV} {mem':List Blk} {K:Act→World→Prop} {Q:Exit→Act→World→Prop} (h:dn w0 φ mem ((execOp a.eval o).run P w) v mem')
  (hK:∀φ' w',Agree mem.length φ φ'→mem.length≤mem'.length→MRel w0 φ' mem' w'→v.wf mem'.length=true→K (a.put o.dst (v.conc φ')) w'):o.wp P a w K Q:=by
 obtain ⟨φ',w',hr,ha,hl,hm,hv⟩:=h
 unfold Oper.wp
 rcases hr with hr|⟨hr,hu⟩
 ·rw[hr];exact hK φ' w' ha hl hm hv
 ·rw[hr]
  have:=hK φ' w' ha hl hm hv
  rw[hu] at this
  exact this
theorem Ee {cf:CF} {S:Nat→Bool} {c c':List Bool} {o:Oper} {ob:List Prop} {v:AV} {mem':List Blk} {ρ:Operand→Option AV} (hcf:Lm P cf)
  (h:O' P cf S ρ mem c o=some (ob,c',v,mem')) (ho:cL ob) (hm:MRel w0 φ mem w) (ht:qA φ ρ a.eval) (hw:∀x u,ρ x=some u→u.wf mem.length=true)
  {K:Act→World→Prop} {Q:Exit→Act→World→Prop}
  (hK:∀φ' w',Agree mem.length φ φ'→mem.length≤mem'.length→MRel w0 φ' mem' w'→v.wf mem'.length=true→K (a.put o.dst (v.conc φ')) w'):o.wp P a w K Q:=by
 have main:∀s:Bool×Bool,(match ru P s.1 ρ mem o.op with|some (ob,v,mem')=>md s c ob v mem'|none=>none)=some (ob,c',v,mem')→o.wp P a w K Q:=by
  intro s h
  split at h
  ·rename_i ob1 v1 mem1 hop
   obtain ⟨rfl,rfl,ho1⟩:=mB h ho
   exact lL (yn hop ho1 hm ht) hK
  ·simp at h
 unfold O' at h
 split at h
 ·split at h
  ·rename_i ob1 v1 b nb hrow
   simp only[Option.some.injEq,Prod.mk.injEq] at h
   obtain ⟨rfl,rfl,rfl,rfl⟩:=h
   obtain ⟨w',hrun,hm',hwf⟩:=yt (a:=a.eval) hrow ho hm (fun x u hx=>bF ht hx)
   have hl:mem.length≤(apB mem b nb).length:=by cases nb<;>simp[apB]
   exact lL (v:= .val v1) ⟨φ,w',hrun,Agree.refl _ _,hl,hm',AV.wf_mono (Nat.zero_le _) (.val v1) hwf⟩ hK
  ·split at h
   ·rename_i ob1 v1 mem1 hnew
    simp only[Option.some.injEq,Prod.mk.injEq] at h
    obtain ⟨rfl,rfl,rfl,rfl⟩:=h
    exact lL (Ew hnew ho hm (fun x u hx=>bF ht hx)) hK
   ·simp at h
 simp only at h
 split at h
 ·rename_i cl hop
  split at h
  ·rename_i x hcl
   split at h
   case h_2=>simp at h
   rename_i f vs hfn hvs
   split at h
   ·rename_i hok
    split at h
    ·rename_i ob1 c1 v1 mem1 hcall
     obtain ⟨rfl,rfl,ho1⟩:=mB h ho
     have hc:=hcf _ _ _ _ _ _ _ _ hcall ho1 w0 φ w hm (CS hw _ hvs)
     have hargs:cl.args.map a.eval=(vs.map (V1.conc φ)).toArray:=by
      apply Array.ext'
      rw[Array.toList_map,dA ht _ hvs]
     have hrun:(execOp a.eval o).run P w= .ok (.enter f (vs.map (V1.conc φ)).toArray) w:=by
      simp only[execOp,hop,Sem.run_bind,resolve,hcl,pY ht hfn,Deferred.ofValue,Sem.run_pure,Result.andThen_ok,invoke]
      rw[hargs]
      simp only[Array.empty_append,Array.append_empty]
      exact pR hok _ w
     unfold Oper.wp
     rw[hrun,Oper.upon_enter]
     refine hc.mono ?_
     rintro e w' ⟨φ',rfl,ha,hl,hm',hv⟩
     exact hK φ' w' ha hl hm' hv
    ·simp at h
   ·simp at h
  ·exact main _ h
 ·exact main _ h
theorem k7 {ops:Array Oper} {o:Oper} {b:Bool} (h:xn ops.toList tm o=some b) (ht:TmR φ tm a.tmps):Region.wanted o (yielded ops a.tmps)=b:=by
 unfold xn at h
 unfold Region.wanted
 split at h
 ·rename_i hg;simp only[Option.some.injEq] at h;subst h;simp[hg]
 ·rename_i j want hg
  simp only[hg]
  split at h
  ·rename_i g hgj
   have hgj':ops[j]? =some g:=by simpa using hgj
   split at h
   ·rename_i d hd
    split at h
    ·rename_i x hx
     simp only[Option.some.injEq] at h;subst h
     have:=ht.get _ _ hx (by simp)
     simp[yielded,hgj',hd,this,AV.conc,V1.conc,Atom.conc]
    ·rename_i x hx
     simp only[Option.some.injEq] at h;subst h
     have:=ht.get _ _ hx (by simp)
     simp[yielded,hgj',hd,this,AV.conc,V1.conc,Atom.conc]
    ·simp at h
   ·simp at h
  ·simp at h
theorem tC {cf:CF} {S:Nat→Bool} {ops:Array Oper} {c c':List Bool} {o:Oper} {ob:List Prop} {v:AV} {mem':List Blk} (hcf:Lm P cf)
  (h:Ep P cf S ops.toList tm mem c o=some (ob,c',v,mem')) (ho:cL ob) (hr:Rel w0 φ tm mem a w)
  {K:Act→World→Prop} {Q:Exit→Act→World→Prop} (hK:∀φ' w',Agree mem.length φ φ'→mem.length≤mem'.length→MRel w0 φ' mem' w'→v.wf mem'.length=true→K (a.put o.dst (v.conc φ')) w'):
  if Region.wanted o (yielded ops a.tmps) then o.wp P a w K Q∨(o.asks P a w∧LetsOut Q) else K (a.put o.dst undef) w:=by
 unfold Ep at h
 split at h
 ·rename_i hwa
  rw[k7 hwa hr.tmps,if_pos rfl]
  exact .inl (Ee hcf h ho hr.mrel (fR hr) (acJ hr) hK)
 ·rename_i hwa
  rw[k7 hwa hr.tmps]
  simp only[Option.some.injEq,Prod.mk.injEq] at h
  obtain ⟨rfl,rfl,rfl,rfl⟩:=h
  exact hK φ w (Agree.refl _ _) (Nat.le_refl _) hr.mrel rfl
 ·simp at h
theorem Ih {cf:CF} {S:Nat→Bool} {ops:List Oper} {o:Oper} {rest:List Oper} {c:List Bool}:
  sK P cf S ops (o::rest) tm mem c=match Ep P cf S ops tm mem c o with
   |some (ob,c',v,mem')=>match sK P cf S ops rest (ik tm o.dst v) mem' c' with
    |some (ob',r)=>some (ob++ob',r)
    |none=>none
   |none=>none:=by
 simp only[sK]
 cases h:Ep P cf S ops tm mem c o with
 |none=>rfl
 |some x=>
  obtain ⟨ob,c',v,mem'⟩:=x
  cases o.dst with
  |some d=>simp only[Bt,ik];cases sK P cf S ops rest (tm.set d v) mem' c'<;>rfl
  |none=>simp only[ik];cases sK P cf S ops rest tm mem' c'<;>rfl
theorem vp {cf:CF} {S:Nat→Bool} {ops:Array Oper} (hcf:Lm P cf) {Q:Exit→Act→World→Prop}:∀(l:List Oper) (k:Nat) (tm:List AV) (mem:List Blk) (c c':List Bool) (ob:List Prop) (tm':List AV) (mem':List Blk)
  (φ:c7) (a:Act) (w:World),(∀j,l[j]? =ops[k+j]?)→sK P cf S ops.toList l tm mem c=some (ob,c',tm',mem')→cL ob→Rel w0 φ tm mem a w→
  (∀φ' a' w',Agree mem.length φ φ'→mem.length≤mem'.length→Rel w0 φ' tm' mem' a' w'→Q .normal a' w')→wpOps P ops Q (List.range' k l.length) a w
 |[],k,tm,mem,c,c',ob,tm',mem',φ,a,w,_,h,_,hr,hQ=>by
  simp only[sK,Option.some.injEq,Prod.mk.injEq] at h
  obtain ⟨rfl,rfl,rfl,rfl⟩:=h
  exact hQ φ a w (Agree.refl _ _) (Nat.le_refl _) hr
 |o::rest,k,tm,mem,c,c',ob,tm',mem',φ,a,w,hl,h,ho,hr,hQ=>by
  rw[Ih] at h
  split at h
  ·rename_i ob1 c1 v mem1 il
   split at h
   ·rename_i ob2 r hrest
    simp only[Option.some.injEq,Prod.mk.injEq] at h
    obtain ⟨rfl,rfl⟩:=h
    rw[aY] at ho
    have hk:ops[k]? =some o:=by have:=hl 0;simpa using this.symm
    simp only[List.length_cons,List.range'_succ,wpOps,hk]
    refine tC hcf il ho.1 hr ?_
    intro φ' w' ha hlen hm hv
    refine vp hcf rest (k+1) _ _ _ _ _ _ _ φ' _ w' (fun j=>by have:=hl (j+1);simpa[Nat.add_assoc,Nat.add_comm 1 j] using this) hrest ho.2 (hr.put o.dst ha hlen hm hv) ?_
    intro φ2 a2 w2 ha2 hl2 hr2
    exact hQ φ2 a2 w2 (ha.trans hlen ha2) (Nat.le_trans hlen hl2) hr2
   ·simp at h
  ·simp at h
end
section
variable {P:Program} {w0 w:World} {φ:c7} {mem:List Blk} {tm:List AV} {a:Act}
def pa (P:Program) (code:Code) (f:List AV→List Blk→List Bool→E7):Prop:=
 ∀tm mem c ob c' ex tm' mem',f tm mem c=some (ob,c',ex,tm',mem')→cL ob→∀w0 φ a w,Rel w0 φ tm mem a w→∀Q:Exit→Act→World→Prop,
  (∀φ' a' w',Agree mem.length φ φ'→mem.length≤mem'.length→Rel w0 φ' tm' mem' a' w'→Q ex.to a' w')→code.wp P Q a w
def afU (P:Program) (f:FuncId) (vs:List V1) (e:TypeId) (ps:List Piece) (n:Nat):Prop:=
 ∀(φ:c7) (w:World),Calls P f (vs.map (V1.conc φ)).toArray w fun x w'=>∃b cap,x= .returned (.slice (some ⟨b,0,none⟩) n cap)∧Below w.heap.size w w'∧w.heap.size≤b∧oU w' (b,0,cap) (an φ ps) ⟨ps,e,true,false,0⟩
structure EnvOK (E:Env):Prop where
 mixed:E.P.follows .mixedOrders=true
 fns:∀f vs ob r,E.fn f vs=some (ob,r)→cL ob→∀φ w,Calls E.P f (vs.map (V1.conc φ)).toArray w fun e w'=>e= .returned (r.conc φ)∧Below w.heap.size w w'
 fms:∀f vs mem ob r,E.fm f vs (jF mem vs)=some (ob,r)→cL ob→∀w0 φ w,MRel w0 φ mem w→Calls E.P f (vs.map (V1.conc φ)).toArray w fun e w'=>e= .returned (r.conc φ)∧Below w.heap.size w w'
 lps:∀k y f,E.lp k=some (y,f)→pa E.P (.loop y) f
 fbs:∀f vs ob e ps n,E.fb f vs=some (ob,e,ps,n)→cL ob→afU E.P f vs e ps n
theorem H3 {n:Nat}:∀{vs:List V1},(∀v∈vs,v.wf n=true)→∀x∈Bp vs,x.wf n=true
 |[],_,x,hx=>by simp[Bp] at hx
 |v::vs,hw,x,hx=>by
  simp only[Bp,List.mem_cons] at hx
  rcases hx with rfl|hx
  ·exact hw v (by simp)
  ·exact H3 (fun u hu=>hw u (by simp[hu])) x hx
theorem u5:∀(n:Nat) (x:AV),x∈mE n→x=Ry
 |0,x,h=>by simp[mE] at h
 |n+1,x,h=>by
  simp only[mE,List.mem_cons] at h
  rcases h with h|h
  ·exact h
  ·exact u5 n x h
theorem Rel.mk' {fn:Func} {vs:List V1} (hm:MRel w0 φ mem w) (hw:∀v∈vs,v.wf mem.length=true):
  Rel w0 φ (Bp vs++mE (fn.ntmps-vs.length)) mem {tmps:=(vs.map (V1.conc φ)).toArray++Array.replicate (fn.ntmps-(vs.map (V1.conc φ)).toArray.size) undef,defers:=[]} w:=by
 have h1:∀n,(mE n).map (AV.conc φ)=List.replicate n undef:=by
  intro n;induction n with
  |zero=>rfl
  |succ n ih=>simp[mE,ih,List.replicate_succ];rfl
 have h2:∀vs:List V1,(Bp vs).map (AV.conc φ)=vs.map (V1.conc φ):=by
  intro vs;induction vs with
  |nil=>rfl
  |cons v vs ih=>simp[Bp,ih];rfl
 refine ⟨?_,rfl,?_,hm⟩
 ·apply TmR.mk'
  apply Array.ext'
  simp[h1,h2]
 ·intro x hx
  rcases List.mem_append.1 hx with hx|hx
  ·exact H3 hw x hx
  ·rw[u5 _ x hx];rfl
def vC (tmps:Array Value):ResultVar→Sem Value
 | .tmp t=>pure (tmps.getD t undef)
 | .cell b t=>do loadVar t (←asAddr (tmps.getD b undef))
theorem GO {r:ResultVar} {v:V1} (h:BD P tm mem r=some v) (hr:Rel w0 φ tm mem a w):(vC a.tmps r).run P w= .ok (v.conc φ) w:=by
 have hg:∀{t:Nat} {u:V1},gv (tm[t]?)=some u→a.tmps.getD t undef=u.conc φ:=by
  intro t u hu
  have:=bF (fR hr) (x:= .tmp t) (v:=u) (by
   rw[uc]
   cases h':tm[t]? with
   |none=>rw[h'] at hu;simp[gv] at hu
   |some y=>rw[h'] at hu;cases y<;>simp_all [gv,unJ])
  simpa[Act.eval] using this
 cases r with
 |tmp t=>
  simp only[BD] at h
  simp only[vC,hg h];rfl
 |cell b t=>
  simp only[BD] at h
  split at h
  ·rename_i u hu
   split at h
   ·rename_i ob r' m hl
    simp only[Option.some.injEq] at h;subst h
    simp only[vC,hg hu]
    unfold o9 at hl
    split at hl
    ·split at hl
     ·rename_i k hk
      split at hl
      ·rename_i v' hlv hv
       unfold good at hl
       split at hl
       ·simp only[Option.some.injEq,Prod.mk.injEq,AV.val.injEq] at hl
        obtain ⟨_,rfl,_⟩:=hl
        simp[V1.conc,Atom.conc,asAddr,nh hr.mrel hk hlv hv]
       ·simp at hl
      ·simp at hl
     ·simp at hl
    ·simp at hl
   ·simp at h
  ·simp at h
theorem tz:∀(rs:List ResultVar) {vs:List V1},oI P tm mem rs=some vs→Rel w0 φ tm mem a w→
  (rs.mapM (m:=Sem) (vC a.tmps)).run P w= .ok (vs.map (V1.conc φ)) w
 |[],vs,h,hr=>by simp only[oI,Option.some.injEq] at h;subst h;rfl
 |r::rs,vs,h,hr=>by
  simp only[oI] at h
  split at h
  ·rename_i v vs' hv hvs
   simp only[Option.some.injEq] at h;subst h
   simp only[List.mapM_cons,Sem.run_bind,GO hv hr,tz rs hvs hr,Result.andThen_ok,Sem.run_pure,List.map_cons]
  ·simp at h
theorem DQ {fn:Func} {r:AV} (h:QZ P tm mem fn.results.toList=some r) (hr:Rel w0 φ tm mem a w):(results fn a.tmps).run P w= .ok (r.conc φ) w:=by
 have key:∀{vs:List V1},oI P tm mem fn.results.toList=some vs→(results fn a.tmps).run P w= .ok (if h:(vs.map (V1.conc φ)).toArray.size=1 then (vs.map (V1.conc φ)).toArray[0] else .tuple (vs.map (V1.conc φ)).toArray) w:=by
  intro vs hv
  have:=tz _ hv hr
  have e:results fn a.tmps=(do let vs ←fn.results.mapM (vC a.tmps);pure (if h:vs.size=1 then vs[0] else .tuple vs)):=by
   unfold results
   congr 1
  rw[e,Array.mapM_eq_mapM_toList]
  simp only[Sem.run_bind,Sem.run_map,this,Result.andThen_ok,Sem.run_pure]
 unfold QZ at h
 split at h
 ·rename_i v hv
  simp only[Option.some.injEq] at h;subst h
  rw[key hv];rfl
 ·rename_i vs hne hv
  simp only[Option.some.injEq] at h;subst h
  rw[key hv]
  have:¬(vs.map (V1.conc φ)).toArray.size=1:=by
   intro he
   simp at he
   obtain ⟨v,rfl⟩:=List.length_eq_one_iff.1 he
   exact hne v rfl
  rw[dif_neg this];rfl
 ·simp at h
def VA (P:Program) (ev:(Nat→Bool)→Code→List AV→List Blk→List Bool→E7):Prop:=∀S code,pa P code (ev S code)
theorem kZ {f:Nat→Bool}:∀(ps:List Piece),aI (fun _=>false) ps=true→aI f ps=true
 |[],_=>rfl
 | .num k n::ps,h=>by simp only[aI] at h ⊢;exact kZ ps h
 | .arr k n::ps,h=>by simp only[aI] at h ⊢;exact kZ ps h
 | .a x::ps,h=>by cases x<;>simp only[aI,Bool.false_and,Bool.false_eq_true] at h ⊢ <;>exact kZ ps h
theorem jQ {E:Env} {ev:(Nat→Bool)→Code→List AV→List Blk→List Bool→E7} (hE:EnvOK E) (hev:VA E.P ev):Lm E.P (ep E ev):=by
 intro f vs mem c ob c' r mem' h ho w0 φ w hm hw
 unfold ep at h
 split at h
 ·rename_i ob1 r1 hf
  split at h
  ·rename_i hwf
   simp only[Option.some.injEq,Prod.mk.injEq] at h
   obtain ⟨rfl,rfl,rfl,rfl⟩:=h
   refine (hE.fns _ _ _ _ hf ho φ w).mono ?_
   rintro e w' ⟨rfl,hb⟩
   refine ⟨φ,rfl,Agree.refl _ _,Nat.le_refl _,?_,AV.wf_mono (Nat.zero_le _) _ hwf⟩
   exact hm.below_of hb
  ·simp at h
 ·split at h
  ·rename_i ob1 e1 ps1 n1 hf
   split at h
   ·rename_i hp
    simp only[Option.some.injEq,Prod.mk.injEq] at h
    obtain ⟨rfl,rfl,rfl,rfl⟩:=h
    refine (hE.fbs _ _ _ _ _ _ hf ho φ w).mono ?_
    rintro x w' ⟨b,cap,rfl,hb,hnew,hh⟩
    obtain ⟨φ',hag,hs,hm'⟩:=hm.join (hm.below.trans (hb.mono hm.below.size)) b cap (by have:=hm.below.size;omega) (fun i k hk hl hr=>by have:=hm.lt hk hl;omega) (fun k hk hlt=>hb.block _ hlt) ⟨ps1,e1,true,false,0⟩ rfl rfl (kZ ps1 hp) hh
    exact ⟨φ',by simp[AV.conc,V1.conc,Atom.conc,hs],hag,by simp,hm',by simp[AV.wf,V1.wf,Nat.blt]⟩
   ·simp at h
  split at h
  ·rename_i ob1 r1 hf
   split at h
   ·rename_i hwf
    simp only[Option.some.injEq,Prod.mk.injEq] at h
    obtain ⟨rfl,rfl,rfl,rfl⟩:=h
    refine (hE.fms _ _ _ _ _ hf ho w0 φ w hm).mono ?_
    rintro e w' ⟨rfl,hb⟩
    exact ⟨φ,rfl,Agree.refl _ _,Nat.le_refl _,hm.below_of hb,AV.wf_mono (Nat.zero_le _) _ hwf⟩
   ·simp at h
  split at h
  ·rename_i fn hfn
   split at h
   ·rename_i code hbody
    split at h
    ·simp at h
    ·rename_i ob1 c1 ex tm1 mem1 hex hcode
     split at h
     ·rename_i r1 hres
      split at h
      ·rename_i hrw
       simp only[Option.some.injEq,Prod.mk.injEq] at h
       obtain ⟨rfl,rfl,rfl,rfl⟩:=h
       refine calls_of_wp hfn hbody ?_
       refine hev _ _ _ _ _ _ _ _ _ _ hcode ho w0 φ _ w (Rel.mk' hm hw) _ ?_
       intro φ' a' w' ha hl hr
       have hpost:a'.defers=[]∧∃v,(results fn a'.tmps).run E.P w'= .ok v w'∧(∃φ'',Ending.returned v= .returned (r1.conc φ'')∧Agree mem.length φ φ''∧mem.length≤mem1.length∧MRel w0 φ'' mem1 w'∧r1.wf mem1.length=true):=
        ⟨hr.defs,_,DQ hres hr,φ',rfl,ha,hl,hr.mrel,hrw⟩
       cases ex with
       |normal=>exact hpost
       |ret=>exact hpost
       |exit id=>exact (hex _ rfl).elim
      ·simp at h
     ·simp at h
    ·simp at h
   ·simp at h
  ·simp at h
end
def Tx:List Row→(Nat→Bool)→Nat→List AV→List AV
 |[],_,_,tm=>tm
 |r::rs,X,k,tm=>Tx rs X (k+1) (if X k then ik tm r.dst r.v else tm)
def Mx:List Row→(Nat→Bool)→Nat→List Blk→List Blk
 |[],_,_,m=>m
 |r::rs,X,k,m=>Mx rs X (k+1) (if X k then v6 m r.wr else m)
theorem DK (tm:List AV) (d:Option Tmp) (v:AV):(ik tm d v).length=tm.length:=by cases d<;>simp[ik]
theorem pP (m:List Blk) (x:Option (Nat×Blk)):(v6 m x).length=m.length:=by cases x<;>simp[v6]
theorem oy (X:Nat→Bool):∀(rows:List Row) (k:Nat) (m:List Blk),(Mx rows X k m).length=m.length
 |[],_,_=>rfl
 |r::rs,k,m=>by simp only[Mx];rw[oy X rs];split<;>simp[pP]
theorem vN (X:Nat→Bool):∀(rows:List Row) (k:Nat) (tm:List AV),Tx rows X (k+1) tm=Tx rows (fun i=>X (i+1)) k tm
 |[],_,_=>rfl
 |r::rs,k,tm=>by simp only[Tx];rw[vN X rs]
theorem u9 (X:Nat→Bool):∀(rows:List Row) (k:Nat) (m:List Blk),Mx rows X (k+1) m=Mx rows (fun i=>X (i+1)) k m
 |[],_,_=>rfl
 |r::rs,k,m=>by simp only[Mx];rw[u9 X rs]
theorem zG:∀(rows:List Row) (X:Nat→Bool) (k:Nat) (tm:List AV),(∀i,k≤i→X i=false)→Tx rows X k tm=tm
 |[],_,_,_,_=>rfl
 |r::rs,X,k,tm,h=>by simp only[Tx,h k (Nat.le_refl _),Bool.false_eq_true,if_false];exact zG rs X _ _ fun i hi=>h i (by omega)
theorem zp:∀(rows:List Row) (X:Nat→Bool) (k:Nat) (m:List Blk),(∀i,k≤i→X i=false)→Mx rows X k m=m
 |[],_,_,_,_=>rfl
 |r::rs,X,k,m,h=>by simp only[Mx,h k (Nat.le_refl _),Bool.false_eq_true,if_false];exact zp rs X _ _ fun i hi=>h i (by omega)
theorem uT:∀(rows:List Row) (X Y:Nat→Bool) (k:Nat) (tm:List AV),(∀i,k≤i→i<k+rows.length→X i=Y i)→Tx rows X k tm=Tx rows Y k tm
 |[],_,_,_,_,_=>rfl
 |r::rs,X,Y,k,tm,h=>by
  simp only[List.length_cons] at h
  simp only[Tx,h k (Nat.le_refl _) (by omega)]
  exact uT rs X Y _ _ fun i h1 h2=>h i (by omega) (by omega)
theorem vT:∀(rows:List Row) (X Y:Nat→Bool) (k:Nat) (m:List Blk),(∀i,k≤i→i<k+rows.length→X i=Y i)→Mx rows X k m=Mx rows Y k m
 |[],_,_,_,_,_=>rfl
 |r::rs,X,Y,k,m,h=>by
  simp only[List.length_cons] at h
  simp only[Mx,h k (Nat.le_refl _) (by omega)]
  exact vT rs X Y _ _ fun i h1 h2=>h i (by omega) (by omega)
theorem JR (tm:List AV) (d d':Option Tmp) (v v':AV) (h:ku d d'=false):ik (ik tm d v) d' v'=ik (ik tm d' v') d v:=by
 cases d<;>cases d'<;>simp only[ik]
 rename_i d d'
 refine List.set_comm _ _ fun e=> ?_
 subst e;simp[ku] at h
def Je:Option (Nat×Blk)→Option Nat
 |some (b,_)=>some b
 |none=>none
theorem NY (m:List Blk) (x y:Option (Nat×Blk)) (h:ku (Je x) (Je y)=false):v6 (v6 m x) y=v6 (v6 m y) x:=by
 cases x<;>cases y<;>simp only[v6]
 rename_i x y
 obtain ⟨b,k⟩:=x
 obtain ⟨b',k'⟩:=y
 refine List.set_comm _ _ fun e=> ?_
 subst e;simp[Je,ku] at h
theorem HC:∀(rows:List Row) (X:Nat→Bool) (k:Nat) (tm:List AV) (d:Option Tmp) (v:AV),(∀i r,rows[i]? =some r→X (k+i)=true→ku d r.dst=false)→
  Tx rows X k (ik tm d v)=ik (Tx rows X k tm) d v
 |[],_,_,_,_,_,_=>rfl
 |r::rs,X,k,tm,d,v,h=>by
  simp only[Tx]
  have ih:=fun tm=>HC rs X (k+1) tm d v fun i q hq hX=>h (i+1) q (by simpa using hq) (by rwa[show k+(i+1)=k+1+i by omega])
  split
  ·rename_i hk
   rw[JR _ _ _ _ _ (h 0 r (by simp) (by simpa using hk)),ih]
  ·rw[ih]
theorem H':∀(rows:List Row) (X:Nat→Bool) (k:Nat) (m:List Blk) (x:Option (Nat×Blk)),(∀i r,rows[i]? =some r→X (k+i)=true→ku (Je x) (Je r.wr)=false)→
  Mx rows X k (v6 m x)=v6 (Mx rows X k m) x
 |[],_,_,_,_,_=>rfl
 |r::rs,X,k,m,x,h=>by
  simp only[Mx]
  have ih:=fun m=>H' rs X (k+1) m x fun i q hq hX=>h (i+1) q (by simpa using hq) (by rwa[show k+(i+1)=k+1+i by omega])
  split
  ·rename_i hk
   rw[NY _ _ _ (h 0 r (by simp) (by simpa using hk)),ih]
  ·rw[ih]
theorem zn:∀(rows:List Row) (X Y:Nat→Bool) (k j:Nat) (r:Row) (tm:List AV),rows[j]? =some r→X (k+j)=false→(∀i,Y i=(X i||decide (i=k+j)))→
  (∀i q,j<i→rows[i]? =some q→X (k+i)=true→ku r.dst q.dst=false)→Tx rows Y k tm=ik (Tx rows X k tm) r.dst r.v
 |[],_,_,_,_,_,_,h,_,_,_=>by simp at h
 |q::rs,X,Y,k,0,r,tm,h,hX,hY,hc=>by
  simp only[List.getElem?_cons_zero,Option.some.injEq] at h
  subst h
  simp only[Nat.add_zero] at hX hY
  have hYk:Y k=true:=by rw[hY];simp
  simp only[Tx,hYk,hX,if_true,Bool.false_eq_true,if_false]
  rw[uT rs Y X (k+1) _ fun i h1 _=>by rw[hY,decide_eq_false (by omega),Bool.or_false]]
  exact HC rs X (k+1) tm q.dst q.v fun i p hp hx=>hc (i+1) p (by omega) (by simpa using hp) (by rwa[show k+(i+1)=k+1+i by omega])
 |q::rs,X,Y,k,j+1,r,tm,h,hX,hY,hc=>by
  simp only[Tx]
  have hYk:Y k=X k:=by rw[hY,decide_eq_false (by omega),Bool.or_false]
  rw[hYk]
  exact zn rs X Y (k+1) j r _ (by simpa using h) (by rwa[show k+1+j=k+(j+1) by omega]) (fun i=>by rw[hY,show k+1+j=k+(j+1) by omega])
   (fun i p h1 h2 h3=>hc (i+1) p (by omega) (by simpa using h2) (by rwa[show k+(i+1)=k+1+i by omega]))
theorem yA:∀(rows:List Row) (X Y:Nat→Bool) (k j:Nat) (r:Row) (m:List Blk),rows[j]? =some r→X (k+j)=false→(∀i,Y i=(X i||decide (i=k+j)))→
  (∀i q,j<i→rows[i]? =some q→X (k+i)=true→ku (Je r.wr) (Je q.wr)=false)→Mx rows Y k m=v6 (Mx rows X k m) r.wr
 |[],_,_,_,_,_,_,h,_,_,_=>by simp at h
 |q::rs,X,Y,k,0,r,m,h,hX,hY,hc=>by
  simp only[List.getElem?_cons_zero,Option.some.injEq] at h
  subst h
  simp only[Nat.add_zero] at hX hY
  have hYk:Y k=true:=by rw[hY];simp
  simp only[Mx,hYk,hX,if_true,Bool.false_eq_true,if_false]
  rw[vT rs Y X (k+1) _ fun i h1 _=>by rw[hY,decide_eq_false (by omega),Bool.or_false]]
  exact H' rs X (k+1) m q.wr fun i p hp hx=>hc (i+1) p (by omega) (by simpa using hp) (by rwa[show k+(i+1)=k+1+i by omega])
 |q::rs,X,Y,k,j+1,r,m,h,hX,hY,hc=>by
  simp only[Mx]
  have hYk:Y k=X k:=by rw[hY,decide_eq_false (by omega),Bool.or_false]
  rw[hYk]
  exact yA rs X Y (k+1) j r _ (by simpa using h) (by rwa[show k+1+j=k+(j+1) by omega]) (fun i=>by rw[hY,show k+1+j=k+(j+1) by omega])
   (fun i p h1 h2 h3=>hc (i+1) p (by omega) (by simpa using h2) (by rwa[show k+(i+1)=k+1+i by omega]))
theorem Nx (tm tm':List AV) (d:Option Tmp) (v:AV) (t:Nat) (h:tm[t]? =tm'[t]?) (hl:tm.length=tm'.length):(ik tm d v)[t]? =(ik tm' d v)[t]? :=by
 cases d with
 |none=>exact h
 |some d=>simp only[ik,List.getElem?_set,hl,h]
theorem LU:∀(rows:List Row) (X Y:Nat→Bool) (k:Nat) (tm tm':List AV) (t:Nat),tm[t]? =tm'[t]? →tm.length=tm'.length→(∀i r,rows[i]? =some r→r.dst=some t→X (k+i)=Y (k+i))→
  (Tx rows X k tm)[t]? =(Tx rows Y k tm')[t]?
 |[],_,_,_,_,_,_,h,_,_=>h
 |r::rs,X,Y,k,tm,tm',t,h,hl,hc=>by
  simp only[Tx]
  refine LU rs X Y (k+1) _ _ t ?_ ?_ fun i q hq hd=>by have:=hc (i+1) q (by simpa using hq) hd;rwa[show k+1+i=k+(i+1) by omega]
  ·by_cases hd:r.dst=some t
   ·have:=hc 0 r (by simp) hd
    simp only[Nat.add_zero] at this
    rw[this]
    split
    ·exact Nx _ _ _ _ _ h hl
    ·exact h
   ·have hne:∀tm:List AV,(ik tm r.dst r.v)[t]? =tm[t]? :=by
     intro tm
     cases hr:r.dst with
     |none=>rfl
     |some d=>simp only[ik];rw[List.getElem?_set_ne (fun e=>hd (by rw[hr,e]))]
    split<;>split<;>simp[hne,h]
  ·split<;>split<;>simp[DK,hl]
theorem MX:∀(rows:List Row) (X Y:Nat→Bool) (k:Nat) (m m':List Blk) (b:Nat),m[b]? =m'[b]? →m.length=m'.length→(∀i r,rows[i]? =some r→Je r.wr=some b→X (k+i)=Y (k+i))→
  (Mx rows X k m)[b]? =(Mx rows Y k m')[b]?
 |[],_,_,_,_,_,_,h,_,_=>h
 |r::rs,X,Y,k,m,m',b,h,hl,hc=>by
  simp only[Mx]
  refine MX rs X Y (k+1) _ _ b ?_ ?_ fun i q hq hd=>by have:=hc (i+1) q (by simpa using hq) hd;rwa[show k+1+i=k+(i+1) by omega]
  ·by_cases hd:Je r.wr=some b
   ·have:=hc 0 r (by simp) hd
    simp only[Nat.add_zero] at this
    rw[this]
    split
    ·cases hr:r.wr with
     |none=>exact h
     |some x=>simp only[v6,List.getElem?_set,hl,h]
    ·exact h
   ·have hne:∀m:List Blk,(v6 m r.wr)[b]? =m[b]? :=by
     intro m
     cases hr:r.wr with
     |none=>rfl
     |some x=>simp only[v6];rw[List.getElem?_set_ne (fun e=>hd (by rw[hr,Je,e]))]
    split<;>split<;>simp[hne,h]
  ·split<;>split<;>simp[pP,hl]
section
variable {P:Program}
theorem j0:∀{x:Nat} {l:List Nat},bf x l=true↔x∈l
 |x,[]=>by simp[bf]
 |x,y::ys=>by simp only[bf,Bool.or_eq_true,Nat.beq_eq,j0 (l:=ys),List.mem_cons]
theorem FO {look:List Tmp} {tm tm':List AV} (h:∀t∈look,tm[t]? =tm'[t]?):Ao look tm=Ao look tm':=by
 funext x
 cases x with
 |tmp t=>
  simp only[Ao]
  split
  ·rename_i ht;rw[h t (j0.1 ht)]
  ·rfl
 |_=>rfl
theorem CZ {look:List Tmp} {tm:List AV} {x:Operand} {u:AV} (h:Ao look tm x=some u):uc tm x=some u:=by
 cases x with
 |tmp t=>
  simp only[Ao] at h
  split at h
  ·exact h
  ·simp at h
 |_=>exact h
theorem tq:∀{m m':List Blk},m.length=m'.length→mU m=mU m'
 |[],[],_=>rfl
 |[],_::_,h=>by simp at h
 |_::_,[],h=>by simp at h
 |x::m,y::m',h=>by simp only[mU,tq (m:=m) (m':=m') (by simpa using h)]
theorem qo:∀(m:List Blk),(mU m).length=m.length
 |[]=>rfl
 |x::m=>by simp[mU,qo m]
theorem iH:∀(m:List Blk) (i:Nat) (b:Blk),(mU m)[i]? =some b→b.live=false∧b.ps=[]
 |[],i,b,h=>by simp[mU] at h
 |x::m,0,b,h=>by simp only[mU,List.getElem?_cons_zero,Option.some.injEq] at h;subst h;exact ⟨rfl,rfl⟩
 |x::m,i+1,b,h=>iH m i b (by simpa[mU] using h)
theorem C2 {ops:List Oper} {o:Oper} {tm tm':List AV} (h:∀t∈nV ops o,tm[t]? =tm'[t]?):xn ops tm o=xn ops tm' o:=by
 unfold xn
 cases hg:o.guard with
 |none=>rfl
 |some g=>
  obtain ⟨j,want⟩:=g
  simp only
  cases hj:ops[j]? with
  |none=>rfl
  |some q=>
   simp only
   cases hd:q.dst with
   |none=>rfl
   |some d=>
    have:d∈nV ops o:=by simp[nV,hg,hj,hd]
    simp only[h d this]
theorem Dx {m m':List Blk} {t:TypeId} {b off:Nat} (hl:m.length=m'.length) (hb:m[b]? =m'[b]?) {ob:List Prop} {v:AV} {x:List Blk} (h:o9 P m t (.one (.ptr b off))=some (ob,v,x)):
  o9 P m' t (.one (.ptr b off))=some (ob,v,m'):=by
 simp only[o9] at h ⊢
 rw[←hb]
 split at h
 ·split at h
  ·try simp only[*]
   unfold good at h ⊢
   rw[←hl]
   split at h
   ·rename_i hw
    simp only[Option.some.injEq,Prod.mk.injEq] at h
    obtain ⟨rfl,rfl,rfl⟩:=h
    simp
   ·simp at h
  ·simp at h
 ·simp at h
theorem qZ {m m':List Blk} {t:TypeId} {b off:Nat} {y:V1} (hl:m.length=m'.length) (hb:m[b]? =m'[b]?) {ob:List Prop} {v:AV} {x:List Blk} (h:qe P m t (.one (.ptr b off)) y=some (ob,v,x)):
  ∃k,x=m.set b k∧x[b]? =some k∧k.live=true∧qe P m' t (.one (.ptr b off)) y=some (ob,v,m'.set b k):=by
 simp only[qe] at h ⊢
 rw[←hb]
 split at h
 ·rename_i ps n k hps hn hk
  have hbl:=aM hk
  split at h
  ·rename_i hc
   try simp only[hps,hn,hk,hc]
   unfold k8 at h ⊢
   rw[←hl]
   split at h
   ·rename_i qs hq
    split at h
    ·rename_i hp
     simp only[Option.some.injEq,Prod.mk.injEq] at h
     obtain ⟨rfl,rfl,rfl⟩:=h
     refine ⟨_,rfl,?_,?_,by simp⟩
     ·rw[List.getElem?_set_self hbl]
     ·simp only[Bool.and_eq_true] at hc;exact hc.1
    ·simp at h
   ·simp at h
  ·simp at h
 ·simp at h
theorem tw {m m':List Blk} {t:TypeId} {b off n cp b' off' n' cp':Nat} (hl:m.length=m'.length) (hb:m[b]? =m'[b]?) (hb':m[b']? =m'[b']?) {ob:List Prop} {v:AV} {x:List Blk}
  (h:vB P m t (.one (.sl b off n cp)) (.one (.sl b' off' n' cp'))=some (ob,v,x)):
  ∃k,x=m.set b k∧x[b]? =some k∧k.live=true∧vB P m' t (.one (.sl b off n cp)) (.one (.sl b' off' n' cp'))=some (ob,v,m'.set b k):=by
 unfold vB at h ⊢
 split at h
 ·rename_i b1 off1 n1 c1 b2 off2 n2 c2 e e1 e2 hu
  simp only[V1.one.injEq,Atom.sl.injEq] at e1 e2
  obtain ⟨rfl,rfl,rfl,rfl⟩:=e1
  obtain ⟨rfl,rfl,rfl,rfl⟩:=e2
  split at h
  ·rename_i sz k k' hn hk hk'
   have hbl:=aM hk
   have hk2:=hb.symm.trans hk
   have hk2':=hb'.symm.trans hk'
   split at h
   ·rename_i ps hc hlo
    unfold k8 at h
    split at h
    ·rename_i qs hq
     split at h
     ·rename_i hp
      simp only[Option.some.injEq,Prod.mk.injEq] at h
      obtain ⟨rfl,rfl,rfl⟩:=h
      refine ⟨_,rfl,?_,?_,?_⟩
      ·rw[List.getElem?_set_self hbl]
      ·simp only[Bool.and_eq_true] at hlo;exact hlo.1
      ·rw[hl] at hp
       simp only[hn,hk2,hk2',hc,hlo,k8,hq,hp]
     ·simp at h
    ·simp at h
   ·simp at h
  ·simp at h
 ·simp at h
theorem wo {m m':List Blk}:∀{vs:List V1},(∀b∈mK vs,m[b]? =m'[b]?)→jF m vs=jF m' vs
 |[],_=>rfl
 |v::vs,h=>by
  have ih:=fun h'=>wo (m:=m) (m':=m') (vs:=vs) h'
  unfold jF
  cases v with
  |agg ps=>rw[ih (fun b hb=>h b (by simpa[mK] using hb))];rfl
  |one x=>
   cases x with
   |sl b off n cp=>
    rw[ih (fun b' hb=>h b' (by simp[mK,hb]))]
    simp only[EB,h b (by simp[mK])]
   |sx b n=>
    rw[ih (fun b' hb=>h b' (by simp[mK,hb]))]
    simp only[EB,h b (by simp[mK])]
   |_=>rw[ih (fun b hb=>h b (by simpa[mK] using hb))];rfl
theorem pf {m m':List Blk} {t:TypeId} {b off n cp b' off' n' cp':Nat} (hl:m.length=m'.length) (hb:m[b]? =m'[b]?) (hb':m[b']? =m'[b']?) {ob:List Prop} {v:AV} {x:List Blk}
  (h:jM P m t (.one (.sl b off n cp)) (.one (.sl b' off' n' cp'))=some (ob,v,x)):
  ∃k len,ob=[]∧v= .val (.one (.sx m.length len))∧x=m++[k]∧k.live=true∧k.ro=false∧jM P m' t (.one (.sl b off n cp)) (.one (.sl b' off' n' cp'))=some (ob,v,m'++[k]):=by
 simp only[jM,jy] at h ⊢
 rw[←hb]
 split at h
 ·rename_i e hu
  split at h
  ·rename_i i z hi hz
   split at h
   ·rename_i k1 b2 o2 m2 hk1 hown
    simp only[Option.some.injEq,Prod.mk.injEq] at hown
    obtain ⟨rfl,rfl,rfl⟩:=hown
    rw[←hb']
    split at h
    ·rename_i k hk
     split at h
     ·rename_i xs news hlv hx hn
      split at h
      ·rename_i hc
       simp only[Option.some.injEq,Prod.mk.injEq] at h
       obtain ⟨rfl,rfl,rfl⟩:=h
       refine ⟨_,_,rfl,rfl,rfl,rfl,rfl,?_⟩
       simp only[←hl,hc]
      ·simp at h
     ·simp at h
    ·simp at h
   ·simp at h
  ·simp at h
 ·simp at h
theorem Uy {m:List Blk} {t:TypeId} {x:Option V1} {r:List Prop×V1×Nat} (h:zh P m t x=some r):∃off,x=some (.one (.ptr r.2.2 off)):=by
 unfold zh at h
 split at h
 ·split at h
  ·split at h
   ·split at h
    ·simp only[Option.some.injEq] at h;subst h;exact ⟨_,rfl⟩
    ·simp at h
   ·simp at h
  ·simp at h
 ·simp at h
theorem P6 {m:List Blk} {orc:FuncId→List V1→Option V1} {t:TypeId} {x:Option V1} {r:List Prop×V1×Nat} (h:yF P orc m t x=some r):∃off,x=some (.one (.ptr r.2.2 off)):=by
 unfold yF at h
 split at h
 ·split at h
  ·split at h
   ·split at h
    ·simp only[Option.some.injEq] at h;subst h;exact ⟨_,rfl⟩
    ·simp at h
   ·simp at h
  ·simp at h
 ·simp at h
theorem UB {m:List Blk} {t:TypeId} {x y:Option V1} {r:List Prop×Nat×Blk} (h:yp P m t x y=some r):∃off n kk,x=some (.one (.ptr r.2.1 off))∧y=some (.one (.u kk n)):=by
 unfold yp at h
 split at h
 ·split at h
  ·split at h
   ·split at h
    ·simp only[Option.some.injEq] at h;subst h;exact ⟨_,_,_,rfl,rfl⟩
    ·simp at h
   ·simp at h
  ·simp at h
 ·simp at h
theorem N5 {m:List Blk} {src dst:TypeId} {x:Option V1} {r:List Prop×ByteArray×Nat} (h:nq P m src dst x=some r):∃u off n,x=some u∧jy u=some (r.2.2,off,n):=by
 unfold nq at h
 split at h
 ·split at h
  ·rename_i hown
   split at h
   ·split at h
    ·simp only[Option.some.injEq] at h;subst h;exact ⟨_,_,_,rfl,hown⟩
    ·simp at h
    ·split at h
     ·split at h
      ·simp only[Option.some.injEq] at h;subst h;exact ⟨_,_,_,rfl,hown⟩
      ·simp at h
     ·simp at h
   ·simp at h
  ·simp at h
 ·simp at h
theorem Ui {m:List Blk} {t:TypeId} {x y:Option V1} {r:List Prop×ByteArray×Nat×Blk} (h:tf P m t x y=some r):∃u off n s,x=some u∧jy u=some (r.2.2.1,off,n)∧y=some (.one (.v (.string s))):=by
 unfold tf at h
 split at h
 ·split at h
  ·rename_i hown _
   split at h
   ·split at h
    ·split at h
     ·simp only[Option.some.injEq] at h;subst h;exact ⟨_,_,_,_,rfl,hown,rfl⟩
     ·simp at h
    ·simp at h
   ·simp at h
  ·simp at h
 ·simp at h
theorem Cq {m m':List Blk} {orc:FuncId→List V1→Option V1} {ρ:Operand→Option AV} {o:Op} {ob:List Prop} {v:V1} {b:Nat} {nb:Option Blk} (h:vw P orc m ρ o=some (ob,v,b,nb)) (hb:m[b]? =m'[b]?):
  vw P orc m' ρ o=some (ob,v,b,nb):=by
 unfold vw at h ⊢
 split at h
 ·rename_i t x
  have key:∃off,gv (ρ x)=some (.one (.ptr b off)):=by
   split at h
   ·rename_i ob1 v1 b1 hl
    obtain ⟨off,hx⟩:=Uy hl
    simp only[Option.some.injEq,Prod.mk.injEq] at h
    exact ⟨off,by rw[hx,←h.2.2.1]⟩
   ·split at h
    ·rename_i ob1 v1 b1 hl
     obtain ⟨off,hx⟩:=P6 hl
     simp only[Option.some.injEq,Prod.mk.injEq] at h
     exact ⟨off,by rw[hx,←h.2.2.1]⟩
    ·simp at h
  obtain ⟨off,hx⟩:=key
  rw[hx] at h ⊢
  unfold zh yF at h ⊢
  simp only[←hb]
  exact h
 ·rename_i t x y
  have key:∃off n kk,gv (ρ x)=some (.one (.ptr b off))∧gv (ρ y)=some (.one (.u kk n)):=by
   split at h
   ·rename_i ob1 b1 k1 hl
    obtain ⟨off,n,kk,hx,hy⟩:=UB hl
    simp only[Option.some.injEq,Prod.mk.injEq] at h
    exact ⟨off,n,kk,by rw[hx,←h.2.2.1],hy⟩
   ·simp at h
  obtain ⟨off,n,kk,hx,hy⟩:=key
  rw[hx,hy] at h ⊢
  unfold yp at h ⊢
  simp only[←hb]
  exact h
 ·rename_i src dst x
  have key:∃u off n,gv (ρ x)=some u∧jy u=some (b,off,n):=by
   split at h
   ·rename_i ob1 s1 b1 hl
    obtain ⟨u,off,n,hx,ho⟩:=N5 hl
    simp only[Option.some.injEq,Prod.mk.injEq] at h
    exact ⟨u,off,n,hx,by rw[ho,←h.2.2.1]⟩
   ·simp at h
  obtain ⟨u,off,n,hx,ho⟩:=key
  rw[hx] at h ⊢
  have e:nq P m' src dst (some u)=nq P m src dst (some u):=by
   unfold nq
   split
   ·rename_i hu
    simp only[Option.some.injEq] at hu;subst hu
    rw[ho]
    split
    ·rename_i he hh
     simp only[Option.some.injEq,Prod.mk.injEq] at hh
     obtain ⟨rfl,rfl,rfl⟩:=hh
     rw[hb]
    ·rfl
   ·rfl
  rw[e]
  exact h
 ·rename_i cl
  split at h
  ·rename_i x y t hcl hargs ht
   have key:∃u off n s,gv (ρ x)=some u∧jy u=some (b,off,n)∧gv (ρ y)=some (.one (.v (.string s))):=by
    split at h
    ·rename_i ob1 s1 b1 k1 hl
     obtain ⟨u,off,n,s,hx,ho,hy⟩:=Ui hl
     simp only[Option.some.injEq,Prod.mk.injEq] at h
     exact ⟨u,off,n,s,hx,by rw[ho,←h.2.2.1],hy⟩
    ·simp at h
   obtain ⟨u,off,n,s,hx,ho,hy⟩:=key
   rw[hx,hy] at h ⊢
   have e:tf P m' t (some u) (some (.one (.v (.string s))))=tf P m t (some u) (some (.one (.v (.string s)))):=by
    unfold tf
    split
    ·rename_i hu hs
     simp only[Option.some.injEq] at hu;subst hu
     rw[ho]
     split
     ·rename_i he hh hsz
      simp only[Option.some.injEq,Prod.mk.injEq] at hh
      obtain ⟨rfl,rfl,rfl⟩:=hh
      rw[hb]
     ·rfl
    ·rfl
   rw[e]
   exact h
  ·simp at h
 ·simp at h
theorem CM {qf:QF} {S:Nat→Bool} {ops:List Oper} {tm tm':List AV} {m m':List Blk} {c c':List Bool} {hole:Nat} {o:Oper} {ob:List Prop} {v:AV}
  {wr:Option (Nat×Blk)} {rd:List Nat} (ht:∀t∈nV ops o,tm[t]? =tm'[t]?) (hl:m.length=m'.length) (h:ta P qf S ops tm m c hole o=some (ob,c',v,wr,rd))
  (hb:∀b∈rd,m[b]? =m'[b]?):ta P qf S ops tm' m' c hole o=some (ob,c',v,wr,rd):=by
 unfold ta at h ⊢
 rw[←C2 ht,←FO ht,←tq hl,←hl]
 split at h
 ·simp at h
 ·exact h
 ·split at h
  ·split at h
   ·rename_i ob1 v1 b nb hrow
    simp only[Option.some.injEq,Prod.mk.injEq] at h
    obtain ⟨rfl,rfl,rfl,rfl,rfl⟩:=h
    rw[Cq hrow (hb b (by simp))]
   ·simp at h
  try simp only at h
  try simp only
  split at h
  ·exact h
  ·try simp only
   split at h
   ·rename_i e hop
    try simp only[hop]
    split at h
    ·split at h
     ·split at h
      ·rename_i k hk
       split at h
       ·rename_i hkl
        simp only[Option.some.injEq,Prod.mk.injEq] at h
        obtain ⟨rfl,rfl,rfl,rfl,rfl⟩:=h
        have:=hb hole (by simp)
        simp only[←this,hk,hkl]
       ·simp at h
      ·simp at h
     ·simp at h
    ·simp at h
   ·rename_i e x hop
    try simp only[hop]
    split at h
    ·split at h
     ·split at h
      ·split at h
       ·rename_i k hk
        split at h
        ·rename_i hkl
         simp only[Option.some.injEq,Prod.mk.injEq] at h
         obtain ⟨rfl,rfl,rfl,rfl,rfl⟩:=h
         have:=hb hole (by simp)
         simp only[←this,hk,hkl]
        ·simp at h
       ·simp at h
      ·simp at h
     ·simp at h
    ·simp at h
   ·rename_i t len parts hop
    try simp only[hop]
    split at h
    ·split at h
     ·split at h
      ·split at h
       ·rename_i k hk
        split at h
        ·rename_i hkl
         simp only[Option.some.injEq,Prod.mk.injEq] at h
         obtain ⟨rfl,rfl,rfl,rfl,rfl⟩:=h
         have:=hb hole (by simp)
         simp only[←this,hk,hkl]
        ·simp at h
       ·simp at h
      ·simp at h
     ·simp at h
    ·simp at h
   ·rename_i t x hop
    try simp only[hop]
    split at h
    ·rename_i b off hx
     try simp only[hx]
     split at h
     ·rename_i ob1 v1 m1 hld
      have hrd:rd=[b]:=by
       unfold tE at h
       split at h<;>simp at h
       exact h.2.2.2.2.symm
      rw[Dx hl (hb b (by simp[hrd])) hld]
      exact h
     ·simp at h
    ·simp at h
   ·rename_i t x y hop
    try simp only[hop]
    split at h
    ·rename_i b off u hx hy
     try simp only[hx,hy]
     split at h
     ·rename_i ob1 v1 m1 il
      split at h
      ·rename_i k hk
       simp only[Option.some.injEq,Prod.mk.injEq] at h
       obtain ⟨rfl,rfl,rfl,rfl,rfl⟩:=h
       obtain ⟨k',h1,h2,h3,h4⟩:=qZ hl (hb b (by simp)) il
       rw[h2] at hk
       simp only[Option.some.injEq] at hk
       subst hk
       have hbl:b<m'.length:=by
        have:=aM h2
        rw[h1] at this
        simp at this;omega
       simp[h4,List.getElem?_set_self hbl]
      ·simp at h
     ·simp at h
    ·simp at h
   ·rename_i cl hop
    try simp only[hop]
    split at h
    ·try simp only
     split at h
     ·rename_i f vs hfn hvs
      try simp only[hfn,hvs]
      split at h
      ·try simp only
       split at h
       ·exact h
       ·split at h
        ·rename_i ob1 r hqf
         split at h
         ·rename_i hwf
          have hrd:rd=mK vs:=by
           unfold tE at h
           split at h<;>simp at h
           exact h.2.2.2.2.symm
          rw[wo (m:=m) (m':=m') (fun b hb'=>hb b (by rw[hrd];exact hb'))] at hqf
          simp only[hqf,hwf]
          exact h
         ·simp at h
        ·simp at h
      ·simp at h
     ·simp at h
    ·split at h
     ·rename_i b off n cp b' off' n' cp' t hvs hty
      try simp only[hvs,hty]
      split at h
      ·rename_i ob1 v1 m1 il
       split at h
       ·rename_i k hk
        simp only[Option.some.injEq,Prod.mk.injEq] at h
        obtain ⟨rfl,rfl,rfl,rfl,rfl⟩:=h
        obtain ⟨k',h1,h2,h3,h4⟩:=tw hl (hb b (by simp)) (hb b' (by simp)) il
        rw[h2] at hk
        simp only[Option.some.injEq] at hk
        subst hk
        have hbl:b<m'.length:=by
         have:=aM h2
         rw[h1] at this
         simp at this;omega
        simp[h4,List.getElem?_set_self hbl]
       ·simp at h
      ·simp at h
     ·simp at h
    ·split at h
     ·rename_i b off n cp b' off' n' cp' t t' hvs hty hty' hty2
      try simp only[hvs,hty,hty',hty2]
      split at h
      ·rename_i hbeq
       try simp only[hbeq]
       split at h
       ·rename_i ob1 b9 len mem9 hap
        split at h
        ·rename_i k d hk hd
         split at h
         ·rename_i hfr hdl
          simp only[Option.some.injEq,Prod.mk.injEq] at h
          obtain ⟨rfl,rfl,rfl,rfl,rfl⟩:=h
          obtain ⟨k',len',rfl,hv',rfl,_,_,h4⟩:=pf hl (hb b (by simp)) (hb b' (by simp)) hap
          have hk':k'=k:=by
           rw[List.getElem?_append_right (Nat.le_refl _),Nat.sub_self] at hk
           simpa using hk
          subst hk'
          have hh:=hb hole (by simp)
          rw[h4]
          have e9:(m'++[k'])[m.length]? =some k':=by rw[hl,List.getElem?_append_right (Nat.le_refl _),Nat.sub_self];rfl
          simp only[←hh,hd,e9,hfr,hdl]
         ·simp at h
        ·simp at h
       ·simp at h
      ·simp at h
     ·simp at h
    ·simp at h
   ·rename_i t x y hop
    try simp only[hop]
    split at h
    ·rename_i ps e ln cp hmk
     try simp only[hmk]
     split at h
     ·rename_i hfr
      try simp only[hfr]
      split at h
      ·rename_i k hk
       split at h
       ·rename_i hkl
        simp only[Option.some.injEq,Prod.mk.injEq] at h
        obtain ⟨rfl,rfl,rfl,rfl,rfl⟩:=h
        have:=hb hole (by simp)
        simp only[←this,hk,hkl]
       ·simp at h
      ·simp at h
     ·simp at h
    ·simp at h
   ·simp at h
end
section
variable {P:Program} {w0 w:World} {φ:c7} {m:List Blk} {tm:List AV} {a:Act}
def ed (m:List Blk) (b:Nat):Bool:=
 match m[b]? with
 |some k=>k.live
 |none=>false
theorem cu {f g:Nat→Bool} (h:∀b,f b=true→g b=true):∀(ps:List Piece),aI f ps=true→aI g ps=true
 |[],_=>rfl
 | .num k x::ps,hp=>by simp only[aI] at hp ⊢;exact cu h ps hp
 | .arr k x::ps,hp=>by simp only[aI] at hp ⊢;exact cu h ps hp
 | .a x::ps,hp=>by
  cases x with
  |ptr b off=>simp only[aI,Bool.and_eq_true] at hp ⊢;exact ⟨h b hp.1,cu h ps hp.2⟩
  |sl b off len cap=>simp only[aI,Bool.and_eq_true] at hp ⊢;exact ⟨h b hp.1,cu h ps hp.2⟩
  |sx b len=>simp only[aI,Bool.and_eq_true] at hp ⊢;exact ⟨h b hp.1,cu h ps hp.2⟩
  |v x=>simp only[aI] at hp ⊢;exact cu h ps hp
  |u k x=>simp only[aI] at hp ⊢;exact cu h ps hp
  |i x=>simp only[aI] at hp ⊢;exact cu h ps hp
theorem dC {f:Nat→Bool} {φ φ':c7} (h:∀b,f b=true→φ' b=φ b):∀(ps:List Piece),aI f ps=true→an φ' ps=an φ ps
 |[],_=>rfl
 | .num k x::ps,hp=>by simp only[aI] at hp;simp[an,Piece.conc,dC h ps hp]
 | .arr k x::ps,hp=>by simp only[aI] at hp;simp[an,Piece.conc,dC h ps hp]
 | .a x::ps,hp=>by
  cases x with
  |ptr b off=>simp only[aI,Bool.and_eq_true] at hp;simp[an,Piece.conc,Atom.conc,dC h ps hp.2,h b hp.1]
  |sl b off len cap=>simp only[aI,Bool.and_eq_true] at hp;simp[an,Piece.conc,Atom.conc,dC h ps hp.2,h b hp.1]
  |sx b len=>simp only[aI,Bool.and_eq_true] at hp;simp[an,Piece.conc,Atom.conc,dC h ps hp.2,h b hp.1]
  |v x=>simp only[aI] at hp;simp[an,Piece.conc,Atom.conc,dC h ps hp]
  |u k x=>simp only[aI] at hp;simp[an,Piece.conc,Atom.conc,dC h ps hp]
  |i x=>simp only[aI] at hp;simp[an,Piece.conc,Atom.conc,dC h ps hp]
def V1.okP (f:Nat→Bool):V1→Bool
 | .one (.ptr b _)=>f b
 | .one (.sl b _ _ _)=>f b
 | .one (.sx b _)=>f b
 | .one _=>true
 | .agg ps=>aI f ps
theorem uk (f:Nat→Bool) (xs:List V1):(AV.tup xs).okP f=xs.all (V1.okP f):=by
 simp only[AV.okP]
 congr 1
theorem oz (f:Nat→Bool) (x:V1):(AV.val x).okP f=x.okP f:=by
 unfold AV.okP V1.okP
 rcases x with x|x
 ·cases x<;>rfl
 ·rfl
theorem V1.okP_imp {f g:Nat→Bool} (h:∀b,f b=true→g b=true) (x:V1) (hx:x.okP f=true):x.okP g=true:=by
 rcases x with x|x
 ·cases x<;>simp only[V1.okP] at hx ⊢ <;>exact h _ hx
 ·exact cu h x hx
theorem AV.okP_imp {f g:Nat→Bool} (h:∀b,f b=true→g b=true) (x:AV) (hx:x.okP f=true):x.okP g=true:=by
 cases x with
 |val x=>rw[oz] at*;exact V1.okP_imp h x hx
 |tup xs=>
  rw[uk] at*
  simp only[List.all_eq_true] at hx ⊢
  exact fun x hm=>V1.okP_imp h x (hx x hm)
 |junk=>rfl
theorem V1.conc_okP {f:Nat→Bool} {φ φ':c7} (h:∀b,f b=true→φ' b=φ b) (x:V1) (hx:x.okP f=true):x.conc φ'=x.conc φ:=by
 rcases x with x|x
 ·cases x<;>simp only[V1.okP] at hx<;>first|rfl|simp[V1.conc,Atom.conc,h _ hx]
 ·simp only[V1.okP] at hx;simp[V1.conc,dC h x hx]
theorem AV.conc_okP {f:Nat→Bool} {φ φ':c7} (h:∀b,f b=true→φ' b=φ b) (x:AV) (hx:x.okP f=true):x.conc φ'=x.conc φ:=by
 cases x with
 |val x=>rw[oz] at hx;exact V1.conc_okP h x hx
 |tup xs=>
  rw[uk] at hx
  simp only[List.all_eq_true] at hx
  simp only[AV.conc,Value.tuple.injEq]
  congr 1
  exact List.map_congr_left fun x hm=>V1.conc_okP h x (hx x hm)
 |junk=>rfl
theorem V1.wf_okP (n:Nat) (x:V1):x.wf n=x.okP (mh n):=by
 rcases x with x|x
 ·cases x<;>rfl
 ·rfl
theorem AV.wf_okP (n:Nat) (x:AV):x.wf n=x.okP (mh n):=by
 cases x with
 |val x=>rw[oz];exact V1.wf_okP n x
 |tup xs=>
  rw[uk]
  simp only[AV.wf]
  congr 1
 |junk=>rfl
theorem qR {b:Nat} (h:ed m b=true):mh m.length b=true:=by
 unfold ed at h
 split at h
 ·rename_i k hk
  have:=aM hk
  simp only[mh,Nat.blt,Nat.ble_eq];omega
 ·simp at h
theorem MRel.fill (h:MRel w0 φ m w) {hole:Nat} {d:Blk} (hd:m[hole]? =some d) (hdl:d.live=false) (ps:List Piece) (e:TypeId) (hp:aI (mh m.length) ps=true)
  (hlv:aI (ed m) ps=true) (hm:∀(i:Nat) (b:Blk),m[i]? =some b→b.live=true→aI (ed m) b.ps=true):
  ∃φ':c7,(∀b,ed m b=true→φ' b=φ b)∧φ' hole=(w.heap.size,0,0)∧MRel w0 φ' (m.set hole ⟨ps,e,true,false,0⟩) (w.alloc (.cells (an φ ps).toArray e)):=by
 have hag:∀b,ed m b=true→(fun b=>if b=hole then (w.heap.size,0,0) else φ b) b=φ b:=by
  intro b hb
  have:b≠hole:=fun e=>by subst e;simp[ed,hd,hdl] at hb
  simp[this]
 have hhl:=aM hd
 refine ⟨fun b=>if b=hole then (w.heap.size,0,0) else φ b,hag,by simp,?_⟩
 have split:∀(i:Nat) (x:Blk),(m.set hole (⟨ps,e,true,false,0⟩:Blk))[i]? =some x→(i=hole∧x=⟨ps,e,true,false,0⟩)∨(i≠hole∧m[i]? =some x):=by
  intro i x hx
  by_cases h1:i=hole
  ·subst h1
   rw[List.getElem?_set_self hhl] at hx
   simp only[Option.some.injEq] at hx
   exact .inl ⟨rfl,hx.symm⟩
  ·rw[List.getElem?_set_ne (by omega)] at hx
   exact .inr ⟨h1,hx⟩
 constructor
 ·exact h.below.alloc h.below.size _
 ·intro i j x x' hx hx' hl hl' hr hr' he
  rcases split i x hx with ⟨h1,rfl⟩|⟨h1,hx1⟩<;>rcases split j x' hx' with ⟨h2,rfl⟩|⟨h2,hx2⟩
  ·omega
  ·have:=h.lt hx2 hl'
   simp only[h1,if_true,h2,if_false] at he;omega
  ·have:=h.lt hx1 hl
   simp only[h2,if_true,h1,if_false] at he;omega
  ·simp only[h1,h2,if_false] at he
   exact h.inj i j _ _ hx1 hx2 hl hl' hr hr' he
 ·intro i x hx hl hr
  rcases split i x hx with ⟨h1,rfl⟩|⟨h1,hx1⟩
  ·simp only[h1,if_true];exact ⟨h.below.size,trivial⟩
  ·simp only[h1,if_false];exact h.own _ _ hx1 hl hr
 ·intro i x hx hl hr
  rcases split i x hx with ⟨h1,rfl⟩|⟨h1,hx1⟩
  ·cases hr
  ·rw[dC hag _ (hm i x hx1 hl)]
   simp only[h1,if_false]
   exact h.old _ _ hx1 hl hr
 ·intro i x hx hl hr
  rcases split i x hx with ⟨h1,rfl⟩|⟨h1,hx1⟩
  ·refine ⟨[],0,0,?_,by simp,by simp⟩
   simp only[h1,if_true,World.alloc,Array.getElem?_push_size,Option.some.injEq,Obj.cells.injEq,List.append_nil]
   exact ⟨by rw[dC hag _ hlv],trivial,trivial⟩
  ·have h3:=h.lt hx1 hl
   have:=h.blk i x hx1 hl hr
   rw[dC hag _ (hm i x hx1 hl)]
   unfold oU at this ⊢
   simp only[h1,if_false,World.alloc]
   rw[Array.getElem?_push,if_neg (by omega)]
   exact this
 ·intro i x hx
  simp only[List.length_set]
  rcases split i x hx with ⟨h1,rfl⟩|⟨h1,hx1⟩
  ·exact hp
  ·exact h.wf i x hx1
theorem MRel.move {φ':c7} {k d:Blk} {w':World} (h:MRel w0 φ' (m++[k]) w') (hag:∀b,ed m b=true→φ' b=φ b) {hole:Nat} (hd:m[hole]? =some d) (hdl:d.live=false)
  (hk:aI (fun _=>false) k.ps=true) (hokm:∀(i:Nat) (b:Blk),m[i]? =some b→b.live=true→aI (ed m) b.ps=true) (hwf:∀(i:Nat) (b:Blk),m[i]? =some b→aI (mh m.length) b.ps=true):
  ∃φ2:c7,(∀b,ed m b=true→φ2 b=φ b)∧φ2 hole=φ' m.length∧MRel w0 φ2 (m.set hole k) w':=by
 have hhl:=aM hd
 have hne:∀b,ed m b=true→b≠hole:=fun b hb e=>by subst e;simp[ed,hd,hdl] at hb
 have h2:∀b,ed m b=true→(fun b=>if b=hole then φ' m.length else φ' b) b=φ' b:=fun b hb=>by simp[hne b hb]
 have hlast:(m++[k])[m.length]? =some k:=by rw[List.getElem?_append_right (Nat.le_refl _),Nat.sub_self];rfl
 have hold:∀(i:Nat) (x:Blk),m[i]? =some x→(m++[k])[i]? =some x:=fun i x hx=>by rw[List.getElem?_append_left (aM hx)];exact hx
 have hlt:∀(i:Nat) (x:Blk),m[i]? =some x→i≠m.length:=fun i x hx=>by have:=aM hx;omega
 refine ⟨fun b=>if b=hole then φ' m.length else φ' b,fun b hb=>by rw[h2 b hb];exact hag b hb,by simp,?_⟩
 have split:∀(i:Nat) (x:Blk),(m.set hole k)[i]? =some x→(i=hole∧x=k)∨(i≠hole∧m[i]? =some x):=by
  intro i x hx
  by_cases h1:i=hole
  ·subst h1
   rw[List.getElem?_set_self hhl] at hx
   simp only[Option.some.injEq] at hx
   exact .inl ⟨rfl,hx.symm⟩
  ·rw[List.getElem?_set_ne (by omega)] at hx
   exact .inr ⟨h1,hx⟩
 have hck:∀ψ:c7,an ψ k.ps=an φ' k.ps:=fun ψ=>dC (f:=fun _=>false) (fun _ hb=>by simp at hb) _ hk
 constructor
 ·exact h.below
 ·intro i j x x' hx hx' hl hl' hr hr' he
  rcases split i x hx with ⟨h1,rfl⟩|⟨h1,hx1⟩<;>rcases split j x' hx' with ⟨h3,rfl⟩|⟨h3,hx2⟩
  ·omega
  ·simp only[h1,if_true,h3,if_false] at he
   exact absurd (h.inj _ _ _ _ hlast (hold _ _ hx2) hl hl' hr hr' he).symm (hlt _ _ hx2)
  ·simp only[h3,if_true,h1,if_false] at he
   exact absurd (h.inj _ _ _ _ (hold _ _ hx1) hlast hl hl' hr hr' he) (hlt _ _ hx1)
  ·simp only[h1,h3,if_false] at he
   exact h.inj i j _ _ (hold _ _ hx1) (hold _ _ hx2) hl hl' hr hr' he
 ·intro i x hx hl hr
  rcases split i x hx with ⟨h1,rfl⟩|⟨h1,hx1⟩
  ·simp only[h1,if_true];exact h.own _ _ hlast hl hr
  ·simp only[h1,if_false];exact h.own _ _ (hold _ _ hx1) hl hr
 ·intro i x hx hl hr
  rcases split i x hx with ⟨h1,rfl⟩|⟨h1,hx1⟩
  ·rw[hck]
   simp only[h1,if_true];exact h.old _ _ hlast hl hr
  ·rw[dC h2 _ (hokm i x hx1 hl)]
   simp only[h1,if_false]
   exact h.old _ _ (hold _ _ hx1) hl hr
 ·intro i x hx hl hr
  rcases split i x hx with ⟨h1,rfl⟩|⟨h1,hx1⟩
  ·rw[hck]
   simp only[h1,if_true];exact h.blk _ _ hlast hl hr
  ·rw[dC h2 _ (hokm i x hx1 hl)]
   simp only[h1,if_false]
   exact h.blk _ _ (hold _ _ hx1) hl hr
 ·intro i x hx
  simp only[List.length_set]
  rcases split i x hx with ⟨h1,rfl⟩|⟨h1,hx1⟩
  ·exact cu (by simp) x.ps hk
  ·exact hwf i x hx1
theorem GS {f:Nat→Bool} {v:V1} {ps:List Piece} (h:v.pieces=some ps) (hv:v.okP f=true):aI f ps=true:=by
 unfold V1.pieces at h
 split at h
 ·simp at h
 ·simp at h
 ·rename_i x h1 h2
  simp only[Option.some.injEq] at h;subst h
  cases x<;>simp[aI,V1.okP] at hv ⊢ <;>exact hv
 ·simp only[Option.some.injEq] at h;subst h;exact hv
theorem Gx (f:Nat→Bool) (x:Value):(nu x).okP f=true:=by
 have h1:∀x,(V1.one (kq x)).okP f=true:=by
  intro x;unfold kq;split<;>rfl
 unfold nu
 split
 ·rename_i cs
  simp only[V1.okP]
  have:∀l:List Value,aI f (l.map fun c=> .a (kq c))=true:=by
   intro l
   induction l with
   |nil=>rfl
   |cons c l ih=>
    simp only[List.map_cons]
    have hc:=h1 c
    cases hv:kq c<;>simp[hv,V1.okP] at hc<;>simp[aI,ih,hc]
  exact this _
 ·exact h1 _
theorem Ou {look:List Tmp} {f:Nat→Bool} (ht:∀x∈tm,x.okP f=true) {x:Operand} {u:AV} (h:Ao look tm x=some u):u.okP f=true:=by
 have h:=CZ h
 cases x with
 |tmp t=>simp only[uc] at h;exact ht u (List.mem_of_getElem? (xe h).1)
 |const v=>simp only[uc,Option.some.injEq] at h;subst h;rw[oz];exact Gx _ _
 |global g=>simp[uc] at h
 |func g=>simp only[uc,Option.some.injEq] at h;subst h;rfl
structure Inv (w0:World) (φ:c7) (tm:List AV) (m:List Blk) (a:Act) (w:World):Prop where
 tmps:TmR φ tm a.tmps
 defs:a.defers=[]
 okt:∀x∈tm,x.okP (ed m)=true
 okm:∀(i:Nat) (b:Blk),m[i]? =some b→b.live=true→aI (ed m) b.ps=true
 mrel:MRel w0 φ m w
theorem Inv.rel (h:Inv w0 φ tm m a w):Rel w0 φ tm m a w:=
 ⟨h.tmps,h.defs,fun x hx=>by rw[AV.wf_okP];exact AV.okP_imp (fun _ hb=>qR hb) x (h.okt x hx),h.mrel⟩
def aap (P:Program) (qf:QF):Prop:=
 (∀f vs ob r,qf.1 f vs=some (ob,r)→cL ob→∀φ w,Calls P f (vs.map (V1.conc φ)).toArray w fun e w'=>e= .returned (r.conc φ)∧Below w.heap.size w w')∧
 (∀f vs mem ob r,qf.2 f vs (jF mem vs)=some (ob,r)→cL ob→∀w0 φ w,MRel w0 φ mem w→Calls P f (vs.map (V1.conc φ)).toArray w fun e w'=>e= .returned (r.conc φ)∧Below w.heap.size w w')
theorem ml {s:Bool×Bool} {c c':List Bool} {ob ob':List Prop} {v v':AV} {wr wr':Option (Nat×Blk)} {rd rd':List Nat} (h:tE s c ob v wr rd=some (ob',c',v',wr',rd')) (ho:cL ob'):
  v'=v∧wr'=wr∧cL ob:=by
 unfold tE at h
 split at h
 ·rename_i ob1 c1 v1 m1 hd
  simp only[Option.some.injEq,Prod.mk.injEq] at h
  obtain ⟨rfl,rfl,rfl,rfl,rfl⟩:=h
  obtain ⟨h1,_,h3⟩:=mB hd ho
  exact ⟨h1,rfl,h3⟩
 ·simp at h
theorem CA {qf:QF} (hq:aap P qf) {S:Nat→Bool} {ops:Array Oper} {c c':List Bool} {hole:Nat} {o:Oper} {ob:List Prop} {v:AV}
  {wr:Option (Nat×Blk)} {rd:List Nat} (h:ta P qf S ops.toList tm m c hole o=some (ob,c',v,wr,rd)) (ho:cL ob) (hi:Inv w0 φ tm m a w)
  {K:Act→World→Prop} {Q:Exit→Act→World→Prop}
  (hK:∀φ' w',(∀b,ed m b=true→φ' b=φ b)→TmR φ' tm a.tmps→MRel w0 φ' (v6 m wr) w'→K (a.put o.dst (v.conc φ')) w'):
  if Region.wanted o (yielded ops a.tmps) then o.wp P a w K Q∨(o.asks P a w∧LetsOut Q) else K (a.put o.dst undef) w:=by
 have hr:=hi.rel
 unfold ta at h
 split at h
 ·simp at h
 ·rename_i hwa
  rw[k7 hwa hr.tmps]
  simp only[Option.some.injEq,Prod.mk.injEq] at h
  obtain ⟨rfl,rfl,rfl,rfl,rfl⟩:=h
  exact hK φ w (fun _ _=>rfl) hi.tmps hi.mrel
 ·rename_i hwa
  rw[k7 hwa hr.tmps,if_pos rfl]
  refine .inl ?_
  have ht:qA φ (Ao (nV ops.toList o) tm) a.eval:=fun x u hu=>fR hr x u (CZ hu)
  split at h
  ·split at h
   ·rename_i ob1 v1 b nb hrow
    simp only[Option.some.injEq,Prod.mk.injEq] at h
    obtain ⟨rfl,rfl,rfl,rfl,rfl⟩:=h
    obtain ⟨w',hrun,hm',hwf⟩:=yt (a:=a.eval) hrow ho hi.mrel (fun x u hx=>bF ht hx)
    have hap:v6 m (nb.map fun k=>(b,k))=apB m b nb:=by cases nb<;>rfl
    have:=hK φ w' (fun _ _=>rfl) hi.tmps (by rw[hap];exact hm')
    unfold Oper.wp
    rcases hrun with hrun|⟨hrun,hu⟩
    ·rw[hrun];exact this
    ·rw[hrun];rw[hu] at this;exact this
   ·simp at h
  simp only at h
  split at h
  ·
   split at h
   ·rename_i ob1 v1 m1 hop
    split at h
    ·rename_i hvw
     obtain ⟨rfl,rfl,ho1⟩:=ml h ho
     have hdead:MRel w φ (mU m) w:=by
      refine ⟨Below.refl _ _,?_,?_,?_,?_,?_⟩
      ·intro i j b b' hb _ hl;rw[(iH m i b hb).1] at hl;simp at hl
      ·intro i b hb hl;rw[(iH m i b hb).1] at hl;simp at hl
      ·intro i b hb hl;rw[(iH m i b hb).1] at hl;simp at hl
      ·intro i b hb hl;rw[(iH m i b hb).1] at hl;simp at hl
      ·intro i b hb;rw[(iH m i b hb).2];rfl
     obtain ⟨φ1,w1,hrun,hag,hlen,hm1,hv1⟩:=yn hop ho1 hdead ht
     rw[qo] at hag
     have hc:=AV.conc_agree hag _ hvw
     have:=hK φ w1 (fun _ _=>rfl) hi.tmps (hi.mrel.below_of hm1.below)
     unfold Oper.wp
     rcases hrun with hrun|⟨hrun,hu⟩
     ·rw[hrun,hc];exact this
     ·rw[hrun];rw[hu] at this;exact this
    ·simp at h
   ·simp at h
  ·split at h
   ·
    rename_i e hop
    split at h
    ·rename_i ps hz
     split at h
     ·rename_i hp
      split at h
      case h_2=>simp at h
      rename_i d hd
      split at h
      case h_2=>simp at h
      rename_i hdl
      simp only[Option.some.injEq,Prod.mk.injEq] at h
      obtain ⟨rfl,rfl,rfl,rfl,rfl⟩:=h
      obtain ⟨φ',h1,h2,h3⟩:=hi.mrel.fill hd hdl ps e (cu (by simp) ps hp) (cu (by simp) ps hp) hi.okm
      obtain ⟨zv,hz1,hz2⟩:=gm (φ:=φ) hz w
      have hmap:TmR φ' tm a.tmps:=hi.tmps.to fun x hx=>AV.conc_okP h1 x (hi.okt x hx)
      have:=hK φ' _ h1 hmap h3
      unfold Oper.wp
      have hrun:(execOp a.eval o).run P w= .ok (.value (.pointer (some ⟨w.heap.size,0,none⟩))) (w.alloc (.cells (an φ ps).toArray e)):=by
       simp[execOp,hop,Instr.alloc,hz1,newVar,newRow,hz2]
      rw[hrun]
      simp only[AV.conc,V1.conc,Atom.conc,h2] at this
      exact this
     ·simp at h
    ·simp at h
   ·
    rename_i e x hop
    split at h
    ·rename_i u hu
     split at h
     ·rename_i ps hps
      split at h
      ·rename_i hp
       split at h
       case h_2=>simp at h
       rename_i d hd
       split at h
       case h_2=>simp at h
       rename_i hdl
       simp only[Option.some.injEq,Prod.mk.injEq] at h
       obtain ⟨rfl,rfl,rfl,rfl,rfl⟩:=h
       have hul:u.okP (ed m)=true:=by
        unfold gv at hu
        split at hu
        ·rename_i u' hu'
         simp only[Option.some.injEq] at hu;subst hu
         have:=Ou hi.okt hu'
         rwa[oz] at this
        ·simp at hu
       obtain ⟨φ',h1,h2,h3⟩:=hi.mrel.fill hd hdl ps e hp (GS hps hul) hi.okm
       have hmap:TmR φ' tm a.tmps:=hi.tmps.to fun x hx=>AV.conc_okP h1 x (hi.okt x hx)
       have:=hK φ' _ h1 hmap h3
       unfold Oper.wp
       have hpc:=je (φ:=φ) hps
       have hrun:(execOp a.eval o).run P w= .ok (.value (.pointer (some ⟨w.heap.size,0,none⟩))) (w.alloc (.cells (an φ ps).toArray e)):=by
        simp[execOp,hop,bF ht hu,Instr.box,newVar,newRow,hpc]
       rw[hrun]
       simp only[AV.conc,V1.conc,Atom.conc,h2] at this
       exact this
      ·simp at h
     ·simp at h
    ·simp at h
   ·
    rename_i t len parts hop
    split at h
    ·rename_i vs hvs
     split at h
     ·rename_i ps e hps
      split at h
      ·rename_i hp
       split at h
       case h_2=>simp at h
       rename_i d hd
       split at h
       case h_2=>simp at h
       rename_i hdl
       simp only[Option.some.injEq,Prod.mk.injEq] at h
       obtain ⟨rfl,rfl,rfl,rfl,rfl⟩:=h
       obtain ⟨φ',h1,h2,h3⟩:=hi.mrel.fill hd hdl ps e (cu (by simp) ps hp) (cu (by simp) ps hp) hi.okm
       have hmap:TmR φ' tm a.tmps:=hi.tmps.to fun x hx=>AV.conc_okP h1 x (hi.okt x hx)
       have:=hK φ' _ h1 hmap h3
       unfold Oper.wp
       have hrun:(execOp a.eval o).run P w= .ok (.value (.slice (some ⟨w.heap.size,0,none⟩) len len)) (w.alloc (.cells (an φ ps).toArray e)):=by
        have hpt:=jL ht _ hvs
        rw[←rl (P:=P) (φ:=φ) (parts:=parts.map fun (i,x)=>(i,a.eval x)) (by rw[Array.toList_map];exact hpt) hps w]
        simp only[execOp,hop]
       rw[hrun]
       simp only[AV.conc,V1.conc,Atom.conc,h2] at this
       exact this
      ·simp at h
     ·simp at h
    ·simp at h
   ·
    rename_i t x hop
    split at h
    ·rename_i b off hx
     split at h
     ·rename_i ob1 v1 m1 hld
      obtain ⟨rfl,rfl,ho1⟩:=ml h ho
      simp only[o9] at hld
      split at hld
      ·rename_i k hk
       split at hld
       ·rename_i v' hlv hv
        unfold good at hld
        split at hld
        ·simp only[Option.some.injEq,Prod.mk.injEq] at hld
         obtain ⟨_,rfl,_⟩:=hld
         have:=hK φ w (fun _ _=>rfl) hi.tmps hi.mrel
         unfold Oper.wp
         have hrun:(execOp a.eval o).run P w= .ok (.value (v'.conc φ)) w:=by
          simp[execOp,hop,bF ht hx,Instr.loadAt,Instr.sureAddr,V1.conc,Atom.conc,nh hi.mrel hk hlv hv]
         rw[hrun]
         exact this
        ·simp at hld
       ·simp at hld
      ·simp at hld
     ·simp at h
    ·simp at h
   ·
    rename_i t x y hop
    split at h
    ·rename_i b off u hx hy
     split at h
     ·rename_i ob1 v1 m1 il
      split at h
      ·rename_i k hk
       simp only[Option.some.injEq,Prod.mk.injEq] at h
       obtain ⟨rfl,rfl,rfl,rfl,rfl⟩:=h
       obtain ⟨k',h1,h2,h3,h4⟩:=qZ (m':=m) rfl rfl il
       rw[h2] at hk
       simp only[Option.some.injEq] at hk
       subst hk
       have hpost:=tu il hi.mrel
       have hex:execOp a.eval o=(do Instr.storeAt t ((V1.one (.ptr b off)).conc φ) (u.conc φ);pure .skip:Sem Next):=by
        simp only[execOp,hop,bF ht hx,bF ht hy]
       rw[←hex] at hpost
       refine lL hpost ?_
       intro φ' w' hag hlen hm' hv'
       have hmap:TmR φ' tm a.tmps:=hi.tmps.to fun x hx=>AV.conc_agree hag x (hr.wft x hx)
       refine hK φ' w' (fun b hb=>hag b (by have:=qR hb;simp only[mh,Nat.blt,Nat.ble_eq] at this;omega)) hmap ?_
       rw[h1] at hm'
       exact hm'
      ·simp at h
     ·simp at h
    ·simp at h
   ·
    rename_i cl hop
    split at h
    ·rename_i x hcl
     split at h
     case h_2=>simp at h
     rename_i f vs hfn hvs
     split at h
     ·rename_i hok
      split at h
      ·rename_i ob1 r hqf
       split at h
       ·rename_i hwf
        obtain ⟨rfl,rfl,ho1⟩:=ml h ho
        have hargs:cl.args.map a.eval=(vs.map (V1.conc φ)).toArray:=by
         apply Array.ext'
         rw[Array.toList_map,dA ht _ hvs]
        have hrun:(execOp a.eval o).run P w= .ok (.enter f (vs.map (V1.conc φ)).toArray) w:=by
         simp only[execOp,hop,Sem.run_bind,resolve,hcl,pY ht hfn,Deferred.ofValue,Sem.run_pure,Result.andThen_ok,invoke]
         rw[hargs]
         simp only[Array.empty_append,Array.append_empty]
         exact pR hok _ w
        unfold Oper.wp
        rw[hrun,Oper.upon_enter]
        refine (hq.1 _ _ _ _ hqf ho1 φ w).mono ?_
        rintro e w' ⟨rfl,hb⟩
        exact hK φ w' (fun _ _=>rfl) hi.tmps (hi.mrel.below_of hb)
       ·simp at h
      ·split at h
       case h_2=>simp at h
       rename_i ob1 r hqf
       split at h
       ·rename_i hwf
        obtain ⟨rfl,rfl,ho1⟩:=ml h ho
        have hargs:cl.args.map a.eval=(vs.map (V1.conc φ)).toArray:=by
         apply Array.ext'
         rw[Array.toList_map,dA ht _ hvs]
        have hrun:(execOp a.eval o).run P w= .ok (.enter f (vs.map (V1.conc φ)).toArray) w:=by
         simp only[execOp,hop,Sem.run_bind,resolve,hcl,pY ht hfn,Deferred.ofValue,Sem.run_pure,Result.andThen_ok,invoke]
         rw[hargs]
         simp only[Array.empty_append,Array.append_empty]
         exact pR hok _ w
        unfold Oper.wp
        rw[hrun,Oper.upon_enter]
        refine (hq.2 _ _ _ _ _ hqf ho1 _ φ w hi.mrel).mono ?_
        rintro e w' ⟨rfl,hb⟩
        exact hK φ w' (fun _ _=>rfl) hi.tmps (hi.mrel.below_of hb)
       ·simp at h
     ·simp at h
    ·
     rename_i hcl
     split at h
     ·rename_i b off n cp b' off' n' cp' t hvs hty
      split at h
      ·rename_i ob1 v1 m1 il
       split at h
       ·rename_i k hk
        simp only[Option.some.injEq,Prod.mk.injEq] at h
        obtain ⟨rfl,rfl,rfl,rfl,rfl⟩:=h
        obtain ⟨k',h1,h2,h3,h4⟩:=tw (m':=m) rfl rfl rfl il
        rw[h2] at hk
        simp only[Option.some.injEq] at hk
        subst hk
        have hpost:=wA (P:=P) hty (ty:=o.type) il hi.mrel
        have hargs:cl.args.map a.eval= #[(V1.one (.sl b off n cp)).conc φ,(V1.one (.sl b' off' n' cp')).conc φ]:=by
         apply Array.ext'
         rw[Array.toList_map,dA ht _ hvs];rfl
        have hpost:dn w0 φ m ((execOp a.eval o).run P w) v1 m1:=by
         simpa only[execOp,hop,resolve,hcl,invoke,builtin,Sem.run_bind,Sem.run_pure,Result.andThen_ok,hargs] using hpost
        refine lL hpost ?_
        intro φ' w' hag hlen hm' hv'
        have hmap:TmR φ' tm a.tmps:=hi.tmps.to fun x hx=>AV.conc_agree hag x (hr.wft x hx)
        refine hK φ' w' (fun b hb=>hag b (by have:=qR hb;simp only[mh,Nat.blt,Nat.ble_eq] at this;omega)) hmap ?_
        rw[h1] at hm'
        exact hm'
       ·simp at h
      ·simp at h
     ·simp at h
    ·
     rename_i hcl
     split at h
     ·rename_i b off n cp b' off' n' cp' t t' hvs hty hty' hty2
      split at h
      ·rename_i hbeq
       split at h
       ·rename_i ob1 b9 len mem9 hap
        split at h
        ·rename_i k d hk hd
         split at h
         ·rename_i hfr hdl
          simp only[Option.some.injEq,Prod.mk.injEq] at h
          obtain ⟨rfl,rfl,rfl,rfl,rfl⟩:=h
          obtain ⟨k',len',rfl,hv',rfl,_,_,_⟩:=pf (m':=m) rfl rfl rfl hap
          have hk':k'=k:=by
           rw[List.getElem?_append_right (Nat.le_refl _),Nat.sub_self] at hk
           simpa using hk
          subst hk'
          simp only[AV.val.injEq,V1.one.injEq,Atom.sx.injEq] at hv'
          obtain ⟨rfl,rfl⟩:=hv'
          obtain rfl:=Nat.eq_of_beq_eq_true hbeq
          have hts:cl.argTypes= #[t,t]:=by
           apply Array.ext_getElem?
           intro j
           match j with
           |0=>simpa using hty
           |1=>simpa using hty'
           |j+2=>
            have hsz:cl.argTypes.size≤2:=by
             rcases Nat.lt_or_ge 2 cl.argTypes.size with hlt|hge
             ·rw[Array.getElem?_eq_getElem hlt] at hty2;simp at hty2
             ·exact hge
            rw[Array.getElem?_eq_none (by omega),Array.getElem?_eq_none (by simp)]
          have hpost:=jA (P:=P) (ty:=o.type) hap hi.mrel
          have hargs:cl.args.map a.eval= #[(V1.one (.sl b off n cp)).conc φ,(V1.one (.sl b' off' n' cp')).conc φ]:=by
           apply Array.ext'
           rw[Array.toList_map,dA ht _ hvs];rfl
          have hpost:dn w0 φ m ((execOp a.eval o).run P w) (.val (.one (.sx m.length len))) (m++[k']):=by
           simpa only[execOp,hop,resolve,hcl,invoke,builtin,Sem.run_bind,Sem.run_pure,Result.andThen_ok,hargs,hts] using hpost
          obtain ⟨φ',w',hrun,hag,hlen,hm',hv'⟩:=hpost
          have hagl:∀b,ed m b=true→φ' b=φ b:=fun b hb=>hag b (by have:=qR hb;simp only[mh,Nat.blt,Nat.ble_eq] at this;omega)
          obtain ⟨φ2,g1,g2,g3⟩:=hm'.move hagl hd hdl hfr hi.okm hi.mrel.wf
          have hmap:TmR φ2 tm a.tmps:=hi.tmps.to fun x hx=>AV.conc_okP g1 x (hi.okt x hx)
          have:=hK φ2 w' g1 hmap g3
          have hconc:(AV.val (.one (.sx m.length len))).conc φ'=(AV.val (.one (.sx hole len))).conc φ2:=by
           simp only[AV.conc,V1.conc,Atom.conc,g2]
          unfold Oper.wp
          rcases hrun with hrun|⟨_,hu⟩
          ·rw[hrun,hconc]
           exact this
          ·simp[Ry] at hu
         ·simp at h
        ·simp at h
       ·simp at h
      ·simp at h
     ·simp at h
    ·simp at h
   ·
    rename_i t x y hop
    split at h
    ·rename_i ps e ln cp hmk
     split at h
     ·rename_i hp
      split at h
      case h_2=>simp at h
      rename_i d hd
      split at h
      case h_2=>simp at h
      rename_i hdl
      simp only[Option.some.injEq,Prod.mk.injEq] at h
      obtain ⟨rfl,rfl,rfl,rfl,rfl⟩:=h
      obtain ⟨φ',h1,h2,h3⟩:=hi.mrel.fill hd hdl ps e (cu (by simp) ps hp) (cu (by simp) ps hp) hi.okm
      have hmap:TmR φ' tm a.tmps:=hi.tmps.to fun x hx=>AV.conc_okP h1 x (hi.okt x hx)
      have:=hK φ' _ h1 hmap h3
      unfold Oper.wp
      have hrun:(execOp a.eval o).run P w= .ok (.value (.slice (some ⟨w.heap.size,0,none⟩) ln cp)) (w.alloc (.cells (an φ ps).toArray e)):=by
       unfold I0 at hmk
       split at hmk
       ·rename_i e' l c' hu hl hc
        split at hmk
        ·rename_i i z hii hz
         split at hmk
         ·rename_i hcc
          simp only[Bool.and_eq_true,Nat.beq_eq,Nat.ble_eq,Nat.blt,decide_eq_true_eq] at hcc
          obtain ⟨⟨hs,hpos⟩,g1,g2,g3,g4⟩:=hcc
          simp only[Option.some.injEq,Prod.mk.injEq] at hmk
          obtain ⟨rfl,rfl,rfl,rfl⟩:=hmk
          have hrun:=qb (P:=P) (φ:=φ) hu hii hz hs (by omega) g1 g2 g3 g4 w
          rw[←hrun]
          simp only[execOp,hop,bF ht hl,bF ht hc,V1.conc,Atom.conc]
         ·simp at hmk
        ·simp at hmk
       ·simp at hmk
      rw[hrun]
      simp only[AV.conc,V1.conc,Atom.conc,h2] at this
      exact this
     ·simp at h
    ·simp at h
   ·simp at h
end
section
variable {P:Program}
theorem Te {β:Type} (tm:List AV) (d:Option Tmp) (v:AV) (k:List AV→β):ac3 tm d v k=k (ik tm d v):=by
 cases d with
 |none=>rfl
 |some d=>simp only[ac3,Bt,ik]
theorem yd {qf:QF} {S:Nat→Bool} {L:List Oper}:∀(rest:List Oper) (tm:List AV) (m:List Blk) (c:List Bool) (h:Nat) {ob:List Prop} {c':List Bool} {tm':List AV} {m':List Blk} {rows:List Row},
  PF P qf S L rest tm m c h=some (ob,c',tm',m',rows)→rows.length=rest.length∧tm'=Tx rows (fun _=>true) 0 tm∧m'=Mx rows (fun _=>true) 0 m∧
  ∀j o,rest[j]? =some o→∃r obj cj cj' hj,rows[j]? =some r∧r.dst=o.dst∧r.look=nV L o∧(cL ob→cL obj)∧
   ta P qf S L (Tx rows (fun i=>decide (i<j)) 0 tm) (Mx rows (fun i=>decide (i<j)) 0 m) cj hj o=some (obj,cj',r.v,r.wr,r.rd)
 |[],tm,m,c,h,ob,c',tm',m',rows,hx=>by
  simp only[PF,Option.some.injEq,Prod.mk.injEq] at hx
  obtain ⟨rfl,rfl,rfl,rfl,rfl⟩:=hx
  exact ⟨rfl,rfl,rfl,fun j o hj=>by simp at hj⟩
 |o::rest,tm,m,c,h,ob,c',tm',m',rows,hx=>by
  simp only[PF,Te] at hx
  split at hx
  ·rename_i ob1 c1 v wr rd hd
   split at hx
   ·rename_i ob2 c2 tm2 m2 rows2 hl
    simp only[Option.some.injEq,Prod.mk.injEq] at hx
    obtain ⟨rfl,rfl,rfl,rfl,rfl⟩:=hx
    obtain ⟨h1,h2,h3,h4⟩:=yd rest _ _ _ _ hl
    refine ⟨by simp[h1],?_,?_,?_⟩
    ·simp only[Tx,if_true];rw[vN];exact h2
    ·simp only[Mx,if_true];rw[u9];exact h3
    ·intro j o' hj
     cases j with
     |zero=>
      simp only[List.getElem?_cons_zero,Option.some.injEq] at hj
      subst hj
      refine ⟨_,ob1,c,c1,h,rfl,rfl,rfl,fun ha=>(aY.1 ha).1,?_⟩
      rw[zG _ _ _ _ (by simp),zp _ _ _ _ (by simp)]
      exact hd
     |succ j=>
      obtain ⟨r,obj,cj,cj',hj',g1,g2,g3,g4,g5⟩:=h4 j o' (by simpa using hj)
      refine ⟨r,obj,cj,cj',hj',by simpa using g1,g2,g3,fun ha=>g4 (aY.1 ha).2,?_⟩
      simp only[Tx,Mx,show decide (0<j+1)=true by simp,if_true]
      rw[vN,u9]
      simp only[Nat.add_lt_add_iff_right]
      exact g5
   ·simp at hx
  ·simp at hx
theorem ms {acc:List Nat} {i:Nat}:∀{es:List Edge},(tn acc es).testBit i=true→∃e∈es,Region.binds .any e=true∧(e.on=i∨(acc.getD e.on 0).testBit i=true)
 |[],h=>by simp[tn] at h
 |e::es,h=>by
  simp only[tn] at h
  split at h
  ·rename_i hb
   simp only[Nat.testBit_or,Bool.or_eq_true] at h
   rcases h with (h|h)|h
   ·rw[Nat.testBit_two_pow] at h
    exact ⟨e,by simp,hb,.inl (by simpa using h)⟩
   ·exact ⟨e,by simp,hb,.inr h⟩
   ·obtain ⟨e',h1,h2⟩:=ms h
    exact ⟨e',by simp[h1],h2⟩
  ·obtain ⟨e',h1,h2⟩:=ms h
   exact ⟨e',by simp[h1],h2⟩
theorem sd:∀(os:List Oper) (acc:List Nat),(∀i,i<acc.length→(rU os acc)[i]? =acc[i]?)∧
  ∀j o,os[j]? =some o→∃acc',(rU os acc)[acc.length+j]? =some (tn acc' o.after.toList)∧acc'.length=acc.length+j∧∀i,i<acc'.length→(rU os acc)[i]? =acc'[i]?
 |[],acc=>⟨fun _ _=>rfl,fun j o h=>by simp at h⟩
 |o::os,acc=>by
  obtain ⟨h1,h2⟩:=sd os (acc++[tn acc o.after.toList])
  simp only[List.length_append,List.length_cons,List.length_nil] at h1 h2
  refine ⟨fun i hi=> ?_,fun j o' hj=> ?_⟩
  ·simp only[rU];rw[h1 i (by omega),List.getElem?_append_left hi]
  ·cases j with
   |zero=>
    simp only[List.getElem?_cons_zero,Option.some.injEq] at hj
    subst hj
    refine ⟨acc,?_,rfl,fun i hi=> ?_⟩
    ·simp only[rU,Nat.add_zero];rw[h1 acc.length (by omega)];simp
    ·simp only[rU];rw[h1 i (by omega),List.getElem?_append_left hi]
   |succ j=>
    obtain ⟨acc',g1,g2,g3⟩:=h2 j o' (by simpa using hj)
    refine ⟨acc',?_,by omega,fun i hi=> ?_⟩
    ·simp only[rU];rw[show acc.length+(j+1)=acc.length+(0+1)+j by omega];exact g1
    ·simp only[rU];exact g3 i hi
def Hr (L:List Oper) (X:Nat→Bool):Prop:=∀j o,L[j]? =some o→X j=true→∀e∈o.after.toList,Region.binds .any e=true→X e.on=true
theorem ig:∀(os:List Oper) (k j:Nat) (o:Oper),l9 k os=true→os[j]? =some o→∀e∈o.after.toList,Region.binds .any e=true→e.on<k+j
 |[],_,_,_,_,h,_,_,_=>by simp at h
 |p::os,k,0,o,h,ho,e,he,hb=>by
  simp only[List.getElem?_cons_zero,Option.some.injEq] at ho
  subst ho
  simp only[l9,Bool.and_eq_true,List.all_eq_true] at h
  have:=h.1 e he
  simp only[hb,Bool.not_true,Bool.false_or,Nat.blt,Nat.ble_eq] at this
  omega
 |p::os,k,j+1,o,h,ho,e,he,hb=>by
  simp only[l9,Bool.and_eq_true] at h
  have:=ig os (k+1) j o h.2 (by simpa using ho) e he hb
  omega
theorem mw {L:List Oper} {X:Nat→Bool} (hc:Hr L X) (he:l9 0 L=true):∀(n j:Nat),j≤n→∀(o:Oper) (p i:Nat),L[j]? =some o→(rU L [])[j]? =some p→p.testBit i=true→
  (∀e∈o.after.toList,Region.binds .any e=true→X e.on=true)→X i=true
 |0,j,hj,o,p,i,ho,hp,ht,hx=>by
  obtain ⟨acc',g1,g2,g3⟩:=(sd L []).2 j o ho
  simp only[List.length_nil,Nat.zero_add] at g1 g2
  rw[hp] at g1
  simp only[Option.some.injEq] at g1
  subst g1
  obtain ⟨e,h1,h2,h3⟩:=ms ht
  have:=ig L 0 j o he ho e h1 h2
  omega
 |n+1,j,hj,o,p,i,ho,hp,ht,hx=>by
  obtain ⟨acc',g1,g2,g3⟩:=(sd L []).2 j o ho
  simp only[List.length_nil,Nat.zero_add] at g1 g2
  rw[hp] at g1
  simp only[Option.some.injEq] at g1
  subst g1
  obtain ⟨e,h1,h2,h3⟩:=ms ht
  have hlt:=ig L 0 j o he ho e h1 h2
  simp only[Nat.zero_add] at hlt
  have hXe:=hx e h1 h2
  rcases h3 with h3|h3
  ·rw[←h3];exact hXe
  ·have hjl:=aM ho
   have hoe:∃oe,L[e.on]? =some oe:=⟨_,List.getElem?_eq_getElem (by omega)⟩
   obtain ⟨oe,hoe⟩:=hoe
   have hpe:(rU L [])[e.on]? =some (acc'.getD e.on 0):=by
    rw[g3 e.on (by omega),List.getD_eq_getElem?_getD,List.getElem?_eq_getElem (by omega:e.on<acc'.length)];rfl
   exact mw hc he n e.on (by omega) oe _ i hoe hpe h3 (hc e.on oe hoe hXe)
theorem s4 {base total:Nat} {rows:List Row}:∀(rs:List Row) (ps:List Nat) (j k:Nat) (r:Row),sj base total rows j ps rs=true→rs[k]? =some r→
  ∃p,ps[k]? =some p∧zg base total rows (j+k) p r=true
 |[],_,_,_,_,_,h=>by simp at h
 |q::rs,[],_,_,_,h,_=>by simp[sj] at h
 |q::rs,p::ps,j,0,r,h,hr=>by
  simp only[List.getElem?_cons_zero,Option.some.injEq] at hr
  subst hr
  simp only[sj,Bool.and_eq_true] at h
  exact ⟨p,rfl,h.1⟩
 |q::rs,p::ps,j,k+1,r,h,hr=>by
  simp only[sj,Bool.and_eq_true] at h
  obtain ⟨p',h1,h2⟩:=s4 rs ps (j+1) k r h.2 (by simpa using hr)
  exact ⟨p',by simpa using h1,by rwa[show j+(k+1)=j+1+k by omega]⟩
theorem nd {q:Row} {p:Nat}:∀(rs:List Row) (k i:Nat) (r:Row),vj q p k rs=true→rs[i]? =some r→tW r q=true→p.testBit (k+i)=true
 |[],_,_,_,_,h,_=>by simp at h
 |x::rs,k,0,r,h,hr,hc=>by
  simp only[List.getElem?_cons_zero,Option.some.injEq] at hr
  subst hr
  simp only[vj,Bool.and_eq_true,hc,Bool.not_true,Bool.false_or] at h
  simpa using h.1
 |x::rs,k,i+1,r,h,hr,hc=>by
  simp only[vj,Bool.and_eq_true] at h
  have:=nd rs (k+1) i r h.2 (by simpa using hr) hc
  rwa[show k+(i+1)=k+1+i by omega]
theorem Gp {x y:Option Nat}:ku x y=true↔∃b,x=some b∧y=some b:=by
 unfold ku
 split
 ·rename_i a b;simp only[Nat.beq_eq,Option.some.injEq];constructor
  ·rintro rfl;exact ⟨_,rfl,rfl⟩
  ·rintro ⟨c,rfl,rfl⟩;rfl
 ·rename_i h
  simp only[Bool.false_eq_true,false_iff]
  rintro ⟨b,rfl,rfl⟩
  exact h b b rfl rfl
theorem wF {p j b:Nat}:∀(rs:List Row) (k:Nat),Ez p j b k rs=true→∃i r,rs[i]? =some r∧(k+i=j∨p.testBit (k+i)=true)∧r.wb=some b
 |[],_,h=>by simp[Ez] at h
 |r::rs,k,h=>by
  simp only[Ez,Bool.or_eq_true,Bool.and_eq_true,Nat.beq_eq] at h
  rcases h with ⟨h1,h2⟩|h
  ·obtain ⟨c,h3,h4⟩:=Gp.1 h2
   simp only[Option.some.injEq] at h4
   subst h4
   exact ⟨0,r,rfl,by simpa using h1,h3⟩
  ·obtain ⟨i,q,h1,h2,h3⟩:=wF rs (k+1) h
   exact ⟨i+1,q,by simpa using h1,by rwa[show k+(i+1)=k+1+i by omega],h3⟩
theorem LW (r:Row):r.wb=Je r.wr:=by unfold Row.wb Je;cases r.wr<;>rfl
theorem yV {m:List Blk} {x:Option (Nat×Blk)} (h:∀b k,x=some (b,k)→k.live=true) {b:Nat} (hb:ed m b=true):ed (v6 m x) b=true:=by
 cases x with
 |none=>exact hb
 |some x=>
  obtain ⟨b',k⟩:=x
  have hk:=h b' k rfl
  have hlt:b<m.length:=by
   unfold ed at hb
   split at hb
   ·rename_i q hq;exact aM hq
   ·cases hb
  by_cases hbb:b'=b
  ·subst hbb
   simp only[ed,v6,List.getElem?_set_self hlt,hk]
  ·simp only[ed,v6,List.getElem?_set_ne hbb]
   exact hb
theorem ux (X:Nat→Bool):∀(rs:List Row) (k:Nat) (m:List Blk),(∀(i:Nat) (r:Row) (b:Nat) (q:Blk),rs[i]? =some r→r.wr=some (b,q)→q.live=true)→∀b,ed m b=true→ed (Mx rs X k m) b=true
 |[],_,_,_,_,h=>h
 |r::rs,k,m,hw,b,h=>by
  simp only[Mx]
  refine ux X rs (k+1) _ (fun i q b x hq hx=>hw (i+1) q b x (by simpa using hq) hx) b ?_
  split
  ·exact yV (fun b' q hq=>hw 0 r b' q rfl hq) h
  ·exact h
theorem tI (X:Nat→Bool):∀(rs:List Row) (k:Nat) (m:List Blk),(∀(i:Nat) (r:Row) (b:Nat) (q:Blk),rs[i]? =some r→r.wr=some (b,q)→q.live=true)→∀(i:Nat) (r:Row) (b:Nat),rs[i]? =some r→r.wb=some b→
  X (k+i)=true→b<m.length→ed (Mx rs X k m) b=true
 |[],_,_,_,_,_,_,h,_,_,_=>by simp at h
 |q::rs,k,m,hw,0,r,b,h,hb,hX,hl=>by
  simp only[List.getElem?_cons_zero,Option.some.injEq] at h
  subst h
  simp only[Nat.add_zero] at hX
  simp only[Mx,hX,if_true]
  refine ux X rs (k+1) _ (fun i q b x hq hx=>hw (i+1) q b x (by simpa using hq) hx) b ?_
  unfold Row.wb at hb
  split at hb
  ·rename_i b' x hx
   simp only[Option.some.injEq] at hb
   subst hb
   have:=hw 0 q b' x rfl hx
   simp[hx,ed,v6,hl,this]
  ·simp at hb
 |q::rs,k,m,hw,i+1,r,b,h,hb,hX,hl=>by
  simp only[Mx]
  refine tI X rs (k+1) _ (fun i q b x hq hx=>hw (i+1) q b x (by simpa using hq) hx) i r b (by simpa using h) hb (by rwa[show k+1+i=k+(i+1) by omega]) ?_
  split
  ·rw[pP];exact hl
  ·exact hl
def tK:Nat→(Nat→Bool)→Nat
 |0,_=>0
 |n+1,X=>(if X n then 0 else 1)+tK n X
theorem zk:∀(n:Nat) (X Y:Nat→Bool),(∀i,i<n→X i=Y i)→tK n X=tK n Y
 |0,_,_,_=>rfl
 |n+1,X,Y,h=>by simp only[tK,h n (by omega),zk n X Y fun i hi=>h i (by omega)]
theorem tk:∀(n j:Nat) (X Y:Nat→Bool),j<n→X j=false→(∀i,Y i=(X i||decide (i=j)))→tK n Y+1=tK n X
 |0,_,_,_,h,_,_=>by omega
 |n+1,j,X,Y,h,hX,hY=>by
  simp only[tK]
  by_cases hj:j=n
  ·subst hj
   rw[zk j Y X fun i hi=>by rw[hY,decide_eq_false (by omega),Bool.or_false]]
   have:Y j=true:=by rw[hY];simp
   simp only[this,hX,if_true,Bool.false_eq_true,if_false];omega
  ·have ih:=tk n j X Y (by omega) hX hY
   have:Y n=X n:=by rw[hY,decide_eq_false (by omega),Bool.or_false]
   rw[this];omega
theorem zd:∀(n:Nat) (X:Nat→Bool),tK n X=0→∀i,i<n→X i=true
 |0,_,_,i,hi=>by omega
 |n+1,X,h,i,hi=>by
  simp only[tK] at h
  by_cases hin:i=n
  ·subst hin
   cases hx:X i
   ·simp[hx] at h
   ·rfl
  ·exact zd n X (by omega) i (by omega)
theorem qO:∀{m:List Blk},ri m=true→∀(i:Nat) (b:Blk),m[i]? =some b→b.live=true
 |[],_,i,b,h=>by simp at h
 |x::m,ha,0,b,h=>by
  simp only[List.getElem?_cons_zero,Option.some.injEq] at h
  subst h
  simp only[ri,Bool.and_eq_true] at ha
  exact ha.1
 |x::m,ha,i+1,b,h=>by
  simp only[ri,Bool.and_eq_true] at ha
  exact qO ha.2 i b (by simpa using h)
theorem mj:∀(os:List Oper) (i:Nat) (b:Blk),(lr os)[i]? =some b→b.live=false∧b.ps=[]
 |[],i,b,h=>by simp[lr] at h
 |o::os,i,b,h=>by
  simp only[lr] at h
  split at h
  ·cases i with
   |zero=>simp only[List.getElem?_cons_zero,Option.some.injEq] at h;subst h;exact ⟨rfl,rfl⟩
   |succ i=>exact mj os i b (by simpa using h)
  ·exact mj os i b h
structure Facts (P:Program) (qf:QF) (S:Nat→Bool) (L:List Oper) (base total:Nat) (rows:List Row) (tm0:List AV) (m0:List Blk):Prop where
 len:rows.length=L.length
 edges:l9 0 L=true
 lex:∀j o,L[j]? =some o→∃r obj cj cj' hj,rows[j]? =some r∧r.dst=o.dst∧r.look=nV L o∧cL obj∧
   ta P qf S L (Tx rows (fun i=>decide (i<j)) 0 tm0) (Mx rows (fun i=>decide (i<j)) 0 m0) cj hj o=some (obj,cj',r.v,r.wr,r.rd)
 ok:∀j r,rows[j]? =some r→∃p,(rU L [])[j]? =some p∧zg base total rows j p r=true
 tot:m0.length=total
 base0:∀b,b<base→ed m0 b=true
theorem Facts.wrLive {qf:QF} {S:Nat→Bool} {L:List Oper} {base total:Nat} {rows:List Row} {tm0:List AV} {m0:List Blk}
  (F:Facts P qf S L base total rows tm0 m0):∀(i:Nat) (r:Row) (b:Nat) (q:Blk),rows[i]? =some r→r.wr=some (b,q)→q.live=true:=by
 intro i r b q hr hw
 obtain ⟨p,_,h⟩:=F.ok i r hr
 simp only[zg,Bool.and_eq_true] at h
 have:=h.2.2
 rw[hw] at this
 simp only[aa2,Bool.and_eq_true] at this
 exact this.1
theorem Kf {qf:QF} (hq:aap P qf) {S:Nat→Bool} {ops:Array Oper} {base total:Nat} {rows:List Row} {tm0:List AV} {m0:List Blk}
  (F:Facts P qf S ops.toList base total rows tm0 m0) {X Y:Nat→Bool} (hcl:Hr ops.toList X) {j:Nat} {o:Oper} (ho:ops.toList[j]? =some o) (hXj:X j=false)
  (hrdy:∀e∈o.after.toList,Region.binds .any e=true→X e.on=true) (hY:∀i,Y i=(X i||decide (i=j)))
  {w0 w:World} {φ:c7} {a:Act} (hi:Inv w0 φ (Tx rows X 0 tm0) (Mx rows X 0 m0) a w) {K:Act→World→Prop} {Q:Exit→Act→World→Prop}
  (hK:∀φ' a' w',(∀b,b<base→φ' b=φ b)→Inv w0 φ' (Tx rows Y 0 tm0) (Mx rows Y 0 m0) a' w'→K a' w'):
  if Region.wanted o (yielded ops a.tmps) then o.wp P a w K Q∨(o.asks P a w∧LetsOut Q) else K (a.put o.dst undef) w:=by
 obtain ⟨r,obj,cj,cj',hj,hr,hdst,hlook,hobj,hd⟩:=F.lex j o ho
 obtain ⟨p,hp,hrow⟩:=F.ok j r hr
 simp only[zg,Bool.and_eq_true] at hrow
 obtain ⟨hprev,hvok,hwok⟩:=hrow
 have hbefore:∀i q,i<j→rows[i]? =some q→tW q r=true→X i=true:=by
  intro i q hij hq hc
  have:=nd (rows.take j) 0 i q hprev (by rw[List.getElem?_take_of_lt hij];exact hq) hc
  rw[Nat.zero_add] at this
  exact mw hcl F.edges j j (Nat.le_refl _) o p i ho hp this hrdy
 have hafter:∀i q,j<i→rows[i]? =some q→tW r q=true→X i=false:=by
  intro i q hij hq hc
  cases hx:X i with
  |false=>rfl
  |true=>
   have hil:=aM hq
   rw[F.len] at hil
   have hoi:∃oi,ops.toList[i]? =some oi:=⟨_,List.getElem?_eq_getElem hil⟩
   obtain ⟨oi,hoi⟩:=hoi
   obtain ⟨pi,hpi,hrowi⟩:=F.ok i q hq
   simp only[zg,Bool.and_eq_true] at hrowi
   have:=nd (rows.take i) 0 j r hrowi.1 (by rw[List.getElem?_take_of_lt hij];exact hr) hc
   rw[Nat.zero_add] at this
   have:=mw hcl F.edges i i (Nat.le_refl _) oi pi j hoi hpi this (hcl i oi hoi hx)
   rw[hXj] at this;cases this
 have hsplit:∀i q,rows[i]? =some q→(i<j→tW q r=true)→(j<i→tW r q=true)→X (0+i)=decide (0+i<j):=by
  intro i q hq h1 h2
  rw[Nat.zero_add]
  by_cases hij:i<j
  ·rw[hbefore i q hij hq (h1 hij)];simp[hij]
  ·by_cases hji:j<i
   ·rw[hafter i q hji hq (h2 hji)];simp;omega
   ·have:i=j:=by omega
    subst this;rw[hXj];simp
 have ht:∀t∈nV ops.toList o,(Tx rows (fun i=>decide (i<j)) 0 tm0)[t]? =(Tx rows X 0 tm0)[t]? :=by
  intro t ht
  refine LU rows _ _ 0 _ _ t rfl rfl fun i q hq hdq=> ?_
  refine (hsplit i q hq ?_ ?_).symm
  ·intro _;simp[tW,DM,hdq,hlook,j0.2 ht]
  ·intro _;simp[tW,DM,hdq,hlook,j0.2 ht]
 have hb:∀b∈r.rd,(Mx rows (fun i=>decide (i<j)) 0 m0)[b]? =(Mx rows X 0 m0)[b]? :=by
  intro b hb
  refine MX rows _ _ 0 _ _ b rfl rfl fun i q hq hdq=> ?_
  rw[←LW] at hdq
  refine (hsplit i q hq ?_ ?_).symm
  ·intro _;simp[tW,DM,hdq,j0.2 hb]
  ·intro _;simp[tW,DM,hdq,j0.2 hb]
 have hd':=CM ht (by rw[oy,oy]) hd hb
 have hTY:Tx rows Y 0 tm0=ik (Tx rows X 0 tm0) o.dst r.v:=by
  rw[←hdst]
  refine zn rows X Y 0 j r tm0 hr (by rwa[Nat.zero_add]) (fun i=>by rw[hY,Nat.zero_add]) ?_
  intro i q hij hq hx
  rw[Nat.zero_add] at hx
  cases hs:ku r.dst q.dst with
  |false=>rfl
  |true=>rw[hafter i q hij hq (by simp[tW,hs])] at hx;cases hx
 have hMY:Mx rows Y 0 m0=v6 (Mx rows X 0 m0) r.wr:=by
  refine yA rows X Y 0 j r m0 hr (by rwa[Nat.zero_add]) (fun i=>by rw[hY,Nat.zero_add]) ?_
  intro i q hij hq hx
  rw[Nat.zero_add] at hx
  cases hs:ku (Je r.wr) (Je q.wr) with
  |false=>rfl
  |true=>rw[←LW,←LW] at hs;rw[hafter i q hij hq (by simp[tW,hs])] at hx;cases hx
 have hwl:=F.wrLive
 have hmay:∀b,Un base total rows j p b=true→ed (Mx rows Y 0 m0) b=true:=by
  intro b hb
  simp only[Un,Bool.or_eq_true,Bool.and_eq_true,Nat.blt,Nat.ble_eq] at hb
  rcases hb with hb|⟨hb,hown⟩
  ·exact ux Y rows 0 m0 hwl b (F.base0 b hb)
  ·obtain ⟨i,q,h1,h2,h3⟩:=wF rows 0 hown
   rw[Nat.zero_add] at h2
   refine tI Y rows 0 m0 hwl i q b h1 h3 ?_ (by rw[F.tot];exact hb)
   rw[Nat.zero_add,hY]
   rcases h2 with h2|h2
   ·simp[h2]
   ·rw[mw hcl F.edges j j (Nat.le_refl _) o p i ho hp h2 hrdy];rfl
 have hup:∀b,ed (Mx rows X 0 m0) b=true→ed (Mx rows Y 0 m0) b=true:=by
  intro b hb
  rw[hMY]
  exact yV (fun b' k hk=>hwl j r b' k hr hk) hb
 refine CA hq hd' hobj hi ?_
 intro φ' w' hag htm hm'
 refine hK φ' _ w' (fun b hb=>hag b (ux X rows 0 m0 hwl b (F.base0 b hb))) ⟨?_,(by cases o.dst<;>exact hi.defs),?_,?_,?_⟩
 ·rw[hTY]
  cases o.dst with
  |none=>exact htm
  |some d=>simp only[Act.put,ik];exact htm.set d _
 ·intro x hx
  rw[hTY] at hx
  have:x∈Tx rows X 0 tm0∨x=r.v:=by
   cases hdd:o.dst with
   |none=>rw[hdd] at hx;exact .inl hx
   |some d=>rw[hdd] at hx;exact List.mem_or_eq_of_mem_set hx
  rcases this with hx|rfl
  ·exact AV.okP_imp hup x (hi.okt x hx)
  ·exact AV.okP_imp hmay _ hvok
 ·intro i b hb hl
  rw[hMY] at hb
  cases hw:r.wr with
  |none=>rw[hw] at hb;exact cu hup _ (hi.okm i b hb hl)
  |some x=>
   obtain ⟨b',k⟩:=x
   rw[hw] at hb hwok
   simp only[v6] at hb
   simp only[aa2,Bool.and_eq_true] at hwok
   by_cases hib:i=b'
   ·subst hib
    rw[List.getElem?_set] at hb
    simp only[if_true] at hb
    split at hb
    ·simp only[Option.some.injEq] at hb;subst hb;exact cu hmay _ hwok.2
    ·simp at hb
   ·rw[List.getElem?_set_ne (by omega)] at hb
    exact cu hup _ (hi.okm i b hb hl)
 ·rw[hMY];exact hm'
theorem mp {ops:Array Oper} {listed:Array Bool} {i:Nat}:i∈Region.ready .any ops listed↔i<ops.size∧listed.getD i true=false∧∃o,ops[i]? =some o∧∀e∈o.after.toList,Region.binds .any e=true→listed.getD e.on false=true:=by
 unfold Region.ready
 simp only[List.mem_filter,List.mem_range,Bool.and_eq_true,Bool.not_eq_true']
 refine and_congr_right fun hi=>and_congr_right fun _=> ?_
 have ho:ops[i]? =some ops[i]:=Array.getElem?_eq_getElem hi
 rw[ho]
 simp only[Option.map_some,Option.getD_some,Array.all_eq_true',Option.some.injEq,exists_eq_left']
 constructor
 ·intro h e he hb
  have:=h e (by simpa using he)
  simpa[hb] using this
 ·intro h e he
  cases hb:Region.binds .any e with
  |false=>simp
  |true=>simpa using h e (by simpa using he) hb
theorem gJ {listed:Array Bool} {i:Nat} (h:i<listed.size):listed.getD i true=listed.getD i false:=by
 simp[Array.getD,h]
theorem Pd {qf:QF} (hq:aap P qf) {S:Nat→Bool} {ops:Array Oper} {base total:Nat} {rows:List Row} {tm0:List AV} {m0:List Blk}
  (F:Facts P qf S ops.toList base total rows tm0 m0) {w0:World} {φ0:c7} {Q:Exit→Act→World→Prop}
  (hQ:∀φ' a' w',(∀b,b<base→φ' b=φ0 b)→Inv w0 φ' (Tx rows (fun _=>true) 0 tm0) (Mx rows (fun _=>true) 0 m0) a' w'→Q .normal a' w'):
  ∀(fuel:Nat) (listed:Array Bool) (φ:c7) (a:Act) (w:World),listed.size=ops.size→tK ops.size (fun i=>listed.getD i false)≤fuel→Hr ops.toList (fun i=>listed.getD i false)→
   (∀b,b<base→φ b=φ0 b)→Inv w0 φ (Tx rows (fun i=>listed.getD i false) 0 tm0) (Mx rows (fun i=>listed.getD i false) 0 m0) a w→wpAny P .any ops Q fuel listed a w:=by
 have hend:∀(listed:Array Bool) (φ:c7) (a:Act) (w:World),listed.size=ops.size→Region.ready .any ops listed=[]→
   (∀b,b<base→φ b=φ0 b)→Inv w0 φ (Tx rows (fun i=>listed.getD i false) 0 tm0) (Mx rows (fun i=>listed.getD i false) 0 m0) a w→Q .normal a w:=by
  intro listed φ a w hsz hrd hφ hi
  have hall:∀n i,i≤n→i<ops.size→listed.getD i false=true:=by
   intro n
   induction n with
   |zero=>
    intro i hi hin
    cases hx:listed.getD i false with
    |true=>rfl
    |false=>
     have:i∈Region.ready .any ops listed:=by
      refine mp.2 ⟨hin,by rw[gJ (by omega)];exact hx,ops[i],Array.getElem?_eq_getElem hin,fun e he hb=> ?_⟩
      have:=ig ops.toList 0 i ops[i] F.edges (by rw[Array.getElem?_toList];exact Array.getElem?_eq_getElem hin) e he hb
      omega
     rw[hrd] at this;simp at this
   |succ n ih=>
    intro i hi hin
    cases hx:listed.getD i false with
    |true=>rfl
    |false=>
     have:i∈Region.ready .any ops listed:=by
      refine mp.2 ⟨hin,by rw[gJ (by omega)];exact hx,ops[i],Array.getElem?_eq_getElem hin,fun e he hb=> ?_⟩
      have:=ig ops.toList 0 i ops[i] F.edges (by rw[Array.getElem?_toList];exact Array.getElem?_eq_getElem hin) e he hb
      exact ih e.on (by omega) (by omega)
     rw[hrd] at this;simp at this
  have hlen:rows.length=ops.size:=by rw[F.len];simp
  have hX:∀i,0≤i→i<0+rows.length→listed.getD i false=(fun _=>true) i:=fun i _ h=>hall i i (Nat.le_refl _) (by omega)
  refine hQ φ a w hφ ?_
  rw[←uT rows _ _ 0 tm0 hX,←vT rows _ _ 0 m0 hX]
  exact hi
 intro fuel
 induction fuel with
 |zero=>
  intro listed φ a w hsz hcnt hcl hφ hi
  have hrd:Region.ready .any ops listed=[]:=by
   rw[List.eq_nil_iff_forall_not_mem]
   intro i him
   obtain ⟨h1,h2,_⟩:=mp.1 him
   have:=zd ops.size (fun i=>listed.getD i false) (Nat.le_zero.1 hcnt) i h1
   rw[gJ (by omega)] at h2
   rw[h2] at this;cases this
  exact ⟨hrd,hend listed φ a w hsz hrd hφ hi⟩
 |succ fuel ih=>
  intro listed φ a w hsz hcnt hcl hφ hi
  refine ⟨fun hrd=>hend listed φ a w hsz hrd hφ hi,fun j hj=> ?_⟩
  obtain ⟨h1,h2,o,ho,h3⟩:=mp.1 hj
  rw[gJ (by omega)] at h2
  have hY:∀i,(fun i=>(listed.setIfInBounds j true).getD i false) i=((fun i=>listed.getD i false) i||decide (i=j)):=by
   intro i
   simp only[Array.getD_eq_getD_getElem?,Array.getElem?_setIfInBounds]
   by_cases hij:j=i
   ·subst hij;simp[hsz,h1]
   ·rw[if_neg hij,decide_eq_false (by omega),Bool.or_false]
  unfold wpOp
  rw[ho]
  refine Kf hq F (X:=fun i=>listed.getD i false) (Y:=fun i=>(listed.setIfInBounds j true).getD i false) hcl (by rw[Array.getElem?_toList];exact ho) h2 h3 hY hi ?_
  intro φ' a' w' hag hi'
  refine ih _ φ' a' w' (by simp[hsz]) ?_ ?_ (fun b hb=>(hag b hb).trans (hφ b hb)) hi'
  ·have:=tk ops.size j (fun i=>listed.getD i false) (fun i=>(listed.setIfInBounds j true).getD i false) h1 h2 hY
   omega
  ·intro i oi hoi hx e he hb
   rw[hY] at hx ⊢
   simp only[Bool.or_eq_true,decide_eq_true_eq] at hx ⊢
   rcases hx with hx|rfl
   ·exact .inl (hcl i oi hoi hx e he hb)
   ·rw[Array.getElem?_toList,ho] at hoi
    simp only[Option.some.injEq] at hoi
    subst hoi
    exact .inl (h3 e he hb)
theorem Cc {E:Env} (hE:EnvOK E) {S:Nat→Bool} {ops:Array Oper} {id:Nat} {Q:Exit→Act→World→Prop} {c c':List Bool} {ob:List Prop} {tm tm':List AV} {mem mem':List Blk}
  {w0 w:World} {φ:c7} {a:Act} (h:Lu E.P (E.fn,E.fm) S ops.toList tm mem c=some (ob,c',tm',mem')) (ho:cL ob) (hr:Rel w0 φ tm mem a w)
  (hQ:∀φ' a' w',Agree mem.length φ φ'→mem.length≤mem'.length→Rel w0 φ' tm' mem' a' w'→Q .normal a' w'):(Code.region id ops true).wp E.P Q a w:=by
 unfold Lu at h
 split at h
 ·rename_i ob1 c1 tm1 mem1 rows hl
  split at h
  ·rename_i hc
   simp only[Option.some.injEq,Prod.mk.injEq] at h
   obtain ⟨rfl,rfl,rfl,rfl⟩:=h
   simp only[Bool.and_eq_true] at hc
   obtain ⟨hlive,hedges,hrows⟩:=hc
   obtain ⟨g1,g2,g3,g4⟩:=yd _ _ _ _ _ hl
   have hbase:∀b,b<mem.length→ed (mem++lr ops.toList) b=true:=by
    intro b hb
    unfold ed
    rw[List.getElem?_append_left hb,List.getElem?_eq_getElem hb]
    exact qO hlive b _ (List.getElem?_eq_getElem hb)
   have hlb:∀b,mh mem.length b=true→ed (mem++lr ops.toList) b=true:=by
    intro b hb
    simp only[mh,Nat.blt,Nat.ble_eq] at hb
    exact hbase b (by omega)
   have F:Facts E.P (E.fn,E.fm) S ops.toList mem.length (mem++lr ops.toList).length rows tm (mem++lr ops.toList):=by
    refine ⟨g1,hedges,?_,?_,rfl,hbase⟩
    ·intro j o hj
     obtain ⟨r,obj,cj,cj',hjj,e1,e2,e3,e4,e5⟩:=g4 j o hj
     exact ⟨r,obj,cj,cj',hjj,e1,e2,e3,e4 ho,e5⟩
    ·intro j r hj
     obtain ⟨p,e1,e2⟩:=s4 rows _ 0 j r hrows hj
     exact ⟨p,e1,by rwa[Nat.zero_add] at e2⟩
   have hsplit:∀(i:Nat) (b:Blk),(mem++lr ops.toList)[i]? =some b→b.live=true→mem[i]? =some b:=by
    intro i b hb hl
    by_cases hi:i<mem.length
    ·rwa[List.getElem?_append_left hi] at hb
    ·rw[List.getElem?_append_right (by omega)] at hb
     rw[(mj _ _ _ hb).1] at hl;cases hl
   have hinv:Inv w0 φ tm (mem++lr ops.toList) a w:=by
    refine ⟨hr.tmps,hr.defs,?_,?_,?_⟩
    ·intro x hx
     have:=hr.wft x hx
     rw[AV.wf_okP] at this
     exact AV.okP_imp hlb x this
    ·intro i b hb hl
     exact cu hlb _ (hr.mrel.wf i b (hsplit i b hb hl))
    ·refine ⟨hr.mrel.below,?_,?_,?_,?_,?_⟩
     ·intro i j b b' hb hb' hl hl' hro hro' he
      exact hr.mrel.inj i j b b' (hsplit i b hb hl) (hsplit j b' hb' hl') hl hl' hro hro' he
     ·intro i b hb hl;exact hr.mrel.own i b (hsplit i b hb hl) hl
     ·intro i b hb hl;exact hr.mrel.old i b (hsplit i b hb hl) hl
     ·intro i b hb hl;exact hr.mrel.blk i b (hsplit i b hb hl) hl
     ·intro i b hb
      by_cases hi:i<mem.length
      ·rw[List.getElem?_append_left hi] at hb
       exact di (by simp) _ (hr.mrel.wf i b hb)
      ·rw[List.getElem?_append_right (by omega)] at hb
       rw[(mj _ _ _ hb).2];rfl
   refine wp_region_any hE.mixed ?_
   have hlist:∀i,(Array.replicate ops.size false).getD i false=false:=by
    intro i;simp only[Array.getD_eq_getD_getElem?,Array.getElem?_replicate];split<;>rfl
   refine Pd (qf:=(E.fn,E.fm)) ⟨hE.fns,hE.fms⟩ F (w0:=w0) (φ0:=φ) ?_ ops.size _ φ a _ (by simp) ?_ ?_ (fun _ _=>rfl) ?_
   ·intro φ' a' w' hag hi
    rw[←g2,←g3] at hi
    refine hQ φ' a' w' (fun b hb=>hag b hb) ?_ hi.rel
    rw[g3,oy];simp
   ·have:∀n (X:Nat→Bool),tK n X≤n:=by
     intro n X
     induction n with
     |zero=>exact Nat.le_refl _
     |succ n ih=>simp only[tK];split<;>omega
    exact this _ _
   ·intro j o _ hx;have h0:=hlist j;simp only at hx;rw[h0] at hx;cases hx
   ·rw[zG _ _ _ _ (fun i _=>hlist i),zp _ _ _ _ (fun i _=>hlist i)]
    have hdrew:Below w.heap.size w {w with drawn:=w.drawn+1}:=⟨rfl,rfl,rfl,Nat.le_refl _,fun _ _=>rfl⟩
    exact ⟨hinv.tmps,hinv.defs,hinv.okt,hinv.okm,hinv.mrel.below_of hdrew⟩
  ·simp at h
 ·simp at h
end
section
variable {P:Program} {w0 w:World} {φ:c7} {mem:List Blk} {tm:List AV} {a:Act}
def z9 (E:Env) (n:Nat):Prop:=
 ∀S x tm mem c ob c' ex tm' mem',E.lp (ajE S x)=none→dH E n S (.loop x) tm mem c=some (ob,c',ex,tm',mem')→cL ob→∀w0 φ a w,Rel w0 φ tm mem a w→∀Q:Exit→Act→World→Prop,
  (∀φ' a' w',Agree mem.length φ φ'→mem.length≤mem'.length→Rel w0 φ' tm' mem' a' w'→Q ex.to a' w')→Code.rounds E.P x Q n a w
theorem GL {E:Env} {n:Nat} (ih:VA E.P (dH E n)) (ihl:z9 E n):z9 E (n+1):=by
 intro S x tm mem c ob c' ex tm' mem' hlp h ho w0 φ a w hr Q hQ
 unfold dH at h
 simp only[hlp] at h
 split at h
 ·rename_i ob1 c1 tm1 mem1 hx
  split at h
  ·rename_i ob2 r hy
   simp only[Option.some.injEq,Prod.mk.injEq] at h
   obtain ⟨rfl,rfl⟩:=h
   rw[aY] at ho
   refine ih S x _ _ _ _ _ _ _ _ hx ho.1 w0 φ a w hr _ ?_
   intro φ1 a1 w1 ha1 hl1 hr1
   refine ihl S x _ _ _ _ _ _ _ _ hlp hy ho.2 w0 φ1 a1 w1 hr1 Q ?_
   intro φ2 a2 w2 ha2 hl2 hr2
   exact hQ φ2 a2 w2 (ha1.trans hl1 ha2) (Nat.le_trans hl1 hl2) hr2
  ·simp at h
 ·rename_i hne
  refine ih S x _ _ _ _ _ _ _ _ h ho w0 φ a w hr _ ?_
  intro φ1 a1 w1 ha1 hl1 hr1
  have hQ1:=hQ φ1 a1 w1 ha1 hl1 hr1
  cases ex with
  |normal=>exact absurd h (hne _ _ _ _)
  |exit id=>exact hQ1
  |ret=>exact hQ1
theorem xp {E:Env} (hE:EnvOK E):∀n,VA E.P (dH E n)∧z9 E n
 |0=>⟨by intro S code tm mem c ob c' ex tm' mem' h;simp[dH] at h,by intro S x tm mem c ob c' ex tm' mem' _ h;simp[dH] at h⟩
 |n+1=>by
  obtain ⟨ih,ihl⟩:=xp hE n
  have hcf:=jQ hE ih
  have hls:=GL ih ihl
  refine ⟨?_,hls⟩
  intro S code tm mem c ob c' ex tm' mem' h ho w0 φ a w hr Q hQ
  unfold dH at h
  split at h
  ·
   simp only[Option.some.injEq,Prod.mk.injEq] at h
   obtain ⟨rfl,rfl,rfl,rfl,rfl⟩:=h
   exact wp_skip (hQ φ a w (Agree.refl _ _) (Nat.le_refl _) hr)
  ·rename_i id ops draw
   split at h
   ·split at h
    ·rename_i ob1 c1 tm1 mem1 hops
     simp only[Option.some.injEq,Prod.mk.injEq] at h
     obtain ⟨rfl,rfl,rfl,rfl,rfl⟩:=h
     refine wp_region ?_
     have:=vp (P:=E.P) (ops:=ops) hcf (Q:=Q) ops.toList 0 tm mem c c1 ob1 tm1 mem1 φ a w (fun j=>by simp) hops ho hr hQ
     rw[Array.length_toList,←List.range_eq_range'] at this
     exact this
    ·simp at h
   ·split at h
    ·rename_i ob1 c1 tm1 mem1 hops
     simp only[Option.some.injEq,Prod.mk.injEq] at h
     obtain ⟨rfl,rfl,rfl,rfl,rfl⟩:=h
     exact Cc hE hops ho hr hQ
    ·simp at h
  ·
   rename_i x y
   split at h
   ·rename_i ob1 c1 tm1 mem1 hx
    split at h
    ·rename_i ob2 r hy
     simp only[Option.some.injEq,Prod.mk.injEq] at h
     obtain ⟨rfl,rfl⟩:=h
     rw[aY] at ho
     refine wp_seq (ih S x _ _ _ _ _ _ _ _ hx ho.1 w0 φ a w hr _ ?_)
     intro φ1 a1 w1 ha1 hl1 hr1
     refine ih S y _ _ _ _ _ _ _ _ hy ho.2 w0 φ1 a1 w1 hr1 _ ?_
     intro φ2 a2 w2 ha2 hl2 hr2
     exact hQ φ2 a2 w2 (ha1.trans hl1 ha2) (Nat.le_trans hl1 hl2) hr2
    ·simp at h
   ·rename_i hne
    refine wp_seq (ih S x _ _ _ _ _ _ _ _ h ho w0 φ a w hr _ ?_)
    intro φ1 a1 w1 ha1 hl1 hr1
    have hQ1:=hQ φ1 a1 w1 ha1 hl1 hr1
    cases ex with
    |normal=>exact absurd h (hne _ _ _ _)
    |exit id=>exact hQ1
    |ret=>exact hQ1
  ·
   rename_i q x y
   split at h
   ·rename_i hq
    have:=fR hr _ _ hq
    exact wp_cond_true this (ih S x _ _ _ _ _ _ _ _ h ho w0 φ a w hr _ hQ)
   ·rename_i hq
    have:=fR hr _ _ hq
    exact wp_cond_false this (ih S y _ _ _ _ _ _ _ _ h ho w0 φ a w hr _ hQ)
   ·simp at h
  ·
   rename_i id x
   split at h
   ·rename_i ob1 c1 id' tm1 mem1 hx
    refine wp_block (ih S x _ _ _ _ _ _ _ _ hx ?_ w0 φ a w hr _ ?_)
    ·split at h<;>(simp only[Option.some.injEq,Prod.mk.injEq] at h;obtain ⟨rfl,_⟩:=h;exact ho)
    ·intro φ1 a1 w1 ha1 hl1 hr1
     split at h
     ·rename_i hid
      simp only[Option.some.injEq,Prod.mk.injEq] at h
      obtain ⟨rfl,rfl,rfl,rfl,rfl⟩:=h
      have hid:id'=id:=Nat.eq_of_beq_eq_true hid
      simp only[Ex.to,Exit.inBlock,hid,if_true]
      exact hQ φ1 a1 w1 ha1 hl1 hr1
     ·rename_i hid
      simp only[Option.some.injEq,Prod.mk.injEq] at h
      obtain ⟨rfl,rfl,rfl,rfl,rfl⟩:=h
      have hid:id'≠id:=Nat.ne_of_beq_eq_false hid
      simp only[Ex.to,Exit.inBlock,hid,if_false]
      exact hQ φ1 a1 w1 ha1 hl1 hr1
   ·rename_i hne
    refine wp_block (ih S x _ _ _ _ _ _ _ _ h ho w0 φ a w hr _ ?_)
    intro φ1 a1 w1 ha1 hl1 hr1
    have hQ1:=hQ φ1 a1 w1 ha1 hl1 hr1
    cases ex with
    |normal=>exact hQ1
    |exit id=>exact absurd h (hne _ _ _ _ _)
    |ret=>exact hQ1
  ·
   rename_i x
   split at h
   ·rename_i y f hlp
    split at h
    ·rename_i ob1 r hf
     simp only[Option.some.injEq,Prod.mk.injEq] at h
     obtain ⟨rfl,rfl⟩:=h
     obtain ⟨hxy,ho⟩:=ho
     subst hxy
     exact hE.lps _ _ _ hlp _ _ _ _ _ _ _ _ hf ho w0 φ a w hr Q hQ
    ·simp at h
   ·rename_i hlp
    refine wp_loop_rounds (n+1) (hls S x tm mem c ob c' ex tm' mem' hlp ?_ ho w0 φ a w hr Q hQ)
    unfold dH
    simp only[hlp]
    exact h
  ·
   simp only[Option.some.injEq,Prod.mk.injEq] at h
   obtain ⟨rfl,rfl,rfl,rfl,rfl⟩:=h
   exact wp_exit (hQ φ a w (Agree.refl _ _) (Nat.le_refl _) hr)
  ·simp only[Option.some.injEq,Prod.mk.injEq] at h
   obtain ⟨rfl,rfl,rfl,rfl,rfl⟩:=h
   exact wp_ret (hQ φ a w (Agree.refl _ _) (Nat.le_refl _) hr)
  ·simp at h
theorem lv {E:Env} (hE:EnvOK E) (n:Nat):VA E.P (dH E n):=(xp hE n).1
theorem Bk {E:Env} (hE:EnvOK E) {n:Nat} {f:FuncId} {vs:List V1} {ob:List Prop} {c c':List Bool} {r:AV} {mem':List Blk}
  (h:ep E (dH E n) f vs [] c=some (ob,c',r,mem')) (ho:cL ob) (hr:r.wf 0=true) (φ:c7) (w:World) (hv:∀v∈vs,v.wf 0=true):
  Calls E.P f (vs.map (V1.conc φ)).toArray w fun e w'=>e= .returned (r.conc φ)∧Below w.heap.size w w':=by
 have hm:MRel w φ [] w:=⟨Below.refl _ _,by simp,by simp,by simp,by simp,by simp⟩
 refine (jQ hE (lv hE n) _ _ _ _ _ _ _ _ h ho w φ w hm hv).mono ?_
 rintro e w' ⟨φ',rfl,_,_,hm',_⟩
 exact ⟨by rw[AV.conc_agree (n:=0) (fun b hb=>by omega) r hr],hm'.below⟩
end
def kt:List AV→List AV→List AV
 | .junk::ps,_::ts=> .junk::kt ps ts
 |_::ps,t::ts=>t::kt ps ts
 |[],ts=>ts
 |_::_,[]=>[]
def aiD (T:List AV) (M:List Blk) (tm:List AV) (mem:List Blk):Prop:=
 kt T tm=T∧mem.take M.length=M∧cw M.length T=true∧mJ M.length M=true
section
variable {P:Program} {w0 w:World} {φ:c7} {mem M:List Blk} {tm T:List AV} {a:Act}
theorem kR:∀(T tm:List AV),(kt T tm).length=tm.length
 |[],ts=>rfl
 | .junk::ps,[]=>rfl
 | .val _::ps,[]=>rfl
 | .tup _::ps,[]=>rfl
 | .junk::ps,t::ts=>by simp[kt,kR ps ts]
 | .val _::ps,t::ts=>by simp[kt,kR ps ts]
 | .tup _::ps,t::ts=>by simp[kt,kR ps ts]
theorem qn:∀(T tm:List AV) (t:Nat) (x:AV),(kt T tm)[t]? =some x→x≠.junk→tm[t]? =some x
 |[],ts,t,x,h,_=>h
 | .junk::ps,[],t,x,h,_=>by simp[kt] at h
 | .val _::ps,[],t,x,h,_=>by simp[kt] at h
 | .tup _::ps,[],t,x,h,_=>by simp[kt] at h
 | .junk::ps,y::ts,t,x,h,hj=>by
  cases t with
  |zero=>simp[kt] at h;exact absurd h.symm hj
  |succ t=>simp only[kt,List.getElem?_cons_succ] at h ⊢;exact qn ps ts t x h hj
 | .val _::ps,y::ts,t,x,h,hj=>by
  cases t with
  |zero=>simpa[kt] using h
  |succ t=>simp only[kt,List.getElem?_cons_succ] at h ⊢;exact qn ps ts t x h hj
 | .tup _::ps,y::ts,t,x,h,hj=>by
  cases t with
  |zero=>simpa[kt] using h
  |succ t=>simp only[kt,List.getElem?_cons_succ] at h ⊢;exact qn ps ts t x h hj
theorem ot {n:Nat}:∀{T:List AV},cw n T=true→∀x∈T,x.wf n=true
 |[],_,x,hx=>by simp at hx
 |y::ys,h,x,hx=>by
  simp only[cw,Bool.and_eq_true] at h
  rcases List.mem_cons.1 hx with rfl|hx
  ·exact h.1
  ·exact ot h.2 x hx
theorem oj {n:Nat}:∀{M:List Blk},mJ n M=true→∀(i:Nat) (b:Blk),M[i]? =some b→aI (mh n) b.ps=true
 |[],_,i,b,hb=>by simp at hb
 |y::ys,h,i,b,hb=>by
  simp only[mJ,Bool.and_eq_true] at h
  cases i with
  |zero=>simp only[List.getElem?_cons_zero,Option.some.injEq] at hb;subst hb;exact h.1
  |succ i=>exact oj h.2 i b (by simpa using hb)
theorem MRel.take (h:MRel w0 φ mem w) (hM:mem.take M.length=M) (hw:mJ M.length M=true):MRel w0 φ M w:=by
 have hs:∀(i:Nat) (b:Blk),M[i]? =some b→mem[i]? =some b:=by
  intro i b hb
  have hi:=aM hb
  rw[←hM,List.getElem?_take_of_lt hi] at hb
  exact hb
 exact ⟨h.below,fun i j b b' hb hb'=>h.inj i j b b' (hs i b hb) (hs j b' hb'),fun i b hb=>h.own i b (hs i b hb),fun i b hb=>h.old i b (hs i b hb),fun i b hb=>h.blk i b (hs i b hb),fun i b hb=>oj hw i b hb⟩
theorem Rel.fit (h:Rel w0 φ tm mem a w) (hf:aiD T M tm mem):Rel w0 φ T M a w:=by
 obtain ⟨hT,hM,hwT,hwM⟩:=hf
 refine ⟨⟨?_,?_⟩,h.defs,ot hwT,h.mrel.take hM hwM⟩
 ·rw[h.tmps.size,←kR T tm,hT]
 ·intro t x ht hj
  rw[←hT] at ht
  exact h.tmps.get t x (qn T tm t x ht hj) hj
def xD:Nat→List Blk
 |0=>[]
 |n+1=>⟨[],0,false,false,0⟩::xD n
theorem tJ:∀n,(xD n).length=n
 |0=>rfl
 |n+1=>by simp[xD,tJ n]
theorem sB:∀(n i:Nat) (b:Blk),(xD n)[i]? =some b→b.live=false∧b.ps=[]
 |0,i,b,h=>by simp[xD] at h
 |n+1,i,b,h=>by
  cases i with
  |zero=>simp only[xD,List.getElem?_cons_zero,Option.some.injEq] at h;subst h;exact ⟨rfl,rfl⟩
  |succ i=>exact sB n i b (by simpa[xD] using h)
theorem Rel.pad {φ':c7} (h:Rel w0 φ' T M a w) (n:Nat) (hag:Agree M.length φ φ'):∃φ'',Agree (M.length+n) φ φ''∧Rel w0 φ'' T (M++xD n) a w:=by
 let φ'':c7:=fun b=>if b<M.length then φ' b else φ b
 have h1:Agree M.length φ' φ'':=fun b hb=>by simp[φ'',hb]
 have hs:∀(i:Nat) (b:Blk),(M++xD n)[i]? =some b→b.live=true→M[i]? =some b:=by
  intro i b hb hl
  by_cases hi:i<M.length
  ·rwa[List.getElem?_append_left hi] at hb
  ·rw[List.getElem?_append_right (by omega)] at hb
   rw[(sB _ _ _ hb).1] at hl;cases hl
 have hφ:∀(i:Nat) (b:Blk),M[i]? =some b→φ'' i=φ' i:=fun i _ hb=>h1 i (aM hb)
 have hc:∀(i:Nat) (b:Blk),M[i]? =some b→an φ'' b.ps=an φ' b.ps:=fun i b hb=>cU h1 _ (h.mrel.wf i b hb)
 refine ⟨φ'',?_,?_⟩
 ·intro b _
  by_cases hm:b<M.length
  ·rw[h1 b hm,hag b hm]
  ·simp[φ'',hm]
 ·refine ⟨h.tmps.to fun x hx=>AV.conc_agree h1 x (h.wft x hx),h.defs,fun x hx=>AV.wf_mono (by simp) x (h.wft x hx),?_⟩
  refine ⟨h.mrel.below,?_,?_,?_,?_,?_⟩
  ·intro i j b b' hb hb' hl hl' hro hro' he
   have e1:=hs i b hb hl
   have e2:=hs j b' hb' hl'
   rw[hφ i b e1,hφ j b' e2] at he
   exact h.mrel.inj i j b b' e1 e2 hl hl' hro hro' he
  ·intro i b hb hl hro
   have e1:=hs i b hb hl
   rw[hφ i b e1];exact h.mrel.own i b e1 hl hro
  ·intro i b hb hl hro
   have e1:=hs i b hb hl
   rw[hφ i b e1,hc i b e1];exact h.mrel.old i b e1 hl hro
  ·intro i b hb hl hro
   have e1:=hs i b hb hl
   rw[hφ i b e1,hc i b e1];exact h.mrel.blk i b e1 hl hro
  ·intro i b hb
   by_cases hi:i<M.length
   ·rw[List.getElem?_append_left hi] at hb
    exact di (by simp) _ (h.mrel.wf i b hb)
   ·rw[List.getElem?_append_right (by omega)] at hb
    rw[(sB _ _ _ hb).2];rfl
def dl (T:List AV) (M:List Blk):Bool:=cw M.length T&&mJ M.length M
theorem ra {T:List AV} {M:List Blk} {tm:List AV} {mem:List Blk} (h:(kt T tm,mem.take M.length)=(T,M)) (hw:dl T M=true):aiD T M tm mem:=by
 simp only[Prod.mk.injEq] at h
 simp only[dl,Bool.and_eq_true] at hw
 exact ⟨h.1,h.2,hw.1,hw.2⟩
def aH (E:Env) (n:Nat) (S:Nat→Bool) (y:Code) (T:List AV) (M:List Blk) (c:List Bool) (T':List AV) (k:Nat):Option (List Prop×Ex×List AV×List Blk):=
 match dH E n S y T M c with
 |some (ob,_,ex,tm,mem)=>some (ob,ex,kt T' tm,mem.take k)
 |none=>none
def Runs (E:Env) (n:Nat) (S:Nat→Bool) (y:Code) (ex:Ex) (T:List AV) (M:List Blk) (T':List AV) (M':List Blk):Prop:=
 ∃c ob,aH E n S y T M c T' M'.length=some (ob,ex,T',M')∧cL ob∧dl T' M'=true
theorem Runs.wp {E:Env} (hE:EnvOK E) {n:Nat} {S:Nat→Bool} {y:Code} {ex:Ex} {T':List AV} {M':List Blk} (h:Runs E n S y ex T M T' M')
  (hr:Rel w0 φ T M a w) {Q:Exit→Act→World→Prop} (hQ:∀φ' a' w',Agree M.length φ φ'→Rel w0 φ' T' M' a' w'→Q ex.to a' w'):y.wp E.P Q a w:=by
 obtain ⟨c,ob,hev,ho,hw⟩:=h
 unfold aH at hev
 split at hev
 ·rename_i ob1 c1 ex1 tm mem hev1
  simp only[Option.some.injEq,Prod.mk.injEq] at hev
  obtain ⟨rfl,rfl,h1,h2⟩:=hev
  refine lv hE n S y _ _ _ _ _ _ _ _ hev1 ho w0 φ a w hr Q ?_
  intro φ' a' w' hag _ hr'
  exact hQ φ' a' w' hag (hr'.fit (ra (by rw[h1,h2]) hw))
 ·simp at hev
def HT {α:Type} (rd:List AV→List Blk→α) (pre:α→List Prop) (T:α→List AV) (M:α→List Blk) (F:α→List AV) (G:α→List Blk) (ex:Ex):List AV→List Blk→List Bool→E7:=fun tm mem c=>
 let x:α:=rd tm mem
 some (((kt (T x) tm,mem.take (M x).length)=(T x,M x))::(dl (T x) (M x)=true)::pre x,c,ex,F x,G x++xD (mem.length-(M x).length))
theorem OZ {α:Type} {y:Code} {rd:List AV→List Blk→α} {pre:α→List Prop} {T F:α→List AV} {M G:α→List Blk} {ex:Ex} (hl:∀x,(G x).length=(M x).length)
  (h:∀x,cL (pre x)→∀w0 φ a w,Rel w0 φ (T x) (M x) a w→∀Q:Exit→Act→World→Prop,(∀φ' a' w',Agree (M x).length φ φ'→Rel w0 φ' (F x) (G x) a' w'→Q ex.to a' w')→(Code.loop y).wp P Q a w):
  pa P (.loop y) (HT rd pre T M F G ex):=by
 intro tm mem c ob c' ex' tm' mem' hf ho w0 φ a w hr Q hQ
 simp only[HT,Option.some.injEq,Prod.mk.injEq] at hf
 obtain ⟨rfl,rfl,rfl,rfl,rfl⟩:=hf
 obtain ⟨hfit,hw,hpre⟩:=ho
 have hfit:=ra (Prod.ext hfit.1 hfit.2) hw
 have hle:(M (rd tm mem)).length≤mem.length:=by
  have:=congrArg List.length hfit.2.1
  simp at this;omega
 refine h _ hpre w0 φ a w (hr.fit hfit) Q ?_
 intro φ' a' w' hag hr'
 obtain ⟨φ'',h1,h2⟩:=hr'.pad (φ:=φ) (mem.length-(M (rd tm mem)).length) (by rw[hl];exact hag)
 refine hQ φ'' a' w' ?_ ?_ h2
 ·rw[hl,Nat.add_sub_cancel' hle] at h1
  exact h1
 ·rw[List.length_append,tJ,hl];omega
def bt:Nat→List (Nat×AV)→List AV
 |0,_=>[]
 |n+1,xs=>match xs with
  |(0,v)::xs=>v::bt n (xs.map fun p=>(p.1-1,p.2))
  |xs=> .junk::bt n (xs.map fun p=>(p.1-1,p.2))
end
def Nz (k:Nat) (v:Value):Prop:=
 match k with
 |0=>∃b,v= .bool b
 |1=>∃s:ByteArray,v= .string s∧s.size≤maxLen
 |2=>∃z:Int,v= .int .i8 z∧-128≤z∧z<128
 |3=>∃z:Int,v= .int .i16 z∧-32768≤z∧z<32768
 |4=>∃z:Int,v= .int .i32 z∧-2147483648≤z∧z<2147483648
 |5=>∃z:Int,v= .int .i64 z∧-9223372036854775808≤z∧z<9223372036854775808
 |6=>∃n:Nat,v= .int .u8 n∧n<256
 |7=>∃n:Nat,v= .int .u16 n∧n<65536
 |8=>∃n:Nat,v= .int .u32 n∧n<4294967296
 |_=>∃n:Nat,v= .int .u64 n∧n<18446744073709551616
def FitK:List Nat→List Value→Prop
 |[],[]=>True
 |k::ks,v::vs=>Nz k v∧FitK ks vs
 |_,_=>False
theorem FitK.append:∀{ks ls:List Nat} {vs us:List Value},FitK ks vs→FitK ls us→FitK (ks++ls) (vs++us)
 |[],_,[],_,_,h=>h
 |[],_,_::_,_,h,_=>h.elim
 |_::_,_,[],_,h,_=>h.elim
 |_::_,_,_::_,_,h,h'=>⟨h.1,FitK.append h.2 h'⟩
theorem Np {k:IntKind} {n:Int} (h:(Lit.int k n).wf=true):Nz (j2 k) (.int k n):=by
 cases k<;>simp[Lit.wf,IntKind.min,IntKind.max,IntKind.signed,IntKind.bits] at h<;>simp only[j2,Nz]
 ·exact ⟨n,rfl,by omega⟩
 ·exact ⟨n,rfl,by omega⟩
 ·exact ⟨n,rfl,by omega⟩
 ·exact ⟨n,rfl,by omega⟩
 ·exact ⟨n.toNat,by congr 1;omega,by omega⟩
 ·exact ⟨n.toNat,by congr 1;omega,by omega⟩
 ·exact ⟨n.toNat,by congr 1;omega,by omega⟩
 ·exact ⟨n.toNat,by congr 1;omega,by omega⟩
section
variable {H:Type} {enc:TypeId×Value→H} {P:Program} {w:World} {base:Nat} {spare:Nat→Bool} {held:Bool}
theorem gz {t:TypeId} {n:Nat} (h:d8 P t=some n):P.cellsOf t=n:=by
 unfold d8 at h
 unfold Program.cellsOf
 split at h
 ·rename_i i hi
  simp only[Option.some.injEq] at h
  simp[hi,h]
 ·simp at h
theorem ws {ks:List Nat}:∀(n:Nat) (cs:List Value),cs.length=n*ks.length→(∀i,i<n→FitK ks ((cs.drop (i*ks.length)).take ks.length))→FitK (j6 n ks) cs
 |0,cs,hl,_=>by
  rw[Nat.zero_mul] at hl
  rw[List.length_eq_zero_iff.1 hl];trivial
 |n+1,cs,hl,h=>by
  have h0:=h 0 (by omega)
  rw[Nat.zero_mul,List.drop_zero] at h0
  have:=ws (ks:=ks) n (cs.drop ks.length) (by rw[List.length_drop,hl,Nat.succ_mul];omega) (fun i hi=>by
   rw[List.drop_drop,Nat.add_comm,←Nat.succ_mul]
   exact h (i+1) (by omega))
  have:=h0.append this
  rwa[List.take_append_drop] at this
theorem wj {g:TypeId→Option (List Nat)} {r:TypeId→List Value→Prop} (hg:∀t ks cs,g t=some ks→r t cs→cs.length=ks.length→FitK ks cs):∀(fs:List Field) (off:Nat) (ks:List Nat) (cs:List Value),
  kw P g fs off=some ks→cs.length=off+ks.length→(∀f∈fs,r f.type ((cs.drop f.offset).take (P.cellsOf f.type)))→FitK ks (cs.drop off)
 |[],off,ks,cs,hk,hl,_=>by
  simp only[kw,Option.some.injEq] at hk
  subst hk
  rw[List.drop_eq_nil_of_le (by simp at hl;omega)];trivial
 |f::fs,off,ks,cs,hk,hl,h=>by
  simp only[kw] at hk
  split at hk
  ·rename_i kf n hf hgf hn
   split at hk
   ·rename_i r' hlen hr
    simp only[Option.some.injEq] at hk
    subst hk
    simp only[Bool.and_eq_true,Nat.beq_eq] at hf hlen
    obtain ⟨_,hoff⟩:=hf
    rw[List.length_append] at hl
    have h1:=h f (by simp)
    rw[gz hn,hoff] at h1
    have h2:=hg _ _ _ hgf h1 (by rw[List.length_take,List.length_drop,hl];omega)
    have h3:=wj hg fs (off+n) r' cs hr (by omega) (fun f' hf'=>h f' (by simp[hf']))
    have:=h2.append h3
    rwa[←List.drop_drop,List.take_append_drop] at this
   ·simp at hk
  ·simp at hk
theorem pL:∀(d:Nat) (t:TypeId) (ks:List Nat),fa P d t=some ks→∀(n:Nat) (cs:List Value) (x:DataW H×List MemPlace),DataW.trod enc P w base spare held n t cs=some x→cs.length=ks.length→FitK ks cs
 |0,t,ks,h,_,_,_,_,_=>by simp[fa] at h
 |d+1,t,ks,h,n,cs,x,hx,hl=>by
  simp only[fa] at h
  split at h
  ·rename_i k hk
   simp only[Option.some.injEq] at h;subst h
   cases n with
   |zero=>simp[DataW.trod] at hx
   |succ n=>
    unfold DataW.trod at hx
    rw[hk] at hx
    split at hx<;>simp_all
    rename_i k' z e1
    obtain ⟨⟨rfl,hw⟩,_⟩:=hx
    subst e1
    exact ⟨Np hw,trivial⟩
  ·rename_i hk
   simp only[Option.some.injEq] at h;subst h
   cases n with
   |zero=>simp[DataW.trod] at hx
   |succ n=>
    unfold DataW.trod at hx
    rw[hk] at hx
    split at hx<;>simp_all
    exact ⟨⟨_,rfl⟩,trivial⟩
  ·rename_i hk
   simp only[Option.some.injEq] at h;subst h
   cases n with
   |zero=>simp[DataW.trod] at hx
   |succ n=>
    unfold DataW.trod at hx
    rw[hk] at hx
    split at hx<;>simp_all
    exact ⟨⟨_,rfl,hx.1⟩,trivial⟩
  ·rename_i len e hk
   split at h
   ·rename_i ke m hke hm
    split at h
    ·rename_i hkm
     simp only[Option.some.injEq] at h;subst h
     rw[Nat.beq_eq] at hkm
     obtain ⟨xs,m',_,_,_,hxl,hi⟩:=DataW.trod_array hk hx
     rw[th] at hl
     refine ws len cs hl fun i hil=> ?_
     have h1:=hi i hil
     rw[gz hm,←hkm,List.getElem?_eq_getElem (by omega)] at h1
     refine pL d e ke hke _ _ _ h1 ?_
     rw[List.length_take,List.length_drop,hl]
     have:(i+1)*ke.length≤len*ke.length:=Nat.mul_le_mul_right _ hil
     rw[Nat.succ_mul] at this
     omega
    ·simp at h
   ·simp at h
  ·rename_i fs hk
   split at h
   ·obtain ⟨xs,m',_,_,_,hxl,hi⟩:=DataW.trod_struct hk hx
    have:=wj (P:=P) (g:=fa P d) (r:=fun t cs=>∃y,DataW.trod enc P w base spare held m' t cs=some y) (fun t ks cs hks ⟨y,hy⟩ hl=>pL d t ks hks _ _ _ hy hl) fs.toList 0 ks cs h (by omega)
     (fun f hf=>by
      obtain ⟨i,hil,rfl⟩:=List.getElem_of_mem hf
      have h1:=hi i fs.toList[i] (by simp at hil ⊢)
      rw[List.getElem?_eq_getElem (by simp at hil;omega)] at h1
      exact ⟨_,h1⟩)
    simpa using this
   ·simp at h
  ·simp at h
end
structure Cells where
 b:Nat→Bool
 s:Nat→ByteArray
 z:Nat→Int
 n:Nat→Nat
def Oe (c:Cells) (k j:Nat):Atom:=
 match k with
 |0=> .v (.bool (c.b j))
 |1=> .v (.string (c.s j))
 |2=> .v (.int .i8 (c.z j))
 |3=> .v (.int .i16 (c.z j))
 |4=> .v (.int .i32 (c.z j))
 |5=> .i (c.z j)
 |6=> .u .u8 (c.n j)
 |7=> .u .u16 (c.n j)
 |8=> .u .u32 (c.n j)
 |_=> .u .u64 (c.n j)
def okK (c:Cells) (k j:Nat):Prop:=
 match k with
 |0=>True
 |1=>(c.s j).size≤maxLen
 |2=> -128≤c.z j∧c.z j<128
 |3=> -32768≤c.z j∧c.z j<32768
 |4=> -2147483648≤c.z j∧c.z j<2147483648
 |5=> -9223372036854775808≤c.z j∧c.z j<9223372036854775808
 |6=>c.n j<256
 |7=>c.n j<65536
 |8=>c.n j<4294967296
 |_=>c.n j<18446744073709551616
def jl (c:Cells):List Nat→Nat→List Piece
 |[],_=>[]
 |k::ks,j=> .a (Oe c k j)::jl c ks (j+1)
def cellsOf (V:Nat→Value):Cells where
 b j:=match V j with| .bool b=>b|_=>false
 s j:=match V j with| .string s=>s|_=>ByteArray.empty
 z j:=match V j with| .int _ z=>z|_=>0
 n j:=match V j with| .int _ z=>z.toNat|_=>0
theorem s6 {k:Nat} {V:Nat→Value} {j:Nat} (h:Nz k (V j)) (φ:c7):(Oe (cellsOf V) k j).conc φ=V j∧okK (cellsOf V) k j:=by
 unfold Nz at h
 unfold Oe okK
 split at h
 ·obtain ⟨b,hb⟩:=h;simp[cellsOf,hb,Atom.conc]
 ·obtain ⟨s,hs,hl⟩:=h;simp[cellsOf,hs,Atom.conc,hl]
 ·obtain ⟨z,hz,hl⟩:=h;simp[cellsOf,hz,Atom.conc,hl]
 ·obtain ⟨z,hz,hl⟩:=h;simp[cellsOf,hz,Atom.conc,hl]
 ·obtain ⟨z,hz,hl⟩:=h;simp[cellsOf,hz,Atom.conc,hl]
 ·obtain ⟨z,hz,hl⟩:=h;simp[cellsOf,hz,Atom.conc,hl]
 ·obtain ⟨z,hz,hl⟩:=h;simp[cellsOf,hz,Atom.conc,hl]
 ·obtain ⟨z,hz,hl⟩:=h;simp[cellsOf,hz,Atom.conc,hl]
 ·obtain ⟨z,hz,hl⟩:=h;simp[cellsOf,hz,Atom.conc,hl]
 ·rename_i k h0 h1 h2 h3 h4 h5 h6 h7 h8
  obtain ⟨z,hz,hl⟩:=h
  simp[cellsOf,hz,Atom.conc,hl]
theorem tH {V:Nat→Value} (φ:c7):∀(ks:List Nat) (vs:List Value) (j:Nat),FitK ks vs→(∀i v,vs[i]? =some v→V (j+i)=v)→an φ (jl (cellsOf V) ks j)=vs
 |[],[],j,_,_=>rfl
 |[],_::_,j,h,_=>h.elim
 |_::_,[],j,h,_=>h.elim
 |k::ks,v::vs,j,h,hv=>by
  have h0:V j=v:=hv 0 v rfl
  simp only[jl,an,Piece.conc]
  rw[(s6 (k:=k) (V:=V) (j:=j) (by rw[h0];exact h.1) φ).1,h0,tH φ ks vs (j+1) h.2 (fun i u hu=>by rw[show j+1+i=j+(i+1) by omega];exact hv (i+1) u (by simpa using hu))]
  rfl
theorem x6 {V:Nat→Value}:∀(ks:List Nat) (vs:List Value) (j:Nat),FitK ks vs→(∀i v,vs[i]? =some v→V (j+i)=v)→∀i k,ks[i]? =some k→okK (cellsOf V) k (j+i)
 |[],_,j,_,_,i,k,hk=>by simp at hk
 |_::_,[],j,h,_,_,_,_=>h.elim
 |k::ks,v::vs,j,h,hv,i,k',hk=>by
  have h0:V j=v:=hv 0 v rfl
  cases i with
  |zero=>
   simp only[List.getElem?_cons_zero,Option.some.injEq] at hk;subst hk
   exact (s6 (by rw[Nat.add_zero,h0];exact h.1) default).2
  |succ i=>
   have:=x6 ks vs (j+1) h.2 (fun i u hu=>by rw[show j+1+i=j+(i+1) by omega];exact hv (i+1) u (by simpa using hu)) i k' (by simpa using hk)
   rwa[show j+1+i=j+(i+1) by omega] at this
end Go.Ev
namespace Go.Ev
open Go Go.RowKit Go.ChangeShapes Go.WideShapes Go.ChangeAt
section
variable {H:Type} {enc:TypeId×Value→H} {P:Program}
theorem post_true {fn:Func} {s:ChangeSpec} {again:Bool} (hag:again=false) {W W':World} {v:Value} {d:DataW H} {gs:List (DataW H)} {before:List MemPlace} {t tb:TypeId}
  (hp:fn.params= #[t]) (hr:fn.resultTypes= #[tb]) (htb:P.underlying tb=some .bool) (hl:laidOutB P=true) (hrd:P.readableRec t=true) (hrow:t<P.types.size)
  (hvars:s.vars=[]) (hfn:s.fn H [d]={results:=[.lit (.bool true)],args:=[d]})
  (hW:DataW.Whole enc P fn.params.toList s.vars false W #[v].toList [d] gs before) (hb:Below W.heap.size W W'):
  s.post enc P fn false true false again W #[v] (.bool true) W':=by
 have hW0:=hW
 obtain ⟨p,q,hA,hV,rfl,hfz,hnd⟩:=hW
 rw[hvars] at hV
 obtain ⟨rfl,rfl⟩:=trodVars_none hV
 rw[hp] at hA
 obtain ⟨v',d',e1,e2,hd⟩:=trodAll_one (args:= #[v]) hA
 simp only[List.cons.injEq,and_true] at e2
 subst e2
 obtain rfl:v=v':=by simpa using e1
 refine ⟨[d],[],p++[],[],p,[],hW0,?_,?_,?_,hb.frame _,?_⟩
 ·rw[hr,List.append_nil,hfn]
  exact trodAll_mk1 (shut_bool htb true)
 ·rw[hp,List.append_nil,hfn]
  refine trodAll_mk1 (Below.trod hl hrd hrow hd hb ?_)
  intro x hx
  have:=hW0.lt x (by simpa using hx)
  exact this
 ·rw[List.append_nil,hfn,hvars]
  trivial
 ·intro h;rw[hag] at h;cases h
end
section
variable {P:Program}
end
def yC (w:World) (ex:Ending) (w':World):Prop:=ex= .returned (.bool true)∧Below w.heap.size w w'
end Go.Ev
namespace Go.Ev
open Go Go.RowKit
def Goes (P:Program) (y:Code) (ex:Ex) (T:List AV) (M:List Blk) (T':List AV) (M':List Blk):Prop:=
 ∀w0 φ a w,Rel w0 φ T M a w→∀Q:Exit→Act→World→Prop,(∀φ' a' w',Agree M.length φ φ'→Rel w0 φ' T' M' a' w'→Q ex.to a' w')→y.wp P Q a w
theorem Runs.goes {E:Env} (hE:EnvOK E) {n:Nat} {S:Nat→Bool} {y:Code} {ex:Ex} {T T':List AV} {M M':List Blk} (h:Runs E n S y ex T M T' M'):Goes E.P y ex T M T' M':=
 fun _ _ _ _ hr _ hQ=>h.wp hE hr hQ
def v7:List AV→List AV→Prop
 |[],[]=>True
 |x::xs,y::ys=>(y= .junk∨(x≠.junk∧∀φ,x.conc φ=y.conc φ))∧v7 xs ys
 |_,_=>False
def tv:List Blk→List Blk→Prop
 |[],[]=>True
 |b::bs,b'::bs'=>(b.elem=b'.elem∧b.live=b'.live∧b.ro=b'.ro∧b.esz=b'.esz∧∀φ,an φ b.ps=an φ b'.ps)∧tv bs bs'
 |_,_=>False
theorem dM:∀T:List AV,v7 T T
 |[]=>trivial
 |x::xs=>⟨by cases x<;>simp,dM xs⟩
theorem qT:∀{T T':List AV},v7 T T'→T.length=T'.length
 |[],[],_=>rfl
 |[],_::_,h=>h.elim
 |_::_,[],h=>h.elim
 |x::xs,y::ys,h=>by simp[qT h.2]
theorem qW:∀{M M':List Blk},tv M M'→M.length=M'.length
 |[],[],_=>rfl
 |[],_::_,h=>h.elim
 |_::_,[],h=>h.elim
 |x::xs,y::ys,h=>by simp[qW h.2]
theorem yl:∀{T T':List AV},v7 T T'→∀(t:Nat) (y:AV),T'[t]? =some y→y≠.junk→∃x,T[t]? =some x∧x≠.junk∧∀φ,x.conc φ=y.conc φ
 |[],[],_,t,y,h,_=>by simp at h
 |[],_::_,h,_,_,_,_=>h.elim
 |_::_,[],h,_,_,_,_=>h.elim
 |x::xs,z::zs,h,0,y,hy,hj=>by
  simp only[List.getElem?_cons_zero,Option.some.injEq] at hy;subst hy
  rcases h.1 with h1|h1
  ·exact absurd h1 hj
  ·exact ⟨x,rfl,h1⟩
 |x::xs,z::zs,h,t+1,y,hy,hj=>by
  simp only[List.getElem?_cons_succ] at hy ⊢
  exact yl h.2 t y hy hj
theorem jR:∀{M M':List Blk},tv M M'→∀(t:Nat) (y:Blk),M'[t]? =some y→∃x,M[t]? =some x∧x.elem=y.elem∧x.live=y.live∧x.ro=y.ro∧x.esz=y.esz∧∀φ,an φ x.ps=an φ y.ps
 |[],[],_,t,y,h=>by simp at h
 |[],_::_,h,_,_,_=>h.elim
 |_::_,[],h,_,_,_=>h.elim
 |x::xs,z::zs,h,0,y,hy=>by
  simp only[List.getElem?_cons_zero,Option.some.injEq] at hy;subst hy
  exact ⟨x,rfl,h.1⟩
 |x::xs,z::zs,h,t+1,y,hy=>by
  simp only[List.getElem?_cons_succ] at hy ⊢
  exact jR h.2 t y hy
section
variable {P:Program} {w0 w:World} {φ:c7} {M M':List Blk} {T T':List AV} {a:Act}
theorem MRel.same (h:MRel w0 φ M w) (hs:tv M M') (hw:mJ M'.length M'=true):MRel w0 φ M' w:=by
 refine ⟨h.below,?_,?_,?_,?_,fun i b hb=>oj hw i b hb⟩
 ·intro i j b b' hb hb' hl hl' hr hr' e
  obtain ⟨x,hx,_,e1,e2,_,_⟩:=jR hs i b hb
  obtain ⟨x',hx',_,e1',e2',_,_⟩:=jR hs j b' hb'
  exact h.inj i j x x' hx hx' (e1.trans hl) (e1'.trans hl') (e2.trans hr) (e2'.trans hr') e
 ·intro i b hb hl hr
  obtain ⟨x,hx,_,e1,e2,_,_⟩:=jR hs i b hb
  exact h.own i x hx (e1.trans hl) (e2.trans hr)
 ·intro i b hb hl hr
  obtain ⟨x,hx,_,e1,e2,_,e4⟩:=jR hs i b hb
  rw[←e4]
  exact h.old i x hx (e1.trans hl) (e2.trans hr)
 ·intro i b hb hl hr
  obtain ⟨x,hx,e0,e1,e2,e3,e4⟩:=jR hs i b hb
  have:=h.blk i x hx (e1.trans hl) (e2.trans hr)
  unfold oU at this ⊢
  rw[←e4,←e0,←e3]
  exact this
theorem Rel.same (h:Rel w0 φ T M a w) (ht:v7 T T') (hs:tv M M') (hw:dl T' M'=true):Rel w0 φ T' M' a w:=by
 simp only[dl,Bool.and_eq_true] at hw
 refine ⟨⟨?_,?_⟩,h.defs,ot hw.1,h.mrel.same hs hw.2⟩
 ·rw[h.tmps.size,qT ht]
 ·intro t y hy hj
  obtain ⟨x,hx,hxj,e⟩:=yl ht t y hy hj
  rw[←e]
  exact h.tmps.get t x hx hxj
theorem Goes.after {y:Code} {ex:Ex} {T1:List AV} {M1:List Blk} (h:Goes P y ex T M T1 M1) (ht:v7 T1 T') (hs:tv M1 M') (hw:dl T' M'=true):Goes P y ex T M T' M':=
 fun w0 φ a w hr Q hQ=>h w0 φ a w hr Q fun φ' a' w' ha hr'=>hQ φ' a' w' ha (hr'.same ht hs hw)
theorem Goes.before {y:Code} {ex:Ex} {T1:List AV} {M1:List Blk} (h:Goes P y ex T1 M1 T' M') (ht:v7 T T1) (hs:tv M M1) (hw:dl T1 M1=true):Goes P y ex T M T' M':=
 fun w0 φ a w hr Q hQ=>h w0 φ a w (hr.same ht hs hw) Q fun φ' a' w' ha hr'=>hQ φ' a' w' (by rw[←qW hs] at ha;exact ha) hr'
theorem bJ {y:Code} {ex:Ex} (hex:ex≠.normal) {N k:Nat} {T:Nat→List AV} {M:Nat→List Blk} {TF:List AV} {MF:List Blk}
  (hk:∀j,j≤N→(M j).length=k)
  (hstep:∀j,j<N→Goes P y .normal (T j) (M j) (T (j+1)) (M (j+1))) (hlast:Goes P y ex (T N) (M N) TF MF):Goes P (.loop y) ex (T 0) (M 0) TF MF:=by
 intro w0 φ a w hr Q hQ
 refine wp_loop_rounds (N+1) ?_
 have key:∀d j,j+d=N→∀φ1 a1 w1,Agree k φ φ1→Rel w0 φ1 (T j) (M j) a1 w1→Code.rounds P y Q (d+1) a1 w1:=by
  intro d
  induction d with
  |zero=>
   intro j hj φ1 a1 w1 hag hr1
   obtain rfl:j=N:=by omega
   refine hlast w0 φ1 a1 w1 hr1 _ ?_
   intro φ' a' w' hag' hr'
   have:=hQ φ' a' w' (by rw[hk 0 (by omega)];exact hag.trans (Nat.le_refl _) (by rw[hk j (Nat.le_refl _)] at hag';exact hag')) hr'
   cases ex with
   |normal=>exact absurd rfl hex
   |exit id=>exact this
   |ret=>exact this
  |succ d ih=>
   intro j hj φ1 a1 w1 hag hr1
   refine hstep j (by omega) w0 φ1 a1 w1 hr1 _ ?_
   intro φ' a' w' hag' hr'
   exact ih (j+1) (by omega) φ' a' w' (hag.trans (Nat.le_refl _) (by rw[hk j (by omega)] at hag';exact hag')) hr'
 exact key N 0 (by omega) φ a w (Agree.refl _ _) hr
theorem Hq {α:Type} {y:Code} {rd:List AV→List Blk→α} {pre:α→List Prop} {T F:α→List AV} {M G:α→List Blk} {ex:Ex} (hl:∀x,(G x).length=(M x).length)
  (h:∀x,cL (pre x)→Goes P (.loop y) ex (T x) (M x) (F x) (G x)):pa P (.loop y) (HT rd pre T M F G ex):=
 OZ hl fun x hp w0 φ a w hr Q hQ=>h x hp w0 φ a w hr Q hQ
end
def bp:Nat→Nat→(Nat→Nat)→List Piece
 |0,_,_=>[]
 |n+1,j,u=> .a (.u .u32 (u j))::bp n (j+1) u
def ak (N i:Nat):Nat:=N/4294967296^i%4294967296
def aW:Nat→Nat→(Nat→Nat)→Nat
 |0,_,_=>0
 |n+1,j,u=>u j+4294967296*aW n (j+1) u
theorem u6 (φ:c7) (N:Nat):∀n j,an φ (bp n j (ak N))=ef n (N/4294967296^j)
 |0,j=>rfl
 |n+1,j=>by
  simp only[bp,an,Piece.conc,Atom.conc,ef,List.cons_append,List.nil_append]
  rw[u6 φ N n (j+1),Nat.div_div_eq_div_mul,←Nat.pow_succ]
  rfl
theorem fv (φ:c7) (n N:Nat):an φ [.num n N]=an φ (bp n 0 (ak N)):=by
 rw[u6];simp[an,Piece.conc]
theorem pW (φ:c7) (u:Nat→Nat):∀n j,(∀i,j≤i→i<j+n→u i<4294967296)→ef n (aW n j u)=an φ (bp n j u)
 |0,j,_=>rfl
 |n+1,j,h=>by
  have h0:=h j (Nat.le_refl _) (by omega)
  have ih:=pW φ u n (j+1) (fun i h1 h2=>h i (by omega) (by omega))
  simp only[aW,bp,an,Piece.conc,Atom.conc,ef,List.cons_append,List.nil_append]
  rw[show (u j+4294967296*aW n (j+1) u)%4294967296=u j by omega,show (u j+4294967296*aW n (j+1) u)/4294967296=aW n (j+1) u by omega,ih]
theorem mv (φ:c7) (u:Nat→Nat) (n:Nat) (h:∀i,i<n→u i<4294967296):an φ [.num n (aW n 0 u)]=an φ (bp n 0 u):=by
 rw[←pW φ u n 0 (fun i _ h2=>h i (by omega))];simp[an,Piece.conc]
theorem ip (u:Nat→Nat):∀n j,(∀i,j≤i→i<j+n→u i<4294967296)→aW n j u<4294967296^n
 |0,j,_=>by simp[aW]
 |n+1,j,h=>by
  have h0:=h j (Nat.le_refl _) (by omega)
  have ih:=ip u n (j+1) (fun i h1 h2=>h i (by omega) (by omega))
  simp only[aW,Nat.pow_succ]
  omega
theorem ba (N i:Nat):ak N i<4294967296:=Nat.mod_lt _ (by decide)
theorem sM (N:Nat):∀n j,aW n j (ak N)=N/4294967296^j%4294967296^n
 |0,j=>by simp[aW,Nat.mod_one]
 |n+1,j=>by
  simp only[aW]
  rw[sM N n (j+1)]
  unfold ak
  rw[Nat.pow_succ 4294967296 j,←Nat.div_div_eq_div_mul,Nat.pow_succ 4294967296 n,Nat.mul_comm (4294967296^n),Nat.mod_mul]
theorem ce (N n:Nat) (h:N<4294967296^n):aW n 0 (ak N)=N:=by
 rw[sM];simp[Nat.mod_eq_of_lt h]
theorem gY (u:Nat→Nat) (f:Nat→Bool):∀n j,aI f (bp n j u)=true
 |0,_=>rfl
 |n+1,j=>by simp[bp,aI,gY u f n]
end Go.Ev
