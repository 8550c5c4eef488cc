/- An evaluator of the model's code with values known in part, and its soundness -/
import Derived.Calls
import Derived.Orders
import Derived.Below
import Derived.Laws.Cells
import Derived.Laws.World
import Derived.KernelRfl
import Derived.WalkKit
namespace Go.Ev
open Go
abbrev c7:=Nat→Nat×Nat×Nat
inductive Atom where
 |v (x:Value)
 |u (k:IntKind) (n:Nat)
 |i (z:Int)
 |ptr (b off:Nat)
 |sl (b off len cap:Nat)
 |sx (b len:Nat)
 deriving Inhabited
inductive Piece where
 |a (x:Atom)
 |num (k n:Nat)
 |arr (k:IntKind) (l:List Nat)
 deriving Inhabited
inductive V1 where
 |one (x:Atom)
 |agg (ps:List Piece)
 deriving Inhabited
inductive AV where
 |val (x:V1)
 |tup (xs:List V1)
 |junk
 deriving Inhabited
structure Blk where
 ps:List Piece
 elem:TypeId
 live:Bool
 ro:Bool
 esz:Nat
 deriving Inhabited
def Atom.conc (φ:c7):Atom→Value
 | .v x=>x
 | .u k n=> .int k (n:Int)
 | .i z=> .int .i64 z
 | .ptr b off=> .pointer (some ⟨(φ b).1,(φ b).2.1+off,none⟩)
 | .sl b off len cap=> .slice (some ⟨(φ b).1,(φ b).2.1+off,none⟩) len cap
 | .sx b len=> .slice (some ⟨(φ b).1,(φ b).2.1+0,none⟩) len (φ b).2.2
def ef:Nat→Nat→List Value
 |0,_=>[]
 |k+1,n=> .int .u32 ((n%4294967296:Nat):Int)::ef k (n/4294967296)
def Piece.conc (φ:c7):Piece→List Value
 | .a x=>[x.conc φ]
 | .num k n=>ef k n
 | .arr k l=>l.map fun n=> .int k ((n:Nat):Int)
def an (φ:c7):List Piece→List Value
 |[]=>[]
 |p::ps=>p.conc φ++an φ ps
def V1.conc (φ:c7):V1→Value
 | .one x=>x.conc φ
 | .agg ps=> .agg (an φ ps).toArray
def AV.conc (φ:c7):AV→Value
 | .val x=>x.conc φ
 | .tup xs=> .tuple (xs.map (V1.conc φ)).toArray
 | .junk=>undef
def kq:Value→Atom
 | .int .i64 z=> .i z
 | .int .u8 (.ofNat n)=> .u .u8 n
 | .int .u16 (.ofNat n)=> .u .u16 n
 | .int .u32 (.ofNat n)=> .u .u32 n
 | .int .u64 (.ofNat n)=> .u .u64 n
 |x=> .v x
def nu:Value→V1
 | .agg cs=> .agg (cs.toList.map fun c=> .a (kq c))
 |x=> .one (kq x)
def Atom.val? :Atom→Option Value
 | .v x=>some x
 | .u k n=>some (.int k n)
 | .i z=>some (.int .i64 z)
 |_=>none
def gN:Nat→Nat→List Piece
 |0,_=>[]
 |k+1,n=> .a (.u .u32 (n%4294967296))::gN k (n/4294967296)
def Piece.size:Piece→Nat
 | .a _=>1
 | .num k _=>k
 | .arr _ l=>l.length
def nW:List Piece→Nat→Option (List Piece)
 |ps,0=>some ps
 |[],_+1=>none
 | .a _::ps,n+1=>nW ps n
 | .num k x::ps,n+1=>
  match Nat.ble k (n+1) with
  |true=>nW ps (n+1-k)
  |false=>some ((gN k x).drop (n+1)++ps)
 | .arr _ _::_,_+1=>none
def o6:List Piece→Nat→Option (List Piece)
 |_,0=>some []
 |[],_+1=>none
 | .a x::ps,n+1=>match o6 ps n with
  |some r=>some (.a x::r)
  |none=>none
 | .num k x::ps,n+1=>
  match Nat.ble k (n+1) with
  |true=>match o6 ps (n+1-k) with
   |some r=>some (.num k x::r)
   |none=>none
  |false=>some ((gN k x).take (n+1))
 | .arr _ _::_,_+1=>none
def vx (ps:List Piece) (off n:Nat):Option (List Piece):=
 match nW ps off with
 |some r=>o6 r n
 |none=>none
def Ud (ps:List Piece) (off n:Nat) (new:List Piece):Option (List Piece):=
 match o6 ps off,nW ps (off+n) with
 |some l,some r=>some (l++(new++r))
 |_,_=>none
def fk:List Piece→Nat
 |[]=>0
 |p::ps=>p.size+fk ps
def V1.pieces:V1→Option (List Piece)
 | .one (.v (.agg _))=>none
 | .one (.v (.tuple _))=>none
 | .one x=>some [.a x]
 | .agg ps=>some ps
def PB:List Piece→Option Atom
 | .a x::_=>some x
 | .num (_+1) x::_=>some (.u .u32 (x%4294967296))
 |_=>none
def dm (P:Program) (t:TypeId):Option Bool:=
 match P.underlying t with
 |none=>none
 |some (.struct _)=>some true
 |some (.array _ _)=>some true
 |some _=>some false
def d8 (P:Program) (t:TypeId):Option Nat:=
 match P.info? t with
 |some i=>some i.size
 |none=>none
def wu (P:Program) (t:TypeId) (ps:List Piece) (off:Nat):Option V1:=
 match dm P t with
 |some true=>match d8 P t with
  |some n=>match vx ps off n with
   |some r=>some (.agg r)
   |none=>none
  |none=>none
 |some false=>match nW ps off with
  |some r=>match PB r with
   |some x=>some (.one x)
   |none=>none
  |none=>none
 |none=>none
def G6 {α β:Type}:List α→Nat→α→(List α→β)→β
 |[],_,_,k=>k []
 |_::xs,0,v,k=>k (v::xs)
 |x::xs,n+1,v,k=>G6 xs n v fun r=>k (x::r)
def aI (f:Nat→Bool):List Piece→Bool
 |[]=>true
 | .a (.ptr b _)::ps=>f b&&aI f ps
 | .a (.sl b _ _ _)::ps=>f b&&aI f ps
 | .a (.sx b _)::ps=>f b&&aI f ps
 |_::ps=>aI f ps
def V1.wf (n:Nat):V1→Bool
 | .one (.ptr b _)=>Nat.blt b n
 | .one (.sl b _ _ _)=>Nat.blt b n
 | .one (.sx b _)=>Nat.blt b n
 | .one _=>true
 | .agg ps=>aI (fun b=>Nat.blt b n) ps
def AV.wf (n:Nat):AV→Bool
 | .val x=>x.wf n
 | .tup xs=>xs.all (V1.wf n)
 | .junk=>true
def mJ (n:Nat):List Blk→Bool
 |[]=>true
 |b::bs=>aI (fun b=>Nat.blt b n) b.ps&&mJ n bs
def cw (n:Nat):List AV→Bool
 |[]=>true
 |x::xs=>x.wf n&&cw n xs
def unJ:Option AV→Option AV
 |some .junk=>none
 |x=>x
theorem xe {x:Option AV} {v:AV} (h:unJ x=some v):x=some v∧v≠.junk:=by
 unfold unJ at h
 split at h
 ·simp at h
 ·rename_i hne
  refine ⟨h,?_⟩
  rintro rfl
  exact hne h
def uc (tm:List AV):Operand→Option AV
 | .tmp t=>unJ (tm[t]?)
 | .const v=>some (.val (nu v))
 | .global _=>none
 | .func f=>some (.val (.one (.v (.func (.func f) #[] #[]))))
def n6 (s:Bool) (p:Prop) [Decidable p]:Option (List Prop):=
 match s with
 |true=>some [p]
 |false=>match decide p with
  |true=>some []
  |false=>none
def cq (k:IntKind):Nat:=2^k.bits
def eM {α:Type} (P:Program):Sem α→Option α
 | .pure a=>some a
 | .program k=>eM P (k P)
 |_=>none
def br (z:Int):Prop:= -9223372036854775808≤z∧z<9223372036854775808
instance (z:Int):Decidable (br z):=inferInstanceAs (Decidable (_∧_))
def acK (op:BinOp) (x y:Nat):Option Bool:=
 match op with
 | .eql=>some (decide (x=y))
 | .neq=>some (!decide (x=y))
 | .lss=>some (decide (x<y))
 | .leq=>some (decide (x≤y))
 | .gtr=>some (decide (y<x))
 | .geq=>some (decide (y≤x))
 |_=>none
def Tb (op:BinOp) (x y:Int):Option Bool:=
 match op with
 | .eql=>some (decide (x=y))
 | .neq=>some (!decide (x=y))
 | .lss=>some (decide (x<y))
 | .leq=>some (decide (x≤y))
 | .gtr=>some (decide (y<x))
 | .geq=>some (decide (y≤x))
 |_=>none
def eK:IntKind→Bool
 | .u8| .u16| .u32| .u64=>true
 |_=>false
def FH (s:Bool) (op:BinOp) (k:IntKind) (x y:Nat):Option (List Prop×Atom):=
 match op with
 | .add=>some ([],.u k ((x+y)%cq k))
 | .sub=>some ([],.u k ((x+(cq k-y%cq k))%cq k))
 | .mul=>some ([],.u k (x*y%cq k))
 | .and=>some ([],.u k ((x%cq k)&&&(y%cq k)))
 | .or=>some ([],.u k ((x%cq k)|||(y%cq k)))
 | .xor=>some ([],.u k ((x%cq k)^^^(y%cq k)))
 | .andNot=>some ([],.u k ((x%cq k)&&&(cq k-1-y%cq k)))
 | .quo=>match n6 s (y≠0) with
  |some o=>some (o,.u k (x/y%cq k))
  |none=>none
 | .rem=>match n6 s (y≠0) with
  |some o=>some (o,.u k (x%y))
  |none=>none
 |_=>match acK op x y with
  |some b=>some ([],.v (.bool b))
  |none=>none
def G0 (s:Bool) (op:BinOp) (x y:Int):Option (List Prop×Atom):=
 match op with
 | .add=>match n6 s (br (x+y)) with
  |some o=>some (o,.i (x+y))
  |none=>none
 | .sub=>match n6 s (br (x-y)) with
  |some o=>some (o,.i (x-y))
  |none=>none
 | .mul=>match n6 s (br (x*y)) with
  |some o=>some (o,.i (x*y))
  |none=>none
 | .quo=>match n6 s (y≠0∧br (x.tdiv y)) with
  |some o=>some (o,.i (x.tdiv y))
  |none=>none
 | .rem=>match n6 s (y≠0) with
  |some o=>some (o,.i (x.tmod y))
  |none=>none
 | .and=>some ([],.i (IntKind.i64.wrap ((BitVec.ofInt 64 x&&&BitVec.ofInt 64 y).toNat:Nat)))
 |_=>match Tb op x y with
  |some b=>some ([],.v (.bool b))
  |none=>none
def Ar (op:BinOp) (k:IntKind) (x n:Nat):Option Atom:=
 match op with
 | .shl=>some (.u k (x*2^(min n k.bits)%cq k))
 | .shr=>some (.u k (x/2^(min n k.bits)))
 |_=>none
def Yq (s:Bool) (op:BinOp) (x y:Int):Option (List Prop×Atom):=
 match op with
 | .shr=>match n6 s (0≤y) with
  |some o=>some (o,.i (x.fdiv (2^(min y.toNat 64))))
  |none=>none
 |_=>none
def lU:BinOp→Bool
 | .shl| .shr=>true
 |_=>false
def Lf:List Piece→List Piece→Option Bool
 |[],[]=>some true
 | .num k x::ps,.num k' y::qs=>
  match Nat.beq k k',Lf ps qs with
  |true,some b=>some (decide (x%4294967296^k=y%4294967296^k)&&b)
  |_,_=>none
 | .a (.u .u32 x)::ps,.a (.u .u32 y)::qs=>match Lf ps qs with
  |some b=>some (decide (x=y)&&b)
  |none=>none
 | .a (.u .u64 x)::ps,.a (.u .u64 y)::qs=>match Lf ps qs with
  |some b=>some (decide (x=y)&&b)
  |none=>none
 | .a (.u .u8 x)::ps,.a (.u .u8 y)::qs=>match Lf ps qs with
  |some b=>some (decide (x=y)&&b)
  |none=>none
 | .a (.i x)::ps,.a (.i y)::qs=>match Lf ps qs with
  |some b=>some (decide (x=y)&&b)
  |none=>none
 | .a (.v (.bool x))::ps,.a (.v (.bool y))::qs=>match Lf ps qs with
  |some b=>some ((x==y)&&b)
  |none=>none
 | .a (.v (.string x))::ps,.a (.v (.string y))::qs=>match Lf ps qs with
  |some b=>some ((x==y)&&b)
  |none=>none
 |_,_=>none
def tg:List Piece→List Piece
 |[]=>[]
 | .num k x::ps=>gN k x++tg ps
 |p::ps=>p::tg ps
def SH (ps qs:List Piece):Option Bool:=
 match Lf ps qs with
 |some b=>some b
 |none=>Lf (tg ps) (tg qs)
def j2:IntKind→Nat
 | .i8=>2| .i16=>3| .i32=>4| .i64=>5| .u8=>6| .u16=>7| .u32=>8| .u64=>9
def j6:Nat→List Nat→List Nat
 |0,_=>[]
 |n+1,ks=>ks++j6 n ks
def kw (P:Program) (g:TypeId→Option (List Nat)):List Field→Nat→Option (List Nat)
 |[],_=>some []
 |f::fs,off=>match f.name != "_"&&Nat.beq f.offset off,g f.type,d8 P f.type with
  |true,some ks,some n=>match Nat.beq ks.length n,kw P g fs (off+n) with
   |true,some r=>some (ks++r)
   |_,_=>none
  |_,_,_=>none
def fa (P:Program):Nat→TypeId→Option (List Nat)
 |0,_=>none
 |d+1,t=>match P.underlying t with
  |some (.int k)=>some [j2 k]
  |some .bool=>some [0]
  |some .string=>some [1]
  |some (.array len e)=>match fa P d e,d8 P e with
   |some ks,some n=>match Nat.beq ks.length n with
    |true=>some (j6 len ks)
    |false=>none
   |_,_=>none
  |some (.struct fs)=>match P.stoodInHeld t with
   |false=>kw P (fa P d) fs.toList 0
   |true=>none
  |_=>none
def gh:List Piece→Option (List Nat)
 |[]=>some []
 | .num k _::ps=>match gh ps with
  |some ks=>some (j6 k [8]++ks)
  |none=>none
 | .a (.u k _)::ps=>match gh ps with
  |some ks=>some (j2 k::ks)
  |none=>none
 | .a (.i _)::ps=>match gh ps with
  |some ks=>some (5::ks)
  |none=>none
 | .a (.v (.bool _))::ps=>match gh ps with
  |some ks=>some (0::ks)
  |none=>none
 | .a (.v (.string _))::ps=>match gh ps with
  |some ks=>some (1::ks)
  |none=>none
 |_=>none
def ze:List Nat→List Nat→Bool
 |[],[]=>true
 |x::xs,y::ys=>Nat.beq x y&&ze xs ys
 |_,_=>false
def HP:Option (List Nat)→Option (List Nat)→Bool
 |some x,some y=>ze x y
 |_,_=>false
def af3 (P:Program) (t:TypeId) (ps qs:List Piece):Bool:=
 (!P.eqGuardType P.depth t&&(match dm P t with|some true=>true|_=>false))&&(HP (fa P 20 t) (gh ps)&&HP (fa P 20 t) (gh qs))
def MK (P:Program) (s:Bool) (op:BinOp) (t:TypeId) (x y:V1):Option (List Prop×Atom):=
 match x,y with
 | .one (.u k a),.one (.u k' b)=>
  match lU op with
  |true=>match eK k,Ar op k a b with
   |true,some r=>some ([],r)
   |_,_=>none
  |false=>match decide (k=k')&&eK k with
   |true=>FH s op k a b
   |false=>none
 | .one (.u k a),.one (.i b)=>
  match lU op with
  |true=>match n6 s (0≤b) with
   |some o=>match eK k,Ar op k a b.toNat with
    |true,some r=>some (o,r)
    |_,_=>none
   |none=>none
  |false=>none
 | .one (.i a),.one (.i b)=>
  match lU op with
  |true=>Yq s op a b
  |false=>G0 s op a b
 | .one a,.one b=>
  match a.val?,b.val? with
  |some .nilIface,_=>none
  |some a,some b=>match eM P (do eqGuard op t (.tmp 0) (.tmp 0) a b;binOp op t a b) with
   |some r=>some ([],kq r)
   |none=>none
  |_,_=>none
 | .agg ps,.agg qs=>
  match af3 P t ps qs,SH ps qs with
  |true,some b=>match op with
   | .eql=>some ([],.v (.bool b))
   | .neq=>some ([],.v (.bool (!b)))
   |_=>none
  |_,_=>none
 |_,_=>none
def GC (s:Bool) (op:BinOp) (x y:V1):Option (ByteArray×ByteArray):=
 match s,op,x,y with
 |true,.add,.one (.v (.string a)),.one (.v (.string b))=>some (a,b)
 |_,_,_,_=>none
def adf (P:Program) (s:Bool) (op:BinOp) (t:TypeId) (x y:V1):Option (List Prop×Atom):=
 match GC s op x y with
 |some (a,b)=>some ([a.size+b.size≤9223372036854775807],.v (.string (a++b)))
 |none=>MK P s op t x y
def Ng (P:Program) (src dst:TypeId) (x:Atom):Option Atom:=
 match P.underlying src,P.underlying dst with
 |some _,some (.int .i64)=>match x with
  | .u _ n=>some (.i (IntKind.i64.wrap n))
  | .i z=>some (.i (IntKind.i64.wrap z))
  |_=>none
 |some _,some (.int k)=>match eK k with
  |true=>match x with
   | .u _ n=>some (.u k (n%cq k))
   | .i z=>some (.u k (z%(cq k:Int)).toNat)
   |_=>none
  |false=>none
 |_,_=>match x.val? with
  |some v=>match eM P (convert src dst v) with
   |some r=>some (kq r)
   |none=>none
  |none=>none
def Cs (op:UnOp) (x:Atom):Option Atom:=
 match op,x with
 | .not,.v (.bool b)=>some (.v (.bool (!b)))
 | .neg,.i z=>some (.i (IntKind.i64.wrap (0-z)))
 | .neg,.u k n=>match eK k with
  |true=>some (.u k ((cq k-n%cq k)%cq k))
  |false=>none
 | .xor,.u k n=>match eK k with
  |true=>some (.u k (cq k-1-n%cq k))
  |false=>none
 |_,_=>none
def lh (s:Bool) (d:Nat) (x:Option V1) (top:Nat):Option (List Prop×Nat):=
 match x with
 |none=>some ([],d)
 |some (.one (.i z))=>match n6 s (0≤z∧z≤(top:Int)) with
  |some o=>some (o,z.toNat)
  |none=>none
 |some _=>none
def uH (P:Program) (t:TypeId):Option (Array Field):=
 match P.underlying t with
 |some (.struct fs)=>some fs
 |_=>none
def xi (k8:Nat→Option (Nat×Nat)) (cells:List Piece):List (Nat×V1)→Option (List Piece)
 |[]=>some cells
 |(i,v)::rest=>
  match k8 i,v.pieces with
  |some (off,size),some ps=>match Nat.beq (fk ps) size with
   |true=>match Ud cells off size ps with
    |some c=>xi k8 c rest
    |none=>none
   |false=>none
  |_,_=>none
def kd (P:Program) (t:TypeId):Option (List Piece):=
 match P.info? t with
 |some i=>match i.zero with
  |some v=>match (nu v).pieces with
   |some ps=>some ps
   |none=>none
  |none=>none
 |none=>none
def gW (ρ:Operand→Option AV):List Operand→Option (List V1)
 |[]=>some []
 |x::xs=>match ρ x,gW ρ xs with
  |some (.val v),some vs=>some (v::vs)
  |_,_=>none
def qd (ρ:Operand→Option AV):List (Nat×Operand)→Option (List (Nat×V1))
 |[]=>some []
 |(i,x)::xs=>match ρ x,qd ρ xs with
  |some (.val v),some vs=>some ((i,v)::vs)
  |_,_=>none
abbrev sF:=Option (List Prop×AV×List Blk)
def one (mem:List Blk) (x:Atom):sF:=some ([],.val (.one x),mem)
def zQ (P:Program) (f:FuncId):Bool:=
 match P.funcs[f]? with
 |some fn=> !(fn.name== "runtime.NumGoroutine")&&fn.body.isSome
 |none=>false
def ac1 (P:Program) (t:TypeId) (x:V1):Option Int:=
 match P.underlying t,x with
 |some .string,.one (.v (.string s))=>some (s.size:Int)
 |some (.array n _),_=>some (n:Int)
 |some (.slice _),.one (.sl _ _ n _)=>some (n:Int)
 |some (.slice _),.one (.sx _ n)=>some (n:Int)
 |some (.slice _),.one (.v (.slice _ n _))=>some (n:Int)
 |_,_=>none
def mh (n:Nat):Nat→Bool:=fun b=>Nat.blt b n
def good (mem:List Blk) (ob:List Prop) (v:V1):sF:=
 match v.wf mem.length with
 |true=>some (ob,.val v,mem)
 |false=>none
def mg:List Piece→Bool
 |[]=>true
 | .a (.v x)::ps=>x.oneCell'&&mg ps
 |_::ps=>mg ps
def k8 (mem:List Blk) (b off n:Nat) (ps:List Piece) (k:Blk) (v:Atom):sF:=
 match Ud k.ps off n ps with
 |some qs=>match (aI (mh mem.length) qs&&mg ps)&& !k.ro with
  |true=>some ([],.val (.one v),mem.set b {k with ps:=qs})
  |false=>none
 |none=>none
def o9 (P:Program) (mem:List Blk) (t:TypeId):V1→sF
 | .one (.ptr b off)=>match mem[b]? with
  |some k=>match k.live,wu P t k.ps off with
   |true,some v=>good mem [] v
   |_,_=>none
  |none=>none
 |_=>none
def qe (P:Program) (mem:List Blk) (t:TypeId) (a v:V1):sF:=
 match a with
 | .one (.ptr b off)=>match v.pieces,d8 P t,mem[b]? with
  |some ps,some n,some k=>match k.live&&Nat.beq (fk ps) n with
   |true=>k8 mem b off n ps k (.v undef)
   |false=>none
  |_,_,_=>none
 |_=>none
def pJ (P:Program) (mem:List Blk) (t:TypeId) (f:Nat):V1→sF
 | .one (.ptr b off)=>match uH P t with
  |some fs=>match fs[f]? with
   |some fl=>match d8 P fl.type with
    |some n=>match Nat.beq n 0 with
     |false=>good mem [] (.one (.ptr b (off+fl.offset)))
     |true=>none
    |none=>none
   |none=>none
  |none=>none
 |_=>none
def FV (P:Program) (mem:List Blk) (t:TypeId) (f:Nat):V1→sF
 | .agg ps=>match uH P t with
  |some fs=>match fs[f]? with
   |some fl=>match wu P fl.type ps fl.offset with
    |some v=>good mem [] v
    |none=>none
   |none=>none
  |none=>none
 |_=>none
def pT (P:Program) (mem:List Blk) (s:Bool) (t:TypeId) (x i:V1):sF:=
 match x,i,P.underlying t with
 | .one (.ptr b off),.one (.i z),some (.array len e)=>match n6 s (0≤z∧z<(len:Int)),d8 P e with
  |some ob,some n=>good mem ob (.one (.ptr b (off+z.toNat*n)))
  |_,_=>none
 | .one (.sx b len),.one (.i z),some (.slice e)=>match n6 s (0≤z∧z<(len:Int)),d8 P e with
  |some ob,some n=>good mem ob (.one (.ptr b (0+z.toNat*n)))
  |_,_=>none
 | .one (.sl b off len _),.one (.i z),some (.slice e)=>match n6 s (0≤z∧z<(len:Int)),d8 P e with
  |some ob,some n=>good mem ob (.one (.ptr b (off+z.toNat*n)))
  |_,_=>none
 |_,_,_=>none
def FG (P:Program) (mem:List Blk) (t:TypeId) (x i:V1):sF:=
 match x,i,P.underlying t with
 | .agg ps,.one (.i z),some (.array len e)=>match decide (0≤z∧z<(len:Int)),d8 P e with
  |true,some n=>match wu P e ps (z.toNat*n) with
   |some v=>good mem [] v
   |none=>none
  |_,_=>none
 |_,_,_=>none
def sU (P:Program) (mem:List Blk) (s:Bool) (t:TypeId) (x:V1) (lo hi:Option V1):sF:=
 match x,P.underlying t with
 | .one (.ptr b off),some (.array n e)=>match lh s n hi n,d8 P e with
  |some (o1,hz),some sz=>match lh s 0 lo hz with
   |some (o2,lz)=>match Nat.beq n lz with
    |false=>good mem (o1++o2) (.one (.sl b (off+lz*sz) (hz-lz) (n-lz)))
    |true=>none
   |none=>none
  |_,_=>none
 |_,_=>none
def vB (P:Program) (mem:List Blk) (t:TypeId) (x y:V1):sF:=
 match x,y,P.underlying t with
 | .one (.sl b off n _),.one (.sl b' off' n' _),some (.slice e)=>match d8 P e,mem[b]?,mem[b']? with
  |some sz,some k,some k'=>match vx k'.ps off' (min n' n*sz),k.live&&k'.live with
   |some ps,true=>k8 mem b off (min n' n*sz) ps k (.i (min n' n:Nat))
   |_,_=>none
  |_,_,_=>none
 |_,_,_=>none
def mP:Nat→List Piece→List Piece
 |0,_=>[]
 |n+1,ps=>ps++mP n ps
def Fj (P:Program) (mem:List Blk) (t:TypeId) (x:V1):sF:=
 match P.underlying t,x with
 |some (.slice e),.one (.sl b off (n+1) _)=>match kd P e,mem[b]? with
  |some z,some k=>match k.live&&Nat.blt 0 (fk z) with
   |true=>k8 mem b off ((n+1)*fk z) (mP (n+1) z) k (.v undef)
   |false=>none
  |_,_=>none
 |_,_=>none
def Ls:List V1→Option Atom
 |[.one (.i a),.one (.i b)]=>some (.i (bif decide (b<a) then b else a))
 |_=>none
def ME:List V1→Option Atom
 |[.one (.i a),.one (.i b)]=>some (.i (bif decide (a<b) then b else a))
 |_=>none
def Fp (P:Program) (mem:List Blk) (t:TypeId) (vs:List (Nat×V1)):sF:=
 match kd P t with
 |some z=>match P.underlying t with
  |some (.array _ e)=>match d8 P e with
   |some n=>match xi (fun i=>some (i*n,n)) z vs with
    |some r=>good mem [] (.agg r)
    |none=>none
   |none=>none
  |some (.struct fs)=>match fs.toList.mapM (fun f=>(d8 P f.type).map fun n=>(f.offset,n)) with
   |some pl=>match xi (fun i=>pl[i]?) z vs with
    |some r=>good mem [] (.agg r)
    |none=>none
   |none=>none
  |_=>none
 |none=>none
def VN (mem:List Blk) (e:TypeId) (ps:List Piece):sF:=
 match aI (mh mem.length) ps with
 |true=>some ([],.val (.one (.ptr mem.length 0)),mem++[⟨ps,e,true,false,0⟩])
 |false=>none
def gv:Option AV→Option V1
 |some (.val v)=>some v
 |_=>none
def jy:V1→Option (Nat×Nat×Nat)
 | .one (.sl b off n _)=>some (b,off,n)
 | .one (.sx b n)=>some (b,0,n)
 |_=>none
def CX (mem:List Blk) (e:TypeId) (ps:List Piece) (l c:Nat):sF:=
 match aI (mh mem.length) ps with
 |true=>some ([],.val (.one (.sl mem.length 0 l c)),mem++[⟨ps,e,true,false,0⟩])
 |false=>none
def qr (P:Program) (t:TypeId) (len:Nat) (vs:List (Nat×V1)):Option (List Piece×TypeId):=
 match P.underlying t with
 |some (.slice e)=>match d8 P e,kd P e with
  |some n,some z=>match Nat.beq (fk z) n&&(Nat.ble (len*n) 16777216&&Nat.blt 0 n) with
   |true=>match xi (fun i=>some (i*n,n)) (mP len z) vs with
    |some ps=>some (ps,e)
    |none=>none
   |false=>none
  |_,_=>none
 |_=>none
def wy (P:Program) (mem:List Blk) (t:TypeId) (len:Nat) (vs:List (Nat×V1)):sF:=
 match qr P t len vs with
 |some (ps,e)=>CX mem e ps len len
 |none=>none
def Am (P:Program) (mem:List Blk) (t:TypeId) (l c:V1):sF:=
 match P.underlying t,l,c with
 |some (.slice e),.one (.i l),.one (.i c)=>match P.info? e,kd P e with
  |some i,some z=>match Nat.beq (fk z) i.size&&Nat.blt 0 i.size&&(decide (0≤l∧l≤c∧(i.bytes:Int)*c≤140737488355328∧c≤140737488355328)) with
   |true=>CX mem e (mP c.toNat z) l.toNat c.toNat
   |false=>none
  |_,_=>none
 |_,_,_=>none
def fg:List Piece→Option (List Nat)
 |[]=>some []
 | .a (.u .u8 n)::ps=>match fg ps with
  |some l=>some (n::l)
  |none=>none
 |_=>none
def bQ (l:List Nat):ByteArray:=⟨(l.map UInt8.ofNat).toArray⟩
def Gr (P:Program) (mem:List Blk) (src dst:TypeId) (x:V1):sF:=
 match P.underlying src,P.underlying dst with
 |some (.slice e),some .string=>match P.underlying e,x with
  |some (.int .u8),.one (.v (.slice none _ _))=>one mem (.v (.string .empty))
  |some (.int .u8),x=>match jy x with
   |some (b,off,n)=>match mem[b]? with
    |some k=>match k.live,vx k.ps off n with
     |true,some ps=>match fg ps with
      |some l=>one mem (.v (.string (bQ l)))
      |none=>none
     |_,_=>none
    |none=>none
   |none=>none
  |_,_=>none
 |_,_=>none
def nT (s:ByteArray):List Piece:=s.data.toList.map fun b=> .a (.u .u8 b.toNat)
def wh (P:Program) (mem:List Blk) (src dst:TypeId) (x:V1):sF:=
 match P.underlying src,P.underlying dst,x with
 |some .string,some (.slice e),.one (.v (.string s))=>match P.underlying e with
  |some (.int .u8)=>some ([],.val (.one (.sx mem.length s.size)),mem++[⟨nT s,e,true,false,0⟩])
  |_=>none
 |_,_,_=>none
def It (mem:List Blk) (e size:Nat):V1→Option (Nat×List Piece×List Blk)
 | .one (.v (.slice none 0 0))=>some (0,[],mem)
 | .one (.sx b n)=>match mem[b]? with
  |some k=>match k.live&& !k.ro&&(Nat.beq k.esz size&&Nat.blt 0 size)&&(Nat.beq k.elem e&&Nat.beq (fk k.ps) (n*size)) with
   |true=>some (n,k.ps,mem.set b {k with live:=false})
   |false=>none
  |none=>none
 |_=>none
def zt (P:Program) (mem:List Blk) (t:TypeId) (s x:V1):sF:=
 match P.underlying t with
 |some (.slice e)=>match P.info? e,kd P e with
  |some i,some z=>match It mem e i.size s,jy x with
   |some (n,xs,mem1),some (b,off,m)=>match mem[b]? with
    |some k=>match k.live,vx k.ps off (m*i.size) with
     |true,some news=>match aI (mh mem.length) (xs++news)&&mg news&&(Nat.beq (fk z) i.size&&Nat.blt 0 i.size)&&decide ((n+m)*i.bytes≤140737488355328∧n+m≤140737488355328)&&Nat.blt 0 m with
      |true=>some ([],.val (.one (.sx mem.length (n+m))),mem1++[⟨xs++news,e,true,false,i.size⟩])
      |false=>none
     |_,_=>none
    |none=>none
   |_,_=>none
  |_,_=>none
 |_=>none
def jM (P:Program) (mem:List Blk) (t:TypeId) (s x:V1):sF:=
 match s with
 | .one (.sl b1 off1 n cap)=>match P.underlying t with
  |some (.slice e)=>match P.info? e,kd P e with
   |some i,some z=>match mem[b1]?,jy x with
    |some k1,some (b,off,m)=>match mem[b]? with
     |some k=>match k1.live&&k.live,vx k1.ps off1 (n*i.size),vx k.ps off (m*i.size) with
      |true,some xs,some news=>match (aI (mh mem.length) (xs++news)&&(Nat.beq (fk z) i.size&&Nat.blt 0 i.size))&&(decide ((n+m)*i.bytes≤140737488355328∧n+m≤140737488355328)&&Nat.blt cap (n+m)) with
       |true=>some ([],.val (.one (.sx mem.length (n+m))),mem++[⟨xs++news,e,true,false,i.size⟩])
       |false=>none
      |_,_,_=>none
     |none=>none
    |_,_=>none
   |_,_=>none
  |_=>none
 |s=>zt P mem t s x
def BH (P:Program) (mem:List Blk) (t:TypeId) (s x:V1):sF:=
 match P.underlying t with
 |some (.slice e)=>match P.info? e with
  |some i=>match x with
   | .one (.v (.slice none 0 0))=>match s with
    | .one (.sl b off n cap)=>match Nat.ble n cap&&Nat.blt b mem.length with
     |true=>some ([],.val (.one (.sl b off n cap)),mem)
     |false=>none
    | .one (.sx b n)=>match It mem e i.size (.one (.sx b n)) with
     |some _=>some ([],.val (.one (.sx b n)),mem)
     |none=>none
    |_=>none
   |x=>match jy s,jy x with
    |some (b1,_,n),some (b,_,m)=>match mem[b1]?,mem[b]? with
     |some k1,some k=>
      let mem1:=match s with
       | .one (.sx b1 _)=>mem.set b1 {k1 with live:=false}
       |_=>mem
      let mem2:=mem1++[⟨k1.ps++k.ps,e,true,false,i.size⟩]
      some ([jM P mem t s x=some ([],.val (.one (.sx mem.length (n+m))),mem2)],.val (.one (.sx mem.length (n+m))),mem2)
     |_,_=>none
    |_,_=>jM P mem t s x
  |none=>none
 |_=>none
def xc (P:Program) (mem:List Blk) (s:Bool) (t:TypeId) (x:V1) (lo hi:Option V1):sF:=
 match P.underlying t,x with
 |some .string,.one (.v (.string y))=>match lh s y.size hi y.size with
  |some (o1,h)=>match lh s 0 lo h with
   |some (o2,l)=>good mem (o1++o2) (.one (.v (.string (y.extract l h))))
   |none=>none
  |none=>none
 |some (.slice e),.one (.sl b off n c)=>match lh s n hi c,d8 P e with
  |some (o1,h),some sz=>match lh s 0 lo h with
   |some (o2,l)=>match Nat.beq l 0 with
    |true=>good mem (o1++o2) (.one (.sl b off (h-l) (c-l)))
    |false=>match Nat.beq c l with
     |false=>good mem (o1++o2) (.one (.sl b (off+l*sz) (h-l) (c-l)))
     |true=>none
   |none=>none
  |_,_=>none
 |some (.slice e),.one (.v (.slice none 0 0))=>match lh s 0 hi 0,d8 P e with
  |some (o1,h),some _=>match lh s 0 lo h with
   |some (o2,l)=>match Nat.beq l 0,Nat.beq h 0 with
    |true,true=>good mem (o1++o2) (.one (.v (.slice none 0 0)))
    |_,_=>none
   |none=>none
  |_,_=>none
 |_,_=>none
def sw (P:Program) (mem:List Blk) (s:Bool) (t:TypeId) (x i:V1):sF:=
 match P.underlying t,x,i with
 |some .string,.one (.v (.string y)),.one (.i z)=>match n6 s (0≤z∧z<(y.size:Int)) with
  |some ob=>good mem ob (.one (.u .u8 (y.data.getD z.toNat 0).toNat))
  |none=>none
 |some .string,.one (.v (.string y)),.one (.u _ z)=>match n6 s (z<y.size) with
  |some ob=>good mem ob (.one (.u .u8 (y.data.getD z 0).toNat))
  |none=>none
 |_,_,_=>none
def ru (P:Program) (s:Bool) (ρ:Operand→Option AV) (mem:List Blk) (o:Op):sF:=
 match o with
 | .move x| .assign x=>match ρ x with
  |some (.val v)=>good mem [] v
  |some (.tup xs)=>match (AV.tup xs).wf mem.length with
   |true=>some ([],.tup xs,mem)
   |false=>none
  |some .junk=>none
  |none=>none
 | .pick q a b=>match gv (ρ q) with
  |some (.one (.v (.bool true)))=>match gv (ρ a) with
   |some v=>good mem [] v
   |none=>none
  |some (.one (.v (.bool false)))=>match gv (ρ b) with
   |some v=>good mem [] v
   |none=>none
  |_=>none
 | .alloc e=>match kd P e with
  |some ps=>VN mem e ps
  |none=>none
 | .box e x=>match gv (ρ x) with
  |some v=>match v.pieces with
   |some ps=>VN mem e ps
   |none=>none
  |none=>none
 | .build t parts=>match qd ρ parts.toList with
  |some vs=>Fp P mem t vs
  |none=>none
 | .load t a=>match gv (ρ a) with
  |some v=>o9 P mem t v
  |none=>none
 | .store t a x=>match gv (ρ a),gv (ρ x) with
  |some a,some v=>qe P mem t a v
  |_,_=>none
 | .nilCheck x=>match gv (ρ x) with
  |some (.one (.ptr b off))=>good mem [] (.one (.ptr b off))
  |some (.one (.v (.pointer (some a))))=>one mem (.v (.pointer (some a)))
  |_=>none
 | .binOp op t x y _=>match gv (ρ x),gv (ρ y) with
  |some x,some y=>match adf P s op t x y with
   |some (ob,r)=>good mem ob (.one r)
   |none=>none
  |_,_=>none
 | .unOp op _ x=>match gv (ρ x) with
  |some (.one x)=>match Cs op x with
   |some r=>good mem [] (.one r)
   |none=>none
  |_=>none
 | .convert src dst x=>match gv (ρ x) with
  |some (.one x)=>match P.underlying src,P.underlying dst with
   |some (.slice _),some .string=>Gr P mem src dst (.one x)
   |some .string,some (.slice _)=>wh P mem src dst (.one x)
   |_,_=>match Ng P src dst x with
    |some r=>good mem [] (.one r)
    |none=>none
  |_=>none
 | .buildSlice t len parts=>match qd ρ parts.toList with
  |some vs=>wy P mem t len vs
  |none=>none
 | .makeSlice t l c=>match gv (ρ l),gv (ρ c) with
  |some l,some c=>Am P mem t l c
  |_,_=>none
 | .fieldAddr t x f=>match gv (ρ x) with
  |some v=>pJ P mem t f v
  |none=>none
 | .field t x f=>match gv (ρ x) with
  |some v=>FV P mem t f v
  |none=>none
 | .indexAddr t x i=>match gv (ρ x),gv (ρ i) with
  |some x,some i=>pT P mem s t x i
  |_,_=>none
 | .index t x i=>match gv (ρ x),gv (ρ i) with
  |some x,some i=>match P.underlying t with
   |some .string=>sw P mem s t x i
   |_=>FG P mem t x i
  |_,_=>none
 | .extract x i=>match ρ x with
  |some (.tup xs)=>match xs[i]? with
   |some v=>good mem [] v
   |none=>none
  |_=>none
 | .slice t x lo hi none=>match gv (ρ x),gW ρ lo.toList,gW ρ hi.toList with
  |some x,some l,some h=>match P.underlying t with
   |some (.array _ _)=>sU P mem s t x l.head? h.head?
   |_=>xc P mem s t x l.head? h.head?
  |_,_,_=>none
 | .call cl=>match cl.callee with
  | .builtin .len=>match gW ρ cl.args.toList,cl.argTypes[0]? with
   |some (x::_),some t=>match ac1 P t x with
    |some n=>one mem (.i n)
    |none=>none
   |_,_=>none
  | .builtin .copy=>match gW ρ cl.args.toList,cl.argTypes[0]? with
   |some [x,y],some t=>vB P mem t x y
   |_,_=>none
  | .builtin .append=>match gW ρ cl.args.toList,cl.argTypes[0]?,cl.argTypes[1]?,cl.argTypes[2]? with
   |some [x,y],some t,some t',none=>match Nat.beq t t' with
    |true=>match s with
     |true=>BH P mem t x y
     |false=>jM P mem t x y
    |false=>none
   |_,_,_,_=>none
  | .builtin .min=>match gW ρ cl.args.toList with
   |some vs=>match Ls vs with
    |some x=>one mem x
    |none=>none
   |none=>none
  | .builtin .max=>match gW ρ cl.args.toList with
   |some vs=>match ME vs with
    |some x=>one mem x
    |none=>none
   |none=>none
  | .builtin .clear=>match gW ρ cl.args.toList,cl.argTypes[0]? with
   |some [x],some t=>Fj P mem t x
   |_,_=>none
  |_=>none
 |_=>none
abbrev StR:=Option (List Prop×List Bool×AV×List Blk)
def Dp (s:Bool) (c:List Bool) (ob:List Prop) (v:AV) (mem:List Blk):StR:=
 match s,v with
 |true,.val (.one (.v (.bool b)))=>match c with
  |d::c'=>some ((b=d)::ob,c',.val (.one (.v (.bool d))),mem)
  |[]=>none
 |_,_=>some (ob,c,v,mem)
def unary:List Bool→Nat→Option (Nat×List Bool)
 |true::c,n=>unary c (n+1)
 |false::c,n=>some (n,c)
 |[],_=>none
def md (s:Bool×Bool) (c:List Bool) (ob:List Prop) (v:AV) (mem:List Blk):StR:=
 match s.2,v with
 |true,.val (.one (.i z))=>match unary c 0 with
  |some (n,c')=>some ((z=(n:Int))::ob,c',.val (.one (.i (n:Int))),mem)
  |none=>none
 |_,_=>Dp s.1 c ob v mem
def Lj:Option AV→Option FuncId
 |some (.val (.one (.v (.func (.func f) a b))))=>match a.toList,b.toList with
  |[],[]=>some f
  |_,_=>none
 |_=>none
abbrev CF:=FuncId→List V1→List Blk→List Bool→StR
def dg (P:Program) (t:TypeId) (ps:List Piece) (off:Nat) (v:V1):Prop:=
 ∀φ:c7,match v with
  | .agg r=>dm P t=some true∧∃n,d8 P t=some n∧an φ r=((an φ ps).drop off).take n∧(an φ r).length=n
  | .one x=>dm P t=some false∧(an φ ps)[off]? =some (x.conc φ)
def yF (P:Program) (orc:FuncId→List V1→Option V1) (mem:List Blk) (t:TypeId):Option V1→Option (List Prop×V1×Nat)
 |some (.one (.ptr b off))=>match mem[b]? with
  |some k=>match k.live,orc (3000000+t) [.one (.ptr b off)] with
   |true,some v=>match v.wf 0 with
    |true=>some ([dg P t k.ps off v],v,b)
    |false=>none
   |_,_=>none
  |none=>none
 |_=>none
def aml (cf:CF) (mem:List Blk):FuncId→List V1→Option V1:=fun f vs=>match cf f vs mem [] with
 |some (_,_,.val v,_)=>some v
 |_=>none
def pb (k:Blk):Option (IntKind×List Nat):=
 match k.ro with
 |true=>none
 |false=>match k.live,k.ps with
  |true,[.arr kk l]=>some (kk,l)
  |_,_=>none
def EF (P:Program) (t:TypeId):Option IntKind:=
 match P.underlying t with
 |some (.int kk)=>some kk
 |_=>none
def pr (a b:IntKind):Bool:=Nat.beq (j2 a) (j2 b)
def zh (P:Program) (mem:List Blk) (t:TypeId):Option V1→Option (List Prop×V1×Nat)
 |some (.one (.ptr b off))=>match mem[b]? with
  |some k=>match EF P t,pb k with
   |some kk',some (kk,l)=>match pr kk kk' with
    |true=>some ([off<l.length],.one (.u kk (l.getD off 0)),b)
    |false=>none
   |_,_=>none
  |none=>none
 |_=>none
def yp (P:Program) (mem:List Blk) (t:TypeId) (x y:Option V1):Option (List Prop×Nat×Blk):=
 match x,y with
 |some (.one (.ptr b off)),some (.one (.u ky n))=>match mem[b]? with
  |some k=>match pb k,EF P t,d8 P t with
   |some (kk,l),some kk',some sz=>match (pr kk kk'&&pr kk ky)&&(Nat.beq sz 1&& !k.ro) with
    |true=>some ([off<l.length],b,{k with ps:=[.arr kk (l.set off n)]})
    |false=>none
   |_,_,_=>none
  |none=>none
 |_,_=>none
def nq (P:Program) (mem:List Blk) (src dst:TypeId) (x:Option V1):Option (List Prop×ByteArray×Nat):=
 match P.underlying src,P.underlying dst,x with
 |some (.slice e),some .string,some x=>match P.underlying e,jy x with
  |some (.int .u8),some (b,off,n)=>match mem[b]? with
   |some k=>match pb k with
    |some (.u8,l)=>some ([off=0∧n=l.length],bQ l,b)
    |some _=>none
    |none=>match k.live,vx k.ps off n with
     |true,some ps=>match fg ps with
      |some l=>some ([],bQ l,b)
      |none=>none
     |_,_=>none
   |none=>none
  |_,_=>none
 |_,_,_=>none
def aZ (s:ByteArray):List Nat:=s.data.toList.map UInt8.toNat
def tf (P:Program) (mem:List Blk) (t:TypeId) (x y:Option V1):Option (List Prop×ByteArray×Nat×Blk):=
 match P.underlying t,x,y with
 |some (.slice e),some x,some (.one (.v (.string s)))=>match P.underlying e,jy x,d8 P e with
  |some (.int .u8),some (b,off,n),some sz=>match mem[b]? with
   |some k=>match pb k with
    |some (.u8,l)=>match Nat.beq sz 1&& !k.ro with
     |true=>some ([off=0∧n=l.length∧s.size≤n],s,b,{k with ps:=[.arr .u8 (aZ s++l.drop s.size)]})
     |false=>none
    |_=>none
   |none=>none
  |_,_,_=>none
 |_,_,_=>none
def vw (P:Program) (orc:FuncId→List V1→Option V1) (mem:List Blk) (ρ:Operand→Option AV) (o:Op):Option (List Prop×V1×Nat×Option Blk):=
 match o with
 | .load t x=>match zh P mem t (gv (ρ x)) with
  |some (ob,v,b)=>some (ob,v,b,none)
  |none=>match yF P orc mem t (gv (ρ x)) with
   |some (ob,v,b)=>some (ob,v,b,none)
   |none=>none
 | .store t x y=>match yp P mem t (gv (ρ x)) (gv (ρ y)) with
  |some (ob,b,k)=>some (ob,.one (.v undef),b,some k)
  |none=>none
 | .convert src dst x=>match nq P mem src dst (gv (ρ x)) with
  |some (ob,s,b)=>some (ob,.one (.v (.string s)),b,none)
  |none=>none
 | .call cl=>match cl.callee,cl.args.toList,cl.argTypes[0]? with
  | .builtin .copy,[x,y],some t=>match tf P mem t (gv (ρ x)) (gv (ρ y)) with
   |some (ob,s,b,k)=>some (ob,.one (.i (s.size:Int)),b,some k)
   |none=>none
  |_,_,_=>none
 |_=>none
def apB (mem:List Blk) (b:Nat):Option Blk→List Blk
 |none=>mem
 |some k=>mem.set b k
def Ll (k:Blk) (off m:Nat):Option (List Prop×IntKind×List Nat):=
 match pb k with
 |some (kk,l)=>some ([off=0∧m=l.length],kk,l)
 |none=>match k.live,vx k.ps off m with
  |true,some ps=>match fg ps with
   |some l=>some ([],.u8,l)
   |none=>none
  |_,_=>none
def Hd (P:Program) (mem:List Blk) (t:TypeId) (x y:V1):sF:=
 match P.underlying t,x with
 |some (.slice e),.one (.sx b1 n)=>match P.info? e,kd P e,EF P e,jy y with
  |some i,some z,some kk,some (b,off,m)=>match mem[b1]?,mem[b]? with
   |some k1,some k=>match pb k1,Ll k off m with
    |some (kk1,l1),some (ob,kk2,l2)=>match (pr kk kk1&&pr kk kk2)&&(Nat.beq k1.esz i.size&&Nat.beq k1.elem e)&&(Nat.beq (fk z) i.size&&Nat.beq i.size 1) with
     |true=>some ((n=l1.length∧0<m∧(n+m)*i.bytes≤140737488355328∧n+m≤140737488355328)::ob,.val (.one (.sx mem.length (n+m))),mem.set b1 {k1 with live:=false}++[⟨[.arr kk (l1++l2)],e,true,false,i.size⟩])
     |false=>none
    |_,_=>none
   |_,_=>none
  |_,_,_,_=>none
 |_,_=>none
def Hc (P:Program) (mem:List Blk) (ρ:Operand→Option AV) (o:Op):sF:=
 match o with
 | .convert src dst x=>match P.underlying src,P.underlying dst,gv (ρ x) with
  |some .string,some (.slice e),some (.one (.v (.string s)))=>match P.underlying e with
   |some (.int .u8)=>some ([s.size≤140737488355328],.val (.one (.sx mem.length s.size)),mem++[⟨[.arr .u8 (aZ s)],e,true,false,1⟩])
   |_=>none
  |_,_,_=>none
 | .makeSlice t l c=>match P.underlying t,gv (ρ l),gv (ρ c) with
  |some (.slice e),some (.one (.i l)),some (.one (.i c))=>match P.info? e,kd P e with
   |some i,some [.a (.u .u8 0)]=>match Nat.beq i.size 1&&Nat.beq i.bytes 1 with
    |true=>some ([0≤l∧l=c∧c≤140737488355328],.val (.one (.sl mem.length 0 l.toNat c.toNat)),mem++[⟨[.arr .u8 (List.replicate l.toNat 0)],e,true,false,0⟩])
    |false=>none
   |_,_=>none
  |_,_,_=>none
 | .call cl=>match cl.callee,cl.args.toList,cl.argTypes[0]?,cl.argTypes[1]?,cl.argTypes[2]? with
  | .builtin .append,[x,y],some t,some t',none=>match Nat.beq t t' with
   |true=>match gv (ρ x),gv (ρ y) with
    |some u,some v=>Hd P mem t u v
    |_,_=>none
   |false=>none
  |_,_,_,_,_=>none
 |_=>none
def XC (S:Nat→Bool) (o:Oper):Bool:=
 match o.dst with
 |some d=>S (d+2000000)
 |none=>match o.op with
  | .store _ (.tmp j) _=>S (j+4000000)
  |_=>false
def O' (P:Program) (cf:CF) (S:Nat→Bool) (ρ:Operand→Option AV) (mem:List Blk) (c:List Bool) (o:Oper):StR:=
 match XC S o with
 |true=>match vw P (aml cf mem) mem ρ o.op with
  |some (ob,v,b,nb)=>some (ob,c,.val v,apB mem b nb)
  |none=>match Hc P mem ρ o.op with
   |some (ob,v,mem')=>some (ob,c,v,mem')
   |none=>none
 |false=>
 let s:=match o.dst with
  |some d=>(S d,S (d+1000000))
  |none=>(false,false)
 match o.op with
 | .call cl=>match cl.callee with
  | .value x=>match Lj (ρ x),gW ρ cl.args.toList with
   |some f,some vs=>match zQ P f with
    |true=>match cf f vs mem c with
     |some (ob,c',v,mem')=>md s c' ob v mem'
     |none=>none
    |false=>none
   |_,_=>none
  |_=>match ru P s.1 ρ mem o.op with
   |some (ob,v,mem')=>md s c ob v mem'
   |none=>none
 |_=>match ru P s.1 ρ mem o.op with
  |some (ob,v,mem')=>md s c ob v mem'
  |none=>none
def xn (ops:List Oper) (tm:List AV) (o:Oper):Option Bool:=
 match o.guard with
 |none=>some true
 |some (j,want)=>match ops[j]? with
  |some g=>match g.dst with
   |some d=>match tm[d]? with
    |some (.val (.one (.v (.bool b))))=>some (b==want)
    |some (.val (.one (.v (.tuple _))))=>some false
    |_=>none
   |none=>none
  |none=>none
def Ry:AV:= .val (.one (.v undef))
def Ep (P:Program) (cf:CF) (S:Nat→Bool) (ops:List Oper) (tm:List AV) (mem:List Blk) (c:List Bool) (o:Oper):StR:=
 match xn ops tm o with
 |some true=>O' P cf S (uc tm) mem c o
 |some false=>some ([],c,Ry,mem)
 |none=>none
def ik (tm:List AV) (d:Option Tmp) (v:AV):List AV:=
 match d with
 |some d=>tm.set d v
 |none=>tm
def sK (P:Program) (cf:CF) (S:Nat→Bool) (ops:List Oper):List Oper→List AV→List Blk→List Bool→Option (List Prop×List Bool×List AV×List Blk)
 |[],tm,mem,c=>some ([],c,tm,mem)
 |o::rest,tm,mem,c=>match Ep P cf S ops tm mem c o with
  |some (ob,c',v,mem')=>match o.dst with
   |some d=>G6 tm d v fun tm'=>match sK P cf S ops rest tm' mem' c' with
    |some (ob',r)=>some (ob++ob',r)
    |none=>none
   |none=>match sK P cf S ops rest tm mem' c' with
    |some (ob',r)=>some (ob++ob',r)
    |none=>none
  |none=>none
end Go.Ev
namespace Go.Ev
open Go Go.RowKit
def cL:List Prop→Prop
 |[]=>True
 |p::ps=>p∧cL ps
theorem aY {l r:List Prop}:cL (l++r)↔cL l∧cL r:=by
 induction l with
 |nil=>simp[cL]
 |cons p l ih=>simp only[List.cons_append,cL,ih,and_assoc]
theorem bb (φ:c7) (ps qs:List Piece):an φ (ps++qs)=an φ ps++an φ qs:=by
 induction ps with
 |nil=>rfl
 |cons p ps ih=>simp[an,ih]
theorem fD (k n:Nat):(ef k n).length=k:=by
 induction k generalizing n with
 |zero=>rfl
 |succ k ih=>simp[ef,ih]
theorem o7 (φ:c7) (k n:Nat):an φ (gN k n)=ef k n:=by
 induction k generalizing n with
 |zero=>rfl
 |succ k ih=>simp[gN,an,ef,Piece.conc,Atom.conc,ih]
theorem Piece.conc_length (φ:c7) (p:Piece):(p.conc φ).length=p.size:=by
 cases p<;>simp[Piece.conc,Piece.size,fD]
theorem eo (φ:c7) (ps:List Piece):(an φ ps).length=fk ps:=by
 induction ps with
 |nil=>rfl
 |cons p ps ih=>simp[an,fk,Piece.conc_length,ih]
theorem j3 (φ:c7):∀(k x n:Nat),an φ ((gN k x).drop n)=(ef k x).drop n
 |k,x,0=>by simp[o7]
 |0,x,n+1=>by simp[gN,ef,an]
 |k+1,x,n+1=>by simp[gN,ef,j3 φ k]
theorem kA (φ:c7):∀(k x n:Nat),an φ ((gN k x).take n)=(ef k x).take n
 |k,x,0=>by simp[an]
 |0,x,n+1=>by simp[gN,ef,an]
 |k+1,x,n+1=>by simp[gN,ef,an,Piece.conc,Atom.conc,kA φ k]
theorem iX {φ:c7}:∀(ps:List Piece) (n:Nat) (r:List Piece),nW ps n=some r→an φ r=(an φ ps).drop n∧n≤(an φ ps).length
 |ps,0,r,h=>by
  have:ps=r:=by cases ps<;>simpa[nW] using h
  simp[this]
 |[],n+1,r,h=>by simp[nW] at h
 | .a x::ps,n+1,r,h=>by
  simp only[nW] at h
  obtain ⟨h1,h2⟩:=iX (φ:=φ) ps n r h
  simp[an,Piece.conc,h1,h2]
 | .num k x::ps,n+1,r,h=>by
  simp only[nW] at h
  split at h
  ·rename_i hk
   have hk:=Nat.le_of_ble_eq_true hk
   obtain ⟨h1,h2⟩:=iX (φ:=φ) ps _ r h
   have hl:=fD k x
   simp only[an,Piece.conc]
   rw[h1,List.drop_append,List.drop_of_length_le (by omega:(ef k x).length≤n+1),List.length_append,hl]
   simp;omega
  ·rename_i hk
   have hk:¬k≤n+1:=fun hh=>by rw[Nat.ble_eq_true_of_le hh] at hk;cases hk
   simp only[Option.some.injEq] at h
   subst h
   have hl:=fD k x
   simp only[an,bb,Piece.conc,j3]
   rw[List.drop_append,List.length_append,hl,show n+1-k=0 by omega]
   simp;omega
 | .arr k l::ps,n+1,r,h=>by simp[nW] at h
theorem mr {φ:c7}:∀(ps:List Piece) (n:Nat) (r:List Piece),o6 ps n=some r→an φ r=(an φ ps).take n∧n≤(an φ ps).length
 |ps,0,r,h=>by
  have:r=[]:=by cases ps<;>simpa[o6,eq_comm] using h
  simp[this,an]
 |[],n+1,r,h=>by simp[o6] at h
 | .a x::ps,n+1,r,h=>by
  simp only[o6] at h
  split at h
  ·rename_i r' hr
   obtain ⟨h1,h2⟩:=mr (φ:=φ) ps n r' hr
   simp only[Option.some.injEq] at h
   subst h
   simp[an,Piece.conc,h1,h2]
  ·simp at h
 | .num k x::ps,n+1,r,h=>by
  simp only[o6] at h
  split at h
  ·rename_i hk
   have hk:=Nat.le_of_ble_eq_true hk
   split at h
   ·rename_i r' hr
    obtain ⟨h1,h2⟩:=mr (φ:=φ) ps _ r' hr
    simp only[Option.some.injEq] at h
    subst h
    have hl:=fD k x
    simp only[an,Piece.conc]
    rw[h1,List.take_append,List.take_of_length_le (by omega:(ef k x).length≤n+1),List.length_append,hl]
    simp;omega
   ·simp at h
  ·rename_i hk
   have hk:¬k≤n+1:=fun hh=>by rw[Nat.ble_eq_true_of_le hh] at hk;cases hk
   simp only[Option.some.injEq] at h
   subst h
   have hl:=fD k x
   simp only[an,Piece.conc,kA]
   rw[List.take_append,List.length_append,hl,show n+1-k=0 by omega]
   simp;omega
 | .arr k l::ps,n+1,r,h=>by simp[o6] at h
theorem iQ {φ:c7} {ps r:List Piece} {off n:Nat} (h:vx ps off n=some r):
  an φ r=((an φ ps).drop off).take n∧off+n≤(an φ ps).length∧(an φ r).length=n:=by
 unfold vx at h
 split at h
 ·rename_i q hq
  obtain ⟨h1,h2⟩:=iX (φ:=φ) _ _ _ hq
  obtain ⟨h3,h4⟩:=mr (φ:=φ) _ _ _ h
  have:n≤((an φ ps).drop off).length:=by rw[←h1];exact h4
  simp at this
  rw[h1] at h3
  refine ⟨h3,by omega,?_⟩
  rw[h3];simp;omega
 ·simp at h
theorem yX {φ:c7} {ps new r:List Piece} {off n:Nat} (h:Ud ps off n new=some r):
  an φ r=(an φ ps).take off++(an φ new++(an φ ps).drop (off+n))∧off+n≤(an φ ps).length:=by
 unfold Ud at h
 split at h
 ·rename_i l q hl hq
  obtain ⟨h1,h2⟩:=mr (φ:=φ) _ _ _ hl
  obtain ⟨h3,h4⟩:=iX (φ:=φ) _ _ _ hq
  simp only[Option.some.injEq] at h
  subst h
  exact ⟨by simp only[bb,h1,h3],h4⟩
 ·simp at h
theorem vY {φ:c7} {ps:List Piece} {x:Atom} (h:PB ps=some x):(an φ ps)[0]? =some (x.conc φ):=by
 unfold PB at h
 split at h
 ·simp only[Option.some.injEq] at h;subst h;rfl
 ·simp only[Option.some.injEq] at h;subst h;rfl
 ·simp at h
def Agree (n:Nat) (φ φ':c7):Prop:=∀b,b<n→φ' b=φ b
theorem Agree.refl (n:Nat) (φ:c7):Agree n φ φ:=fun _ _=>rfl
theorem Agree.trans {n m:Nat} {φ φ' φ'':c7} (h:Agree n φ φ') (hnm:n≤m) (h':Agree m φ' φ''):Agree n φ φ'':=
 fun b hb=>(h' b (by omega)).trans (h b hb)
theorem cU {n:Nat} {φ φ':c7} (h:Agree n φ φ'):∀(ps:List Piece),aI (mh n) ps=true→an φ' ps=an φ ps
 |[],_=>rfl
 | .num k x::ps,hp=>by simp only[aI] at hp;simp[an,Piece.conc,cU h ps hp]
 | .arr k x::ps,hp=>by simp only[aI] at hp;simp[an,Piece.conc,cU h ps hp]
 | .a x::ps,hp=>by
  cases x with
  |ptr b off=>
   simp only[aI,Bool.and_eq_true,mh,Nat.blt,Nat.ble_eq] at hp
   simp[an,Piece.conc,Atom.conc,cU h ps hp.2,h b hp.1]
  |sl b off len cap=>
   simp only[aI,Bool.and_eq_true,mh,Nat.blt,Nat.ble_eq] at hp
   simp[an,Piece.conc,Atom.conc,cU h ps hp.2,h b hp.1]
  |sx b len=>
   simp only[aI,Bool.and_eq_true,mh,Nat.blt,Nat.ble_eq] at hp
   simp[an,Piece.conc,Atom.conc,cU h ps hp.2,h b hp.1]
  |v x=>simp only[aI] at hp;simp[an,Piece.conc,Atom.conc,cU h ps hp]
  |u k x=>simp only[aI] at hp;simp[an,Piece.conc,Atom.conc,cU h ps hp]
  |i x=>simp only[aI] at hp;simp[an,Piece.conc,Atom.conc,cU h ps hp]
theorem V1.conc_agree {n:Nat} {φ φ':c7} (h:Agree n φ φ') (x:V1) (hx:x.wf n=true):x.conc φ'=x.conc φ:=by
 cases x with
 |agg ps=>simp only[V1.wf] at hx;simp[V1.conc,cU h ps hx]
 |one x=>
  cases x with
  |ptr b off=>simp only[V1.wf,Nat.blt,Nat.ble_eq] at hx;simp[V1.conc,Atom.conc,h b hx]
  |sl b off len cap=>simp only[V1.wf,Nat.blt,Nat.ble_eq] at hx;simp[V1.conc,Atom.conc,h b hx]
  |sx b len=>simp only[V1.wf,Nat.blt,Nat.ble_eq] at hx;simp[V1.conc,Atom.conc,h b hx]
  |_=>rfl
theorem AV.conc_agree {n:Nat} {φ φ':c7} (h:Agree n φ φ') (x:AV) (hx:x.wf n=true):x.conc φ'=x.conc φ:=by
 cases x with
 |val x=>exact V1.conc_agree h x hx
 |tup xs=>
  simp only[AV.wf,List.all_eq_true] at hx
  simp only[AV.conc,Value.tuple.injEq]
  congr 1
  exact List.map_congr_left fun x hm=>V1.conc_agree h x (hx x hm)
 |junk=>rfl
theorem di {n m:Nat} (h:n≤m):∀(ps:List Piece),aI (mh n) ps=true→aI (mh m) ps=true
 |[],_=>rfl
 | .num k x::ps,hp=>by simp only[aI] at hp ⊢;exact di h ps hp
 | .arr k x::ps,hp=>by simp only[aI] at hp ⊢;exact di h ps hp
 | .a x::ps,hp=>by
  cases x with
  |ptr b off=>
   simp only[aI,Bool.and_eq_true,mh,Nat.blt,Nat.ble_eq] at hp ⊢
   exact ⟨by omega,di h ps hp.2⟩
  |sl b off len cap=>
   simp only[aI,Bool.and_eq_true,mh,Nat.blt,Nat.ble_eq] at hp ⊢
   exact ⟨by omega,di h ps hp.2⟩
  |sx b len=>
   simp only[aI,Bool.and_eq_true,mh,Nat.blt,Nat.ble_eq] at hp ⊢
   exact ⟨by omega,di h ps hp.2⟩
  |v x=>simp only[aI] at hp ⊢;exact di h ps hp
  |u k x=>simp only[aI] at hp ⊢;exact di h ps hp
  |i x=>simp only[aI] at hp ⊢;exact di h ps hp
theorem V1.wf_mono {n m:Nat} (h:n≤m) (x:V1) (hx:x.wf n=true):x.wf m=true:=by
 cases x with
 |agg ps=>exact di h ps hx
 |one x=>
  cases x with
  |ptr b off=>simp only[V1.wf,Nat.blt,Nat.ble_eq] at hx ⊢;omega
  |sl b off len cap=>simp only[V1.wf,Nat.blt,Nat.ble_eq] at hx ⊢;omega
  |sx b len=>simp only[V1.wf,Nat.blt,Nat.ble_eq] at hx ⊢;omega
  |_=>rfl
theorem AV.wf_mono {n m:Nat} (h:n≤m) (x:AV) (hx:x.wf n=true):x.wf m=true:=by
 cases x with
 |val x=>exact V1.wf_mono h x hx
 |tup xs=>
  simp only[AV.wf,List.all_eq_true] at hx ⊢
  exact fun x hm=>V1.wf_mono h x (hx x hm)
 |junk=>rfl
def oU (w:World) (l:Nat×Nat×Nat) (cs:List Value) (b:Blk):Prop:=
 ∃tail lo hi,w.heap[l.1]? =some (.cells (cs++tail).toArray b.elem (lo,hi))∧(∀j,j<cs.length→¬(lo≤j∧j<hi))∧
  (0<b.esz→(hi≤lo∨l.2.2*b.esz≤lo)∧(cs++tail).length=l.2.2*b.esz∧l.2.2≤maxLen)
structure MRel (w0:World) (φ:c7) (mem:List Blk) (w:World):Prop where
 below:Below w0.heap.size w0 w
 inj:∀(i j:Nat) (b b':Blk),mem[i]? =some b→mem[j]? =some b'→b.live=true→b'.live=true→b.ro=false→b'.ro=false→(φ i).1=(φ j).1→i=j
 own:∀(i:Nat) (b:Blk),mem[i]? =some b→b.live=true→b.ro=false→w0.heap.size≤(φ i).1∧(φ i).2.1=0
 old:∀(i:Nat) (b:Blk),mem[i]? =some b→b.live=true→b.ro=true→(φ i).1<w0.heap.size∧∀j v,(an φ b.ps)[j]? =some v→w0.cell? ⟨(φ i).1,(φ i).2.1+j,none⟩=some v
 blk:∀(i:Nat) (b:Blk),mem[i]? =some b→b.live=true→b.ro=false→oU w (φ i) (an φ b.ps) b
 wf:∀(i:Nat) (b:Blk),mem[i]? =some b→aI (mh mem.length) b.ps=true
theorem aM {α:Type} {l:List α} {i:Nat} {b:α} (hb:l[i]? =some b):i<l.length:=by
 rcases Nat.lt_or_ge i l.length with h'|h'
 ·exact h'
 ·rw[List.getElem?_eq_none h'] at hb;simp at hb
theorem MRel.lt {w0 w:World} {φ:c7} {mem:List Blk} (h:MRel w0 φ mem w) {i:Nat} {b:Blk} (hb:mem[i]? =some b) (hl:b.live=true):(φ i).1<w.heap.size:=by
 cases hro:b.ro with
 |false=>
  obtain ⟨_,_,_,this,_⟩:=h.blk i b hb hl hro
  rcases Nat.lt_or_ge (φ i).1 w.heap.size with h'|h'
  ·exact h'
  ·rw[Array.getElem?_eq_none h'] at this;simp at this
 |true=>exact Nat.lt_of_lt_of_le (h.old i b hb hl hro).1 h.below.size
theorem MRel.agree {w0 w:World} {φ φ':c7} {mem:List Blk} (h:MRel w0 φ mem w) (ha:Agree mem.length φ φ'):MRel w0 φ' mem w where
 below:=h.below
 inj:=fun i j b b' hb hb' hl hl' hr hr' e=>h.inj i j b b' hb hb' hl hl' hr hr' (by rw[←ha i (aM hb),←ha j (aM hb')];exact e)
 own:=fun i b hb hl hr=>by rw[ha i (aM hb)];exact h.own i b hb hl hr
 old:=fun i b hb hl hr=>by rw[ha i (aM hb),cU ha _ (h.wf i b hb)];exact h.old i b hb hl hr
 blk:=fun i b hb hl hr=>by rw[ha i (aM hb),cU ha _ (h.wf i b hb)];exact h.blk i b hb hl hr
 wf:=h.wf
theorem MRel.below_of {w0 w:World} {φ:c7} {m:List Blk} (h:MRel w0 φ m w) {w':World} (hb:Below w.heap.size w w'):MRel w0 φ m w':=
 ⟨h.below.trans (hb.mono h.below.size),h.inj,h.own,h.old,fun i b hb' hl hr=>by unfold oU;rw[hb.block _ (h.lt hb' hl)];exact h.blk i b hb' hl hr,h.wf⟩
theorem MRel.alloc {w0 w:World} {φ:c7} {mem:List Blk} (h:MRel w0 φ mem w) (ps:List Piece) (e:TypeId) (hp:aI (mh mem.length) ps=true):
  ∃φ':c7,Agree mem.length φ φ'∧φ' mem.length=(w.heap.size,0,0)∧MRel w0 φ' (mem++[⟨ps,e,true,false,0⟩]) (w.alloc (.cells (an φ ps).toArray e)):=by
 have hag:Agree mem.length φ (fun b=>if b=mem.length then (w.heap.size,0,0) else φ b):=fun b hb=>by simp;omega
 refine ⟨fun b=>if b=mem.length then (w.heap.size,0,0) else φ b,hag,by simp,?_⟩
 have h':=h.agree hag
 have split:∀(i:Nat) (b:Blk),(mem++[(⟨ps,e,true,false,0⟩:Blk)])[i]? =some b→(i=mem.length∧b=⟨ps,e,true,false,0⟩)∨(i<mem.length∧mem[i]? =some b):=by
  intro i b hb
  have hi:=aM hb
  simp only[List.length_append,List.length_cons,List.length_nil] at hi
  by_cases h1:i=mem.length
  ·subst h1;simp at hb;exact .inl ⟨rfl,hb.symm⟩
  ·have h2:i<mem.length:=by omega
   rw[List.getElem?_append_left h2] at hb
   exact .inr ⟨h2,hb⟩
 constructor
 ·exact h.below.alloc h.below.size _
 ·intro i j b b' hb hb' hl hl' hr hr' e
  rcases split i b hb with ⟨h1,rfl⟩|⟨h1,hb1⟩<;>rcases split j b' hb' with ⟨h2,rfl⟩|⟨h2,hb2⟩
  ·omega
  ·have:=h.lt hb2 hl'
   simp only[h1,if_true,show ¬j=mem.length by omega,if_false] at e;omega
  ·have:=h.lt hb1 hl
   simp only[h2,if_true,show ¬i=mem.length by omega,if_false] at e;omega
  ·exact h'.inj i j b b' hb1 hb2 hl hl' hr hr' e
 ·intro i b hb hl hr
  rcases split i b hb with ⟨h1,rfl⟩|⟨h1,hb1⟩
  ·simp only[h1,if_true];exact ⟨h.below.size,trivial⟩
  ·exact h'.own i b hb1 hl hr
 ·intro i b hb hl hr
  rcases split i b hb with ⟨h1,rfl⟩|⟨h1,hb1⟩
  ·cases hr
  ·exact h'.old i b hb1 hl hr
 ·intro i b hb hl hr
  rcases split i b hb with ⟨h1,rfl⟩|⟨h1,hb1⟩
  ·refine ⟨[],0,0,?_,by simp,by simp⟩
   simp only[h1,if_true,World.alloc,Array.getElem?_push_size,Option.some.injEq,Obj.cells.injEq,List.append_nil]
   exact ⟨by rw[cU hag _ hp],trivial,trivial⟩
  ·have:=h'.blk i b hb1 hl hr
   have h3:=h'.lt hb1 hl
   unfold oU at this ⊢
   simp only[World.alloc]
   rw[Array.getElem?_push,if_neg (by omega)]
   exact this
 ·intro i b hb
  simp only[List.length_append,List.length_cons,List.length_nil]
  rcases split i b hb with ⟨h1,rfl⟩|⟨h1,hb1⟩
  ·exact di (by omega) _ hp
  ·exact di (by omega) _ (h.wf i b hb1)
theorem MRel.write {w0 w w':World} {φ:c7} {mem:List Blk} (h:MRel w0 φ mem w) {b:Nat} {k:Blk} (hk:mem[b]? =some k) (hlv:k.live=true) (hro:k.ro=false) (qs:List Piece)
  (hp:aI (mh mem.length) qs=true) (hb:Below w0.heap.size w0 w') (hsame:∀j,j≠(φ b).1→w'.heap[j]? =w.heap[j]?)
  (hnew:oU w' (φ b) (an φ qs) k):MRel w0 φ (mem.set b {k with ps:=qs}) w':=by
 have hbl:=aM hk
 have split:∀(i:Nat) (x:Blk),(mem.set b {k with ps:=qs})[i]? =some x→(i=b∧x={k with ps:=qs})∨(i≠b∧mem[i]? =some x):=by
  intro i x hx
  by_cases h1:i=b
  ·subst h1
   rw[List.getElem?_set_self hbl] at hx
   simp only[Option.some.injEq] at hx
   exact .inl ⟨rfl,hx.symm⟩
  ·rw[List.getElem?_set_ne (by omega)] at hx
   exact .inr ⟨h1,hx⟩
 constructor
 ·exact hb
 ·intro i j x x' hx hx' hl hl' hr hr' e
  rcases split i x hx with ⟨h1,rfl⟩|⟨h1,hx1⟩<;>rcases split j x' hx' with ⟨h2,rfl⟩|⟨h2,hx2⟩
  ·omega
  ·subst h1;exact h.inj _ _ _ _ hk hx2 hlv hl' hro hr' e
  ·subst h2;exact h.inj _ _ _ _ hx1 hk hl hlv hr hro e
  ·exact h.inj _ _ _ _ hx1 hx2 hl hl' hr hr' e
 ·intro i x hx hl hr
  rcases split i x hx with ⟨h1,rfl⟩|⟨h1,hx1⟩
  ·subst h1;exact h.own _ _ hk hlv hro
  ·exact h.own _ _ hx1 hl hr
 ·intro i x hx hl hr
  rcases split i x hx with ⟨h1,rfl⟩|⟨h1,hx1⟩
  ·simp only[hro] at hr;cases hr
  ·exact h.old _ _ hx1 hl hr
 ·intro i x hx hl hr
  rcases split i x hx with ⟨h1,rfl⟩|⟨h1,hx1⟩
  ·subst h1;exact hnew
  ·unfold oU
   rw[hsame _ (fun e=>h1 (h.inj _ _ _ _ hx1 hk hl hlv hr hro e))]
   exact h.blk i x hx1 hl hr
 ·intro i x hx
  simp only[List.length_set]
  rcases split i x hx with ⟨h1,rfl⟩|⟨h1,hx1⟩
  ·exact hp
  ·exact h.wf i x hx1
section
variable {P:Program} {w0 w:World} {φ:c7} {mem:List Blk}
theorem aG {t:TypeId} {d:TypeDesc} (h:P.underlying t=some d) (w:World):(underlying t).run P w= .ok d w:=by
 simp[underlying,h]
theorem cQ {t:TypeId} {n:Nat} (h:d8 P t=some n) (w:World):(sizeOf t).run P w= .ok n w:=by
 unfold d8 at h
 split at h
 ·rename_i i hi
  simp only[Option.some.injEq] at h
  simp[sizeOf,typeInfo,hi,h]
 ·simp at h
theorem gi {t:TypeId} {b:Bool} (h:dm P t=some b) (w:World):(isAgg t).run P w= .ok b w:=by
 unfold dm at h
 split at h<;>rename_i hu
 ·simp at h
 ·simp only[Option.some.injEq] at h;subst h;simp[isAgg,underlying,hu]
 ·simp only[Option.some.injEq] at h;subst h;simp[isAgg,underlying,hu]
 ·rename_i d h1 h2
  simp only[Option.some.injEq] at h
  subst h
  simp only[isAgg,Sem.run_bind,underlying,run_program,Result.andThen_ok,hu]
  cases d<;>first|rfl|exact absurd hu (by simp_all)
theorem MRel.cell (h:MRel w0 φ mem w) {b:Nat} {k:Blk} (hk:mem[b]? =some k) (hlv:k.live=true) {off:Nat} {v:Value} (hv:(an φ k.ps)[off]? =some v):
  w.cell? ⟨(φ b).1,(φ b).2.1+off,none⟩=some v:=by
 cases hro:k.ro with
 |false=>
  obtain ⟨tail,lo,hi,h1,_⟩:=h.blk b k hk hlv hro
  have h2:=(h.own b k hk hlv hro).2
  have h3:=aM hv
  simp[World.cell?,h1,h2,List.getElem?_append_left h3,hv]
 |true=>
  obtain ⟨h1,h2⟩:=h.old b k hk hlv hro
  have:=h2 off v hv
  rwa[←h.below.cell (p:=⟨(φ b).1,(φ b).2.1+off,none⟩) h1] at this
theorem wc (b off i:Nat):(⟨b,off,none⟩:Addr).add i=⟨b,off+i,none⟩:=by
 unfold Addr.add
 split
 ·subst_vars;rfl
 ·rfl
theorem gl (b x off i:Nat):(⟨b,x+off,none⟩:Addr).add i=⟨b,x+(off+i),none⟩:=by
 unfold Addr.add
 split
 ·subst_vars;rfl
 ·simp[Nat.add_assoc]
theorem i5 (h:MRel w0 φ mem w) {b:Nat} {k:Blk} (hk:mem[b]? =some k) (hlv:k.live=true) {off n:Nat} {r:List Piece} (hr:vx k.ps off n=some r):
  (loadCells ⟨(φ b).1,(φ b).2.1+off,none⟩ n).run P w= .ok (an φ r).toArray w:=by
 obtain ⟨h1,h2,h3⟩:=iQ (φ:=φ) hr
 have:=run_loadCells_list (P:=P) w ⟨(φ b).1,(φ b).2.1+off,none⟩ (an φ r) (fun j v hj=>by
  rw[gl]
  refine h.cell hk hlv ?_
  have hjl:=aM hj
  rw[h1,List.getElem?_take_of_lt (by omega),List.getElem?_drop] at hj
  exact hj)
 rwa[h3] at this
theorem nh (h:MRel w0 φ mem w) {b:Nat} {k:Blk} (hk:mem[b]? =some k) (hlv:k.live=true) {off:Nat} {t:TypeId} {v:V1} (hv:wu P t k.ps off=some v):
  (loadVar t ⟨(φ b).1,(φ b).2.1+off,none⟩).run P w= .ok (v.conc φ) w:=by
 unfold wu at hv
 split at hv
 ·rename_i ha
  split at hv
  ·rename_i n hn
   split at hv
   ·rename_i r hr
    simp only[Option.some.injEq] at hv
    subst hv
    simp only[loadVar,Sem.run_bind,gi ha,Result.andThen_ok,if_true,cQ hn,i5 h hk hlv hr,V1.conc]
    rfl
   ·simp at hv
  ·simp at hv
 ·rename_i ha
  split at hv
  ·rename_i r hr
   split at hv
   ·rename_i x hx
    simp only[Option.some.injEq] at hv
    subst hv
    obtain ⟨h1,h2⟩:=iX (φ:=φ) _ _ _ hr
    have h3:=vY (φ:=φ) hx
    rw[h1,List.getElem?_drop] at h3
    have h4:=h.cell hk hlv h3
    simp only[Nat.add_zero] at h4
    simp[loadVar,gi ha,h4,V1.conc]
   ·simp at hv
  ·simp at hv
 ·simp at hv
theorem Ei (h:MRel w0 φ mem w) {b:Nat} {k:Blk} (hk:mem[b]? =some k) (hlv:k.live=true) {off:Nat} {t:TypeId} {v:V1} (hv:dg P t k.ps off v):
  (loadVar t ⟨(φ b).1,(φ b).2.1+off,none⟩).run P w= .ok (v.conc φ) w:=by
 have hv:=hv φ
 cases v with
 |agg r=>
  obtain ⟨ha,n,hn,h1,h3⟩:=hv
  have:=run_loadCells_list (P:=P) w ⟨(φ b).1,(φ b).2.1+off,none⟩ (an φ r) (fun j v hj=>by
   rw[gl]
   refine h.cell hk hlv ?_
   have hjl:=aM hj
   rw[h1,List.getElem?_take_of_lt (by omega),List.getElem?_drop] at hj
   exact hj)
  rw[h3] at this
  simp only[loadVar,Sem.run_bind,gi ha,Result.andThen_ok,if_true,cQ hn,this,V1.conc]
  rfl
 |one x=>
  obtain ⟨ha,h3⟩:=hv
  have h4:=h.cell hk hlv h3
  simp[loadVar,gi ha,h4,V1.conc]
theorem Fc {orc:FuncId→List V1→Option V1} {t:TypeId} {x:Option V1} {ob:List Prop} {v:V1} {b:Nat} (h:yF P orc mem t x=some (ob,v,b)) (ho:cL ob):
  ∃k off,x=some (.one (.ptr b off))∧mem[b]? =some k∧k.live=true∧dg P t k.ps off v∧v.wf 0=true:=by
 unfold yF at h
 split at h
 ·rename_i b' off
  split at h
  ·rename_i k hk
   split at h
   ·rename_i v' hlv _
    split at h
    ·rename_i hw
     simp only[Option.some.injEq,Prod.mk.injEq] at h
     obtain ⟨rfl,rfl,rfl⟩:=h
     exact ⟨k,off,rfl,hk,hlv,ho.1,hw⟩
    ·simp at h
   ·simp at h
  ·simp at h
 ·simp at h
theorem Do {t:TypeId} {ps:List Piece} {off:Nat} {v:V1} (hv:wu P t ps off=some v) (w:World):
  (part t (an φ ps).toArray off).run P w= .ok (v.conc φ) w:=by
 unfold wu at hv
 split at hv
 ·rename_i ha
  split at hv
  ·rename_i n hn
   split at hv
   ·rename_i r hr
    simp only[Option.some.injEq] at hv
    subst hv
    obtain ⟨h1,h2,h3⟩:=iQ (φ:=φ) hr
    simp only[part,Sem.run_bind,gi ha,Result.andThen_ok,if_true,cQ hn,V1.conc,h1]
    simp
   ·simp at hv
  ·simp at hv
 ·rename_i ha
  split at hv
  ·rename_i r hr
   split at hv
   ·rename_i x hx
    simp only[Option.some.injEq] at hv
    subst hv
    obtain ⟨h1,h2⟩:=iX (φ:=φ) _ _ _ hr
    have h3:=vY (φ:=φ) hx
    rw[h1,List.getElem?_drop] at h3
    simp only[Nat.add_zero] at h3
    simp[part,gi ha,h3,V1.conc]
   ·simp at hv
  ·simp at hv
 ·simp at hv
theorem ir (g o:Nat) (t:TypeId) (lo hi:Nat):∀(vs:List Value) (i:Nat) (cur:List Value) (w:World),
  w.heap[g]? =some (.cells cur.toArray t (lo,hi))→o+i+vs.length≤cur.length→(∀v∈vs,v.oneCell'=true)→
  (∀j,o+i≤j→j<o+i+vs.length→¬(lo≤j∧j<hi))→
  (storeCells ⟨g,o,none⟩ vs i).run P w= .ok () {w with heap:=w.heap.setIfInBounds g (.cells (cur.take (o+i)++(vs++cur.drop (o+i+vs.length))).toArray t (lo,hi))}
 |[],i,cur,w,hg,hl,hv,hf=>by
  simp only[storeCells,List.length_nil,Nat.add_zero,List.nil_append,List.take_append_drop]
  have hlt:g<w.heap.size:=by
   rcases Nat.lt_or_ge g w.heap.size with h|h
   ·exact h
   ·rw[Array.getElem?_eq_none h] at hg;simp at hg
  have:w.heap.setIfInBounds g (.cells cur.toArray t (lo,hi))=w.heap:=by
   apply Array.ext_getElem?
   intro j
   rw[Array.getElem?_setIfInBounds]
   split
   ·subst_vars;simp[hlt];simp[Array.getElem?_eq_getElem hlt] at hg;exact hg.symm
   ·rfl
  rw[this];rfl
 |v::vs,i,cur,w,hg,hl,hv,hf=>by
  simp only[List.length_cons] at hl hf
  have hcell:w.cell? ⟨g,o+i,none⟩=some (cur[o+i]'(by omega)):=by
   simp[World.cell?,hg]
  have hfr:w.frozen? ⟨g,o+i,none⟩=false:=by
   have:=hf (o+i) (by omega) (by omega)
   simp only[World.frozen?,hg]
   simp only[Bool.and_eq_false_iff,decide_eq_false_iff_not]
   omega
  have il:=run_store P w ⟨g,o+i,none⟩ v .plain (hv v (by simp))
  rw[hcell] at il
  simp only[hfr,Bool.false_eq_true,if_false] at il
  have hlt:g<w.heap.size:=by
   rcases Nat.lt_or_ge g w.heap.size with h|h
   ·exact h
   ·rw[Array.getElem?_eq_none h] at hg;simp at hg
  have hset:w.setCell ⟨g,o+i,none⟩ v={w with heap:=w.heap.setIfInBounds g (.cells (cur.set (o+i) v).toArray t (lo,hi))}:=by
   simp only[World.setCell]
   congr 1
   apply Array.ext_getElem?
   intro j
   rw[Array.getElem?_modify,Array.getElem?_setIfInBounds]
   split
   ·subst_vars
    have hg':=hg
    rw[Array.getElem?_eq_getElem hlt] at hg'
    simp only[Option.some.injEq] at hg'
    simp[hlt,hg']
   ·rfl
  have ih:=ir g o t lo hi vs (i+1) (cur.set (o+i) v) {w with heap:=w.heap.setIfInBounds g (.cells (cur.set (o+i) v).toArray t (lo,hi))}
   (by simp[hlt]) (by simp;omega) (fun x hx=>hv x (by simp[hx])) (fun j h1 h2=>hf j (by omega) (by omega))
  simp only[storeCells,Sem.run_bind,wc,il,Result.andThen_ok,hset,ih]
  congr 1
  have hlist:(cur.set (o+i) v).take (o+(i+1))++(vs++(cur.set (o+i) v).drop (o+(i+1)+vs.length))=cur.take (o+i)++(v::vs++cur.drop (o+i+(v::vs).length)):=by
   apply List.ext_getElem?
   intro j
   have e1:min (o+(i+1)) cur.length=o+i+1:=by omega
   have e2:min (o+i) cur.length=o+i:=by omega
   simp only[List.getElem?_append,List.length_take,List.length_set,List.getElem?_take,List.getElem?_drop,List.getElem?_set,e1,e2,List.length_cons,List.getElem?_cons]
   by_cases h1:j<o+i
   ·simp[h1,show j<o+i+1 by omega,show j<o+(i+1) by omega,show ¬o+i=j by omega]
   ·by_cases h2:j=o+i
    ·subst h2
     rw[if_pos (by omega),if_pos (by omega),if_pos rfl,if_pos (by omega),if_neg (by omega),if_pos (by omega),if_pos (by omega)]
    ·rw[if_neg (by omega),if_neg h1]
     by_cases h3:j-(o+i+1)<vs.length
     ·rw[if_pos h3,if_pos (by omega),if_neg (by omega),show j-(o+i)-1=j-(o+i+1) by omega]
     ·rw[if_neg h3,if_neg (by omega)]
      rw[if_neg (by omega)]
      congr 1;omega
  rw[hlist]
  simp
end
section
variable {P : Program} {w0 w : World} {φ : c7} {mem : List Blk}
theorem Ec (k : IntKind) : ((cq k : Nat) : Int) = (2 : Int) ^ k.bits := by simp [cq]
theorem wP (k : IntKind) : 0 < cq k := Nat.two_pow_pos _
theorem z' {k : IntKind} (hk : eK k = true) (z : Int) : k.wrap z = z % ((cq k : Nat) : Int) := by
  rw [Ec]
  cases k <;> simp [eK] at hk <;> simp [IntKind.wrap, IntKind.signed]
theorem lO {k : IntKind} (hk : eK k = true) (n : Nat) : k.wrap (n : Int) = ((n % cq k : Nat) : Int) := by
  rw [z' hk]; simp
theorem lW (x : Value) : (kq x).conc φ = x := by
  unfold kq
  split <;> rfl
theorem Nw {k : IntKind} (hk : eK k = true) (x y : Nat) : k.wrap ((x : Int) - (y : Int)) = (((x + (cq k - y % cq k)) % cq k : Nat) : Int) := by
  rw [z' hk]
  have hb := wP k
  have hm := Nat.mod_lt y hb
  generalize cq k = B at *
  have e : (x : Int) - (y : Int) = ((x + (B - y % B) : Nat) : Int) - (B : Int) * ((y / B : Nat) + 1 : Int) := by
    have := Nat.div_add_mod y B
    have h2 : ((y : Nat) : Int) = (B : Int) * ((y / B : Nat) : Int) + ((y % B : Nat) : Int) := by exact_mod_cast this.symm
    have h3 : ((x + (B - y % B) : Nat) : Int) = (x : Int) + ((B : Int) - ((y % B : Nat) : Int)) := by
      rw [Int.natCast_add, Int.natCast_sub (Nat.le_of_lt hm)]
    rw [h3, Int.mul_add, Int.mul_one]
    omega
  rw [e, Int.sub_mul_emod_self_left]
  simp
theorem q9 {k : IntKind} (hk : eK k = true) (r : BitVec k.bits) : k.wrap ((r.toNat : Nat) : Int) = ((r.toNat : Nat) : Int) := by
  rw [lO hk, Nat.mod_eq_of_lt]
  exact r.isLt
theorem fQ (k : IntKind) (n : Nat) : (BitVec.ofInt k.bits (n : Int)).toNat = n % cq k := by
  simp [cq]
theorem LP {op : BinOp} {x y : Nat} {b : Bool} (h : acK op x y = some b) (w : World) : (Op.intCmp op (x : Int) (y : Int)).run P w = .ok (.bool b) w := by
  unfold acK at h
  split at h <;> first
    | (simp only [Option.some.injEq] at h; subst h; simp [Op.intCmp]; done)
    | (simp only [Option.some.injEq] at h; subst h; simp only [Op.intCmp, Sem.run_pure]; congr 2; rw [Bool.eq_iff_iff]; simp; try omega)
    | (simp at h)
theorem Me {op : BinOp} {x y : Int} {b : Bool} (h : Tb op x y = some b) (w : World) : (Op.intCmp op x y).run P w = .ok (.bool b) w := by
  have e1 : (x == y) = decide (x = y) := by rw [Bool.eq_iff_iff]; simp
  have e2 : (x != y) = !decide (x = y) := by rw [Bool.eq_iff_iff]; simp
  unfold Tb at h
  split at h <;> first
    | (simp only [Option.some.injEq] at h; rw [← h]; simp only [Op.intCmp, Sem.run_pure, e1, e2]; done)
    | (simp only [Option.some.injEq] at h; rw [← h]; rfl)
    | (simp at h; done)
theorem dP {s : Bool} {p : Prop} [Decidable p] {o : List Prop} (h : n6 s p = some o) (ho : cL o) : p := by
  unfold n6 at h
  cases s
  · simp only at h
    split at h
    · rename_i hd; exact of_decide_eq_true hd
    · simp at h
  · simp only [Option.some.injEq] at h; subst h; exact ho.1
theorem ti {op : BinOp} {t : TypeId} {X Y : Operand} {a b : Value} (h1 : a ≠ .nilIface) (h2 : ∀ cs, a ≠ .agg cs) (w : World) :
    (eqGuard op t X Y a b).run P w = .ok () w := by
  unfold eqGuard
  cases op <;> first | rfl | (cases a <;> first | rfl | exact absurd rfl h1 | exact absurd rfl (h2 _))
theorem FP {s : Bool} {op : BinOp} {k : IntKind} {x y : Nat} {o : List Prop} {r : Atom} (hk : eK k = true) (h : FH s op k x y = some (o, r)) (ho : cL o) (hs : lU op = false)
    (t : TypeId) (w : World) : (binOp op t (.int k (x : Int)) (.int k (y : Int))).run P w = .ok (r.conc φ) w := by
  cases op <;> simp only [FH, lU, Bool.true_eq_false] at h hs
  case add => simp only [Option.some.injEq, Prod.mk.injEq] at h; obtain ⟨rfl, rfl⟩ := h; simp only [binOp, ne_eq, not_true_eq_false, if_false, Op.intArith, Sem.run_pure, Atom.conc]; rw [← Int.natCast_add, lO hk]
  case sub => simp only [Option.some.injEq, Prod.mk.injEq] at h; obtain ⟨rfl, rfl⟩ := h; simp only [binOp, ne_eq, not_true_eq_false, if_false, Op.intArith, Sem.run_pure, Atom.conc]; rw [Nw hk]
  case mul => simp only [Option.some.injEq, Prod.mk.injEq] at h; obtain ⟨rfl, rfl⟩ := h; simp only [binOp, ne_eq, not_true_eq_false, if_false, Op.intArith, Sem.run_pure, Atom.conc]; rw [← Int.natCast_mul, lO hk]
  case quo =>
    split at h
    · rename_i o' hm
      simp only [Option.some.injEq, Prod.mk.injEq] at h; obtain ⟨rfl, rfl⟩ := h
      have hy := dP hm ho
      have hy' : ¬ ((y : Int) = 0) := by omega
      simp only [binOp, ne_eq, not_true_eq_false, if_false, Op.intDiv, hy', Sem.run_pure, Atom.conc]; rw [← Int.ofNat_tdiv, lO hk]
    · simp at h
  case rem =>
    split at h
    · rename_i o' hm
      simp only [Option.some.injEq, Prod.mk.injEq] at h; obtain ⟨rfl, rfl⟩ := h
      have hy := dP hm ho
      have hy' : ¬ ((y : Int) = 0) := by omega
      simp only [binOp, ne_eq, not_true_eq_false, if_false, Op.intDiv, hy', Sem.run_pure, Atom.conc]; rw [← Int.ofNat_tmod]
    · simp at h
  case and => simp only [Option.some.injEq, Prod.mk.injEq] at h; obtain ⟨rfl, rfl⟩ := h; simp only [binOp, ne_eq, not_true_eq_false, if_false, Op.intBits, Sem.run_pure, Atom.conc]; rw [q9 hk, BitVec.toNat_and, fQ, fQ]
  case or => simp only [Option.some.injEq, Prod.mk.injEq] at h; obtain ⟨rfl, rfl⟩ := h; simp only [binOp, ne_eq, not_true_eq_false, if_false, Op.intBits, Sem.run_pure, Atom.conc]; rw [q9 hk, BitVec.toNat_or, fQ, fQ]
  case xor => simp only [Option.some.injEq, Prod.mk.injEq] at h; obtain ⟨rfl, rfl⟩ := h; simp only [binOp, ne_eq, not_true_eq_false, if_false, Op.intBits, Sem.run_pure, Atom.conc]; rw [q9 hk, BitVec.toNat_xor, fQ, fQ]
  case andNot => simp only [Option.some.injEq, Prod.mk.injEq] at h; obtain ⟨rfl, rfl⟩ := h; simp only [binOp, ne_eq, not_true_eq_false, if_false, Op.intBits, Sem.run_pure, Atom.conc]; rw [q9 hk, BitVec.toNat_and, BitVec.toNat_not, fQ, fQ]; rfl
  all_goals
    split at h
    · rename_i b hb
      simp only [Option.some.injEq, Prod.mk.injEq] at h; obtain ⟨rfl, rfl⟩ := h
      simp only [binOp, ne_eq, not_true_eq_false, if_false, Atom.conc]
      exact LP hb w
    · simp at h
theorem gS {z : Int} (h : br z) : IntKind.i64.wrap z = z := IntWalk.i64_in z ⟨h.1, by have := h.2; omega⟩
theorem G7 {s : Bool} {op : BinOp} {x y : Int} {o : List Prop} {r : Atom} (h : G0 s op x y = some (o, r)) (ho : cL o) (hs : lU op = false)
    (t : TypeId) (w : World) : (binOp op t (.int .i64 x) (.int .i64 y)).run P w = .ok (r.conc φ) w := by
  cases op <;> simp only [G0, lU, Bool.true_eq_false] at h hs
  case add =>
    split at h
    · rename_i o' hm
      simp only [Option.some.injEq, Prod.mk.injEq] at h; obtain ⟨rfl, rfl⟩ := h
      simp only [binOp, ne_eq, not_true_eq_false, if_false, Op.intArith, Sem.run_pure, Atom.conc, gS (dP hm ho)]
    · simp at h
  case sub =>
    split at h
    · rename_i o' hm
      simp only [Option.some.injEq, Prod.mk.injEq] at h; obtain ⟨rfl, rfl⟩ := h
      simp only [binOp, ne_eq, not_true_eq_false, if_false, Op.intArith, Sem.run_pure, Atom.conc, gS (dP hm ho)]
    · simp at h
  case mul =>
    split at h
    · rename_i o' hm
      simp only [Option.some.injEq, Prod.mk.injEq] at h; obtain ⟨rfl, rfl⟩ := h
      simp only [binOp, ne_eq, not_true_eq_false, if_false, Op.intArith, Sem.run_pure, Atom.conc, gS (dP hm ho)]
    · simp at h
  case quo =>
    split at h
    · rename_i o' hm
      simp only [Option.some.injEq, Prod.mk.injEq] at h; obtain ⟨rfl, rfl⟩ := h
      obtain ⟨hy, hi⟩ := dP hm ho
      simp only [binOp, ne_eq, not_true_eq_false, if_false, Op.intDiv, hy, Sem.run_pure, Atom.conc, gS hi]
    · simp at h
  case rem =>
    split at h
    · rename_i o' hm
      simp only [Option.some.injEq, Prod.mk.injEq] at h; obtain ⟨rfl, rfl⟩ := h
      have hy := dP hm ho
      simp only [binOp, ne_eq, not_true_eq_false, if_false, Op.intDiv, hy, Sem.run_pure, Atom.conc]
    · simp at h
  case and =>
    simp only [Option.some.injEq, Prod.mk.injEq] at h; obtain ⟨rfl, rfl⟩ := h
    simp only [binOp, ne_eq, not_true_eq_false, if_false, Op.intBits, Sem.run_pure, Atom.conc]
    rfl
  all_goals first
    | (simp [Tb] at h; done)
    | (split at h
       · rename_i b hb
         simp only [Option.some.injEq, Prod.mk.injEq] at h; obtain ⟨rfl, rfl⟩ := h
         simp only [binOp, ne_eq, not_true_eq_false, if_false, Atom.conc]
         exact Me hb w
       · simp at h)
theorem LH {s : Bool} {op : BinOp} {x y : Int} {o : List Prop} {r : Atom} (h : Yq s op x y = some (o, r)) (ho : cL o) (t : TypeId) (w : World) : (binOp op t (.int .i64 x) (.int .i64 y)).run P w = .ok (r.conc φ) w := by
  unfold Yq at h
  split at h
  · split at h
    · rename_i o' hm
      simp only [Option.some.injEq, Prod.mk.injEq] at h; obtain ⟨rfl, rfl⟩ := h
      have hy := dP hm ho
      simp only [binOp, Op.shift, show ¬ (y < 0) by omega, if_false, Sem.run_pure, Atom.conc]
      rfl
    · simp at h
  · simp at h
theorem xm {op : BinOp} {k : IntKind} {x n : Nat} {r : Atom} (hk : eK k = true) (h : Ar op k x n = some r) (yk : IntKind) (t : TypeId) (w : World) :
    (binOp op t (.int k (x : Int)) (.int yk (n : Int))).run P w = .ok (r.conc φ) w := by
  cases op <;> simp only [Ar, Option.some.injEq, reduceCtorEq] at h
  case shl =>
    subst h
    simp only [binOp, Op.shift, show ¬ ((n : Int) < 0) by omega, if_false, Sem.run_pure, Atom.conc, Int.toNat_natCast]
    have : ((x : Int) * 2 ^ (min n k.bits)) = ((x * 2 ^ (min n k.bits) : Nat) : Int) := by simp
    rw [this, lO hk]
  case shr =>
    subst h
    simp only [binOp, Op.shift, show ¬ ((n : Int) < 0) by omega, if_false, Sem.run_pure, Atom.conc, Int.toNat_natCast]
    have : (2 : Int) ^ (min n k.bits) = ((2 ^ (min n k.bits) : Nat) : Int) := by simp
    rw [this, Int.fdiv_eq_ediv_of_nonneg _ (Int.natCast_nonneg _), ← Int.natCast_ediv]
theorem n7 {α : Type} : ∀ (s : Sem α) {a : α}, eM P s = some a → ∀ w, s.run P w = .ok a w
  | .pure a, b, h, w => by simp only [eM, Option.some.injEq] at h; subst h; rfl
  | .program k, b, h, w => by simp only [eM] at h; simp only [Sem.run]; exact n7 (k P) h w
  | .load .., _, h, _ => by simp [eM] at h
  | .store .., _, h, _ => by simp [eM] at h
  | .new .., _, h, _ => by simp [eM] at h
  | .shape .., _, h, _ => by simp [eM] at h
  | .freeze .., _, h, _ => by simp [eM] at h
  | .frozen .., _, h, _ => by simp [eM] at h
  | .getObj .., _, h, _ => by simp [eM] at h
  | .setObj .., _, h, _ => by simp [eM] at h
  | .choose .., _, h, _ => by simp [eM] at h
  | .sys .., _, h, _ => by simp [eM] at h
  | .mark .., _, h, _ => by simp [eM] at h
  | .halt .., _, h, _ => by simp [eM] at h
theorem rK {x : Atom} {v : Value} (h : x.val? = some v) : x.conc φ = v := by
  cases x <;> simp [Atom.val?] at h <;> simp [Atom.conc, h]
end
section
variable {P:Program} {φ:c7}
theorem Eg:∀{x y:List Nat},ze x y=true→x=y
 |[],[],_=>rfl
 |[],_::_,h=>by simp[ze] at h
 |_::_,[],h=>by simp[ze] at h
 |x::xs,y::ys,h=>by
  simp only[ze,Bool.and_eq_true,Nat.beq_eq] at h
  rw[h.1,Eg h.2]
theorem CJ {x y:Option (List Nat)} (h:HP x y=true):∃ks,x=some ks∧y=some ks:=by
 unfold HP at h
 split at h
 ·exact ⟨_,rfl,by rw[Eg h]⟩
 ·cases h
def fr:Value→Nat
 | .int k _=>j2 k
 | .bool _=>0
 | .string _=>1
 |_=>100
def sE:Value→Value→Bool
 | .int _ a,.int _ b=>a==b
 | .bool a,.bool b=>a==b
 | .string a,.string b=>a==b
 |_,_=>false
def dK:List Value→List Value→Bool
 |[],[]=>true
 |x::xs,y::ys=>sE x y&&dK xs ys
 |_,_=>false
theorem im:∀(a b c d:List Value),a.length=b.length→dK (a++c) (b++d)=(dK a b&&dK c d)
 |[],[],c,d,_=>by simp[dK]
 |[],_::_,c,d,h=>by simp at h
 |_::_,[],c,d,h=>by simp at h
 |x::xs,y::ys,c,d,h=>by
  simp only[List.cons_append,dK,im xs ys c d (by simpa using h),Bool.and_assoc]
theorem th (n:Nat) (ks:List Nat):(j6 n ks).length=n*ks.length:=by
 induction n with
 |zero=>simp[j6]
 |succ n ih=>simp[j6,ih,Nat.add_mul,Nat.add_comm]
theorem F' (k n:Nat):(ef k n).map fr=j6 k [8]:=by
 induction k generalizing n with
 |zero=>rfl
 |succ k ih=>simp[ef,j6,fr,j2,ih]
theorem f8:∀(ps:List Piece) {ks:List Nat},gh ps=some ks→(an φ ps).map fr=ks
 |[],ks,h=>by simp only[gh,Option.some.injEq] at h;subst h;rfl
 | .num k n::ps,ks,h=>by
  simp only[gh] at h
  split at h
  ·rename_i r hr
   simp only[Option.some.injEq] at h;subst h
   simp[an,Piece.conc,F',f8 ps hr]
  ·simp at h
 | .arr k l::ps,ks,h=>by simp[gh] at h
 | .a (.u k n)::ps,ks,h=>by
  simp only[gh] at h
  split at h
  ·rename_i r hr
   simp only[Option.some.injEq] at h;subst h
   simp[an,Piece.conc,Atom.conc,fr,f8 ps hr]
  ·simp at h
 | .a (.i n)::ps,ks,h=>by
  simp only[gh] at h
  split at h
  ·rename_i r hr
   simp only[Option.some.injEq] at h;subst h
   simp[an,Piece.conc,Atom.conc,fr,j2,f8 ps hr]
  ·simp at h
 | .a (.ptr _ _)::ps,ks,h=>by simp[gh] at h
 | .a (.sl _ _ _ _)::ps,ks,h=>by simp[gh] at h
 | .a (.sx _ _)::ps,ks,h=>by simp[gh] at h
 | .a (.v x)::ps,ks,h=>by
  cases x<;>simp only[gh,reduceCtorEq] at h
  case bool b=>
   split at h
   ·rename_i r hr
    simp only[Option.some.injEq] at h;subst h
    simp[an,Piece.conc,Atom.conc,fr,f8 ps hr]
   ·simp at h
  case string b=>
   split at h
   ·rename_i r hr
    simp only[Option.some.injEq] at h;subst h
    simp[an,Piece.conc,Atom.conc,fr,f8 ps hr]
   ·simp at h
theorem pg:∀(k x y:Nat),dK (ef k x) (ef k y)=decide (x%4294967296^k=y%4294967296^k)
 |0,x,y=>by simp[ef,dK,Nat.mod_one]
 |k+1,x,y=>by
  simp only[ef,dK,sE,pg k]
  rw[Bool.eq_iff_iff]
  simp only[Bool.and_eq_true,beq_iff_eq,decide_eq_true_eq]
  rw[Nat.pow_succ,Nat.mul_comm,Nat.mod_mul,Nat.mod_mul]
  constructor
  ·rintro ⟨h1,h2⟩
   have h1:x%4294967296=y%4294967296:=by exact_mod_cast h1
   rw[h1,h2]
  ·intro h
   have hx:=Nat.mod_lt x (show 0<4294967296 by decide)
   have hy:=Nat.mod_lt y (show 0<4294967296 by decide)
   have h1:x%4294967296=y%4294967296:=by
    have:=congrArg (· %4294967296) h
    simpa using this
   refine ⟨by exact_mod_cast h1,?_⟩
   rw[h1] at h
   have:=Nat.add_left_cancel h
   exact Nat.eq_of_mul_eq_mul_left (by decide) this
theorem Co:∀(ps qs:List Piece) {b:Bool},Lf ps qs=some b→dK (an φ ps) (an φ qs)=b:=by
 intro ps qs
 fun_induction Lf ps qs<;>intro b h
 all_goals first
  |(simp at h;done)
  |(simp only[Option.some.injEq] at h;subst h;rfl)
  |skip
 case case2 k x ps k' y qs b' hk he ih=>
  have hkk:k=k':=Nat.eq_of_beq_eq_true he
  subst hkk
  simp only[Option.some.injEq] at h;subst h
  simp only[an,Piece.conc]
  rw[im _ _ _ _ (by rw[fD,fD]),pg,ih hk]
 all_goals
  rename_i ih
  simp only[Option.some.injEq] at h;subst h
  simp only[an,Piece.conc,Atom.conc,List.cons_append,List.nil_append,dK,sE,ih ‹_›]
  try congr 1
  try (rw[Bool.eq_iff_iff];simp;try omega)
theorem km:∀(ps:List Piece),an φ (tg ps)=an φ ps
 |[]=>rfl
 | .num k x::ps=>by simp only[tg,bb,o7,an,Piece.conc,km ps]
 | .a _::ps=>by simp only[tg,an,km ps]
 | .arr _ _::ps=>by simp only[tg,an,km ps]
theorem ns (ps qs:List Piece) {b:Bool} (h:SH ps qs=some b):dK (an φ ps) (an φ qs)=b:=by
 unfold SH at h
 split at h
 ·rename_i b' hb
  simp only[Option.some.injEq] at h;subst h
  exact Co ps qs hb
 ·rw[←km ps,←km qs]
  exact Co _ _ h
def PQ (P:Program) (t:TypeId) (cs:List Value):Value:=
 match dm P t with
 |some true=> .agg cs.toArray
 |_=>cs.headD undef
theorem mG {t:TypeId} {n:Nat} (hn:d8 P t=some n) {b:Bool} (ha:dm P t=some b) (cs:List Value) (off:Nat) (hl:off+n≤cs.length) (h1:b=false→n=1) (w:World):
  (part t cs.toArray off).run P w= .ok (PQ P t ((cs.drop off).take n)) w:=by
 unfold PQ
 cases b
 ·have:=h1 rfl
  subst this
  have hlt:off<cs.length:=by omega
  simp only[part,Sem.run_bind,gi ha,Result.andThen_ok,Bool.false_eq_true,if_false,ha]
  rw[List.drop_eq_getElem_cons hlt]
  simp only[List.getElem?_toArray,List.getElem?_eq_getElem hlt,Sem.run_pure,List.take_succ_cons,List.headD_cons]
 ·simp only[part,Sem.run_bind,gi ha,Result.andThen_ok,if_true,cQ hn,ha]
  simp
def mt (d:Nat) (e:TypeId) (n:Nat) (xs ys:Array Value):List Nat→Sem Bool
 |[]=>pure true
 |i::is=>do
  let a ←part e xs (i*n)
  let b ←part e ys (i*n)
  let r ←Op.equalIn d e a b
  if (!r)=true then pure false else mt d e n xs ys is
theorem xJ (d:Nat) {t:TypeId} {len:Nat} {e:TypeId} {n:Nat} (ht:P.underlying t=some (.array len e)) (hn:d8 P e=some n) (xs ys:Array Value) (w:World):
  (Op.equalIn (d+1) t (.agg xs) (.agg ys)).run P w=(mt d e n xs ys (List.range' 0 len)).run P w:=by
 simp only[Op.equalIn,Sem.run_bind,aG ht,Result.andThen_ok,cQ hn]
 simp only[Std.Legacy.Range.forIn_eq_forIn_range',Std.Legacy.Range.size,Nat.sub_zero,Nat.add_sub_cancel,Nat.div_one]
 generalize List.range' 0 len=is
 induction is generalizing w with
 |nil=>simp[mt]
 |cons i is ih=>
  simp only[List.forIn_cons,mt,Sem.run_bind]
  generalize (part e xs (i*n)).run P w=r1
  cases r1 with
  |ok a w1=>
   simp only[Result.andThen_ok]
   generalize (part e ys (i*n)).run P w1=r2
   cases r2 with
   |ok b w2=>
    simp only[Result.andThen_ok]
    generalize (Op.equalIn d e a b).run P w2=r3
    cases r3 with
    |ok r w3=>
     cases r
     ·simp only[Result.andThen_ok,Bool.not_false,if_true,Sem.run_pure]
     ·simp only[Result.andThen_ok,Bool.not_true,Bool.false_eq_true,if_false,Sem.run_pure]
      exact ih w3
    |halt x w3=>simp[Result.andThen]
   |halt x w2=>simp[Result.andThen]
  |halt x w1=>simp[Result.andThen]
def adG (P:Program) (D:Nat) (t:TypeId) (ks:List Nat):Prop:=
 (∃b,dm P t=some b∧(b=false→ks.length=1))∧∀(cs ds:List Value) (w:World),cs.map fr=ks→ds.map fr=ks→
  (Op.equalIn D t (PQ P t cs) (PQ P t ds)).run P w= .ok (dK cs ds) w
theorem s9 {D:Nat} {e:TypeId} {n:Nat} {ks:List Nat} (hn:d8 P e=some n) (hk:ks.length=n) (he:adG P D e ks):∀(m i:Nat) (cs ds:List Value) (w:World),
  (cs.drop (i*n)).map fr=j6 m ks→(ds.drop (i*n)).map fr=j6 m ks→i*n≤cs.length→i*n≤ds.length→
  (mt D e n cs.toArray ds.toArray (List.range' i m)).run P w= .ok (dK (cs.drop (i*n)) (ds.drop (i*n))) w
 |0,i,cs,ds,w,hc,hd,_,_=>by
  simp only[j6,List.map_eq_nil_iff] at hc hd
  rw[hc,hd]
  simp[mt,dK]
 |m+1,i,cs,ds,w,hc,hd,hlc,hld=>by
  obtain ⟨⟨b,hb,hb1⟩,hrun⟩:=he
  simp only[j6] at hc hd
  have hci:(i+1)*n=i*n+n:=by rw[Nat.add_mul,Nat.one_mul]
  have lc:n≤(cs.drop (i*n)).length:=by have:=congrArg List.length hc;simp only[List.length_map,List.length_append] at this;omega
  have ld:n≤(ds.drop (i*n)).length:=by have:=congrArg List.length hd;simp only[List.length_map,List.length_append] at this;omega
  simp only[List.length_drop] at lc ld
  have tc:((cs.drop (i*n)).take n).map fr=ks:=by
   rw[List.map_take,hc,List.take_append_of_le_length (by omega),List.take_of_length_le (by omega)]
  have td:((ds.drop (i*n)).take n).map fr=ks:=by
   rw[List.map_take,hd,List.take_append_of_le_length (by omega),List.take_of_length_le (by omega)]
  have rc:(cs.drop ((i+1)*n)).map fr=j6 m ks:=by
   have:=congrArg (List.drop n) hc
   simp only[←List.map_drop,List.drop_drop,←hci] at this
   rw[this,List.drop_append,List.drop_of_length_le (by omega),hk];simp
  have rd:(ds.drop ((i+1)*n)).map fr=j6 m ks:=by
   have:=congrArg (List.drop n) hd
   simp only[←List.map_drop,List.drop_drop,←hci] at this
   rw[this,List.drop_append,List.drop_of_length_le (by omega),hk];simp
  have ih:=s9 hn hk ⟨⟨b,hb,hb1⟩,hrun⟩ m (i+1) cs ds w rc rd (by omega) (by omega)
  have h1:b=false→n=1:=fun h=>by rw[←hk];exact hb1 h
  rw[List.range'_succ]
  simp only[mt,Sem.run_bind,mG hn hb cs (i*n) (by omega) h1,mG hn hb ds (i*n) (by omega) h1,Result.andThen_ok,hrun _ _ w tc td]
  have e1:cs.drop (i*n)=(cs.drop (i*n)).take n++cs.drop ((i+1)*n):=by rw[hci,←List.drop_drop,List.take_append_drop]
  have e2:ds.drop (i*n)=(ds.drop (i*n)).take n++ds.drop ((i+1)*n):=by rw[hci,←List.drop_drop,List.take_append_drop]
  rw[e1,e2,im _ _ _ _ (by simp;omega)]
  rw[←e1,←e2]
  cases dK ((cs.drop (i*n)).take n) ((ds.drop (i*n)).take n)
  ·simp
  ·simpa using ih
theorem rf {D:Nat} {g:TypeId→Option (List Nat)} (hg:∀t ks,g t=some ks→adG P D t ks):∀(fs:List Field) (off:Nat) (ks:List Nat) (cs ds:List Value) (w:World),
  kw P g fs off=some ks→(cs.drop off).map fr=ks→(ds.drop off).map fr=ks→off≤cs.length→off≤ds.length→
  (Op.eqFields D cs.toArray ds.toArray fs).run P w= .ok (dK (cs.drop off) (ds.drop off)) w
 |[],off,ks,cs,ds,w,hk,hc,hd,_,_=>by
  simp only[kw,Option.some.injEq] at hk
  subst hk
  simp only[List.map_eq_nil_iff] at hc hd
  rw[hc,hd]
  simp[Op.eqFields,dK]
 |f::fs,off,ks,cs,ds,w,hk,hc,hd,hlc,hld=>by
  simp only[kw] at hk
  split at hk
  ·rename_i kf n hf hgf hn
   split at hk
   ·rename_i r hl hr
    simp only[Option.some.injEq] at hk
    subst hk
    simp only[Bool.and_eq_true,Nat.beq_eq] at hf hl
    obtain ⟨hname,hoff⟩:=hf
    obtain ⟨⟨b,hb,hb1⟩,hrun⟩:=hg _ _ hgf
    have lc:n≤(cs.drop off).length:=by have:=congrArg List.length hc;simp only[List.length_map,List.length_append] at this;omega
    have ld:n≤(ds.drop off).length:=by have:=congrArg List.length hd;simp only[List.length_map,List.length_append] at this;omega
    simp only[List.length_drop] at lc ld
    have tc:((cs.drop off).take n).map fr=kf:=by
     rw[List.map_take,hc,List.take_append_of_le_length (by omega),List.take_of_length_le (by omega)]
    have td:((ds.drop off).take n).map fr=kf:=by
     rw[List.map_take,hd,List.take_append_of_le_length (by omega),List.take_of_length_le (by omega)]
    have rc:(cs.drop (off+n)).map fr=r:=by
     have:=congrArg (List.drop n) hc
     simp only[←List.map_drop,List.drop_drop] at this
     rw[this,List.drop_append,List.drop_of_length_le (by omega),hl];simp
    have rd:(ds.drop (off+n)).map fr=r:=by
     have:=congrArg (List.drop n) hd
     simp only[←List.map_drop,List.drop_drop] at this
     rw[this,List.drop_append,List.drop_of_length_le (by omega),hl];simp
    have ih:=rf hg fs (off+n) r cs ds w hr rc rd (by omega) (by omega)
    have h1:b=false→n=1:=fun h=>by rw[←hl];exact hb1 h
    have hname':f.name≠ "_":=by simpa using hname
    simp only[Op.eqFields,hname',ne_eq,not_false_eq_true,if_true,Sem.run_bind,hoff,mG hn hb cs off (by omega) h1,mG hn hb ds off (by omega) h1,Result.andThen_ok,hrun _ _ w tc td]
    have e1:cs.drop off=(cs.drop off).take n++cs.drop (off+n):=by rw[←List.drop_drop,List.take_append_drop]
    have e2:ds.drop off=(ds.drop off).take n++ds.drop (off+n):=by rw[←List.drop_drop,List.take_append_drop]
    rw[e1,e2,im _ _ _ _ (by simp;omega)]
    rw[←e1,←e2]
    cases dK ((cs.drop off).take n) ((ds.drop off).take n)
    ·simp
    ·simpa using ih
   ·simp at hk
  ·simp at hk
theorem pS:∀(d:Nat) (t:TypeId) (ks:List Nat),fa P d t=some ks→∀D,d≤D→adG P D t ks
 |0,t,ks,h,D,hD=>by simp[fa] at h
 |d+1,t,ks,h,0,hD=>by omega
 |d+1,t,ks,h,D+1,hD=>by
  simp only[fa] at h
  split at h
  ·rename_i k hu
   simp only[Option.some.injEq] at h;subst h
   have ha:dm P t=some false:=by simp[dm,hu]
   refine ⟨⟨false,ha,fun _=>rfl⟩,fun cs ds w hc hd=> ?_⟩
   obtain ⟨c,rfl⟩:∃c,cs=[c]:=List.length_eq_one_iff.1 (by have:=congrArg List.length hc;simpa using this)
   obtain ⟨e,rfl⟩:∃c,ds=[c]:=List.length_eq_one_iff.1 (by have:=congrArg List.length hd;simpa using this)
   ·simp only[List.map_cons,List.map_nil,List.cons.injEq,and_true] at hc hd
    have hint:∀x:Value,fr x=j2 k→∃z,x= .int k z:=by
     intro x hx
     cases x<;>simp only[fr] at hx
     case int k' z=>exact ⟨z,by cases k<;>cases k'<;>first|rfl|simp[j2] at hx⟩
     all_goals (cases k<;>simp[j2] at hx)
    obtain ⟨a,rfl⟩:=hint c hc
    obtain ⟨b,rfl⟩:=hint e hd
    simp only[PQ,ha,List.headD_cons,dK,sE,Bool.and_true]
    exact run_equalIn_int w D t k k a b hu
  ·rename_i hu
   simp only[Option.some.injEq] at h;subst h
   have ha:dm P t=some false:=by simp[dm,hu]
   refine ⟨⟨false,ha,fun _=>rfl⟩,fun cs ds w hc hd=> ?_⟩
   obtain ⟨c,rfl⟩:∃c,cs=[c]:=List.length_eq_one_iff.1 (by have:=congrArg List.length hc;simpa using this)
   obtain ⟨e,rfl⟩:∃c,ds=[c]:=List.length_eq_one_iff.1 (by have:=congrArg List.length hd;simpa using this)
   ·simp only[List.map_cons,List.map_nil,List.cons.injEq,and_true] at hc hd
    have hint:∀x:Value,fr x=0→∃z,x= .bool z:=by
     intro x hx
     cases x<;>simp only[fr] at hx<;>first|exact ⟨_,rfl⟩|(simp at hx;done)|(rename_i k' z;cases k'<;>simp[j2] at hx)
    obtain ⟨a,rfl⟩:=hint c hc
    obtain ⟨b,rfl⟩:=hint e hd
    simp only[PQ,ha,List.headD_cons,dK,sE,Bool.and_true]
    exact run_equalIn_bool' w D t a b hu
  ·rename_i hu
   simp only[Option.some.injEq] at h;subst h
   have ha:dm P t=some false:=by simp[dm,hu]
   refine ⟨⟨false,ha,fun _=>rfl⟩,fun cs ds w hc hd=> ?_⟩
   obtain ⟨c,rfl⟩:∃c,cs=[c]:=List.length_eq_one_iff.1 (by have:=congrArg List.length hc;simpa using this)
   obtain ⟨e,rfl⟩:∃c,ds=[c]:=List.length_eq_one_iff.1 (by have:=congrArg List.length hd;simpa using this)
   ·simp only[List.map_cons,List.map_nil,List.cons.injEq,and_true] at hc hd
    have hint:∀x:Value,fr x=1→∃z,x= .string z:=by
     intro x hx
     cases x<;>simp only[fr] at hx<;>first|exact ⟨_,rfl⟩|(simp at hx;done)|(rename_i k' z;cases k'<;>simp[j2] at hx)
    obtain ⟨a,rfl⟩:=hint c hc
    obtain ⟨b,rfl⟩:=hint e hd
    simp only[PQ,ha,List.headD_cons,dK,sE,Bool.and_true]
    rw[run_equalIn_string w D t a b hu,beq_toListBytes]
  ·rename_i len e hu
   split at h
   ·rename_i ke n hke hn
    split at h
    ·rename_i hl
     simp only[Nat.beq_eq] at hl
     simp only[Option.some.injEq] at h;subst h
     have ha:dm P t=some true:=by simp[dm,hu]
     refine ⟨⟨true,ha,fun h=>by simp at h⟩,fun cs ds w hc hd=> ?_⟩
     simp only[PQ,ha]
     rw[xJ D hu hn]
     have:=s9 hn hl (pS d e ke hke D (by omega)) len 0 cs ds w (by simpa using hc) (by simpa using hd) (by omega) (by omega)
     simpa using this
    ·simp at h
   ·simp at h
  ·rename_i fs hu
   split at h
   ·rename_i hs
    have ha:dm P t=some true:=by simp[dm,hu]
    refine ⟨⟨true,ha,fun h=>by simp at h⟩,fun cs ds w hc hd=> ?_⟩
    simp only[PQ,ha]
    have hfo:P.fieldsOf t=fs:=by simp[Program.fieldsOf,hu]
    rw[run_equalIn_struct w D t _ _ (by rw[hfo];exact hu) hs,hfo]
    have:=rf (P:=P) (D:=D) (g:=fa P d) (fun t ks ht=>pS d t ks ht D (by omega)) fs.toList 0 ks cs ds w h (by simpa using hc) (by simpa using hd) (by omega) (by omega)
    simpa using this
   ·simp at h
  ·simp at h
end
section
variable {P:Program} {w0 w:World} {φ:c7} {mem:List Blk}
def dn (w0:World) (φ:c7) (mem:List Blk) (r:Result Next) (v:AV) (mem':List Blk):Prop:=
 ∃φ' w',(r= .ok (.value (v.conc φ')) w'∨(r= .ok .skip w'∧v=Ry))∧Agree mem.length φ φ'∧mem.length≤mem'.length∧MRel w0 φ' mem' w'∧v.wf mem'.length=true
theorem ch {r:Result Next} {ob ob':List Prop} {x:V1} {v:AV} {mem':List Blk} (h:good mem ob x=some (ob',v,mem')) (hm:MRel w0 φ mem w)
  (hr:cL ob'→r= .ok (.value (x.conc φ)) w) (ho:cL ob'):dn w0 φ mem r v mem':=by
 unfold good at h
 split at h
 ·rename_i hw
  simp only[Option.some.injEq,Prod.mk.injEq] at h
  obtain ⟨rfl,rfl,rfl⟩:=h
  exact ⟨φ,w,.inl (hr ho),Agree.refl _ _,Nat.le_refl _,hm,hw⟩
 ·simp at h
theorem gk {ob ob':List Prop} {x:V1} {v:AV} {mem':List Blk} (h:good mem ob x=some (ob',v,mem')):ob'=ob:=by
 unfold good at h
 split at h
 ·simp only[Option.some.injEq,Prod.mk.injEq] at h;exact h.1.symm
 ·simp at h
theorem lJ {r:Result Next} {ob':List Prop} {x:Atom} {v:AV} {mem':List Blk} (h:one mem x=some (ob',v,mem')) (hm:MRel w0 φ mem w)
  (hr:r= .ok (.value (x.conc φ)) w) (hx:(V1.one x).wf mem.length=true):dn w0 φ mem r v mem':=by
 unfold one at h
 simp only[Option.some.injEq,Prod.mk.injEq] at h
 obtain ⟨rfl,rfl,rfl⟩:=h
 exact ⟨φ,w,.inl hr,Agree.refl _ _,Nat.le_refl _,hm,hx⟩
theorem je {v:V1} {ps:List Piece} (h:v.pieces=some ps):(v.conc φ).cells=(an φ ps).toArray:=by
 unfold V1.pieces at h
 split at h
 ·simp at h
 ·simp at h
 ·rename_i x h1 h2
  simp only[Option.some.injEq] at h;subst h
  cases x with
  |v y=>cases y<;>first|rfl|exact absurd rfl (h1 _)|exact absurd rfl (h2 _)
  |_=>rfl
 ·simp only[Option.some.injEq] at h;subst h;rfl
theorem sH:∀(k n:Nat) (v:Value),v∈ef k n→v.oneCell'=true
 |0,_,v,hv=>by simp[ef] at hv
 |k+1,n,v,hv=>by
  simp only[ef,List.mem_cons] at hv
  rcases hv with rfl|hv
  ·rfl
  ·exact sH k _ v hv
theorem pZ {b off n:Nat} {ps:List Piece} {k:Blk} {x:Atom} {ob:List Prop} {v:AV} {mem':List Blk} {r:Result Next} (h:k8 mem b off n ps k x=some (ob,v,mem'))
  (hm:MRel w0 φ mem w) (hk:mem[b]? =some k) (hlv:k.live=true) (hn:(an φ ps).length=n)
  (hx:(V1.one x).wf mem.length=true)
  (hr:∀w',(storeCells ⟨(φ b).1,(φ b).2.1+off,none⟩ (an φ ps)).run P w= .ok () w'→r= .ok (.value (x.conc φ)) w'∨(r= .ok .skip w'∧AV.val (.one x)=Ry)):
  dn w0 φ mem r v mem':=by
 unfold k8 at h
 split at h
 ·rename_i qs hq
  split at h
  ·rename_i hc
   simp only[Bool.and_eq_true,Bool.not_eq_true'] at hc
   obtain ⟨hc,hro⟩:=hc
   simp only[Option.some.injEq,Prod.mk.injEq] at h
   obtain ⟨rfl,rfl,rfl⟩:=h
   obtain ⟨h1,h2⟩:=yX (φ:=φ) hq
   obtain ⟨tail,lo,hi,hg,hfr,hesz⟩:=hm.blk b k hk hlv hro
   have hone:∀v∈an φ ps,v.oneCell'=true:=by
    have:=hc.2
    clear h1 h2 hq hn hr hfr hc hg hesz
    revert this
    fun_induction mg ps<;>intro this
    ·intro v hv;simp[an] at hv
    ·rename_i x ps ih
     simp only[Bool.and_eq_true] at this
     intro v hv
     simp only[an,Piece.conc,Atom.conc,List.cons_append,List.nil_append,List.mem_cons] at hv
     rcases hv with rfl|hv
     ·exact this.1
     ·exact ih this.2 v hv
    ·rename_i p ps h0 ih
     intro v hv
     simp only[an,List.mem_append] at hv
     rcases hv with hv|hv
     ·cases p with
      |a x=>cases x<;>first|exact absurd rfl (h0 _)|(simp only[Piece.conc,Atom.conc,List.mem_singleton] at hv;subst hv;rfl)
      |num k n=>
       exact sH k n v hv
      |arr k l=>
       simp only[Piece.conc,List.mem_map] at hv
       obtain ⟨_,_,rfl⟩:=hv;rfl
     ·exact ih this v hv
   have il:=ir (P:=P) (φ b).1 off k.elem lo hi (an φ ps) 0 (an φ k.ps++tail) w hg (by simp;omega) hone (fun j h3 h4=>hfr j (by omega))
   simp only[Nat.add_zero,hn] at il
   rw[List.take_append_of_le_length (by omega),List.drop_append_of_le_length (by omega),←List.append_assoc,←List.append_assoc,List.append_assoc (List.take off (an φ k.ps)),←h1] at il
   have hlen:(an φ qs).length=(an φ k.ps).length:=by rw[h1];simp[hn];omega
   have hz:=(hm.own b k hk hlv hro).2
   have hst':=il
   rw[show (⟨(φ b).1,off,none⟩:Addr)=⟨(φ b).1,(φ b).2.1+off,none⟩ by rw[hz,Nat.zero_add]] at hst'
   have hlt:=hm.lt hk hlv
   refine ⟨φ,_,hr _ hst',Agree.refl _ _,by simp,?_,by simp only[AV.wf,List.length_set];exact hx⟩
   refine hm.write hk hlv hro qs hc.1 ?_ ?_ ?_
   ·refine hm.below.trans ⟨rfl,rfl,rfl,by simp,fun j hj=> ?_⟩
    have:=(hm.own b k hk hlv hro).1
    simp only
    rw[Array.getElem?_setIfInBounds,if_neg (by omega)]
   ·intro j hj
    simp only
    rw[Array.getElem?_setIfInBounds,if_neg (fun e=>hj e.symm)]
   ·refine ⟨tail,lo,hi,?_,by rw[hlen];exact hfr,fun he=> ?_⟩
    ·simp only
     rw[Array.getElem?_setIfInBounds,if_pos rfl,if_pos hlt]
    ·obtain ⟨e1,e3,e4⟩:=hesz he
     exact ⟨e1,by rw[←e3];simp[hlen],e4⟩
  ·simp at h
 ·simp at h
theorem x5 {e:TypeId} {ps:List Piece} {ob:List Prop} {v:AV} {mem':List Blk} {r:Result Next} (h:VN mem e ps=some (ob,v,mem')) (hm:MRel w0 φ mem w)
  (hr:r= .ok (.value (.pointer (some ⟨w.heap.size,0,none⟩))) (w.alloc (.cells (an φ ps).toArray e))):dn w0 φ mem r v mem':=by
 unfold VN at h
 split at h
 ·rename_i hp
  simp only[Option.some.injEq,Prod.mk.injEq] at h
  obtain ⟨rfl,rfl,rfl⟩:=h
  obtain ⟨φ',ha,hs,hm'⟩:=hm.alloc ps e hp
  exact ⟨φ',_,.inl (by rw[hr];simp[AV.conc,V1.conc,Atom.conc,hs]),ha,by simp,hm',by simp[AV.wf,V1.wf,Nat.blt]⟩
 ·simp at h
theorem s5 (x:Value):(nu x).conc φ=x:=by
 unfold nu
 split
 ·rename_i cs
  simp only[V1.conc,Value.agg.injEq]
  have:∀l:List Value,an φ (l.map fun c=> .a (kq c))=l:=by
   intro l
   induction l with
   |nil=>rfl
   |cons c l ih=>simp[an,Piece.conc,lW,ih]
  rw[this]
 ·exact lW _
theorem gm {t:TypeId} {ps:List Piece} (h:kd P t=some ps) (w:World):∃v,(zeroValue t).run P w= .ok v w∧v.cells=(an φ ps).toArray:=by
 unfold kd at h
 split at h
 ·rename_i i hi
  split at h
  ·rename_i v hz
   split at h
   ·rename_i ps' hp
    simp only[Option.some.injEq] at h;subst h
    refine ⟨v,by simp[zeroValue,typeInfo,hi,hz],?_⟩
    have:=je (φ:=φ) hp
    rwa[s5] at this
   ·simp at h
  ·simp at h
 ·simp at h
theorem Gh {t:TypeId} {x:V1} {ob:List Prop} {v:AV} {mem':List Blk} (h:o9 P mem t x=some (ob,v,mem')) (hm:MRel w0 φ mem w) (ho:cL ob):
  dn w0 φ mem ((do pure (.value (←Instr.loadAt t (x.conc φ))):Sem Next).run P w) v mem':=by
 unfold o9 at h
 split at h
 ·split at h
  ·rename_i k hk
   split at h
   ·rename_i v' hlv hv
    refine ch h hm (fun _=> ?_) ho
    simp[Instr.loadAt,Instr.sureAddr,V1.conc,Atom.conc,nh hm hk hlv hv]
   ·simp at h
  ·simp at h
 ·simp at h
theorem tu {t:TypeId} {x y:V1} {ob:List Prop} {v:AV} {mem':List Blk} (h:qe P mem t x y=some (ob,v,mem')) (hm:MRel w0 φ mem w):
  dn w0 φ mem ((do Instr.storeAt t (x.conc φ) (y.conc φ);pure .skip:Sem Next).run P w) v mem':=by
 unfold qe at h
 split at h
 ·split at h
  ·rename_i ps n k hps hn hk
   split at h
   ·rename_i hc
    simp only[Bool.and_eq_true,Nat.beq_eq] at hc
    have hl:(an φ ps).length=n:=by rw[eo];exact hc.2
    refine pZ (P:=P) h hm hk hc.1 hl rfl (fun w' hw=> .inr ⟨?_,rfl⟩)
    have hcells:=je (φ:=φ) hps
    generalize y.conc φ=Y at hcells
    simp[Instr.storeAt,Instr.sureAddr,V1.conc,Atom.conc,storeVar,hcells,cQ hn,hl,hw]
   ·simp at h
  ·simp at h
 ·simp at h
theorem tF {t:TypeId} {fs:Array Field} (h:uH P t=some fs):P.underlying t=some (.struct fs):=by
 unfold uH at h
 split at h
 ·rename_i fs' hu;simp only[Option.some.injEq] at h;subst h;exact hu
 ·simp at h
theorem tU {t:TypeId} {f:Nat} {x:V1} {ob:List Prop} {v:AV} {mem':List Blk} (h:pJ P mem t f x=some (ob,v,mem')) (hm:MRel w0 φ mem w) (ho:cL ob):
  dn w0 φ mem ((do pure (.value (←Instr.fieldAt t (x.conc φ) f)):Sem Next).run P w) v mem':=by
 unfold pJ at h
 split at h
 ·split at h
  ·rename_i fs hfs
   split at h
   ·rename_i fl hfl
    split at h
    ·rename_i n hn
     split at h
     ·rename_i hz
      refine ch h hm (fun _=> ?_) ho
      have hz':n≠0:=fun e=>by subst e;simp at hz
      simp[Instr.fieldAt,V1.conc,Atom.conc,aG (tF hfs),hfl,Instr.sureAddr,fieldPlace,cQ hn,hz',gl]
     ·simp at h
    ·simp at h
   ·simp at h
  ·simp at h
 ·simp at h
theorem Ck {t:TypeId} {f:Nat} {x:V1} {ob:List Prop} {v:AV} {mem':List Blk} (h:FV P mem t f x=some (ob,v,mem')) (hm:MRel w0 φ mem w) (ho:cL ob):
  dn w0 φ mem ((do pure (.value (←Instr.field t (x.conc φ) f)):Sem Next).run P w) v mem':=by
 unfold FV at h
 split at h
 ·split at h
  ·rename_i fs hfs
   split at h
   ·rename_i fl hfl
    split at h
    ·rename_i v' hv
     refine ch h hm (fun _=> ?_) ho
     simp[Instr.field,V1.conc,asAgg,aG (tF hfs),hfl,Do hv]
    ·simp at h
   ·simp at h
  ·simp at h
 ·simp at h
theorem tT {s:Bool} {t:TypeId} {x i:V1} {ob:List Prop} {v:AV} {mem':List Blk} (h:pT P mem s t x i=some (ob,v,mem')) (hm:MRel w0 φ mem w) (ho:cL ob):
  dn w0 φ mem ((do pure (.value (←Instr.indexAt t (x.conc φ) (i.conc φ))):Sem Next).run P w) v mem':=by
 unfold pT at h
 split at h
 ·rename_i b off z len e hu
  split at h
  ·rename_i ob' n hmu hn
   refine ch h hm (fun ho=> ?_) ho
   rw[gk h] at ho
   obtain ⟨h1,h2⟩:=dP hmu ho
   simp[Instr.indexAt,asIntOf,V1.conc,Atom.conc,aG hu,Instr.sureAddr,cQ hn,h1,h2,gl]
  ·simp at h
 ·rename_i b len z e hu
  split at h
  ·rename_i ob' n hmu hn
   refine ch h hm (fun ho=> ?_) ho
   rw[gk h] at ho
   obtain ⟨h1,h2⟩:=dP hmu ho
   simp only[Instr.indexAt,asIntOf,V1.conc,Atom.conc,Sem.run_bind,Sem.run_pure,Result.andThen_ok,aG hu,cQ hn,h1,h2,and_self,if_true,gl]
  ·simp at h
 ·rename_i b off len cap z e hu
  split at h
  ·rename_i ob' n hmu hn
   refine ch h hm (fun ho=> ?_) ho
   rw[gk h] at ho
   obtain ⟨h1,h2⟩:=dP hmu ho
   simp[Instr.indexAt,asIntOf,V1.conc,Atom.conc,aG hu,cQ hn,h1,h2,gl]
  ·simp at h
 ·simp at h
theorem CL {t:TypeId} {x i:V1} {ob:List Prop} {v:AV} {mem':List Blk} (h:FG P mem t x i=some (ob,v,mem')) (hm:MRel w0 φ mem w) (ho:cL ob):
  dn w0 φ mem ((do pure (.value (←Instr.index t (x.conc φ) (i.conc φ))):Sem Next).run P w) v mem':=by
 unfold FG at h
 split at h
 ·rename_i ps z len e hu
  split at h
  ·rename_i n hd hn
   split at h
   ·rename_i v' hv
    refine ch h hm (fun _=> ?_) ho
    obtain ⟨h1,h2⟩:=of_decide_eq_true hd
    simp[Instr.index,asIntOf,V1.conc,Atom.conc,aG hu,cQ hn,h1,h2,Do hv]
   ·simp at h
  ·simp at h
 ·simp at h
end
section
variable {P:Program} {w0 w:World} {φ:c7} {mem:List Blk}
theorem Mv (k:IntKind) (n:Nat):(Atom.u k n).conc φ= .int k (n:Int):=rfl
theorem lm (op:BinOp) (t:TypeId) (X Y:Operand) (k:IntKind) (z:Int) (b:Value) (w:World):(eqGuard op t X Y (.int k z) b).run P w= .ok () w:=
 ti (by simp) (by simp) w
theorem CN (op:BinOp) (t:TypeId) (X Y X' Y':Operand) (a b:Value) (h:a≠.nilIface):eqGuard op t X Y a b=eqGuard op t X' Y' a b:=by
 unfold eqGuard
 cases a<;>cases b<;>first|rfl|exact absurd rfl h
theorem Jz {s:Bool} {op:BinOp} {t:TypeId} {x y:V1} {ob:List Prop} {r:Atom} (h:MK P s op t x y=some (ob,r)) (ho:cL ob) (X Y:Operand) (w:World):
  (do eqGuard op t X Y (x.conc φ) (y.conc φ);binOp op t (x.conc φ) (y.conc φ):Sem Value).run P w= .ok (r.conc φ) w:=by
 unfold MK at h
 split at h
 ·
  split at h
  ·rename_i hs
   split at h
   ·rename_i r' hk hr
    simp only[Option.some.injEq,Prod.mk.injEq] at h;obtain ⟨rfl,rfl⟩:=h
    simp only[V1.conc,Mv,Sem.run_bind,lm,Result.andThen_ok]
    exact xm hk hr _ t w
   ·simp at h
  ·rename_i hs
   split at h
   ·rename_i hk
    simp only[Bool.and_eq_true,decide_eq_true_eq] at hk
    obtain ⟨rfl,hk⟩:=hk
    simp only[V1.conc,Mv,Sem.run_bind,lm,Result.andThen_ok]
    exact FP hk h ho hs t w
   ·simp at h
 ·split at h
  ·rename_i hs
   split at h
   ·rename_i o hm
    split at h
    ·rename_i r' hk hr
     simp only[Option.some.injEq,Prod.mk.injEq] at h;obtain ⟨rfl,rfl⟩:=h
     have hb:=dP hm ho
     simp only[V1.conc,Atom.conc,Sem.run_bind,lm,Result.andThen_ok]
     have:=xm (P:=P) (φ:=φ) hk hr .i64 t w
     rwa[Int.toNat_of_nonneg hb] at this
    ·simp at h
   ·simp at h
  ·simp at h
 ·split at h
  ·simp only[V1.conc,Atom.conc,Sem.run_bind,lm,Result.andThen_ok]
   exact LH h ho t w
  ·rename_i hs
   simp only[V1.conc,Atom.conc,Sem.run_bind,lm,Result.andThen_ok]
   exact G7 h ho hs t w
 ·rename_i a b h1 h2 h3
  split at h
  ·simp at h
  ·rename_i a' b' hn ha hb
   split at h
   ·rename_i r' hr
    simp only[Option.some.injEq,Prod.mk.injEq] at h;obtain ⟨rfl,rfl⟩:=h
    simp only[V1.conc,rK ha,rK hb,lW]
    rw[CN op t X Y (.tmp 0) (.tmp 0) a' b' (fun e=>by subst e;exact hn rfl)]
    exact n7 _ hr w
   ·simp at h
  ·simp at h
 ·rename_i ps qs
  split at h
  ·rename_i b hok he
   simp only[af3,Bool.and_eq_true,Bool.not_eq_true'] at hok
   obtain ⟨hg,hps,hqs⟩:=hok
   obtain ⟨ks,hk1,hk2⟩:=CJ hps
   obtain ⟨ks',hk3,hk4⟩:=CJ hqs
   rw[hk1] at hk3
   simp only[Option.some.injEq] at hk3
   subst hk3
   obtain ⟨⟨ag,hag,hag1⟩,hrun⟩:=pS (P:=P) 20 t ks hk1 10000 (by omega)
   have h1:=f8 (φ:=φ) ps hk2
   have h2:=f8 (φ:=φ) qs hk4
   have heq:=hrun (an φ ps) (an φ qs) w h1 h2
   rw[ns ps qs he] at heq
   obtain ⟨hg,hat⟩:=hg
   have hat:dm P t=some true:=by
    split at hat
    ·assumption
    ·simp at hat
   simp only[PQ,hat] at heq
   simp only[V1.conc,Sem.run_bind,run_eqGuard_agg w op t X Y _ _ hg,Result.andThen_ok]
   split at h
   ·simp only[Option.some.injEq,Prod.mk.injEq] at h;obtain ⟨rfl,rfl⟩:=h
    rw[run_eql_struct,heq];rfl
   ·simp only[Option.some.injEq,Prod.mk.injEq] at h;obtain ⟨rfl,rfl⟩:=h
    rw[run_neq_struct,heq];rfl
   ·simp at h
  ·simp at h
 ·simp at h
theorem DG {s:Bool} {op:BinOp} {x y:V1} {a b:ByteArray} (h:GC s op x y=some (a,b)):op= .add∧x= .one (.v (.string a))∧y= .one (.v (.string b)):=by
 unfold GC at h
 split at h
 ·simp only[Option.some.injEq,Prod.mk.injEq] at h
  obtain ⟨rfl,rfl⟩:=h
  exact ⟨rfl,rfl,rfl⟩
 ·simp at h
theorem OH {s:Bool} {op:BinOp} {t:TypeId} {x y:V1} {ob:List Prop} {r:Atom} (h:adf P s op t x y=some (ob,r)) (ho:cL ob) (X Y:Operand) (w:World):
  (do eqGuard op t X Y (x.conc φ) (y.conc φ);binOp op t (x.conc φ) (y.conc φ):Sem Value).run P w= .ok (r.conc φ) w:=by
 unfold adf at h
 split at h
 ·rename_i a b hs
  obtain ⟨rfl,rfl,rfl⟩:=DG hs
  simp only[Option.some.injEq,Prod.mk.injEq] at h
  obtain ⟨rfl,rfl⟩:=h
  have h1:¬(((a.size+b.size:Nat):Int)>IntKind.i64.max):=by
   have:=ho.1
   have e:IntKind.i64.max=9223372036854775807:=by decide
   rw[e];omega
  simp only[V1.conc,Atom.conc,Sem.run_bind]
  rw[ti (by simp) (by simp) w,Result.andThen_ok]
  simp only[binOp,Op.stringOp,h1,if_false,Sem.run_pure]
 ·exact Jz h ho X Y w
theorem LV {op:UnOp} {x r:Atom} (h:Cs op x=some r) (w:World):(Op.unary op (x.conc φ)).run P w= .ok (r.conc φ) w:=by
 cases x with
 |v x=>
  cases x<;>cases op<;>simp only[Cs,reduceCtorEq,Option.some.injEq] at h
  subst h;rfl
 |i z=>
  cases op<;>simp only[Cs,reduceCtorEq,Option.some.injEq] at h
  subst h
  simp only[Atom.conc,Op.unary,Op.intArith,Sem.run_pure]
 |ptr b off=>cases op<;>simp[Cs] at h
 |sl b off len cap=>cases op<;>simp[Cs] at h
 |sx b len=>cases op<;>simp[Cs] at h
 |u k n=>
  cases op<;>simp only[Cs,reduceCtorEq] at h
  case neg=>
   split at h
   ·rename_i hk
    simp only[Option.some.injEq] at h;subst h
    simp only[Atom.conc,Op.unary,Op.intArith,Sem.run_pure]
    have:=Nw hk 0 n
    simp only[Nat.zero_add] at this
    rw[show (0:Int)-(n:Int)=((0:Nat):Int)-(n:Int) from rfl,this]
   ·simp at h
  case xor=>
   split at h
   ·rename_i hk
    simp only[Option.some.injEq] at h;subst h
    have hsg:k.signed=false:=by cases k<;>first|rfl|simp[eK] at hk
    have hmax:k.max=((cq k-1:Nat):Int):=by cases k<;>first|rfl|simp[eK] at hk
    simp only[Atom.conc,Op.unary,Op.intBits,Sem.run_pure,hsg,Bool.false_eq_true,if_false]
    rw[q9 hk,BitVec.toNat_xor,hmax,fQ,fQ]
    congr 3
    have e:BitVec.ofNat k.bits (cq k-1)=BitVec.allOnes k.bits:=by
     apply BitVec.eq_of_toNat_eq
     simp[cq]
    have h2:(BitVec.ofNat k.bits (cq k-1)^^^BitVec.ofNat k.bits n).toNat=((~~~(BitVec.ofNat k.bits n))).toNat:=by
     rw[e,BitVec.allOnes_xor]
    simp only[BitVec.toNat_xor,BitVec.toNat_not,BitVec.toNat_ofNat] at h2
    exact h2
   ·simp at h
theorem kT {src dst:TypeId} {d:TypeDesc} {k k':IntKind} {z:Int} (hs:P.underlying src=some d) (hd:P.underlying dst=some (.int k)) (w:World):
  (convert src dst (.int k' z)).run P w= .ok (.int k (k.wrap z)) w:=by
 simp only[convert,Sem.run_bind,aG hs,aG hd,Result.andThen_ok]
 cases d<;>rfl
theorem Kg {src dst:TypeId} {x r:Atom} (h:Ng P src dst x=some r) (w:World):(convert src dst (x.conc φ)).run P w= .ok (r.conc φ) w:=by
 unfold Ng at h
 split at h
 ·rename_i hs hd
  split at h
  ·simp only[Option.some.injEq] at h;subst h
   exact kT hs hd w
  ·simp only[Option.some.injEq] at h;subst h
   exact kT hs hd w
  ·simp at h
 ·rename_i hs hd
  split at h
  ·rename_i hk
   split at h
   ·simp only[Option.some.injEq] at h;subst h
    rw[Atom.conc,kT hs hd,lO hk];rfl
   ·simp only[Option.some.injEq] at h;subst h
    refine (kT hs hd w).trans ?_
    simp only[Atom.conc]
    rw[Int.toNat_of_nonneg (Int.emod_nonneg _ (Int.ofNat_ne_zero.2 (Nat.pos_iff_ne_zero.1 (wP _)))),←z' hk]
   ·simp at h
  ·simp at h
 ·split at h
  ·rename_i v hv
   split at h
   ·rename_i r' hr
    simp only[Option.some.injEq] at h;subst h
    rw[rK hv,lW]
    exact n7 _ hr w
   ·simp at h
  ·simp at h
end
section
variable {P:Program} {w0 w:World} {φ:c7} {mem:List Blk}
theorem ge {s:Bool} {d top n:Nat} {x:Option V1} {o:List Prop} (h:lh s d x top=some (o,n)) (ho:cL o):
  (x=none∧n=d)∨∃v,x=some v∧∀(code:BoundsCode) (w:World),(Instr.sliceBound (v.conc φ) top code).run P w= .ok n w:=by
 unfold lh at h
 split at h
 ·simp only[Option.some.injEq,Prod.mk.injEq] at h;exact .inl ⟨rfl,h.2.symm⟩
 ·split at h
  ·rename_i z _ o' hm
   simp only[Option.some.injEq,Prod.mk.injEq] at h;obtain ⟨rfl,rfl⟩:=h
   obtain ⟨h1,h2⟩:=dP hm ho
   exact .inr ⟨_,rfl,fun code w=>by simp[Instr.sliceBound,V1.conc,Atom.conc,asIntOf,h1,h2]⟩
  ·simp at h
 ·simp at h
theorem wC {s:Bool} {t:TypeId} {x:V1} {lo hi:Option V1} {ob:List Prop} {v:AV} {mem':List Blk} (h:sU P mem s t x lo hi=some (ob,v,mem')) (hm:MRel w0 φ mem w) (ho:cL ob):
  dn w0 φ mem ((do pure (.value (←Instr.sliceAt t (x.conc φ) (lo.map (V1.conc φ)) (hi.map (V1.conc φ)) none)):Sem Next).run P w) v mem':=by
 unfold sU at h
 split at h
 ·rename_i b off n e hu
  split at h
  ·rename_i o1 hz sz hb1 hn
   split at h
   ·rename_i o2 lz hb2
    split at h
    ·rename_i hne
     have ho':=ho
     rw[gk h,aY] at ho'
     refine ch h hm (fun _=> ?_) ho
     have hne':n≠lz:=fun e=>by subst e;simp at hne
     have hbs:(Instr.sliceBounds false n n (lo.map (V1.conc φ)) (hi.map (V1.conc φ)) none).run P w= .ok (lz,hz,n) w:=by
      rcases ge (φ:=φ) (P:=P) hb1 ho'.1 with ⟨rfl,rfl⟩|⟨vh,rfl,h1⟩<;>rcases ge (φ:=φ) (P:=P) hb2 ho'.2 with ⟨rfl,rfl⟩|⟨vl,rfl,h2⟩<;>
       simp[Instr.sliceBounds, *]
     simp[Instr.sliceAt,aG hu,V1.conc,Atom.conc,Instr.sureAddr,hbs,cQ hn,hne',gl]
    ·simp at h
   ·simp at h
  ·simp at h
 ·simp at h
theorem wA {t:TypeId} {ts:Array TypeId} (ht:ts[0]? =some t) {ty:TypeId} {x y:V1} {ob:List Prop} {v:AV} {mem':List Blk} (h:vB P mem t x y=some (ob,v,mem')) (hm:MRel w0 φ mem w):
  dn w0 φ mem ((do pure (.value (←Builtin.copy_ ts ty #[x.conc φ,y.conc φ])):Sem Next).run P w) v mem':=by
 unfold vB at h
 split at h
 ·rename_i b off n cap b' off' n' cap' e hu
  split at h
  ·rename_i sz k k' hn hk hk'
   split at h
   ·rename_i ps hc hlo
    simp only[Bool.and_eq_true] at hlo
    have hl:=(iQ (φ:=φ) hc).2.2
    refine pZ (P:=P) h hm hk hlo.1 hl rfl (fun w' hw=> .inl ?_)
    have hload:=i5 (P:=P) hm hk' hlo.2 hc
    simp[Builtin.copy_,ht,V1.conc,Atom.conc,aG hu,Builtin.lenOf,Builtin.firstCells,cQ hn,hload,hw,goInt]
   ·simp at h
  ·simp at h
 ·simp at h
theorem yJ (off:Nat):∀(vs:List Value) (i:Nat) (cs:List Value),off+i+vs.length≤cs.length→
  ((vs.zipIdx i).foldl (fun (cs:Array Value) (c,j)=>cs.setIfInBounds (off+j) c) cs.toArray).toList=cs.take (off+i)++(vs++cs.drop (off+i+vs.length))
 |[],i,cs,h=>by simp
 |v::vs,i,cs,h=>by
  simp only[List.length_cons] at h
  simp only[List.zipIdx_cons,List.foldl_cons,List.setIfInBounds_toArray]
  rw[yJ off vs (i+1) (cs.set (off+i) v) (by simp;omega)]
  apply List.ext_getElem?
  intro j
  have e1:min (off+(i+1)) cs.length=off+i+1:=by omega
  have e2:min (off+i) cs.length=off+i:=by omega
  simp only[List.getElem?_append,List.length_take,List.length_set,List.getElem?_take,List.getElem?_drop,List.getElem?_set,e1,e2,List.length_cons,List.getElem?_cons]
  by_cases h1:j<off+i
  ·simp[h1,show j<off+i+1 by omega,show j<off+(i+1) by omega,show ¬off+i=j by omega]
  ·by_cases h2:j=off+i
   ·subst h2
    rw[if_pos (by omega),if_pos (by omega),if_pos rfl,if_pos (by omega),if_neg (by omega),if_pos (by omega),if_pos (by omega)]
   ·rw[if_neg (by omega),if_neg h1]
    by_cases h3:j-(off+i+1)<vs.length
    ·rw[if_pos h3,if_pos (by omega),if_neg (by omega),show j-(off+i)-1=j-(off+i+1) by omega]
    ·rw[if_neg h3,if_neg (by omega)]
     rw[if_neg (by omega)]
     congr 1;omega
theorem oH {k8:Nat→Option (Nat×Nat)}:∀(vs:List (Nat×V1)) (cells r:List Piece),xi k8 cells vs=some r→
  Instr.fill k8 (an φ cells).toArray (vs.map fun p=>(p.1,p.2.conc φ))=some (an φ r).toArray
 |[],cells,r,h=>by simp only[xi,Option.some.injEq] at h;subst h;rfl
 |(i,v)::vs,cells,r,h=>by
  simp only[xi] at h
  split at h
  ·rename_i off size ps hp hps
   split at h
   ·rename_i hs
    simp only[Nat.beq_eq] at hs
    split at h
    ·rename_i c hc
     have ih:=oH vs c r h
     obtain ⟨h1,h2⟩:=yX (φ:=φ) hc
     have hcells:=je (φ:=φ) hps
     have hsz:(an φ ps).length=size:=by rw[eo];exact hs
     have hf:=yJ off (an φ ps) 0 (an φ cells) (by omega)
     simp only[Nat.add_zero,hsz] at hf
     rw[←h1] at hf
     simp only[List.map_cons,Instr.fill,hp,hcells]
     have hg:¬(((an φ ps).toArray.size≠size||decide (off+(an φ ps).toArray.size>(an φ cells).toArray.size))=true):=by
      simp[hsz];omega
     rw[if_neg hg]
     rw[←ih]
     congr 1
     apply Array.ext'
     rw[←hf]
     simp
    ·simp at h
   ·simp at h
  ·simp at h
theorem CO {t:TypeId} {vs:List (Nat×V1)} {parts:Array (Nat×Value)} (hp:parts.toList=vs.map fun p=>(p.1,p.2.conc φ)) {ob:List Prop} {v:AV} {mem':List Blk}
  (h:Fp P mem t vs=some (ob,v,mem')) (hm:MRel w0 φ mem w) (ho:cL ob):
  dn w0 φ mem ((do pure (.value (←Instr.build t parts)):Sem Next).run P w) v mem':=by
 unfold Fp at h
 split at h
 ·rename_i z hz
  obtain ⟨zv,hzr,hzc⟩:=gm (φ:=φ) hz w
  split at h
  ·rename_i len e hu
   split at h
   ·rename_i n hn
    split at h
    ·rename_i r hr
     refine ch h hm (fun _=> ?_) ho
     have hf:=oH (φ:=φ) vs z r hr
     simp only[Instr.build,Sem.run_bind,hzr,Result.andThen_ok,aG hu,cQ hn,hzc,hp,hf,Sem.run_pure]
     rfl
    ·simp at h
   ·simp at h
  ·rename_i fs hu
   split at h
   ·rename_i pl hpl
    split at h
    ·rename_i r hr
     refine ch h hm (fun _=> ?_) ho
     have hf:=oH (φ:=φ) vs z r hr
     have hmap:∀(l:List Field) (q:List (Nat×Nat)) (w:World),l.mapM (fun f=>(d8 P f.type).map fun n=>(f.offset,n))=some q→
       (l.mapM (m:=Sem) fun f=>do pure (f.offset,←sizeOf f.type)).run P w= .ok q w:=by
      intro l
      induction l with
      |nil=>intro q w hq;simp at hq;subst hq;rfl
      |cons f l ih=>
       intro q w hq
       simp only[List.mapM_cons,Option.bind_eq_bind,Option.bind_eq_some_iff,Option.map_eq_some_iff,Option.pure_def,Option.some.injEq] at hq
       obtain ⟨a,⟨n,hn,rfl⟩,q',hq',rfl⟩:=hq
       simp only[List.mapM_cons,Sem.run_bind,cQ hn,Result.andThen_ok,Sem.run_pure,ih q' w hq']
     have hm2:=hmap fs.toList pl w hpl
     have hm3:(fs.mapM (m:=Sem) fun f=>do pure (f.offset,←sizeOf f.type)).run P w= .ok pl.toArray w:=by
      rw[Array.mapM_eq_mapM_toList]
      simp only[Sem.run_map,hm2,Result.andThen_ok]
     simp only[Instr.build,Sem.run_bind,hzr,Result.andThen_ok,aG hu,hm3,hzc,hp,List.getElem?_toArray,hf,Sem.run_pure]
     rfl
    ·simp at h
   ·simp at h
  ·simp at h
 ·simp at h
theorem OQ {t:TypeId} {ts:Array TypeId} (ht:ts[0]? =some t) {ty:TypeId} {x:V1} {n:Int} (h:ac1 P t x=some n) (xs:Array Value) (hx:xs[0]? =some (x.conc φ)) (w:World):
  (Builtin.len_ ts ty xs).run P w= .ok (.int .i64 n) w:=by
 unfold ac1 at h
 split at h
 ·rename_i hu
  simp only[Option.some.injEq] at h;subst h
  simp only[V1.conc,Atom.conc] at hx
  simp[Builtin.len_,ht,hx,aG hu,goInt]
 ·rename_i hu
  simp only[Option.some.injEq] at h;subst h
  simp[Builtin.len_,ht,hx,aG hu,goInt]
 ·rename_i hu
  simp only[Option.some.injEq] at h;subst h
  simp only[V1.conc,Atom.conc] at hx
  simp[Builtin.len_,ht,hx,aG hu,goInt]
 ·rename_i hu
  simp only[Option.some.injEq] at h;subst h
  simp only[V1.conc,Atom.conc] at hx
  simp[Builtin.len_,ht,hx,aG hu,goInt]
 ·rename_i hu
  simp only[Option.some.injEq] at h;subst h
  simp only[V1.conc,Atom.conc] at hx
  simp[Builtin.len_,ht,hx,aG hu,goInt]
 ·simp at h
theorem UU {vs:List V1} {x:Atom} (h:Ls vs=some x) (n:Nat):(V1.one x).wf n=true:=by
 unfold Ls at h
 split at h
 ·simp only[Option.some.injEq] at h;subst h;rfl
 ·simp at h
theorem Kl {ts:Array TypeId} {ty:TypeId} {vs:List V1} {x:Atom} (h:Ls vs=some x) (w:World):(Builtin.min_ ts ty (vs.map (V1.conc φ)).toArray).run P w= .ok (x.conc φ) w:=by
 unfold Ls at h
 split at h
 ·rename_i a b
  simp only[Option.some.injEq] at h;subst h
  simp only[Builtin.min_,List.map_cons,List.map_nil,List.foldlM_cons,List.foldlM_nil,V1.conc,Atom.conc,Builtin.min2,Sem.run_bind,Sem.run_pure,Result.andThen_ok]
  by_cases hb:b<a
  ·simp[hb]
  ·simp[hb]
 ·simp at h
theorem Qh {vs:List V1} {x:Atom} (h:ME vs=some x) (n:Nat):(V1.one x).wf n=true:=by
 unfold ME at h
 split at h
 ·simp only[Option.some.injEq] at h;subst h;rfl
 ·simp at h
theorem JM {ts:Array TypeId} {ty:TypeId} {vs:List V1} {x:Atom} (h:ME vs=some x) (w:World):(Builtin.max_ ts ty (vs.map (V1.conc φ)).toArray).run P w= .ok (x.conc φ) w:=by
 unfold ME at h
 split at h
 ·rename_i a b
  simp only[Option.some.injEq] at h;subst h
  simp only[Builtin.max_,List.map_cons,List.map_nil,List.foldlM_cons,List.foldlM_nil,V1.conc,Atom.conc,Builtin.max2,Sem.run_bind,Sem.run_pure,Result.andThen_ok]
  by_cases hb:a<b
  ·simp[hb]
  ·simp[hb]
 ·simp at h
end
section
variable {P:Program} {w0 w:World} {φ:c7} {mem:List Blk}
theorem po {e:TypeId} {ps:List Piece} {l c:Nat} {ob:List Prop} {v:AV} {mem':List Blk} {r:Result Next} (h:CX mem e ps l c=some (ob,v,mem')) (hm:MRel w0 φ mem w)
  (hr:r= .ok (.value (.slice (some ⟨w.heap.size,0,none⟩) l c)) (w.alloc (.cells (an φ ps).toArray e))):dn w0 φ mem r v mem':=by
 unfold CX at h
 split at h
 ·rename_i hp
  simp only[Option.some.injEq,Prod.mk.injEq] at h
  obtain ⟨rfl,rfl,rfl⟩:=h
  obtain ⟨φ',ha,hs,hm'⟩:=hm.alloc ps e hp
  exact ⟨φ',_,.inl (by rw[hr];simp[AV.conc,V1.conc,Atom.conc,hs]),ha,by simp,hm',by simp[AV.wf,V1.wf,Nat.blt]⟩
 ·simp at h
theorem kM (z:List Piece):∀n,an φ (mP n z)=(List.replicate n (an φ z)).flatten
 |0=>rfl
 |n+1=>by simp[mP,bb,kM z n,List.replicate_succ]
theorem tx (Z:List Value) (hZ:0<Z.length):∀n,(List.range (n*Z.length)).map (fun i=>Z[i%Z.length]!)=(List.replicate n Z).flatten
 |0=>by simp
 |n+1=>by
  rw[Nat.add_mul,Nat.one_mul,List.range_add,List.map_append,tx Z hZ n]
  rw[List.replicate_succ',List.flatten_append]
  congr 1
  simp only[List.map_map,List.flatten_cons,List.flatten_nil,List.append_nil]
  apply List.ext_getElem?
  intro i
  by_cases hi:i<Z.length
  ·simp only[List.getElem?_map,List.getElem?_range hi,Option.map_some,Function.comp]
   rw[Nat.mul_add_mod',Nat.mod_eq_of_lt hi];simp[hi]
  ·rw[List.getElem?_eq_none (by simp;omega),List.getElem?_eq_none (by omega)]
theorem AC:Array.range 0= #[]:=rfl
theorem zI {z:List Piece} {zv:Value} (hzc:zv.cells=(an φ z).toArray) (hs:0<fk z) (n:Nat):
  (Array.range (n*fk z)).map (fun i=>zv.cells[i%zv.cells.size]!)=(an φ (mP n z)).toArray:=by
 have hl:(an φ z).length=fk z:=eo φ z
 rw[kM,←tx (an φ z) (by omega),hl]
 apply Array.ext'
 simp[hzc,hl]
theorem rl {t:TypeId} {len:Nat} {vs:List (Nat×V1)} {parts:Array (Nat×Value)} (hp:parts.toList=vs.map fun p=>(p.1,p.2.conc φ)) {ps:List Piece} {e:TypeId}
  (h:qr P t len vs=some (ps,e)) (w:World):((do pure (.value (←Instr.buildSlice t len parts)):Sem Next).run P w)= .ok (.value (.slice (some ⟨w.heap.size,0,none⟩) len len)) (w.alloc (.cells (an φ ps).toArray e)):=by
 unfold qr at h
 split at h
 ·rename_i e' hu
  split at h
  ·rename_i n z hn hz
   split at h
   ·rename_i hc
    simp only[Bool.and_eq_true,Nat.beq_eq,Nat.ble_eq,Nat.blt] at hc
    obtain ⟨rfl,hle,hpos⟩:=hc
    split at h
    ·rename_i ps' hps
     simp only[Option.some.injEq,Prod.mk.injEq] at h
     obtain ⟨rfl,rfl⟩:=h
     obtain ⟨zv,hzr,hzc⟩:=gm (φ:=φ) hz w
     have hf:=oH (φ:=φ) vs _ ps' hps
     have hrow:=zI (φ:=φ) hzc (by omega) len
     have h1:¬(len*fk z>2^24):=by omega
     by_cases h0:len*fk z=0
     ·have hmap:∀f:Nat→Value,(Array.range (len*fk z)).map f= #[]:=by intro f;rw[h0,AC];simp
      rw[←hrow,hmap] at hf
      rw[hmap] at hrow
      simp only[Instr.buildSlice,Sem.run_bind,aG hu,Result.andThen_ok,cQ hn]
      rw[Sem.run_ite,if_neg h1]
      simp only[Sem.run_bind,Sem.run_pure,h0,if_true,Result.andThen_ok,hp,hf,AC,Array.map_empty]
      simp[newRow]
     ·simp only[Instr.buildSlice,Sem.run_bind,aG hu,Result.andThen_ok,cQ hn]
      rw[Sem.run_ite,if_neg h1]
      simp only[Sem.run_bind,h0,if_false,hzr,Sem.run_pure,Result.andThen_ok,hrow,hp,hf]
      simp[newRow]
    ·simp at h
   ·simp at h
  ·simp at h
 ·simp at h
theorem xI {t:TypeId} {len:Nat} {vs:List (Nat×V1)} {parts:Array (Nat×Value)} (hp:parts.toList=vs.map fun p=>(p.1,p.2.conc φ)) {ob:List Prop} {v:AV} {mem':List Blk}
  (h:wy P mem t len vs=some (ob,v,mem')) (hm:MRel w0 φ mem w):dn w0 φ mem ((do pure (.value (←Instr.buildSlice t len parts)):Sem Next).run P w) v mem':=by
 unfold wy at h
 split at h
 ·rename_i ps e hps
  exact po h hm (rl hp hps w)
 ·simp at h
theorem qb {t e:TypeId} {l c:Int} {i:TypeInfo} {z:List Piece} (hu:P.underlying t=some (.slice e)) (hi:P.info? e=some i) (hz:kd P e=some z) (hs:fk z=i.size) (hpos:0<i.size)
  (h1:0≤l) (h2:l≤c) (h3:(i.bytes:Int)*c≤140737488355328) (h4:c≤140737488355328) (w:World):
  ((do pure (.value (←Instr.makeSlice t (.int .i64 l) (.int .i64 c))):Sem Next).run P w)= .ok (.value (.slice (some ⟨w.heap.size,0,none⟩) l.toNat c.toNat)) (w.alloc (.cells (an φ (mP c.toNat z)).toArray e)):=by
 obtain ⟨zv,hzr,hzc⟩:=gm (φ:=φ) hz w
 have hrow:=zI (φ:=φ) hzc (by omega) c.toNat
 rw[hs] at hrow
 have hwl:IntKind.i64.wrap l=l:=gS ⟨by omega,by omega⟩
 have hwc:IntKind.i64.wrap c=c:=gS ⟨by omega,by omega⟩
 have hti:(typeInfo e).run P w= .ok i w:=by simp[typeInfo,hi]
 have htl:¬(((decide (c<0)||decide ((i.bytes:Int)*c>2^48))||decide (l<0)||decide (l>c))=true):=by
  simp;omega
 by_cases h0:c.toNat*i.size=0
 ·have hmap:∀f:Nat→Value,(Array.range (c.toNat*i.size)).map f= #[]:=by intro f;rw[h0,AC];simp
  rw[hmap] at hrow
  simp only[Instr.makeSlice,Sem.run_bind,aG hu,Result.andThen_ok,asInt,asIntOf,Sem.run_pure,hti,hwl,hwc]
  rw[Sem.run_ite,if_neg htl]
  simp only[Sem.run_bind,run_askRoom,Result.andThen_ok,sizeOf,hti,Sem.run_pure,h0,if_true,AC,Array.map_empty]
  rw[hrow]
  simp[newRow]
 ·simp only[Instr.makeSlice,Sem.run_bind,aG hu,Result.andThen_ok,asInt,asIntOf,Sem.run_pure,hti,hwl,hwc]
  rw[Sem.run_ite,if_neg htl]
  simp only[Sem.run_bind,run_askRoom,Result.andThen_ok,sizeOf,hti,Sem.run_pure,h0,if_false,hzr,hrow]
  simp[newRow]
theorem AS {t:TypeId} {l c:V1} {ob:List Prop} {v:AV} {mem':List Blk} (h:Am P mem t l c=some (ob,v,mem')) (hm:MRel w0 φ mem w):
  dn w0 φ mem ((do pure (.value (←Instr.makeSlice t (l.conc φ) (c.conc φ))):Sem Next).run P w) v mem':=by
 unfold Am at h
 split at h
 ·rename_i e l c hu
  split at h
  ·rename_i i z hi hz
   split at h
   ·rename_i hc
    simp only[Bool.and_eq_true,Nat.beq_eq,Nat.ble_eq,Nat.blt,decide_eq_true_eq] at hc
    obtain ⟨⟨hs,hpos⟩,h1,h2,h3,h4⟩:=hc
    exact po h hm (qb hu hi hz hs (by omega) h1 h2 h3 h4 w)
   ·simp at h
  ·simp at h
 ·simp at h
theorem kP:∀(ps:List Piece) {l:List Nat},fg ps=some l→an φ ps=l.map fun n=> .int .u8 ((n:Nat):Int)
 |[],l,h=>by simp only[fg,Option.some.injEq] at h;subst h;rfl
 | .a (.u .u8 n)::ps,l,h=>by
  simp only[fg] at h
  split at h
  ·rename_i l' hl
   simp only[Option.some.injEq] at h;subst h
   simp[an,Piece.conc,Atom.conc,kP ps hl]
  ·simp at h
 | .num _ _::_,_,h=>by simp[fg] at h
 | .arr _ _::_,_,h=>by simp[fg] at h
 | .a (.v _)::_,_,h=>by simp[fg] at h
 | .a (.i _)::_,_,h=>by simp[fg] at h
 | .a (.ptr _ _)::_,_,h=>by simp[fg] at h
 | .a (.sl _ _ _ _)::_,_,h=>by simp[fg] at h
 | .a (.sx _ _)::_,_,h=>by simp[fg] at h
 | .a (.u .i8 _)::_,_,h=>by simp[fg] at h
 | .a (.u .i16 _)::_,_,h=>by simp[fg] at h
 | .a (.u .i32 _)::_,_,h=>by simp[fg] at h
 | .a (.u .i64 _)::_,_,h=>by simp[fg] at h
 | .a (.u .u16 _)::_,_,h=>by simp[fg] at h
 | .a (.u .u32 _)::_,_,h=>by simp[fg] at h
 | .a (.u .u64 _)::_,_,h=>by simp[fg] at h
theorem gO {x:V1} {b off n:Nat} (h:jy x=some (b,off,n)):∃c,x.conc φ= .slice (some ⟨(φ b).1,(φ b).2.1+off,none⟩) n c:=by
 unfold jy at h
 split at h
 ·simp only[Option.some.injEq,Prod.mk.injEq] at h;obtain ⟨rfl,rfl,rfl⟩:=h;exact ⟨_,rfl⟩
 ·simp only[Option.some.injEq,Prod.mk.injEq] at h;obtain ⟨rfl,rfl,rfl⟩:=h;exact ⟨_,rfl⟩
 ·simp at h
theorem iu {a:Addr} {n c:Nat} {l:List Nat} (h:(loadCells a n).run P w= .ok (l.map fun n=>Value.int .u8 ((n:Nat):Int)).toArray w):
  (Conv.bytesToString (.slice (some a) n c)).run P w= .ok (.string (bQ l)) w:=by
 simp only[Conv.bytesToString,Sem.run_bind,h,Result.andThen_ok]
 rw[←Array.forIn_toList]
 have key:∀(l:List Nat) (s:ByteArray),(forIn (m:=Sem) (l.map fun n=>Value.int .u8 ((n:Nat):Int)) s fun c s=>do
   let .int .u8 n:=c|stuck "bytesToString: byte expected"
   pure (ForInStep.yield (s.push (UInt8.ofNat n.toNat)))).run P w= .ok ⟨s.data++(l.map UInt8.ofNat).toArray⟩ w:=by
  intro l
  induction l with
  |nil=>intro s;simp
  |cons n l ih=>
   intro s
   simp only[List.map_cons,List.forIn_cons,Sem.run_bind,Sem.run_pure,Result.andThen_ok,Int.toNat_natCast]
   rw[ih]
   congr 2
   apply Array.ext'
   simp[ByteArray.push]
 have:=key l .empty
 refine Eq.trans (b:=((forIn (m:=Sem) (l.map fun n=>Value.int .u8 ((n:Nat):Int)) ByteArray.empty fun c s=>do
   let .int .u8 n:=c|stuck "bytesToString: byte expected"
   pure (ForInStep.yield (s.push (UInt8.ofNat n.toNat)))).run P w).andThen fun s w=> .ok (.string s) w) ?_ ?_
 ·rfl
 ·rw[this];simp[bQ,ByteArray.empty,ByteArray.emptyWithCapacity];rfl
theorem CP {src dst:TypeId} {x:V1} {ob:List Prop} {v:AV} {mem':List Blk} (h:Gr P mem src dst x=some (ob,v,mem')) (hm:MRel w0 φ mem w):
  dn w0 φ mem ((do pure (.value (←convert src dst (x.conc φ))):Sem Next).run P w) v mem':=by
 unfold Gr at h
 split at h
 ·rename_i e hs hd
  split at h
  ·rename_i he
   refine lJ h hm ?_ rfl
   simp[convert,aG hs,aG hd,V1.conc,Atom.conc,aG he,Conv.bytesToString]
  ·rename_i he hx
   split at h
   ·rename_i b off n hown
    split at h
    ·rename_i k hk
     split at h
     ·rename_i ps hlv hc
      split at h
      ·rename_i l hl
       refine lJ h hm ?_ rfl
       obtain ⟨cp,hcv⟩:=gO (φ:=φ) hown
       have hload:=i5 (P:=P) hm hk hlv hc
       rw[kP ps hl] at hload
       simp[convert,aG hs,aG hd,hcv,aG he,iu hload,Atom.conc]
      ·simp at h
     ·simp at h
    ·simp at h
   ·simp at h
  ·simp at h
 ·simp at h
end
section
variable {P:Program} {w0 w:World} {φ:c7} {mem:List Blk}
theorem MRel.kill (h:MRel w0 φ mem w) {b:Nat} {k:Blk} (hk:mem[b]? =some k):MRel w0 φ (mem.set b {k with live:=false}) w:=by
 have hbl:=aM hk
 have split:∀(i:Nat) (x:Blk),(mem.set b {k with live:=false})[i]? =some x→(x.live=false∧x.ps=k.ps∧i=b)∨(i≠b∧mem[i]? =some x):=by
  intro i x hx
  by_cases h1:i=b
  ·subst h1
   rw[List.getElem?_set_self hbl] at hx
   simp only[Option.some.injEq] at hx
   subst hx
   exact .inl ⟨rfl,rfl,rfl⟩
  ·rw[List.getElem?_set_ne (by omega)] at hx
   exact .inr ⟨h1,hx⟩
 have live:∀(i:Nat) (x:Blk),(mem.set b {k with live:=false})[i]? =some x→x.live=true→mem[i]? =some x:=by
  intro i x hx hl
  rcases split i x hx with ⟨h1,_⟩|⟨_,h1⟩
  ·rw[h1] at hl;cases hl
  ·exact h1
 refine ⟨h.below,?_,?_,?_,?_,?_⟩
 ·intro i j x x' hx hx' hl hl';exact h.inj i j x x' (live i x hx hl) (live j x' hx' hl') hl hl'
 ·intro i x hx hl;exact h.own i x (live i x hx hl) hl
 ·intro i x hx hl;exact h.old i x (live i x hx hl) hl
 ·intro i x hx hl;exact h.blk i x (live i x hx hl) hl
 ·intro i x hx
  simp only[List.length_set]
  rcases split i x hx with ⟨_,h2,_⟩|⟨_,h1⟩
  ·rw[h2];exact h.wf b k hk
  ·exact h.wf i x h1
theorem MRel.join (h:MRel w0 φ mem w) {w':World} (hb:Below w0.heap.size w0 w') (g cap:Nat) (hg:w0.heap.size≤g)
  (hfree:∀(i:Nat) (b:Blk),mem[i]? =some b→b.live=true→b.ro=false→(φ i).1≠g) (hsame:∀k,k≠g→k<w.heap.size→w'.heap[k]? =w.heap[k]?)
  (k:Blk) (hkl:k.live=true) (hkr:k.ro=false) (hp:aI (mh mem.length) k.ps=true) (hnew:oU w' (g,0,cap) (an φ k.ps) k):
  ∃φ':c7,Agree mem.length φ φ'∧φ' mem.length=(g,0,cap)∧MRel w0 φ' (mem++[k]) w':=by
 have hag:Agree mem.length φ (fun b=>if b=mem.length then (g,0,cap) else φ b):=fun b hb=>by simp;omega
 refine ⟨fun b=>if b=mem.length then (g,0,cap) else φ b,hag,by simp,?_⟩
 have h':=h.agree hag
 have split:∀(i:Nat) (b:Blk),(mem++[k])[i]? =some b→(i=mem.length∧b=k)∨(i<mem.length∧mem[i]? =some b):=by
  intro i b hb
  have hi:=aM hb
  simp only[List.length_append,List.length_cons,List.length_nil] at hi
  by_cases h1:i=mem.length
  ·subst h1;simp at hb;exact .inl ⟨rfl,hb.symm⟩
  ·have h2:i<mem.length:=by omega
   rw[List.getElem?_append_left h2] at hb
   exact .inr ⟨h2,hb⟩
 constructor
 ·exact hb
 ·intro i j b b' hb hb' hl hl' hr hr' e
  rcases split i b hb with ⟨h1,rfl⟩|⟨h1,hb1⟩<;>rcases split j b' hb' with ⟨h2,rfl⟩|⟨h2,hb2⟩
  ·omega
  ·have:=hfree j b' hb2 hl' hr'
   simp only[h1,if_true,show ¬j=mem.length by omega,if_false] at e
   exact absurd e.symm this
  ·have:=hfree i b hb1 hl hr
   simp only[h2,if_true,show ¬i=mem.length by omega,if_false] at e
   exact absurd e this
  ·exact h'.inj i j b b' hb1 hb2 hl hl' hr hr' e
 ·intro i b hb hl hr
  rcases split i b hb with ⟨h1,rfl⟩|⟨h1,hb1⟩
  ·simp only[h1,if_true];exact ⟨hg,trivial⟩
  ·exact h'.own i b hb1 hl hr
 ·intro i b hb hl hr
  rcases split i b hb with ⟨h1,rfl⟩|⟨h1,hb1⟩
  ·rw[hkr] at hr;cases hr
  ·exact h'.old i b hb1 hl hr
 ·intro i b hb hl hr
  rcases split i b hb with ⟨h1,rfl⟩|⟨h1,hb1⟩
  ·simp only[h1,if_true]
   rw[cU hag _ hp]
   exact hnew
  ·have h3:=h'.blk i b hb1 hl hr
   have h4:=h'.lt hb1 hl
   have h5:=hfree i b hb1 hl hr
   unfold oU at h3 ⊢
   simp only[show ¬i=mem.length by omega,if_false] at h3 h4 ⊢
   rw[hsame _ h5 h4]
   exact h3
 ·intro i b hb
  simp only[List.length_append,List.length_cons,List.length_nil]
  rcases split i b hb with ⟨h1,rfl⟩|⟨h1,hb1⟩
  ·exact di (by omega) _ hp
  ·exact di (by omega) _ (h.wf i b hb1)
theorem nK (s:ByteArray):an φ (nT s)=s.data.toList.map fun b=> .int .u8 (b.toNat:Int):=by
 unfold nT
 generalize s.data.toList=l
 induction l with
 |nil=>rfl
 |cons b l ih=>simp only[List.map_cons,an,Piece.conc,Atom.conc,ih];rfl
theorem Fd (f:Nat→Bool) (s:ByteArray):aI f (nT s)=true:=by
 unfold nT
 generalize s.data.toList=l
 induction l with
 |nil=>rfl
 |cons b l ih=>simp only[List.map_cons,aI,ih]
theorem xX {src dst:TypeId} {x:V1} {ob:List Prop} {v:AV} {mem':List Blk} (h:wh P mem src dst x=some (ob,v,mem')) (hm:MRel w0 φ mem w):
  dn w0 φ mem ((do pure (.value (←convert src dst (x.conc φ))):Sem Next).run P w) v mem':=by
 unfold wh at h
 split at h
 ·rename_i e s hs hd
  split at h
  ·rename_i he
   simp only[Option.some.injEq,Prod.mk.injEq] at h
   obtain ⟨rfl,rfl,rfl⟩:=h
   have hrun:=run_bytes_of_string (P:=P) w src dst e s hs hd he
   have hge:=grownCap_ge w s.size 0 e
   generalize grownCap w s.size 0 e=cap at hrun hge
   have hcs:bytesRow s cap=(an φ (nT s)++List.replicate (cap-s.size) (Value.int .u8 0)).toArray:=by
    apply Array.ext'
    simp[bytesRow,nK]
   obtain ⟨φ',ha,hs',hm'⟩:=hm.join (w':=w.drew.alloc (.cells (bytesRow s cap) e ((bytesRow s cap).size,(bytesRow s cap).size+1)))
    ((hm.below.drew).alloc hm.below.size _) w.heap.size cap hm.below.size (fun i b hb hl hr=>by have:=hm.lt hb hl;omega)
    (fun k hk hlt=>by simp only[World.alloc,World.drew];rw[Array.getElem?_push,if_neg (by omega)])
    ⟨nT s,e,true,false,0⟩ rfl rfl (Fd _ s)
    ⟨List.replicate (cap-s.size) (Value.int .u8 0),(bytesRow s cap).size,(bytesRow s cap).size+1,by
     simp only[World.alloc,World.drew]
     rw[Array.getElem?_push_size,hcs],fun j hj=>by rw[hcs];simp at hj ⊢;omega,fun h=>by simp at h⟩
   refine ⟨φ',_,.inl ?_,ha,by simp,hm',by simp[AV.wf,V1.wf,Nat.blt]⟩
   simp[V1.conc,Atom.conc,hrun,AV.conc,hs']
  ·simp at h
 ·simp at h
theorem xT {s:Bool} {t:TypeId} {x:V1} {lo hi:Option V1} {ob:List Prop} {v:AV} {mem':List Blk} (h:xc P mem s t x lo hi=some (ob,v,mem')) (hm:MRel w0 φ mem w) (ho:cL ob):
  dn w0 φ mem ((do pure (.value (←Instr.sliceAt t (x.conc φ) (lo.map (V1.conc φ)) (hi.map (V1.conc φ)) none)):Sem Next).run P w) v mem':=by
 unfold xc at h
 split at h
 ·rename_i y hu
  split at h
  ·rename_i o1 hz hb1
   split at h
   ·rename_i o2 lz hb2
    have ho':=ho
    rw[gk h,aY] at ho'
    refine ch h hm (fun _=> ?_) ho
    have hbs:(Instr.sliceBounds false y.size y.size (lo.map (V1.conc φ)) (hi.map (V1.conc φ)) none).run P w= .ok (lz,hz,y.size) w:=by
     rcases ge (φ:=φ) (P:=P) hb1 ho'.1 with ⟨rfl,rfl⟩|⟨vh,rfl,h1⟩<;>rcases ge (φ:=φ) (P:=P) hb2 ho'.2 with ⟨rfl,rfl⟩|⟨vl,rfl,h2⟩<;>
      simp[Instr.sliceBounds, *]
    simp[Instr.sliceAt,Instr.slice,aG hu,V1.conc,Atom.conc,hbs]
   ·simp at h
  ·simp at h
 ·rename_i e b off n c hu
  split at h
  ·rename_i o1 hz sz hb1 hn
   split at h
   ·rename_i o2 lz hb2
    have hbs:cL (o1++o2)→(Instr.sliceBounds true n c (lo.map (V1.conc φ)) (hi.map (V1.conc φ)) none).run P w= .ok (lz,hz,c) w:=by
     intro ho'
     rw[aY] at ho'
     rcases ge (φ:=φ) (P:=P) hb1 ho'.1 with ⟨rfl,rfl⟩|⟨vh,rfl,h1⟩<;>rcases ge (φ:=φ) (P:=P) hb2 ho'.2 with ⟨rfl,rfl⟩|⟨vl,rfl,h2⟩<;>
      simp[Instr.sliceBounds, *]
    split at h
    ·rename_i hl0
     obtain rfl:lz=0:=Nat.eq_of_beq_eq_true hl0
     have ho':=ho
     rw[gk h] at ho'
     refine ch h hm (fun _=> ?_) ho
     have h0:∀(b x:Nat),(⟨b,x,none⟩:Addr).add 0=⟨b,x,none⟩:=fun b x=>wc b x 0
     simp[Instr.sliceAt,Instr.slice,aG hu,V1.conc,Atom.conc,hbs ho',cQ hn,h0]
    ·split at h
     ·rename_i hne
      have ho':=ho
      rw[gk h] at ho'
      refine ch h hm (fun _=> ?_) ho
      have hne':c≠lz:=fun e=>by subst e;simp at hne
      simp[Instr.sliceAt,Instr.slice,aG hu,V1.conc,Atom.conc,hbs ho',cQ hn,hne',gl]
     ·simp at h
   ·simp at h
  ·simp at h
 ·rename_i e hu
  split at h
  ·rename_i o1 hz sz hb1 hn
   split at h
   ·rename_i o2 lz hb2
    split at h
    ·rename_i hl0 hh0
     obtain rfl:lz=0:=Nat.eq_of_beq_eq_true hl0
     obtain rfl:hz=0:=Nat.eq_of_beq_eq_true hh0
     have ho':=ho
     rw[gk h,aY] at ho'
     refine ch h hm (fun _=> ?_) ho
     have hbs:(Instr.sliceBounds true 0 0 (lo.map (V1.conc φ)) (hi.map (V1.conc φ)) none).run P w= .ok (0,0,0) w:=by
      rcases ge (φ:=φ) (P:=P) hb1 ho'.1 with ⟨rfl,hx1⟩|⟨vh,rfl,h1⟩<;>rcases ge (φ:=φ) (P:=P) hb2 ho'.2 with ⟨rfl,hx2⟩|⟨vl,rfl,h2⟩<;>
       simp[Instr.sliceBounds, *]
     simp[Instr.sliceAt,Instr.slice,aG hu,V1.conc,Atom.conc,hbs,cQ hn]
    ·simp at h
   ·simp at h
  ·simp at h
 ·simp at h
theorem vF {s:Bool} {t:TypeId} {x i:V1} {ob:List Prop} {v:AV} {mem':List Blk} (h:sw P mem s t x i=some (ob,v,mem')) (hm:MRel w0 φ mem w) (ho:cL ob):
  dn w0 φ mem ((do pure (.value (←Instr.index t (x.conc φ) (i.conc φ))):Sem Next).run P w) v mem':=by
 unfold sw at h
 split at h
 ·rename_i y z hu
  split at h
  ·rename_i ob' hmu
   refine ch h hm (fun ho=> ?_) ho
   rw[gk h] at ho
   obtain ⟨h1,h2⟩:=dP hmu ho
   have hlt:z.toNat<y.size:=by omega
   have hget:y[z.toNat]? =some (y.data.getD z.toNat 0):=by
    have hlt':z.toNat<y.data.size:=hlt
    rw[getElem?_pos y z.toNat hlt]
    simp only[Option.some.injEq]
    simp only[Array.getD,hlt',dif_pos]
    rfl
   simp[Instr.index,asIntOf,V1.conc,Atom.conc,aG hu,h1,hget]
  ·simp at h
 ·rename_i y kk z hu
  split at h
  ·rename_i ob' hmu
   refine ch h hm (fun ho=> ?_) ho
   rw[gk h] at ho
   have h2:=dP hmu ho
   have hget:y[z]? =some (y.data.getD z 0):=by
    have hlt':z<y.data.size:=h2
    rw[getElem?_pos y z h2]
    simp only[Option.some.injEq]
    simp only[Array.getD,hlt',dif_pos]
    rfl
   simp[Instr.index,asIntOf,V1.conc,Atom.conc,aG hu,hget]
  ·simp at h
 ·simp at h
theorem zr:∀(ps:List Piece),mg ps=true→∀v∈an φ ps,v.oneCell'=true:=by
 intro ps
 fun_induction mg ps<;>intro this
 ·intro v hv;simp[an] at hv
 ·rename_i x ps ih
  simp only[Bool.and_eq_true] at this
  intro v hv
  simp only[an,Piece.conc,Atom.conc,List.cons_append,List.nil_append,List.mem_cons] at hv
  rcases hv with rfl|hv
  ·exact this.1
  ·exact ih this.2 v hv
 ·rename_i p ps h0 ih
  intro v hv
  simp only[an,List.mem_append] at hv
  rcases hv with hv|hv
  ·cases p with
   |a x=>cases x<;>first|exact absurd rfl (h0 _)|(simp only[Piece.conc,Atom.conc,List.mem_singleton] at hv;subst hv;rfl)
   |num k n=>exact sH k n v hv
   |arr k l=>
    simp only[Piece.conc,List.mem_map] at hv
    obtain ⟨_,_,rfl⟩:=hv;rfl
  ·exact ih this v hv
theorem jz (P:Program) (g o:Nat) (t:TypeId) (fz:Nat×Nat) (top:Nat) (hz:fz.2≤fz.1∨top≤fz.1):∀(vs:List Value) (i:Nat) (cur:Array Value) (w:World),w.heap[g]? =some (.cells cur t fz)→cur.size=top→o+i+vs.length≤cur.size→(∀v∈vs,v.oneCell'=true)→
  (storeCells ⟨g,o,none⟩ vs i).run P w= .ok () (w.setRow g (cur.toList.take (o+i)++vs++cur.toList.drop (o+i+vs.length)).toArray)
 |[],i,cur,w,hg,_,_,_=>by
  simp only[storeCells,List.append_nil,List.length_nil,Nat.add_zero,List.take_append_drop,Array.toArray_toList]
  rw[setRow_self w g cur t fz hg]
  rfl
 |v::rest,i,cur,w,hg,htp,hl,h1=>by
  have hi:o+i<cur.size:=by simp at hl;omega
  have hadd:(⟨g,o,none⟩:Addr).add i=⟨g,o+i,none⟩:=by unfold Addr.add;split<;>simp_all
  have hcell:w.cell? ⟨g,o+i,none⟩=some cur[o+i]:=by simp[World.cell?,hg,hi]
  have hfro:w.frozen? ⟨g,o+i,none⟩=false:=by
   obtain ⟨lo,hi'⟩:=fz
   simp only[World.frozen?,hg,Bool.and_eq_false_iff,decide_eq_false_iff_not]
   simp only at hz
   omega
  have il:(store ((⟨g,o,none⟩:Addr).add i) v).run P w= .ok () (w.setRow g (cur.setIfInBounds (o+i) v)):=by
   rw[hadd,run_store P w _ v _ (h1 v (by simp)),hcell]
   simp[hfro,setCell_eq_setRow w g (o+i) cur t fz v hg]
  have ih:=jz P g o t fz top hz rest (i+1) (cur.setIfInBounds (o+i) v) (w.setRow g (cur.setIfInBounds (o+i) v)) (setRow_heap w g cur _ t _ hg) (by simpa using htp) (by simp at hl ⊢;omega) (fun x hx=>h1 x (by simp[hx]))
  simp only[storeCells,Sem.run_bind,il,Result.andThen_ok,ih,setRow_setRow]
  congr 3
  have e:=list_seg_step cur.toList (o+i) v rest (by simp at hl ⊢;omega)
  simpa[Array.toList_setIfInBounds,Nat.add_assoc] using e
theorem tQ (w:World) (t ty e:TypeId) (i:TypeInfo) (ht:P.underlying t=some (.slice e)) (hi:P.info? e=some i)
  (g sLen sCap:Nat) (cur:Array Value) (fz:Nat×Nat) (hg:w.heap[g]? =some (.cells cur e fz)) (hfz:fz.2≤fz.1∨cur.size≤fz.1)
  (a:Addr) (m c:Nat) (news:List Value) (hl:news.length=m*i.size) (hnews:∀j u,news[j]? =some u→w.cell? (a.add j)=some u) (h1:∀u∈news,u.oneCell'=true)
  (hroom:sLen+m≤sCap) (hfit:sLen*i.size+news.length≤cur.size):
  (Builtin.append_ #[t,t] ty #[.slice (some ⟨g,0,none⟩) sLen sCap,.slice (some a) m c]).run P w=
   .ok (.slice (some ⟨g,0,none⟩) (sLen+m) sCap) (w.setRow g (cur.toList.take (sLen*i.size)++news++cur.toList.drop (sLen*i.size+news.length)).toArray):=by
 have hf:=run_firstCells_some (P:=P) w i.size m a m c news hl hnews
 have il:=jz P g (sLen*i.size) e fz cur.size hfz news 0 cur w hg rfl (by simpa using hfit) h1
 simp only[Nat.add_zero] at il
 simp[Builtin.append_,run_underlying ht,sizeOf,typeInfo,hi,Builtin.lenOf,hroom,hf,Addr.add_lit,il]
theorem uV {t ty e:TypeId} {i:TypeInfo} {z:List Piece} {y:V1} {b1 n b off m:Nat} {k1 k:Blk} {news out:List Piece} (hu:P.underlying t=some (.slice e)) (hi:P.info? e=some i) (hz:kd P e=some z)
  (hk1:mem[b1]? =some k1) (hl1:k1.live=true) (hr1:k1.ro=false) (hesz:k1.esz=i.size) (hel:k1.elem=e) (hlen1:fk k1.ps=n*i.size)
  (hown:jy y=some (b,off,m)) (hk:mem[b]? =some k) (hlv:k.live=true)
  (hc1:an φ news=((an φ k.ps).drop off).take (m*i.size)) (hc3:(an φ news).length=m*i.size)
  (hcells:∀v∈an φ news,v.oneCell'=true) (hsz:fk z=i.size) (hpos:0<i.size) (hby:(n+m)*i.bytes≤140737488355328) (hnm:n+m≤140737488355328) (hmpos:0<m)
  (hptr:aI (mh mem.length) out=true) (hout:an φ out=an φ k1.ps++an φ news) (hm:MRel w0 φ mem w):
  dn w0 φ mem ((do pure (.value (←Builtin.append_ #[t,t] ty #[(V1.one (.sx b1 n)).conc φ,y.conc φ])):Sem Next).run P w) (.val (.one (.sx mem.length (n+m)))) (mem.set b1 {k1 with live:=false}++[⟨out,e,true,false,i.size⟩]):=by
 obtain ⟨cy,hy⟩:=gO (φ:=φ) hown
 have hnews:∀j u,(an φ news)[j]? =some u→w.cell? ((⟨(φ b).1,(φ b).2.1+off,none⟩:Addr).add j)=some u:=by
  intro j u hj
  rw[gl]
  refine hm.cell hk hlv ?_
  have hjl:=aM hj
  rw[hc1,List.getElem?_take_of_lt (by omega),List.getElem?_drop] at hj
  exact hj
 obtain ⟨zv,hzr,hzc⟩:=gm (φ:=φ) hz w
 have hzs:∃zv,i.zero=some zv∧zv.cells.size=i.size:=by
  simp only[zeroValue,typeInfo,Sem.run_bind,run_program,Result.andThen_ok,hi,Sem.run_pure] at hzr
  cases hzz:i.zero with
  |none=>rw[hzz] at hzr;simp at hzr
  |some zv'=>
   rw[hzz] at hzr
   simp at hzr
   subst hzr
   refine ⟨_,rfl,?_⟩
   rw[hzc]
   simp[eo,hsz]
 obtain ⟨zv',hz1,hz2⟩:=hzs
 obtain ⟨tail,lo,hi',hheap,hfr,hes⟩:=hm.blk b1 k1 hk1 hl1 hr1
 obtain ⟨hfz,htot,hcm⟩:=hes (by omega)
 have hoff:=(hm.own b1 k1 hk1 hl1 hr1).2
 have hbase:=(hm.own b1 k1 hk1 hl1 hr1).1
 have hcl:(an φ k1.ps).length=n*i.size:=by rw[eo];exact hlen1
 have hncap:n≤(φ b1).2.2:=by
  have:n*i.size≤(φ b1).2.2*i.size:=by rw[←hcl,←hesz,←htot];simp
  exact Nat.le_of_mul_le_mul_right this hpos
 rw[hel] at hheap
 have hkill:=hm.kill hk1
 have hfree:∀(g:Nat),(g=(φ b1).1∨w.heap.size≤g)→∀(j:Nat) (x:Blk),(mem.set b1 {k1 with live:=false})[j]? =some x→x.live=true→x.ro=false→(φ j).1≠g:=by
  intro g hg j x hx hxl hxr e
  by_cases hj:j=b1
  ·subst hj
   rw[List.getElem?_set_self (aM hk1)] at hx
   simp only[Option.some.injEq] at hx
   subst hx;cases hxl
  ·rw[List.getElem?_set_ne (by omega)] at hx
   rcases hg with hg|hg
   ·exact hj (hm.inj j b1 x k1 hx hk1 hxl hl1 hxr hr1 (by rw[e,hg]))
   ·have:=hm.lt hx hxl;omega
 have hptr':aI (mh (mem.set b1 {k1 with live:=false}).length) out=true:=by simpa using hptr
 by_cases hroom:n+m≤(φ b1).2.2
 ·have hrun:=tQ (P:=P) w t ty e i hu hi (φ b1).1 n (φ b1).2.2 _ (lo,hi') hheap (by rcases hfz with h|h;exact .inl h;exact .inr (by simp only[List.size_toArray,htot];exact h)) ⟨(φ b).1,(φ b).2.1+off,none⟩ m cy (an φ news) hc3 hnews hcells hroom
   (by rw[hc3,←Nat.add_mul];simp only[List.size_toArray,htot,hesz];exact Nat.mul_le_mul_right _ hroom)
  obtain ⟨φ',ha,hs',hm'⟩:=hkill.join (w':=w.setRow (φ b1).1 ((an φ k1.ps++tail).toArray.toList.take (n*i.size)++an φ news++(an φ k1.ps++tail).toArray.toList.drop (n*i.size+(an φ news).length)).toArray)
   (hm.below.trans ⟨rfl,rfl,rfl,by simp,fun j hj=>setRow_other w _ _ _ (by omega)⟩) (φ b1).1 (φ b1).2.2 hbase (hfree _ (.inl rfl))
   (fun j hj _=>setRow_other w _ _ _ hj) ⟨out,e,true,false,i.size⟩ rfl rfl hptr'
   ⟨tail.drop (m*i.size),lo,hi',by
    rw[setRow_heap w _ _ _ e _ hheap]
    congr 3
    rw[List.take_append_of_le_length (by omega),List.take_of_length_le (by omega),hout,List.append_assoc,List.append_assoc]
    congr 2
    rw[List.drop_append,List.drop_of_length_le (by omega),List.nil_append,hcl,hc3]
    congr 1;omega,fun j hj=>by
     have ht:tail.length=(φ b1).2.2*i.size-n*i.size:=by
      have:=htot
      rw[List.length_append,hcl,hesz] at this;omega
     have hle2:(n+m)*i.size≤(φ b1).2.2*i.size:=Nat.mul_le_mul_right _ hroom
     rw[hout,List.length_append,hcl,hc3,←Nat.add_mul] at hj
     rw[hesz] at hfz
     omega,fun _=>⟨by show hi'≤lo∨(φ b1).2.2*i.size≤lo;rw[hesz] at hfz;exact hfz,by
     have ht:tail.length=(φ b1).2.2*i.size-n*i.size:=by
      have:=htot
      rw[List.length_append,hcl,hesz] at this;omega
     have hle2:(n+m)*i.size≤(φ b1).2.2*i.size:=Nat.mul_le_mul_right _ hroom
     rw[Nat.add_mul] at hle2
     simp only[hout,List.length_append,hcl,hc3,List.length_drop,ht];omega,hcm⟩⟩
  refine ⟨φ',_,.inl ?_,?_,by simp,hm',by simp[AV.wf,V1.wf,Nat.blt]⟩
  ·rw[hy]
   simp only[V1.conc,Atom.conc,hoff,Nat.zero_add,Sem.run_bind] at hrun ⊢
   rw[hrun]
   simp only[Result.andThen_ok,Sem.run_pure,AV.conc,V1.conc,Atom.conc]
   simp only[List.length_set] at hs'
   rw[hs']
  ·simpa using ha
 ·have holds:∀j u,(an φ k1.ps)[j]? =some u→w.cell? ((⟨(φ b1).1,0,none⟩:Addr).add j)=some u:=by
   intro j u hj
   have:=hm.cell hk1 hl1 hj
   rw[hoff] at this
   rw[wc];exact this
  have hrun:=run_append_grow (P:=P) w t ty e i zv' hu hi hz1 ⟨(φ b1).1,0,none⟩ n (φ b1).2.2 (an φ k1.ps) hcl holds ⟨(φ b).1,(φ b).2.1+off,none⟩ m cy (an φ news) hc3 hnews (by omega) (by omega) (growslice_fits (by omega) hby)
  have hge:=grownCap_ge w (n+m) (φ b1).2.2 e
  have hle:=grownCap_le_maxLen w (n+m) (φ b1).2.2 e (by simp only[maxLen];omega)
  generalize grownCap w (n+m) (φ b1).2.2 e=cap at hrun hge hle
  obtain ⟨φ',ha,hs',hm'⟩:=hkill.join (w':=w.drew.alloc (.cells ((an φ k1.ps).toArray++(an φ news).toArray++Builtin.zeroCells zv'.cells (cap-(n+m))) e))
   ((hm.below.drew).alloc hm.below.size _) w.heap.size cap hm.below.size (hfree _ (.inr (Nat.le_refl _)))
   (fun k hk hlt=>by simp only[World.alloc,World.drew];rw[Array.getElem?_push,if_neg (by omega)])
   ⟨out,e,true,false,i.size⟩ rfl rfl hptr'
   ⟨(Builtin.zeroCells zv'.cells (cap-(n+m))).toList,0,0,by
    simp only[World.alloc,World.drew]
    rw[Array.getElem?_push_size]
    congr 2
    apply Array.ext'
    simp[hout],fun j hj=>by omega,fun _=>⟨.inl (Nat.le_refl _),by
     simp only[hout,List.length_append,hcl,hc3,Array.length_toList,size_zeroCells,hz2,←Nat.add_mul]
     congr 1;omega,hle⟩⟩
  refine ⟨φ',_,.inl ?_,?_,by simp,hm',by simp[AV.wf,V1.wf,Nat.blt]⟩
  ·rw[hy]
   simp only[V1.conc,Atom.conc,hoff,Nat.zero_add,Sem.run_bind] at hrun ⊢
   rw[hrun]
   simp only[Result.andThen_ok,Sem.run_pure,AV.conc,V1.conc,Atom.conc]
   simp only[List.length_set] at hs'
   rw[hs']
  ·simpa using ha
theorem Ay {t ty:TypeId} {x y:V1} {ob:List Prop} {v:AV} {mem':List Blk} (h:zt P mem t x y=some (ob,v,mem')) (hm:MRel w0 φ mem w):
  dn w0 φ mem ((do pure (.value (←Builtin.append_ #[t,t] ty #[x.conc φ,y.conc φ])):Sem Next).run P w) v mem':=by
 unfold zt at h
 split at h
 ·rename_i e hu
  split at h
  ·rename_i i z hi hz
   split at h
   ·rename_i n xs mem1 b off m hold hown
    split at h
    ·rename_i k hk
     split at h
     ·rename_i news hlv hc
      split at h
      ·rename_i hck
       simp only[Option.some.injEq,Prod.mk.injEq] at h
       obtain ⟨rfl,rfl,rfl⟩:=h
       simp only[Bool.and_eq_true,decide_eq_true_eq,Nat.beq_eq,Nat.blt,Nat.ble_eq] at hck
       obtain ⟨⟨⟨⟨hptr,hcells⟩,hsz,hpos⟩,hby,hnm⟩,hmpos⟩:=hck
       obtain ⟨cy,hy⟩:=gO (φ:=φ) hown
       obtain ⟨hc1,hc2,hc3⟩:=iQ (φ:=φ) hc
       have hnews:∀j u,(an φ news)[j]? =some u→w.cell? ((⟨(φ b).1,(φ b).2.1+off,none⟩:Addr).add j)=some u:=by
        intro j u hj
        rw[gl]
        refine hm.cell hk hlv ?_
        have hjl:=aM hj
        rw[hc1,List.getElem?_take_of_lt (by omega),List.getElem?_drop] at hj
        exact hj
       obtain ⟨zv,hzr,hzc⟩:=gm (φ:=φ) hz w
       have hzs:∃zv,i.zero=some zv∧zv.cells.size=i.size:=by
        simp only[zeroValue,typeInfo,Sem.run_bind,run_program,Result.andThen_ok,hi,Sem.run_pure] at hzr
        cases hzz:i.zero with
        |none=>rw[hzz] at hzr;simp at hzr
        |some zv'=>
         rw[hzz] at hzr
         simp at hzr
         subst hzr
         refine ⟨_,rfl,?_⟩
         rw[hzc]
         simp[eo,hsz]
       obtain ⟨zv',hz1,hz2⟩:=hzs
       unfold It at hold
       split at hold
       ·
        simp only[Option.some.injEq,Prod.mk.injEq] at hold
        obtain ⟨rfl,rfl,rfl⟩:=hold
        simp only[Nat.zero_add] at hby hnm
        have hrun:=run_append_nil (P:=P) w t ty e i zv' hu hi hz1 ⟨(φ b).1,(φ b).2.1+off,none⟩ m cy (an φ news) hc3 hnews (by omega) (by omega) (by omega)
        have hge:=grownCap_ge w m 0 e
        have hle:=grownCap_le_maxLen w m 0 e (by simp only[maxLen];omega)
        generalize grownCap w m 0 e=cap at hrun hge hle
        obtain ⟨φ',ha,hs',hm'⟩:=hm.join (w':=w.drew.alloc (.cells ((an φ news).toArray++Builtin.zeroCells zv'.cells (cap-m)) e))
         ((hm.below.drew).alloc hm.below.size _) w.heap.size cap hm.below.size (fun i b hb hl hr=>by have:=hm.lt hb hl;omega)
         (fun k hk hlt=>by simp only[World.alloc,World.drew];rw[Array.getElem?_push,if_neg (by omega)])
         ⟨[]++news,e,true,false,i.size⟩ rfl rfl hptr
         ⟨(Builtin.zeroCells zv'.cells (cap-m)).toList,0,0,by
          simp only[World.alloc,World.drew]
          rw[Array.getElem?_push_size]
          congr 2
          apply Array.ext'
          simp,fun j hj=>by omega,fun _=>⟨.inl (Nat.le_refl _),by
           simp only[List.nil_append,List.length_append,hc3,Array.length_toList,size_zeroCells,hz2,←Nat.add_mul]
           congr 1;omega,hle⟩⟩
        refine ⟨φ',_,.inl ?_,ha,by simp,hm',by simp[AV.wf,V1.wf,Nat.blt]⟩
        rw[hy]
        simp only[V1.conc,Atom.conc,Sem.run_bind,hrun,Result.andThen_ok,Sem.run_pure,AV.conc,hs',Nat.zero_add]
       ·
        rename_i b1 n
        split at hold
        ·rename_i k1 hk1
         split at hold
         ·rename_i hck1
          simp only[Option.some.injEq,Prod.mk.injEq] at hold
          obtain ⟨rfl,rfl,rfl⟩:=hold
          simp only[Bool.and_eq_true,Nat.beq_eq,Nat.blt,Nat.ble_eq,Bool.not_eq_true'] at hck1
          obtain ⟨⟨⟨hl1,hr1⟩,hesz,_⟩,hel,hlen1⟩:=hck1
          exact uV hu hi hz hk1 hl1 hr1 hesz hel hlen1 hown hk hlv hc1 hc3 (zr news hcells) hsz hpos hby hnm hmpos hptr (bb φ k1.ps news) hm
         ·simp at hold
        ·simp at hold
       ·simp at hold
      ·simp at h
     ·simp at h
    ·simp at h
   ·simp at h
  ·simp at h
 ·simp at h
theorem jA {t ty:TypeId} {x y:V1} {ob:List Prop} {v:AV} {mem':List Blk} (h:jM P mem t x y=some (ob,v,mem')) (hm:MRel w0 φ mem w):
  dn w0 φ mem ((do pure (.value (←Builtin.append_ #[t,t] ty #[x.conc φ,y.conc φ])):Sem Next).run P w) v mem':=by
 unfold jM at h
 split at h
 ·rename_i b1 off1 n cap0
  split at h
  ·rename_i e hu
   split at h
   ·rename_i i z hi hz
    split at h
    ·rename_i k1 b off m hk1 hown
     split at h
     ·rename_i k hk
      split at h
      ·rename_i xs news hlv hc1 hc
       split at h
       ·rename_i hck
        simp only[Option.some.injEq,Prod.mk.injEq] at h
        obtain ⟨rfl,rfl,rfl⟩:=h
        simp only[Bool.and_eq_true,decide_eq_true_eq,Nat.beq_eq,Nat.blt,Nat.ble_eq] at hck hlv
        obtain ⟨⟨hptr,hsz,hpos⟩,⟨hby,hnm⟩,hfull⟩:=hck
        obtain ⟨cy,hy⟩:=gO (φ:=φ) hown
        obtain ⟨ha1,ha2,ha3⟩:=iQ (φ:=φ) hc1
        obtain ⟨hc1',hc2,hc3⟩:=iQ (φ:=φ) hc
        have holds:∀j u,(an φ xs)[j]? =some u→w.cell? ((⟨(φ b1).1,(φ b1).2.1+off1,none⟩:Addr).add j)=some u:=by
         intro j u hj
         rw[gl]
         refine hm.cell hk1 hlv.1 ?_
         have hjl:=aM hj
         rw[ha1,List.getElem?_take_of_lt (by omega),List.getElem?_drop] at hj
         exact hj
        have hnews:∀j u,(an φ news)[j]? =some u→w.cell? ((⟨(φ b).1,(φ b).2.1+off,none⟩:Addr).add j)=some u:=by
         intro j u hj
         rw[gl]
         refine hm.cell hk hlv.2 ?_
         have hjl:=aM hj
         rw[hc1',List.getElem?_take_of_lt (by omega),List.getElem?_drop] at hj
         exact hj
        obtain ⟨zv,hzr,hzc⟩:=gm (φ:=φ) hz w
        have hzs:∃zv,i.zero=some zv∧zv.cells.size=i.size:=by
         simp only[zeroValue,typeInfo,Sem.run_bind,run_program,Result.andThen_ok,hi,Sem.run_pure] at hzr
         cases hzz:i.zero with
         |none=>rw[hzz] at hzr;simp at hzr
         |some zv'=>
          rw[hzz] at hzr
          simp at hzr
          subst hzr
          refine ⟨_,rfl,?_⟩
          rw[hzc]
          simp[eo,hsz]
        obtain ⟨zv',hz1,hz2⟩:=hzs
        have hrun:=run_append_grow (P:=P) w t ty e i zv' hu hi hz1 ⟨(φ b1).1,(φ b1).2.1+off1,none⟩ n cap0 (an φ xs) ha3 holds ⟨(φ b).1,(φ b).2.1+off,none⟩ m cy (an φ news) hc3 hnews (by omega) (by omega) (growslice_fits (by omega) hby)
        have hge:=grownCap_ge w (n+m) cap0 e
        have hle:=grownCap_le_maxLen w (n+m) cap0 e (by simp only[maxLen];omega)
        generalize grownCap w (n+m) cap0 e=cap at hrun hge hle
        obtain ⟨φ',ha,hs',hm'⟩:=hm.join (w':=w.drew.alloc (.cells ((an φ xs).toArray++(an φ news).toArray++Builtin.zeroCells zv'.cells (cap-(n+m))) e))
         ((hm.below.drew).alloc hm.below.size _) w.heap.size cap hm.below.size (fun i b hb hl hr=>by have:=hm.lt hb hl;omega)
         (fun k hk hlt=>by simp only[World.alloc,World.drew];rw[Array.getElem?_push,if_neg (by omega)])
         ⟨xs++news,e,true,false,i.size⟩ rfl rfl hptr
         ⟨(Builtin.zeroCells zv'.cells (cap-(n+m))).toList,0,0,by
          simp only[World.alloc,World.drew]
          rw[Array.getElem?_push_size]
          congr 2
          apply Array.ext'
          simp[bb],fun j hj=>by omega,fun _=>⟨.inl (Nat.le_refl _),by
           simp only[bb,List.length_append,ha3,hc3,Array.length_toList,size_zeroCells,hz2,←Nat.add_mul]
           congr 1;omega,hle⟩⟩
        refine ⟨φ',_,.inl ?_,ha,by simp,hm',by simp[AV.wf,V1.wf,Nat.blt]⟩
        rw[hy]
        simp only[V1.conc,Atom.conc,Sem.run_bind,hrun,Result.andThen_ok,Sem.run_pure,AV.conc,hs',Nat.zero_add]
       ·simp at h
      ·simp at h
     ·simp at h
    ·simp at h
   ·simp at h
  ·simp at h
 ·exact Ay h hm
theorem mH (w:World) (t ty e:TypeId) (i:TypeInfo) (ht:P.underlying t=some (.slice e)) (hi:P.info? e=some i) (base:Option Addr) (n cap:Nat) (h:n≤cap):
  (Builtin.append_ #[t,t] ty #[.slice base n cap,.slice none 0 0]).run P w= .ok (.slice base n cap) w:=by
 cases base<;>simp[Builtin.append_,run_underlying ht,sizeOf,typeInfo,hi,Builtin.lenOf,h,Builtin.firstCells,storeCells]
theorem AK {t ty:TypeId} {x y:V1} {ob:List Prop} {v:AV} {mem':List Blk} (h:BH P mem t x y=some (ob,v,mem')) (ho:cL ob) (hm:MRel w0 φ mem w):
  dn w0 φ mem ((do pure (.value (←Builtin.append_ #[t,t] ty #[x.conc φ,y.conc φ])):Sem Next).run P w) v mem':=by
 unfold BH at h
 split at h
 ·rename_i e hu
  split at h
  ·rename_i i hi
   split at h
   ·split at h
    ·rename_i b off n cap
     split at h
     ·rename_i hck
      simp only[Option.some.injEq,Prod.mk.injEq] at h
      obtain ⟨rfl,rfl,rfl⟩:=h
      simp only[Bool.and_eq_true,Nat.ble_eq] at hck
      have hrun:=mH (P:=P) w t ty e i hu hi (some ⟨(φ b).1,(φ b).2.1+off,none⟩) n cap hck.1
      refine ⟨φ,w,.inl ?_,Agree.refl _ _,Nat.le_refl _,hm,by simpa[AV.wf,V1.wf] using hck.2⟩
      simp only[V1.conc,Atom.conc,Sem.run_bind,hrun,Result.andThen_ok,Sem.run_pure,AV.conc]
     ·simp at h
    ·rename_i b n
     split at h
     ·rename_i hold
      simp only[Option.some.injEq,Prod.mk.injEq] at h
      obtain ⟨rfl,rfl,rfl⟩:=h
      unfold It at hold
      split at hold
      ·rename_i heq;simp at heq
      ·rename_i b' n' heq
       simp only[V1.one.injEq,Atom.sx.injEq] at heq
       obtain ⟨rfl,rfl⟩:=heq
       split at hold
       ·rename_i k hk
        split at hold
        ·rename_i hck
         simp only[Bool.and_eq_true,Bool.not_eq_true',Nat.beq_eq,Nat.blt,Nat.ble_eq] at hck
         obtain ⟨⟨⟨hl,hr⟩,hes,hpos⟩,hel,hsz⟩:=hck
         obtain ⟨tail,lo,hi',h1,_,h3⟩:=hm.blk _ _ hk hl hr
         obtain ⟨_,h4,_⟩:=h3 (by omega)
         have hle:n≤(φ b).2.2:=by
          rw[List.length_append,eo,hsz,hes] at h4
          exact Nat.le_of_mul_le_mul_right (by omega) hpos
         have hrun:=mH (P:=P) w t ty e i hu hi (some ⟨(φ b).1,(φ b).2.1+0,none⟩) n (φ b).2.2 hle
         refine ⟨φ,w,.inl ?_,Agree.refl _ _,Nat.le_refl _,hm,by simp only[AV.wf,V1.wf,Nat.blt,Nat.ble_eq];exact aM hk⟩
         simp only[V1.conc,Atom.conc,Sem.run_bind,hrun,Result.andThen_ok,Sem.run_pure,AV.conc]
        ·simp at hold
       ·simp at hold
      ·rename_i h2;exact absurd rfl (h2 b n)
     ·simp at h
    ·simp at h
   ·split at h
    ·split at h
     ·dsimp only at h
      simp only[Option.some.injEq,Prod.mk.injEq] at h
      obtain ⟨rfl,rfl,rfl⟩:=h
      exact jA ho.1 hm
     ·simp at h
    ·exact jA h hm
  ·simp at h
 ·simp at h
end
section
variable {P:Program} {w0 w:World} {φ:c7} {mem:List Blk}
theorem rH {a b:IntKind} (h:pr a b=true):a=b:=by
 revert h;cases a<;>cases b<;>simp[pr,j2]
theorem iJ {k:Blk} {kk:IntKind} {l:List Nat} (h:pb k=some (kk,l)):k.live=true∧k.ps=[.arr kk l]:=by
 unfold pb at h
 split at h
 ·simp at h
 split at h
 ·rename_i h1 h2
  simp only[Option.some.injEq,Prod.mk.injEq] at h
  obtain ⟨rfl,rfl⟩:=h
  exact ⟨h1,h2⟩
 ·simp at h
theorem Hn {t:TypeId} {kk:IntKind} (h:EF P t=some kk):P.underlying t=some (.int kk)∧dm P t=some false:=by
 unfold EF at h
 split at h
 ·rename_i kk' hu
  simp only[Option.some.injEq] at h;subst h
  exact ⟨hu,by unfold dm;rw[hu]⟩
 ·simp at h
theorem dD (φ:c7) (kk:IntKind) (l:List Nat):an φ [.arr kk l]=l.map fun n=>Value.int kk ((n:Nat):Int):=by
 simp[an,Piece.conc]
theorem JC {t:TypeId} {kk:IntKind} {l:List Nat} {off:Nat} (ha:dm P t=some false) (h:off<l.length):dg P t [.arr kk l] off (.one (.u kk (l.getD off 0))):=by
 intro φ
 refine ⟨ha,?_⟩
 rw[dD,List.getElem?_map,List.getElem?_eq_getElem h,List.getD_eq_getElem?_getD,List.getElem?_eq_getElem h]
 rfl
theorem Gv {t:TypeId} {x:Option V1} {ob:List Prop} {v:V1} {b:Nat} (h:zh P mem t x=some (ob,v,b)) (ho:cL ob):
  ∃k off,x=some (.one (.ptr b off))∧mem[b]? =some k∧k.live=true∧dg P t k.ps off v∧v.wf 0=true:=by
 unfold zh at h
 split at h
 ·rename_i b' off
  split at h
  ·rename_i k hk
   split at h
   ·rename_i kk' kk l hkind harr
    split at h
    ·rename_i hs
     simp only[Option.some.injEq,Prod.mk.injEq] at h
     obtain ⟨rfl,rfl,rfl⟩:=h
     obtain ⟨h1,h2⟩:=iJ harr
     exact ⟨k,off,rfl,hk,h1,by rw[h2];exact JC (Hn hkind).2 ho.1,rfl⟩
    ·simp at h
   ·simp at h
  ·simp at h
 ·simp at h
theorem Ke (hm:MRel w0 φ mem w) {b off n:Nat} {k:Blk} {kk:IntKind} {l:List Nat} (hk:mem[b]? =some k) (hlv:k.live=true) (hps:k.ps=[.arr kk l]) (hro:k.ro=false) (hof:off<l.length):
  ∃w',(storeCells ⟨(φ b).1,(φ b).2.1+off,none⟩ [Value.int kk ((n:Nat):Int)]).run P w= .ok () w'∧MRel w0 φ (mem.set b {k with ps:=[.arr kk (l.set off n)]}) w':=by
 obtain ⟨tail,lo,hi,hg,hfr,hesz⟩:=hm.blk b k hk hlv hro
 have hc:an φ k.ps=l.map fun n=>Value.int kk ((n:Nat):Int):=by rw[hps,dD]
 have hlen:(an φ k.ps).length=l.length:=by rw[hc];simp
 have il:=ir (P:=P) (φ b).1 off k.elem lo hi [Value.int kk ((n:Nat):Int)] 0 (an φ k.ps++tail) w hg (by simp;omega) (by simp;rfl) (fun j h3 h4=>hfr j (by simp at h4;omega))
 simp only[Nat.add_zero,List.length_singleton] at il
 rw[List.take_append_of_le_length (by omega),List.drop_append_of_le_length (by omega),←List.append_assoc,←List.append_assoc] at il
 have hqs:an φ [.arr kk (l.set off n)]=List.take off (an φ k.ps)++[Value.int kk ((n:Nat):Int)]++List.drop (off+1) (an φ k.ps):=by
  rw[dD,hc,List.map_set,List.set_eq_take_append_cons_drop,if_pos (by simp;exact hof)]
  simp
 have hlen2:(an φ [.arr kk (l.set off n)]).length=(an φ k.ps).length:=by rw[dD,hlen];simp
 rw[←hqs] at il
 have hz:=(hm.own b k hk hlv hro).2
 have hst':=il
 rw[show (⟨(φ b).1,off,none⟩:Addr)=⟨(φ b).1,(φ b).2.1+off,none⟩ by rw[hz,Nat.zero_add]] at hst'
 have hlt:=hm.lt hk hlv
 refine ⟨_,hst',hm.write hk hlv hro [.arr kk (l.set off n)] rfl ?_ ?_ ?_⟩
 ·refine hm.below.trans ⟨rfl,rfl,rfl,by simp,fun j hj=> ?_⟩
  have:=(hm.own b k hk hlv hro).1
  simp only
  rw[Array.getElem?_setIfInBounds,if_neg (by omega)]
 ·intro j hj
  simp only
  rw[Array.getElem?_setIfInBounds,if_neg (fun e=>hj e.symm)]
 ·refine ⟨tail,lo,hi,?_,by rw[hlen2];exact hfr,fun he=> ?_⟩
  ·simp only
   rw[Array.getElem?_setIfInBounds,if_pos rfl,if_pos hlt]
  ·obtain ⟨e1,e3,e4⟩:=hesz he
   exact ⟨e1,by rw[←e3];simp only[List.length_append,hlen2],e4⟩
theorem GK {t:TypeId} {x y:Option V1} {ob:List Prop} {b:Nat} {k':Blk} (h:yp P mem t x y=some (ob,b,k')) (ho:cL ob) (hm:MRel w0 φ mem w):
  ∃off n kk w',x=some (.one (.ptr b off))∧y=some (.one (.u kk n))∧d8 P t=some 1∧(storeCells ⟨(φ b).1,(φ b).2.1+off,none⟩ [Value.int kk ((n:Nat):Int)]).run P w= .ok () w'∧MRel w0 φ (mem.set b k') w':=by
 unfold yp at h
 split at h
 ·rename_i b' off ky n
  split at h
  ·rename_i k hk
   split at h
   ·rename_i kk l kk' sz harr hkind hsz
    split at h
    ·rename_i hc
     simp only[Bool.and_eq_true,Nat.beq_eq,Bool.not_eq_true'] at hc
     simp only[Option.some.injEq,Prod.mk.injEq] at h
     obtain ⟨rfl,rfl,rfl⟩:=h
     obtain ⟨h1,h2⟩:=iJ harr
     have e:=rH hc.1.2
     subst e
     obtain ⟨w',h3,h4⟩:=Ke (P:=P) (n:=n) hm hk h1 h2 hc.2.2 ho.1
     exact ⟨off,n,kk,w',rfl,rfl,by rw[hsz,hc.2.1],h3,h4⟩
    ·simp at h
   ·simp at h
  ·simp at h
 ·simp at h
theorem Ga {src dst:TypeId} {x:Option V1} {ob:List Prop} {s:ByteArray} {b:Nat} (h:nq P mem src dst x=some (ob,s,b)) (ho:cL ob) (hm:MRel w0 φ mem w):
  ∃u,x=some u∧(convert src dst (u.conc φ)).run P w= .ok (.string s) w:=by
 unfold nq at h
 split at h
 ·rename_i e u hs hd
  split at h
  ·rename_i b' off n he hown
   split at h
   ·rename_i k hk
    split at h
    ·rename_i l harr
     simp only[Option.some.injEq,Prod.mk.injEq] at h
     obtain ⟨rfl,rfl,rfl⟩:=h
     obtain ⟨h1,h2⟩:=iJ harr
     obtain ⟨rfl,rfl⟩:=ho.1
     obtain ⟨cp,hcv⟩:=gO (φ:=φ) hown
     have hload:=run_loadCells_list (P:=P) w ⟨(φ b').1,(φ b').2.1+0,none⟩ (an φ k.ps) (fun j v hj=>by
      rw[gl]
      exact hm.cell hk h1 (by rw[Nat.zero_add];exact hj))
     rw[h2,dD] at hload
     rw[List.length_map] at hload
     have hb:=iu (c:=cp) hload
     simp only[Nat.add_zero] at hb
     exact ⟨u,rfl,by simp[convert,aG hs,aG hd,hcv,aG he,hb]⟩
    ·simp at h
    ·split at h
     ·rename_i ps hlv hc
      split at h
      ·rename_i l hl
       simp only[Option.some.injEq,Prod.mk.injEq] at h
       obtain ⟨rfl,rfl,rfl⟩:=h
       obtain ⟨cp,hcv⟩:=gO (φ:=φ) hown
       have hload:=i5 (P:=P) hm hk hlv hc
       rw[kP ps hl] at hload
       exact ⟨u,rfl,by simp[convert,aG hs,aG hd,hcv,aG he,iu hload]⟩
      ·simp at h
     ·simp at h
   ·simp at h
  ·simp at h
 ·simp at h
theorem GP (hm:MRel w0 φ mem w) {b:Nat} {k:Blk} {kk:IntKind} {l new:List Nat} (hk:mem[b]? =some k) (hlv:k.live=true) (hps:k.ps=[.arr kk l]) (hro:k.ro=false) (hn:new.length≤l.length):
  ∃w',(storeCells ⟨(φ b).1,(φ b).2.1+0,none⟩ (new.map fun n=>Value.int kk ((n:Nat):Int))).run P w= .ok () w'∧MRel w0 φ (mem.set b {k with ps:=[.arr kk (new++l.drop new.length)]}) w':=by
 obtain ⟨tail,lo,hi,hg,hfr,hesz⟩:=hm.blk b k hk hlv hro
 have hc:an φ k.ps=l.map fun n=>Value.int kk ((n:Nat):Int):=by rw[hps,dD]
 have hlen:(an φ k.ps).length=l.length:=by rw[hc];simp
 have il:=ir (P:=P) (φ b).1 0 k.elem lo hi (new.map fun n=>Value.int kk ((n:Nat):Int)) 0 (an φ k.ps++tail) w hg (by simp;omega) (by simp;exact fun _ _=>rfl) (fun j h3 h4=>hfr j (by simp at h4;omega))
 simp only[Nat.add_zero,Nat.zero_add,List.length_map,List.take_zero,List.nil_append] at il
 rw[List.drop_append_of_le_length (by omega),←List.append_assoc] at il
 have hqs:an φ [.arr kk (new++l.drop new.length)]=(new.map fun n=>Value.int kk ((n:Nat):Int))++List.drop new.length (an φ k.ps):=by
  rw[dD,hc,List.map_append,List.map_drop]
 have hlen2:(an φ [.arr kk (new++l.drop new.length)]).length=(an φ k.ps).length:=by rw[dD,hlen];simp;omega
 rw[←hqs] at il
 have hz:=(hm.own b k hk hlv hro).2
 have hst':=il
 rw[show (⟨(φ b).1,0,none⟩:Addr)=⟨(φ b).1,(φ b).2.1+0,none⟩ by rw[hz]] at hst'
 have hlt:=hm.lt hk hlv
 refine ⟨_,hst',hm.write hk hlv hro [.arr kk (new++l.drop new.length)] rfl ?_ ?_ ?_⟩
 ·refine hm.below.trans ⟨rfl,rfl,rfl,by simp,fun j hj=> ?_⟩
  have:=(hm.own b k hk hlv hro).1
  simp only
  rw[Array.getElem?_setIfInBounds,if_neg (by omega)]
 ·intro j hj
  simp only
  rw[Array.getElem?_setIfInBounds,if_neg (fun e=>hj e.symm)]
 ·refine ⟨tail,lo,hi,?_,by rw[hlen2];exact hfr,fun he=> ?_⟩
  ·simp only
   rw[Array.getElem?_setIfInBounds,if_pos rfl,if_pos hlt]
  ·obtain ⟨e1,e3,e4⟩:=hesz he
   exact ⟨e1,by rw[←e3];simp only[List.length_append,hlen2],e4⟩
theorem JJ {t:TypeId} {ts:Array TypeId} (ht:ts[0]? =some t) {ty:TypeId} {x y:Option V1} {ob:List Prop} {s:ByteArray} {b:Nat} {k':Blk} (h:tf P mem t x y=some (ob,s,b,k')) (ho:cL ob) (hm:MRel w0 φ mem w):
  ∃u u' w',x=some u∧y=some u'∧(Builtin.copy_ ts ty #[u.conc φ,u'.conc φ]).run P w= .ok (.int .i64 (s.size:Int)) w'∧MRel w0 φ (mem.set b k') w':=by
 unfold tf at h
 split at h
 ·rename_i e u s1 hu
  split at h
  ·rename_i b1 off n sz he hown hsz
   split at h
   ·rename_i k hk
    split at h
    ·rename_i l harr
     split at h
     ·rename_i hc
      simp only[Bool.and_eq_true,Nat.beq_eq,Bool.not_eq_true'] at hc
      simp only[Option.some.injEq,Prod.mk.injEq] at h
      obtain ⟨rfl,rfl,rfl,rfl⟩:=h
      obtain ⟨⟨rfl,rfl,hle⟩,_⟩:=ho
      obtain ⟨h1,h2⟩:=iJ harr
      obtain ⟨cp,hcv⟩:=gO (φ:=φ) hown
      obtain ⟨w',il,hm'⟩:=GP (P:=P) (new:=aZ s1) hm hk h1 h2 hc.2 (by simp[aZ];exact hle)
      have hnl:(aZ s1).length=s1.size:=by simp[aZ]
      rw[hnl] at hm'
      refine ⟨u,_,w',rfl,rfl,?_,hm'⟩
      have hcells:((s1.extract 0 s1.size).data.map fun b=>Value.int .u8 ((b.toNat:Nat):Int)).toList=(aZ s1).map fun n=>Value.int .u8 ((n:Nat):Int):=by
       simp[aZ,List.map_map]
      rw[hcv]
      simp only[Builtin.copy_,ht,V1.conc,Atom.conc,List.getElem?_toArray,List.getElem?_cons_zero,List.getElem?_cons_succ,Sem.run_bind,aG hu,Result.andThen_ok,Builtin.lenOf,Sem.run_pure,cQ hsz,Builtin.firstCells]
      rw[show Nat.min s1.size l.length=s1.size from Nat.min_eq_left hle]
      simp only[hcells,il,Result.andThen_ok,goInt]
     ·simp at h
    ·simp at h
   ·simp at h
  ·simp at h
 ·simp at h
theorem CI {ρ:Operand→Option AV} {a:Operand→Value} (ha:∀x u,gv (ρ x)=some u→a x=u.conc φ) {x y:Operand} {u u':V1} (hx:gv (ρ x)=some u) (hy:gv (ρ y)=some u') {xs:Array Operand} (h:xs.toList=[x,y]):
  xs.map a= #[u.conc φ,u'.conc φ]:=by
 apply Array.ext'
 rw[Array.toList_map,h]
 simp[ha _ _ hx,ha _ _ hy]
theorem EK {t:TypeId} {ts:Array TypeId} (ht:ts[0]? =some t) {ty:TypeId} {x:V1} {ob:List Prop} {v:AV} {mem':List Blk} (h:Fj P mem t x=some (ob,v,mem')) (hm:MRel w0 φ mem w):
  dn w0 φ mem ((do pure (.value (←Builtin.clear_ ts ty #[x.conc φ])):Sem Next).run P w) v mem':=by
 unfold Fj at h
 split at h
 ·rename_i e b off n cap hu
  split at h
  ·rename_i z k hz hk
   split at h
   ·rename_i hlo
    simp only[Bool.and_eq_true,Nat.blt_eq] at hlo
    have hzl:(an φ z).length=fk z:=eo φ z
    have hl:(an φ (mP (n+1) z)).length=(n+1)*fk z:=by
     rw[kM,List.length_flatten,List.map_replicate,hzl]
     generalize fk z=m
     generalize n+1=q
     induction q with
     |zero=>simp
     |succ q ih=>rw[List.replicate_succ,List.sum_cons,ih,Nat.add_mul];omega
    refine pZ (P:=P) h hm hk hlo.1 hl rfl (fun w' hw=> .inl ?_)
    obtain ⟨zv,hzr,hzc⟩:=gm (φ:=φ) hz w
    have hrow:=zI (φ:=φ) hzc hlo.2 (n+1)
    have hzc2:Builtin.zeroCells zv.cells (n+1)=(an φ (mP (n+1) z)).toArray:=by
     rw[←hrow]
     unfold Builtin.zeroCells
     rw[show zv.cells.size=fk z by rw[hzc];simp[hzl]]
    simp[Builtin.clear_,ht,V1.conc,Atom.conc,aG hu,hzr,hzc2,hw,undef]
   ·simp at h
  ·simp at h
 ·simp at h
theorem Gy (s:ByteArray):an φ [.arr .u8 (aZ s)]=an φ (nT s):=by
 rw[dD,nK]
 simp[aZ,List.map_map]
theorem Ka {k:Blk} {kk:IntKind} {l:List Nat} (h:pb k=some (kk,l)):k.ro=false:=by
 unfold pb at h
 split at h
 ·simp at h
 ·assumption
theorem Gq {k:Blk} {off m:Nat} {ob:List Prop} {kk:IntKind} {l:List Nat} (h:Ll k off m=some (ob,kk,l)) (ho:cL ob):
  k.live=true∧an φ [.arr kk l]=((an φ k.ps).drop off).take m∧(an φ [.arr kk l]).length=m:=by
 unfold Ll at h
 split at h
 ·rename_i kk' l' harr
  simp only[Option.some.injEq,Prod.mk.injEq] at h
  obtain ⟨rfl,rfl,rfl⟩:=h
  obtain ⟨h1,h2⟩:=iJ harr
  obtain ⟨rfl,rfl⟩:=ho.1
  have hlen:(an φ k.ps).length=l'.length:=by rw[h2,dD];simp
  refine ⟨h1,?_,by rw[dD];simp⟩
  rw[List.drop_zero,List.take_of_length_le (by omega),h2]
 ·split at h
  ·rename_i ps hl hc
   split at h
   ·rename_i l' hb
    simp only[Option.some.injEq,Prod.mk.injEq] at h
    obtain ⟨rfl,rfl,rfl⟩:=h
    obtain ⟨h1,h2,h3⟩:=iQ (φ:=φ) hc
    have e:an φ [.arr .u8 l']=an φ ps:=by rw[dD,kP ps hb]
    exact ⟨hl,by rw[e,h1],by rw[e,h3]⟩
   ·simp at h
  ·simp at h
theorem Es {t ty:TypeId} {x y:V1} {ob:List Prop} {v:AV} {mem':List Blk} (h:Hd P mem t x y=some (ob,v,mem')) (ho:cL ob) (hm:MRel w0 φ mem w):
  dn w0 φ mem ((do pure (.value (←Builtin.append_ #[t,t] ty #[x.conc φ,y.conc φ])):Sem Next).run P w) v mem':=by
 unfold Hd at h
 split at h
 ·rename_i e b1 n hu
  split at h
  ·rename_i i z kk b off m hi hz hkk hown
   split at h
   ·rename_i k1 k hk1 hk
    split at h
    ·rename_i kk1 l1 ob2 kk2 l2 harr hns
     split at h
     ·rename_i hc
      simp only[Bool.and_eq_true,Nat.beq_eq] at hc
      obtain ⟨⟨⟨c1,c2⟩,c3,c4⟩,c5,c6⟩:=hc
      simp only[Option.some.injEq,Prod.mk.injEq] at h
      obtain ⟨rfl,rfl,rfl⟩:=h
      obtain ⟨⟨o1,o2,o3,o4⟩,ho2⟩:=ho
      have e1:=rH c1
      have e2:=rH c2
      subst e1 e2
      obtain ⟨h1,h2⟩:=iJ harr
      obtain ⟨n1,n2,n3⟩:=Gq (φ:=φ) hns ho2
      have hps1:an φ k1.ps=an φ [.arr kk l1]:=by rw[h2]
      refine uV (news:=[.arr kk l2]) hu hi hz hk1 h1 (Ka harr) c3 c4 ?_ hown hk n1 ?_ ?_ ?_ c5 (by omega) o3 o4 o2 rfl ?_ hm
      ·rw[h2,c6,o1];simp[fk,Piece.size]
      ·rw[c6,Nat.mul_one];exact n2
      ·rw[c6,Nat.mul_one];exact n3
      ·rw[dD];simp;exact fun _ _=>rfl
      ·rw[hps1,dD,dD,dD,List.map_append]
     ·simp at h
    ·simp at h
   ·simp at h
  ·simp at h
 ·simp at h
theorem Ew {ρ:Operand→Option AV} {a:Operand→Value} {o:Oper} {ob:List Prop} {v:AV} {mem':List Blk} (h:Hc P mem ρ o.op=some (ob,v,mem')) (ho:cL ob) (hm:MRel w0 φ mem w) (ha:∀x u,gv (ρ x)=some u→a x=u.conc φ):
  dn w0 φ mem ((execOp a o).run P w) v mem':=by
 unfold Hc at h
 split at h
 ·rename_i src dst x hop
  split at h
  ·rename_i e s hs hd hx
   split at h
   ·rename_i he
    simp only[Option.some.injEq,Prod.mk.injEq] at h
    obtain ⟨rfl,rfl,rfl⟩:=h
    have hrun:=run_bytes_of_string (P:=P) w src dst e s hs hd he
    have hge:=grownCap_ge w s.size 0 e
    have hle:=grownCap_le_maxLen w s.size 0 e (by have:=ho.1;simp only[maxLen];omega)
    generalize grownCap w s.size 0 e=cap at hrun hge hle
    have hcs:bytesRow s cap=(an φ [.arr .u8 (aZ s)]++List.replicate (cap-s.size) (Value.int .u8 0)).toArray:=by
     apply Array.ext'
     rw[Gy]
     simp[bytesRow,nK]
    obtain ⟨φ',hag,hs',hm'⟩:=hm.join (w':=w.drew.alloc (.cells (bytesRow s cap) e ((bytesRow s cap).size,(bytesRow s cap).size+1)))
     ((hm.below.drew).alloc hm.below.size _) w.heap.size cap hm.below.size (fun i b hb hl hr=>by have:=hm.lt hb hl;omega)
     (fun k hk hlt=>by simp only[World.alloc,World.drew];rw[Array.getElem?_push,if_neg (by omega)])
     ⟨[.arr .u8 (aZ s)],e,true,false,1⟩ rfl rfl rfl
     ⟨List.replicate (cap-s.size) (Value.int .u8 0),(bytesRow s cap).size,(bytesRow s cap).size+1,by
      simp only[World.alloc,World.drew]
      rw[Array.getElem?_push_size,hcs],fun j hj=>by rw[hcs];simp at hj ⊢;omega,fun _=>by
      have hsz:(bytesRow s cap).size=cap:=by
       rw[hcs]
       have hn:(an φ [.arr .u8 (aZ s)]).length=s.size:=by rw[dD,List.length_map];unfold aZ;rw[List.length_map,Array.length_toList];rfl
       simp only[List.size_toArray,List.length_append,List.length_replicate,hn]
       omega
      refine ⟨.inr (by show cap*1≤_;rw[hsz];omega),?_,hle⟩
      have:(an φ [.arr .u8 (aZ s)]++List.replicate (cap-s.size) (Value.int .u8 0)).length=(bytesRow s cap).size:=by rw[hcs];simp
      show (an φ [.arr .u8 (aZ s)]++List.replicate (cap-s.size) (Value.int .u8 0)).length=cap*1
      rw[this,hsz,Nat.mul_one]⟩
    refine ⟨φ',_,.inl ?_,hag,by simp,hm',by simp[AV.wf,V1.wf,Nat.blt]⟩
    have hax:=ha _ _ hx
    simp[execOp,hop,hax,V1.conc,Atom.conc,hrun,AV.conc,hs']
   ·simp at h
  ·simp at h
 ·rename_i t l c hop
  split at h
  ·rename_i e l c hu hl hc
   split at h
   ·rename_i i hi hz
    split at h
    ·rename_i hsz
     simp only[Bool.and_eq_true,Nat.beq_eq] at hsz
     obtain ⟨hs,hb⟩:=hsz
     simp only[Option.some.injEq,Prod.mk.injEq] at h
     obtain ⟨rfl,rfl,rfl⟩:=h
     obtain ⟨⟨h1,h2,h3⟩,_⟩:=ho
     subst h2
     have hcs:an φ (mP l.toNat [.a (.u .u8 0)])=an φ [.arr .u8 (List.replicate l.toNat 0)]:=by
      rw[dD,kM]
      generalize l.toNat=n
      induction n with
      |zero=>rfl
      |succ n ih=>rw[List.replicate_succ,List.flatten_cons,ih];rfl
     have hrun:=qb (P:=P) (φ:=φ) hu hi hz (by rw[hs];rfl) (by omega) h1 (Int.le_refl l) (by rw[hb];omega) h3 w
     rw[hcs] at hrun
     have hn:CX mem e [.arr .u8 (List.replicate l.toNat 0)] l.toNat l.toNat=some ([],.val (.one (.sl mem.length 0 l.toNat l.toNat)),mem++[⟨[.arr .u8 (List.replicate l.toNat 0)],e,true,false,0⟩]):=rfl
     have hex:execOp a o=(do pure (.value (←Instr.makeSlice t (.int .i64 l) (.int .i64 l))):Sem Next):=by
      simp only[execOp,hop,ha _ _ hl,ha _ _ hc,V1.conc,Atom.conc]
     rw[hex]
     exact po hn hm hrun
    ·simp at h
   ·simp at h
  ·simp at h
 ·rename_i cl hop
  split at h
  ·rename_i x y t t' hcal hargs ht1 ht2 ht3
   split at h
   ·rename_i hte
    have hte:=Nat.eq_of_beq_eq_true hte
    subst hte
    split at h
    ·rename_i u v' hx hy
     have hq:=Es (ty:=o.type) h ho hm
     have hat:cl.argTypes= #[t,t]:=by
      apply Array.ext_getElem?
      intro i
      match i with
      |0=>rw[ht1];rfl
      |1=>rw[ht2];rfl
      |i+2=>
       have:cl.argTypes.size≤2:=Array.getElem?_eq_none_iff.1 ht3
       rw[Array.getElem?_eq_none (by omega),Array.getElem?_eq_none (by simp)]
     have h0:=CI (φ:=φ) ha hx hy hargs
     simpa only[execOp,hop,resolve,hcal,invoke,builtin,Sem.run_bind,Sem.run_pure,Result.andThen_ok,h0,hat] using hq
    ·simp at h
   ·simp at h
  ·simp at h
 ·simp at h
theorem yt {orc:FuncId→List V1→Option V1} {ρ:Operand→Option AV} {a:Operand→Value} {o:Oper} {ob:List Prop} {v:V1} {b:Nat} {nb:Option Blk} (h:vw P orc mem ρ o.op=some (ob,v,b,nb)) (ho:cL ob)
  (hm:MRel w0 φ mem w) (ha:∀x u,gv (ρ x)=some u→a x=u.conc φ):
  ∃w',((execOp a o).run P w= .ok (.value (v.conc φ)) w'∨((execOp a o).run P w= .ok .skip w'∧AV.val v=Ry))∧MRel w0 φ (apB mem b nb) w'∧v.wf 0=true:=by
 have hld:∀{t x b} {v:V1} {ob:List Prop},o.op= .load t x→(∃k off,gv (ρ x)=some (.one (.ptr b off))∧mem[b]? =some k∧k.live=true∧dg P t k.ps off v∧v.wf 0=true)→
   ∃w',((execOp a o).run P w= .ok (.value (v.conc φ)) w'∨((execOp a o).run P w= .ok .skip w'∧AV.val v=Ry))∧MRel w0 φ mem w'∧v.wf 0=true:=by
  rintro t x b v ob hop ⟨k,off,hx,hk,hlv,hla,hwf⟩
  exact ⟨w,.inl (by simp[execOp,hop,ha _ _ hx,Instr.loadAt,Instr.sureAddr,V1.conc,Atom.conc,Ei hm hk hlv hla]),hm,hwf⟩
 unfold vw at h
 split at h
 ·rename_i t x hop
  split at h
  ·rename_i ob1 v1 b1 hl
   simp only[Option.some.injEq,Prod.mk.injEq] at h
   obtain ⟨rfl,rfl,rfl,rfl⟩:=h
   exact hld (ob:=ob1) hop (Gv hl ho)
  ·split at h
   ·rename_i ob1 v1 b1 hl
    simp only[Option.some.injEq,Prod.mk.injEq] at h
    obtain ⟨rfl,rfl,rfl,rfl⟩:=h
    exact hld (ob:=ob1) hop (Fc hl ho)
   ·simp at h
 ·rename_i t x y hop
  split at h
  ·rename_i ob1 b1 k1 il
   simp only[Option.some.injEq,Prod.mk.injEq] at h
   obtain ⟨rfl,rfl,rfl,rfl⟩:=h
   obtain ⟨off,n,kk,w',hx,hy,hsz,hrun,hm'⟩:=GK il ho hm
   refine ⟨w',.inr ⟨?_,rfl⟩,hm',rfl⟩
   simp[execOp,hop,ha _ _ hx,ha _ _ hy,Instr.storeAt,Instr.sureAddr,V1.conc,Atom.conc,storeVar,Value.cells,cQ hsz,hrun]
  ·simp at h
 ·rename_i src dst x hop
  split at h
  ·rename_i ob1 s b1 il
   simp only[Option.some.injEq,Prod.mk.injEq] at h
   obtain ⟨rfl,rfl,rfl,rfl⟩:=h
   obtain ⟨u,hu,hrun⟩:=Ga il ho hm
   refine ⟨w,.inl ?_,hm,rfl⟩
   simp only[execOp,hop,ha _ _ hu,Sem.run_bind,hrun,Result.andThen_ok]
   rfl
  ·simp at h
 ·rename_i cl hop
  split at h
  ·rename_i x y t hcl hargs ht
   split at h
   ·rename_i ob1 s b1 k1 hcp
    simp only[Option.some.injEq,Prod.mk.injEq] at h
    obtain ⟨rfl,rfl,rfl,rfl⟩:=h
    obtain ⟨u,u',w',hx,hy,hrun,hm'⟩:=JJ (ty:=o.type) ht hcp ho hm
    have h0:=CI (φ:=φ) ha hx hy hargs
    refine ⟨w',.inl ?_,hm',rfl⟩
    simp only[execOp,hop,resolve,hcl,invoke,builtin,Sem.run_bind,Sem.run_pure,Result.andThen_ok,h0,hrun]
    rfl
   ·simp at h
  ·simp at h
 ·simp at h
end
section
variable {P:Program} {w0 w:World} {φ:c7} {mem:List Blk}
def qA (φ:c7) (ρ:Operand→Option AV) (a:Operand→Value):Prop:=∀x u,ρ x=some u→a x=u.conc φ
theorem bF {ρ:Operand→Option AV} {a:Operand→Value} (h:qA φ ρ a) {x:Operand} {v:V1} (hv:gv (ρ x)=some v):a x=v.conc φ:=by
 unfold gv at hv
 split at hv
 ·rename_i u hu
  simp only[Option.some.injEq] at hv;subst hv
  exact h x _ hu
 ·simp at hv
theorem dA {ρ:Operand→Option AV} {a:Operand→Value} (h:qA φ ρ a):∀(xs:List Operand) {vs:List V1},gW ρ xs=some vs→xs.map a=vs.map (V1.conc φ)
 |[],vs,hv=>by simp only[gW,Option.some.injEq] at hv;subst hv;rfl
 |x::xs,vs,hv=>by
  simp only[gW] at hv
  split at hv
  ·rename_i v vs' hx hxs
   simp only[Option.some.injEq] at hv;subst hv
   simp[h x _ hx,AV.conc,dA h xs hxs]
  ·simp at hv
theorem jL {ρ:Operand→Option AV} {a:Operand→Value} (h:qA φ ρ a):∀(xs:List (Nat×Operand)) {vs:List (Nat×V1)},qd ρ xs=some vs→
  xs.map (fun p=>(p.1,a p.2))=vs.map fun p=>(p.1,p.2.conc φ)
 |[],vs,hv=>by simp only[qd,Option.some.injEq] at hv;subst hv;rfl
 |(i,x)::xs,vs,hv=>by
  simp only[qd] at hv
  split at hv
  ·rename_i v vs' hx hxs
   simp only[Option.some.injEq] at hv;subst hv
   simp[h x _ hx,AV.conc,jL h xs hxs]
  ·simp at hv
theorem uZ {ρ:Operand→Option AV} {a:Operand→Value} (h:qA φ ρ a) (x:Option Operand) {vs:List V1} (hv:gW ρ x.toList=some vs):x.map a=vs.head?.map (V1.conc φ):=by
 have:=dA h _ hv
 cases x with
 |none=>
  simp only[Option.toList_none,List.map_nil] at this
  have h0:vs=[]:=List.map_eq_nil_iff.1 this.symm
  subst h0;rfl
 |some x=>
  simp only[Option.toList_some,List.map_cons,List.map_nil] at this
  cases vs with
  |nil=>simp at this
  |cons v vs=>simp only[List.map_cons,List.cons.injEq] at this;simp[this.1]
set_option maxHeartbeats 1000000 in
theorem yn {s:Bool} {ρ:Operand→Option AV} {a:Operand→Value} {o:Oper} {ob:List Prop} {v:AV} {mem':List Blk} (h:ru P s ρ mem o.op=some (ob,v,mem'))
  (ho:cL ob) (hm:MRel w0 φ mem w) (ha:qA φ ρ a):dn w0 φ mem ((execOp a o).run P w) v mem':=by
 cases hop:o.op
 case move x=>
  rw[hop] at h
  simp only[ru] at h
  simp only[execOp,hop]
  split at h
  ·rename_i u hu
   refine ch h hm (fun _=> ?_) ho
   rw[ha x _ hu];rfl
  ·rename_i xs hu
   split at h
   ·rename_i hw
    simp only[Option.some.injEq,Prod.mk.injEq] at h
    obtain ⟨rfl,rfl,rfl⟩:=h
    exact ⟨φ,w,.inl (by rw[ha x _ hu];rfl),Agree.refl _ _,Nat.le_refl _,hm,hw⟩
   ·simp at h
  ·simp at h
  ·simp at h
 case assign x=>
  rw[hop] at h
  simp only[ru] at h
  simp only[execOp,hop]
  split at h
  ·rename_i u hu
   refine ch h hm (fun _=> ?_) ho
   rw[ha x _ hu];rfl
  ·rename_i xs hu
   split at h
   ·rename_i hw
    simp only[Option.some.injEq,Prod.mk.injEq] at h
    obtain ⟨rfl,rfl,rfl⟩:=h
    exact ⟨φ,w,.inl (by rw[ha x _ hu];rfl),Agree.refl _ _,Nat.le_refl _,hm,hw⟩
   ·simp at h
  ·simp at h
  ·simp at h
 case pick q x y=>
  rw[hop] at h
  simp only[ru] at h
  simp only[execOp,hop]
  split at h
  ·rename_i hq
   split at h
   ·rename_i u hu
    refine ch h hm (fun _=> ?_) ho
    simp[bF ha hq,bF ha hu,V1.conc,Atom.conc,asBool]
   ·simp at h
  ·rename_i hq
   split at h
   ·rename_i u hu
    refine ch h hm (fun _=> ?_) ho
    simp[bF ha hq,bF ha hu,V1.conc,Atom.conc,asBool]
   ·simp at h
  ·simp at h
 case alloc e=>
  rw[hop] at h
  simp only[ru] at h
  simp only[execOp,hop]
  split at h
  ·rename_i ps hz
   obtain ⟨zv,hz1,hz2⟩:=gm (φ:=φ) hz w
   refine x5 h hm ?_
   simp[Instr.alloc,hz1,newVar,newRow,hz2]
  ·simp at h
 case box e x=>
  rw[hop] at h
  simp only[ru] at h
  simp only[execOp,hop]
  split at h
  ·rename_i u hu
   split at h
   ·rename_i ps hps
    refine x5 h hm ?_
    have:=je (φ:=φ) hps
    rw[bF ha hu]
    simp[Instr.box,newVar,newRow,this]
   ·simp at h
  ·simp at h
 case build t parts=>
  rw[hop] at h
  simp only[ru] at h
  simp only[execOp,hop]
  split at h
  ·rename_i vs hvs
   have hp:=jL ha _ hvs
   generalize hq:Array.map _ parts=q
   have hql:q.toList=vs.map fun p=>(p.1,p.2.conc φ):=by rw[←hq];simpa using hp
   exact CO hql h hm ho
  ·simp at h
 case load t x=>
  rw[hop] at h
  simp only[ru] at h
  simp only[execOp,hop]
  split at h
  ·rename_i u hu
   rw[bF ha hu]
   exact Gh h hm ho
  ·simp at h
 case store t x y=>
  rw[hop] at h
  simp only[ru] at h
  simp only[execOp,hop]
  split at h
  ·rename_i u u' hu hu'
   rw[bF ha hu,bF ha hu']
   exact tu h hm
  ·simp at h
 case nilCheck x=>
  rw[hop] at h
  simp only[ru] at h
  simp only[execOp,hop]
  split at h
  ·rename_i b off hu
   refine ch h hm (fun _=> ?_) ho
   rw[bF ha hu];rfl
  ·rename_i ad hu
   refine lJ h hm ?_ rfl
   rw[bF ha hu];rfl
  ·simp at h
 case binOp op t x y ty=>
  rw[hop] at h
  simp only[ru] at h
  simp only[execOp,hop]
  split at h
  ·rename_i u u' hu hu'
   split at h
   ·rename_i ob' r hr
    refine ch h hm (fun ho=> ?_) ho
    rw[gk h] at ho
    rw[bF ha hu,bF ha hu',Sem.run_bind,OH hr ho x y w];rfl
   ·simp at h
  ·simp at h
 case unOp op t x=>
  rw[hop] at h
  simp only[ru] at h
  simp only[execOp,hop]
  split at h
  ·rename_i u hu
   split at h
   ·rename_i r hr
    refine ch h hm (fun _=> ?_) ho
    rw[bF ha hu,Sem.run_bind,V1.conc,LV hr w];rfl
   ·simp at h
  ·simp at h
 case convert src dst x=>
  rw[hop] at h
  simp only[ru] at h
  simp only[execOp,hop]
  split at h
  ·rename_i u hu
   split at h
   ·rw[bF ha hu]
    exact CP h hm
   ·rw[bF ha hu]
    exact xX h hm
   ·split at h
    ·rename_i r hr
     refine ch h hm (fun _=> ?_) ho
     rw[bF ha hu,Sem.run_bind,V1.conc,Kg hr w];rfl
    ·simp at h
  ·simp at h
 case buildSlice t len parts=>
  rw[hop] at h
  simp only[ru] at h
  simp only[execOp,hop]
  split at h
  ·rename_i vs hvs
   have hp:=jL ha _ hvs
   generalize hq:Array.map _ parts=q
   have hql:q.toList=vs.map fun p=>(p.1,p.2.conc φ):=by rw[←hq];simpa using hp
   exact xI hql h hm
  ·simp at h
 case makeSlice t l c=>
  rw[hop] at h
  simp only[ru] at h
  simp only[execOp,hop]
  split at h
  ·rename_i u u' hu hu'
   rw[bF ha hu,bF ha hu']
   exact AS h hm
  ·simp at h
 case fieldAddr t x f=>
  rw[hop] at h
  simp only[ru] at h
  simp only[execOp,hop]
  split at h
  ·rename_i u hu
   rw[bF ha hu]
   exact tU h hm ho
  ·simp at h
 case field t x f=>
  rw[hop] at h
  simp only[ru] at h
  simp only[execOp,hop]
  split at h
  ·rename_i u hu
   rw[bF ha hu]
   exact Ck h hm ho
  ·simp at h
 case indexAddr t x i=>
  rw[hop] at h
  simp only[ru] at h
  simp only[execOp,hop]
  split at h
  ·rename_i u u' hu hu'
   rw[bF ha hu,bF ha hu']
   exact tT h hm ho
  ·simp at h
 case index t x i=>
  rw[hop] at h
  simp only[ru] at h
  simp only[execOp,hop]
  split at h
  ·rename_i u u' hu hu'
   rw[bF ha hu,bF ha hu']
   split at h
   ·exact vF h hm ho
   ·exact CL h hm ho
  ·simp at h
 case extract x i=>
  rw[hop] at h
  simp only[ru] at h
  simp only[execOp,hop]
  split at h
  ·rename_i xs hu
   split at h
   ·rename_i v' hv'
    refine ch h hm (fun _=> ?_) ho
    rw[ha x _ hu]
    simp[Instr.extract,AV.conc,hv']
   ·simp at h
  ·simp at h
 case slice t x lo hi mx=>
  rw[hop] at h
  cases mx with
  |some y=>simp[ru] at h
  |none=>
   simp only[ru] at h
   simp only[execOp,hop]
   split at h
   ·rename_i u l hh hu hl hhh
    rw[bF ha hu,uZ ha _ hl,uZ ha _ hhh]
    split at h
    ·exact wC h hm ho
    ·exact xT h hm ho
   ·simp at h
 case call cl=>
  rw[hop] at h
  simp only[ru] at h
  simp only[execOp,hop]
  split at h
  ·rename_i hcl
   split at h
   ·rename_i x xs t hx ht
    split at h
    ·rename_i n hn
     refine lJ h hm ?_ rfl
     have hv:=dA ha _ hx
     have h0:(cl.args.map a)[0]? =some (x.conc φ):=by
      rw[←Array.getElem?_toList,Array.toList_map,hv];rfl
     simp only[resolve,hcl,invoke,builtin,Sem.run_bind,Sem.run_pure,Result.andThen_ok,OQ ht hn _ h0]
     rfl
    ·simp at h
   ·simp at h
  ·rename_i hcl
   split at h
   ·rename_i x y t hx ht
    have hv:=dA ha _ hx
    have h0:cl.args.map a= #[x.conc φ,y.conc φ]:=by
     apply Array.ext'
     rw[Array.toList_map,hv];rfl
    have:=wA (P:=P) ht (ty:=o.type) h hm
    simpa only[resolve,hcl,invoke,builtin,Sem.run_bind,Sem.run_pure,Result.andThen_ok,h0] using this
   ·simp at h
  ·rename_i hcl
   split at h
   ·rename_i x y t t' hx ht ht' ht2
    split at h
    ·rename_i hbe
     have htt:t=t':=Nat.eq_of_beq_eq_true hbe
     subst htt
     have hv:=dA ha _ hx
     have h0:cl.args.map a= #[x.conc φ,y.conc φ]:=by
      apply Array.ext'
      rw[Array.toList_map,hv];rfl
     have hts:cl.argTypes= #[t,t]:=by
      apply Array.ext_getElem?
      intro j
      match j with
      |0=>simpa using ht
      |1=>simpa using ht'
      |j+2=>
       have hsz:cl.argTypes.size≤2:=by
        rcases Nat.lt_or_ge 2 cl.argTypes.size with hlt|hge
        ·rw[Array.getElem?_eq_getElem hlt] at ht2;simp at ht2
        ·exact hge
       rw[Array.getElem?_eq_none (by omega),Array.getElem?_eq_none (by simp)]
     have:dn w0 φ mem ((do pure (.value (←Builtin.append_ #[t,t] o.type #[x.conc φ,y.conc φ])):Sem Next).run P w) v mem':=by
      split at h
      ·exact AK (P:=P) (ty:=o.type) h ho hm
      ·exact jA (P:=P) (ty:=o.type) h hm
     simpa only[resolve,hcl,invoke,builtin,Sem.run_bind,Sem.run_pure,Result.andThen_ok,h0,hts] using this
    ·simp at h
   ·simp at h
  ·rename_i hcl
   split at h
   ·rename_i vs hx
    split at h
    ·rename_i r hr
     have hmp:=Kl (P:=P) (φ:=φ) (ts:=cl.argTypes) (ty:=o.type) hr w
     have hv:=dA ha _ hx
     have h0:cl.args.map a=(vs.map (V1.conc φ)).toArray:=by
      apply Array.ext'
      rw[Array.toList_map,hv]
     refine lJ h hm ?_ (UU hr _)
     simp only[resolve,hcl,invoke,builtin,Sem.run_bind,Sem.run_pure,Result.andThen_ok,h0,hmp]
    ·simp at h
   ·simp at h
  ·rename_i hcl
   split at h
   ·rename_i vs hx
    split at h
    ·rename_i r hr
     have hmp:=JM (P:=P) (φ:=φ) (ts:=cl.argTypes) (ty:=o.type) hr w
     have hv:=dA ha _ hx
     have h0:cl.args.map a=(vs.map (V1.conc φ)).toArray:=by
      apply Array.ext'
      rw[Array.toList_map,hv]
     refine lJ h hm ?_ (Qh hr _)
     simp only[resolve,hcl,invoke,builtin,Sem.run_bind,Sem.run_pure,Result.andThen_ok,h0,hmp]
    ·simp at h
   ·simp at h
  ·rename_i hcl
   split at h
   ·rename_i x t hx ht
    have hv:=dA ha _ hx
    have h0:cl.args.map a= #[x.conc φ]:=by
     apply Array.ext'
     rw[Array.toList_map,hv];rfl
    have:=EK (P:=P) ht (ty:=o.type) h hm
    simpa only[resolve,hcl,invoke,builtin,Sem.run_bind,Sem.run_pure,Result.andThen_ok,h0] using this
   ·simp at h
  ·simp at h
 all_goals (rw[hop] at h;simp[ru] at h)
end
end Go.Ev
