/- Of the proof of TopFull: an evaluator of the code with values known in part, and its soundness. -/
import Derived.Calls
import Derived.Laws.Externs
import Derived.Orders
import Derived.Below
import Derived.Laws.Cells
import Derived.Laws.World
import Derived.KernelRfl
import Derived.WalkKit
namespace Go.Ev
open Go
abbrev Loc:=Nat→Nat×Nat×Nat
inductive Atom where
 |v (x:Value)
 |u (k:IntKind) (n:Nat)
 |i (z:Int)
 |ptr (b off:Nat)
 |sl (b off len cap:Nat)
 |sx (b len:Nat)
 |clo (f:FuncId) (fst cap:List (Option (Nat×Nat)))
 deriving Inhabited
inductive Piece where
 |a (x:Atom)
 |num (k n:Nat)
 |arr (k:IntKind) (l:List Nat)
 deriving Inhabited
inductive V1 where
 |one (x:Atom)
 |agg (ps:List Piece)
 deriving Inhabited
inductive AV where
 |val (x:V1)
 |tup (xs:List V1)
 |junk
 deriving Inhabited
structure Blk where
 ps:List Piece
 elem:TypeId
 live:Bool
 ro:Bool
 esz:Nat
 deriving Inhabited
def Blk.fil (k:Blk):Bool:=k.live||Nat.blt 0 k.esz
def capC (φ:Loc):List (Option (Nat×Nat))→List Value
 |[]=>[]
 |none::xs=> .pointer none::capC φ xs
 |some (b,off)::xs=> .pointer (some ⟨(φ b).1,(φ b).2.1+off,none⟩)::capC φ xs
def capB (f:Nat→Bool):List (Option (Nat×Nat))→Bool
 |[]=>true
 |none::xs=>capB f xs
 |some (b,_)::xs=>f b&&capB f xs
def capV:List (Option (Nat×Nat))→List V1
 |[]=>[]
 |none::xs=> .one (.v (.pointer none))::capV xs
 |some (b,off)::xs=> .one (.ptr b off)::capV xs
def Atom.conc (φ:Loc):Atom→Value
 | .v x=>x
 | .u k n=> .int k (n:Int)
 | .i z=> .int .i64 z
 | .ptr b off=> .pointer (some ⟨(φ b).1,(φ b).2.1+off,none⟩)
 | .sl b off len cap=> .slice (some ⟨(φ b).1,(φ b).2.1+off,none⟩) len cap
 | .sx b len=> .slice (some ⟨(φ b).1,(φ b).2.1+0,none⟩) len (φ b).2.2
 | .clo f x y=> .func (.func f) (capC φ x).toArray (capC φ y).toArray
def limbs:Nat→Nat→List Value
 |0,_=>[]
 |k+1,n=> .int .u32 ((n%4294967296:Nat):Int)::limbs k (n/4294967296)
def Piece.conc (φ:Loc):Piece→List Value
 | .a x=>[x.conc φ]
 | .num k n=>limbs k n
 | .arr k l=>l.map fun n=> .int k ((n:Nat):Int)
def concs (φ:Loc):List Piece→List Value
 |[]=>[]
 |p::ps=>p.conc φ++concs φ ps
def V1.conc (φ:Loc):V1→Value
 | .one x=>x.conc φ
 | .agg ps=> .agg (concs φ ps).toArray
def AV.conc (φ:Loc):AV→Value
 | .val x=>x.conc φ
 | .tup xs=> .tuple (xs.map (V1.conc φ)).toArray
 | .junk=>undef
def ofVal:Value→Atom
 | .int .i64 z=> .i z
 | .int .u8 (.ofNat n)=> .u .u8 n
 | .int .u16 (.ofNat n)=> .u .u16 n
 | .int .u32 (.ofNat n)=> .u .u32 n
 | .int .u64 (.ofNat n)=> .u .u64 n
 |x=> .v x
def ofVal1:Value→V1
 | .agg cs=> .agg (cs.toList.map fun c=> .a (ofVal c))
 |x=> .one (ofVal x)
def Atom.val? :Atom→Option Value
 | .v x=>some x
 | .u k n=>some (.int k n)
 | .i z=>some (.int .i64 z)
 |_=>none
def explode:Nat→Nat→List Piece
 |0,_=>[]
 |k+1,n=> .a (.u .u32 (n%4294967296))::explode k (n/4294967296)
def Piece.size:Piece→Nat
 | .a _=>1
 | .num k _=>k
 | .arr _ l=>l.length
def dropP:List Piece→Nat→Option (List Piece)
 |ps,0=>some ps
 |[],_+1=>none
 | .a _::ps,n+1=>dropP ps n
 | .num k x::ps,n+1=>
  match Nat.ble k (n+1) with
  |true=>dropP ps (n+1-k)
  |false=>some ((explode k x).drop (n+1)++ps)
 | .arr _ _::_,_+1=>none
def takeP:List Piece→Nat→Option (List Piece)
 |_,0=>some []
 |[],_+1=>none
 | .a x::ps,n+1=>match takeP ps n with
  |some r=>some (.a x::r)
  |none=>none
 | .num k x::ps,n+1=>
  match Nat.ble k (n+1) with
  |true=>match takeP ps (n+1-k) with
   |some r=>some (.num k x::r)
   |none=>none
  |false=>some ((explode k x).take (n+1))
 | .arr _ _::_,_+1=>none
def cutP (ps:List Piece) (off n:Nat):Option (List Piece):=
 match dropP ps off with
 |some r=>takeP r n
 |none=>none
def putP (ps:List Piece) (off n:Nat) (new:List Piece):Option (List Piece):=
 match takeP ps off,dropP ps (off+n) with
 |some l,some r=>some (l++(new++r))
 |_,_=>none
def sizes:List Piece→Nat
 |[]=>0
 |p::ps=>p.size+sizes ps
def V1.pieces:V1→Option (List Piece)
 | .one (.v (.agg _))=>none
 | .one (.v (.tuple _))=>none
 | .one x=>some [.a x]
 | .agg ps=>some ps
def headA:List Piece→Option Atom
 | .a x::_=>some x
 | .num (_+1) x::_=>some (.u .u32 (x%4294967296))
 |_=>none
def isAggA (P:Program) (t:TypeId):Option Bool:=
 match P.underlying t with
 |none=>none
 |some (.struct _)=>some true
 |some (.array _ _)=>some true
 |some _=>some false
def sizeA (P:Program) (t:TypeId):Option Nat:=
 match P.info? t with
 |some i=>some i.size
 |none=>none
def partA (P:Program) (t:TypeId) (ps:List Piece) (off:Nat):Option V1:=
 match isAggA P t with
 |some true=>match sizeA P t with
  |some n=>match cutP ps off n with
   |some r=>some (.agg r)
   |none=>none
  |none=>none
 |some false=>match dropP ps off with
  |some r=>match headA r with
   |some x=>some (.one x)
   |none=>none
  |none=>none
 |none=>none
def setK {α β:Type}:List α→Nat→α→(List α→β)→β
 |[],_,_,k=>k []
 |_::xs,0,v,k=>k (v::xs)
 |x::xs,n+1,v,k=>setK xs n v fun r=>k (x::r)
def allPtr (f:Nat→Bool):List Piece→Bool
 |[]=>true
 | .a (.ptr b _)::ps=>f b&&allPtr f ps
 | .a (.sl b _ _ _)::ps=>f b&&allPtr f ps
 | .a (.sx b _)::ps=>f b&&allPtr f ps
 | .a (.clo _ x y)::ps=>(capB f x&&capB f y)&&allPtr f ps
 |_::ps=>allPtr f ps
def V1.wf (n:Nat):V1→Bool
 | .one (.ptr b _)=>Nat.blt b n
 | .one (.sl b _ _ _)=>Nat.blt b n
 | .one (.sx b _)=>Nat.blt b n
 | .one (.clo _ x y)=>capB (fun b=>Nat.blt b n) x&&capB (fun b=>Nat.blt b n) y
 | .one _=>true
 | .agg ps=>allPtr (fun b=>Nat.blt b n) ps
def AV.wf (n:Nat):AV→Bool
 | .val x=>x.wf n
 | .tup xs=>xs.all (V1.wf n)
 | .junk=>true
def memWf (n:Nat):List Blk→Bool
 |[]=>true
 |b::bs=>allPtr (fun b=>Nat.blt b n) b.ps&&memWf n bs
def tmsWf (n:Nat):List AV→Bool
 |[]=>true
 |x::xs=>x.wf n&&tmsWf n xs
abbrev R (α:Type):=Option (List Prop×List Bool×α)
def unJ:Option AV→Option AV
 |some .junk=>none
 |x=>x
theorem unJ_some {x:Option AV} {v:AV} (h:unJ x=some v):x=some v∧v≠.junk:=by
 unfold unJ at h
 split at h
 ·simp at h
 ·rename_i hne
  refine ⟨h,?_⟩
  rintro rfl
  exact hne h
def rho (tm:List AV):Operand→Option AV
 | .tmp t=>unJ (tm[t]?)
 | .const v=>some (.val (ofVal1 v))
 | .global _=>none
 | .func f=>some (.val (.one (.v (.func (.func f) #[] #[]))))
def must (s:Bool) (p:Prop) [Decidable p]:Option (List Prop):=
 match s with
 |true=>some [p]
 |false=>match decide p with
  |true=>some []
  |false=>none
def bitsOf (k:IntKind):Nat:=2^k.bits
def pureRun {α:Type} (P:Program):Sem α→Option α
 | .pure a=>some a
 | .program k=>pureRun P (k P)
 |_=>none
def inI (z:Int):Prop:= -9223372036854775808≤z∧z<9223372036854775808
instance (z:Int):Decidable (inI z):=inferInstanceAs (Decidable (_∧_))
def cmpN (op:BinOp) (x y:Nat):Option Bool:=
 match op with
 | .eql=>some (decide (x=y))
 | .neq=>some (!decide (x=y))
 | .lss=>some (decide (x<y))
 | .leq=>some (decide (x≤y))
 | .gtr=>some (decide (y<x))
 | .geq=>some (decide (y≤x))
 |_=>none
def cmpZ (op:BinOp) (x y:Int):Option Bool:=
 match op with
 | .eql=>some (decide (x=y))
 | .neq=>some (!decide (x=y))
 | .lss=>some (decide (x<y))
 | .leq=>some (decide (x≤y))
 | .gtr=>some (decide (y<x))
 | .geq=>some (decide (y≤x))
 |_=>none
def unsigned:IntKind→Bool
 | .u8| .u16| .u32| .u64=>true
 |_=>false
def arithN (s:Bool) (op:BinOp) (k:IntKind) (x y:Nat):Option (List Prop×Atom):=
 match op with
 | .add=>some ([],.u k ((x+y)%bitsOf k))
 | .sub=>some ([],.u k ((x+(bitsOf k-y%bitsOf k))%bitsOf k))
 | .mul=>some ([],.u k (x*y%bitsOf k))
 | .and=>some ([],.u k ((x%bitsOf k)&&&(y%bitsOf k)))
 | .or=>some ([],.u k ((x%bitsOf k)|||(y%bitsOf k)))
 | .xor=>some ([],.u k ((x%bitsOf k)^^^(y%bitsOf k)))
 | .andNot=>some ([],.u k ((x%bitsOf k)&&&(bitsOf k-1-y%bitsOf k)))
 | .quo=>match must s (y≠0) with
  |some o=>some (o,.u k (x/y%bitsOf k))
  |none=>none
 | .rem=>match must s (y≠0) with
  |some o=>some (o,.u k (x%y))
  |none=>none
 |_=>match cmpN op x y with
  |some b=>some ([],.v (.bool b))
  |none=>none
def arithZ (s:Bool) (op:BinOp) (x y:Int):Option (List Prop×Atom):=
 match op with
 | .add=>match must s (inI (x+y)) with
  |some o=>some (o,.i (x+y))
  |none=>none
 | .sub=>match must s (inI (x-y)) with
  |some o=>some (o,.i (x-y))
  |none=>none
 | .mul=>match must s (inI (x*y)) with
  |some o=>some (o,.i (x*y))
  |none=>none
 | .quo=>match must s (y≠0∧inI (x.tdiv y)) with
  |some o=>some (o,.i (x.tdiv y))
  |none=>none
 | .rem=>match must s (y≠0) with
  |some o=>some (o,.i (x.tmod y))
  |none=>none
 | .and=>some ([],.i (IntKind.i64.wrap ((BitVec.ofInt 64 x&&&BitVec.ofInt 64 y).toNat:Nat)))
 |_=>match cmpZ op x y with
  |some b=>some ([],.v (.bool b))
  |none=>none
def shiftN (op:BinOp) (k:IntKind) (x n:Nat):Option Atom:=
 match op with
 | .shl=>some (.u k (x*2^(min n k.bits)%bitsOf k))
 | .shr=>some (.u k (x/2^(min n k.bits)))
 |_=>none
def shrZ (s:Bool) (op:BinOp) (x y:Int):Option (List Prop×Atom):=
 match op with
 | .shr=>match must s (0≤y) with
  |some o=>some (o,.i (x.fdiv (2^(min y.toNat 64))))
  |none=>none
 |_=>none
def isShift:BinOp→Bool
 | .shl| .shr=>true
 |_=>false
def eqP:List Piece→List Piece→Option Bool
 |[],[]=>some true
 | .num k x::ps,.num k' y::qs=>
  match Nat.beq k k',eqP ps qs with
  |true,some b=>some (decide (x%4294967296^k=y%4294967296^k)&&b)
  |_,_=>none
 | .a (.u .u32 x)::ps,.a (.u .u32 y)::qs=>match eqP ps qs with
  |some b=>some (decide (x=y)&&b)
  |none=>none
 | .a (.u .u64 x)::ps,.a (.u .u64 y)::qs=>match eqP ps qs with
  |some b=>some (decide (x=y)&&b)
  |none=>none
 | .a (.u .u8 x)::ps,.a (.u .u8 y)::qs=>match eqP ps qs with
  |some b=>some (decide (x=y)&&b)
  |none=>none
 | .a (.i x)::ps,.a (.i y)::qs=>match eqP ps qs with
  |some b=>some (decide (x=y)&&b)
  |none=>none
 | .a (.v (.bool x))::ps,.a (.v (.bool y))::qs=>match eqP ps qs with
  |some b=>some ((x==y)&&b)
  |none=>none
 | .a (.v (.string x))::ps,.a (.v (.string y))::qs=>match eqP ps qs with
  |some b=>some ((x==y)&&b)
  |none=>none
 |_,_=>none
def flatP:List Piece→List Piece
 |[]=>[]
 | .num k x::ps=>explode k x++flatP ps
 |p::ps=>p::flatP ps
def eqF (ps qs:List Piece):Option Bool:=
 match eqP ps qs with
 |some b=>some b
 |none=>eqP (flatP ps) (flatP qs)
def codeK:IntKind→Nat
 | .i8=>2| .i16=>3| .i32=>4| .i64=>5| .u8=>6| .u16=>7| .u32=>8| .u64=>9
def repK:Nat→List Nat→List Nat
 |0,_=>[]
 |n+1,ks=>ks++repK n ks
def kindsF (P:Program) (g:TypeId→Option (List Nat)):List Field→Nat→Option (List Nat)
 |[],_=>some []
 |f::fs,off=>match f.name != "_"&&Nat.beq f.offset off,g f.type,sizeA P f.type with
  |true,some ks,some n=>match Nat.beq ks.length n,kindsF P g fs (off+n) with
   |true,some r=>some (ks++r)
   |_,_=>none
  |_,_,_=>none
def kindsT (P:Program):Nat→TypeId→Option (List Nat)
 |0,_=>none
 |d+1,t=>match P.underlying t with
  |some (.int k)=>some [codeK k]
  |some .bool=>some [0]
  |some .string=>some [1]
  |some (.array len e)=>match kindsT P d e,sizeA P e with
   |some ks,some n=>match Nat.beq ks.length n with
    |true=>some (repK len ks)
    |false=>none
   |_,_=>none
  |some (.struct fs)=>match P.stoodInHeld t with
   |false=>kindsF P (kindsT P d) fs.toList 0
   |true=>none
  |_=>none
def kindsP:List Piece→Option (List Nat)
 |[]=>some []
 | .num k _::ps=>match kindsP ps with
  |some ks=>some (repK k [8]++ks)
  |none=>none
 | .a (.u k _)::ps=>match kindsP ps with
  |some ks=>some (codeK k::ks)
  |none=>none
 | .a (.i _)::ps=>match kindsP ps with
  |some ks=>some (5::ks)
  |none=>none
 | .a (.v (.bool _))::ps=>match kindsP ps with
  |some ks=>some (0::ks)
  |none=>none
 | .a (.v (.string _))::ps=>match kindsP ps with
  |some ks=>some (1::ks)
  |none=>none
 |_=>none
def sameL:List Nat→List Nat→Bool
 |[],[]=>true
 |x::xs,y::ys=>Nat.beq x y&&sameL xs ys
 |_,_=>false
def sameO:Option (List Nat)→Option (List Nat)→Bool
 |some x,some y=>sameL x y
 |_,_=>false
def eqOk (P:Program) (t:TypeId) (ps qs:List Piece):Bool:=
 (!P.eqGuardType P.depth t&&(match isAggA P t with|some true=>true|_=>false))&&(sameO (kindsT P 20 t) (kindsP ps)&&sameO (kindsT P 20 t) (kindsP qs))
def binA0 (P:Program) (s:Bool) (op:BinOp) (t:TypeId) (x y:V1):Option (List Prop×Atom):=
 match x,y with
 | .one (.u k a),.one (.u k' b)=>
  match isShift op with
  |true=>match unsigned k,shiftN op k a b with
   |true,some r=>some ([],r)
   |_,_=>none
  |false=>match decide (k=k')&&unsigned k with
   |true=>arithN s op k a b
   |false=>none
 | .one (.u k a),.one (.i b)=>
  match isShift op with
  |true=>match must s (0≤b) with
   |some o=>match unsigned k,shiftN op k a b.toNat with
    |true,some r=>some (o,r)
    |_,_=>none
   |none=>none
  |false=>none
 | .one (.i a),.one (.i b)=>
  match isShift op with
  |true=>shrZ s op a b
  |false=>arithZ s op a b
 | .one a,.one b=>
  match a.val?,b.val? with
  |some .nilIface,_=>none
  |some a,some b=>match pureRun P (do eqGuard op t (.tmp 0) (.tmp 0) a b;binOp op t a b) with
   |some r=>some ([],ofVal r)
   |none=>none
  |_,_=>none
 | .agg ps,.agg qs=>
  match eqOk P t ps qs,eqF ps qs with
  |true,some b=>match op with
   | .eql=>some ([],.v (.bool b))
   | .neq=>some ([],.v (.bool (!b)))
   |_=>none
  |_,_=>none
 |_,_=>none
def strAdd (s:Bool) (op:BinOp) (x y:V1):Option (ByteArray×ByteArray):=
 match s,op,x,y with
 |true,.add,.one (.v (.string a)),.one (.v (.string b))=>some (a,b)
 |_,_,_,_=>none
def nilCmp (P:Program) (op:BinOp) (t:TypeId) (x y:V1):Option Bool:=
 match op,y with
 | .eql,.one (.v (.pointer none))=>(match x,P.underlying t with| .one (.ptr _ _),some (.pointer _)=>some false|_,_=>none)
 | .neq,.one (.v (.pointer none))=>(match x,P.underlying t with| .one (.ptr _ _),some (.pointer _)=>some true|_,_=>none)
 | .eql,.one (.v (.slice none 0 0))=>(match x,P.underlying t with| .one (.sl _ _ _ _),some (.slice _)=>some false| .one (.sx _ _),some (.slice _)=>some false|_,_=>none)
 | .neq,.one (.v (.slice none 0 0))=>(match x,P.underlying t with| .one (.sl _ _ _ _),some (.slice _)=>some true| .one (.sx _ _),some (.slice _)=>some true|_,_=>none)
 |_,_=>none
def binA (P:Program) (s:Bool) (op:BinOp) (t:TypeId) (x y:V1):Option (List Prop×Atom):=
 match nilCmp P op t x y with
 |some b=>some ([],.v (.bool b))
 |none=>match strAdd s op x y with
 |some (a,b)=>some ([a.size+b.size≤9223372036854775807],.v (.string (a++b)))
 |none=>binA0 P s op t x y
def convA (P:Program) (src dst:TypeId) (x:Atom):Option Atom:=
 match P.underlying src,P.underlying dst with
 |some _,some (.int .i64)=>match x with
  | .u _ n=>some (.i (IntKind.i64.wrap n))
  | .i z=>some (.i (IntKind.i64.wrap z))
  |_=>none
 |some _,some (.int k)=>match unsigned k with
  |true=>match x with
   | .u _ n=>some (.u k (n%bitsOf k))
   | .i z=>some (.u k (z%(bitsOf k:Int)).toNat)
   |_=>none
  |false=>none
 |_,_=>match x.val? with
  |some v=>match pureRun P (convert src dst v) with
   |some r=>some (ofVal r)
   |none=>none
  |none=>none
def unA1 (op:UnOp) (x:Atom):Option Atom:=
 match op,x with
 | .not,.v (.bool b)=>some (.v (.bool (!b)))
 | .neg,.i z=>some (.i (IntKind.i64.wrap (0-z)))
 | .neg,.u k n=>match unsigned k with
  |true=>some (.u k ((bitsOf k-n%bitsOf k)%bitsOf k))
  |false=>none
 | .xor,.u k n=>match unsigned k with
  |true=>some (.u k (bitsOf k-1-n%bitsOf k))
  |false=>none
 |_,_=>none
def boundA (s:Bool) (d:Nat) (x:Option V1) (top:Nat):Option (List Prop×Nat):=
 match x with
 |none=>some ([],d)
 |some (.one (.i z))=>match must s (0≤z∧z≤(top:Int)) with
  |some o=>some (o,z.toNat)
  |none=>none
 |some _=>none
def fieldsA (P:Program) (t:TypeId):Option (Array Field):=
 match P.underlying t with
 |some (.struct fs)=>some fs
 |_=>none
def fillA (place:Nat→Option (Nat×Nat)) (cells:List Piece):List (Nat×V1)→Option (List Piece)
 |[]=>some cells
 |(i,v)::rest=>
  match place i,v.pieces with
  |some (off,size),some ps=>match Nat.beq (sizes ps) size with
   |true=>match putP cells off size ps with
    |some c=>fillA place c rest
    |none=>none
   |false=>none
  |_,_=>none
def zeroA (P:Program) (t:TypeId):Option (List Piece):=
 match P.info? t with
 |some i=>match i.zero with
  |some v=>match (ofVal1 v).pieces with
   |some ps=>some ps
   |none=>none
  |none=>none
 |none=>none
def valsA (ρ:Operand→Option AV):List Operand→Option (List V1)
 |[]=>some []
 |x::xs=>match ρ x,valsA ρ xs with
  |some (.val v),some vs=>some (v::vs)
  |_,_=>none
def partsA (ρ:Operand→Option AV):List (Nat×Operand)→Option (List (Nat×V1))
 |[]=>some []
 |(i,x)::xs=>match ρ x,partsA ρ xs with
  |some (.val v),some vs=>some ((i,v)::vs)
  |_,_=>none
abbrev OpR:=Option (List Prop×AV×List Blk)
def one (mem:List Blk) (x:Atom):OpR:=some ([],.val (.one x),mem)
def callOk (P:Program) (f:FuncId):Bool:=
 match P.funcs[f]? with
 |some fn=> !(fn.name== "runtime.NumGoroutine")&&fn.body.isSome
 |none=>false
def lenA (P:Program) (t:TypeId) (x:V1):Option Int:=
 match P.underlying t,x with
 |some .string,.one (.v (.string s))=>some (s.size:Int)
 |some (.array n _),_=>some (n:Int)
 |some (.slice _),.one (.sl _ _ n _)=>some (n:Int)
 |some (.slice _),.one (.sx _ n)=>some (n:Int)
 |some (.slice _),.one (.v (.slice _ n _))=>some (n:Int)
 |_,_=>none
def ltB (n:Nat):Nat→Bool:=fun b=>Nat.blt b n
def good (mem:List Blk) (ob:List Prop) (v:V1):OpR:=
 match v.wf mem.length with
 |true=>some (ob,.val v,mem)
 |false=>none
def cellsOk:List Piece→Bool
 |[]=>true
 | .a (.v x)::ps=>x.oneCell'&&cellsOk ps
 |_::ps=>cellsOk ps
def place (mem:List Blk) (b off n:Nat) (ps:List Piece) (k:Blk) (v:Atom):OpR:=
 match putP k.ps off n ps with
 |some qs=>match (allPtr (ltB mem.length) qs&&cellsOk ps)&& !k.ro with
  |true=>some ([],.val (.one v),mem.set b {k with ps:=qs})
  |false=>none
 |none=>none
def loadA (P:Program) (mem:List Blk) (t:TypeId):V1→OpR
 | .one (.ptr b off)=>match mem[b]? with
  |some k=>match k.live,partA P t k.ps off with
   |true,some v=>good mem [] v
   |_,_=>none
  |none=>none
 |_=>none
def storeA (P:Program) (mem:List Blk) (t:TypeId) (a v:V1):OpR:=
 match a with
 | .one (.ptr b off)=>match v.pieces,sizeA P t,mem[b]? with
  |some ps,some n,some k=>match k.live&&Nat.beq (sizes ps) n with
   |true=>place mem b off n ps k (.v undef)
   |false=>none
  |_,_,_=>none
 |_=>none
def fieldAddrA (P:Program) (mem:List Blk) (t:TypeId) (f:Nat):V1→OpR
 | .one (.ptr b off)=>match fieldsA P t with
  |some fs=>match fs[f]? with
   |some fl=>match sizeA P fl.type with
    |some n=>match Nat.beq n 0 with
     |false=>good mem [] (.one (.ptr b (off+fl.offset)))
     |true=>none
    |none=>none
   |none=>none
  |none=>none
 |_=>none
def fieldA (P:Program) (mem:List Blk) (t:TypeId) (f:Nat):V1→OpR
 | .agg ps=>match fieldsA P t with
  |some fs=>match fs[f]? with
   |some fl=>match partA P fl.type ps fl.offset with
    |some v=>good mem [] v
    |none=>none
   |none=>none
  |none=>none
 |_=>none
def indexAddrA (P:Program) (mem:List Blk) (s:Bool) (t:TypeId) (x i:V1):OpR:=
 match x,i,P.underlying t with
 | .one (.ptr b off),.one (.i z),some (.array len e)=>match must s (0≤z∧z<(len:Int)),sizeA P e with
  |some ob,some n=>good mem ob (.one (.ptr b (off+z.toNat*n)))
  |_,_=>none
 | .one (.sx b len),.one (.i z),some (.slice e)=>match must s (0≤z∧z<(len:Int)),sizeA P e with
  |some ob,some n=>good mem ob (.one (.ptr b (0+z.toNat*n)))
  |_,_=>none
 | .one (.sl b off len _),.one (.i z),some (.slice e)=>match must s (0≤z∧z<(len:Int)),sizeA P e with
  |some ob,some n=>good mem ob (.one (.ptr b (off+z.toNat*n)))
  |_,_=>none
 |_,_,_=>none
def indexA (P:Program) (mem:List Blk) (t:TypeId) (x i:V1):OpR:=
 match x,i,P.underlying t with
 | .agg ps,.one (.i z),some (.array len e)=>match decide (0≤z∧z<(len:Int)),sizeA P e with
  |true,some n=>match partA P e ps (z.toNat*n) with
   |some v=>good mem [] v
   |none=>none
  |_,_=>none
 |_,_,_=>none
def sliceArrA (P:Program) (mem:List Blk) (s:Bool) (t:TypeId) (x:V1) (lo hi:Option V1):OpR:=
 match x,P.underlying t with
 | .one (.ptr b off),some (.array n e)=>match boundA s n hi n,sizeA P e with
  |some (o1,hz),some sz=>match boundA s 0 lo hz with
   |some (o2,lz)=>match Nat.beq n lz with
    |false=>good mem (o1++o2) (.one (.sl b (off+lz*sz) (hz-lz) (n-lz)))
    |true=>none
   |none=>none
  |_,_=>none
 |_,_=>none
def copyA (P:Program) (mem:List Blk) (t:TypeId) (x y:V1):OpR:=
 match x,y,P.underlying t with
 | .one (.sl b off n _),.one (.sl b' off' n' _),some (.slice e)=>match sizeA P e,mem[b]?,mem[b']? with
  |some sz,some k,some k'=>match cutP k'.ps off' (min n' n*sz),k.live&&k'.live with
   |some ps,true=>place mem b off (min n' n*sz) ps k (.i (min n' n:Nat))
   |_,_=>none
  |_,_,_=>none
 |_,_,_=>none
def repPs:Nat→List Piece→List Piece
 |0,_=>[]
 |n+1,ps=>ps++repPs n ps
def clearA (P:Program) (mem:List Blk) (t:TypeId) (x:V1):OpR:=
 match P.underlying t,x with
 |some (.slice e),.one (.sl b off (n+1) _)=>match zeroA P e,mem[b]? with
  |some z,some k=>match k.live&&Nat.blt 0 (sizes z) with
   |true=>place mem b off ((n+1)*sizes z) (repPs (n+1) z) k (.v undef)
   |false=>none
  |_,_=>none
 |_,_=>none
def minA:List V1→Option Atom
 |[.one (.i a),.one (.i b)]=>some (.i (bif decide (b<a) then b else a))
 |_=>none
def maxA:List V1→Option Atom
 |[.one (.i a),.one (.i b)]=>some (.i (bif decide (a<b) then b else a))
 |_=>none
def buildA (P:Program) (mem:List Blk) (t:TypeId) (vs:List (Nat×V1)):OpR:=
 match zeroA P t with
 |some z=>match P.underlying t with
  |some (.array _ e)=>match sizeA P e with
   |some n=>match fillA (fun i=>some (i*n,n)) z vs with
    |some r=>good mem [] (.agg r)
    |none=>none
   |none=>none
  |some (.struct fs)=>match fs.toList.mapM (fun f=>(sizeA P f.type).map fun n=>(f.offset,n)) with
   |some pl=>match fillA (fun i=>pl[i]?) z vs with
    |some r=>good mem [] (.agg r)
    |none=>none
   |none=>none
  |_=>none
 |none=>none
def newA (mem:List Blk) (e:TypeId) (ps:List Piece):OpR:=
 match allPtr (ltB mem.length) ps with
 |true=>some ([],.val (.one (.ptr mem.length 0)),mem++[⟨ps,e,true,false,0⟩])
 |false=>none
def gv:Option AV→Option V1
 |some (.val v)=>some v
 |_=>none
def ownSl:V1→Option (Nat×Nat×Nat)
 | .one (.sl b off n _)=>some (b,off,n)
 | .one (.sx b n)=>some (b,0,n)
 |_=>none
def newSl (mem:List Blk) (e:TypeId) (ps:List Piece) (l c:Nat):OpR:=
 match allPtr (ltB mem.length) ps with
 |true=>some ([],.val (.one (.sl mem.length 0 l c)),mem++[⟨ps,e,true,false,0⟩])
 |false=>none
def buildSlP (P:Program) (t:TypeId) (len:Nat) (vs:List (Nat×V1)):Option (List Piece×TypeId):=
 match P.underlying t with
 |some (.slice e)=>match sizeA P e,zeroA P e with
  |some n,some z=>match Nat.beq (sizes z) n&&(Nat.ble (len*n) 16777216&&Nat.blt 0 n) with
   |true=>match fillA (fun i=>some (i*n,n)) (repPs len z) vs with
    |some ps=>some (ps,e)
    |none=>none
   |false=>none
  |_,_=>none
 |_=>none
def buildSlA (P:Program) (mem:List Blk) (t:TypeId) (len:Nat) (vs:List (Nat×V1)):OpR:=
 match buildSlP P t len vs with
 |some (ps,e)=>newSl mem e ps len len
 |none=>none
def makeSlA (P:Program) (mem:List Blk) (t:TypeId) (l c:V1):OpR:=
 match P.underlying t,l,c with
 |some (.slice e),.one (.i l),.one (.i c)=>match P.info? e,zeroA P e with
  |some i,some z=>match Nat.beq (sizes z) i.size&&Nat.blt 0 i.size&&(decide (0≤l∧l≤c∧(i.bytes:Int)*c≤140737488355328∧c≤140737488355328)) with
   |true=>newSl mem e (repPs c.toNat z) l.toNat c.toNat
   |false=>none
  |_,_=>none
 |_,_,_=>none
def bytesP:List Piece→Option (List Nat)
 |[]=>some []
 | .a (.u .u8 n)::ps=>match bytesP ps with
  |some l=>some (n::l)
  |none=>none
 |_=>none
def strOf (l:List Nat):ByteArray:=⟨(l.map UInt8.ofNat).toArray⟩
def toStrA (P:Program) (mem:List Blk) (src dst:TypeId) (x:V1):OpR:=
 match P.underlying src,P.underlying dst with
 |some (.slice e),some .string=>match P.underlying e,x with
  |some (.int .u8),.one (.v (.slice none _ _))=>one mem (.v (.string .empty))
  |some (.int .u8),x=>match ownSl x with
   |some (b,off,n)=>match mem[b]? with
    |some k=>match k.live,cutP k.ps off n with
     |true,some ps=>match bytesP ps with
      |some l=>one mem (.v (.string (strOf l)))
      |none=>none
     |_,_=>none
    |none=>none
   |none=>none
  |_,_=>none
 |_,_=>none
def bytePs (s:ByteArray):List Piece:=s.data.toList.map fun b=> .a (.u .u8 b.toNat)
def toBytesA (P:Program) (mem:List Blk) (src dst:TypeId) (x:V1):OpR:=
 match P.underlying src,P.underlying dst,x with
 |some .string,some (.slice e),.one (.v (.string s))=>match P.underlying e with
  |some (.int .u8)=>some ([],.val (.one (.sx mem.length s.size)),mem++[⟨bytePs s,e,true,false,0⟩])
  |_=>none
 |_,_,_=>none
def oldSl (mem:List Blk) (e size:Nat):V1→Option (Nat×List Piece×List Blk)
 | .one (.v (.slice none 0 0))=>some (0,[],mem)
 | .one (.sx b n)=>match mem[b]? with
  |some k=>match k.live&& !k.ro&&(Nat.beq k.esz size&&Nat.blt 0 size)&&(Nat.beq k.elem e&&Nat.beq (sizes k.ps) (n*size)) with
   |true=>some (n,k.ps,mem.set b {k with live:=false})
   |false=>none
  |none=>none
 |_=>none
def appendA (P:Program) (mem:List Blk) (t:TypeId) (s x:V1):OpR:=
 match P.underlying t with
 |some (.slice e)=>match P.info? e,zeroA P e with
  |some i,some z=>match oldSl mem e i.size s,ownSl x with
   |some (n,xs,mem1),some (b,off,m)=>match mem[b]? with
    |some k=>match k.live,cutP k.ps off (m*i.size) with
     |true,some news=>match allPtr (ltB mem.length) (xs++news)&&cellsOk news&&(Nat.beq (sizes z) i.size&&Nat.blt 0 i.size)&&decide ((n+m)*i.bytes≤140737488355328∧n+m≤140737488355328)&&Nat.blt 0 m with
      |true=>some ([],.val (.one (.sx mem.length (n+m))),mem1++[⟨xs++news,e,true,false,i.size⟩])
      |false=>none
     |_,_=>none
    |none=>none
   |_,_=>none
  |_,_=>none
 |_=>none
def appendG (P:Program) (mem:List Blk) (t:TypeId) (s x:V1):OpR:=
 match s with
 | .one (.sl b1 off1 n cap)=>match P.underlying t with
  |some (.slice e)=>match P.info? e,zeroA P e with
   |some i,some z=>match mem[b1]?,ownSl x with
    |some k1,some (b,off,m)=>match mem[b]? with
     |some k=>match k1.live&&k.live,cutP k1.ps off1 (n*i.size),cutP k.ps off (m*i.size) with
      |true,some xs,some news=>match (allPtr (ltB mem.length) (xs++news)&&(Nat.beq (sizes z) i.size&&Nat.blt 0 i.size))&&(decide ((n+m)*i.bytes≤140737488355328∧n+m≤140737488355328)&&Nat.blt cap (n+m)) with
       |true=>some ([],.val (.one (.sx mem.length (n+m))),mem++[⟨xs++news,e,true,false,i.size⟩])
       |false=>none
      |_,_,_=>none
     |none=>none
    |_,_=>none
   |_,_=>none
  |_=>none
 |s=>appendA P mem t s x
def appendZ (P:Program) (mem:List Blk) (t:TypeId) (x y:V1):OpR:=
 match P.underlying t,x,y with
 |some (.slice e),.one (.sx b n),.one (.i l)=>match P.info? e,zeroA P e,mem[b]? with
  |some i,some z,some k=>match ((k.live&& !k.ro)&&(Nat.beq k.esz i.size&&Nat.blt 0 i.size))&&((Nat.beq k.elem e&&Nat.beq (sizes k.ps) (n*i.size))&&(Nat.beq (sizes z) i.size&&(cellsOk z&&allPtr (ltB mem.length) (k.ps++repPs l.toNat z))))&&decide (0<l∧(n+l.toNat)*i.bytes≤140737488355328∧n+l.toNat≤140737488355328) with
   |true=>some ([],.val (.one (.sx mem.length (n+l.toNat))),mem.set b {k with live:=false}++[⟨k.ps++repPs l.toNat z,e,true,false,i.size⟩])
   |false=>none
  |_,_,_=>none
 |_,_,_=>none
def isInt (P:Program) (t:TypeId):Bool:=
 match P.underlying t with
 |some (.int _)=>true
 |_=>false
def appendO (P:Program) (mem:List Blk) (t:TypeId) (s x:V1):OpR:=
 match P.underlying t with
 |some (.slice e)=>match P.info? e with
  |some i=>match x with
   | .one (.v (.slice none 0 0))=>match s with
    | .one (.sl b off n cap)=>match Nat.ble n cap&&Nat.blt b mem.length with
     |true=>some ([],.val (.one (.sl b off n cap)),mem)
     |false=>none
    | .one (.sx b n)=>match oldSl mem e i.size (.one (.sx b n)) with
     |some _=>some ([],.val (.one (.sx b n)),mem)
     |none=>none
    |_=>none
   |x=>match ownSl s,ownSl x with
    |some (b1,_,n),some (b,_,m)=>match mem[b1]?,mem[b]? with
     |some k1,some k=>
      let mem1:=match s with
       | .one (.sx b1 _)=>mem.set b1 {k1 with live:=false}
       |_=>mem
      let mem2:=mem1++[⟨k1.ps++k.ps,e,true,false,i.size⟩]
      some ([appendG P mem t s x=some ([],.val (.one (.sx mem.length (n+m))),mem2)],.val (.one (.sx mem.length (n+m))),mem2)
     |_,_=>none
    |_,_=>appendG P mem t s x
  |none=>none
 |_=>none
def sliceSlA (P:Program) (mem:List Blk) (s:Bool) (t:TypeId) (x:V1) (lo hi:Option V1):OpR:=
 match P.underlying t,x with
 |some .string,.one (.v (.string y))=>match boundA s y.size hi y.size with
  |some (o1,h)=>match boundA s 0 lo h with
   |some (o2,l)=>good mem (o1++o2) (.one (.v (.string (y.extract l h))))
   |none=>none
  |none=>none
 |some (.slice e),.one (.sl b off n c)=>match boundA s n hi c,sizeA P e with
  |some (o1,h),some sz=>match boundA s 0 lo h with
   |some (o2,l)=>match Nat.beq l 0 with
    |true=>good mem (o1++o2) (.one (.sl b off (h-l) (c-l)))
    |false=>match Nat.beq c l with
     |false=>good mem (o1++o2) (.one (.sl b (off+l*sz) (h-l) (c-l)))
     |true=>good mem (o1++o2) (.one (.sl b off (h-l) (c-l)))
   |none=>none
  |_,_=>none
 |some (.slice e),.one (.v (.slice none 0 0))=>match boundA s 0 hi 0,sizeA P e with
  |some (o1,h),some _=>match boundA s 0 lo h with
   |some (o2,l)=>match Nat.beq l 0,Nat.beq h 0 with
    |true,true=>good mem (o1++o2) (.one (.v (.slice none 0 0)))
    |_,_=>none
   |none=>none
  |_,_=>none
 |_,_=>none
def indexStrA (P:Program) (mem:List Blk) (s:Bool) (t:TypeId) (x i:V1):OpR:=
 match P.underlying t,x,i with
 |some .string,.one (.v (.string y)),.one (.i z)=>match must s (0≤z∧z<(y.size:Int)) with
  |some ob=>good mem ob (.one (.u .u8 (y.data.getD z.toNat 0).toNat))
  |none=>none
 |some .string,.one (.v (.string y)),.one (.u _ z)=>match must s (z<y.size) with
  |some ob=>good mem ob (.one (.u .u8 (y.data.getD z 0).toNat))
  |none=>none
 |_,_,_=>none
def nilIf (P:Program) (op:BinOp) (t:TypeId) (y:Operand) (x z:Option V1):Option Bool:=
 match op,y,x,z,P.underlying t with
 | .eql,.const .nilIface,some (.one (.v .nilIface)),some (.one (.v .nilIface)),some (.interface _)=>some true
 | .neq,.const .nilIface,some (.one (.v .nilIface)),some (.one (.v .nilIface)),some (.interface _)=>some false
 |_,_,_,_,_=>none
def capsA (ρ:Operand→Option AV):List Operand→Option (List (Option (Nat×Nat)))
 |[]=>some []
 |x::xs=>match gv (ρ x),capsA ρ xs with
  |some (.one (.ptr b off)),some r=>some (some (b,off)::r)
  |some (.one (.v (.pointer none))),some r=>some (none::r)
  |_,_=>none
def opA (P:Program) (s:Bool) (ρ:Operand→Option AV) (mem:List Blk) (o:Op):OpR:=
 match o with
 | .move x| .assign x=>match ρ x with
  |some (.val v)=>good mem [] v
  |some (.tup xs)=>match (AV.tup xs).wf mem.length with
   |true=>some ([],.tup xs,mem)
   |false=>none
  |some .junk=>none
  |none=>none
 | .pick q a b=>match gv (ρ q) with
  |some (.one (.v (.bool true)))=>match gv (ρ a) with
   |some v=>good mem [] v
   |none=>none
  |some (.one (.v (.bool false)))=>match gv (ρ b) with
   |some v=>good mem [] v
   |none=>none
  |_=>none
 | .alloc e=>match zeroA P e with
  |some ps=>newA mem e ps
  |none=>none
 | .box e x=>match gv (ρ x) with
  |some v=>match v.pieces with
   |some ps=>newA mem e ps
   |none=>none
  |none=>none
 | .build t parts=>match partsA ρ parts.toList with
  |some vs=>buildA P mem t vs
  |none=>none
 | .load t a=>match gv (ρ a) with
  |some v=>loadA P mem t v
  |none=>none
 | .store t a x=>match gv (ρ a),gv (ρ x) with
  |some a,some v=>storeA P mem t a v
  |_,_=>none
 | .nilCheck x=>match gv (ρ x) with
  |some (.one (.ptr b off))=>good mem [] (.one (.ptr b off))
  |some (.one (.v (.pointer (some a))))=>one mem (.v (.pointer (some a)))
  |_=>none
 | .binOp op t x y _=>match nilIf P op t y (gv (ρ x)) (gv (ρ y)) with
  |some b=>one mem (.v (.bool b))
  |none=>match gv (ρ x),gv (ρ y) with
  |some x,some y=>match binA P s op t x y with
   |some (ob,r)=>good mem ob (.one r)
   |none=>none
  |_,_=>none
 | .unOp op _ x=>match gv (ρ x) with
  |some (.one x)=>match unA1 op x with
   |some r=>good mem [] (.one r)
   |none=>none
  |_=>none
 | .convert src dst x=>match gv (ρ x) with
  |some (.one x)=>match P.underlying src,P.underlying dst with
   |some (.slice _),some .string=>toStrA P mem src dst (.one x)
   |some .string,some (.slice _)=>toBytesA P mem src dst (.one x)
   |_,_=>match convA P src dst x with
    |some r=>good mem [] (.one r)
    |none=>none
  |_=>none
 | .buildSlice t len parts=>match partsA ρ parts.toList with
  |some vs=>buildSlA P mem t len vs
  |none=>none
 | .makeFunc fn x y=>match fn,capsA ρ x.toList,capsA ρ y.toList with
  | .func f,some u,some v=>good mem [] (.one (.clo f u v))
  |_,_,_=>none
 | .makeSlice t l c=>match gv (ρ l),gv (ρ c) with
  |some l,some c=>makeSlA P mem t l c
  |_,_=>none
 | .fieldAddr t x f=>match gv (ρ x) with
  |some v=>fieldAddrA P mem t f v
  |none=>none
 | .field t x f=>match gv (ρ x) with
  |some v=>fieldA P mem t f v
  |none=>none
 | .indexAddr t x i=>match gv (ρ x),gv (ρ i) with
  |some x,some i=>indexAddrA P mem s t x i
  |_,_=>none
 | .index t x i=>match gv (ρ x),gv (ρ i) with
  |some x,some i=>match P.underlying t with
   |some .string=>indexStrA P mem s t x i
   |_=>indexA P mem t x i
  |_,_=>none
 | .extract x i=>match ρ x with
  |some (.tup xs)=>match xs[i]? with
   |some v=>good mem [] v
   |none=>none
  |_=>none
 | .slice t x lo hi none=>match gv (ρ x),valsA ρ lo.toList,valsA ρ hi.toList with
  |some x,some l,some h=>match P.underlying t with
   |some (.array _ _)=>sliceArrA P mem s t x l.head? h.head?
   |_=>sliceSlA P mem s t x l.head? h.head?
  |_,_,_=>none
 | .call cl=>match cl.callee with
  | .builtin .len=>match valsA ρ cl.args.toList,cl.argTypes[0]? with
   |some (x::_),some t=>match lenA P t x with
    |some n=>one mem (.i n)
    |none=>none
   |_,_=>none
  | .builtin .copy=>match valsA ρ cl.args.toList,cl.argTypes[0]? with
   |some [x,y],some t=>copyA P mem t x y
   |_,_=>none
  | .builtin .append=>match valsA ρ cl.args.toList,cl.argTypes[0]?,cl.argTypes[1]?,cl.argTypes[2]? with
   |some [x,y],some t,some t',none=>match Nat.beq t t' with
    |true=>match s with
     |true=>appendO P mem t x y
     |false=>appendG P mem t x y
    |false=>match isInt P t' with
     |true=>appendZ P mem t x y
     |false=>none
   |_,_,_,_=>none
  | .builtin .min=>match valsA ρ cl.args.toList with
   |some vs=>match minA vs with
    |some x=>one mem x
    |none=>none
   |none=>none
  | .builtin .max=>match valsA ρ cl.args.toList with
   |some vs=>match maxA vs with
    |some x=>one mem x
    |none=>none
   |none=>none
  | .builtin .clear=>match valsA ρ cl.args.toList,cl.argTypes[0]? with
   |some [x],some t=>clearA P mem t x
   |_,_=>none
  |_=>none
 |_=>none
abbrev StR:=Option (List Prop×List Bool×AV×List Blk)
def decided1 (s:Bool) (c:List Bool) (ob:List Prop) (v:AV) (mem:List Blk):StR:=
 match s,v with
 |true,.val (.one (.v (.bool b)))=>match c with
  |d::c'=>some ((b=d)::ob,c',.val (.one (.v (.bool d))),mem)
  |[]=>none
 |_,_=>some (ob,c,v,mem)
def unary:List Bool→Nat→Option (Nat×List Bool)
 |true::c,n=>unary c (n+1)
 |false::c,n=>some (n,c)
 |[],_=>none
def decided (s:Bool×Bool) (c:List Bool) (ob:List Prop) (v:AV) (mem:List Blk):StR:=
 match s.2,v with
 |true,.val (.one (.i z))=>match unary c 0 with
  |some (n,c')=>some ((z=(n:Int))::ob,c',.val (.one (.i (n:Int))),mem)
  |none=>none
 |_,_=>decided1 s.1 c ob v mem
def fnOf:Option AV→Option FuncId
 |some (.val (.one (.v (.func (.func f) a b))))=>match a.toList,b.toList with
  |[],[]=>some f
  |_,_=>none
 |_=>none
def fnOfC:Option AV→Option (FuncId×List V1×List V1)
 |some (.val (.one (.clo f x y)))=>some (f,capV x,capV y)
 |x=>match fnOf x with
  |some f=>some (f,[],[])
  |none=>none
def plainV:List V1→Option (List Value)
 |[]=>some []
 | .one x::vs=>match x.val?,plainV vs with
  |some y,some r=>some (y::r)
  |_,_=>none
 | .agg _::_=>none
def extA (P:Program) (f:FuncId) (vs:List V1) (mem:List Blk):OpR:=
 match P.funcs[f]? with
 |some fn=>match (!(fn.name== "runtime.NumGoroutine")&&fn.body.isNone)&&(Extern.findNext fn).isNone,Extern.find fn,plainV vs with
  |true,some e,some xs=>match pureRun P (e xs.toArray) with
   |some v=>good mem [] (.one (ofVal v))
   |none=>none
  |_,_,_=>none
 |none=>none
abbrev CF:=FuncId→List V1→List Blk→List Bool→StR
def LoadsAs (P:Program) (t:TypeId) (ps:List Piece) (off:Nat) (v:V1):Prop:=
 ∀φ:Loc,match v with
  | .agg r=>isAggA P t=some true∧∃n,sizeA P t=some n∧concs φ r=((concs φ ps).drop off).take n∧(concs φ r).length=n
  | .one x=>isAggA P t=some false∧(concs φ ps)[off]? =some (x.conc φ)
def rowLd (P:Program) (orc:FuncId→List V1→Option V1) (mem:List Blk) (t:TypeId):Option V1→Option (List Prop×V1×Nat)
 |some (.one (.ptr b off))=>match mem[b]? with
  |some k=>match k.live,orc (3000000+t) [.one (.ptr b off)] with
   |true,some v=>match v.wf 0 with
    |true=>some ([LoadsAs P t k.ps off v],v,b)
    |false=>none
   |_,_=>none
  |none=>none
 |_=>none
def orcC (cf:CF) (mem:List Blk):FuncId→List V1→Option V1:=fun f vs=>match cf f vs mem [] with
 |some (_,_,.val v,_)=>some v
 |_=>none
def arrOf (k:Blk):Option (IntKind×List Nat):=
 match k.ro with
 |true=>none
 |false=>match k.live,k.ps with
  |true,[.arr kk l]=>some (kk,l)
  |_,_=>none
def kindA (P:Program) (t:TypeId):Option IntKind:=
 match P.underlying t with
 |some (.int kk)=>some kk
 |_=>none
def sameKK (a b:IntKind):Bool:=Nat.beq (codeK a) (codeK b)
def arrLd (P:Program) (mem:List Blk) (t:TypeId):Option V1→Option (List Prop×V1×Nat)
 |some (.one (.ptr b off))=>match mem[b]? with
  |some k=>match kindA P t,arrOf k with
   |some kk',some (kk,l)=>match sameKK kk kk' with
    |true=>some ([off<l.length],.one (.u kk (l.getD off 0)),b)
    |false=>none
   |_,_=>none
  |none=>none
 |_=>none
def arrSt (P:Program) (mem:List Blk) (t:TypeId) (x y:Option V1):Option (List Prop×Nat×Blk):=
 match x,y with
 |some (.one (.ptr b off)),some (.one (.u ky n))=>match mem[b]? with
  |some k=>match arrOf k,kindA P t,sizeA P t with
   |some (kk,l),some kk',some sz=>match (sameKK kk kk'&&sameKK kk ky)&&(Nat.beq sz 1&& !k.ro) with
    |true=>some ([off<l.length],b,{k with ps:=[.arr kk (l.set off n)]})
    |false=>none
   |_,_,_=>none
  |none=>none
 |_,_=>none
def setS:List Piece→Nat→ByteArray→List Piece
 | .a _::ps,0,s=> .a (.v (.string s))::ps
 |p::ps,n+1,s=>p::setS ps n s
 |ps,_,_=>ps
def cellsP:List Piece→Bool
 |[]=>true
 | .a _::ps=>cellsP ps
 |_=>false
def strSt (P:Program) (mem:List Blk) (t:TypeId) (x y:Option V1):Option (List Prop×Nat×Blk):=
 match x,y with
 |some (.one (.ptr b off)),some (.one (.v (.string s)))=>match mem[b]? with
  |some k=>match sizeA P t with
   |some sz=>match Nat.beq sz 1&&(k.live&& !k.ro) with
    |true=>some ([cellsP k.ps=true∧off<k.ps.length],b,{k with ps:=setS k.ps off s})
    |false=>none
   |none=>none
  |none=>none
 |_,_=>none
def arrStr (P:Program) (mem:List Blk) (src dst:TypeId) (x:Option V1):Option (List Prop×ByteArray×Nat):=
 match P.underlying src,P.underlying dst,x with
 |some (.slice e),some .string,some x=>match P.underlying e,ownSl x with
  |some (.int .u8),some (b,off,n)=>match mem[b]? with
   |some k=>match arrOf k with
    |some (.u8,l)=>some ([off=0∧n=l.length],strOf l,b)
    |some _=>none
    |none=>match k.live,cutP k.ps off n with
     |true,some ps=>match bytesP ps with
      |some l=>some ([],strOf l,b)
      |none=>none
     |_,_=>none
   |none=>none
  |_,_=>none
 |_,_,_=>none
def numsB (s:ByteArray):List Nat:=s.data.toList.map UInt8.toNat
def arrCp (P:Program) (mem:List Blk) (t:TypeId) (x y:Option V1):Option (List Prop×ByteArray×Nat×Blk):=
 match P.underlying t,x,y with
 |some (.slice e),some x,some (.one (.v (.string s)))=>match P.underlying e,ownSl x,sizeA P e with
  |some (.int .u8),some (b,off,n),some sz=>match mem[b]? with
   |some k=>match arrOf k with
    |some (.u8,l)=>match Nat.beq sz 1&& !k.ro with
     |true=>some ([off=0∧n=l.length∧s.size≤n],s,b,{k with ps:=[.arr .u8 (numsB s++l.drop s.size)]})
     |false=>none
    |_=>none
   |none=>none
  |_,_,_=>none
 |_,_,_=>none
def rowOp (P:Program) (orc:FuncId→List V1→Option V1) (mem:List Blk) (ρ:Operand→Option AV) (o:Op):Option (List Prop×V1×Nat×Option Blk):=
 match o with
 | .load t x=>match arrLd P mem t (gv (ρ x)) with
  |some (ob,v,b)=>some (ob,v,b,none)
  |none=>match rowLd P orc mem t (gv (ρ x)) with
   |some (ob,v,b)=>some (ob,v,b,none)
   |none=>none
 | .store t x y=>match arrSt P mem t (gv (ρ x)) (gv (ρ y)) with
  |some (ob,b,k)=>some (ob,.one (.v undef),b,some k)
  |none=>match strSt P mem t (gv (ρ x)) (gv (ρ y)) with
   |some (ob,b,k)=>some (ob,.one (.v undef),b,some k)
   |none=>none
 | .convert src dst x=>match arrStr P mem src dst (gv (ρ x)) with
  |some (ob,s,b)=>some (ob,.one (.v (.string s)),b,none)
  |none=>none
 | .call cl=>match cl.callee,cl.args.toList,cl.argTypes[0]? with
  | .builtin .copy,[x,y],some t=>match arrCp P mem t (gv (ρ x)) (gv (ρ y)) with
   |some (ob,s,b,k)=>some (ob,.one (.i (s.size:Int)),b,some k)
   |none=>none
  |_,_,_=>none
 |_=>none
def apB (mem:List Blk) (b:Nat):Option Blk→List Blk
 |none=>mem
 |some k=>mem.set b k
def arrNs (k:Blk) (off m:Nat):Option (List Prop×IntKind×List Nat):=
 match arrOf k with
 |some (kk,l)=>some ([off=0∧m=l.length],kk,l)
 |none=>match k.live,cutP k.ps off m with
  |true,some ps=>match bytesP ps with
   |some l=>some ([],.u8,l)
   |none=>none
  |_,_=>none
def arrApp (P:Program) (mem:List Blk) (t:TypeId) (x y:V1):OpR:=
 match P.underlying t,x with
 |some (.slice e),.one (.sx b1 n)=>match P.info? e,zeroA P e,kindA P e,ownSl y with
  |some i,some z,some kk,some (b,off,m)=>match mem[b1]?,mem[b]? with
   |some k1,some k=>match arrOf k1,arrNs k off m with
    |some (kk1,l1),some (ob,kk2,l2)=>match (sameKK kk kk1&&sameKK kk kk2)&&(Nat.beq k1.esz i.size&&Nat.beq k1.elem e)&&(Nat.beq (sizes z) i.size&&Nat.beq i.size 1) with
     |true=>some ((n=l1.length∧0<m∧(n+m)*i.bytes≤140737488355328∧n+m≤140737488355328)::ob,.val (.one (.sx mem.length (n+m))),mem.set b1 {k1 with live:=false}++[⟨[.arr kk (l1++l2)],e,true,false,i.size⟩])
     |false=>none
    |_,_=>none
   |_,_=>none
  |_,_,_,_=>none
 |_,_=>none
def arrAppS (P:Program) (mem:List Blk) (t:TypeId) (x:V1) (s:ByteArray):OpR:=
 match P.underlying t with
 |some (.slice e)=>match P.info? e,zeroA P e,kindA P e with
  |some i,some z,some .u8=>match Nat.beq (sizes z) i.size&&Nat.beq i.size 1 with
   |true=>match x with
    | .one (.v (.slice none 0 0))=>some ([0<s.size∧s.size*i.bytes≤140737488355328∧s.size≤140737488355328],.val (.one (.sx mem.length s.size)),mem++[⟨[.arr .u8 (numsB s)],e,true,false,i.size⟩])
    | .one (.sx b1 n)=>match mem[b1]? with
     |some k1=>match arrOf k1 with
      |some (.u8,l1)=>match Nat.beq k1.esz i.size&&Nat.beq k1.elem e with
       |true=>some ([n=l1.length∧(n+s.size)*i.bytes≤140737488355328∧n+s.size≤140737488355328],.val (.one (.sx mem.length (n+s.size))),mem.set b1 {k1 with live:=false}++[⟨[.arr .u8 (l1++numsB s)],e,true,false,i.size⟩])
       |false=>none
      |_=>none
     |none=>none
    |_=>none
   |false=>none
  |_,_,_=>none
 |_=>none
def flatN:List Piece→Option (List Nat)
 |[]=>some []
 | .arr .u8 l::ps=>match flatN ps with
  |some r=>some (l++r)
  |none=>none
 | .a (.u .u8 n)::ps=>match flatN ps with
  |some r=>some (n::r)
  |none=>none
 |_=>none
def arrZ (P:Program) (mem:List Blk) (t:TypeId) (x y:V1):OpR:=
 match appendZ P mem t x y with
 |some (ob,.val (.one (.sx b n)),mem')=>match mem'[b]? with
  |some k=>match flatN k.ps,k.live&& !k.ro with
   |some l,true=>some (ob,.val (.one (.sx b n)),mem'.set b {k with ps:=[.arr .u8 l]})
   |_,_=>none
  |none=>none
 |_=>none
def arrNew (P:Program) (mem:List Blk) (ρ:Operand→Option AV) (o:Op):OpR:=
 match o with
 | .convert src dst x=>match P.underlying src,P.underlying dst,gv (ρ x) with
  |some .string,some (.slice e),some (.one (.v (.string s)))=>match P.underlying e with
   |some (.int .u8)=>some ([s.size≤140737488355328],.val (.one (.sx mem.length s.size)),mem++[⟨[.arr .u8 (numsB s)],e,true,false,1⟩])
   |_=>none
  |some (.slice _),some (.slice e),some (.one (.sx b n))=>match P.underlying e,mem[b]? with
   |some (.int .u8),some k=>match (Nat.beq src dst&&(k.live&& !k.ro))&&Nat.blt 0 k.esz with
    |true=>some ([],.val (.one (.sx b n)),mem)
    |false=>none
   |_,_=>none
  |_,_,_=>none
 | .buildSlice t len parts=>match partsA ρ parts.toList with
  |some vs=>match buildSlP P t len vs with
   |some (ps,e)=>match P.underlying e,bytesP ps with
    |some (.int .u8),some l=>match Nat.beq l.length len&&Nat.ble len 16777216 with
     |true=>some ([],.val (.one (.sx mem.length len)),mem++[⟨[.arr .u8 l],e,true,false,1⟩])
     |false=>none
    |_,_=>none
   |none=>none
  |none=>none
 | .makeSlice t l c=>match P.underlying t,gv (ρ l),gv (ρ c) with
  |some (.slice e),some (.one (.i l)),some (.one (.i c))=>match P.info? e,zeroA P e with
   |some i,some [.a (.u .u8 0)]=>match Nat.beq i.size 1&&Nat.beq i.bytes 1 with
    |true=>some ([0≤l∧l=c∧c≤140737488355328],.val (.one (.sl mem.length 0 l.toNat c.toNat)),mem++[⟨[.arr .u8 (List.replicate l.toNat 0)],e,true,false,0⟩])
    |false=>none
   |_,_=>none
  |_,_,_=>none
 | .call cl=>match cl.callee,cl.args.toList,cl.argTypes[0]?,cl.argTypes[1]?,cl.argTypes[2]? with
  | .builtin .append,[x,y],some t,some t',none=>match Nat.beq t t' with
   |true=>match gv (ρ x),gv (ρ y) with
    |some u,some v=>arrApp P mem t u v
    |_,_=>none
   |false=>match P.underlying t',gv (ρ x),gv (ρ y) with
    |some .string,some u,some (.one (.v (.string s)))=>arrAppS P mem t u s
    |some (.int _),some u,some v=>match isInt P t' with
     |true=>arrZ P mem t u v
     |false=>none
    |_,_,_=>none
  |_,_,_,_,_=>none
 |_=>none
def rowFl (S:Nat→Bool) (o:Oper):Bool:=
 match o.dst with
 |some d=>S (d+2000000)
 |none=>match o.op with
  | .store _ (.tmp j) _=>S (j+4000000)
  |_=>false
def stepA (P:Program) (cf:CF) (S:Nat→Bool) (ρ:Operand→Option AV) (mem:List Blk) (c:List Bool) (o:Oper):StR:=
 match rowFl S o with
 |true=>match rowOp P (orcC cf mem) mem ρ o.op with
  |some (ob,v,b,nb)=>some (ob,c,.val v,apB mem b nb)
  |none=>match arrNew P mem ρ o.op with
   |some (ob,v,mem')=>some (ob,c,v,mem')
   |none=>none
 |false=>
 let s:=match o.dst with
  |some d=>(S d,S (d+1000000))
  |none=>(false,false)
 match o.op with
 | .call cl=>match cl.callee with
  | .value x=>match fnOfC (ρ x),valsA ρ cl.args.toList with
   |some (f,us,ws),some vs=>match callOk P f with
    |true=>match cf f (us++(vs++ws)) mem c with
     |some (ob,c',v,mem')=>decided s c' ob v mem'
     |none=>none
    |false=>match extA P f (us++(vs++ws)) mem with
     |some (ob,v,mem')=>decided s c ob v mem'
     |none=>none
   |_,_=>none
  |_=>match opA P s.1 ρ mem o.op with
   |some (ob,v,mem')=>decided s c ob v mem'
   |none=>none
 |_=>match opA P s.1 ρ mem o.op with
  |some (ob,v,mem')=>decided s c ob v mem'
  |none=>none
def wantA (ops:List Oper) (tm:List AV) (o:Oper):Option Bool:=
 match o.guard with
 |none=>some true
 |some (j,want)=>match ops[j]? with
  |some g=>match g.dst with
   |some d=>match tm[d]? with
    |some (.val (.one (.v (.bool b))))=>some (b==want)
    |some (.val (.one (.v (.tuple _))))=>some false
    |_=>none
   |none=>none
  |none=>none
def unA:AV:= .val (.one (.v undef))
def stepG (P:Program) (cf:CF) (S:Nat→Bool) (ops:List Oper) (tm:List AV) (mem:List Blk) (c:List Bool) (o:Oper):StR:=
 match wantA ops tm o with
 |some true=>stepA P cf S (rho tm) mem c o
 |some false=>some ([],c,unA,mem)
 |none=>none
def putA (tm:List AV) (d:Option Tmp) (v:AV):List AV:=
 match d with
 |some d=>tm.set d v
 |none=>tm
def opsA (P:Program) (cf:CF) (S:Nat→Bool) (ops:List Oper):List Oper→List AV→List Blk→List Bool→Option (List Prop×List Bool×List AV×List Blk)
 |[],tm,mem,c=>some ([],c,tm,mem)
 |o::rest,tm,mem,c=>match stepG P cf S ops tm mem c o with
  |some (ob,c',v,mem')=>match o.dst with
   |some d=>setK tm d v fun tm'=>match opsA P cf S ops rest tm' mem' c' with
    |some (ob',r)=>some (ob++ob',r)
    |none=>none
   |none=>match opsA P cf S ops rest tm mem' c' with
    |some (ob',r)=>some (ob++ob',r)
    |none=>none
  |none=>none
end Go.Ev
namespace Go.Ev
open Go Go.RowKit
def All:List Prop→Prop
 |[]=>True
 |p::ps=>p∧All ps
theorem All_append {l r:List Prop}:All (l++r)↔All l∧All r:=by
 induction l with
 |nil=>simp[All]
 |cons p l ih=>simp only[List.cons_append,All,ih,and_assoc]
theorem concs_append (φ:Loc) (ps qs:List Piece):concs φ (ps++qs)=concs φ ps++concs φ qs:=by
 induction ps with
 |nil=>rfl
 |cons p ps ih=>simp[concs,ih]
theorem limbs_length (k n:Nat):(limbs k n).length=k:=by
 induction k generalizing n with
 |zero=>rfl
 |succ k ih=>simp[limbs,ih]
theorem concs_explode (φ:Loc) (k n:Nat):concs φ (explode k n)=limbs k n:=by
 induction k generalizing n with
 |zero=>rfl
 |succ k ih=>simp[explode,concs,limbs,Piece.conc,Atom.conc,ih]
theorem Piece.conc_length (φ:Loc) (p:Piece):(p.conc φ).length=p.size:=by
 cases p<;>simp[Piece.conc,Piece.size,limbs_length]
theorem concs_length (φ:Loc) (ps:List Piece):(concs φ ps).length=sizes ps:=by
 induction ps with
 |nil=>rfl
 |cons p ps ih=>simp[concs,sizes,Piece.conc_length,ih]
theorem concs_drop_explode (φ:Loc):∀(k x n:Nat),concs φ ((explode k x).drop n)=(limbs k x).drop n
 |k,x,0=>by simp[concs_explode]
 |0,x,n+1=>by simp[explode,limbs,concs]
 |k+1,x,n+1=>by simp[explode,limbs,concs_drop_explode φ k]
theorem concs_take_explode (φ:Loc):∀(k x n:Nat),concs φ ((explode k x).take n)=(limbs k x).take n
 |k,x,0=>by simp[concs]
 |0,x,n+1=>by simp[explode,limbs,concs]
 |k+1,x,n+1=>by simp[explode,limbs,concs,Piece.conc,Atom.conc,concs_take_explode φ k]
theorem dropP_spec {φ:Loc}:∀(ps:List Piece) (n:Nat) (r:List Piece),dropP ps n=some r→concs φ r=(concs φ ps).drop n∧n≤(concs φ ps).length
 |ps,0,r,h=>by
  have:ps=r:=by cases ps<;>simpa[dropP] using h
  simp[this]
 |[],n+1,r,h=>by simp[dropP] at h
 | .a x::ps,n+1,r,h=>by
  simp only[dropP] at h
  obtain ⟨h1,h2⟩:=dropP_spec (φ:=φ) ps n r h
  simp[concs,Piece.conc,h1,h2]
 | .num k x::ps,n+1,r,h=>by
  simp only[dropP] at h
  split at h
  ·rename_i hk
   have hk:=Nat.le_of_ble_eq_true hk
   obtain ⟨h1,h2⟩:=dropP_spec (φ:=φ) ps _ r h
   have hl:=limbs_length k x
   simp only[concs,Piece.conc]
   rw[h1,List.drop_append,List.drop_of_length_le (by omega:(limbs k x).length≤n+1),List.length_append,hl]
   simp;omega
  ·rename_i hk
   have hk:¬k≤n+1:=fun hh=>by rw[Nat.ble_eq_true_of_le hh] at hk;cases hk
   simp only[Option.some.injEq] at h
   subst h
   have hl:=limbs_length k x
   simp only[concs,concs_append,Piece.conc,concs_drop_explode]
   rw[List.drop_append,List.length_append,hl,show n+1-k=0 by omega]
   simp;omega
 | .arr k l::ps,n+1,r,h=>by simp[dropP] at h
theorem takeP_spec {φ:Loc}:∀(ps:List Piece) (n:Nat) (r:List Piece),takeP ps n=some r→concs φ r=(concs φ ps).take n∧n≤(concs φ ps).length
 |ps,0,r,h=>by
  have:r=[]:=by cases ps<;>simpa[takeP,eq_comm] using h
  simp[this,concs]
 |[],n+1,r,h=>by simp[takeP] at h
 | .a x::ps,n+1,r,h=>by
  simp only[takeP] at h
  split at h
  ·rename_i r' hr
   obtain ⟨h1,h2⟩:=takeP_spec (φ:=φ) ps n r' hr
   simp only[Option.some.injEq] at h
   subst h
   simp[concs,Piece.conc,h1,h2]
  ·simp at h
 | .num k x::ps,n+1,r,h=>by
  simp only[takeP] at h
  split at h
  ·rename_i hk
   have hk:=Nat.le_of_ble_eq_true hk
   split at h
   ·rename_i r' hr
    obtain ⟨h1,h2⟩:=takeP_spec (φ:=φ) ps _ r' hr
    simp only[Option.some.injEq] at h
    subst h
    have hl:=limbs_length k x
    simp only[concs,Piece.conc]
    rw[h1,List.take_append,List.take_of_length_le (by omega:(limbs k x).length≤n+1),List.length_append,hl]
    simp;omega
   ·simp at h
  ·rename_i hk
   have hk:¬k≤n+1:=fun hh=>by rw[Nat.ble_eq_true_of_le hh] at hk;cases hk
   simp only[Option.some.injEq] at h
   subst h
   have hl:=limbs_length k x
   simp only[concs,Piece.conc,concs_take_explode]
   rw[List.take_append,List.length_append,hl,show n+1-k=0 by omega]
   simp;omega
 | .arr k l::ps,n+1,r,h=>by simp[takeP] at h
theorem cutP_spec {φ:Loc} {ps r:List Piece} {off n:Nat} (h:cutP ps off n=some r):
  concs φ r=((concs φ ps).drop off).take n∧off+n≤(concs φ ps).length∧(concs φ r).length=n:=by
 unfold cutP at h
 split at h
 ·rename_i q hq
  obtain ⟨h1,h2⟩:=dropP_spec (φ:=φ) _ _ _ hq
  obtain ⟨h3,h4⟩:=takeP_spec (φ:=φ) _ _ _ h
  have:n≤((concs φ ps).drop off).length:=by rw[←h1];exact h4
  simp at this
  rw[h1] at h3
  refine ⟨h3,by omega,?_⟩
  rw[h3];simp;omega
 ·simp at h
theorem putP_spec {φ:Loc} {ps new r:List Piece} {off n:Nat} (h:putP ps off n new=some r):
  concs φ r=(concs φ ps).take off++(concs φ new++(concs φ ps).drop (off+n))∧off+n≤(concs φ ps).length:=by
 unfold putP at h
 split at h
 ·rename_i l q hl hq
  obtain ⟨h1,h2⟩:=takeP_spec (φ:=φ) _ _ _ hl
  obtain ⟨h3,h4⟩:=dropP_spec (φ:=φ) _ _ _ hq
  simp only[Option.some.injEq] at h
  subst h
  exact ⟨by simp only[concs_append,h1,h3],h4⟩
 ·simp at h
theorem headA_spec {φ:Loc} {ps:List Piece} {x:Atom} (h:headA ps=some x):(concs φ ps)[0]? =some (x.conc φ):=by
 unfold headA at h
 split at h
 ·simp only[Option.some.injEq] at h;subst h;rfl
 ·simp only[Option.some.injEq] at h;subst h;rfl
 ·simp at h
def Agree (n:Nat) (φ φ':Loc):Prop:=∀b,b<n→φ' b=φ b
theorem Agree.refl (n:Nat) (φ:Loc):Agree n φ φ:=fun _ _=>rfl
theorem Agree.trans {n m:Nat} {φ φ' φ'':Loc} (h:Agree n φ φ') (hnm:n≤m) (h':Agree m φ' φ''):Agree n φ φ'':=
 fun b hb=>(h' b (by omega)).trans (h b hb)
theorem capC_ok {f:Nat→Bool} {φ φ':Loc} (h:∀b,f b=true→φ' b=φ b):∀xs,capB f xs=true→capC φ' xs=capC φ xs
 |[],_=>rfl
 |none::xs,hx=>by simp only[capB] at hx;simp only[capC,capC_ok h xs hx]
 |some (b,off)::xs,hx=>by
  simp only[capB,Bool.and_eq_true] at hx
  simp only[capC,capC_ok h xs hx.2,h b hx.1]
theorem capB_imp {f g:Nat→Bool} (h:∀b,f b=true→g b=true):∀xs,capB f xs=true→capB g xs=true
 |[],_=>rfl
 |none::xs,hx=>by simp only[capB] at hx ⊢;exact capB_imp h xs hx
 |some (b,off)::xs,hx=>by
  simp only[capB,Bool.and_eq_true] at hx ⊢
  exact ⟨h b hx.1,capB_imp h xs hx.2⟩
theorem ltB_agree {n:Nat} {φ φ':Loc} (h:Agree n φ φ'):∀b,ltB n b=true→φ' b=φ b:=fun b hb=>h b (by simp only[ltB,Nat.blt,Nat.ble_eq] at hb;omega)
theorem ltB_mono {n m:Nat} (h:n≤m):∀b,ltB n b=true→ltB m b=true:=fun b hb=>by simp only[ltB,Nat.blt,Nat.ble_eq] at hb ⊢;omega
theorem capV_conc (φ:Loc):∀xs,(capV xs).map (V1.conc φ)=capC φ xs
 |[]=>rfl
 |none::xs=>by simp only[capV,List.map_cons,capC,capV_conc φ xs];rfl
 |some (b,off)::xs=>by simp only[capV,List.map_cons,capC,capV_conc φ xs];rfl
theorem capV_wf {n:Nat}:∀xs,capB (fun b=>Nat.blt b n) xs=true→∀v∈capV xs,v.wf n=true
 |[],_,v,hv=>by simp[capV] at hv
 |none::xs,hx,v,hv=>by
  simp only[capB] at hx
  simp only[capV,List.mem_cons] at hv
  rcases hv with rfl|hv
  ·rfl
  ·exact capV_wf xs hx v hv
 |some (b,off)::xs,hx,v,hv=>by
  simp only[capB,Bool.and_eq_true] at hx
  simp only[capV,List.mem_cons] at hv
  rcases hv with rfl|hv
  ·exact hx.1
  ·exact capV_wf xs hx.2 v hv
theorem concs_agree {n:Nat} {φ φ':Loc} (h:Agree n φ φ'):∀(ps:List Piece),allPtr (ltB n) ps=true→concs φ' ps=concs φ ps
 |[],_=>rfl
 | .num k x::ps,hp=>by simp only[allPtr] at hp;simp[concs,Piece.conc,concs_agree h ps hp]
 | .arr k x::ps,hp=>by simp only[allPtr] at hp;simp[concs,Piece.conc,concs_agree h ps hp]
 | .a x::ps,hp=>by
  cases x with
  |ptr b off=>
   simp only[allPtr,Bool.and_eq_true,ltB,Nat.blt,Nat.ble_eq] at hp
   simp[concs,Piece.conc,Atom.conc,concs_agree h ps hp.2,h b hp.1]
  |sl b off len cap=>
   simp only[allPtr,Bool.and_eq_true,ltB,Nat.blt,Nat.ble_eq] at hp
   simp[concs,Piece.conc,Atom.conc,concs_agree h ps hp.2,h b hp.1]
  |sx b len=>
   simp only[allPtr,Bool.and_eq_true,ltB,Nat.blt,Nat.ble_eq] at hp
   simp[concs,Piece.conc,Atom.conc,concs_agree h ps hp.2,h b hp.1]
  |clo f x y=>
   simp only[allPtr,Bool.and_eq_true] at hp
   simp only[concs,Piece.conc,Atom.conc,concs_agree h ps hp.2,capC_ok (ltB_agree h) x hp.1.1,capC_ok (ltB_agree h) y hp.1.2]
  |v x=>simp only[allPtr] at hp;simp[concs,Piece.conc,Atom.conc,concs_agree h ps hp]
  |u k x=>simp only[allPtr] at hp;simp[concs,Piece.conc,Atom.conc,concs_agree h ps hp]
  |i x=>simp only[allPtr] at hp;simp[concs,Piece.conc,Atom.conc,concs_agree h ps hp]
theorem V1.conc_agree {n:Nat} {φ φ':Loc} (h:Agree n φ φ') (x:V1) (hx:x.wf n=true):x.conc φ'=x.conc φ:=by
 cases x with
 |agg ps=>simp only[V1.wf] at hx;simp[V1.conc,concs_agree h ps hx]
 |one x=>
  cases x with
  |ptr b off=>simp only[V1.wf,Nat.blt,Nat.ble_eq] at hx;simp[V1.conc,Atom.conc,h b hx]
  |sl b off len cap=>simp only[V1.wf,Nat.blt,Nat.ble_eq] at hx;simp[V1.conc,Atom.conc,h b hx]
  |sx b len=>simp only[V1.wf,Nat.blt,Nat.ble_eq] at hx;simp[V1.conc,Atom.conc,h b hx]
  |clo f x y=>
   simp only[V1.wf,Bool.and_eq_true] at hx
   simp only[V1.conc,Atom.conc,capC_ok (f:=ltB n) (ltB_agree h) x hx.1,capC_ok (f:=ltB n) (ltB_agree h) y hx.2]
  |_=>rfl
theorem AV.conc_agree {n:Nat} {φ φ':Loc} (h:Agree n φ φ') (x:AV) (hx:x.wf n=true):x.conc φ'=x.conc φ:=by
 cases x with
 |val x=>exact V1.conc_agree h x hx
 |tup xs=>
  simp only[AV.wf,List.all_eq_true] at hx
  simp only[AV.conc,Value.tuple.injEq]
  congr 1
  exact List.map_congr_left fun x hm=>V1.conc_agree h x (hx x hm)
 |junk=>rfl
theorem allPtr_mono {n m:Nat} (h:n≤m):∀(ps:List Piece),allPtr (ltB n) ps=true→allPtr (ltB m) ps=true
 |[],_=>rfl
 | .num k x::ps,hp=>by simp only[allPtr] at hp ⊢;exact allPtr_mono h ps hp
 | .arr k x::ps,hp=>by simp only[allPtr] at hp ⊢;exact allPtr_mono h ps hp
 | .a x::ps,hp=>by
  cases x with
  |ptr b off=>
   simp only[allPtr,Bool.and_eq_true,ltB,Nat.blt,Nat.ble_eq] at hp ⊢
   exact ⟨by omega,allPtr_mono h ps hp.2⟩
  |sl b off len cap=>
   simp only[allPtr,Bool.and_eq_true,ltB,Nat.blt,Nat.ble_eq] at hp ⊢
   exact ⟨by omega,allPtr_mono h ps hp.2⟩
  |sx b len=>
   simp only[allPtr,Bool.and_eq_true,ltB,Nat.blt,Nat.ble_eq] at hp ⊢
   exact ⟨by omega,allPtr_mono h ps hp.2⟩
  |clo f x y=>
   simp only[allPtr,Bool.and_eq_true] at hp ⊢
   exact ⟨⟨capB_imp (ltB_mono h) x hp.1.1,capB_imp (ltB_mono h) y hp.1.2⟩,allPtr_mono h ps hp.2⟩
  |v x=>simp only[allPtr] at hp ⊢;exact allPtr_mono h ps hp
  |u k x=>simp only[allPtr] at hp ⊢;exact allPtr_mono h ps hp
  |i x=>simp only[allPtr] at hp ⊢;exact allPtr_mono h ps hp
theorem V1.wf_mono {n m:Nat} (h:n≤m) (x:V1) (hx:x.wf n=true):x.wf m=true:=by
 cases x with
 |agg ps=>exact allPtr_mono h ps hx
 |one x=>
  cases x with
  |ptr b off=>simp only[V1.wf,Nat.blt,Nat.ble_eq] at hx ⊢;omega
  |sl b off len cap=>simp only[V1.wf,Nat.blt,Nat.ble_eq] at hx ⊢;omega
  |sx b len=>simp only[V1.wf,Nat.blt,Nat.ble_eq] at hx ⊢;omega
  |clo f x y=>
   simp only[V1.wf,Bool.and_eq_true] at hx ⊢
   exact ⟨capB_imp (f:=ltB n) (g:=ltB m) (ltB_mono h) x hx.1,capB_imp (f:=ltB n) (g:=ltB m) (ltB_mono h) y hx.2⟩
  |_=>rfl
theorem AV.wf_mono {n m:Nat} (h:n≤m) (x:AV) (hx:x.wf n=true):x.wf m=true:=by
 cases x with
 |val x=>exact V1.wf_mono h x hx
 |tup xs=>
  simp only[AV.wf,List.all_eq_true] at hx ⊢
  exact fun x hm=>V1.wf_mono h x (hx x hm)
 |junk=>rfl
def Holds (w:World) (l:Nat×Nat×Nat) (cs:List Value) (b:Blk):Prop:=
 ∃tail lo hi,w.heap[l.1]? =some (.cells (cs++tail).toArray b.elem (lo,hi))∧(∀j,j<cs.length→¬(lo≤j∧j<hi))∧
  (0<b.esz→(hi=lo∨l.2.2*b.esz≤lo)∧(cs++tail).length=l.2.2*b.esz∧l.2.2≤maxLen)
structure Base where
 w:World
 K:Nat→Prop
 lt:∀k,K k→k<w.heap.size
def Base.of (w:World):Base:=⟨w,fun k=>k<w.heap.size,fun _ h=>h⟩
instance:Coe World Base:=⟨Base.of⟩
structure KB (B:Base) (w:World):Prop where
 os:w.os=B.w.os
 tape:w.tape=B.w.tape
 output:w.output=B.w.output
 size:B.w.heap.size≤w.heap.size
 block:∀k,B.K k→w.heap[k]? =B.w.heap[k]?
theorem KB.refl (B:Base):KB B B.w:=⟨rfl,rfl,rfl,Nat.le_refl _,fun _ _=>rfl⟩
theorem KB.new {B:Base} {w:World} (h:KB B w):¬B.K w.heap.size:=fun hk=>Nat.lt_irrefl _ (Nat.lt_of_lt_of_le (B.lt _ hk) h.size)
theorem KB.beyond {B:Base} {w:World} (h:KB B w) {b:Nat} (hb:w.heap.size≤b):¬B.K b:=fun hk=>Nat.lt_irrefl _ (Nat.lt_of_lt_of_le (Nat.lt_of_lt_of_le (B.lt _ hk) h.size) hb)
theorem KB.put {B:Base} {w w':World} (h:KB B w) (e1:w'.os=w.os) (e2:w'.tape=w.tape) (e3:w'.output=w.output) (e4:w.heap.size≤w'.heap.size) (e5:∀k,B.K k→w'.heap[k]? =w.heap[k]?):KB B w':=
 ⟨e1.trans h.os,e2.trans h.tape,e3.trans h.output,Nat.le_trans h.size e4,fun k hk=>(e5 k hk).trans (h.block k hk)⟩
theorem KB.trans {B:Base} {w w':World} (h:KB B w) (hb:Below w.heap.size w w'):KB B w':=
 h.put hb.os hb.tape hb.output hb.size fun k hk=>hb.block k (Nat.lt_of_lt_of_le (B.lt _ hk) h.size)
theorem KB.drew {B:Base} {w:World} (h:KB B w):KB B w.drew:=⟨h.os,h.tape,h.output,h.size,h.block⟩
theorem KB.alloc {B:Base} {w:World} (h:KB B w) (o:Obj):KB B (w.alloc o):=
 h.put rfl rfl rfl (by simp) fun k hk=>Below.heap_alloc _ _ _ (Nat.lt_of_lt_of_le (B.lt _ hk) h.size)
theorem KB.below {w w':World} (h:KB (Base.of w) w'):Below w.heap.size w w':=⟨h.os,h.tape,h.output,h.size,fun k hk=>h.block k hk⟩
theorem KB.cell {B:Base} {w:World} (h:KB B w) {p:Addr} (hp:B.K p.block):w.cell? p=B.w.cell? p:=World.cell?_of_block (w:=B.w) (h.block p.block hp)
structure MRel (w0:Base) (φ:Loc) (mem:List Blk) (w:World):Prop where
 below:KB w0 w
 inj:∀(i j:Nat) (b b':Blk),mem[i]? =some b→mem[j]? =some b'→b.live=true→b'.live=true→b.ro=false→b'.ro=false→(φ i).1=(φ j).1→i=j
 own:∀(i:Nat) (b:Blk),mem[i]? =some b→b.live=true→b.ro=false→¬w0.K (φ i).1∧(φ i).2.1=0
 old:∀(i:Nat) (b:Blk),mem[i]? =some b→b.live=true→b.ro=true→w0.K (φ i).1∧∀j v,(concs φ b.ps)[j]? =some v→w0.w.cell? ⟨(φ i).1,(φ i).2.1+j,none⟩=some v
 blk:∀(i:Nat) (b:Blk),mem[i]? =some b→b.live=true→b.ro=false→Holds w (φ i) (concs φ b.ps) b
 wf:∀(i:Nat) (b:Blk),mem[i]? =some b→allPtr (ltB mem.length) b.ps=true
theorem lt_of_getElem? {α:Type} {l:List α} {i:Nat} {b:α} (hb:l[i]? =some b):i<l.length:=by
 rcases Nat.lt_or_ge i l.length with h'|h'
 ·exact h'
 ·rw[List.getElem?_eq_none h'] at hb;simp at hb
theorem MRel.lt {w0:Base} {w:World} {φ:Loc} {mem:List Blk} (h:MRel w0 φ mem w) {i:Nat} {b:Blk} (hb:mem[i]? =some b) (hl:b.live=true):(φ i).1<w.heap.size:=by
 cases hro:b.ro with
 |false=>
  obtain ⟨_,_,_,this,_⟩:=h.blk i b hb hl hro
  rcases Nat.lt_or_ge (φ i).1 w.heap.size with h'|h'
  ·exact h'
  ·rw[Array.getElem?_eq_none h'] at this;simp at this
 |true=>exact Nat.lt_of_lt_of_le (w0.lt _ (h.old i b hb hl hro).1) h.below.size
theorem MRel.agree {w0:Base} {w:World} {φ φ':Loc} {mem:List Blk} (h:MRel w0 φ mem w) (ha:Agree mem.length φ φ'):MRel w0 φ' mem w where
 below:=h.below
 inj:=fun i j b b' hb hb' hl hl' hr hr' e=>h.inj i j b b' hb hb' hl hl' hr hr' (by rw[←ha i (lt_of_getElem? hb),←ha j (lt_of_getElem? hb')];exact e)
 own:=fun i b hb hl hr=>by rw[ha i (lt_of_getElem? hb)];exact h.own i b hb hl hr
 old:=fun i b hb hl hr=>by rw[ha i (lt_of_getElem? hb),concs_agree ha _ (h.wf i b hb)];exact h.old i b hb hl hr
 blk:=fun i b hb hl hr=>by rw[ha i (lt_of_getElem? hb),concs_agree ha _ (h.wf i b hb)];exact h.blk i b hb hl hr
 wf:=h.wf
theorem MRel.below_of {w0:Base} {w:World} {φ:Loc} {m:List Blk} (h:MRel w0 φ m w) {w':World} (hb:Below w.heap.size w w'):MRel w0 φ m w':=
 ⟨h.below.trans hb,h.inj,h.own,h.old,fun i b hb' hl hr=>by unfold Holds;rw[hb.block _ (h.lt hb' hl)];exact h.blk i b hb' hl hr,h.wf⟩
theorem MRel.alloc {w0:Base} {w:World} {φ:Loc} {mem:List Blk} (h:MRel w0 φ mem w) (ps:List Piece) (e:TypeId) (hp:allPtr (ltB mem.length) ps=true):
  ∃φ':Loc,Agree mem.length φ φ'∧φ' mem.length=(w.heap.size,0,0)∧MRel w0 φ' (mem++[⟨ps,e,true,false,0⟩]) (w.alloc (.cells (concs φ ps).toArray e)):=by
 have hag:Agree mem.length φ (fun b=>if b=mem.length then (w.heap.size,0,0) else φ b):=fun b hb=>by simp;omega
 refine ⟨fun b=>if b=mem.length then (w.heap.size,0,0) else φ b,hag,by simp,?_⟩
 have h':=h.agree hag
 have split:∀(i:Nat) (b:Blk),(mem++[(⟨ps,e,true,false,0⟩:Blk)])[i]? =some b→(i=mem.length∧b=⟨ps,e,true,false,0⟩)∨(i<mem.length∧mem[i]? =some b):=by
  intro i b hb
  have hi:=lt_of_getElem? hb
  simp only[List.length_append,List.length_cons,List.length_nil] at hi
  by_cases h1:i=mem.length
  ·subst h1;simp at hb;exact .inl ⟨rfl,hb.symm⟩
  ·have h2:i<mem.length:=by omega
   rw[List.getElem?_append_left h2] at hb
   exact .inr ⟨h2,hb⟩
 constructor
 ·exact h.below.alloc _
 ·intro i j b b' hb hb' hl hl' hr hr' e
  rcases split i b hb with ⟨h1,rfl⟩|⟨h1,hb1⟩<;>rcases split j b' hb' with ⟨h2,rfl⟩|⟨h2,hb2⟩
  ·omega
  ·have:=h.lt hb2 hl'
   simp only[h1,if_true,show ¬j=mem.length by omega,if_false] at e;omega
  ·have:=h.lt hb1 hl
   simp only[h2,if_true,show ¬i=mem.length by omega,if_false] at e;omega
  ·exact h'.inj i j b b' hb1 hb2 hl hl' hr hr' e
 ·intro i b hb hl hr
  rcases split i b hb with ⟨h1,rfl⟩|⟨h1,hb1⟩
  ·simp only[h1,if_true];exact ⟨h.below.new,trivial⟩
  ·exact h'.own i b hb1 hl hr
 ·intro i b hb hl hr
  rcases split i b hb with ⟨h1,rfl⟩|⟨h1,hb1⟩
  ·cases hr
  ·exact h'.old i b hb1 hl hr
 ·intro i b hb hl hr
  rcases split i b hb with ⟨h1,rfl⟩|⟨h1,hb1⟩
  ·refine ⟨[],0,0,?_,by simp,by simp⟩
   simp only[h1,if_true,World.alloc,Array.getElem?_push_size,Option.some.injEq,Obj.cells.injEq,List.append_nil]
   exact ⟨by rw[concs_agree hag _ hp],trivial,trivial⟩
  ·have:=h'.blk i b hb1 hl hr
   have h3:=h'.lt hb1 hl
   unfold Holds at this ⊢
   simp only[World.alloc]
   rw[Array.getElem?_push,if_neg (by omega)]
   exact this
 ·intro i b hb
  simp only[List.length_append,List.length_cons,List.length_nil]
  rcases split i b hb with ⟨h1,rfl⟩|⟨h1,hb1⟩
  ·exact allPtr_mono (by omega) _ hp
  ·exact allPtr_mono (by omega) _ (h.wf i b hb1)
theorem MRel.write {w0:Base} {w w':World} {φ:Loc} {mem:List Blk} (h:MRel w0 φ mem w) {b:Nat} {k:Blk} (hk:mem[b]? =some k) (hlv:k.live=true) (hro:k.ro=false) (qs:List Piece)
  (hp:allPtr (ltB mem.length) qs=true) (hb:KB w0 w') (hsame:∀j,j≠(φ b).1→w'.heap[j]? =w.heap[j]?)
  (hnew:Holds w' (φ b) (concs φ qs) k):MRel w0 φ (mem.set b {k with ps:=qs}) w':=by
 have hbl:=lt_of_getElem? hk
 have split:∀(i:Nat) (x:Blk),(mem.set b {k with ps:=qs})[i]? =some x→(i=b∧x={k with ps:=qs})∨(i≠b∧mem[i]? =some x):=by
  intro i x hx
  by_cases h1:i=b
  ·subst h1
   rw[List.getElem?_set_self hbl] at hx
   simp only[Option.some.injEq] at hx
   exact .inl ⟨rfl,hx.symm⟩
  ·rw[List.getElem?_set_ne (by omega)] at hx
   exact .inr ⟨h1,hx⟩
 constructor
 ·exact hb
 ·intro i j x x' hx hx' hl hl' hr hr' e
  rcases split i x hx with ⟨h1,rfl⟩|⟨h1,hx1⟩<;>rcases split j x' hx' with ⟨h2,rfl⟩|⟨h2,hx2⟩
  ·omega
  ·subst h1;exact h.inj _ _ _ _ hk hx2 hlv hl' hro hr' e
  ·subst h2;exact h.inj _ _ _ _ hx1 hk hl hlv hr hro e
  ·exact h.inj _ _ _ _ hx1 hx2 hl hl' hr hr' e
 ·intro i x hx hl hr
  rcases split i x hx with ⟨h1,rfl⟩|⟨h1,hx1⟩
  ·subst h1;exact h.own _ _ hk hlv hro
  ·exact h.own _ _ hx1 hl hr
 ·intro i x hx hl hr
  rcases split i x hx with ⟨h1,rfl⟩|⟨h1,hx1⟩
  ·simp only[hro] at hr;cases hr
  ·exact h.old _ _ hx1 hl hr
 ·intro i x hx hl hr
  rcases split i x hx with ⟨h1,rfl⟩|⟨h1,hx1⟩
  ·subst h1;exact hnew
  ·unfold Holds
   rw[hsame _ (fun e=>h1 (h.inj _ _ _ _ hx1 hk hl hlv hr hro e))]
   exact h.blk i x hx1 hl hr
 ·intro i x hx
  simp only[List.length_set]
  rcases split i x hx with ⟨h1,rfl⟩|⟨h1,hx1⟩
  ·exact hp
  ·exact h.wf i x hx1
section
variable {P:Program} {w0:Base} {w:World} {φ:Loc} {mem:List Blk}
theorem underlying_run {t:TypeId} {d:TypeDesc} (h:P.underlying t=some d) (w:World):(underlying t).run P w= .ok d w:=by
 simp[underlying,h]
theorem sizeA_run {t:TypeId} {n:Nat} (h:sizeA P t=some n) (w:World):(sizeOf t).run P w= .ok n w:=by
 unfold sizeA at h
 split at h
 ·rename_i i hi
  simp only[Option.some.injEq] at h
  simp[sizeOf,typeInfo,hi,h]
 ·simp at h
theorem isAggA_run {t:TypeId} {b:Bool} (h:isAggA P t=some b) (w:World):(isAgg t).run P w= .ok b w:=by
 unfold isAggA at h
 split at h<;>rename_i hu
 ·simp at h
 ·simp only[Option.some.injEq] at h;subst h;simp[isAgg,underlying,hu]
 ·simp only[Option.some.injEq] at h;subst h;simp[isAgg,underlying,hu]
 ·rename_i d h1 h2
  simp only[Option.some.injEq] at h
  subst h
  simp only[isAgg,Sem.run_bind,underlying,run_program,Result.andThen_ok,hu]
  cases d<;>first|rfl|exact absurd hu (by simp_all)
theorem MRel.cell (h:MRel w0 φ mem w) {b:Nat} {k:Blk} (hk:mem[b]? =some k) (hlv:k.live=true) {off:Nat} {v:Value} (hv:(concs φ k.ps)[off]? =some v):
  w.cell? ⟨(φ b).1,(φ b).2.1+off,none⟩=some v:=by
 cases hro:k.ro with
 |false=>
  obtain ⟨tail,lo,hi,h1,_⟩:=h.blk b k hk hlv hro
  have h2:=(h.own b k hk hlv hro).2
  have h3:=lt_of_getElem? hv
  simp[World.cell?,h1,h2,List.getElem?_append_left h3,hv]
 |true=>
  obtain ⟨h1,h2⟩:=h.old b k hk hlv hro
  have:=h2 off v hv
  rwa[←h.below.cell (p:=⟨(φ b).1,(φ b).2.1+off,none⟩) h1] at this
theorem add_own0 (b off i:Nat):(⟨b,off,none⟩:Addr).add i=⟨b,off+i,none⟩:=by
 unfold Addr.add
 split
 ·subst_vars;rfl
 ·rfl
theorem add_own (b x off i:Nat):(⟨b,x+off,none⟩:Addr).add i=⟨b,x+(off+i),none⟩:=by
 unfold Addr.add
 split
 ·subst_vars;rfl
 ·simp[Nat.add_assoc]
theorem loadCells_run (h:MRel w0 φ mem w) {b:Nat} {k:Blk} (hk:mem[b]? =some k) (hlv:k.live=true) {off n:Nat} {r:List Piece} (hr:cutP k.ps off n=some r):
  (loadCells ⟨(φ b).1,(φ b).2.1+off,none⟩ n).run P w= .ok (concs φ r).toArray w:=by
 obtain ⟨h1,h2,h3⟩:=cutP_spec (φ:=φ) hr
 have:=run_loadCells_list (P:=P) w ⟨(φ b).1,(φ b).2.1+off,none⟩ (concs φ r) (fun j v hj=>by
  rw[add_own]
  refine h.cell hk hlv ?_
  have hjl:=lt_of_getElem? hj
  rw[h1,List.getElem?_take_of_lt (by omega),List.getElem?_drop] at hj
  exact hj)
 rwa[h3] at this
theorem loadVar_run (h:MRel w0 φ mem w) {b:Nat} {k:Blk} (hk:mem[b]? =some k) (hlv:k.live=true) {off:Nat} {t:TypeId} {v:V1} (hv:partA P t k.ps off=some v):
  (loadVar t ⟨(φ b).1,(φ b).2.1+off,none⟩).run P w= .ok (v.conc φ) w:=by
 unfold partA at hv
 split at hv
 ·rename_i ha
  split at hv
  ·rename_i n hn
   split at hv
   ·rename_i r hr
    simp only[Option.some.injEq] at hv
    subst hv
    simp only[loadVar,Sem.run_bind,isAggA_run ha,Result.andThen_ok,if_true,sizeA_run hn,loadCells_run h hk hlv hr,V1.conc]
    rfl
   ·simp at hv
  ·simp at hv
 ·rename_i ha
  split at hv
  ·rename_i r hr
   split at hv
   ·rename_i x hx
    simp only[Option.some.injEq] at hv
    subst hv
    obtain ⟨h1,h2⟩:=dropP_spec (φ:=φ) _ _ _ hr
    have h3:=headA_spec (φ:=φ) hx
    rw[h1,List.getElem?_drop] at h3
    have h4:=h.cell hk hlv h3
    simp only[Nat.add_zero] at h4
    simp[loadVar,isAggA_run ha,h4,V1.conc]
   ·simp at hv
  ·simp at hv
 ·simp at hv
theorem loadsAs_run (h:MRel w0 φ mem w) {b:Nat} {k:Blk} (hk:mem[b]? =some k) (hlv:k.live=true) {off:Nat} {t:TypeId} {v:V1} (hv:LoadsAs P t k.ps off v):
  (loadVar t ⟨(φ b).1,(φ b).2.1+off,none⟩).run P w= .ok (v.conc φ) w:=by
 have hv:=hv φ
 cases v with
 |agg r=>
  obtain ⟨ha,n,hn,h1,h3⟩:=hv
  have:=run_loadCells_list (P:=P) w ⟨(φ b).1,(φ b).2.1+off,none⟩ (concs φ r) (fun j v hj=>by
   rw[add_own]
   refine h.cell hk hlv ?_
   have hjl:=lt_of_getElem? hj
   rw[h1,List.getElem?_take_of_lt (by omega),List.getElem?_drop] at hj
   exact hj)
  rw[h3] at this
  simp only[loadVar,Sem.run_bind,isAggA_run ha,Result.andThen_ok,if_true,sizeA_run hn,this,V1.conc]
  rfl
 |one x=>
  obtain ⟨ha,h3⟩:=hv
  have h4:=h.cell hk hlv h3
  simp[loadVar,isAggA_run ha,h4,V1.conc]
theorem rowLd_spec {orc:FuncId→List V1→Option V1} {t:TypeId} {x:Option V1} {ob:List Prop} {v:V1} {b:Nat} (h:rowLd P orc mem t x=some (ob,v,b)) (ho:All ob):
  ∃k off,x=some (.one (.ptr b off))∧mem[b]? =some k∧k.live=true∧LoadsAs P t k.ps off v∧v.wf 0=true:=by
 unfold rowLd at h
 split at h
 ·rename_i b' off
  split at h
  ·rename_i k hk
   split at h
   ·rename_i v' hlv _
    split at h
    ·rename_i hw
     simp only[Option.some.injEq,Prod.mk.injEq] at h
     obtain ⟨rfl,rfl,rfl⟩:=h
     exact ⟨k,off,rfl,hk,hlv,ho.1,hw⟩
    ·simp at h
   ·simp at h
  ·simp at h
 ·simp at h
theorem part_run {t:TypeId} {ps:List Piece} {off:Nat} {v:V1} (hv:partA P t ps off=some v) (w:World):
  (part t (concs φ ps).toArray off).run P w= .ok (v.conc φ) w:=by
 unfold partA at hv
 split at hv
 ·rename_i ha
  split at hv
  ·rename_i n hn
   split at hv
   ·rename_i r hr
    simp only[Option.some.injEq] at hv
    subst hv
    obtain ⟨h1,h2,h3⟩:=cutP_spec (φ:=φ) hr
    simp only[part,Sem.run_bind,isAggA_run ha,Result.andThen_ok,if_true,sizeA_run hn,V1.conc,h1]
    simp
   ·simp at hv
  ·simp at hv
 ·rename_i ha
  split at hv
  ·rename_i r hr
   split at hv
   ·rename_i x hx
    simp only[Option.some.injEq] at hv
    subst hv
    obtain ⟨h1,h2⟩:=dropP_spec (φ:=φ) _ _ _ hr
    have h3:=headA_spec (φ:=φ) hx
    rw[h1,List.getElem?_drop] at h3
    simp only[Nat.add_zero] at h3
    simp[part,isAggA_run ha,h3,V1.conc]
   ·simp at hv
  ·simp at hv
 ·simp at hv
theorem storeCells_run (g o:Nat) (t:TypeId) (lo hi:Nat):∀(vs:List Value) (i:Nat) (cur:List Value) (w:World),
  w.heap[g]? =some (.cells cur.toArray t (lo,hi))→o+i+vs.length≤cur.length→(∀v∈vs,v.oneCell'=true)→
  (∀j,o+i≤j→j<o+i+vs.length→¬(lo≤j∧j<hi))→
  (storeCells ⟨g,o,none⟩ vs i).run P w= .ok () {w with heap:=w.heap.setIfInBounds g (.cells (cur.take (o+i)++(vs++cur.drop (o+i+vs.length))).toArray t (lo,hi))}
 |[],i,cur,w,hg,hl,hv,hf=>by
  simp only[storeCells,List.length_nil,Nat.add_zero,List.nil_append,List.take_append_drop]
  have hlt:g<w.heap.size:=by
   rcases Nat.lt_or_ge g w.heap.size with h|h
   ·exact h
   ·rw[Array.getElem?_eq_none h] at hg;simp at hg
  have:w.heap.setIfInBounds g (.cells cur.toArray t (lo,hi))=w.heap:=by
   apply Array.ext_getElem?
   intro j
   rw[Array.getElem?_setIfInBounds]
   split
   ·subst_vars;simp[hlt];simp[Array.getElem?_eq_getElem hlt] at hg;exact hg.symm
   ·rfl
  rw[this];rfl
 |v::vs,i,cur,w,hg,hl,hv,hf=>by
  simp only[List.length_cons] at hl hf
  have hcell:w.cell? ⟨g,o+i,none⟩=some (cur[o+i]'(by omega)):=by
   simp[World.cell?,hg]
  have hfr:w.frozen? ⟨g,o+i,none⟩=false:=by
   have:=hf (o+i) (by omega) (by omega)
   simp only[World.frozen?,hg]
   simp only[Bool.and_eq_false_iff,decide_eq_false_iff_not]
   omega
  have hst:=run_store P w ⟨g,o+i,none⟩ v .plain (hv v (by simp))
  rw[hcell] at hst
  simp only[hfr,Bool.false_eq_true,if_false] at hst
  have hlt:g<w.heap.size:=by
   rcases Nat.lt_or_ge g w.heap.size with h|h
   ·exact h
   ·rw[Array.getElem?_eq_none h] at hg;simp at hg
  have hset:w.setCell ⟨g,o+i,none⟩ v={w with heap:=w.heap.setIfInBounds g (.cells (cur.set (o+i) v).toArray t (lo,hi))}:=by
   simp only[World.setCell]
   congr 1
   apply Array.ext_getElem?
   intro j
   rw[Array.getElem?_modify,Array.getElem?_setIfInBounds]
   split
   ·subst_vars
    have hg':=hg
    rw[Array.getElem?_eq_getElem hlt] at hg'
    simp only[Option.some.injEq] at hg'
    simp[hlt,hg']
   ·rfl
  have ih:=storeCells_run g o t lo hi vs (i+1) (cur.set (o+i) v) {w with heap:=w.heap.setIfInBounds g (.cells (cur.set (o+i) v).toArray t (lo,hi))}
   (by simp[hlt]) (by simp;omega) (fun x hx=>hv x (by simp[hx])) (fun j h1 h2=>hf j (by omega) (by omega))
  simp only[storeCells,Sem.run_bind,add_own0,hst,Result.andThen_ok,hset,ih]
  congr 1
  have hlist:(cur.set (o+i) v).take (o+(i+1))++(vs++(cur.set (o+i) v).drop (o+(i+1)+vs.length))=cur.take (o+i)++(v::vs++cur.drop (o+i+(v::vs).length)):=by
   apply List.ext_getElem?
   intro j
   have e1:min (o+(i+1)) cur.length=o+i+1:=by omega
   have e2:min (o+i) cur.length=o+i:=by omega
   simp only[List.getElem?_append,List.length_take,List.length_set,List.getElem?_take,List.getElem?_drop,List.getElem?_set,e1,e2,List.length_cons,List.getElem?_cons]
   by_cases h1:j<o+i
   ·simp[h1,show j<o+i+1 by omega,show j<o+(i+1) by omega,show ¬o+i=j by omega]
   ·by_cases h2:j=o+i
    ·subst h2
     rw[if_pos (by omega),if_pos (by omega),if_pos rfl,if_pos (by omega),if_neg (by omega),if_pos (by omega),if_pos (by omega)]
    ·rw[if_neg (by omega),if_neg h1]
     by_cases h3:j-(o+i+1)<vs.length
     ·rw[if_pos h3,if_pos (by omega),if_neg (by omega),show j-(o+i)-1=j-(o+i+1) by omega]
     ·rw[if_neg h3,if_neg (by omega)]
      rw[if_neg (by omega)]
      congr 1;omega
  rw[hlist]
  simp
end
section
variable {P : Program} {w0 : Base} {w : World} {φ : Loc} {mem : List Blk}
theorem bitsOf_cast (k : IntKind) : ((bitsOf k : Nat) : Int) = (2 : Int) ^ k.bits := by simp [bitsOf]
theorem bitsOf_pos (k : IntKind) : 0 < bitsOf k := Nat.two_pow_pos _
theorem wrap_un {k : IntKind} (hk : unsigned k = true) (z : Int) : k.wrap z = z % ((bitsOf k : Nat) : Int) := by
  rw [bitsOf_cast]
  cases k <;> simp [unsigned] at hk <;> simp [IntKind.wrap, IntKind.signed]
theorem wrap_nat {k : IntKind} (hk : unsigned k = true) (n : Nat) : k.wrap (n : Int) = ((n % bitsOf k : Nat) : Int) := by
  rw [wrap_un hk]; simp
theorem ofVal_conc (x : Value) : (ofVal x).conc φ = x := by
  unfold ofVal
  split <;> rfl
theorem sub_un {k : IntKind} (hk : unsigned k = true) (x y : Nat) : k.wrap ((x : Int) - (y : Int)) = (((x + (bitsOf k - y % bitsOf k)) % bitsOf k : Nat) : Int) := by
  rw [wrap_un hk]
  have hb := bitsOf_pos k
  have hm := Nat.mod_lt y hb
  generalize bitsOf k = B at *
  have e : (x : Int) - (y : Int) = ((x + (B - y % B) : Nat) : Int) - (B : Int) * ((y / B : Nat) + 1 : Int) := by
    have := Nat.div_add_mod y B
    have h2 : ((y : Nat) : Int) = (B : Int) * ((y / B : Nat) : Int) + ((y % B : Nat) : Int) := by exact_mod_cast this.symm
    have h3 : ((x + (B - y % B) : Nat) : Int) = (x : Int) + ((B : Int) - ((y % B : Nat) : Int)) := by
      rw [Int.natCast_add, Int.natCast_sub (Nat.le_of_lt hm)]
    rw [h3, Int.mul_add, Int.mul_one]
    omega
  rw [e, Int.sub_mul_emod_self_left]
  simp
theorem bv_wrap {k : IntKind} (hk : unsigned k = true) (r : BitVec k.bits) : k.wrap ((r.toNat : Nat) : Int) = ((r.toNat : Nat) : Int) := by
  rw [wrap_nat hk, Nat.mod_eq_of_lt]
  exact r.isLt
theorem ofInt_nat (k : IntKind) (n : Nat) : (BitVec.ofInt k.bits (n : Int)).toNat = n % bitsOf k := by
  simp [bitsOf]
theorem cmpN_run {op : BinOp} {x y : Nat} {b : Bool} (h : cmpN op x y = some b) (w : World) : (Op.intCmp op (x : Int) (y : Int)).run P w = .ok (.bool b) w := by
  unfold cmpN at h
  split at h <;> first
    | (simp only [Option.some.injEq] at h; subst h; simp [Op.intCmp]; done)
    | (simp only [Option.some.injEq] at h; subst h; simp only [Op.intCmp, Sem.run_pure]; congr 2; rw [Bool.eq_iff_iff]; simp; try omega)
    | (simp at h)
theorem cmpZ_run {op : BinOp} {x y : Int} {b : Bool} (h : cmpZ op x y = some b) (w : World) : (Op.intCmp op x y).run P w = .ok (.bool b) w := by
  have e1 : (x == y) = decide (x = y) := by rw [Bool.eq_iff_iff]; simp
  have e2 : (x != y) = !decide (x = y) := by rw [Bool.eq_iff_iff]; simp
  unfold cmpZ at h
  split at h <;> first
    | (simp only [Option.some.injEq] at h; rw [← h]; simp only [Op.intCmp, Sem.run_pure, e1, e2]; done)
    | (simp only [Option.some.injEq] at h; rw [← h]; rfl)
    | (simp at h; done)
theorem must_spec {s : Bool} {p : Prop} [Decidable p] {o : List Prop} (h : must s p = some o) (ho : All o) : p := by
  unfold must at h
  cases s
  · simp only at h
    split at h
    · rename_i hd; exact of_decide_eq_true hd
    · simp at h
  · simp only [Option.some.injEq] at h; subst h; exact ho.1
theorem eqGuard_run {op : BinOp} {t : TypeId} {X Y : Operand} {a b : Value} (h1 : a ≠ .nilIface) (h2 : ∀ cs, a ≠ .agg cs) (w : World) :
    (eqGuard op t X Y a b).run P w = .ok () w := by
  unfold eqGuard
  cases op <;> first | rfl | (cases a <;> first | rfl | exact absurd rfl h1 | exact absurd rfl (h2 _))
theorem arithN_run {s : Bool} {op : BinOp} {k : IntKind} {x y : Nat} {o : List Prop} {r : Atom} (hk : unsigned k = true) (h : arithN s op k x y = some (o, r)) (ho : All o) (hs : isShift op = false)
    (t : TypeId) (w : World) : (binOp op t (.int k (x : Int)) (.int k (y : Int))).run P w = .ok (r.conc φ) w := by
  cases op <;> simp only [arithN, isShift, Bool.true_eq_false] at h hs
  case add => simp only [Option.some.injEq, Prod.mk.injEq] at h; obtain ⟨rfl, rfl⟩ := h; simp only [binOp, ne_eq, not_true_eq_false, if_false, Op.intArith, Sem.run_pure, Atom.conc]; rw [← Int.natCast_add, wrap_nat hk]
  case sub => simp only [Option.some.injEq, Prod.mk.injEq] at h; obtain ⟨rfl, rfl⟩ := h; simp only [binOp, ne_eq, not_true_eq_false, if_false, Op.intArith, Sem.run_pure, Atom.conc]; rw [sub_un hk]
  case mul => simp only [Option.some.injEq, Prod.mk.injEq] at h; obtain ⟨rfl, rfl⟩ := h; simp only [binOp, ne_eq, not_true_eq_false, if_false, Op.intArith, Sem.run_pure, Atom.conc]; rw [← Int.natCast_mul, wrap_nat hk]
  case quo =>
    split at h
    · rename_i o' hm
      simp only [Option.some.injEq, Prod.mk.injEq] at h; obtain ⟨rfl, rfl⟩ := h
      have hy := must_spec hm ho
      have hy' : ¬ ((y : Int) = 0) := by omega
      simp only [binOp, ne_eq, not_true_eq_false, if_false, Op.intDiv, hy', Sem.run_pure, Atom.conc]; rw [← Int.ofNat_tdiv, wrap_nat hk]
    · simp at h
  case rem =>
    split at h
    · rename_i o' hm
      simp only [Option.some.injEq, Prod.mk.injEq] at h; obtain ⟨rfl, rfl⟩ := h
      have hy := must_spec hm ho
      have hy' : ¬ ((y : Int) = 0) := by omega
      simp only [binOp, ne_eq, not_true_eq_false, if_false, Op.intDiv, hy', Sem.run_pure, Atom.conc]; rw [← Int.ofNat_tmod]
    · simp at h
  case and => simp only [Option.some.injEq, Prod.mk.injEq] at h; obtain ⟨rfl, rfl⟩ := h; simp only [binOp, ne_eq, not_true_eq_false, if_false, Op.intBits, Sem.run_pure, Atom.conc]; rw [bv_wrap hk, BitVec.toNat_and, ofInt_nat, ofInt_nat]
  case or => simp only [Option.some.injEq, Prod.mk.injEq] at h; obtain ⟨rfl, rfl⟩ := h; simp only [binOp, ne_eq, not_true_eq_false, if_false, Op.intBits, Sem.run_pure, Atom.conc]; rw [bv_wrap hk, BitVec.toNat_or, ofInt_nat, ofInt_nat]
  case xor => simp only [Option.some.injEq, Prod.mk.injEq] at h; obtain ⟨rfl, rfl⟩ := h; simp only [binOp, ne_eq, not_true_eq_false, if_false, Op.intBits, Sem.run_pure, Atom.conc]; rw [bv_wrap hk, BitVec.toNat_xor, ofInt_nat, ofInt_nat]
  case andNot => simp only [Option.some.injEq, Prod.mk.injEq] at h; obtain ⟨rfl, rfl⟩ := h; simp only [binOp, ne_eq, not_true_eq_false, if_false, Op.intBits, Sem.run_pure, Atom.conc]; rw [bv_wrap hk, BitVec.toNat_and, BitVec.toNat_not, ofInt_nat, ofInt_nat]; rfl
  all_goals
    split at h
    · rename_i b hb
      simp only [Option.some.injEq, Prod.mk.injEq] at h; obtain ⟨rfl, rfl⟩ := h
      simp only [binOp, ne_eq, not_true_eq_false, if_false, Atom.conc]
      exact cmpN_run hb w
    · simp at h
theorem wrap64_inI {z : Int} (h : inI z) : IntKind.i64.wrap z = z := IntWalk.i64_in z ⟨h.1, by have := h.2; omega⟩
theorem arithZ_run {s : Bool} {op : BinOp} {x y : Int} {o : List Prop} {r : Atom} (h : arithZ s op x y = some (o, r)) (ho : All o) (hs : isShift op = false)
    (t : TypeId) (w : World) : (binOp op t (.int .i64 x) (.int .i64 y)).run P w = .ok (r.conc φ) w := by
  cases op <;> simp only [arithZ, isShift, Bool.true_eq_false] at h hs
  case add =>
    split at h
    · rename_i o' hm
      simp only [Option.some.injEq, Prod.mk.injEq] at h; obtain ⟨rfl, rfl⟩ := h
      simp only [binOp, ne_eq, not_true_eq_false, if_false, Op.intArith, Sem.run_pure, Atom.conc, wrap64_inI (must_spec hm ho)]
    · simp at h
  case sub =>
    split at h
    · rename_i o' hm
      simp only [Option.some.injEq, Prod.mk.injEq] at h; obtain ⟨rfl, rfl⟩ := h
      simp only [binOp, ne_eq, not_true_eq_false, if_false, Op.intArith, Sem.run_pure, Atom.conc, wrap64_inI (must_spec hm ho)]
    · simp at h
  case mul =>
    split at h
    · rename_i o' hm
      simp only [Option.some.injEq, Prod.mk.injEq] at h; obtain ⟨rfl, rfl⟩ := h
      simp only [binOp, ne_eq, not_true_eq_false, if_false, Op.intArith, Sem.run_pure, Atom.conc, wrap64_inI (must_spec hm ho)]
    · simp at h
  case quo =>
    split at h
    · rename_i o' hm
      simp only [Option.some.injEq, Prod.mk.injEq] at h; obtain ⟨rfl, rfl⟩ := h
      obtain ⟨hy, hi⟩ := must_spec hm ho
      simp only [binOp, ne_eq, not_true_eq_false, if_false, Op.intDiv, hy, Sem.run_pure, Atom.conc, wrap64_inI hi]
    · simp at h
  case rem =>
    split at h
    · rename_i o' hm
      simp only [Option.some.injEq, Prod.mk.injEq] at h; obtain ⟨rfl, rfl⟩ := h
      have hy := must_spec hm ho
      simp only [binOp, ne_eq, not_true_eq_false, if_false, Op.intDiv, hy, Sem.run_pure, Atom.conc]
    · simp at h
  case and =>
    simp only [Option.some.injEq, Prod.mk.injEq] at h; obtain ⟨rfl, rfl⟩ := h
    simp only [binOp, ne_eq, not_true_eq_false, if_false, Op.intBits, Sem.run_pure, Atom.conc]
    rfl
  all_goals first
    | (simp [cmpZ] at h; done)
    | (split at h
       · rename_i b hb
         simp only [Option.some.injEq, Prod.mk.injEq] at h; obtain ⟨rfl, rfl⟩ := h
         simp only [binOp, ne_eq, not_true_eq_false, if_false, Atom.conc]
         exact cmpZ_run hb w
       · simp at h)
theorem shrZ_run {s : Bool} {op : BinOp} {x y : Int} {o : List Prop} {r : Atom} (h : shrZ s op x y = some (o, r)) (ho : All o) (t : TypeId) (w : World) : (binOp op t (.int .i64 x) (.int .i64 y)).run P w = .ok (r.conc φ) w := by
  unfold shrZ at h
  split at h
  · split at h
    · rename_i o' hm
      simp only [Option.some.injEq, Prod.mk.injEq] at h; obtain ⟨rfl, rfl⟩ := h
      have hy := must_spec hm ho
      simp only [binOp, Op.shift, show ¬ (y < 0) by omega, if_false, Sem.run_pure, Atom.conc]
      rfl
    · simp at h
  · simp at h
theorem shiftN_run {op : BinOp} {k : IntKind} {x n : Nat} {r : Atom} (hk : unsigned k = true) (h : shiftN op k x n = some r) (yk : IntKind) (t : TypeId) (w : World) :
    (binOp op t (.int k (x : Int)) (.int yk (n : Int))).run P w = .ok (r.conc φ) w := by
  cases op <;> simp only [shiftN, Option.some.injEq, reduceCtorEq] at h
  case shl =>
    subst h
    simp only [binOp, Op.shift, show ¬ ((n : Int) < 0) by omega, if_false, Sem.run_pure, Atom.conc, Int.toNat_natCast]
    have : ((x : Int) * 2 ^ (min n k.bits)) = ((x * 2 ^ (min n k.bits) : Nat) : Int) := by simp
    rw [this, wrap_nat hk]
  case shr =>
    subst h
    simp only [binOp, Op.shift, show ¬ ((n : Int) < 0) by omega, if_false, Sem.run_pure, Atom.conc, Int.toNat_natCast]
    have : (2 : Int) ^ (min n k.bits) = ((2 ^ (min n k.bits) : Nat) : Int) := by simp
    rw [this, Int.fdiv_eq_ediv_of_nonneg _ (Int.natCast_nonneg _), ← Int.natCast_ediv]
theorem pureRun_run {α : Type} : ∀ (s : Sem α) {a : α}, pureRun P s = some a → ∀ w, s.run P w = .ok a w
  | .pure a, b, h, w => by simp only [pureRun, Option.some.injEq] at h; subst h; rfl
  | .program k, b, h, w => by simp only [pureRun] at h; simp only [Sem.run]; exact pureRun_run (k P) h w
  | .load .., _, h, _ => by simp [pureRun] at h
  | .store .., _, h, _ => by simp [pureRun] at h
  | .new .., _, h, _ => by simp [pureRun] at h
  | .shape .., _, h, _ => by simp [pureRun] at h
  | .freeze .., _, h, _ => by simp [pureRun] at h
  | .frozen .., _, h, _ => by simp [pureRun] at h
  | .getObj .., _, h, _ => by simp [pureRun] at h
  | .setObj .., _, h, _ => by simp [pureRun] at h
  | .choose .., _, h, _ => by simp [pureRun] at h
  | .sys .., _, h, _ => by simp [pureRun] at h
  | .mark .., _, h, _ => by simp [pureRun] at h
  | .halt .., _, h, _ => by simp [pureRun] at h
theorem val?_conc {x : Atom} {v : Value} (h : x.val? = some v) : x.conc φ = v := by
  cases x <;> simp [Atom.val?] at h <;> simp [Atom.conc, h]
end
end Go.Ev
