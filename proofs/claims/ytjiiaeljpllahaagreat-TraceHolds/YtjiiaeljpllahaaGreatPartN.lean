/- Keyed sums, nodes, and the law, of every input; An evaluator of the model's code with values known in part, and its soundness; T; Bytes of numbers and of points -/
import Derived.Test.YtjiiaeljpllahaaGreatPartM
import Derived.Test.YtjiiaeljpllahaaGreatPartI
import Derived.Maps.OwnSet
import Derived.Maps.Views
import Derived.Test.YtjiiaeljpllahaaGreatPartC
import Derived.Test.YtjiiaeljpllahaaGreatPartG
import Derived.Test.YtjiiaeljpllahaaGreatPartH
namespace Go.Ev.H5
open Go Go.Proofs Go.RowKit
set_option maxRecDepth 100000
noncomputable def afg (H:ByteArray→ByteArray→ByteArray) (vs:List V1):Option (List Prop×AV):=match vs with|[.one (.v (.string k)),.one (.v (.string s))]=>some ([k.size≤64,s.size≤10000000000000],.val (sS (H k s)))|_=>none
noncomputable def LNo (H:ByteArray→ByteArray→ByteArray):List CT:=⟨131,afg H⟩::⟨157,afg H⟩::LKz
theorem NL:bw (LNo bU):=⟨ajk,aiK,vi⟩
def SNo:FuncId→Nat→Bool:=fun f t=>match f with
 |32=>bf t [10,14,21,25,29,9000000]|71=>bf t [18,20,2000017]|69=>bf t [42,2000033,2000035]
 |96=>bf t [19,29,31,38,40,50,55,52]|47=>bf t [10,20,12]|_=>false
noncomputable def ENo (H:ByteArray→ByteArray→ByteArray):Env:=cd (LNo H) SNo
theorem aaU:EnvOK (ENo bU):=aF NL _
def mkB (k v:ByteArray):Blk:=⟨[.a (.v (.string k)),.a (.v (.string v))],158,true,false,0⟩
def ey:ByteArray:=⟨#[0]⟩
def oO:ByteArray:=⟨#[1]⟩
def Va (k t x s:ByteArray) (n a b c d:Nat):V1:= .agg [.a (.v (.string k)),.a (.v (.string t)),.a (.v (.string x)),.a (.v (.string s)),.a (.u .u32 n),.a (.u .u32 a),.a (.u .u32 b),.a (.u .u32 c),.a (.u .u32 d)]
noncomputable def KZ (k:ByteArray):ByteArray:=(k++zs 32).extract 0 32
noncomputable def adv (t:ByteArray):ByteArray:=(t++zs 12).extract 0 12
noncomputable def S8f:FuncId→Nat→Bool:=fun f t=>match f with|20=>bf t [6,7,11,12]|_=>false
theorem XK:bw [⟨7,DO⟩]:=⟨B3,trivial⟩
theorem afP (k t x s:ByteArray) (n a b c d:Nat):al (cd [⟨7,DO⟩] S8f) 1000 20 [Va k t x s n a b c d] []=
  some ([(0:Int)≤32∧(32:Int)≤1000000,k.size+(zs 32).size≤9223372036854775807,(0:Int)≤32∧(32:Int)≤((k++zs 32).size:Int),(0:Int)≤12∧(12:Int)≤1000000,t.size+(zs 12).size≤9223372036854775807,(0:Int)≤12∧(12:Int)≤((t++zs 12).size:Int)],.val (Va (KZ k) (adv t) x s n a b c d)):=by kernel_rfl
theorem JN (k:ByteArray):(KZ k).size=32:=by unfold KZ;rw[ByteArray.size_extract,ByteArray.size_append,i9];omega
noncomputable def Wx (vs:List V1):Option (List Prop×AV):=
 match vs with
 |[.agg [.a (.v (.string k)),.a (.v (.string t)),.a (.v (.string x)),.a (.v (.string s)),.a (.u .u32 n),.a (.u .u32 a),.a (.u .u32 b),.a (.u .u32 c),.a (.u .u32 d)]]=>some ([k.size≤1000000,t.size≤1000000],.val (Va (KZ k) (adv t) x s n a b c d))
 |_=>none
theorem ct8:aU ⟨20,Wx⟩:=by
 intro vs ob r h ho
 simp only[Wx] at h
 split at h
 ·rename_i k t x s n a b c d
  obtain ⟨rfl,rfl⟩:=sI h
  obtain ⟨h1,h2,_⟩:=ho
  exact af (aF XK S8f) rfl (afP k t x s n a b c d) ⟨by omega,by rw[i9];omega,⟨by omega,by rw[ByteArray.size_append,i9];omega⟩,by omega,by rw[i9];omega,⟨by omega,by rw[ByteArray.size_append,i9];omega⟩,trivial⟩ rfl rfl
 ·simp at h
def Xw (t:TypeId) (g:Nat→V1):CT:=⟨3000000+t,fun vs=>match vs with|[.one (.ptr _ off)]=>some ([False],.val (g off))|_=>none⟩
theorem wN (t:TypeId) (g:Nat→V1):aU (Xw t g):=by
 intro vs ob r h ho
 simp only[Xw] at h
 split at h
 ·obtain ⟨rfl,_⟩:=sI h
  exact ho.1.elim
 ·simp at h
def m9:List SK:=[.s,.s,.s,.s,.u32,.u32,.u32,.u32,.u32]
theorem k38:fa Tryz.prog 20 27=some (pu m9):=by kernel_rfl
theorem s38:d8 Tryz.prog 27=some (ec m9):=by kernel_rfl
def MC (c:Cells) (len:Nat):List Blk:=[jf c m9 len 27]
theorem wfC {n:Nat} {l:List (Nat×AV)} (c:Cells) (m:Nat) (h:cw 1 (bt n l)=true):dl (bt n l) (MC c m)=true:=cc (by
 intro b hb
 simp only[MC,List.mem_cons,List.not_mem_nil,or_false] at hb
 rcases hb with rfl
 exact iY _ _ _ _) h
noncomputable def EH (c:Cells):Env:=cd [Xw 9 fun off=>sS (sA c off)] fun f t=>match f with|5=>bf t [10,13,20,27,34,41,24,31,38,45,16,2000022,2000029,2000036,2000043]|_=>false
theorem Ib (c:Cells):EnvOK (EH c):=aF (show bw [Xw 9 fun off=>sS (sA c off)] from ⟨wN _ _,trivial⟩) _
def TH (len cap:Nat) (n:Int) (i:Int):List AV:=bt 48 [(0,E5 len cap),(2,bV false),(3,iV n),(4,iV i)]
def QY (len cap:Nat) (n:Int):List AV:=bt 48 [(0,E5 len cap),(2,bV false),(3,iV n)]
theorem aeI (c:Cells) (m len cap:Nat) (n i:Int):dl (TH len cap n i) (MC c m)=true:=wfC c m (by kernel_rfl)
theorem Xu (c:Cells) (m len cap:Nat) (n:Int):dl (QY len cap n) (MC c m)=true:=wfC c m (by kernel_rfl)
theorem ag9:dm Tryz.prog 9=some false:=by kernel_rfl
theorem am5:dm Tryz.prog 27=some true:=by kernel_rfl
theorem ld9 {c:Cells} {len i:Nat} (f:Nat) (hf:f<4) (hi:i<len):dg Tryz.prog 9 (c9 c m9 len 0) (0+i*9+f) (.one (.v (.string (sA c (0+i*9+f))))):=by
 have h9:ec m9=9:=rfl
 match f,hf with
 |0,_=>exact iZ (sh:=m9) (i:=i) [] .s [.s,.s,.s,.u32,.u32,.u32,.u32,.u32] rfl ag9 hi (by rw[h9];simp[ec]) rfl
 |1,_=>exact iZ (sh:=m9) (i:=i) [.s] .s [.s,.s,.u32,.u32,.u32,.u32,.u32] rfl ag9 hi (by rw[h9];simp[ec,SK.sz]) rfl
 |2,_=>exact iZ (sh:=m9) (i:=i) [.s,.s] .s [.s,.u32,.u32,.u32,.u32,.u32] rfl ag9 hi (by rw[h9];simp[ec,SK.sz]) rfl
 |3,_=>exact iZ (sh:=m9) (i:=i) [.s,.s,.s] .s [.u32,.u32,.u32,.u32,.u32] rfl ag9 hi (by rw[h9];simp[ec,SK.sz]) rfl
def hn (c:Cells) (n:Int) (i:Nat):Int:=n+((sA c (0+i*9+0)).size:Int)+((sA c (0+i*9+1)).size:Int)+((sA c (0+i*9+2)).size:Int)+((sA c (0+i*9+3)).size:Int)
def hv (c:Cells):Nat→Nat→Int→Int
 |0,_,n=>n
 |k+1,i,n=>bif decide (n<1048576) then hv c k (i+1) (hn c n i) else n
theorem hvA (c:Cells) (len:Nat) (cap:Nat) (n:Int) (i:Nat):aH (EH c) 1000 (Env.S (EH c) 5) (ah Tryz.prog 5 3) (TH len cap n (↑i:Int)) (MC c len) [true,true] (TH len cap (hn c n i) ((↑i:Int)+(1:Int))) 1=
  some ([decide ((↑i:Int)<(↑len:Int))=true,decide (n<(1048576:Int))=true,(0:Int)≤(↑i:Int)∧(↑i:Int)<(↑len:Int),dg Tryz.prog 9 (c9 c m9 len 0) (0+i*9+0) (V1.one (Atom.v (Value.string (sA c (0+i*9+0))))),br (n+(↑(ByteArray.size (sA c (0+i*9+0))):Int)),(0:Int)≤(↑i:Int)∧(↑i:Int)<(↑len:Int),dg Tryz.prog 9 (c9 c m9 len 0) (0+i*9+1) (V1.one (Atom.v (Value.string (sA c (0+i*9+1))))),br (n+(↑(ByteArray.size (sA c (0+i*9+0))):Int)+(↑(ByteArray.size (sA c (0+i*9+1))):Int)),(0:Int)≤(↑i:Int)∧(↑i:Int)<(↑len:Int),dg Tryz.prog 9 (c9 c m9 len 0) (0+i*9+2) (V1.one (Atom.v (Value.string (sA c (0+i*9+2))))),br (n+(↑(ByteArray.size (sA c (0+i*9+0))):Int)+(↑(ByteArray.size (sA c (0+i*9+1))):Int)+(↑(ByteArray.size (sA c (0+i*9+2))):Int)),(0:Int)≤(↑i:Int)∧(↑i:Int)<(↑len:Int),dg Tryz.prog 9 (c9 c m9 len 0) (0+i*9+3) (V1.one (Atom.v (Value.string (sA c (0+i*9+3))))),br (n+(↑(ByteArray.size (sA c (0+i*9+0))):Int)+(↑(ByteArray.size (sA c (0+i*9+1))):Int)+(↑(ByteArray.size (sA c (0+i*9+2))):Int)+(↑(ByteArray.size (sA c (0+i*9+3))):Int)),br ((↑i:Int)+(1:Int))],.normal,TH len cap (hn c n i) ((i:Int)+1),MC c len):=by kernel_rfl
theorem hvB (c:Cells) (len:Nat) (cap:Nat) (n:Int) (i:Nat):aH (EH c) 1000 (Env.S (EH c) 5) (ah Tryz.prog 5 3) (TH len cap n (↑i:Int)) (MC c len) [true,false] (QY len cap n) 1=
  some ([decide ((↑i:Int)<(↑len:Int))=true,decide (n<(1048576:Int))=false],.exit 0,QY len cap n,MC c len):=by kernel_rfl
theorem hvC (c:Cells) (len:Nat) (cap:Nat) (n:Int) (i:Nat):aH (EH c) 1000 (Env.S (EH c) 5) (ah Tryz.prog 5 3) (TH len cap n (↑i:Int)) (MC c len) [false] (QY len cap n) 1=
  some ([decide ((↑i:Int)<(↑len:Int))=false],.exit 0,QY len cap n,MC c len):=by kernel_rfl
abbrev BB:Nat:=reachBytes
theorem PC:BB<140737488355328:=by decide
theorem IM {len i f:Nat} (hi:i<len) (hf:f<9):0+i*9+f<len*9:=by omega
theorem Xz (c:Cells) (n:Int) (i:Nat):n≤hn c n i:=by unfold hn;omega
theorem OE (c:Cells) (len cap:Nat) (hB:∀j,j<len*9→(sA c j).size≤BB) (hl:len≤maxLen):∀(k i:Nat) (n:Int),i+k=len→0≤n→GoesN Tryz.prog (ah Tryz.prog 5 3) (k+1) (.exit 0) (TH len cap n (i:Int)) (MC c len) (QY len cap (hv c k i n)) (MC c len)
 |0,i,n,hk,_=>GoesN.out (by simp) (Runs.goes (Ib c) ⟨_,_,hvC c len cap n i,⟨decide_eq_false (by omega),trivial⟩,Xu _ _ _ _ _⟩)
 |k+1,i,n,hk,h0=>by
  have hi:i<len:=by omega
  have hii:(0:Int)≤(i:Int)∧(i:Int)<(len:Int):=by omega
  have hll:decide ((i:Int)<(len:Int))=true:=decide_eq_true (by omega)
  have hm:maxLen=9223372036854775807:=by decide
  by_cases hn0:n<1048576
  ·have s0:=hB _ (IM (f:=0) hi (by omega))
   have s1:=hB _ (IM (f:=1) hi (by omega))
   have s2:=hB _ (IM (f:=2) hi (by omega))
   have s3:=hB _ (IM (f:=3) hi (by omega))
   have hb:=PC
   have hd:decide (n<1048576)=true:=decide_eq_true hn0
   have ih:=OE c len cap hB hl k (i+1) (hn c n i) (by omega) (by have:=Xz c n i;omega)
   rw[show ((i+1:Nat):Int)=(i:Int)+1 by omega] at ih
   show GoesN Tryz.prog (ah Tryz.prog 5 3) (k+1+1) (.exit 0) (TH len cap n (i:Int)) (MC c len) (QY len cap (bif decide (n<1048576) then hv c k (i+1) (hn c n i) else n)) (MC c len)
   rw[hd,cond_true]
   refine GoesN.cons (M1:=MC c len) rfl (Runs.goes (Ib c) ⟨_,_,hvA c len cap n i,⟨hll,hd,hii,ld9 _ (by omega) hi,?_,hii,ld9 _ (by omega) hi,?_,hii,ld9 _ (by omega) hi,?_,hii,ld9 _ (by omega) hi,?_,?_,trivial⟩,aeI _ _ _ _ _ _⟩) ih
   all_goals (unfold br;omega)
  ·have hd:decide (n<1048576)=false:=decide_eq_false hn0
   show GoesN Tryz.prog (ah Tryz.prog 5 3) (k+1+1) (.exit 0) (TH len cap n (i:Int)) (MC c len) (QY len cap (bif decide (n<1048576) then hv c k (i+1) (hn c n i) else n)) (MC c len)
   rw[hd,cond_false]
   exact GoesN.out (by simp) (Runs.goes (Ib c) ⟨_,_,hvB c len cap n i,⟨hll,hd,trivial⟩,Xu _ _ _ _ _⟩)
theorem Cd (c:Cells):∀(k i:Nat) (n:Int),0≤n→hv c k i n≤9000→n≤9000∧∀j,i≤j→j<i+k→(sA c (0+j*9+0)).size≤9000∧(sA c (0+j*9+1)).size≤9000∧(sA c (0+j*9+2)).size≤9000∧(sA c (0+j*9+3)).size≤9000
 |0,i,n,_,h=>⟨h,fun j h1 h2=>by omega⟩
 |k+1,i,n,h0,h=>by
  by_cases hn0:n<1048576
  ·change (bif decide (n<1048576) then hv c k (i+1) (hn c n i) else n)≤9000 at h
   rw[decide_eq_true hn0,cond_true] at h
   have hle:=Xz c n i
   obtain ⟨h1,h2⟩:=Cd c k (i+1) (hn c n i) (by omega) h
   refine ⟨by omega,fun j h3 h4=> ?_⟩
   rcases Nat.eq_or_lt_of_le h3 with rfl|h5
   ·unfold hn at h1
    refine ⟨?_,?_,?_,?_⟩<;>omega
   ·exact h2 j h5 (by omega)
  ·change (bif decide (n<1048576) then hv c k (i+1) (hn c n i) else n)≤9000 at h
   rw[decide_eq_false hn0,cond_false] at h
   omega
noncomputable def af_ (c:Cells) (len cap:Nat):List AV→List Blk→List Bool→E7:=fo (TH len cap (len:Int) ((0:Nat):Int)) (MC c len) (QY len cap (hv c len 0 (len:Int))) (MC c len) (.exit 0)
theorem Tz (c:Cells) (len cap:Nat) (hB:∀j,j<len*9→(sA c j).size≤BB) (hl:len≤maxLen):pa Tryz.prog (.loop (ah Tryz.prog 5 3)) (af_ c len cap):=
 bz rfl (OE c len cap hB hl len 0 (len:Int) (by omega) (by omega)).loop
end Go.Ev.H5
namespace Go.Ev
open Go Go.RowKit
section
variable {P:Program} {w0 w:World} {φ:c7} {a:Act}
theorem Ek {cf:CF} {S:Nat→Bool} {ops:Array Oper} (hcf:Lm P cf) {Q:Exit→Act→World→Prop} (ks:List Nat):∀(l:List Oper) (k:Nat) (tm:List AV) (mem:List Blk) (c c':List Bool) (ob:List Prop) (tm':List AV) (mem':List Blk)
  (φ:c7) (a:Act) (w:World),(∀j,j<l.length→l[j]? =ops[k+j]?)→sK P cf S ops.toList l tm mem c=some (ob,c',tm',mem')→cL ob→Rel w0 φ tm mem a w→
  (∀φ' a' w',Agree mem.length φ φ'→mem.length≤mem'.length→Rel w0 φ' tm' mem' a' w'→wpOps P ops Q ks a' w')→wpOps P ops Q (List.range' k l.length++ks) a w
 |[],k,tm,mem,c,c',ob,tm',mem',φ,a,w,_,h,_,hr,hQ=>by
  simp only[sK,Option.some.injEq,Prod.mk.injEq] at h
  obtain ⟨rfl,rfl,rfl,rfl⟩:=h
  exact hQ φ a w (Agree.refl _ _) (Nat.le_refl _) hr
 |o::rest,k,tm,mem,c,c',ob,tm',mem',φ,a,w,hl,h,ho,hr,hQ=>by
  rw[Ih] at h
  split at h
  ·rename_i ob1 c1 v mem1 il
   split at h
   ·rename_i ob2 r hrest
    simp only[Option.some.injEq,Prod.mk.injEq] at h
    obtain ⟨rfl,rfl⟩:=h
    rw[aY] at ho
    have hk:ops[k]? =some o:=by have:=hl 0 (by simp);simpa using this.symm
    simp only[List.length_cons,List.range'_succ,List.cons_append,wpOps,hk]
    refine tC hcf il ho.1 hr ?_
    intro φ' w' ha hlen hm hv
    refine Ek hcf ks rest (k+1) _ _ _ _ _ _ _ φ' _ w' (fun j hj=>by have:=hl (j+1) (by simp;omega);simpa[Nat.add_assoc,Nat.add_comm 1 j] using this) hrest ho.2 (hr.put o.dst ha hlen hm hv) ?_
    intro φ2 a2 w2 ha2 hl2 hr2
    exact hQ φ2 a2 w2 (ha.trans hlen ha2) (Nat.le_trans hlen hl2) hr2
   ·simp at h
  ·simp at h
def zc (E:Env) (n:Nat) (S:Nat→Bool) (ops:Array Oper) (l:List Oper) (T:List AV) (M:List Blk) (c:List Bool) (T':List AV) (k:Nat):Option (List Prop×List AV×List Blk):=
 match sK E.P (ep E (dH E n)) S ops.toList l T M c with
 |some (ob,_,tm,mem)=>some (ob,kt T' tm,mem.take k)
 |none=>none
theorem re {E:Env} (hE:EnvOK E) {n:Nat} {S:Nat→Bool} {ops:Array Oper} {l:List Oper} {T T':List AV} {M M':List Blk} {c:List Bool} {ob:List Prop} (k:Nat) (ks:List Nat)
  (h:zc E n S ops l T M c T' M'.length=some (ob,T',M')) (ho:cL ob) (hw:dl T' M'=true) (hl:∀j,j<l.length→l[j]? =ops[k+j]?) (hr:Rel w0 φ T M a w) {Q:Exit→Act→World→Prop}
  (hQ:∀φ' a' w',Agree M.length φ φ'→Rel w0 φ' T' M' a' w'→wpOps E.P ops Q ks a' w'):wpOps E.P ops Q (List.range' k l.length++ks) a w:=by
 unfold zc at h
 split at h
 ·rename_i ob1 c1 tm mem h1
  simp only[Option.some.injEq,Prod.mk.injEq] at h
  obtain ⟨rfl,h2,h3⟩:=h
  exact Ek (jQ hE (lv hE n)) ks l k _ _ _ _ _ _ _ φ a w hl h1 ho hr fun φ' a' w' hag _ hr'=>hQ φ' a' w' hag (hr'.fit (ra (by rw[h2,h3]) hw))
 ·simp at h
theorem pK {ops:Array Oper} {Q:Exit→Act→World→Prop} {k:Nat} {ks:List Nat} {o:Oper} (hk:ops[k]? =some o) (hg:o.guard=none) (h:o.wp P a w (wpOps P ops Q ks) Q):wpOps P ops Q (k::ks) a w:=by
 simp only[wpOps,hk]
 rw[if_pos (by simp[Region.wanted,hg])]
 exact .inl h
theorem JB {o:Oper} {t:TypeId} {m x:Operand} {b:Nat} {key v:Value} {K:Act→World→Prop} {Q:Exit→Act→World→Prop} (hop:o.op=Op.lookup t m x true) (hm:a.eval m= .map (some b)) (hx:a.eval x=key)
  (hr:(Instr.lookup t (.map (some b)) key true).run P w= .ok v w) (h:K (a.put o.dst v) w):o.wp P a w K Q:=by
 unfold Oper.wp
 simp[execOp,hop,hm,hx,hr,Result.andThen]
 exact h
theorem Ki {o:Oper} {t:TypeId} {m x y:Operand} {b:Nat} {key val:Value} {w':World} {K:Act→World→Prop} {Q:Exit→Act→World→Prop} (hop:o.op=Op.mapUpdate t m x y) (hm:a.eval m= .map (some b)) (hx:a.eval x=key) (hy:a.eval y=val)
  (hr:(Instr.mapUpdate t (.map (some b)) key val).run P w= .ok () w') (h:K (a.put o.dst undef) w'):o.wp P a w K Q:=by
 unfold Oper.wp
 simp[execOp,hop,hm,hx,hy,hr,Result.andThen]
 exact h
theorem Tq {o:Oper} {t:TypeId} {K:Act→World→Prop} {Q:Exit→Act→World→Prop} (hop:o.op=Op.makeMap t none) (h:K (a.put o.dst (.map (some w.heap.size))) (w.alloc (.map #[] 0))):o.wp P a w K Q:=by
 unfold Oper.wp
 simp[execOp,hop,run_makeMap,Result.andThen]
 exact h
theorem MRel.rebase {M:List Blk} (hro:∀(i:Nat) (b:Blk),M[i]? =some b→b.ro=true) (h:MRel w0 φ M w) {w':World} (hs:w0.heap.size≤w'.heap.size) (hk:∀(i:Nat) (b:Blk),M[i]? =some b→b.live=true→w'.heap[(φ i).1]? =w0.heap[(φ i).1]?):MRel w' φ M w':=by
 refine ⟨Below.refl _ _,?_,?_,?_,?_,h.wf⟩
 ·intro i j b1 b2 hb1 _ _ _ hr _ _
  rw[hro i b1 hb1] at hr;cases hr
 ·intro i b1 hb1 _ hr
  rw[hro i b1 hb1] at hr;cases hr
 ·intro i b1 hb1 hl hr
  obtain ⟨h1,h2⟩:=h.old i b1 hb1 hl hr
  refine ⟨Nat.lt_of_lt_of_le h1 hs,fun j v hv=> ?_⟩
  have:=h2 j v hv
  unfold World.cell? at this ⊢
  rw[hk i b1 hb1 hl]
  exact this
 ·intro i b1 hb1 _ hr
  rw[hro i b1 hb1] at hr;cases hr
theorem World.ownsMap.below {H:Type} {k:TypeId} {R:Value→Option (DataW H×List MemPlace)} {b n:Nat} {D:DataW H} (h:w.ownsMap P k R b n D) {B:Nat} {w':World} (hb:Below B w w') (hlt:b<B):w'.ownsMap P k R b n D:=by
 obtain ⟨es,clock,h1,h2⟩:=h
 exact ⟨es,clock,(hb.block b hlt).trans h1,h2⟩
end
end Go.Ev
namespace Go.Ev.H5.Tr
open Go Go.Proofs Go.RowKit
set_option maxRecDepth 100000
def sL:Code→Code| .seq a _=>a|c=>c
def sR:Code→Code| .seq _ b=>b|c=>c
def bC:Code→Code| .block _ b=>b|c=>c
def rO:Code→Array Oper| .region _ o _=>o|_=> #[]
def aaa (P:Program) (f:Nat):Code:=match P.funcs[f]? with
 |some fn=>match fn.body with|some c=>c|none=> .skip
 |none=> .skip
def bI (o:Array Oper) (k:Nat):Oper:=match o[k]? with|some x=>x|none=>⟨none,.move (.tmp 0),0,"",#[],none⟩
noncomputable def K6:Code:=aaa Tryz.prog 63
noncomputable def B6:Code:=ah Tryz.prog 63 3
noncomputable def o1:Array Oper:=rO (sL (sR K6))
noncomputable def X6:Code:=sR (sR B6)
noncomputable def Y6:Code:=bC (sL X6)
noncomputable def o5:Array Oper:=rO (sL (sL (sR Y6)))
noncomputable def C6:Code:=sR (sL (sR Y6))
noncomputable def o8:Array Oper:=rO (sR (sR Y6))
theorem aiE:K6= .seq (sL K6) (.seq (.region 1 o1 false) (.seq (.seq (sL (sL (sR (sR K6)))) (.block 0 (.loop B6))) (sR (sR (sR K6))))):=by kernel_rfl
theorem Wl:B6= .seq (sL B6) (.seq (sL (sR B6)) (.seq (.block 1 (.seq (sL Y6) (.seq (.seq (.region 5 o5 false) C6) (.region 8 o8 false)))) (sR X6))):=by kernel_rfl
def shR:List SK:=[.s,.u64,.s,.s]
def MR (c:Cells) (m:Nat):List Blk:=[jf c shR m 52]
def k5 (c:Cells) (j:Nat):Blk:=⟨eW c shR (0+j*4),52,true,false,0⟩
def rF (c:Cells) (m j:Nat):List Blk:=[jf c shR m 52,k5 c j]
noncomputable def LR (c:Cells):List CT:=[Xw 52 (fun off=> .agg (eW c shR off))]
theorem af7 (c:Cells):bw (LR c):=⟨wN _ _,trivial⟩
noncomputable def SR:FuncId→Nat→Bool:=fun f t=>match f with|63=>Nat.beq t 12||Nat.beq t 13||Nat.beq t 2000014||Nat.beq t 28||Nat.beq t 34|_=>false
noncomputable def ER (c:Cells):Env:=cd (LR c) SR
theorem ie (c:Cells):EnvOK (ER c):=aF (af7 c) _
def mV (b:Nat):AV:= .val (.one (.v (.map (some b))))
def GI (n:Nat):AV:= .val (.one (.u .u64 n))
def sS' (s:ByteArray):AV:= .val (.one (.v (.string s)))
def TA (n cap:Nat):List AV:=bt 35 [(0,E5 n cap)]
def TB (n cap b:Nat):List AV:=bt 35 [(0,E5 n cap),(3,mV b)]
def TL (n cap b:Nat) (j:Int):List AV:=bt 35 [(0,E5 n cap),(3,mV b),(9,E5 n cap),(10,iV (n:Int)),(11,iV j)]
def TD (n cap b:Nat) (j:Int) (d:Bool):List AV:=bt 35 [(0,E5 n cap),(3,mV b),(9,E5 n cap),(10,iV (n:Int)),(11,iV j),(12,bV d)]
def T4 (n cap b:Nat) (j:Int):List AV:=bt 35 [(0,E5 n cap),(3,mV b),(5,pV 1),(9,E5 n cap),(10,iV (n:Int)),(11,iV j)]
def T5 (n cap b:Nat) (j:Int) (p:ByteArray):List AV:=bt 35 [(0,E5 n cap),(3,mV b),(5,pV 1),(9,E5 n cap),(10,iV (n:Int)),(11,iV j),(16,mV b),(18,sS' p)]
def T6 (n cap b:Nat) (j:Int) (q:Nat) (h:Bool):List AV:=bt 35 [(0,E5 n cap),(3,mV b),(5,pV 1),(6,GI q),(7,bV h),(9,E5 n cap),(10,iV (n:Int)),(11,iV j)]
def T8 (n cap b:Nat) (j:Int) (p:ByteArray) (x:Nat):List AV:=bt 35 [(0,E5 n cap),(3,mV b),(9,E5 n cap),(10,iV (n:Int)),(11,iV j),(29,mV b),(31,sS' p),(33,GI x)]
def TF (r:Bool):List AV:=bt 35 [(2,bV r)]
def rr (c:Cells) (j:Nat):ByteArray:=sA c (0+j*4)
def tp (c:Cells) (j:Nat):Nat:=nU c (0+j*4+1)
theorem DN (c:Cells) (m n cap:Nat):aH (ER c) 1000 ((ER c).S 63) (sL K6) (Bp [V1.one (.sl 0 0 n cap)]++mE 34) (MR c m) [] (TA n cap) 1=some ([],.normal,TA n cap,MR c m):=by kernel_rfl
theorem oZ (c:Cells) (m n cap b:Nat):zc (ER c) 1000 ((ER c).S 63) o1 [bI o1 1] (ik (TA n cap) (some 8) (mV b)) (MR c m) [] (TB n cap b) 1=some ([],TB n cap b,MR c m):=by kernel_rfl
theorem rg2 (c:Cells) (m n cap b:Nat):aH (ER c) 1000 ((ER c).S 63) (sL (sL (sR (sR K6)))) (TB n cap b) (MR c m) [] (TL n cap b 0) 1=some ([],.normal,TL n cap b 0,MR c m):=by kernel_rfl
theorem PX (c:Cells) (m n cap b:Nat) (j:Int) (d:Bool):aH (ER c) 1000 ((ER c).S 63) (sL B6) (TL n cap b j) (MR c m) [d] (TD n cap b j d) 1=some ([decide (j<(n:Int))=d],.normal,TD n cap b j d,MR c m):=by kernel_rfl
theorem lR (c:Cells) (m n cap b:Nat) (j:Int):aH (ER c) 1000 ((ER c).S 63) (sL (sR B6)) (TD n cap b j true) (MR c m) [] (TL n cap b j) 1=some ([],.normal,TL n cap b j,MR c m):=by kernel_rfl
theorem rgX (c:Cells) (m n cap b:Nat) (j:Int):aH (ER c) 1000 ((ER c).S 63) (sL (sR B6)) (TD n cap b j false) (MR c m) [] (TL n cap b j) 1=some ([],.exit 0,TL n cap b j,MR c m):=by kernel_rfl
theorem rg4 (c:Cells) (m n cap b j:Nat):aH (ER c) 1000 ((ER c).S 63) (sL Y6) (TL n cap b (j:Int)) (MR c m) [] (T4 n cap b (j:Int)) 2=
  some ([(0:Int)≤(j:Int)∧(j:Int)<(n:Int),dg Tryz.prog 52 (c9 c shR m 0) (0+j*4) (.agg (eW c shR (0+j*4)))],.normal,T4 n cap b (j:Int),rF c m j):=by kernel_rfl
theorem rg5 (c:Cells) (m n cap b j:Nat):zc (ER c) 1000 ((ER c).S 63) o5 [bI o5 0,bI o5 1,bI o5 2] (T4 n cap b (j:Int)) (rF c m j) [] (T5 n cap b (j:Int) (rr c j)) 2=some ([],T5 n cap b (j:Int) (rr c j),rF c m j):=by kernel_rfl
theorem alV (c:Cells) (m n cap b j q:Nat) (h:Bool) (p:ByteArray):zc (ER c) 1000 ((ER c).S 63) o5 [bI o5 4,bI o5 5,bI o5 6,bI o5 7,bI o5 8] (ik (T5 n cap b (j:Int) p) (some 19) (.tup [.one (.u .u64 q),.one (.v (.bool h))])) (rF c m j) [] (T6 n cap b (j:Int) q h) 2=some ([],T6 n cap b (j:Int) q h,rF c m j):=by kernel_rfl
theorem alP (c:Cells) (m n cap b j q:Nat):aH (ER c) 1000 ((ER c).S 63) C6 (T6 n cap b (j:Int) q false) (rF c m j) [false] (T4 n cap b (j:Int)) 2=some ([false=false],.normal,T4 n cap b (j:Int),rF c m j):=by kernel_rfl
theorem ap0 (c:Cells) (m n cap b j q:Nat):aH (ER c) 1000 ((ER c).S 63) C6 (T6 n cap b (j:Int) q true) (rF c m j) [false] (T4 n cap b (j:Int)) 2=some ([decide (tp c j≤q)=false],.normal,T4 n cap b (j:Int),rF c m j):=by kernel_rfl
theorem apn (c:Cells) (m n cap b j q:Nat):aH (ER c) 1000 ((ER c).S 63) C6 (T6 n cap b (j:Int) q true) (rF c m j) [true] (TF false) 1=some ([decide (tp c j≤q)=true],.ret,TF false,MR c m):=by kernel_rfl
theorem rg8 (c:Cells) (m n cap b j:Nat):zc (ER c) 1000 ((ER c).S 63) o8 [bI o8 0,bI o8 1,bI o8 2,bI o8 3,bI o8 4] (T4 n cap b (j:Int)) (rF c m j) [] (T8 n cap b (j:Int) (rr c j) (tp c j)) 2=some ([],T8 n cap b (j:Int) (rr c j) (tp c j),rF c m j):=by kernel_rfl
theorem rg9 (c:Cells) (m n cap b:Nat) (j:Nat):aH (ER c) 1000 ((ER c).S 63) (sR X6) (TL n cap b (j:Int)) (MR c m) [] (TL n cap b ((j:Int)+1)) 1=some ([br ((j:Int)+1)],.normal,TL n cap b ((j:Int)+1),MR c m):=by kernel_rfl
theorem amN (c:Cells) (m n cap b:Nat) (j:Int):aH (ER c) 1000 ((ER c).S 63) (sR (sR (sR K6))) (TL n cap b j) (MR c m) [] (TF true) 1=some ([],.ret,TF true,MR c m):=by kernel_rfl
theorem Wm:Tryz.prog.underlying 152=some (.map 9 50):=by kernel_rfl
theorem NP:Tryz.prog.underlying 50=some (.int .u64):=by kernel_rfl
theorem ZH:Tryz.prog.underlying 9=some .string:=by kernel_rfl
theorem Zp (w:World):(zeroValue 50).run Tryz.prog w= .ok (.int .u64 0) w:=by kernel_rfl
theorem OK:Go.Maps.Keyed Tryz.prog 9:=Go.Maps.string_keyed ZH
noncomputable abbrev R29:Value→Option (DataW Unit×List MemPlace):=plainElem Tryz.prog 50
def xW (s:ByteArray):Lit:= .string s.data.toList
abbrev z64:DataW Unit:= .lit (.int .u64 0)
def InvD (c:Cells) (j:Nat) (D:DataW Unit):Prop:=Maps.IsMap D∧∀s:ByteArray,(Maps.has D (xW s)=false∧∀k,k<j→rr c k≠s)∨(Maps.has D (xW s)=true∧∃k,k<j∧rr c k=s∧D.atKey (xW s) z64= .lit (.int .u64 (tp c k:Int))∧∀i,i<j→rr c i=s→tp c i≤tp c k)
def RisP (c:Cells) (n:Nat):Prop:=∀i,i<n→∀k,k<i→rr c k=rr c i→tp c k<tp c i
theorem RisP.zero (c:Cells):RisP c 0:=fun i h=>absurd h (Nat.not_lt_zero _)
theorem RisP.succ {c:Cells} {j:Nat} (h:RisP c j) (hr:∀k,k<j→rr c k=rr c j→tp c k<tp c j):RisP c (j+1):=by
 intro i hi
 by_cases e:i=j
 ·subst e;exact hr
 ·exact h i (by omega)
theorem InvD.zero (c:Cells):InvD c 0 (.map []):=⟨Maps.isMap_empty,fun s=> .inl ⟨rfl,fun k h=>absurd h (Nat.not_lt_zero _)⟩⟩
theorem HN (s:ByteArray):WideAt.IsKeyLit (xW s):=by
 unfold xW WideAt.IsKeyLit
 trivial
theorem Is {s t:ByteArray} (h:s≠t):xW s≠xW t:=by
 intro e
 refine h ?_
 simp only[xW,Lit.string.injEq] at e
 apply ByteArray.ext
 exact Array.toList_inj.1 e
theorem InvD.put {c:Cells} {j:Nat} {D:DataW Unit} (h:InvD c j D) (hr:∀k,k<j→rr c k=rr c j→tp c k<tp c j):InvD c (j+1) (D.put (xW (rr c j)) (.lit (.int .u64 (tp c j:Int)))):=by
 refine ⟨h.1.put _ _,fun s=> ?_⟩
 by_cases e:s=rr c j
 ·subst e
  refine .inr ⟨Maps.has_put_same h.1 (HN _) _,j,by omega,rfl,Maps.atKey_put_same h.1 (HN _) _ _,fun i hi hp=> ?_⟩
  by_cases e:i=j
  ·subst e;exact Nat.le_refl _
  ·exact Nat.le_of_lt (hr i (by omega) hp)
 ·rw[Maps.has_put_other (Is e),Maps.atKey_put_other (Is e)]
  rcases h.2 s with ⟨h1,h2⟩|⟨h1,k,hk,hp,ha,hm⟩
  ·refine .inl ⟨h1,fun k hk hp=> ?_⟩
   by_cases e':k=j
   ·subst e';exact e hp.symm
   ·exact h2 k (by omega) hp
  ·refine .inr ⟨h1,k,by omega,hp,ha,fun i hi hp'=> ?_⟩
   by_cases e':i=j
   ·subst e';exact absurd hp'.symm e
   ·exact hm i (by omega) hp'
structure St6 (wS:World) (c:Cells) (m n cap b j:Nat) (φ:c7) (a:Act) (w:World):Prop where
 rel:Rel w φ (TL n cap b (j:Int)) (MR c m) a w
 map:∃k D,k≤j∧w.ownsMap Tryz.prog 9 R29 b k D∧InvD c j D
 ne:(φ 0).1≠b
 below:Below wS.heap.size wS w
 new:wS.heap.size≤b
theorem gM {E:Env} (hE:EnvOK E) {w0 w:World} {φ:c7} {a:Act} {n:Nat} {S:Nat→Bool} {y:Code} {T T':List AV} {M M':List Blk} {c:List Bool} {ob:List Prop} {ex:Ex}
  (h:aH E n S y T M c T' M'.length=some (ob,ex,T',M')) (ho:cL ob) (hw:dl T' M'=true) (hr:Rel w0 φ T M a w) {Q:Exit→Act→World→Prop} (hQ:∀φ' a' w',Agree M.length φ φ'→Rel w0 φ' T' M' a' w'→Q ex.to a' w'):y.wp E.P Q a w:=
 Runs.wp hE ⟨_,_,h,ho,hw⟩ hr hQ
theorem abx:List.range o1.size=0::(List.range' 1 1++[]):=by kernel_rfl
theorem aaw:List.range o5.size=List.range' 0 3++(3::(List.range' 4 5++[])):=by kernel_rfl
theorem aaQ:List.range o8.size=List.range' 0 5++[5]:=by kernel_rfl
theorem l1:∀j,j<1→[bI o1 1][j]? =o1[1+j]? :=by
 have h0:([bI o1 1]:List Oper)[0]? =o1[1+0]? :=by kernel_rfl
 intro j hj
 match j,hj with
 |0,_=>exact h0
theorem l5:∀j,j<3→[bI o5 0,bI o5 1,bI o5 2][j]? =o5[0+j]? :=by
 have h0:([bI o5 0,bI o5 1,bI o5 2]:List Oper)[0]? =o5[0+0]? :=by kernel_rfl
 have h1:([bI o5 0,bI o5 1,bI o5 2]:List Oper)[1]? =o5[0+1]? :=by kernel_rfl
 have h2:([bI o5 0,bI o5 1,bI o5 2]:List Oper)[2]? =o5[0+2]? :=by kernel_rfl
 intro j hj
 match j,hj with
 |0,_=>exact h0
 |1,_=>exact h1
 |2,_=>exact h2
theorem l5b:∀j,j<5→[bI o5 4,bI o5 5,bI o5 6,bI o5 7,bI o5 8][j]? =o5[4+j]? :=by
 have h0:([bI o5 4,bI o5 5,bI o5 6,bI o5 7,bI o5 8]:List Oper)[0]? =o5[4+0]? :=by kernel_rfl
 have h1:([bI o5 4,bI o5 5,bI o5 6,bI o5 7,bI o5 8]:List Oper)[1]? =o5[4+1]? :=by kernel_rfl
 have h2:([bI o5 4,bI o5 5,bI o5 6,bI o5 7,bI o5 8]:List Oper)[2]? =o5[4+2]? :=by kernel_rfl
 have h3:([bI o5 4,bI o5 5,bI o5 6,bI o5 7,bI o5 8]:List Oper)[3]? =o5[4+3]? :=by kernel_rfl
 have h4:([bI o5 4,bI o5 5,bI o5 6,bI o5 7,bI o5 8]:List Oper)[4]? =o5[4+4]? :=by kernel_rfl
 intro j hj
 match j,hj with
 |0,_=>exact h0
 |1,_=>exact h1
 |2,_=>exact h2
 |3,_=>exact h3
 |4,_=>exact h4
theorem l8:∀j,j<5→[bI o8 0,bI o8 1,bI o8 2,bI o8 3,bI o8 4][j]? =o8[0+j]? :=by
 have h0:([bI o8 0,bI o8 1,bI o8 2,bI o8 3,bI o8 4]:List Oper)[0]? =o8[0+0]? :=by kernel_rfl
 have h1:([bI o8 0,bI o8 1,bI o8 2,bI o8 3,bI o8 4]:List Oper)[1]? =o8[0+1]? :=by kernel_rfl
 have h2:([bI o8 0,bI o8 1,bI o8 2,bI o8 3,bI o8 4]:List Oper)[2]? =o8[0+2]? :=by kernel_rfl
 have h3:([bI o8 0,bI o8 1,bI o8 2,bI o8 3,bI o8 4]:List Oper)[3]? =o8[0+3]? :=by kernel_rfl
 have h4:([bI o8 0,bI o8 1,bI o8 2,bI o8 3,bI o8 4]:List Oper)[4]? =o8[0+4]? :=by kernel_rfl
 intro j hj
 match j,hj with
 |0,_=>exact h0
 |1,_=>exact h1
 |2,_=>exact h2
 |3,_=>exact h3
 |4,_=>exact h4
theorem wM {n:Nat} {l:List (Nat×AV)} (c:Cells) (m:Nat) (h:cw 1 (bt n l)=true):dl (bt n l) (MR c m)=true:=cc (by
 intro b hb
 simp only[MR,List.mem_cons,List.not_mem_nil,or_false] at hb
 subst hb
 exact iY _ _ _ _) h
theorem JE {n:Nat} {l:List (Nat×AV)} (c:Cells) (m j:Nat) (h:cw 2 (bt n l)=true):dl (bt n l) (rF c m j)=true:=cc (by
 intro b hb
 simp only[rF,List.mem_cons,List.not_mem_nil,or_false] at hb
 rcases hb with rfl|rfl
 ·exact iY _ _ _ _
 ·exact fun f=>wL _ f _ _) h
theorem Xc (c:Cells) (m:Nat):∀(i:Nat) (b:Blk),(MR c m)[i]? =some b→i=0∧b=jf c shR m 52:=by
 intro i b h
 match i,h with
 |0,h=>simp only[MR,List.getElem?_cons_zero,Option.some.injEq] at h;exact ⟨rfl,h.symm⟩
 |i+1,h=>simp[MR] at h
theorem Rel.rebase {c:Cells} {m:Nat} {w0 w w':World} {φ:c7} {T:List AV} {a:Act} (h:Rel w0 φ T (MR c m) a w) (hs:w0.heap.size≤w'.heap.size) (hk:w'.heap[(φ 0).1]? =w0.heap[(φ 0).1]?):Rel w' φ T (MR c m) a w':=by
 refine ⟨h.tmps,h.defs,h.wft,MRel.rebase (fun i b hb=> ?_) h.mrel hs (fun i b hb _=> ?_)⟩
 ·rw[(Xc c m i b hb).2];rfl
 ·rw[(Xc c m i b hb).1];exact hk
theorem Rel.row_lt {c:Cells} {m:Nat} {w0 w:World} {φ:c7} {T:List AV} {a:Act} {M:List Blk} (h:Rel w0 φ T (jf c shR m 52::M) a w):(φ 0).1<w0.heap.size:=(h.mrel.old 0 _ rfl rfl rfl).1
theorem adJ {x:Nat} (h:x<18446744073709551616):(Lit.int .u64 (x:Int)).wf=true:=by
 simp[Lit.wf,IntKind.min,IntKind.max,IntKind.bits,IntKind.signed];omega
theorem R7 {z:Int} (h:(Lit.int .u64 z).wf=true):∃q:Nat,z=(q:Int):=by
 refine ⟨z.toNat,?_⟩
 simp[Lit.wf,IntKind.min,IntKind.max,IntKind.bits,IntKind.signed] at h
 omega
theorem op5:o5[3]? =some (bI o5 3):=by kernel_rfl
theorem aox:(bI o5 3).guard=none:=by kernel_rfl
theorem amT:(bI o5 3).op=Op.lookup 152 (.tmp 16) (.tmp 18) true:=by kernel_rfl
theorem am4:(bI o5 3).dst=some 19:=by kernel_rfl
theorem op8:o8[5]? =some (bI o8 5):=by kernel_rfl
theorem alE:(bI o8 5).guard=none:=by kernel_rfl
theorem aoY:(bI o8 5).op=Op.mapUpdate 152 (.tmp 29) (.tmp 31) (.tmp 33):=by kernel_rfl
theorem al0:(bI o8 5).dst=none:=by kernel_rfl
theorem op1:o1[0]? =some (bI o1 0):=by kernel_rfl
theorem ala:(bI o1 0).guard=none:=by kernel_rfl
theorem aoZ:(bI o1 0).op=Op.makeMap 152 none:=by kernel_rfl
theorem aor:(bI o1 0).dst=some 8:=by kernel_rfl
theorem ag3:dm Tryz.prog 52=some true:=by kernel_rfl
theorem apI:d8 Tryz.prog 52=some (ec shR):=by kernel_rfl
theorem aom (n cap b:Nat) (j:Int) (p:ByteArray) (x:Nat):uc (T8 n cap b j p x) (.tmp 29)=some (mV b):=by kernel_rfl
theorem aoq (n cap b:Nat) (j:Int) (p:ByteArray) (x:Nat):uc (T8 n cap b j p x) (.tmp 31)=some (sS' p):=by kernel_rfl
theorem aql (n cap b:Nat) (j:Int) (p:ByteArray) (x:Nat):uc (T8 n cap b j p x) (.tmp 33)=some (GI x):=by kernel_rfl
theorem anf (n cap b:Nat) (j:Int) (p:ByteArray):uc (T5 n cap b j p) (.tmp 16)=some (mV b):=by kernel_rfl
theorem amn (n cap b:Nat) (j:Int) (p:ByteArray):uc (T5 n cap b j p) (.tmp 18)=some (sS' p):=by kernel_rfl
theorem aoP (c:Cells) (m n cap b j:Nat):(kt (TL n cap b (j:Int)) (T8 n cap b (j:Int) (rr c j) (tp c j)),(rF c m j).take (MR c m).length)=(TL n cap b (j:Int),MR c m):=by kernel_rfl
theorem Zr {wS w:World} {c:Cells} {m n cap b j:Nat} {φ:c7} {a:Act} (hj:j<n) (hnm:n≤m) (hmx:n≤maxLen) (hob:cL (jx c shR m 0)) (h:St6 wS c m n cap b j φ a w) {Q:Exit→Act→World→Prop}
  (hnorm:(∀k,k<j→rr c k=rr c j→tp c k<tp c j)→∀φ' a' w',St6 wS c m n cap b (j+1) φ' a' w'→Q .normal a' w')
  (hret:(∃k,k<j∧rr c k=rr c j∧tp c j≤tp c k)→∀w0 φ' a' w',Rel w0 φ' (TF false) (MR c m) a' w'→Below wS.heap.size wS w'→Q .ret a' w'):B6.wp Tryz.prog Q a w:=by
 obtain ⟨kk,D,hkk,hown,hinv⟩:=h.map
 have hmx':n≤9223372036854775807:=hmx
 have hbw:b<w.heap.size:=hown.lt
 obtain ⟨hps,hcnt,_⟩:=Cu c shR m j 0 (by omega) hob
 have hps:(rr c j).size≤maxLen:=hps
 have hcnt:tp c j<18446744073709551616:=hcnt
 rw[Wl]
 refine wp_seq (gM (ie c) (M':=MR c m) (PX c m n cap b (j:Int) true) ⟨decide_eq_true (by omega),trivial⟩ (wM c m (by kernel_rfl)) h.rel ?_)
 intro φ1 a1 w1 g1 r1
 show (Code.seq _ _).wp Tryz.prog _ a1 w1
 refine wp_seq (gM (ie c) (M':=MR c m) (lR c m n cap b (j:Int)) trivial (wM c m (by kernel_rfl)) r1 ?_)
 intro φ2 a2 w2 g2 r2
 show (Code.seq _ _).wp Tryz.prog _ a2 w2
 refine wp_seq (wp_block ?_)
 refine wp_seq (gM (ie c) (M':=rF c m j) (rg4 c m n cap b j) ⟨⟨by omega,by omega⟩,st [] shR [] rfl ag3 apI (i:=j) (by omega) (by simp[ec,shR,SK.sz]),trivial⟩ (JE c m j (by kernel_rfl)) r2 ?_)
 intro φ4 a4 w4 g4 r4
 have tail:(∀k,k<j→rr c k=rr c j→tp c k<tp c j)→∀φ7 a7 w7,φ7 0=φ 0→Rel w φ7 (T4 n cap b (j:Int)) (rF c m j) a7 w7→(Code.region 8 o8 false).wp Tryz.prog (Exit.inBlock 1 (Exit.then ((sR X6).wp Tryz.prog Q) Q)) a7 w7:=by
  intro hr φ7 a7 w7 e7 r7
  refine wp_region ?_
  rw[aaQ]
  refine re (ie c) (M':=rF c m j) 0 _ (rg8 c m n cap b j) trivial (JE c m j (by kernel_rfl)) l8 r7 ?_
  intro φ8 a8 w8 g8 r8
  have e8:φ8 0=φ 0:=(g8 0 (by simp[rF])).trans e7
  have hown8:=World.ownsMap.below hown r8.mrel.below hbw
  obtain ⟨w9,hrun9,hown9,hgr⟩:=hown8.update OK Wm (by omega) (WideMaps.keyOf_string_mk ZH hps) (plainElem_int NP (adJ hcnt))
  have m1:a8.eval (.tmp 29)= .map (some b):=fR r8 (.tmp 29) (mV b) (aom _ _ _ _ _ _)
  have m2:a8.eval (.tmp 31)= .string (rr c j):=fR r8 (.tmp 31) (sS' (rr c j)) (aoq _ _ _ _ _ _)
  have m3:a8.eval (.tmp 33)= .int .u64 (tp c j:Int):=fR r8 (.tmp 33) (GI (tp c j)) (aql _ _ _ _ _ _)
  refine pK op8 alE (Ki aoY m1 m2 m3 hrun9 ?_)
  rw[al0]
  have r9:Rel w φ8 (TL n cap b (j:Int)) (MR c m) a8 w8:=r8.fit (ra (aoP c m n cap b j) (wM c m (by kernel_rfl)))
  have hlt:(φ8 0).1<w.heap.size:=Rel.row_lt r9
  have hb9:w9.heap[(φ8 0).1]? =w.heap[(φ8 0).1]? :=(hgr.block _ (Nat.lt_of_lt_of_le hlt r8.mrel.below.size) (by intro e;simp only[Option.some.injEq] at e;rw[e8] at e;exact h.ne e)).trans (r8.mrel.below.block _ hlt)
  have r10:=Rel.rebase r9 (Nat.le_trans r8.mrel.below.size hgr.size) hb9
  show (sR X6).wp Tryz.prog Q a8 w9
  refine gM (ie c) (M':=MR c m) (rg9 c m n cap b j) ⟨by unfold br;omega,trivial⟩ (wM c m (by kernel_rfl)) r10 ?_
  intro φ11 a11 w11 g11 r11
  have e11:φ11 0=φ8 0:=g11 0 (by simp[MR])
  have hlt11:(φ11 0).1<w9.heap.size:=Rel.row_lt r11
  have hS:Below wS.heap.size w8 w9:=⟨hgr.os,hgr.tape,hgr.output,hgr.size,fun k hk=>hgr.block k (by have:=h.below.size;have:=r8.mrel.below.size;omega) (by intro e;simp only[Option.some.injEq] at e;have:=h.new;omega)⟩
  refine hnorm hr φ11 a11 w11 ⟨Rel.rebase r11 r11.mrel.below.size (r11.mrel.below.block _ hlt11),⟨kk+1,_,by omega,World.ownsMap.below hown9 r11.mrel.below hown9.lt,hinv.put hr⟩,by rw[e11,e8];exact h.ne,?_,h.new⟩
  refine (h.below.trans (r8.mrel.below.mono h.below.size)).trans (hS.trans (r11.mrel.below.mono ?_))
  have:=h.below.size
  have:=r8.mrel.below.size
  have:=hgr.size
  omega
 show (Code.seq _ _).wp Tryz.prog _ a4 w4
 refine wp_seq (wp_seq (wp_region ?_))
 rw[aaw]
 refine re (ie c) (M':=rF c m j) 0 _ (rg5 c m n cap b j) trivial (JE c m j (by kernel_rfl)) l5 r4 ?_
 intro φ5 a5 w5 g5 r5
 have hown5:=World.ownsMap.below hown r5.mrel.below hbw
 obtain ⟨v,ps,hrun,hv⟩:=hown5.look_ok OK Wm (Zp w5) (plainElem_int NP (a:=0) (by decide)) (WideMaps.keyOf_string_mk ZH hps)
 obtain ⟨z,rfl,hat,hwf⟩:=plainElem_int_inv NP hv
 obtain ⟨q,rfl⟩:=R7 hwf
 have m1:a5.eval (.tmp 16)= .map (some b):=fR r5 (.tmp 16) (mV b) (anf _ _ _ _ _)
 have m2:a5.eval (.tmp 18)= .string (rr c j):=fR r5 (.tmp 18) (sS' (rr c j)) (amn _ _ _ _ _)
 refine pK op5 aox (JB amT m1 m2 hrun ?_)
 have r5':=r5.put (bI o5 3).dst (v:= .tup [.one (.u .u64 q),.one (.v (.bool (Maps.has D (xW (rr c j)))))]) (Agree.refl _ _) (Nat.le_refl _) r5.mrel rfl
 rw[am4] at r5' ⊢
 refine re (ie c) (M':=rF c m j) 4 [] (alV c m n cap b j q _ _) trivial (JE c m j (by kernel_rfl)) l5b r5' ?_
 intro φ6 a6 w6 g6 r6
 have e6:φ6 0=φ 0:=by
  rw[g6 0 (by simp[rF]),g5 0 (by simp[rF]),g4 0 (by simp[MR]),g2 0 (by simp[MR]),g1 0 (by simp[MR])]
 show C6.wp Tryz.prog _ a6 w6
 rcases hinv.2 (rr c j) with ⟨h1,h2⟩|⟨h1,k,hk,hp,ha,hm⟩
 ·rw[h1] at r6
  refine gM (ie c) (M':=rF c m j) (alP c m n cap b j q) ⟨rfl,trivial⟩ (JE c m j (by kernel_rfl)) r6 ?_
  intro φ7 a7 w7 g7 r7
  exact tail (fun k hk hp=>absurd hp (h2 k hk)) φ7 a7 w7 ((g7 0 (by simp[rF])).trans e6) r7
 ·rw[h1] at r6
  have hq:q=tp c k:=by
   have:=ha.symm.trans (congrArg Prod.fst hat)
   simp only[DataW.lit.injEq,Lit.int.injEq,true_and] at this
   omega
  by_cases hle:tp c j≤q
  ·refine gM (ie c) (M':=MR c m) (apn c m n cap b j q) ⟨decide_eq_true hle,trivial⟩ (wM c m (by kernel_rfl)) r6 ?_
   intro φ7 a7 w7 g7 r7
   exact hret ⟨k,hk,hp,by omega⟩ w φ7 a7 w7 r7 (h.below.trans (r7.mrel.below.mono h.below.size))
  ·refine gM (ie c) (M':=rF c m j) (ap0 c m n cap b j q) ⟨decide_eq_false hle,trivial⟩ (JE c m j (by kernel_rfl)) r6 ?_
   intro φ7 a7 w7 g7 r7
   exact tail (fun i hi hpi=>by have:=hm i hi hpi;omega) φ7 a7 w7 ((g7 0 (by simp[rF])).trans e6) r7
theorem ah7 {wS:World} {c:Cells} {m n cap b:Nat} (hnm:n≤m) (hmx:n≤maxLen) (hob:cL (jx c shR m 0)) {Q:Exit→Act→World→Prop}
  (hQ1:RisP c n→∀w0 φ a w,Rel w0 φ (TL n cap b (n:Int)) (MR c m) a w→Below wS.heap.size wS w0→Q (.exit 0) a w)
  (hQ2:¬RisP c n→∀w0 φ a w,Rel w0 φ (TF false) (MR c m) a w→Below wS.heap.size wS w→Q .ret a w):
  ∀d j,j+d=n→RisP c j→∀φ a w,St6 wS c m n cap b j φ a w→Code.rounds Tryz.prog B6 Q (d+1) a w:=by
 intro d
 induction d with
 |zero=>
  intro j hj hr φ a w h
  obtain rfl:j=n:=by omega
  rw[rounds_succ,Wl]
  refine wp_seq (gM (ie c) (M':=MR c m) (PX c m j cap b (j:Int) false) ⟨decide_eq_false (by omega),trivial⟩ (wM c m (by kernel_rfl)) h.rel ?_)
  intro φ1 a1 w1 g1 r1
  show (Code.seq _ _).wp Tryz.prog _ a1 w1
  refine wp_seq (gM (ie c) (M':=MR c m) (rgX c m j cap b (j:Int)) trivial (wM c m (by kernel_rfl)) r1 ?_)
  intro φ2 a2 w2 g2 r2
  exact hQ1 hr w φ2 a2 w2 r2 h.below
 |succ d ih=>
  intro j hj hr φ a w h
  rw[rounds_succ]
  refine Zr (by omega) hnm hmx hob h ?_ ?_
  ·intro hx φ' a' w' h'
   exact ih (j+1) (by omega) (hr.succ hx) φ' a' w' h'
  ·rintro ⟨k,hk,hp,hle⟩ w0 φ' a' w' r' hb
   exact hQ2 (fun h=>by have:=h j (by omega) k hk hp;omega) w0 φ' a' w' r' hb
noncomputable def pj (c:Cells) (n:Nat):Bool:= @decide (RisP c n) (Classical.propDecidable _)
theorem Nk {c:Cells} {n:Nat} (h:RisP c n):pj c n=true:=by unfold pj;exact @decide_eq_true _ (Classical.propDecidable _) h
theorem NZ {c:Cells} {n:Nat} (h:¬RisP c n):pj c n=false:=by unfold pj;exact @decide_eq_false _ (Classical.propDecidable _) h
theorem nt6:Tryz.f63.ntmps=35:=by kernel_rfl
theorem bd6:Tryz.f63.body=some K6:=by kernel_rfl
theorem rs6 (c:Cells) (m:Nat) (r:Bool):QZ Tryz.prog (TF r) (MR c m) Tryz.f63.results.toList=some (bV r):=by kernel_rfl
theorem Wu {c:Cells} {m:Nat} {w0 w:World} {φ:c7} {a:Act} {r:Bool} {R:Ending→World→Prop} (h:Rel w0 φ (TF r) (MR c m) a w) (hR:R (.returned (.bool r)) w):bodyPost Tryz.prog Tryz.f63 R .ret a w:=
 ⟨h.defs,_,DQ (rs6 c m r) h,hR⟩
theorem H4 {c:Cells} {m n cap:Nat} (hnm:n≤m) (hmx:n≤maxLen) (hob:cL (jx c shR m 0)) {w:World} {φ:c7} (hm:MRel w φ (MR c m) w):
  Calls Tryz.prog 63 #[(V1.one (.sl 0 0 n cap)).conc φ] w fun e w'=>e= .returned (.bool (pj c n))∧Below w.heap.size w w':=by
 refine calls_of_wp Tryz.func63 bd6 ?_
 have r0:=Rel.mk' (fn:=Tryz.f63) (vs:=[V1.one (.sl 0 0 n cap)]) hm (by intro v hv;simp only[List.mem_cons,List.not_mem_nil,or_false] at hv;subst hv;rfl)
 rw[nt6] at r0 ⊢
 rw[aiE]
 refine wp_seq (gM (ie c) (M':=MR c m) (DN c m n cap) trivial (wM c m (by kernel_rfl)) r0 ?_)
 intro φ1 a1 w1 g1 r1
 show (Code.seq _ _).wp Tryz.prog _ a1 w1
 refine wp_seq (wp_region ?_)
 rw[abx]
 refine pK op1 ala (Tq aoZ ?_)
 rw[aor]
 have hlt:(φ1 0).1<w.heap.size:=Rel.row_lt r1
 have hs1:=r1.mrel.below.size
 have r1':Rel (w1.alloc (.map #[] 0)) φ1 (TA n cap) (MR c m) a1 (w1.alloc (.map #[] 0)):=by
  refine Rel.rebase r1 ?_ ((Below.heap_alloc w1 _ _ (by omega)).trans (r1.mrel.below.block _ hlt))
  exact Nat.le_trans hs1 ((Below.refl w1.heap.size w1).alloc (Nat.le_refl _) _).size
 have hown:=World.ownsMap_made w1 Tryz.prog 9 R29
 generalize hb:w1.heap.size=b at*
 have r2:=r1'.put (some 8) (v:=mV b) (Agree.refl _ _) (Nat.le_refl _) r1'.mrel rfl
 refine re (ie c) (M':=MR c m) 1 [] (oZ c m n cap b) trivial (wM c m (by kernel_rfl)) l1 r2 ?_
 intro φ3 a3 w3 g3 r3
 show (Code.seq _ _).wp Tryz.prog _ a3 w3
 refine wp_seq (wp_seq (gM (ie c) (M':=MR c m) (rg2 c m n cap b) trivial (wM c m (by kernel_rfl)) r3 ?_))
 intro φ4 a4 w4 g4 r4
 have e4:φ4 0=φ1 0:=by rw[g4 0 (by simp[MR]),g3 0 (by simp[MR])]
 have b2:Below w.heap.size w (w1.alloc (.map #[] 0)):=r1.mrel.below.alloc (by omega) _
 show (Code.block 0 (.loop B6)).wp Tryz.prog _ a4 w4
 refine wp_block (wp_loop_rounds (n+1) (ah7 (wS:=w) (b:=b) (cap:=cap) hnm hmx hob ?_ ?_ n 0 (by omega) (RisP.zero c) φ4 a4 w4 ⟨?_,⟨0,.map [],Nat.le_refl _,?_,InvD.zero c⟩,?_,?_,?_⟩))
 ·intro hr w0 φ' a' w' r' hb'
  show (sR (sR (sR K6))).wp Tryz.prog _ a' w'
  refine gM (ie c) (M':=MR c m) (amN c m n cap b (n:Int)) trivial (wM c m (by kernel_rfl)) r' ?_
  intro φ5 a5 w5 g5 r5
  exact Wu (R:=fun e w'=>e= .returned (.bool (pj c n))∧Below w.heap.size w w') r5 ⟨by rw[Nk hr],hb'.trans (r5.mrel.below.mono hb'.size)⟩
 ·intro hr w0 φ' a' w' r' hb'
  exact Wu (R:=fun e w'=>e= .returned (.bool (pj c n))∧Below w.heap.size w w') r' ⟨by rw[NZ hr],hb'⟩
 ·exact Rel.rebase r4 r4.mrel.below.size (r4.mrel.below.block _ (Rel.row_lt r4))
 ·exact World.ownsMap.below hown r4.mrel.below hown.lt
 ·rw[e4];omega
 ·exact b2.trans (r4.mrel.below.mono b2.size)
 ·omega
theorem moveRow {w0 w:World} {φ:c7} {mem:List Blk} {b:Nat} {k:Blk} {c:Cells} {sh:List SK} {m:Nat} (e:TypeId) (h:MRel w0 φ mem w) (hk:mem[b]? =some k) (hl:k.live=true) (hps:∀φ',an φ' k.ps=an φ' (c9 c sh m 0)):
  MRel w (fun _=>φ b) [jf c sh m e] w:=by
 have one:∀(i:Nat) (x:Blk),([jf c sh m e]:List Blk)[i]? =some x→x=jf c sh m e:=by
  intro i x h
  match i,h with
  |0,h=>simp only[List.getElem?_cons_zero,Option.some.injEq] at h;exact h.symm
  |i+1,h=>simp at h
 refine ⟨Below.refl _ _,?_,?_,?_,?_,?_⟩
 ·intro i j b1 b2 hb1 _ _ _ hr _ _
  rw[one i b1 hb1] at hr;cases hr
 ·intro i b1 hb1 _ hr
  rw[one i b1 hb1] at hr;cases hr
 ·intro i b1 hb1 _ _
  refine ⟨h.lt hk hl,fun j v hv=> ?_⟩
  rw[one i b1 hb1] at hv
  have hv:(an (fun _=>φ b) (c9 c sh m 0))[j]? =some v:=hv
  have e2:an (fun _=>φ b) (c9 c sh m 0)=an φ (c9 c sh m 0):=cU (n:=0) (fun i hi=>absurd hi (Nat.not_lt_zero _)) _ (wv c sh _ m 0)
  rw[e2,←hps φ] at hv
  exact h.cell hk hl hv
 ·intro i b1 hb1 _ hr
  rw[one i b1 hb1] at hr;cases hr
 ·intro i b1 hb1
  rw[one i b1 hb1]
  exact zX _ _ _ _ _
def fmG (c:Cells) (mf:Nat→Nat):List V1→List (Option Blk)→Option (List V1×List Prop×Nat×Nat):=fun vs bs=>match vs,bs with
 |[.one (.sl b 0 n _)],[some k]=>some ([],[k.live=true,∀φ,an φ k.ps=an φ (c9 c shR (mf n) 0),n≤mf n,n≤maxLen,cL (jx c shR (mf n) 0)],b,n)
 |[.one (.sx b n)],[some k]=>some ([],[k.live=true,∀φ,an φ k.ps=an φ (c9 c shR (mf n) 0),n≤mf n,n≤maxLen,cL (jx c shR (mf n) 0)],b,n)
 |_,_=>none
noncomputable def fmR (c:Cells) (m:Nat→Nat):FuncId→List V1→List (Option Blk)→Option (List Prop×AV):=fun f vs bs=>match f with
 |63=>match fmG c m vs bs with|some (_,ob,_,n)=>some (ob,bV (pj c n))|none=>none
 |_=>none
theorem blks_sl {mem:List Blk} {b off n cap:Nat} {k:Blk} (h:jF mem [.one (.sl b off n cap)]=[some k]):mem[b]? =some k:=by
 simp only[jF,EB,List.map_cons,List.map_nil,List.cons.injEq,and_true] at h
 split at h
 ·rename_i k' hk
  split at h
  ·rw[hk];exact h
  ·simp at h
 ·simp at h
theorem TV {mem:List Blk} {b n:Nat} {k:Blk} (h:jF mem [.one (.sx b n)]=[some k]):mem[b]? =some k:=by
 simp only[jF,EB,List.map_cons,List.map_nil,List.cons.injEq,and_true] at h
 split at h
 ·rename_i k' hk
  split at h
  ·rw[hk];exact h
  ·simp at h
 ·simp at h
theorem acq {c:Cells} {m:Nat→Nat} {f:FuncId} (hf:f=63) {vs:List V1} {mem:List Blk} {x:List V1} {ob:List Prop} {b n:Nat} (h:fmG c m vs (jF mem vs)=some (x,ob,b,n)) (ho:cL ob) {w0 w:World} {φ:c7} (hm:MRel w0 φ mem w):
  Calls Tryz.prog f (vs.map (V1.conc φ)).toArray w fun e w'=>e= .returned ((bV (pj c n)).conc φ)∧Below w.heap.size w w':=by
 unfold fmG at h
 split at h
 ·rename_i b' n' cap k hb
  simp only[Option.some.injEq,Prod.mk.injEq] at h
  obtain ⟨_,rfl,rfl,rfl⟩:=h
  obtain ⟨hl,hps,hn,hmx,hob,_⟩:=ho
  have hm':=moveRow 52 hm (blks_sl hb) hl hps
  have e1:((([V1.one (.sl b' 0 n' cap)]:List V1).map (V1.conc φ)).toArray:Array Value)= #[(V1.one (.sl 0 0 n' cap)).conc (fun _=>φ b')]:=rfl
  have e2:(bV (pj c n')).conc φ=Value.bool (pj c n'):=rfl
  rw[e1,e2]
  subst hf
  exact H4 (cap:=cap) hn hmx hob hm'
 ·rename_i b' n' k hb
  simp only[Option.some.injEq,Prod.mk.injEq] at h
  obtain ⟨_,rfl,rfl,rfl⟩:=h
  obtain ⟨hl,hps,hn,hmx,hob,_⟩:=ho
  have hm':=moveRow 52 hm (TV hb) hl hps
  have e1:((([V1.one (.sx b' n')]:List V1).map (V1.conc φ)).toArray:Array Value)= #[(V1.one (.sl 0 0 n' (φ b').2.2)).conc (fun _=>φ b')]:=rfl
  have e2:(bV (pj c n')).conc φ=Value.bool (pj c n'):=rfl
  rw[e1,e2]
  subst hf
  exact H4 (cap:=(φ b').2.2) hn hmx hob hm'
 ·simp at h
theorem abS (c:Cells) (m:Nat→Nat):∀f vs mem ob r,fmR c m f vs (jF mem vs)=some (ob,r)→cL ob→∀w0 φ w,MRel w0 φ mem w→Calls Tryz.prog f (vs.map (V1.conc φ)).toArray w fun e w'=>e= .returned (r.conc φ)∧Below w.heap.size w w':=by
 intro f vs mem ob r h ho w0 φ w hm
 unfold fmR at h
 split at h
 ·split at h
  ·rename_i hg
   obtain ⟨rfl,rfl⟩:=sI h
   exact acq rfl hg ho hm
  ·simp at h
 ·simp at h
noncomputable def addM (E:Env) (g:FuncId→List V1→List (Option Blk)→Option (List Prop×AV)):Env:={E with fm:=g}
theorem envAddM {E:Env} (hE:EnvOK E) {g:FuncId→List V1→List (Option Blk)→Option (List Prop×AV)} (h:∀f vs mem ob r,g f vs (jF mem vs)=some (ob,r)→cL ob→∀w0 φ w,MRel w0 φ mem w→Calls E.P f (vs.map (V1.conc φ)).toArray w fun e w'=>e= .returned (r.conc φ)∧Below w.heap.size w w'):EnvOK (addM E g):=
 ⟨hE.mixed,hE.fns,h,hE.lps,hE.fbs⟩
def w1:ByteArray:=⟨#[109]⟩
def w2:ByteArray:=⟨#[109,47,49]⟩
def cW:Cells:=⟨fun _=>false,fun j=>match j with|0=>w1|4=>w2|8=>w1|12=>w1|_=>⟨#[]⟩,fun _=>0,fun j=>match j with|1=>1|5=>1|_=>2⟩
noncomputable def SW:FuncId→Nat→Bool:=fun f t=>match f with|27=>Nat.beq t 8||Nat.beq t 15|_=>false
noncomputable def EW:Env:=addM (cd [] SW) (fmR cW (fun n=>n))
theorem r8w:al EW 1000 27 [] [true,true]=
  some ([true=true,∀φ:c7,an φ (c9 cW shR 3 0)=an φ (c9 cW shR 3 0),3≤3,3≤maxLen,cL (jx cW shR 3 0),pj cW 3=true,true=true,∀φ:c7,an φ (c9 cW shR 4 0)=an φ (c9 cW shR 4 0),4≤4,4≤maxLen,cL (jx cW shR 4 0),(!pj cW 4)=true],bV true):=by kernel_rfl
theorem aj8:RisP cW 3:=by
 intro i hi k hk h
 have:(i=1∧k=0)∨(i=2∧k=0)∨(i=2∧k=1):=by omega
 rcases this with ⟨rfl,rfl⟩|⟨rfl,rfl⟩|⟨rfl,rfl⟩
 ·exact absurd (congrArg ByteArray.size h) (by decide)
 ·decide
 ·exact absurd (congrArg ByteArray.size h) (by decide)
theorem agy:¬RisP cW 4:=fun h=>absurd (h 3 (by omega) 2 (by omega) rfl) (by decide)
theorem obW:cL (jx cW shR 4 0):=by
 refine ⟨?_,?_,?_,?_,?_,?_,?_,?_,?_,?_,?_,?_,?_,?_,?_,?_,trivial⟩<;>first|exact (by decide:(1:Nat)≤maxLen)|exact (by decide:(3:Nat)≤maxLen)|exact (by decide:(0:Nat)≤maxLen)|exact (by decide:(1:Nat)<18446744073709551616)|exact (by decide:(2:Nat)<18446744073709551616)
theorem amY:cL (jx cW shR 3 0):=by
 refine ⟨?_,?_,?_,?_,?_,?_,?_,?_,?_,?_,?_,?_,trivial⟩<;>first|exact (by decide:(1:Nat)≤maxLen)|exact (by decide:(3:Nat)≤maxLen)|exact (by decide:(0:Nat)≤maxLen)|exact (by decide:(1:Nat)<18446744073709551616)|exact (by decide:(2:Nat)<18446744073709551616)
theorem wakes8:Spec 27 [] (bV true):=af (envAddM (aF (L:=[]) trivial SW) (abS cW (fun n=>n))) rfl r8w
 ⟨rfl,fun _=>rfl,by decide,by decide,amY,Nk aj8,rfl,fun _=>rfl,by decide,by decide,obW,by rw[NZ agy];rfl,trivial⟩ rfl rfl
end Go.Ev.H5.Tr
namespace Go.Ev
open Go Go.Proofs Go.RowKit
noncomputable def wE (s:ByteArray):Int:=
 bif decide (s.size=33) then (bif (decide (k0 s=2)||decide (k0 s=3))&&decide (bx s<ab 1) then qu (bx s) else 6)
 else bif decide (s.size=65) then (bif decide (k0 s=4)&&(decide (bx s<ab 1)&&decide (yb s<ab 1)) then (bif jC (bx s) (yb s) false then 0 else 7) else 6)
 else 1
noncomputable def wX (s:ByteArray):Nat:=bif decide (wE s=0) then bx s else 0
noncomputable def wY (s:ByteArray):Nat:=bif decide (wE s=0) then (bif decide (s.size=33) then wz (bx s) (decide (2<k0 s)) else yb s) else 0
theorem sV {x:Nat}:fT 1 x=decide (x<ab 1):=by
 unfold fT mX
 rw[show iz 1=true from rfl,Bool.true_and]
 rfl
theorem df {s:ByteArray} (h:33≤s.size):(s.extract 1 33).size=32:=by rw[ByteArray.size_extract];omega
theorem eV {s:ByteArray} (h:s.size=65):(s.extract 33 s.size).size=32:=by rw[ByteArray.size_extract];omega
theorem IJ {s:ByteArray} (h:wE s≠0):wX s=0∧wY s=0:=by
 have hd:decide (wE s=0)=false:=decide_eq_false h
 constructor
 ·unfold wX;rw[hd,cond_false]
 ·unfold wY;rw[hd,cond_false]
theorem Bj {s:ByteArray} (h1:s.size≠33) (h2:s.size≠65):wE s=1:=by
 unfold wE;rw[decide_eq_false h1,decide_eq_false h2,cond_false,cond_false]
theorem vz {s:ByteArray} (h:s.size=33):wE s=bif (decide (k0 s=2)||decide (k0 s=3))&&decide (bx s<ab 1) then qu (bx s) else 6:=by
 unfold wE;rw[decide_eq_true h,cond_true]
theorem CY {s:ByteArray} (h:s.size=65):wE s=bif decide (k0 s=4)&&(decide (bx s<ab 1)&&decide (yb s<ab 1)) then (bif jC (bx s) (yb s) false then 0 else 7) else 6:=by
 unfold wE;rw[decide_eq_false (show ¬s.size=33 by omega),decide_eq_true h,cond_false,cond_true]
theorem Io {s:ByteArray} (h:s.size=33) {o:Bool} (ho:decide (2<k0 s)=o) (he:wE s=qu (bx s)):wX s=xB (bx s)∧wY s=wz (bx s) o:=by
 unfold wX wY
 rw[he,decide_eq_true h,cond_true,ho]
 unfold qu xB wz
 cases hr:Mt (bx s) with
 |true=>rw[cond_true,cond_true,decide_eq_true rfl,cond_true,cond_true,cond_true];exact ⟨rfl,rfl⟩
 |false=>rw[cond_false,cond_false,decide_eq_false (by decide),cond_false,cond_false,cond_false];exact ⟨rfl,rfl⟩
def YE:List Val→Option (List Prop×AV)
 |[.z z,.n a]=>some ([z=1,a<ab 1],.tup [N8 (bif oE 1 a then oS 1 a else 0),.one (.v (.bool (oE 1 a)))])
 |_=>none
theorem ajT:aU ⟨210,dU [.z,.s [.n8]] YE⟩:=jE (by
 intro xs ob r hb h ho
 unfold YE at h
 split at h
 ·obtain ⟨rfl,rfl⟩:=sI h
  obtain ⟨rfl,ha,_⟩:=ho
  exact Pa _ ha
 ·simp at h)
noncomputable def HG:List CT:=⟨210,dU [.z,.s [.n8]] YE⟩::⟨41,Df⟩::PU
theorem iP:bw HG:=⟨ajT,Ol,lT⟩
noncomputable def tD:FuncId→Nat→Bool:=fun f t=>match f with|182=>bf t [11,15,19,23,26,30,31,43,48,49,52,53,73,78,79]|88=>bf t [21]|_=>false
noncomputable def B2 (s:ByteArray):Nat:=aq (ab 1) (bx s)
noncomputable def aR (s:ByteArray):Nat:=ci (ab 1) (Av (B2 s))
noncomputable def BV (s:ByteArray):Nat:=bif oE 1 (aR s) then oS 1 (aR s) else 0
theorem aqN (s:ByteArray):al (cd HG tD) 1000 182 [sS s] [true,true]=
 some ([(!decide ((s.size:Int)=33))=true,(!decide ((s.size:Int)=65))=true],.tup [zSp,.one (.i 1)]):=by kernel_rfl
theorem ai_ (s:ByteArray):al (cd HG tD) 1000 182 [sS s] [false,false,false,false]=
 some ([(!decide ((s.size:Int)=33))=false,(0:Int)≤33∧(33:Int)≤(s.size:Int),(0:Int)≤1∧(1:Int)≤((33:Nat):Int),(s.extract 1 33).size=32,decide ((s.size:Int)=65)=false,(0:Int)≤0∧(0:Int)<(s.size:Int),(!decide (k0 s=2))=false,(0:Int)≤1∧(1:Int)<4,decide (bx s<ab 1)=false,bx s<4294967296^8,ab 1<4294967296^8],.tup [zSp,.one (.i 6)]):=by kernel_rfl
theorem aiZ (s:ByteArray):al (cd HG tD) 1000 182 [sS s] [false,false,false,true,false]=
 some ([(!decide ((s.size:Int)=33))=false,(0:Int)≤33∧(33:Int)≤(s.size:Int),(0:Int)≤1∧(1:Int)≤((33:Nat):Int),(s.extract 1 33).size=32,decide ((s.size:Int)=65)=false,(0:Int)≤0∧(0:Int)<(s.size:Int),(!decide (k0 s=2))=false,(0:Int)≤1∧(1:Int)<4,decide (bx s<ab 1)=true,bx s<4294967296^8,ab 1<4294967296^8,(0:Int)≤1∧(1:Int)<4,bg (ab 1) (aA (ak (ab 1) 0)) (aO (ab 1)),bx s<ab 1,bx s<4294967296^8,ab 1<4294967296^8,aA (ak (ab 1) 0)<4294967296,aO (ab 1)<4294967296^8,B2 s<4294967296^8,ab 1=ab 1,aA (ak (ab 1) 0)=aA (ak (ab 1) 0),aO (ab 1)=aO (ab 1),B2 s<ab 1,bg (ab 1) (aA (ak (ab 1) 0)) (aO (ab 1)),Av (B2 s)<ab 1,Av (B2 s)<4294967296^8,aR s<4294967296^8,(1:Int)=1,aR s<ab 1,oE 1 (aR s)=false],.tup [zSp,.one (.i 7)]):=by kernel_rfl
theorem ahx (s:ByteArray):al (cd HG tD) 1000 182 [sS s] [false,false,false,true,true,false]=
 some ([(!decide ((s.size:Int)=33))=false,(0:Int)≤33∧(33:Int)≤(s.size:Int),(0:Int)≤1∧(1:Int)≤((33:Nat):Int),(s.extract 1 33).size=32,decide ((s.size:Int)=65)=false,(0:Int)≤0∧(0:Int)<(s.size:Int),(!decide (k0 s=2))=false,(0:Int)≤1∧(1:Int)<4,decide (bx s<ab 1)=true,bx s<4294967296^8,ab 1<4294967296^8,(0:Int)≤1∧(1:Int)<4,bg (ab 1) (aA (ak (ab 1) 0)) (aO (ab 1)),bx s<ab 1,bx s<4294967296^8,ab 1<4294967296^8,aA (ak (ab 1) 0)<4294967296,aO (ab 1)<4294967296^8,B2 s<4294967296^8,ab 1=ab 1,aA (ak (ab 1) 0)=aA (ak (ab 1) 0),aO (ab 1)=aO (ab 1),B2 s<ab 1,bg (ab 1) (aA (ak (ab 1) 0)) (aO (ab 1)),Av (B2 s)<ab 1,Av (B2 s)<4294967296^8,aR s<4294967296^8,(1:Int)=1,aR s<ab 1,oE 1 (aR s)=true,(0:Int)≤0∧(0:Int)<(s.size:Int),decide (k0 s=3)=false],.tup [P3 (bx s) (BV s) false,.one (.i 0)]):=by kernel_rfl
theorem agP (s:ByteArray):al (cd HG tD) 1000 182 [sS s] [false,false,true,false,false]=
 some ([(!decide ((s.size:Int)=33))=false,(0:Int)≤33∧(33:Int)≤(s.size:Int),(0:Int)≤1∧(1:Int)≤((33:Nat):Int),(s.extract 1 33).size=32,decide ((s.size:Int)=65)=false,(0:Int)≤0∧(0:Int)<(s.size:Int),(!decide (k0 s=2))=true,(0:Int)≤0∧(0:Int)<(s.size:Int),(!decide (k0 s=3))=false,(0:Int)≤1∧(1:Int)<4,decide (bx s<ab 1)=false,bx s<4294967296^8,ab 1<4294967296^8],.tup [zSp,.one (.i 6)]):=by kernel_rfl
theorem aii (s:ByteArray):al (cd HG tD) 1000 182 [sS s] [false,false,true,false,true,false]=
 some ([(!decide ((s.size:Int)=33))=false,(0:Int)≤33∧(33:Int)≤(s.size:Int),(0:Int)≤1∧(1:Int)≤((33:Nat):Int),(s.extract 1 33).size=32,decide ((s.size:Int)=65)=false,(0:Int)≤0∧(0:Int)<(s.size:Int),(!decide (k0 s=2))=true,(0:Int)≤0∧(0:Int)<(s.size:Int),(!decide (k0 s=3))=false,(0:Int)≤1∧(1:Int)<4,decide (bx s<ab 1)=true,bx s<4294967296^8,ab 1<4294967296^8,(0:Int)≤1∧(1:Int)<4,bg (ab 1) (aA (ak (ab 1) 0)) (aO (ab 1)),bx s<ab 1,bx s<4294967296^8,ab 1<4294967296^8,aA (ak (ab 1) 0)<4294967296,aO (ab 1)<4294967296^8,B2 s<4294967296^8,ab 1=ab 1,aA (ak (ab 1) 0)=aA (ak (ab 1) 0),aO (ab 1)=aO (ab 1),B2 s<ab 1,bg (ab 1) (aA (ak (ab 1) 0)) (aO (ab 1)),Av (B2 s)<ab 1,Av (B2 s)<4294967296^8,aR s<4294967296^8,(1:Int)=1,aR s<ab 1,oE 1 (aR s)=false],.tup [zSp,.one (.i 7)]):=by kernel_rfl
theorem agq (s:ByteArray):al (cd HG tD) 1000 182 [sS s] [false,false,true,false,true,true,true]=
 some ([(!decide ((s.size:Int)=33))=false,(0:Int)≤33∧(33:Int)≤(s.size:Int),(0:Int)≤1∧(1:Int)≤((33:Nat):Int),(s.extract 1 33).size=32,decide ((s.size:Int)=65)=false,(0:Int)≤0∧(0:Int)<(s.size:Int),(!decide (k0 s=2))=true,(0:Int)≤0∧(0:Int)<(s.size:Int),(!decide (k0 s=3))=false,(0:Int)≤1∧(1:Int)<4,decide (bx s<ab 1)=true,bx s<4294967296^8,ab 1<4294967296^8,(0:Int)≤1∧(1:Int)<4,bg (ab 1) (aA (ak (ab 1) 0)) (aO (ab 1)),bx s<ab 1,bx s<4294967296^8,ab 1<4294967296^8,aA (ak (ab 1) 0)<4294967296,aO (ab 1)<4294967296^8,B2 s<4294967296^8,ab 1=ab 1,aA (ak (ab 1) 0)=aA (ak (ab 1) 0),aO (ab 1)=aO (ab 1),B2 s<ab 1,bg (ab 1) (aA (ak (ab 1) 0)) (aO (ab 1)),Av (B2 s)<ab 1,Av (B2 s)<4294967296^8,aR s<4294967296^8,(1:Int)=1,aR s<ab 1,oE 1 (aR s)=true,(0:Int)≤0∧(0:Int)<(s.size:Int),decide (k0 s=3)=true,bg (ab 1) (aA (ak (ab 1) 0)) (aO (ab 1)),0<ab 1,BV s<ab 1,0<4294967296,0<4294967296,0<4294967296,0<4294967296,0<4294967296,0<4294967296,0<4294967296,0<4294967296,BV s<4294967296^8],.tup [P3 (bx s) (aw (ab 1) 0 (BV s)) false,.one (.i 0)]):=by kernel_rfl
theorem ajK (s:ByteArray):al (cd HG tD) 1000 182 [sS s] [false,false,true,true]=
 some ([(!decide ((s.size:Int)=33))=false,(0:Int)≤33∧(33:Int)≤(s.size:Int),(0:Int)≤1∧(1:Int)≤((33:Nat):Int),(s.extract 1 33).size=32,decide ((s.size:Int)=65)=false,(0:Int)≤0∧(0:Int)<(s.size:Int),(!decide (k0 s=2))=true,(0:Int)≤0∧(0:Int)<(s.size:Int),(!decide (k0 s=3))=true],.tup [zSp,.one (.i 6)]):=by kernel_rfl
theorem apH (s:ByteArray):al (cd HG tD) 1000 182 [sS s] [true,false,true,true]=
 some ([(!decide ((s.size:Int)=33))=true,(!decide ((s.size:Int)=65))=false,(0:Int)≤33∧(33:Int)≤(s.size:Int),(0:Int)≤1∧(1:Int)≤((33:Nat):Int),(s.extract 1 33).size=32,decide ((s.size:Int)=65)=true,(0:Int)≤33∧(33:Int)≤(s.size:Int),(s.extract 33 s.size).size=32,(0:Int)≤0∧(0:Int)<(s.size:Int),(!decide (k0 s=4))=true],.tup [zSp,.one (.i 6)]):=by kernel_rfl
theorem apL (s:ByteArray):al (cd HG tD) 1000 182 [sS s] [true,false,true,false,false]=
 some ([(!decide ((s.size:Int)=33))=true,(!decide ((s.size:Int)=65))=false,(0:Int)≤33∧(33:Int)≤(s.size:Int),(0:Int)≤1∧(1:Int)≤((33:Nat):Int),(s.extract 1 33).size=32,decide ((s.size:Int)=65)=true,(0:Int)≤33∧(33:Int)≤(s.size:Int),(s.extract 33 s.size).size=32,(0:Int)≤0∧(0:Int)<(s.size:Int),(!decide (k0 s=4))=false,(0:Int)≤1∧(1:Int)<4,decide (bx s<ab 1)=false,bx s<4294967296^8,ab 1<4294967296^8],.tup [zSp,.one (.i 6)]):=by kernel_rfl
theorem ap4 (s:ByteArray):al (cd HG tD) 1000 182 [sS s] [true,false,true,false,true,false]=
 some ([(!decide ((s.size:Int)=33))=true,(!decide ((s.size:Int)=65))=false,(0:Int)≤33∧(33:Int)≤(s.size:Int),(0:Int)≤1∧(1:Int)≤((33:Nat):Int),(s.extract 1 33).size=32,decide ((s.size:Int)=65)=true,(0:Int)≤33∧(33:Int)≤(s.size:Int),(s.extract 33 s.size).size=32,(0:Int)≤0∧(0:Int)<(s.size:Int),(!decide (k0 s=4))=false,(0:Int)≤1∧(1:Int)<4,decide (bx s<ab 1)=true,bx s<4294967296^8,ab 1<4294967296^8,(0:Int)≤1∧(1:Int)<4,decide (yb s<ab 1)=false,yb s<4294967296^8,ab 1<4294967296^8],.tup [zSp,.one (.i 6)]):=by kernel_rfl
theorem an0 (s:ByteArray):al (cd HG tD) 1000 182 [sS s] [true,false,true,false,true,true,false]=
 some ([(!decide ((s.size:Int)=33))=true,(!decide ((s.size:Int)=65))=false,(0:Int)≤33∧(33:Int)≤(s.size:Int),(0:Int)≤1∧(1:Int)≤((33:Nat):Int),(s.extract 1 33).size=32,decide ((s.size:Int)=65)=true,(0:Int)≤33∧(33:Int)≤(s.size:Int),(s.extract 33 s.size).size=32,(0:Int)≤0∧(0:Int)<(s.size:Int),(!decide (k0 s=4))=false,(0:Int)≤1∧(1:Int)<4,decide (bx s<ab 1)=true,bx s<4294967296^8,ab 1<4294967296^8,(0:Int)≤1∧(1:Int)<4,decide (yb s<ab 1)=true,yb s<4294967296^8,ab 1<4294967296^8,jC (bx s) (yb s) false=false,bx s<4294967296^8,yb s<4294967296^8],.tup [zSp,.one (.i 7)]):=by kernel_rfl
theorem als (s:ByteArray):al (cd HG tD) 1000 182 [sS s] [true,false,true,false,true,true,true]=
 some ([(!decide ((s.size:Int)=33))=true,(!decide ((s.size:Int)=65))=false,(0:Int)≤33∧(33:Int)≤(s.size:Int),(0:Int)≤1∧(1:Int)≤((33:Nat):Int),(s.extract 1 33).size=32,decide ((s.size:Int)=65)=true,(0:Int)≤33∧(33:Int)≤(s.size:Int),(s.extract 33 s.size).size=32,(0:Int)≤0∧(0:Int)<(s.size:Int),(!decide (k0 s=4))=false,(0:Int)≤1∧(1:Int)<4,decide (bx s<ab 1)=true,bx s<4294967296^8,ab 1<4294967296^8,(0:Int)≤1∧(1:Int)<4,decide (yb s<ab 1)=true,yb s<4294967296^8,ab 1<4294967296^8,jC (bx s) (yb s) false=true,bx s<4294967296^8,yb s<4294967296^8],.tup [P3 (bx s) (yb s) false,.one (.i 0)]):=by kernel_rfl
theorem fu {s:ByteArray} (h:s.size=32):gT s<4294967296^8:=by
 have:=qc (qm s)
 rw[lK,h] at this
 exact Nat.lt_of_lt_of_le this (by decide)
theorem WP (s:ByteArray):aR s=E8 (bx s):=by
 unfold aR B2
 rw[Be,fi (aj 1) (aK (by decide)) (pq _)]
theorem bbT {a b:Bool} {x y:Int} (ha:a=true) (hb:b=true):(bif a&&b then x else y)=x:=by rw[ha,hb];rfl
theorem uO:aA (ak (ab 1) 0)<4294967296:=by decide+kernel
theorem HM:aO (ab 1)<4294967296^8:=L8 (aC (k:=1) (by decide)).2.2.1
theorem Wf (s:ByteArray):Spec 121 [sS s] (.tup [P3 (wX s) (wY s) false,.one (.i (wE s))]):=by
 have hE0:∀{z:Int},wE s=z→z≠0→wX s=0∧wY s=0:=fun h h0=>IJ (by rw[h];exact h0)
 by_cases h:s.size=33
 ·have BX8:bx s<4294967296^8:=fu (df (by omega))
  have six:(bif (decide (k0 s=2)||decide (k0 s=3))&&decide (bx s<ab 1) then qu (bx s) else 6)=(6:Int)→Spec 121 [sS s] (.tup [P3 0 0 false,.one (.i 6)])→Spec 121 [sS s] (.tup [P3 (wX s) (wY s) false,.one (.i (wE s))]):=by
   intro e hs
   have e:=(vz h).trans e
   obtain ⟨e1,e2⟩:=hE0 e (by decide)
   rw[e,e1,e2]
   exact hs
  by_cases hk:k0 s=2
  ·by_cases hx:bx s<ab 1
   ·have he:wE s=qu (bx s):=(vz h).trans (bbT (by rw[decide_eq_true hk,Bool.true_or]) (decide_eq_true hx))
    obtain ⟨e1,e2⟩:=Io h (o:=false) (decide_eq_false (by omega)) he
    rw[he,e1,e2]
    exact af (aF iK sW) rfl (af6 s) ⟨by rw[decide_eq_true (show (s.size:Int)=33 by omega)];rfl,by omega,by decide,df (by omega),by omega,decide_eq_true hk,decide_eq_false (show ¬(s.size:Int)=65 by omega),by rw[sV];exact decide_eq_true hx,BX8,by rw[sV];exact decide_eq_true (ae 1),by decide,by decide,by decide,by decide,by decide,by decide,by decide,by decide,decide_eq_true (show (s.size:Int)=33 by omega),by omega,(decide_eq_false (by omega)),BX8,by decide,by decide,by decide,by decide,by decide,by decide,by decide,by decide,hx,rfl,trivial⟩ rfl rfl
   ·exact six (by rw[decide_eq_true hk,decide_eq_false hx];simp only[Bool.and_false,cond_false]) ((af (aF iK sW) rfl (ag2 s) ⟨by rw[decide_eq_true (show (s.size:Int)=33 by omega)];rfl,by omega,by decide,df (by omega),by omega,decide_eq_true hk,decide_eq_false (show ¬(s.size:Int)=65 by omega),by rw[sV];exact decide_eq_false hx,BX8,trivial⟩ rfl rfl).congr (fun _=>rfl) (fun φ=>cS φ 6))
  ·have hk2:=hk
   by_cases hk:k0 s=3
   ·by_cases hx:bx s<ab 1
    ·have he:wE s=qu (bx s):=(vz h).trans (bbT (by rw[decide_eq_true hk,Bool.or_true]) (decide_eq_true hx))
     obtain ⟨e1,e2⟩:=Io h (o:=true) (decide_eq_true (by omega)) he
     rw[he,e1,e2]
     exact af (aF iK sW) rfl (afH s) ⟨by rw[decide_eq_true (show (s.size:Int)=33 by omega)];rfl,by omega,by decide,df (by omega),by omega,decide_eq_false (by omega),by omega,decide_eq_true hk,decide_eq_false (show ¬(s.size:Int)=65 by omega),by rw[sV];exact decide_eq_true hx,BX8,by rw[sV];exact decide_eq_true (ae 1),by decide,by decide,by decide,by decide,by decide,by decide,by decide,by decide,decide_eq_true (show (s.size:Int)=33 by omega),by omega,(decide_eq_true (by omega)),BX8,by decide,by decide,by decide,by decide,by decide,by decide,by decide,by decide,hx,rfl,trivial⟩ rfl rfl
    ·exact six (by rw[decide_eq_true hk,decide_eq_false hx];simp only[Bool.and_false,cond_false]) ((af (aF iK sW) rfl (aiY s) ⟨by rw[decide_eq_true (show (s.size:Int)=33 by omega)];rfl,by omega,by decide,df (by omega),by omega,decide_eq_false (by omega),by omega,decide_eq_true hk,decide_eq_false (show ¬(s.size:Int)=65 by omega),by rw[sV];exact decide_eq_false hx,BX8,trivial⟩ rfl rfl).congr (fun _=>rfl) (fun φ=>cS φ 6))
   ·have hk3:=hk
    exact six (by rw[decide_eq_false hk2,decide_eq_false hk3];simp only[Bool.or_false,Bool.false_and,cond_false]) ((af (aF iK sW) rfl (agZ s) ⟨by rw[decide_eq_true (show (s.size:Int)=33 by omega)];rfl,by omega,by decide,df (by omega),by omega,decide_eq_false hk2,by omega,decide_eq_false hk3,decide_eq_false (show ¬(s.size:Int)=65 by omega),trivial⟩ rfl rfl).congr (fun _=>rfl) (fun φ=>cS φ 6))
 ·by_cases h6:s.size=65
  ·have BX8:bx s<4294967296^8:=fu (df (by omega))
   have YB8:yb s<4294967296^8:=fu (eV h6)
   have six:(bif decide (k0 s=4)&&(decide (bx s<ab 1)&&decide (yb s<ab 1)) then (bif jC (bx s) (yb s) false then 0 else 7) else 6)=(6:Int)→Spec 121 [sS s] (.tup [P3 0 0 false,.one (.i 6)])→Spec 121 [sS s] (.tup [P3 (wX s) (wY s) false,.one (.i (wE s))]):=by
    intro e hs
    have e:=(CY h6).trans e
    obtain ⟨e1,e2⟩:=hE0 e (by decide)
    rw[e,e1,e2]
    exact hs
   by_cases hk4:k0 s=4
   ·have hk2:¬k0 s=2:=by omega
    have hk3:¬k0 s=3:=by omega
    by_cases hx:bx s<ab 1
    ·by_cases hyl:yb s<ab 1
     ·have e0:wE s=bif jC (bx s) (yb s) false then 0 else 7:=(CY h6).trans (bbT (decide_eq_true hk4) (by rw[decide_eq_true hx,decide_eq_true hyl];rfl))
      cases ho:jC (bx s) (yb s) false with
      |false=>
       rw[ho,cond_false] at e0
       obtain ⟨e1,e2⟩:=hE0 e0 (by decide)
       rw[e0,e1,e2]
       exact (af (aF iK sW) rfl (an8 s) ⟨by rw[decide_eq_false (show ¬(s.size:Int)=33 by omega)];rfl,by rw[decide_eq_true (show (s.size:Int)=65 by omega)];rfl,by omega,by decide,df (by omega),by omega,decide_eq_false hk2,by omega,decide_eq_false hk3,decide_eq_true (show (s.size:Int)=65 by omega),by omega,eV h6,by omega,decide_eq_true hk4,by rw[sV];exact decide_eq_true hx,BX8,by rw[sV];exact decide_eq_true hyl,YB8,decide_eq_false (show ¬(s.size:Int)=33 by omega),ho,BX8,YB8,trivial⟩ rfl rfl).congr (fun _=>rfl) (fun φ=>cS φ 7)
      |true=>
       rw[ho,cond_true] at e0
       have e1:wX s=bx s:=by unfold wX;rw[decide_eq_true e0,cond_true]
       have e2:wY s=yb s:=by unfold wY;rw[decide_eq_true e0,cond_true,decide_eq_false h,cond_false]
       rw[e0,e1,e2]
       exact af (aF iK sW) rfl (apP s) ⟨by rw[decide_eq_false (show ¬(s.size:Int)=33 by omega)];rfl,by rw[decide_eq_true (show (s.size:Int)=65 by omega)];rfl,by omega,by decide,df (by omega),by omega,decide_eq_false hk2,by omega,decide_eq_false hk3,decide_eq_true (show (s.size:Int)=65 by omega),by omega,eV h6,by omega,decide_eq_true hk4,by rw[sV];exact decide_eq_true hx,BX8,by rw[sV];exact decide_eq_true hyl,YB8,decide_eq_false (show ¬(s.size:Int)=33 by omega),ho,BX8,YB8,trivial⟩ rfl rfl
     ·exact six (by rw[decide_eq_false hyl];simp only[Bool.and_false,cond_false]) ((af (aF iK sW) rfl (anA s) ⟨by rw[decide_eq_false (show ¬(s.size:Int)=33 by omega)];rfl,by rw[decide_eq_true (show (s.size:Int)=65 by omega)];rfl,by omega,by decide,df (by omega),by omega,decide_eq_false hk2,by omega,decide_eq_false hk3,decide_eq_true (show (s.size:Int)=65 by omega),by omega,eV h6,by omega,decide_eq_true hk4,by rw[sV];exact decide_eq_true hx,BX8,by rw[sV];exact decide_eq_false hyl,YB8,trivial⟩ rfl rfl).congr (fun _=>rfl) (fun φ=>cS φ 6))
    ·exact six (by rw[decide_eq_false hx];simp only[Bool.and_false,Bool.false_and,cond_false]) ((af (aF iK sW) rfl (amZ s) ⟨by rw[decide_eq_false (show ¬(s.size:Int)=33 by omega)];rfl,by rw[decide_eq_true (show (s.size:Int)=65 by omega)];rfl,by omega,by decide,df (by omega),by omega,decide_eq_false hk2,by omega,decide_eq_false hk3,decide_eq_true (show (s.size:Int)=65 by omega),by omega,eV h6,by omega,decide_eq_true hk4,by rw[sV];exact decide_eq_false hx,BX8,trivial⟩ rfl rfl).congr (fun _=>rfl) (fun φ=>cS φ 6))
   ·by_cases hk:k0 s=2
    ·exact six (by rw[decide_eq_false hk4];simp only[Bool.false_and,cond_false]) ((af (aF iK sW) rfl (ai8 s) ⟨by rw[decide_eq_false (show ¬(s.size:Int)=33 by omega)];rfl,by rw[decide_eq_true (show (s.size:Int)=65 by omega)];rfl,by omega,by decide,df (by omega),by omega,decide_eq_true hk,decide_eq_true (show (s.size:Int)=65 by omega),by omega,eV h6,by omega,decide_eq_false hk4,trivial⟩ rfl rfl).congr (fun _=>rfl) (fun φ=>cS φ 6))
    ·have hk2:=hk
     by_cases hk:k0 s=3
     ·exact six (by rw[decide_eq_false hk4];simp only[Bool.false_and,cond_false]) ((af (aF iK sW) rfl (ahb s) ⟨by rw[decide_eq_false (show ¬(s.size:Int)=33 by omega)];rfl,by rw[decide_eq_true (show (s.size:Int)=65 by omega)];rfl,by omega,by decide,df (by omega),by omega,decide_eq_false (by omega),by omega,decide_eq_true hk,decide_eq_true (show (s.size:Int)=65 by omega),by omega,eV h6,by omega,decide_eq_false hk4,trivial⟩ rfl rfl).congr (fun _=>rfl) (fun φ=>cS φ 6))
     ·have hk3:=hk
      exact six (by rw[decide_eq_false hk4];simp only[Bool.false_and,cond_false]) ((af (aF iK sW) rfl (ajo s) ⟨by rw[decide_eq_false (show ¬(s.size:Int)=33 by omega)];rfl,by rw[decide_eq_true (show (s.size:Int)=65 by omega)];rfl,by omega,by decide,df (by omega),by omega,decide_eq_false hk2,by omega,decide_eq_false hk3,decide_eq_true (show (s.size:Int)=65 by omega),by omega,eV h6,by omega,decide_eq_false hk4,trivial⟩ rfl rfl).congr (fun _=>rfl) (fun φ=>cS φ 6))
  ·have e:=Bj h h6
   obtain ⟨e1,e2⟩:=hE0 e (by decide)
   rw[e,e1,e2]
   exact (af (aF iK sW) rfl (amW s) ⟨by rw[decide_eq_false (show ¬(s.size:Int)=33 by omega)];rfl,by rw[decide_eq_false (show ¬(s.size:Int)=65 by omega)];rfl,trivial⟩ rfl rfl).congr (fun _=>rfl) (fun φ=>cS φ 1)
theorem Qy (s:ByteArray):Spec 182 [sS s] (.tup [P3 (wX s) (wY s) false,.one (.i (wE s))]):=by
 have hE0:∀{z:Int},wE s=z→z≠0→wX s=0∧wY s=0:=fun h h0=>IJ (by rw[h];exact h0)
 by_cases h:s.size=33
 ·have BX8:bx s<4294967296^8:=fu (df (by omega))
  have six:(bif (decide (k0 s=2)||decide (k0 s=3))&&decide (bx s<ab 1) then qu (bx s) else 6)=(6:Int)→Spec 182 [sS s] (.tup [P3 0 0 false,.one (.i 6)])→Spec 182 [sS s] (.tup [P3 (wX s) (wY s) false,.one (.i (wE s))]):=by
   intro e hs
   have e:=(vz h).trans e
   obtain ⟨e1,e2⟩:=hE0 e (by decide)
   rw[e,e1,e2]
   exact hs
  by_cases hk:k0 s=2
  ·by_cases hx:bx s<ab 1
   ·have he:wE s=qu (bx s):=(vz h).trans (bbT (by rw[decide_eq_true hk,Bool.true_or]) (decide_eq_true hx))
    obtain ⟨e1,e2⟩:=Io h (o:=false) (decide_eq_false (by omega)) he
    rw[he,e1,e2]
    have haR:=WP s
    cases hr:Mt (bx s) with
    |false=>
     have e4:xB (bx s)=0:=by unfold xB;rw[hr,cond_false]
     have e5:wz (bx s) false=0:=by unfold wz;rw[hr,cond_false]
     have e6:qu (bx s)=7:=by unfold qu;rw[hr,cond_false]
     rw[e4,e5,e6]
     exact (af (aF iP tD) rfl (aiZ s) ⟨by rw[decide_eq_true (show (s.size:Int)=33 by omega)];rfl,by omega,by decide,df (by omega),decide_eq_false (show ¬(s.size:Int)=65 by omega),by omega,by rw[decide_eq_true hk];rfl,by decide,decide_eq_true hx,L8 hx,aj 1,by decide,aC (k:=1) (by decide),hx,L8 hx,aj 1,uO,HM,L8 (au (ae 1)),rfl,rfl,rfl,au (ae 1),aC (k:=1) (by decide),ao (ae 1),L8 (ao (ae 1)),L8 (bj (ae 1)),rfl,bj (ae 1),by rw[haR];exact hr,trivial⟩ rfl rfl).congr (fun _=>rfl) (fun φ=>cS φ 7)
    |true=>
     have e4:xB (bx s)=bx s:=by unfold xB;rw[hr,cond_true]
     have e6:qu (bx s)=0:=by unfold qu;rw[hr,cond_true]
     have hr':oE 1 (E8 (bx s))=true:=hr
     have e7:BV s=Oq (bx s):=by unfold BV;rw[haR,hr',cond_true];rfl
     have hev:Oq (bx s)<ab 1:=pN (by decide)
     have e5:wz (bx s) false=BV s:=by unfold wz;rw[hr,cond_true,cond_false,e7]
     rw[e4,e5,e6]
     exact af (aF iP tD) rfl (ahx s) ⟨by rw[decide_eq_true (show (s.size:Int)=33 by omega)];rfl,by omega,by decide,df (by omega),decide_eq_false (show ¬(s.size:Int)=65 by omega),by omega,by rw[decide_eq_true hk];rfl,by decide,decide_eq_true hx,L8 hx,aj 1,by decide,aC (k:=1) (by decide),hx,L8 hx,aj 1,uO,HM,L8 (au (ae 1)),rfl,rfl,rfl,au (ae 1),aC (k:=1) (by decide),ao (ae 1),L8 (ao (ae 1)),L8 (bj (ae 1)),rfl,bj (ae 1),by rw[haR];exact hr,by omega,decide_eq_false (by omega),trivial⟩ rfl rfl
   ·exact six (by rw[decide_eq_true hk,decide_eq_false hx];simp only[Bool.and_false,cond_false]) ((af (aF iP tD) rfl (ai_ s) ⟨by rw[decide_eq_true (show (s.size:Int)=33 by omega)];rfl,by omega,by decide,df (by omega),decide_eq_false (show ¬(s.size:Int)=65 by omega),by omega,by rw[decide_eq_true hk];rfl,by decide,decide_eq_false hx,BX8,aj 1,trivial⟩ rfl rfl).congr (fun _=>rfl) (fun φ=>cS φ 6))
  ·have hk2:=hk
   by_cases hk:k0 s=3
   ·by_cases hx:bx s<ab 1
    ·have he:wE s=qu (bx s):=(vz h).trans (bbT (by rw[decide_eq_true hk,Bool.or_true]) (decide_eq_true hx))
     obtain ⟨e1,e2⟩:=Io h (o:=true) (decide_eq_true (by omega)) he
     rw[he,e1,e2]
     have haR:=WP s
     cases hr:Mt (bx s) with
     |false=>
      have e4:xB (bx s)=0:=by unfold xB;rw[hr,cond_false]
      have e5:wz (bx s) true=0:=by unfold wz;rw[hr,cond_false]
      have e6:qu (bx s)=7:=by unfold qu;rw[hr,cond_false]
      rw[e4,e5,e6]
      exact (af (aF iP tD) rfl (aii s) ⟨by rw[decide_eq_true (show (s.size:Int)=33 by omega)];rfl,by omega,by decide,df (by omega),decide_eq_false (show ¬(s.size:Int)=65 by omega),by omega,by rw[decide_eq_false (show ¬k0 s=2 by omega)];rfl,by omega,by rw[decide_eq_true hk];rfl,by decide,decide_eq_true hx,L8 hx,aj 1,by decide,aC (k:=1) (by decide),hx,L8 hx,aj 1,uO,HM,L8 (au (ae 1)),rfl,rfl,rfl,au (ae 1),aC (k:=1) (by decide),ao (ae 1),L8 (ao (ae 1)),L8 (bj (ae 1)),rfl,bj (ae 1),by rw[haR];exact hr,trivial⟩ rfl rfl).congr (fun _=>rfl) (fun φ=>cS φ 7)
     |true=>
      have e4:xB (bx s)=bx s:=by unfold xB;rw[hr,cond_true]
      have e6:qu (bx s)=0:=by unfold qu;rw[hr,cond_true]
      have hr':oE 1 (E8 (bx s))=true:=hr
      have e7:BV s=Oq (bx s):=by unfold BV;rw[haR,hr',cond_true];rfl
      have hev:Oq (bx s)<ab 1:=pN (by decide)
      have e5:wz (bx s) true=aw (ab 1) 0 (BV s):=by unfold wz;rw[hr,cond_true,cond_true,e7]
      rw[e4,e5,e6]
      exact af (aF iP tD) rfl (agq s) ⟨by rw[decide_eq_true (show (s.size:Int)=33 by omega)];rfl,by omega,by decide,df (by omega),decide_eq_false (show ¬(s.size:Int)=65 by omega),by omega,by rw[decide_eq_false (show ¬k0 s=2 by omega)];rfl,by omega,by rw[decide_eq_true hk];rfl,by decide,decide_eq_true hx,L8 hx,aj 1,by decide,aC (k:=1) (by decide),hx,L8 hx,aj 1,uO,HM,L8 (au (ae 1)),rfl,rfl,rfl,au (ae 1),aC (k:=1) (by decide),ao (ae 1),L8 (ao (ae 1)),L8 (bj (ae 1)),rfl,bj (ae 1),by rw[haR];exact hr,by omega,decide_eq_true hk,aC (k:=1) (by decide),ae 1,by rw[e7];exact hev,by decide,by decide,by decide,by decide,by decide,by decide,by decide,by decide,by rw[e7];exact L8 hev,trivial⟩ rfl rfl
    ·exact six (by rw[decide_eq_true hk,decide_eq_false hx];simp only[Bool.and_false,cond_false]) ((af (aF iP tD) rfl (agP s) ⟨by rw[decide_eq_true (show (s.size:Int)=33 by omega)];rfl,by omega,by decide,df (by omega),decide_eq_false (show ¬(s.size:Int)=65 by omega),by omega,by rw[decide_eq_false (show ¬k0 s=2 by omega)];rfl,by omega,by rw[decide_eq_true hk];rfl,by decide,decide_eq_false hx,BX8,aj 1,trivial⟩ rfl rfl).congr (fun _=>rfl) (fun φ=>cS φ 6))
   ·have hk3:=hk
    exact six (by rw[decide_eq_false hk2,decide_eq_false hk3];simp only[Bool.or_false,Bool.false_and,cond_false]) ((af (aF iP tD) rfl (ajK s) ⟨by rw[decide_eq_true (show (s.size:Int)=33 by omega)];rfl,by omega,by decide,df (by omega),decide_eq_false (show ¬(s.size:Int)=65 by omega),by omega,by rw[decide_eq_false hk2];rfl,by omega,by rw[decide_eq_false hk3];rfl,trivial⟩ rfl rfl).congr (fun _=>rfl) (fun φ=>cS φ 6))
 ·by_cases h6:s.size=65
  ·have BX8:bx s<4294967296^8:=fu (df (by omega))
   have YB8:yb s<4294967296^8:=fu (eV h6)
   have six:(bif decide (k0 s=4)&&(decide (bx s<ab 1)&&decide (yb s<ab 1)) then (bif jC (bx s) (yb s) false then 0 else 7) else 6)=(6:Int)→Spec 182 [sS s] (.tup [P3 0 0 false,.one (.i 6)])→Spec 182 [sS s] (.tup [P3 (wX s) (wY s) false,.one (.i (wE s))]):=by
    intro e hs
    have e:=(CY h6).trans e
    obtain ⟨e1,e2⟩:=hE0 e (by decide)
    rw[e,e1,e2]
    exact hs
   by_cases hk4:k0 s=4
   ·by_cases hx:bx s<ab 1
    ·by_cases hyl:yb s<ab 1
     ·have e0:wE s=bif jC (bx s) (yb s) false then 0 else 7:=(CY h6).trans (bbT (decide_eq_true hk4) (by rw[decide_eq_true hx,decide_eq_true hyl];rfl))
      cases ho:jC (bx s) (yb s) false with
      |false=>
       rw[ho,cond_false] at e0
       obtain ⟨e1,e2⟩:=hE0 e0 (by decide)
       rw[e0,e1,e2]
       exact (af (aF iP tD) rfl (an0 s) ⟨by rw[decide_eq_false (show ¬(s.size:Int)=33 by omega)];rfl,by rw[decide_eq_true (show (s.size:Int)=65 by omega)];rfl,by omega,by decide,df (by omega),decide_eq_true (show (s.size:Int)=65 by omega),by omega,eV h6,by omega,by rw[decide_eq_true hk4];rfl,by decide,decide_eq_true hx,L8 hx,aj 1,by decide,decide_eq_true hyl,L8 hyl,aj 1,ho,BX8,YB8,trivial⟩ rfl rfl).congr (fun _=>rfl) (fun φ=>cS φ 7)
      |true=>
       rw[ho,cond_true] at e0
       have e1:wX s=bx s:=by unfold wX;rw[decide_eq_true e0,cond_true]
       have e2:wY s=yb s:=by unfold wY;rw[decide_eq_true e0,cond_true,decide_eq_false h,cond_false]
       rw[e0,e1,e2]
       exact af (aF iP tD) rfl (als s) ⟨by rw[decide_eq_false (show ¬(s.size:Int)=33 by omega)];rfl,by rw[decide_eq_true (show (s.size:Int)=65 by omega)];rfl,by omega,by decide,df (by omega),decide_eq_true (show (s.size:Int)=65 by omega),by omega,eV h6,by omega,by rw[decide_eq_true hk4];rfl,by decide,decide_eq_true hx,L8 hx,aj 1,by decide,decide_eq_true hyl,L8 hyl,aj 1,ho,BX8,YB8,trivial⟩ rfl rfl
     ·exact six (by rw[decide_eq_false hyl];simp only[Bool.and_false,cond_false]) ((af (aF iP tD) rfl (ap4 s) ⟨by rw[decide_eq_false (show ¬(s.size:Int)=33 by omega)];rfl,by rw[decide_eq_true (show (s.size:Int)=65 by omega)];rfl,by omega,by decide,df (by omega),decide_eq_true (show (s.size:Int)=65 by omega),by omega,eV h6,by omega,by rw[decide_eq_true hk4];rfl,by decide,decide_eq_true hx,L8 hx,aj 1,by decide,decide_eq_false hyl,YB8,aj 1,trivial⟩ rfl rfl).congr (fun _=>rfl) (fun φ=>cS φ 6))
    ·exact six (by rw[decide_eq_false hx];simp only[Bool.and_false,Bool.false_and,cond_false]) ((af (aF iP tD) rfl (apL s) ⟨by rw[decide_eq_false (show ¬(s.size:Int)=33 by omega)];rfl,by rw[decide_eq_true (show (s.size:Int)=65 by omega)];rfl,by omega,by decide,df (by omega),decide_eq_true (show (s.size:Int)=65 by omega),by omega,eV h6,by omega,by rw[decide_eq_true hk4];rfl,by decide,decide_eq_false hx,BX8,aj 1,trivial⟩ rfl rfl).congr (fun _=>rfl) (fun φ=>cS φ 6))
   ·exact six (by rw[decide_eq_false hk4];simp only[Bool.false_and,cond_false]) ((af (aF iP tD) rfl (apH s) ⟨by rw[decide_eq_false (show ¬(s.size:Int)=33 by omega)];rfl,by rw[decide_eq_true (show (s.size:Int)=65 by omega)];rfl,by omega,by decide,df (by omega),decide_eq_true (show (s.size:Int)=65 by omega),by omega,eV h6,by omega,by rw[decide_eq_false hk4];rfl,trivial⟩ rfl rfl).congr (fun _=>rfl) (fun φ=>cS φ 6))
  ·have e:=Bj h h6
   obtain ⟨e1,e2⟩:=hE0 e (by decide)
   rw[e,e1,e2]
   exact (af (aF iP tD) rfl (aqN s) ⟨by rw[decide_eq_false (show ¬(s.size:Int)=33 by omega)];rfl,by rw[decide_eq_false (show ¬(s.size:Int)=65 by omega)];rfl,trivial⟩ rfl rfl).congr (fun _=>rfl) (fun φ=>cS φ 1)
theorem ac' {a:Nat} (h:oE 1 a=true):oS 1 a*oS 1 a%ab 1=a:=by
 unfold oS
 rw[Go.NT.evenN_sq (by rw[fV];exact Go.NT.candN_lt (by decide))]
 exact (ji 1 a).1 h
theorem QR {x y:Nat}:jC x y false=true↔x<ab 1∧y<ab 1∧y*y%ab 1=E8 x:=by
 unfold jC ltW
 rw[cond_false,AG]
 simp only[Bool.and_eq_true,decide_eq_true_iff]
 exact ⟨fun ⟨⟨a,b⟩,c⟩=>⟨a,b,c⟩,fun ⟨a,b,c⟩=>⟨⟨a,b⟩,c⟩⟩
end Go.Ev
namespace Go.Ev.H5
open Go Go.Proofs Go.RowKit
set_option maxRecDepth 100000
abbrev HH:=ByteArray→ByteArray→ByteArray
def kN (H:HH) (k u:ByteArray):ByteArray:=H k (H k u++ey)
def uN (H:HH) (k u:ByteArray):ByteArray:=H (kN H k u) (H k u)
def nP (H:HH) (k u:ByteArray):Nat→ByteArray×ByteArray
 |0=>(k,u)
 |j+1=>(kN H (nP H k u j).1 (nP H k u j).2,uN H (nP H k u j).1 (nP H k u j).2)
def nC (H:HH) (k u:ByteArray) (j:Nat):ByteArray:=H (nP H k u j).1 (nP H k u j).2
theorem SO {k u:ByteArray} (hk:k.size=32) (hu:u.size=32):∀j,(nP bU k u j).1.size=32∧(nP bU k u j).2.size=32
 |0=>⟨hk,hu⟩
 |_+1=>⟨ez _ _,ez _ _⟩
theorem Bz (k u:ByteArray) (j:Nat):(nC bU k u j).size=32:=ez _ _
def nb (a:Nat):Blk:=⟨[.num 8 a],32,true,false,0⟩
def Js (n x:Nat):Blk:=⟨List.replicate n (.a (.u .u8 x)),5,true,false,0⟩
def zb:Blk:=⟨[.a (.u .u32 0),.a (.u .u32 0),.a (.u .u32 0),.a (.u .u32 0),.a (.u .u32 0),.a (.u .u32 0),.a (.u .u32 0),.a (.u .u32 0)],32,true,false,0⟩
def Ag (x:Nat) (R:Blk) (d:Nat) (k u:ByteArray):List Blk:=[nb x,R,nb x,nb d,Js 32 1,Js 32 0,mkB k u,Js 1 0,Js 1 1]
def T32 (j:Int):List AV:=bt 31 [(4,pV 1),(5,iV 0),(6,pV 6),(20,iV j)]
def c64 (k s:ByteArray):List Prop:=[k.size≤64,s.size≤10000000000000]
def ahc (H:HH) (k u:ByteArray) (j:Nat) (b:Bool):List Prop:=(decide ((j:Int)<8)=true)::(c64 k u++[(H k u).size=32,gd (gT (H k u))=b,gT (H k u)<4294967296^8])
theorem n32 (H:HH) (x d j:Nat) (k u:ByteArray):aH (ENo H) 1000 ((ENo H).S 32) (ah Tryz.prog 32 5) (T32 (j:Int)) (Ag x zb d k u) [true,false] (T32 ((j:Int)+1)) 9=
  some (ahc H k u j false++[(H k u).size+1≤9223372036854775807,(H k u++ey).size+0≤9223372036854775807,k.size≤64,(H k u++ey++⟨#[]⟩).size≤10000000000000,(H k (H k u++ey++⟨#[]⟩)).size≤64,(H k u).size≤10000000000000,br ((j:Int)+1)],.normal,T32 ((j:Int)+1),Ag x zb d (H k (H k u++ey++⟨#[]⟩)) (H (H k (H k u++ey++⟨#[]⟩)) (H k u))):=by kernel_rfl
noncomputable def PD (k u:ByteArray):Nat→Nat→Option Nat
 |0,_=>none
 |t+1,j=>bif gd (gT (nC bU k u j)) then some j else PD k u t (j+1)
theorem J1 (k u:ByteArray) (t j:Nat):PD k u (t+1) j=bif gd (gT (nC bU k u j)) then some j else PD k u t (j+1):=rfl
theorem ae_ (s:ByteArray):s++(⟨#[]⟩:ByteArray)=s:=by apply ByteArray.ext;rw[ByteArray.data_append];simp
theorem oG (a:Nat):er (nb a):=fun _=>rfl
theorem oK (n x:Nat):er (Js n x):=by
 intro f
 unfold Js
 induction n with
 |zero=>rfl
 |succ n ih=>rw[List.replicate_succ];exact ih
theorem My (k v:ByteArray):er (mkB k v):=fun _=>rfl
theorem JF (x:Nat) (R:Blk) (hR:er R) (d:Nat) (k u:ByteArray):∀b∈Ag x R d k u,er b:=by
 intro b hb
 simp only[Ag,List.mem_cons,List.not_mem_nil,or_false] at hb
 rcases hb with rfl|rfl|rfl|rfl|rfl|rfl|rfl|rfl|rfl
 ·exact oG _
 ·exact hR
 ·exact oG _
 ·exact oG _
 ·exact oK _ _
 ·exact oK _ _
 ·exact My _ _
 ·exact oK _ _
 ·exact oK _ _
theorem lZ:er zb:=fun _=>rfl
theorem L9 (x:Nat) (R:Blk) (d:Nat) (k u:ByteArray):(Ag x R d k u).length=9:=by simp only[Ag,List.length_cons,List.length_nil]
theorem aeB {n:Nat} {l:List (Nat×AV)} (x:Nat) {R:Blk} (hR:er R) (d:Nat) (k u:ByteArray) (h:cw 9 (bt n l)=true):dl (bt n l) (Ag x R d k u)=true:=cc (JF x R hR d k u) (by rw[L9];exact h)
theorem amG (j:Int):cw 9 (T32 j)=true:=by kernel_rfl
theorem QU {k u:ByteArray} {j:Nat} {b:Bool} (hk:k.size=32) (hu:u.size=32) (hj:j<8) (hb:gd (gT (bU k u))=b):cL (ahc bU k u j b):=by
 have hz:=ez k u
 exact ⟨decide_eq_true (by omega),by omega,by omega,hz,hb,fu hz,trivial⟩
theorem adR (x d j:Nat) (k u:ByteArray) (hk:k.size=32) (hu:u.size=32) (hj:j<8) (hg:gd (gT (bU k u))=false):Goes Tryz.prog (ah Tryz.prog 32 5) .normal (T32 (j:Int)) (Ag x zb d k u) (T32 ((j:Int)+1)) (Ag x zb d (kN bU k u) (uN bU k u)):=by
 have hr:=n32 bU x d j k u
 rw[ae_] at hr
 have hz:=ez k u
 have hz1:(bU k u++ey).size=33:=by rw[ByteArray.size_append,hz];rfl
 have hz2:=ez k (bU k u++ey)
 exact Runs.goes aaU ⟨_,_,hr,bq (QU hk hu hj hg) ⟨by omega,by omega,by omega,by omega,by omega,by omega,by unfold br;omega,trivial⟩,aeB _ lZ _ _ _ (amG _)⟩
def k0S:ByteArray:=bQ (List.replicate 32 0)
def v0S:ByteArray:=bQ (List.replicate 32 1)
noncomputable def jI (x:Nat) (h:ByteArray):ByteArray:=t8 x++t8 (od (gT h))
def kK (H:HH) (k v:ByteArray) (z m:ByteArray):ByteArray:=H k ((v++z)++m)
def kV (H:HH) (k v:ByteArray) (z m:ByteArray):ByteArray:=H (kK H k v z m) v
noncomputable def k1S (H:HH) (x:Nat) (h:ByteArray):ByteArray:=kK H k0S v0S ey (jI x h)
noncomputable def v1S (H:HH) (x:Nat) (h:ByteArray):ByteArray:=kV H k0S v0S ey (jI x h)
noncomputable def Rr (H:HH) (x:Nat) (h:ByteArray):ByteArray:=kK H (k1S H x h) (v1S H x h) oO (jI x h)
noncomputable def WG (H:HH) (x:Nat) (h:ByteArray):ByteArray:=kV H (k1S H x h) (v1S H x h) oO (jI x h)
def obK (H:HH) (k v z m:ByteArray):List Prop:=[v.size+1≤9223372036854775807,(v++z).size+m.size≤9223372036854775807,k.size≤64,((v++z)++m).size≤10000000000000,(kK H k v z m).size≤64,v.size≤10000000000000]
theorem MG (x:Nat) (h:ByteArray):(jI x h).size=64:=by unfold jI;rw[ByteArray.size_append,Go.Ev.bgS_size,Go.Ev.bgS_size]
theorem Om {H:HH} (hH:∀a b,(H a b).size=32) {k v z m:ByteArray} (hk:k.size=32) (hv:v.size=32) (hz:z.size=1) (hm:m.size=64):cL (obK H k v z m):=by
 have h1:(v++z).size=33:=by rw[ByteArray.size_append,hv,hz]
 have h2:((v++z)++m).size=97:=by rw[ByteArray.size_append,h1,hm]
 have h3:(kK H k v z m).size=32:=hH _ _
 exact ⟨by omega,by omega,by omega,by omega,by omega,by omega,trivial⟩
noncomputable def Su (x:Nat) (h:ByteArray):Option Nat:=PD (Rr bU x h) (WG bU x h) 8 0
noncomputable def uU (x:Nat) (h:ByteArray) (j:Nat):Nat:=gT (nC bU (Rr bU x h) (WG bU x h) j)
def elN (F:Nat→Nat):Option Nat→Nat
 |some j=>F j
 |none=>0
def elB:Option Nat→Bool
 |some _=>true
 |none=>false
theorem LA (F:Nat→Nat) (j:Nat):elN F (some j)=F j:=rfl
theorem L6 (F:Nat→Nat):elN F none=0:=rfl
theorem Ma (j:Nat):elB (some j)=true:=rfl
theorem Ns:elB none=false:=rfl
noncomputable def SX (x:Nat) (h:ByteArray):Nat:=elN (uU x h) (Su x h)
noncomputable def PZ (x:Nat) (h:ByteArray):Bool:=elB (Su x h)
noncomputable def noE (x:Nat) (h:ByteArray):Int:=bif PZ x h then 0 else 3
theorem Or {x:Nat} {h:ByteArray} (hj:Su x h=none):SX x h=0:=by unfold SX;rw[hj,L6]
theorem DW {x:Nat} {h:ByteArray} {j:Nat} (hj:Su x h=some j):SX x h=uU x h j:=by unfold SX;rw[hj,LA]
theorem CW {x:Nat} {h:ByteArray} (hj:Su x h=none):PZ x h=false:=by unfold PZ;rw[hj,Ns]
theorem O0 {x:Nat} {h:ByteArray} {j:Nat} (hj:Su x h=some j):PZ x h=true:=by unfold PZ;rw[hj,Ma]
theorem abL (x:Nat) (h:ByteArray):noE x h=bif PZ x h then 0 else 3:=by unfold noE;rfl
theorem NW (x:Nat) (h:ByteArray):(Rr bU x h).size=32:=ez _ _
theorem MT (x:Nat) (h:ByteArray):(WG bU x h).size=32:=ez _ _
theorem apZ (s:ByteArray):al (cd LNn BO) 1000 52 [sS s] []=some ([s.size=32,gT s<4294967296^8,0<4294967296,0<4294967296,0<4294967296,0<4294967296,0<4294967296,0<4294967296,0<4294967296,0<4294967296,(0:Int)≤3∧(3:Int)<4,co (gT s) 0<4294967296^16],.val (N8 (od (gT s)))):=by kernel_rfl
noncomputable def Mj (vs:List V1):Option (List Prop×AV):=match vs with|[.one (.v (.string s))]=>some ([s.size=32],.val (N8 (od (gT s))))|_=>none
theorem OR:aU ⟨52,Mj⟩:=by
 intro vs ob r h ho
 simp only[Mj] at h
 split at h
 ·obtain ⟨rfl,rfl⟩:=sI h
  obtain ⟨h1,_⟩:=ho
  have z:(0:Nat)<4294967296:=by decide
  exact af (aF sJ BO) rfl (apZ _) ⟨h1,fu h1,z,z,z,z,z,z,z,z,by omega,PI (fu h1),trivial⟩ rfl rfl
 ·simp at h
noncomputable def LNp (H:HH):List CT:=⟨52,Mj⟩::LNo H
theorem aaM:bw (LNp bU):=⟨OR,NL⟩
def SNp:FuncId→Nat→Bool:=fun f t=>match f with
 |96=>bf t [19,22,24,26,29,31,38,40,50,55,52]|47=>bf t [10,20,12]|_=>false
noncomputable def Oh (H:HH):Env:=cd (LNp H) SNp
theorem wG:EnvOK (Oh bU):=aF aaM _
def sv (s:ByteArray):AV:= .val (sS s)
def ny (n:Int) (b k v:ByteArray) (i:Int):List AV:=bt 68 [(2,iV n),(6,pV 1),(7,bV false),(8,sv b),(9,sv k),(10,sv v),(11,iV i)]
def ic (n:Int) (k v:ByteArray) (i:Int):List AV:=bt 68 [(2,iV n),(6,pV 1),(7,bV false),(9,sv k),(10,sv v),(12,iV i)]
def gf (x:Nat):List Blk:=[nb x,zb]
theorem v96 (H:HH) (x i:Nat) (n:Int) (b k v:ByteArray):aH (Oh H) 1000 ((Oh H).S 96) (ah Tryz.prog 96 4) (ny n b k v (i:Int)) (gf x) [true] (ny n b k (v++oO) ((i:Int)+1)) 2=
  some ([decide ((i:Int)<32)=true,v.size+1≤9223372036854775807,br ((i:Int)+1)],.normal,ny n b k (v++oO) ((i:Int)+1),gf x):=by kernel_rfl
theorem ang (H:HH) (x i:Nat) (n:Int) (b k v:ByteArray):aH (Oh H) 1000 ((Oh H).S 96) (ah Tryz.prog 96 4) (ny n b k v (i:Int)) (gf x) [false] (ny n b k v (i:Int)) 2=
  some ([decide ((i:Int)<32)=false],.exit 0,ny n b k v (i:Int),gf x):=by kernel_rfl
theorem c96 (H:HH) (x i:Nat) (n:Int) (k v:ByteArray):aH (Oh H) 1000 ((Oh H).S 96) (ah Tryz.prog 96 13) (ic n k v (i:Int)) (gf x) [true] (ic n (H k (v++ey)) (H (H k (v++ey)) (H (H k (v++ey)) v)) ((i:Int)+1)) 2=
  some ([decide ((i:Int)<n)=true,v.size+1≤9223372036854775807,k.size≤64,(v++ey).size≤10000000000000,(H k (v++ey)).size≤64,v.size≤10000000000000,(H k (v++ey)).size≤64,(H (H k (v++ey)) v).size≤10000000000000,br ((i:Int)+1)],.normal,ic n (H k (v++ey)) (H (H k (v++ey)) (H (H k (v++ey)) v)) ((i:Int)+1),gf x):=by kernel_rfl
theorem ao1 (H:HH) (x i:Nat) (n:Int) (k v:ByteArray):aH (Oh H) 1000 ((Oh H).S 96) (ah Tryz.prog 96 13) (ic n k v (i:Int)) (gf x) [false] (ic n k v (i:Int)) 2=
  some ([decide ((i:Int)<n)=false],.exit 2,ic n k v (i:Int),gf x):=by kernel_rfl
theorem yu (x:Nat):∀b∈gf x,er b:=by
 intro b hb
 simp only[gf,List.mem_cons,List.not_mem_nil,or_false] at hb
 rcases hb with rfl|rfl
 ·exact oG _
 ·exact lZ
theorem CQ (x:Nat):(gf x).length=2:=rfl
theorem ac7 (x:Nat) (n:Int) (b k v:ByteArray) (i:Int):dl (ny n b k v i) (gf x)=true:=cc (yu x) (by rw[CQ];kernel_rfl)
theorem Nt (x:Nat) (n:Int) (k v:ByteArray) (i:Int):dl (ic n k v i) (gf x)=true:=cc (yu x) (by rw[CQ];kernel_rfl)
def KQ (j:Nat):ByteArray:=bQ (List.replicate j 1)
theorem MI (j:Nat):KQ (j+1)=KQ j++oO:=by
 unfold KQ
 rw[List.replicate_succ']
 exact dT _ _
theorem Ca (j:Nat):(KQ j).size=j:=by unfold KQ;rw[dh,List.length_replicate]
theorem VG (x:Nat) (n:Int) (b k:ByteArray):Goes Tryz.prog (.loop (ah Tryz.prog 96 4)) (.exit 0) (ny n b k (KQ 0) ((0:Nat):Int)) (gf x) (ny n b k (KQ 32) ((32:Nat):Int)) (gf x):=by
 refine bJ (N:=32) (k:=2) (T:=fun j=>ny n b k (KQ j) (j:Int)) (M:=fun _=>gf x) (by simp) (fun _ _=>rfl) (fun j hj=> ?_) ?_
 ·have hz:=Ca j
  have hr:=v96 bU x j n b k (KQ j)
  rw[←MI] at hr
  exact Runs.goes wG ⟨_,_,hr,⟨decide_eq_true (by omega),by omega,by unfold br;omega,trivial⟩,ac7 _ _ _ _ _ _⟩
 ·exact Runs.goes wG ⟨_,_,ang bU x 32 n b k (KQ 32),⟨by decide,trivial⟩,ac7 _ _ _ _ _ _⟩
theorem O5 (x n:Nat) (hn:n≤8) (k u:ByteArray) (hk:k.size=32) (hu:u.size=32):Goes Tryz.prog (.loop (ah Tryz.prog 96 13)) (.exit 2) (ic (n:Int) (nP bU k u 0).1 (nC bU k u 0) ((0:Nat):Int)) (gf x) (ic (n:Int) (nP bU k u n).1 (nC bU k u n) ((n:Nat):Int)) (gf x):=by
 refine bJ (N:=n) (k:=2) (T:=fun j=>ic (n:Int) (nP bU k u j).1 (nC bU k u j) (j:Int)) (M:=fun _=>gf x) (by simp) (fun _ _=>rfl) (fun j hj=> ?_) ?_
 ·obtain ⟨h1,h2⟩:=SO hk hu j
  have h3:=Bz k u j
  have h4:(nC bU k u j++ey).size=33:=by rw[ByteArray.size_append,h3];rfl
  have h5:=ez (nP bU k u j).1 (nC bU k u j++ey)
  have h6:=ez (bU (nP bU k u j).1 (nC bU k u j++ey)) (nC bU k u j)
  exact Runs.goes wG ⟨_,_,c96 bU x j (n:Int) (nP bU k u j).1 (nC bU k u j),⟨decide_eq_true (by omega),by omega,by omega,by omega,by omega,by omega,by omega,by omega,by unfold br;omega,trivial⟩,Nt _ _ _ _ _⟩
 ·exact Runs.goes wG ⟨_,_,ao1 bU x n (n:Int) _ _,⟨decide_eq_false (by omega),trivial⟩,Nt _ _ _ _ _⟩
noncomputable def e96 (H:HH) (x:Nat) (h:ByteArray) (n:Int) (V K U:ByteArray):Env:=
 fY (fY (Oh H) 4 (ah Tryz.prog 96 4) (fo (ny n (jI x h) (zs 32) ⟨#[]⟩ 0) (gf x) (ny n (jI x h) (zs 32) V 32) (gf x) (.exit 0)))
  13 (ah Tryz.prog 96 13) (fo (ic n (kK H (kK H (zs 32) V ey (jI x h)) (kV H (zs 32) V ey (jI x h)) oO (jI x h)) (H (kK H (kK H (zs 32) V ey (jI x h)) (kV H (zs 32) V ey (jI x h)) oO (jI x h)) (kV H (kK H (zs 32) V ey (jI x h)) (kV H (zs 32) V ey (jI x h)) oO (jI x h))) 0) (gf x) (ic n K U n) (gf x) (.exit 2))
noncomputable def amr (H:HH) (x:Nat) (h:ByteArray) (n:Int) (V:ByteArray):List Prop:=[x<4294967296^8,h.size=32,od (gT h)<4294967296^8,(t8 x).size+(t8 (od (gT h))).size≤9223372036854775807,(0:Int)≤32∧(32:Int)≤1000000,
 ah Tryz.prog 96 4=ah Tryz.prog 96 4,(ny n (jI x h) (zs 32) ⟨#[]⟩ 0,gf x)=(ny n (jI x h) (zs 32) ⟨#[]⟩ 0,gf x),dl (ny n (jI x h) (zs 32) ⟨#[]⟩ 0) (gf x)=true]++obK H (zs 32) V ey (jI x h)++obK H (kK H (zs 32) V ey (jI x h)) (kV H (zs 32) V ey (jI x h)) oO (jI x h)
noncomputable def aoV (H:HH) (x:Nat) (n:Int) (k v U:ByteArray):List Prop:=[k.size≤64,v.size≤10000000000000,ah Tryz.prog 96 13=ah Tryz.prog 96 13,(ic n k (H k v) 0,gf x)=(ic n k (H k v) 0,gf x),dl (ic n k (H k v) 0) (gf x)=true,U.size=32,gT U<4294967296^8]
theorem apS (H:HH) (x:Nat) (h:ByteArray) (n:Int) (V K U:ByteArray):al (e96 H x h n V K U) 1000 96 [N8 x,sS h,.one (.i n)] []=
  some (amr H x h n V++aoV H x n (kK H (kK H (zs 32) V ey (jI x h)) (kV H (zs 32) V ey (jI x h)) oO (jI x h)) (kV H (kK H (zs 32) V ey (jI x h)) (kV H (zs 32) V ey (jI x h)) oO (jI x h)) U,.tup [N8 (gT U),.one (.v (.bool (gd (gT U))))]):=by kernel_rfl
theorem Vr:zs 32=k0S:=by decide+kernel
theorem U1:KQ 32=v0S:=rfl
theorem Zi:KQ 0=(⟨#[]⟩:ByteArray):=rfl
theorem Zy (x:Nat) (h:ByteArray) (j:Nat):uU x h j<4294967296^8:=fu (Bz _ _ _)
theorem P8 {H:HH} (hE:EnvOK (Oh H)) (hH:∀a b,(H a b).size=32) {x:Nat} {h:ByteArray} {n:Int} {V K U:ByteArray} (hx:x<4294967296^8) (hh:h.size=32) (hV:V.size=32) (hU:U.size=32)
  (g1:Goes Tryz.prog (.loop (ah Tryz.prog 96 4)) (.exit 0) (ny n (jI x h) (zs 32) ⟨#[]⟩ 0) (gf x) (ny n (jI x h) (zs 32) V 32) (gf x))
  (g2:Goes Tryz.prog (.loop (ah Tryz.prog 96 13)) (.exit 2) (ic n (kK H (kK H (zs 32) V ey (jI x h)) (kV H (zs 32) V ey (jI x h)) oO (jI x h)) (H (kK H (kK H (zs 32) V ey (jI x h)) (kV H (zs 32) V ey (jI x h)) oO (jI x h)) (kV H (kK H (zs 32) V ey (jI x h)) (kV H (zs 32) V ey (jI x h)) oO (jI x h))) 0) (gf x) (ic n K U n) (gf x)):
  Spec 96 [N8 x,sS h,.one (.i n)] (.tup [N8 (gT U),.one (.v (.bool (gd (gT U))))]):=by
 have h1:(t8 x).size=32:=Go.Ev.bgS_size _
 have h2:(t8 (od (gT h))).size=32:=Go.Ev.bgS_size _
 have hz:(zs 32).size=32:=i9 32
 have hm:=MG x h
 refine af (da (da hE (bz rfl g1)) (bz rfl g2)) rfl (apS H x h n V K U) (bq (bq (bq ⟨hx,hh,L8 (EE _),by omega,by omega,rfl,rfl,ac7 _ _ _ _ _ _,trivial⟩ (Om hH hz hV rfl hm)) (Om hH (hH _ _) (hH _ _) rfl hm)) ?_) rfl rfl
 have e1:=hH (kK H (zs 32) V ey (jI x h)) ((kV H (zs 32) V ey (jI x h)++oO)++jI x h)
 have e2:=hH (kK H (kK H (zs 32) V ey (jI x h)) (kV H (zs 32) V ey (jI x h)) oO (jI x h)) (kV H (zs 32) V ey (jI x h))
 exact ⟨Nat.le_trans (Nat.le_of_eq e1) (by decide),Nat.le_trans (Nat.le_of_eq e2) (by decide),rfl,rfl,Nt _ _ _ _ _,hU,fu hU,trivial⟩
theorem amy (x:Nat) (h:ByteArray) (n:Nat) (hn:n≤8):Goes Tryz.prog (.loop (ah Tryz.prog 96 13)) (.exit 2) (ic (n:Int) (Rr bU x h) (nC bU (Rr bU x h) (WG bU x h) 0) 0) (gf x) (ic (n:Int) (nP bU (Rr bU x h) (WG bU x h) n).1 (nC bU (Rr bU x h) (WG bU x h) n) (n:Int)) (gf x):=
 O5 x n hn _ _ (NW x h) (MT x h)
theorem Uk (x:Nat) (h:ByteArray) (n:Nat) (hx:x<4294967296^8) (hh:h.size=32) (hn:n≤8):Spec 96 [N8 x,sS h,.one (.i (n:Int))] (.tup [N8 (uU x h n),.one (.v (.bool (gd (uU x h n))))]):=by
 have g1:=VG x (n:Int) (jI x h) (zs 32)
 rw[Zi] at g1
 have g2:=amy x h n hn
 refine P8 wG ez hx hh (Ca 32) (Bz _ _ n) g1 ?_ (K:=(nP bU (Rr bU x h) (WG bU x h) n).1)
 rw[Vr,U1]
 exact g2
def VK (f:Nat→ByteArray→Nat→Nat) (vs:List V1):Option (List Prop×AV):=
 match vs with
 |[x,.one (.v (.string h)),.one (.i n)]=>match el 8 x with
  |some (o,a)=>some ((h.size=32)::(0≤n∧n≤8)::o,.tup [N8 (f a h n.toNat),.one (.v (.bool (gd (f a h n.toNat))))])
  |none=>none
 |_=>none
theorem agT:aU ⟨96,VK uU⟩:=by
 intro vs ob r h ho
 simp only[VK] at h
 split at h
 ·rename_i x hs n
  split at h
  ·rename_i o a hx
   obtain ⟨rfl,rfl⟩:=sI h
   obtain ⟨h1,⟨h2,h3⟩,ho⟩:=ho
   obtain ⟨h4,h5⟩:=aX hx ho
   have hn:((n.toNat:Nat):Int)=n:=Int.toNat_of_nonneg h2
   have hs:=Uk a hs n.toNat h4 h1 (by omega)
   rw[hn] at hs
   exact hs.congr (fun φ=>by simp only[List.map_cons,List.map_nil];rw[←h5 φ];rfl) (fun _=>rfl)
  ·simp at h
 ·simp at h
noncomputable def XA (f:Nat→ByteArray→Nat→Nat):Env:=cd (⟨96,VK f⟩::[]) SNp
theorem su:EnvOK (XA uU):=aF (show bw (⟨96,VK uU⟩::[]) from ⟨agT,trivial⟩) _
def la (x:Nat) (R:Blk):List Blk:=[nb x,R]
def tV (h:ByteArray) (j:Int):List AV:=bt 23 [(1,sv h),(2,pV 0),(4,pV 1),(5,bV false),(6,iV j)]
def EA:List AV:=bt 23 [(4,pV 1),(5,bV true)]
def De:List AV:=bt 23 [(4,pV 1)]
def o47 (f:Nat→ByteArray→Nat→Nat) (x:Nat) (h:ByteArray) (j:Nat) (b:Bool):List Prop:=[decide ((j:Int)<8)=true,h.size=32,(0:Int)≤(j:Int)∧(j:Int)≤8,x<4294967296^8,gd (f x h j)=b]
theorem y47 (f:Nat→ByteArray→Nat→Nat) (x j:Nat) (h:ByteArray):aH (XA f) 1000 ((XA f).S 47) (ah Tryz.prog 47 2) (tV h (j:Int)) (la x zb) [true,true] EA 2=
  some (o47 f x h j true,.ret,EA,la x (nb (f x h j))):=by kernel_rfl
theorem n47 (f:Nat→ByteArray→Nat→Nat) (x j:Nat) (h:ByteArray):aH (XA f) 1000 ((XA f).S 47) (ah Tryz.prog 47 2) (tV h (j:Int)) (la x zb) [true,false] (tV h ((j:Int)+1)) 2=
  some (o47 f x h j false++[br ((j:Int)+1)],.normal,tV h ((j:Int)+1),la x zb):=by kernel_rfl
theorem x47 (f:Nat→ByteArray→Nat→Nat) (x j:Nat) (h:ByteArray):aH (XA f) 1000 ((XA f).S 47) (ah Tryz.prog 47 2) (tV h (j:Int)) (la x zb) [false] De 2=
  some ([decide ((j:Int)<8)=false],.exit 0,De,la x zb):=by kernel_rfl
theorem vm (x:Nat) (R:Blk):(la x R).length=2:=rfl
theorem sf (x:Nat) {R:Blk} (hR:er R):∀b∈la x R,er b:=by
 intro b hb
 simp only[la,List.mem_cons,List.not_mem_nil,or_false] at hb
 rcases hb with rfl|rfl
 ·exact oG _
 ·exact hR
theorem V5 (x:Nat) {R:Blk} (hR:er R) (h:ByteArray) (j:Int):dl (tV h j) (la x R)=true:=cc (sf x hR) (by show cw 2 _=true;kernel_rfl)
theorem aiy (x:Nat) {R:Blk} (hR:er R):dl EA (la x R)=true:=cc (sf x hR) (by show cw 2 _=true;kernel_rfl)
theorem afs (x:Nat) {R:Blk} (hR:er R):dl De (la x R)=true:=cc (sf x hR) (by show cw 2 _=true;kernel_rfl)
theorem FI {x j:Nat} {h:ByteArray} {b:Bool} (hx:x<4294967296^8) (hh:h.size=32) (hj:j<8) (hb:gd (uU x h j)=b):cL (o47 uU x h j b):=
 ⟨decide_eq_true (by omega),hh,by omega,hx,hb,trivial⟩
noncomputable def PV (x:Nat) (h:ByteArray):Nat→Nat→Option Nat
 |0,_=>none
 |t+1,j=>bif gd (uU x h j) then some j else PV x h t (j+1)
theorem LC (x:Nat) (h:ByteArray):∀t j,PV x h t j=PD (Rr bU x h) (WG bU x h) t j
 |0,_=>rfl
 |t+1,j=>by rw[PV,J1,LC x h t (j+1)];rfl
theorem EU (x:Nat) (h:ByteArray) (j:Nat):PV x h 0 j=none:=rfl
theorem wl (x:Nat) (h:ByteArray) (t j:Nat):PV x h (t+1) j=bif gd (uU x h j) then some j else PV x h t (j+1):=rfl
theorem NH (x:Nat) (h:ByteArray) (hx:x<4294967296^8) (hh:h.size=32):∀(t j r:Nat),j+t=8→PV x h t j=some r→GoesN Tryz.prog (ah Tryz.prog 47 2) (t+1) .ret (tV h (j:Int)) (la x zb) EA (la x (nb (uU x h r))):=by
 intro t
 induction t with
 |zero=>intro j r _ hm;rw[EU] at hm;exact nomatch hm
 |succ t ih=>
  intro j r hj hm
  rw[wl] at hm
  cases hg:gd (uU x h j) with
  |true=>
   rw[hg,cond_true,Option.some.injEq] at hm
   subst hm
   exact GoesN.out (by simp) (Runs.goes su ⟨_,_,y47 uU x j h,FI hx hh (by omega) hg,aiy x (oG _)⟩)
  |false=>
   rw[hg,cond_false] at hm
   have ih:=ih (j+1) r (by omega) hm
   rw[show ((j+1:Nat):Int)=(j:Int)+1 by omega] at ih
   exact GoesN.cons rfl (Runs.goes su ⟨_,_,n47 uU x j h,bq (FI hx hh (by omega) hg) ⟨by unfold br;omega,trivial⟩,V5 x lZ _ _⟩) ih
theorem O6 (x:Nat) (h:ByteArray) (hx:x<4294967296^8) (hh:h.size=32):∀(t j:Nat),j+t=8→PV x h t j=none→GoesN Tryz.prog (ah Tryz.prog 47 2) (t+1) (.exit 0) (tV h (j:Int)) (la x zb) De (la x zb):=by
 intro t
 induction t with
 |zero=>
  intro j hj _
  obtain rfl:j=8:=by omega
  exact GoesN.out (by simp) (Runs.goes su ⟨_,_,x47 uU x 8 h,⟨by decide,trivial⟩,afs x lZ⟩)
 |succ t ih=>
  intro j hj hm
  rw[wl] at hm
  cases hg:gd (uU x h j) with
  |true=>rw[hg,cond_true] at hm;cases hm
  |false=>
   rw[hg,cond_false] at hm
   have ih:=ih (j+1) (by omega) hm
   rw[show ((j+1:Nat):Int)=(j:Int)+1 by omega] at ih
   exact GoesN.cons rfl (Runs.goes su ⟨_,_,n47 uU x j h,bq (FI hx hh (by omega) hg) ⟨by unfold br;omega,trivial⟩,V5 x lZ _ _⟩) ih
noncomputable def aiA (f:Nat→ByteArray→Nat→Nat) (x:Nat) (h:ByteArray) (T:List AV) (R:Blk) (ex:Ex):Env:=fY (XA f) 2 (ah Tryz.prog 47 2) (fo (tV h 0) (la x zb) T (la x R) ex)
def afB (x:Nat) (h:ByteArray):List Prop:=[ah Tryz.prog 47 2=ah Tryz.prog 47 2,(tV h 0,la x zb)=(tV h 0,la x zb),dl (tV h 0) (la x zb)=true]
theorem alA (f:Nat→ByteArray→Nat→Nat) (x r:Nat) (h:ByteArray):al (aiA f x h EA (nb r) .ret) 1000 47 [N8 x,sS h] []=some (afB x h,.tup [N8 r,.one (.v (.bool true))]):=by kernel_rfl
theorem am_ (f:Nat→ByteArray→Nat→Nat) (x:Nat) (h:ByteArray):al (aiA f x h De zb (.exit 0)) 1000 47 [N8 x,sS h] []=some (afB x h,.tup [zK,.one (.v (.bool false))]):=by kernel_rfl
theorem GM (x:Nat) (h:ByteArray):PV x h 8 0=Su x h:=LC x h 8 0
theorem L7 {x:Nat} {h:ByteArray} (r:Nat):∀t j:Nat,PV x h t j=some r→gd (uU x h r)=true:=by
 intro t
 induction t with
 |zero=>intro j h0;rw[EU] at h0;exact nomatch h0
 |succ t ih=>
  intro j h0
  rw[wl] at h0
  cases hg:gd (uU x h j) with
  |true=>rw[hg,cond_true,Option.some.injEq] at h0;subst h0;exact hg
  |false=>rw[hg,cond_false] at h0;exact ih (j+1) h0
theorem Ld {x:Nat} {h:ByteArray} (hb:PZ x h=true):gd (SX x h)=true∧SX x h<4294967296^8:=by
 cases hj:Su x h with
 |none=>rw[CW hj] at hb;cases hb
 |some j=>
  rw[DW hj]
  rw[←GM] at hj
  exact ⟨L7 j 8 0 hj,Zy _ _ _⟩
theorem QV (x:Nat) (h:ByteArray) (hx:x<4294967296^8) (hh:h.size=32):Spec 47 [N8 x,sS h] (.tup [N8 (SX x h),.one (.v (.bool (PZ x h)))]):=by
 cases hj:Su x h with
 |some j=>
  rw[DW hj,O0 hj]
  have hl:=(NH x h hx hh 8 0 j (by omega) (by rw[GM];exact hj)).loop
  exact af (da su (bz (by rw[vm,vm]) hl)) rfl (alA uU x _ h) ⟨rfl,rfl,V5 x lZ _ _,trivial⟩ rfl rfl
 |none=>
  rw[Or hj,CW hj]
  have hl:=(O6 x h hx hh 8 0 (by omega) (by rw[GM];exact hj)).loop
  exact (af (da su (bz (by rw[vm]) hl)) rfl (am_ uU x h) ⟨rfl,rfl,V5 x lZ _ _,trivial⟩ rfl rfl).congr (fun _=>rfl) (fun φ=>by simp only[AV.conc,List.map_cons,Iw φ])
structure NF where
 N:Nat→ByteArray→Nat
 E:Nat→ByteArray→Int
 B:Nat→ByteArray→Bool
 S:ByteArray→ByteArray
 K:ByteArray→Nat
 Y:ByteArray→Bool
noncomputable def nf:NF:=⟨SX,noE,PZ,nF,Xs,Pi⟩
theorem Km (a:Nat→ByteArray→Nat) (b:Nat→ByteArray→Int) (c:Nat→ByteArray→Bool) (d:ByteArray→ByteArray) (e:ByteArray→Nat) (g:ByteArray→Bool):(NF.mk a b c d e g).N=a∧(NF.mk a b c d e g).E=b∧(NF.mk a b c d e g).B=c∧(NF.mk a b c d e g).S=d∧(NF.mk a b c d e g).K=e∧(NF.mk a b c d e g).Y=g:=⟨rfl,rfl,rfl,rfl,rfl,rfl⟩
theorem ahd:nf.N=SX:=by unfold nf;exact (Km _ _ _ _ _ _).1
theorem aqw:nf.E=noE:=by unfold nf;exact (Km _ _ _ _ _ _).2.1
theorem abD:nf.B=PZ:=by unfold nf;exact (Km _ _ _ _ _ _).2.2.1
theorem agH:nf.S=nF:=by unfold nf;exact (Km _ _ _ _ _ _).2.2.2.1
theorem amP:nf.K=Xs:=by unfold nf;exact (Km _ _ _ _ _ _).2.2.2.2.1
theorem ad1:nf.Y=Pi:=by unfold nf;exact (Km _ _ _ _ _ _).2.2.2.2.2
def Lj (f:NF) (vs:List V1):Option (List Prop×AV):=
 match vs with
 |[x,.one (.v (.string h))]=>match el 8 x with
  |some (o,a)=>some ((h.size=32)::(gd a=true)::o,.tup [N8 (f.N a h),.one (.i (f.E a h))])
  |none=>none
 |_=>none
def UM (f:NF) (vs:List V1):Option (List Prop×AV):=
 match vs with
 |[x,.one (.v (.string h))]=>match el 8 x with
  |some (o,a)=>some ((h.size=32)::o,.tup [N8 (f.N a h),.one (.v (.bool (f.B a h)))])
  |none=>none
 |_=>none
theorem ajf:aU ⟨47,UM nf⟩:=by
 intro vs ob r h ho
 simp only[UM] at h
 split at h
 ·split at h
  ·rename_i o a hx
   obtain ⟨rfl,rfl⟩:=sI h
   obtain ⟨h1,ho⟩:=ho
   obtain ⟨h4,h5⟩:=aX hx ho
   rw[ahd,abD]
   exact (QV a _ h4 h1).congr (fun φ=>by simp only[List.map_cons,List.map_nil];rw[←h5 φ];rfl) (fun _=>rfl)
  ·simp at h
 ·simp at h
def Fx (f:NF) (vs:List V1):Option (List Prop×AV):=match vs with|[.one (.v (.string s))]=>some ([s.size≤100000000000000],.val (sS (f.S s)))|_=>none
theorem aib:aU ⟨33,Fx nf⟩:=adA
theorem Xd:aU ⟨46,Fx nf⟩:=aaf
def Y4 (f:NF) (vs:List V1):Option (List Prop×AV):=match vs with|[.one (.v (.string s))]=>some ([s.size≤1000000],.tup [N8 (f.K s),.one (.v (.bool (f.Y s)))])|_=>none
theorem ajL:aU ⟨12,Y4 nf⟩:=ajc
structure NFok (f:NF):Prop where
 c47:aU ⟨47,UM f⟩
 c33:aU ⟨33,Fx f⟩
 c46:aU ⟨46,Fx f⟩
 c12:aU ⟨12,Y4 f⟩
 sS:∀s,(f.S s).size=32
 kK:∀s,f.Y s=true→gd (f.K s)=true∧f.K s<4294967296^8
 nN:∀x h,f.B x h=true→gd (f.N x h)=true∧f.N x h<4294967296^8
 nE:∀x h,f.E x h=bif f.B x h then 0 else 3
 yY:∀s,f.Y s=true→s.size=32∧gd (gT s)=true
theorem yM {s:ByteArray} (h:Pi s=true):s.size=32∧gd (gT s)=true:=by
 unfold Pi at h
 rw[Bool.and_eq_true,decide_eq_true_iff] at h
 exact h
theorem LE {s:ByteArray} (h:Pi s=true):gd (Xs s)=true∧Xs s<4294967296^8:=by
 obtain ⟨h1,h2⟩:=yM h
 unfold Xs
 rw[decide_eq_true h1,cond_true]
 exact ⟨h2,fu h1⟩
theorem afr:NFok nf:=by
 refine ⟨ajf,aib,Xd,ajL,?_,?_,?_,?_,?_⟩
 ·rw[agH];exact oh
 ·rw[ad1,amP];exact fun _ h=>LE h
 ·rw[abD,ahd];exact fun _ _ h=>Ld h
 ·rw[aqw,abD];exact abL
 ·rw[ad1];exact fun _ h=>yM h
noncomputable def abf (f:NF) (vs:List V1):Option (List Prop×AV):=match vs with|[.one (.v (.string s))]=>some ([s.size≤100000000000000],.val (N8 (od (gT (f.S s)))))|_=>none
noncomputable def L38 (f:NF):List CT:=⟨33,Fx f⟩::⟨64,yh⟩::⟨34,xA fun a=> .val (N8 (od a))⟩::[]
theorem aao {f:NF} (hf:NFok f):bw (L38 f):=⟨hf.c33,HI,fun _ _ _ h ho=>ej AF h ho,trivial⟩
theorem r38 (f:NF) (s:ByteArray):al (cd (L38 f) fun _ _=>false) 1000 38 [sS s] []=some ([s.size≤100000000000000,(f.S s).size=32,gT (f.S s)<4294967296^8],.val (N8 (od (gT (f.S s))))):=by kernel_rfl
theorem agl {f:NF} (hf:NFok f):aU ⟨38,abf f⟩:=by
 intro vs ob r h ho
 simp only[abf] at h
 split at h
 ·obtain ⟨rfl,rfl⟩:=sI h
  exact af (aF (aao hf) _) rfl (r38 f _) ⟨ho.1,hf.sS _,fu (hf.sS _),trivial⟩ rfl rfl
 ·simp at h
def SSg:FuncId→Nat→Bool:=fun f t=>match f with|11=>bf t [22,26,35,68,72,78]|14=>bf t [28,49,53,59]|_=>false
noncomputable def KR (f:NF) (x:Nat) (m:ByteArray):Nat:=f.N x (f.S m)
noncomputable def yG (f:NF) (x:Nat) (m:ByteArray):Nat:=od (Aq (KR f x m)).x
noncomputable def sgQ (f:NF) (x:Nat) (m:ByteArray):Nat:=addM (ab 3) (od (gT (f.S m))) (bK (ab 3) (yG f x m) x)
noncomputable def Lh (f:NF) (x:Nat) (m:ByteArray):Nat:=bK (ab 3) (sgQ f x m) (PK (KR f x m))
noncomputable def sgO (f:NF) (x:Nat) (m:ByteArray):ByteArray:=t8 (yG f x m)++t8 (Lh f x m)
def em:ByteArray:=⟨#[]⟩
noncomputable def tgB (f:NF) (s m:ByteArray):Bool:=f.B (f.K s) (f.S m)&&(gd (yG f (f.K s) m)&&gd (Lh f (f.K s) m))
noncomputable def tgE (f:NF) (s m:ByteArray):Int:=bif tgB f s m then 0 else 3
noncomputable def tgZ (f:NF) (s m:ByteArray):ByteArray:=bif tgB f s m then sgO f (f.K s) m else em
theorem lu {a:Nat} (h:gd a=true):gX a=false∧a<ab 3:=by
 unfold gd at h
 rw[Bool.and_eq_true,Bool.not_eq_true',decide_eq_true_iff] at h
 exact h
theorem qP {a:Nat} (h:a<ab 3):gd a= !gX a:=by unfold gd;rw[decide_eq_true h,Bool.and_true]
theorem A6 (f:NF) (x:Nat) (m:ByteArray):yG f x m<ab 3:=EE _
theorem Zs (f:NF) (x:Nat) (m:ByteArray):sgQ f x m<ab 3:=ao (ae 3)
theorem Ho (f:NF) (x:Nat) (m:ByteArray):Lh f x m<ab 3:=bi (ae 3)
theorem zH {b:Bool} (h:b=true):(!b)=false:=by rw[h];rfl
theorem Gl {b:Bool} (h:b=false):(!b)=true:=by rw[h];rfl
noncomputable def LPs (f:NF):List CT:=⟨12,Y4 f⟩::⟨46,Fx f⟩::⟨47,UM f⟩::⟨48,Ln fun k=> .val (BP k)⟩::⟨45,cV (.val (P3 xS xV false))⟩::⟨44,dU [aN,qg] CK⟩::⟨49,xA fun a=> .val (N8 (od a))⟩::⟨52,Mj⟩::⟨50,OS bK⟩::⟨51,OS addM⟩::⟨53,Bf false⟩::⟨8,fBg⟩::[]
theorem acU {f:NF} (hf:NFok f):bw (LPs f):=⟨hf.c12,hf.c46,hf.c47,fun _ _ _ h ho=>lX GR h ho,tG uI,Mi,fun _ _ _ h ho=>ej BE h ho,OR,fun _ _ _ h ho=>ma GZ h ho,fun _ _ _ h ho=>ma Pk h ho,Nd,K9,trivial⟩
noncomputable def EPs (f:NF):Env:=cd (LPs f) SSg
theorem aaJ {f:NF} (hf:NFok f):EnvOK (EPs f):=aF (acU hf) _
def PX:Prop:=bg (ab 3) (aA (ak (ab 3) 0)) (aO (ab 3))
noncomputable def oP1 (f:NF) (s m:ByteArray):List Prop:=[s.size≤1000000,m.size≤100000000000000,(f.S m).size=32,f.K s<4294967296^8]
noncomputable def oP2 (f:NF) (x:Nat) (m:ByteArray):List Prop:=[(!f.B x (f.S m))=false,(0:Int)≤3∧(3:Int)<4,KR f x m<4294967296^8,xS<4294967296^8,xV<4294967296^8,jC xS xV false=true,(Aq (KR f x m)).x<4294967296^8,
 (f.S m).size=32,PX,yG f x m<ab 3,x<ab 3,yG f x m<4294967296^8,x<4294967296^8,
 PX,od (gT (f.S m))<ab 3,bK (ab 3) (yG f x m) x<ab 3,od (gT (f.S m))<4294967296^8,bK (ab 3) (yG f x m) x<4294967296^8,
 (3:Int)=3,KR f x m<ab 3,gX (KR f x m)=false,KR f x m<4294967296^8,
 PX,sgQ f x m<ab 3,PK (KR f x m)<ab 3,sgQ f x m<4294967296^8,PK (KR f x m)<4294967296^8]
theorem apr (f:NF) (s m:ByteArray):al (EPs f) 1000 14 [sS s,sS m] [true]=some (oP1 f s m++[(!f.B (f.K s) (f.S m))=true],.tup [sS ⟨#[]⟩,.one (.i 3)]):=by kernel_rfl
theorem apf (f:NF) (s m:ByteArray):al (EPs f) 1000 14 [sS s,sS m] [false,true]=some (oP1 f s m++oP2 f (f.K s) m++[gX (yG f (f.K s) m)=true],.tup [sS ⟨#[]⟩,.one (.i 3)]):=by kernel_rfl
theorem amO (f:NF) (s m:ByteArray):al (EPs f) 1000 14 [sS s,sS m] [false,false,true]=some (oP1 f s m++oP2 f (f.K s) m++[gX (yG f (f.K s) m)=false,gX (Lh f (f.K s) m)=true],.tup [sS ⟨#[]⟩,.one (.i 3)]):=by kernel_rfl
theorem amX (f:NF) (s m:ByteArray):al (EPs f) 1000 14 [sS s,sS m] [false,false,false]=some (oP1 f s m++oP2 f (f.K s) m++[gX (yG f (f.K s) m)=false,gX (Lh f (f.K s) m)=false,yG f (f.K s) m<4294967296^8,Lh f (f.K s) m<4294967296^8,(t8 (yG f (f.K s) m)).size+(t8 (Lh f (f.K s) m)).size≤9223372036854775807],.tup [sS (sgO f (f.K s) m),.one (.i 0)]):=by kernel_rfl
theorem ac2 {f:NF} (hf:NFok f) {s m:ByteArray} (h2:f.Y s=true) (hb:f.B (f.K s) (f.S m)=true):cL (oP2 f (f.K s) m):=by
 obtain ⟨g1,g2⟩:=hf.kK s h2
 obtain ⟨g3,g4⟩:=lu g1
 obtain ⟨n1,n2⟩:=hf.nN _ _ hb
 obtain ⟨n3,n4⟩:=lu n1
 have hr:=A6 f (f.K s) m
 have hq:=Zs f (f.K s) m
 have ho:od (gT (f.S m))<ab 3:=EE _
 have hp:bK (ab 3) (yG f (f.K s) m) (f.K s)<ab 3:=bi (ae 3)
 have hi:PK (KR f (f.K s) m)<ab 3:=Hs _
 have k3:PX:=aC (by decide)
 exact ⟨zH hb,by omega,n2,L8 vy,L8 wW,qw,(Az _).1,hf.sS _,k3,hr,g4,L8 hr,g2,k3,ho,hp,L8 ho,L8 hp,rfl,n4,n3,n2,k3,hq,hi,L8 hq,L8 hi,trivial⟩
theorem nz {b:Bool} (h:(!b)=true):b=false:=by cases b with|true=>cases h|false=>rfl
theorem nz' {b:Bool} (h:(!b)=false):b=true:=by cases b with|false=>cases h|true=>rfl
theorem spec14 {f:NF} (hf:NFok f) (s m:ByteArray) (h1:s.size≤1000000) (hy:f.Y s=true) (hm:m.size≤4096):Spec 14 [sS s,sS m] (.tup [sS (tgZ f s m),.one (.i (tgE f s m))]):=by
 have hV:=aaJ hf
 unfold tgZ tgE tgB
 have o1:cL (oP1 f s m):=⟨h1,by omega,hf.sS _,(hf.kK s hy).2,trivial⟩
 cases hb:f.B (f.K s) (f.S m) with
 |false=>exact af hV rfl (apr f s m) (bq o1 ⟨Gl hb,trivial⟩) rfl rfl
 |true=>
  have o2:=ac2 hf hy hb
  have hs:=L8 (Ho f (f.K s) m)
  cases hr:gd (yG f (f.K s) m) with
  |false=>
   have hr':=hr
   rw[qP (A6 f (f.K s) m)] at hr'
   exact af hV rfl (apf f s m) (bq (bq o1 o2) ⟨nz' hr',trivial⟩) rfl rfl
  |true=>
   have hr':=hr
   rw[qP (A6 f (f.K s) m)] at hr'
   cases hq:gd (Lh f (f.K s) m) with
   |false=>
    have hq':=hq
    rw[qP (Ho f (f.K s) m)] at hq'
    exact af hV rfl (amO f s m) (bq (bq o1 o2) ⟨nz hr',nz' hq',trivial⟩) rfl rfl
   |true=>
    have hq':=hq
    rw[qP (Ho f (f.K s) m)] at hq'
    have z1:(t8 (yG f (f.K s) m)).size=32:=Go.Ev.bgS_size _
    have z2:(t8 (Lh f (f.K s) m)).size=32:=Go.Ev.bgS_size _
    exact af hV rfl (amX f s m) (bq (bq o1 o2) ⟨nz hr',nz hq',L8 (A6 _ _ _),hs,by omega,trivial⟩) rfl rfl
end Go.Ev.H5
