/- Of the proof of TopFull: an evaluator of the code with values known in part, and its soundness. -/
import Derived.Test.YtablehofgadmeaaGreatDoorPartA
namespace Go.Ev
open Go Go.RowKit
section
variable {P:Program} {φ:Loc}
theorem sameL_eq:∀{x y:List Nat},sameL x y=true→x=y
 |[],[],_=>rfl
 |[],_::_,h=>by simp[sameL] at h
 |_::_,[],h=>by simp[sameL] at h
 |x::xs,y::ys,h=>by
  simp only[sameL,Bool.and_eq_true,Nat.beq_eq] at h
  rw[h.1,sameL_eq h.2]
theorem sameO_eq {x y:Option (List Nat)} (h:sameO x y=true):∃ks,x=some ks∧y=some ks:=by
 unfold sameO at h
 split at h
 ·exact ⟨_,rfl,by rw[sameL_eq h]⟩
 ·cases h
def kindV:Value→Nat
 | .int k _=>codeK k
 | .bool _=>0
 | .string _=>1
 |_=>100
def cellEq:Value→Value→Bool
 | .int _ a,.int _ b=>a==b
 | .bool a,.bool b=>a==b
 | .string a,.string b=>a==b
 |_,_=>false
def cellsEq:List Value→List Value→Bool
 |[],[]=>true
 |x::xs,y::ys=>cellEq x y&&cellsEq xs ys
 |_,_=>false
theorem cellsEq_append:∀(a b c d:List Value),a.length=b.length→cellsEq (a++c) (b++d)=(cellsEq a b&&cellsEq c d)
 |[],[],c,d,_=>by simp[cellsEq]
 |[],_::_,c,d,h=>by simp at h
 |_::_,[],c,d,h=>by simp at h
 |x::xs,y::ys,c,d,h=>by
  simp only[List.cons_append,cellsEq,cellsEq_append xs ys c d (by simpa using h),Bool.and_assoc]
theorem repK_length (n:Nat) (ks:List Nat):(repK n ks).length=n*ks.length:=by
 induction n with
 |zero=>simp[repK]
 |succ n ih=>simp[repK,ih,Nat.add_mul,Nat.add_comm]
theorem kind_limbs (k n:Nat):(limbs k n).map kindV=repK k [8]:=by
 induction k generalizing n with
 |zero=>rfl
 |succ k ih=>simp[limbs,repK,kindV,codeK,ih]
theorem kindsP_spec:∀(ps:List Piece) {ks:List Nat},kindsP ps=some ks→(concs φ ps).map kindV=ks
 |[],ks,h=>by simp only[kindsP,Option.some.injEq] at h;subst h;rfl
 | .num k n::ps,ks,h=>by
  simp only[kindsP] at h
  split at h
  ·rename_i r hr
   simp only[Option.some.injEq] at h;subst h
   simp[concs,Piece.conc,kind_limbs,kindsP_spec ps hr]
  ·simp at h
 | .arr k l::ps,ks,h=>by simp[kindsP] at h
 | .a (.u k n)::ps,ks,h=>by
  simp only[kindsP] at h
  split at h
  ·rename_i r hr
   simp only[Option.some.injEq] at h;subst h
   simp[concs,Piece.conc,Atom.conc,kindV,kindsP_spec ps hr]
  ·simp at h
 | .a (.i n)::ps,ks,h=>by
  simp only[kindsP] at h
  split at h
  ·rename_i r hr
   simp only[Option.some.injEq] at h;subst h
   simp[concs,Piece.conc,Atom.conc,kindV,codeK,kindsP_spec ps hr]
  ·simp at h
 | .a (.ptr _ _)::ps,ks,h=>by simp[kindsP] at h
 | .a (.sl _ _ _ _)::ps,ks,h=>by simp[kindsP] at h
 | .a (.sx _ _)::ps,ks,h=>by simp[kindsP] at h
 | .a (.clo _ _ _)::ps,ks,h=>by simp[kindsP] at h
 | .a (.v x)::ps,ks,h=>by
  cases x<;>simp only[kindsP,reduceCtorEq] at h
  case bool b=>
   split at h
   ·rename_i r hr
    simp only[Option.some.injEq] at h;subst h
    simp[concs,Piece.conc,Atom.conc,kindV,kindsP_spec ps hr]
   ·simp at h
  case string b=>
   split at h
   ·rename_i r hr
    simp only[Option.some.injEq] at h;subst h
    simp[concs,Piece.conc,Atom.conc,kindV,kindsP_spec ps hr]
   ·simp at h
theorem cellsEq_limbs:∀(k x y:Nat),cellsEq (limbs k x) (limbs k y)=decide (x%4294967296^k=y%4294967296^k)
 |0,x,y=>by simp[limbs,cellsEq,Nat.mod_one]
 |k+1,x,y=>by
  simp only[limbs,cellsEq,cellEq,cellsEq_limbs k]
  rw[Bool.eq_iff_iff]
  simp only[Bool.and_eq_true,beq_iff_eq,decide_eq_true_eq]
  rw[Nat.pow_succ,Nat.mul_comm,Nat.mod_mul,Nat.mod_mul]
  constructor
  ·rintro ⟨h1,h2⟩
   have h1:x%4294967296=y%4294967296:=by exact_mod_cast h1
   rw[h1,h2]
  ·intro h
   have hx:=Nat.mod_lt x (show 0<4294967296 by decide)
   have hy:=Nat.mod_lt y (show 0<4294967296 by decide)
   have h1:x%4294967296=y%4294967296:=by
    have:=congrArg (· %4294967296) h
    simpa using this
   refine ⟨by exact_mod_cast h1,?_⟩
   rw[h1] at h
   have:=Nat.add_left_cancel h
   exact Nat.eq_of_mul_eq_mul_left (by decide) this
theorem eqP_spec:∀(ps qs:List Piece) {b:Bool},eqP ps qs=some b→cellsEq (concs φ ps) (concs φ qs)=b:=by
 intro ps qs
 fun_induction eqP ps qs<;>intro b h
 all_goals first
  |(simp at h;done)
  |(simp only[Option.some.injEq] at h;subst h;rfl)
  |skip
 case case2 k x ps k' y qs b' hk he ih=>
  have hkk:k=k':=Nat.eq_of_beq_eq_true he
  subst hkk
  simp only[Option.some.injEq] at h;subst h
  simp only[concs,Piece.conc]
  rw[cellsEq_append _ _ _ _ (by rw[limbs_length,limbs_length]),cellsEq_limbs,ih hk]
 all_goals
  rename_i ih
  simp only[Option.some.injEq] at h;subst h
  simp only[concs,Piece.conc,Atom.conc,List.cons_append,List.nil_append,cellsEq,cellEq,ih ‹_›]
  try congr 1
  try (rw[Bool.eq_iff_iff];simp;try omega)
theorem concs_flat:∀(ps:List Piece),concs φ (flatP ps)=concs φ ps
 |[]=>rfl
 | .num k x::ps=>by simp only[flatP,concs_append,concs_explode,concs,Piece.conc,concs_flat ps]
 | .a _::ps=>by simp only[flatP,concs,concs_flat ps]
 | .arr _ _::ps=>by simp only[flatP,concs,concs_flat ps]
theorem eqF_spec (ps qs:List Piece) {b:Bool} (h:eqF ps qs=some b):cellsEq (concs φ ps) (concs φ qs)=b:=by
 unfold eqF at h
 split at h
 ·rename_i b' hb
  simp only[Option.some.injEq] at h;subst h
  exact eqP_spec ps qs hb
 ·rw[←concs_flat ps,←concs_flat qs]
  exact eqP_spec _ _ h
def mkV (P:Program) (t:TypeId) (cs:List Value):Value:=
 match isAggA P t with
 |some true=> .agg cs.toArray
 |_=>cs.headD undef
theorem part_cells {t:TypeId} {n:Nat} (hn:sizeA P t=some n) {b:Bool} (ha:isAggA P t=some b) (cs:List Value) (off:Nat) (hl:off+n≤cs.length) (h1:b=false→n=1) (w:World):
  (part t cs.toArray off).run P w= .ok (mkV P t ((cs.drop off).take n)) w:=by
 unfold mkV
 cases b
 ·have:=h1 rfl
  subst this
  have hlt:off<cs.length:=by omega
  simp only[part,Sem.run_bind,isAggA_run ha,Result.andThen_ok,Bool.false_eq_true,if_false,ha]
  rw[List.drop_eq_getElem_cons hlt]
  simp only[List.getElem?_toArray,List.getElem?_eq_getElem hlt,Sem.run_pure,List.take_succ_cons,List.headD_cons]
 ·simp only[part,Sem.run_bind,isAggA_run ha,Result.andThen_ok,if_true,sizeA_run hn,ha]
  simp
def eqElems (d:Nat) (e:TypeId) (n:Nat) (xs ys:Array Value):List Nat→Sem Bool
 |[]=>pure true
 |i::is=>do
  let a ←part e xs (i*n)
  let b ←part e ys (i*n)
  let r ←Op.equalIn d e a b
  if (!r)=true then pure false else eqElems d e n xs ys is
theorem equalIn_array (d:Nat) {t:TypeId} {len:Nat} {e:TypeId} {n:Nat} (ht:P.underlying t=some (.array len e)) (hn:sizeA P e=some n) (xs ys:Array Value) (w:World):
  (Op.equalIn (d+1) t (.agg xs) (.agg ys)).run P w=(eqElems d e n xs ys (List.range' 0 len)).run P w:=by
 simp only[Op.equalIn,Sem.run_bind,underlying_run ht,Result.andThen_ok,sizeA_run hn]
 simp only[Std.Legacy.Range.forIn_eq_forIn_range',Std.Legacy.Range.size,Nat.sub_zero,Nat.add_sub_cancel,Nat.div_one]
 generalize List.range' 0 len=is
 induction is generalizing w with
 |nil=>simp[eqElems]
 |cons i is ih=>
  simp only[List.forIn_cons,eqElems,Sem.run_bind]
  generalize (part e xs (i*n)).run P w=r1
  cases r1 with
  |ok a w1=>
   simp only[Result.andThen_ok]
   generalize (part e ys (i*n)).run P w1=r2
   cases r2 with
   |ok b w2=>
    simp only[Result.andThen_ok]
    generalize (Op.equalIn d e a b).run P w2=r3
    cases r3 with
    |ok r w3=>
     cases r
     ·simp only[Result.andThen_ok,Bool.not_false,if_true,Sem.run_pure]
     ·simp only[Result.andThen_ok,Bool.not_true,Bool.false_eq_true,if_false,Sem.run_pure]
      exact ih w3
    |halt x w3=>simp[Result.andThen]
   |halt x w2=>simp[Result.andThen]
  |halt x w1=>simp[Result.andThen]
def EqAt (P:Program) (D:Nat) (t:TypeId) (ks:List Nat):Prop:=
 (∃b,isAggA P t=some b∧(b=false→ks.length=1))∧∀(cs ds:List Value) (w:World),cs.map kindV=ks→ds.map kindV=ks→
  (Op.equalIn D t (mkV P t cs) (mkV P t ds)).run P w= .ok (cellsEq cs ds) w
theorem eqElems_run {D:Nat} {e:TypeId} {n:Nat} {ks:List Nat} (hn:sizeA P e=some n) (hk:ks.length=n) (he:EqAt P D e ks):∀(m i:Nat) (cs ds:List Value) (w:World),
  (cs.drop (i*n)).map kindV=repK m ks→(ds.drop (i*n)).map kindV=repK m ks→i*n≤cs.length→i*n≤ds.length→
  (eqElems D e n cs.toArray ds.toArray (List.range' i m)).run P w= .ok (cellsEq (cs.drop (i*n)) (ds.drop (i*n))) w
 |0,i,cs,ds,w,hc,hd,_,_=>by
  simp only[repK,List.map_eq_nil_iff] at hc hd
  rw[hc,hd]
  simp[eqElems,cellsEq]
 |m+1,i,cs,ds,w,hc,hd,hlc,hld=>by
  obtain ⟨⟨b,hb,hb1⟩,hrun⟩:=he
  simp only[repK] at hc hd
  have hci:(i+1)*n=i*n+n:=by rw[Nat.add_mul,Nat.one_mul]
  have lc:n≤(cs.drop (i*n)).length:=by have:=congrArg List.length hc;simp only[List.length_map,List.length_append] at this;omega
  have ld:n≤(ds.drop (i*n)).length:=by have:=congrArg List.length hd;simp only[List.length_map,List.length_append] at this;omega
  simp only[List.length_drop] at lc ld
  have tc:((cs.drop (i*n)).take n).map kindV=ks:=by
   rw[List.map_take,hc,List.take_append_of_le_length (by omega),List.take_of_length_le (by omega)]
  have td:((ds.drop (i*n)).take n).map kindV=ks:=by
   rw[List.map_take,hd,List.take_append_of_le_length (by omega),List.take_of_length_le (by omega)]
  have rc:(cs.drop ((i+1)*n)).map kindV=repK m ks:=by
   have:=congrArg (List.drop n) hc
   simp only[←List.map_drop,List.drop_drop,←hci] at this
   rw[this,List.drop_append,List.drop_of_length_le (by omega),hk];simp
  have rd:(ds.drop ((i+1)*n)).map kindV=repK m ks:=by
   have:=congrArg (List.drop n) hd
   simp only[←List.map_drop,List.drop_drop,←hci] at this
   rw[this,List.drop_append,List.drop_of_length_le (by omega),hk];simp
  have ih:=eqElems_run hn hk ⟨⟨b,hb,hb1⟩,hrun⟩ m (i+1) cs ds w rc rd (by omega) (by omega)
  have h1:b=false→n=1:=fun h=>by rw[←hk];exact hb1 h
  rw[List.range'_succ]
  simp only[eqElems,Sem.run_bind,part_cells hn hb cs (i*n) (by omega) h1,part_cells hn hb ds (i*n) (by omega) h1,Result.andThen_ok,hrun _ _ w tc td]
  have e1:cs.drop (i*n)=(cs.drop (i*n)).take n++cs.drop ((i+1)*n):=by rw[hci,←List.drop_drop,List.take_append_drop]
  have e2:ds.drop (i*n)=(ds.drop (i*n)).take n++ds.drop ((i+1)*n):=by rw[hci,←List.drop_drop,List.take_append_drop]
  rw[e1,e2,cellsEq_append _ _ _ _ (by simp;omega)]
  rw[←e1,←e2]
  cases cellsEq ((cs.drop (i*n)).take n) ((ds.drop (i*n)).take n)
  ·simp
  ·simpa using ih
theorem eqFields_run {D:Nat} {g:TypeId→Option (List Nat)} (hg:∀t ks,g t=some ks→EqAt P D t ks):∀(fs:List Field) (off:Nat) (ks:List Nat) (cs ds:List Value) (w:World),
  kindsF P g fs off=some ks→(cs.drop off).map kindV=ks→(ds.drop off).map kindV=ks→off≤cs.length→off≤ds.length→
  (Op.eqFields D cs.toArray ds.toArray fs).run P w= .ok (cellsEq (cs.drop off) (ds.drop off)) w
 |[],off,ks,cs,ds,w,hk,hc,hd,_,_=>by
  simp only[kindsF,Option.some.injEq] at hk
  subst hk
  simp only[List.map_eq_nil_iff] at hc hd
  rw[hc,hd]
  simp[Op.eqFields,cellsEq]
 |f::fs,off,ks,cs,ds,w,hk,hc,hd,hlc,hld=>by
  simp only[kindsF] at hk
  split at hk
  ·rename_i kf n hf hgf hn
   split at hk
   ·rename_i r hl hr
    simp only[Option.some.injEq] at hk
    subst hk
    simp only[Bool.and_eq_true,Nat.beq_eq] at hf hl
    obtain ⟨hname,hoff⟩:=hf
    obtain ⟨⟨b,hb,hb1⟩,hrun⟩:=hg _ _ hgf
    have lc:n≤(cs.drop off).length:=by have:=congrArg List.length hc;simp only[List.length_map,List.length_append] at this;omega
    have ld:n≤(ds.drop off).length:=by have:=congrArg List.length hd;simp only[List.length_map,List.length_append] at this;omega
    simp only[List.length_drop] at lc ld
    have tc:((cs.drop off).take n).map kindV=kf:=by
     rw[List.map_take,hc,List.take_append_of_le_length (by omega),List.take_of_length_le (by omega)]
    have td:((ds.drop off).take n).map kindV=kf:=by
     rw[List.map_take,hd,List.take_append_of_le_length (by omega),List.take_of_length_le (by omega)]
    have rc:(cs.drop (off+n)).map kindV=r:=by
     have:=congrArg (List.drop n) hc
     simp only[←List.map_drop,List.drop_drop] at this
     rw[this,List.drop_append,List.drop_of_length_le (by omega),hl];simp
    have rd:(ds.drop (off+n)).map kindV=r:=by
     have:=congrArg (List.drop n) hd
     simp only[←List.map_drop,List.drop_drop] at this
     rw[this,List.drop_append,List.drop_of_length_le (by omega),hl];simp
    have ih:=eqFields_run hg fs (off+n) r cs ds w hr rc rd (by omega) (by omega)
    have h1:b=false→n=1:=fun h=>by rw[←hl];exact hb1 h
    have hname':f.name≠ "_":=by simpa using hname
    simp only[Op.eqFields,hname',ne_eq,not_false_eq_true,if_true,Sem.run_bind,hoff,part_cells hn hb cs off (by omega) h1,part_cells hn hb ds off (by omega) h1,Result.andThen_ok,hrun _ _ w tc td]
    have e1:cs.drop off=(cs.drop off).take n++cs.drop (off+n):=by rw[←List.drop_drop,List.take_append_drop]
    have e2:ds.drop off=(ds.drop off).take n++ds.drop (off+n):=by rw[←List.drop_drop,List.take_append_drop]
    rw[e1,e2,cellsEq_append _ _ _ _ (by simp;omega)]
    rw[←e1,←e2]
    cases cellsEq ((cs.drop off).take n) ((ds.drop off).take n)
    ·simp
    ·simpa using ih
   ·simp at hk
  ·simp at hk
theorem kindsT_run:∀(d:Nat) (t:TypeId) (ks:List Nat),kindsT P d t=some ks→∀D,d≤D→EqAt P D t ks
 |0,t,ks,h,D,hD=>by simp[kindsT] at h
 |d+1,t,ks,h,0,hD=>by omega
 |d+1,t,ks,h,D+1,hD=>by
  simp only[kindsT] at h
  split at h
  ·rename_i k hu
   simp only[Option.some.injEq] at h;subst h
   have ha:isAggA P t=some false:=by simp[isAggA,hu]
   refine ⟨⟨false,ha,fun _=>rfl⟩,fun cs ds w hc hd=> ?_⟩
   obtain ⟨c,rfl⟩:∃c,cs=[c]:=List.length_eq_one_iff.1 (by have:=congrArg List.length hc;simpa using this)
   obtain ⟨e,rfl⟩:∃c,ds=[c]:=List.length_eq_one_iff.1 (by have:=congrArg List.length hd;simpa using this)
   ·simp only[List.map_cons,List.map_nil,List.cons.injEq,and_true] at hc hd
    have hint:∀x:Value,kindV x=codeK k→∃z,x= .int k z:=by
     intro x hx
     cases x<;>simp only[kindV] at hx
     case int k' z=>exact ⟨z,by cases k<;>cases k'<;>first|rfl|simp[codeK] at hx⟩
     all_goals (cases k<;>simp[codeK] at hx)
    obtain ⟨a,rfl⟩:=hint c hc
    obtain ⟨b,rfl⟩:=hint e hd
    simp only[mkV,ha,List.headD_cons,cellsEq,cellEq,Bool.and_true]
    exact run_equalIn_int w D t k k a b hu
  ·rename_i hu
   simp only[Option.some.injEq] at h;subst h
   have ha:isAggA P t=some false:=by simp[isAggA,hu]
   refine ⟨⟨false,ha,fun _=>rfl⟩,fun cs ds w hc hd=> ?_⟩
   obtain ⟨c,rfl⟩:∃c,cs=[c]:=List.length_eq_one_iff.1 (by have:=congrArg List.length hc;simpa using this)
   obtain ⟨e,rfl⟩:∃c,ds=[c]:=List.length_eq_one_iff.1 (by have:=congrArg List.length hd;simpa using this)
   ·simp only[List.map_cons,List.map_nil,List.cons.injEq,and_true] at hc hd
    have hint:∀x:Value,kindV x=0→∃z,x= .bool z:=by
     intro x hx
     cases x<;>simp only[kindV] at hx<;>first|exact ⟨_,rfl⟩|(simp at hx;done)|(rename_i k' z;cases k'<;>simp[codeK] at hx)
    obtain ⟨a,rfl⟩:=hint c hc
    obtain ⟨b,rfl⟩:=hint e hd
    simp only[mkV,ha,List.headD_cons,cellsEq,cellEq,Bool.and_true]
    exact run_equalIn_bool' w D t a b hu
  ·rename_i hu
   simp only[Option.some.injEq] at h;subst h
   have ha:isAggA P t=some false:=by simp[isAggA,hu]
   refine ⟨⟨false,ha,fun _=>rfl⟩,fun cs ds w hc hd=> ?_⟩
   obtain ⟨c,rfl⟩:∃c,cs=[c]:=List.length_eq_one_iff.1 (by have:=congrArg List.length hc;simpa using this)
   obtain ⟨e,rfl⟩:∃c,ds=[c]:=List.length_eq_one_iff.1 (by have:=congrArg List.length hd;simpa using this)
   ·simp only[List.map_cons,List.map_nil,List.cons.injEq,and_true] at hc hd
    have hint:∀x:Value,kindV x=1→∃z,x= .string z:=by
     intro x hx
     cases x<;>simp only[kindV] at hx<;>first|exact ⟨_,rfl⟩|(simp at hx;done)|(rename_i k' z;cases k'<;>simp[codeK] at hx)
    obtain ⟨a,rfl⟩:=hint c hc
    obtain ⟨b,rfl⟩:=hint e hd
    simp only[mkV,ha,List.headD_cons,cellsEq,cellEq,Bool.and_true]
    rw[run_equalIn_string w D t a b hu,beq_toListBytes]
  ·rename_i len e hu
   split at h
   ·rename_i ke n hke hn
    split at h
    ·rename_i hl
     simp only[Nat.beq_eq] at hl
     simp only[Option.some.injEq] at h;subst h
     have ha:isAggA P t=some true:=by simp[isAggA,hu]
     refine ⟨⟨true,ha,fun h=>by simp at h⟩,fun cs ds w hc hd=> ?_⟩
     simp only[mkV,ha]
     rw[equalIn_array D hu hn]
     have:=eqElems_run hn hl (kindsT_run d e ke hke D (by omega)) len 0 cs ds w (by simpa using hc) (by simpa using hd) (by omega) (by omega)
     simpa using this
    ·simp at h
   ·simp at h
  ·rename_i fs hu
   split at h
   ·rename_i hs
    have ha:isAggA P t=some true:=by simp[isAggA,hu]
    refine ⟨⟨true,ha,fun h=>by simp at h⟩,fun cs ds w hc hd=> ?_⟩
    simp only[mkV,ha]
    have hfo:P.fieldsOf t=fs:=by simp[Program.fieldsOf,hu]
    rw[run_equalIn_struct w D t _ _ (by rw[hfo];exact hu) hs,hfo]
    have:=eqFields_run (P:=P) (D:=D) (g:=kindsT P d) (fun t ks ht=>kindsT_run d t ks ht D (by omega)) fs.toList 0 ks cs ds w h (by simpa using hc) (by simpa using hd) (by omega) (by omega)
    simpa using this
   ·simp at h
  ·simp at h
end
section
variable {P:Program} {w0:Base} {w:World} {φ:Loc} {mem:List Blk}
def OpPost (w0:Base) (φ:Loc) (mem:List Blk) (r:Result Next) (v:AV) (mem':List Blk):Prop:=
 ∃φ' w',(r= .ok (.value (v.conc φ')) w'∨(r= .ok .skip w'∧v=unA))∧Agree mem.length φ φ'∧mem.length≤mem'.length∧MRel w0 φ' mem' w'∧v.wf mem'.length=true
theorem good_post {r:Result Next} {ob ob':List Prop} {x:V1} {v:AV} {mem':List Blk} (h:good mem ob x=some (ob',v,mem')) (hm:MRel w0 φ mem w)
  (hr:All ob'→r= .ok (.value (x.conc φ)) w) (ho:All ob'):OpPost w0 φ mem r v mem':=by
 unfold good at h
 split at h
 ·rename_i hw
  simp only[Option.some.injEq,Prod.mk.injEq] at h
  obtain ⟨rfl,rfl,rfl⟩:=h
  exact ⟨φ,w,.inl (hr ho),Agree.refl _ _,Nat.le_refl _,hm,hw⟩
 ·simp at h
theorem good_obs {ob ob':List Prop} {x:V1} {v:AV} {mem':List Blk} (h:good mem ob x=some (ob',v,mem')):ob'=ob:=by
 unfold good at h
 split at h
 ·simp only[Option.some.injEq,Prod.mk.injEq] at h;exact h.1.symm
 ·simp at h
theorem one_post {r:Result Next} {ob':List Prop} {x:Atom} {v:AV} {mem':List Blk} (h:one mem x=some (ob',v,mem')) (hm:MRel w0 φ mem w)
  (hr:r= .ok (.value (x.conc φ)) w) (hx:(V1.one x).wf mem.length=true):OpPost w0 φ mem r v mem':=by
 unfold one at h
 simp only[Option.some.injEq,Prod.mk.injEq] at h
 obtain ⟨rfl,rfl,rfl⟩:=h
 exact ⟨φ,w,.inl hr,Agree.refl _ _,Nat.le_refl _,hm,hx⟩
theorem pieces_conc {v:V1} {ps:List Piece} (h:v.pieces=some ps):(v.conc φ).cells=(concs φ ps).toArray:=by
 unfold V1.pieces at h
 split at h
 ·simp at h
 ·simp at h
 ·rename_i x h1 h2
  simp only[Option.some.injEq] at h;subst h
  cases x with
  |v y=>cases y<;>first|rfl|exact absurd rfl (h1 _)|exact absurd rfl (h2 _)
  |_=>rfl
 ·simp only[Option.some.injEq] at h;subst h;rfl
theorem limbs_one:∀(k n:Nat) (v:Value),v∈limbs k n→v.oneCell'=true
 |0,_,v,hv=>by simp[limbs] at hv
 |k+1,n,v,hv=>by
  simp only[limbs,List.mem_cons] at hv
  rcases hv with rfl|hv
  ·rfl
  ·exact limbs_one k _ v hv
theorem place_post {b off n:Nat} {ps:List Piece} {k:Blk} {x:Atom} {ob:List Prop} {v:AV} {mem':List Blk} {r:Result Next} (h:place mem b off n ps k x=some (ob,v,mem'))
  (hm:MRel w0 φ mem w) (hk:mem[b]? =some k) (hlv:k.live=true) (hn:(concs φ ps).length=n)
  (hx:(V1.one x).wf mem.length=true)
  (hr:∀w',(storeCells ⟨(φ b).1,(φ b).2.1+off,none⟩ (concs φ ps)).run P w= .ok () w'→r= .ok (.value (x.conc φ)) w'∨(r= .ok .skip w'∧AV.val (.one x)=unA)):
  OpPost w0 φ mem r v mem':=by
 unfold place at h
 split at h
 ·rename_i qs hq
  split at h
  ·rename_i hc
   simp only[Bool.and_eq_true,Bool.not_eq_true'] at hc
   obtain ⟨hc,hro⟩:=hc
   simp only[Option.some.injEq,Prod.mk.injEq] at h
   obtain ⟨rfl,rfl,rfl⟩:=h
   obtain ⟨h1,h2⟩:=putP_spec (φ:=φ) hq
   obtain ⟨tail,lo,hi,hg,hfr,hesz⟩:=hm.blk b k hk hlv hro
   have hone:∀v∈concs φ ps,v.oneCell'=true:=by
    have:=hc.2
    clear h1 h2 hq hn hr hfr hc hg hesz
    revert this
    fun_induction cellsOk ps<;>intro this
    ·intro v hv;simp[concs] at hv
    ·rename_i x ps ih
     simp only[Bool.and_eq_true] at this
     intro v hv
     simp only[concs,Piece.conc,Atom.conc,List.cons_append,List.nil_append,List.mem_cons] at hv
     rcases hv with rfl|hv
     ·exact this.1
     ·exact ih this.2 v hv
    ·rename_i p ps h0 ih
     intro v hv
     simp only[concs,List.mem_append] at hv
     rcases hv with hv|hv
     ·cases p with
      |a x=>cases x<;>first|exact absurd rfl (h0 _)|(simp only[Piece.conc,Atom.conc,List.mem_singleton] at hv;subst hv;rfl)
      |num k n=>
       exact limbs_one k n v hv
      |arr k l=>
       simp only[Piece.conc,List.mem_map] at hv
       obtain ⟨_,_,rfl⟩:=hv;rfl
     ·exact ih this v hv
   have hst:=storeCells_run (P:=P) (φ b).1 off k.elem lo hi (concs φ ps) 0 (concs φ k.ps++tail) w hg (by simp;omega) hone (fun j h3 h4=>hfr j (by omega))
   simp only[Nat.add_zero,hn] at hst
   rw[List.take_append_of_le_length (by omega),List.drop_append_of_le_length (by omega),←List.append_assoc,←List.append_assoc,List.append_assoc (List.take off (concs φ k.ps)),←h1] at hst
   have hlen:(concs φ qs).length=(concs φ k.ps).length:=by rw[h1];simp[hn];omega
   have hz:=(hm.own b k hk hlv hro).2
   have hst':=hst
   rw[show (⟨(φ b).1,off,none⟩:Addr)=⟨(φ b).1,(φ b).2.1+off,none⟩ by rw[hz,Nat.zero_add]] at hst'
   have hlt:=hm.lt hk hlv
   refine ⟨φ,_,hr _ hst',Agree.refl _ _,by simp,?_,by simp only[AV.wf,List.length_set];exact hx⟩
   refine hm.write hk hlv hro qs hc.1 ?_ ?_ ?_
   ·refine hm.below.put rfl rfl rfl (by simp) fun j hj=> ?_
    have:=(hm.own b k hk hlv hro).1
    simp only
    rw[Array.getElem?_setIfInBounds,if_neg (fun e=>this (by rw[e];exact hj))]
   ·intro j hj
    simp only
    rw[Array.getElem?_setIfInBounds,if_neg (fun e=>hj e.symm)]
   ·refine ⟨tail,lo,hi,?_,by rw[hlen];exact hfr,fun he=> ?_⟩
    ·simp only
     rw[Array.getElem?_setIfInBounds,if_pos rfl,if_pos hlt]
    ·obtain ⟨e1,e3,e4⟩:=hesz he
     exact ⟨e1,by rw[←e3];simp[hlen],e4⟩
  ·simp at h
 ·simp at h
theorem newA_post {e:TypeId} {ps:List Piece} {ob:List Prop} {v:AV} {mem':List Blk} {r:Result Next} (h:newA mem e ps=some (ob,v,mem')) (hm:MRel w0 φ mem w)
  (hr:r= .ok (.value (.pointer (some ⟨w.heap.size,0,none⟩))) (w.alloc (.cells (concs φ ps).toArray e))):OpPost w0 φ mem r v mem':=by
 unfold newA at h
 split at h
 ·rename_i hp
  simp only[Option.some.injEq,Prod.mk.injEq] at h
  obtain ⟨rfl,rfl,rfl⟩:=h
  obtain ⟨φ',ha,hs,hm'⟩:=hm.alloc ps e hp
  exact ⟨φ',_,.inl (by rw[hr];simp[AV.conc,V1.conc,Atom.conc,hs]),ha,by simp,hm',by simp[AV.wf,V1.wf,Nat.blt]⟩
 ·simp at h
theorem ofVal1_conc (x:Value):(ofVal1 x).conc φ=x:=by
 unfold ofVal1
 split
 ·rename_i cs
  simp only[V1.conc,Value.agg.injEq]
  have:∀l:List Value,concs φ (l.map fun c=> .a (ofVal c))=l:=by
   intro l
   induction l with
   |nil=>rfl
   |cons c l ih=>simp[concs,Piece.conc,ofVal_conc,ih]
  rw[this]
 ·exact ofVal_conc _
theorem zeroA_run {t:TypeId} {ps:List Piece} (h:zeroA P t=some ps) (w:World):∃v,(zeroValue t).run P w= .ok v w∧v.cells=(concs φ ps).toArray:=by
 unfold zeroA at h
 split at h
 ·rename_i i hi
  split at h
  ·rename_i v hz
   split at h
   ·rename_i ps' hp
    simp only[Option.some.injEq] at h;subst h
    refine ⟨v,by simp[zeroValue,typeInfo,hi,hz],?_⟩
    have:=pieces_conc (φ:=φ) hp
    rwa[ofVal1_conc] at this
   ·simp at h
  ·simp at h
 ·simp at h
theorem loadA_post {t:TypeId} {x:V1} {ob:List Prop} {v:AV} {mem':List Blk} (h:loadA P mem t x=some (ob,v,mem')) (hm:MRel w0 φ mem w) (ho:All ob):
  OpPost w0 φ mem ((do pure (.value (←Instr.loadAt t (x.conc φ))):Sem Next).run P w) v mem':=by
 unfold loadA at h
 split at h
 ·split at h
  ·rename_i k hk
   split at h
   ·rename_i v' hlv hv
    refine good_post h hm (fun _=> ?_) ho
    simp[Instr.loadAt,Instr.sureAddr,V1.conc,Atom.conc,loadVar_run hm hk hlv hv]
   ·simp at h
  ·simp at h
 ·simp at h
theorem storeA_post {t:TypeId} {x y:V1} {ob:List Prop} {v:AV} {mem':List Blk} (h:storeA P mem t x y=some (ob,v,mem')) (hm:MRel w0 φ mem w):
  OpPost w0 φ mem ((do Instr.storeAt t (x.conc φ) (y.conc φ);pure .skip:Sem Next).run P w) v mem':=by
 unfold storeA at h
 split at h
 ·split at h
  ·rename_i ps n k hps hn hk
   split at h
   ·rename_i hc
    simp only[Bool.and_eq_true,Nat.beq_eq] at hc
    have hl:(concs φ ps).length=n:=by rw[concs_length];exact hc.2
    refine place_post (P:=P) h hm hk hc.1 hl rfl (fun w' hw=> .inr ⟨?_,rfl⟩)
    have hcells:=pieces_conc (φ:=φ) hps
    generalize y.conc φ=Y at hcells
    simp[Instr.storeAt,Instr.sureAddr,V1.conc,Atom.conc,storeVar,hcells,sizeA_run hn,hl,hw]
   ·simp at h
  ·simp at h
 ·simp at h
theorem fieldsA_run {t:TypeId} {fs:Array Field} (h:fieldsA P t=some fs):P.underlying t=some (.struct fs):=by
 unfold fieldsA at h
 split at h
 ·rename_i fs' hu;simp only[Option.some.injEq] at h;subst h;exact hu
 ·simp at h
theorem fieldAddrA_post {t:TypeId} {f:Nat} {x:V1} {ob:List Prop} {v:AV} {mem':List Blk} (h:fieldAddrA P mem t f x=some (ob,v,mem')) (hm:MRel w0 φ mem w) (ho:All ob):
  OpPost w0 φ mem ((do pure (.value (←Instr.fieldAt t (x.conc φ) f)):Sem Next).run P w) v mem':=by
 unfold fieldAddrA at h
 split at h
 ·split at h
  ·rename_i fs hfs
   split at h
   ·rename_i fl hfl
    split at h
    ·rename_i n hn
     split at h
     ·rename_i hz
      refine good_post h hm (fun _=> ?_) ho
      have hz':n≠0:=fun e=>by subst e;simp at hz
      simp[Instr.fieldAt,V1.conc,Atom.conc,underlying_run (fieldsA_run hfs),hfl,Instr.sureAddr,fieldPlace,sizeA_run hn,hz',add_own]
     ·simp at h
    ·simp at h
   ·simp at h
  ·simp at h
 ·simp at h
theorem fieldA_post {t:TypeId} {f:Nat} {x:V1} {ob:List Prop} {v:AV} {mem':List Blk} (h:fieldA P mem t f x=some (ob,v,mem')) (hm:MRel w0 φ mem w) (ho:All ob):
  OpPost w0 φ mem ((do pure (.value (←Instr.field t (x.conc φ) f)):Sem Next).run P w) v mem':=by
 unfold fieldA at h
 split at h
 ·split at h
  ·rename_i fs hfs
   split at h
   ·rename_i fl hfl
    split at h
    ·rename_i v' hv
     refine good_post h hm (fun _=> ?_) ho
     simp[Instr.field,V1.conc,asAgg,underlying_run (fieldsA_run hfs),hfl,part_run hv]
    ·simp at h
   ·simp at h
  ·simp at h
 ·simp at h
theorem indexAddrA_post {s:Bool} {t:TypeId} {x i:V1} {ob:List Prop} {v:AV} {mem':List Blk} (h:indexAddrA P mem s t x i=some (ob,v,mem')) (hm:MRel w0 φ mem w) (ho:All ob):
  OpPost w0 φ mem ((do pure (.value (←Instr.indexAt t (x.conc φ) (i.conc φ))):Sem Next).run P w) v mem':=by
 unfold indexAddrA at h
 split at h
 ·rename_i b off z len e hu
  split at h
  ·rename_i ob' n hmu hn
   refine good_post h hm (fun ho=> ?_) ho
   rw[good_obs h] at ho
   obtain ⟨h1,h2⟩:=must_spec hmu ho
   simp[Instr.indexAt,asIntOf,V1.conc,Atom.conc,underlying_run hu,Instr.sureAddr,sizeA_run hn,h1,h2,add_own]
  ·simp at h
 ·rename_i b len z e hu
  split at h
  ·rename_i ob' n hmu hn
   refine good_post h hm (fun ho=> ?_) ho
   rw[good_obs h] at ho
   obtain ⟨h1,h2⟩:=must_spec hmu ho
   simp only[Instr.indexAt,asIntOf,V1.conc,Atom.conc,Sem.run_bind,Sem.run_pure,Result.andThen_ok,underlying_run hu,sizeA_run hn,h1,h2,and_self,if_true,add_own]
  ·simp at h
 ·rename_i b off len cap z e hu
  split at h
  ·rename_i ob' n hmu hn
   refine good_post h hm (fun ho=> ?_) ho
   rw[good_obs h] at ho
   obtain ⟨h1,h2⟩:=must_spec hmu ho
   simp[Instr.indexAt,asIntOf,V1.conc,Atom.conc,underlying_run hu,sizeA_run hn,h1,h2,add_own]
  ·simp at h
 ·simp at h
theorem indexA_post {t:TypeId} {x i:V1} {ob:List Prop} {v:AV} {mem':List Blk} (h:indexA P mem t x i=some (ob,v,mem')) (hm:MRel w0 φ mem w) (ho:All ob):
  OpPost w0 φ mem ((do pure (.value (←Instr.index t (x.conc φ) (i.conc φ))):Sem Next).run P w) v mem':=by
 unfold indexA at h
 split at h
 ·rename_i ps z len e hu
  split at h
  ·rename_i n hd hn
   split at h
   ·rename_i v' hv
    refine good_post h hm (fun _=> ?_) ho
    obtain ⟨h1,h2⟩:=of_decide_eq_true hd
    simp[Instr.index,asIntOf,V1.conc,Atom.conc,underlying_run hu,sizeA_run hn,h1,h2,part_run hv]
   ·simp at h
  ·simp at h
 ·simp at h
end
section
variable {P:Program} {w0:Base} {w:World} {φ:Loc} {mem:List Blk}
theorem u_conc (k:IntKind) (n:Nat):(Atom.u k n).conc φ= .int k (n:Int):=rfl
theorem guard_int (op:BinOp) (t:TypeId) (X Y:Operand) (k:IntKind) (z:Int) (b:Value) (w:World):(eqGuard op t X Y (.int k z) b).run P w= .ok () w:=
 eqGuard_run (by simp) (by simp) w
theorem eqGuard_any (op:BinOp) (t:TypeId) (X Y X' Y':Operand) (a b:Value) (h:a≠.nilIface):eqGuard op t X Y a b=eqGuard op t X' Y' a b:=by
 unfold eqGuard
 cases a<;>cases b<;>first|rfl|exact absurd rfl h
theorem binA0_run {s:Bool} {op:BinOp} {t:TypeId} {x y:V1} {ob:List Prop} {r:Atom} (h:binA0 P s op t x y=some (ob,r)) (ho:All ob) (X Y:Operand) (w:World):
  (do eqGuard op t X Y (x.conc φ) (y.conc φ);binOp op t (x.conc φ) (y.conc φ):Sem Value).run P w= .ok (r.conc φ) w:=by
 unfold binA0 at h
 split at h
 ·
  split at h
  ·rename_i hs
   split at h
   ·rename_i r' hk hr
    simp only[Option.some.injEq,Prod.mk.injEq] at h;obtain ⟨rfl,rfl⟩:=h
    simp only[V1.conc,u_conc,Sem.run_bind,guard_int,Result.andThen_ok]
    exact shiftN_run hk hr _ t w
   ·simp at h
  ·rename_i hs
   split at h
   ·rename_i hk
    simp only[Bool.and_eq_true,decide_eq_true_eq] at hk
    obtain ⟨rfl,hk⟩:=hk
    simp only[V1.conc,u_conc,Sem.run_bind,guard_int,Result.andThen_ok]
    exact arithN_run hk h ho hs t w
   ·simp at h
 ·split at h
  ·rename_i hs
   split at h
   ·rename_i o hm
    split at h
    ·rename_i r' hk hr
     simp only[Option.some.injEq,Prod.mk.injEq] at h;obtain ⟨rfl,rfl⟩:=h
     have hb:=must_spec hm ho
     simp only[V1.conc,Atom.conc,Sem.run_bind,guard_int,Result.andThen_ok]
     have:=shiftN_run (P:=P) (φ:=φ) hk hr .i64 t w
     rwa[Int.toNat_of_nonneg hb] at this
    ·simp at h
   ·simp at h
  ·simp at h
 ·split at h
  ·simp only[V1.conc,Atom.conc,Sem.run_bind,guard_int,Result.andThen_ok]
   exact shrZ_run h ho t w
  ·rename_i hs
   simp only[V1.conc,Atom.conc,Sem.run_bind,guard_int,Result.andThen_ok]
   exact arithZ_run h ho hs t w
 ·rename_i a b h1 h2 h3
  split at h
  ·simp at h
  ·rename_i a' b' hn ha hb
   split at h
   ·rename_i r' hr
    simp only[Option.some.injEq,Prod.mk.injEq] at h;obtain ⟨rfl,rfl⟩:=h
    simp only[V1.conc,val?_conc ha,val?_conc hb,ofVal_conc]
    rw[eqGuard_any op t X Y (.tmp 0) (.tmp 0) a' b' (fun e=>by subst e;exact hn rfl)]
    exact pureRun_run _ hr w
   ·simp at h
  ·simp at h
 ·rename_i ps qs
  split at h
  ·rename_i b hok he
   simp only[eqOk,Bool.and_eq_true,Bool.not_eq_true'] at hok
   obtain ⟨hg,hps,hqs⟩:=hok
   obtain ⟨ks,hk1,hk2⟩:=sameO_eq hps
   obtain ⟨ks',hk3,hk4⟩:=sameO_eq hqs
   rw[hk1] at hk3
   simp only[Option.some.injEq] at hk3
   subst hk3
   obtain ⟨⟨ag,hag,hag1⟩,hrun⟩:=kindsT_run (P:=P) 20 t ks hk1 10000 (by omega)
   have h1:=kindsP_spec (φ:=φ) ps hk2
   have h2:=kindsP_spec (φ:=φ) qs hk4
   have heq:=hrun (concs φ ps) (concs φ qs) w h1 h2
   rw[eqF_spec ps qs he] at heq
   obtain ⟨hg,hat⟩:=hg
   have hat:isAggA P t=some true:=by
    split at hat
    ·assumption
    ·simp at hat
   simp only[mkV,hat] at heq
   simp only[V1.conc,Sem.run_bind,run_eqGuard_agg w op t X Y _ _ hg,Result.andThen_ok]
   split at h
   ·simp only[Option.some.injEq,Prod.mk.injEq] at h;obtain ⟨rfl,rfl⟩:=h
    rw[run_eql_struct,heq];rfl
   ·simp only[Option.some.injEq,Prod.mk.injEq] at h;obtain ⟨rfl,rfl⟩:=h
    rw[run_neq_struct,heq];rfl
   ·simp at h
  ·simp at h
 ·simp at h
theorem strAdd_spec {s:Bool} {op:BinOp} {x y:V1} {a b:ByteArray} (h:strAdd s op x y=some (a,b)):op= .add∧x= .one (.v (.string a))∧y= .one (.v (.string b)):=by
 unfold strAdd at h
 split at h
 ·simp only[Option.some.injEq,Prod.mk.injEq] at h
  obtain ⟨rfl,rfl⟩:=h
  exact ⟨rfl,rfl,rfl⟩
 ·simp at h
theorem equalIn_ptr {d:Nat} {t e:TypeId} (hu:P.underlying t=some (.pointer e)) (a:Addr) (w:World):(Op.equalIn (d+1) t (.pointer (some a)) (.pointer none)).run P w= .ok false w:=by
 simp[Op.equalIn,underlying_run hu]
theorem equalIn_sl {d:Nat} {t e:TypeId} (hu:P.underlying t=some (.slice e)) (a:Addr) (n c n' c':Nat) (w:World):(Op.equalIn (d+1) t (.slice (some a) n c) (.slice none n' c')).run P w= .ok false w:=by
 simp[Op.equalIn,underlying_run hu]
theorem equalIn_nilIf {d:Nat} {t:TypeId} {ms:Array (String×TypeId)} (hu:P.underlying t=some (.interface ms)) (w:World):(Op.equalIn (d+1) t .nilIface .nilIface).run P w= .ok true w:=by
 simp[Op.equalIn,underlying_run hu]
theorem nilCmp_run {op:BinOp} {t:TypeId} {x y:V1} {b:Bool} (h:nilCmp P op t x y=some b) (X Y:Operand) (w:World):
  (do eqGuard op t X Y (x.conc φ) (y.conc φ);binOp op t (x.conc φ) (y.conc φ):Sem Value).run P w= .ok (.bool b) w:=by
 unfold nilCmp at h
 split at h
 all_goals try (simp only[reduceCtorEq] at h;done)
 all_goals
  split at h
  all_goals try (simp only[reduceCtorEq] at h;done)
  all_goals
   rename_i hu
   simp only[Option.some.injEq] at h
   subst h
   simp only[V1.conc,Atom.conc,Sem.run_bind]
   rw[eqGuard_run (by simp) (by simp) w,Result.andThen_ok]
   simp only[binOp,Op.equal]
   rw[show Op.maxDepth=9999+1 from rfl]
   first
    |simp only[Sem.run_bind,equalIn_ptr hu,Result.andThen_ok,Sem.run_pure,Bool.not_false]
    |simp only[Sem.run_bind,equalIn_sl hu,Result.andThen_ok,Sem.run_pure,Bool.not_false]
theorem binA_run {s:Bool} {op:BinOp} {t:TypeId} {x y:V1} {ob:List Prop} {r:Atom} (h:binA P s op t x y=some (ob,r)) (ho:All ob) (X Y:Operand) (w:World):
  (do eqGuard op t X Y (x.conc φ) (y.conc φ);binOp op t (x.conc φ) (y.conc φ):Sem Value).run P w= .ok (r.conc φ) w:=by
 unfold binA at h
 split at h
 ·rename_i b hn
  simp only[Option.some.injEq,Prod.mk.injEq] at h
  obtain ⟨rfl,rfl⟩:=h
  exact nilCmp_run hn X Y w
 split at h
 ·rename_i a b hs
  obtain ⟨rfl,rfl,rfl⟩:=strAdd_spec hs
  simp only[Option.some.injEq,Prod.mk.injEq] at h
  obtain ⟨rfl,rfl⟩:=h
  have h1:¬(((a.size+b.size:Nat):Int)>IntKind.i64.max):=by
   have:=ho.1
   have e:IntKind.i64.max=9223372036854775807:=by decide
   rw[e];omega
  simp only[V1.conc,Atom.conc,Sem.run_bind]
  rw[eqGuard_run (by simp) (by simp) w,Result.andThen_ok]
  simp only[binOp,Op.stringOp,h1,if_false,Sem.run_pure]
 ·exact binA0_run h ho X Y w
theorem unA1_run {op:UnOp} {x r:Atom} (h:unA1 op x=some r) (w:World):(Op.unary op (x.conc φ)).run P w= .ok (r.conc φ) w:=by
 cases x with
 |v x=>
  cases x<;>cases op<;>simp only[unA1,reduceCtorEq,Option.some.injEq] at h
  subst h;rfl
 |i z=>
  cases op<;>simp only[unA1,reduceCtorEq,Option.some.injEq] at h
  subst h
  simp only[Atom.conc,Op.unary,Op.intArith,Sem.run_pure]
 |ptr b off=>cases op<;>simp[unA1] at h
 |sl b off len cap=>cases op<;>simp[unA1] at h
 |sx b len=>cases op<;>simp[unA1] at h
 |clo f x y=>cases op<;>simp[unA1] at h
 |u k n=>
  cases op<;>simp only[unA1,reduceCtorEq] at h
  case neg=>
   split at h
   ·rename_i hk
    simp only[Option.some.injEq] at h;subst h
    simp only[Atom.conc,Op.unary,Op.intArith,Sem.run_pure]
    have:=sub_un hk 0 n
    simp only[Nat.zero_add] at this
    rw[show (0:Int)-(n:Int)=((0:Nat):Int)-(n:Int) from rfl,this]
   ·simp at h
  case xor=>
   split at h
   ·rename_i hk
    simp only[Option.some.injEq] at h;subst h
    have hsg:k.signed=false:=by cases k<;>first|rfl|simp[unsigned] at hk
    have hmax:k.max=((bitsOf k-1:Nat):Int):=by cases k<;>first|rfl|simp[unsigned] at hk
    simp only[Atom.conc,Op.unary,Op.intBits,Sem.run_pure,hsg,Bool.false_eq_true,if_false]
    rw[bv_wrap hk,BitVec.toNat_xor,hmax,ofInt_nat,ofInt_nat]
    congr 3
    have e:BitVec.ofNat k.bits (bitsOf k-1)=BitVec.allOnes k.bits:=by
     apply BitVec.eq_of_toNat_eq
     simp[bitsOf]
    have h2:(BitVec.ofNat k.bits (bitsOf k-1)^^^BitVec.ofNat k.bits n).toNat=((~~~(BitVec.ofNat k.bits n))).toNat:=by
     rw[e,BitVec.allOnes_xor]
    simp only[BitVec.toNat_xor,BitVec.toNat_not,BitVec.toNat_ofNat] at h2
    exact h2
   ·simp at h
theorem convert_int {src dst:TypeId} {d:TypeDesc} {k k':IntKind} {z:Int} (hs:P.underlying src=some d) (hd:P.underlying dst=some (.int k)) (w:World):
  (convert src dst (.int k' z)).run P w= .ok (.int k (k.wrap z)) w:=by
 simp only[convert,Sem.run_bind,underlying_run hs,underlying_run hd,Result.andThen_ok]
 cases d<;>rfl
theorem convA_run {src dst:TypeId} {x r:Atom} (h:convA P src dst x=some r) (w:World):(convert src dst (x.conc φ)).run P w= .ok (r.conc φ) w:=by
 unfold convA at h
 split at h
 ·rename_i hs hd
  split at h
  ·simp only[Option.some.injEq] at h;subst h
   exact convert_int hs hd w
  ·simp only[Option.some.injEq] at h;subst h
   exact convert_int hs hd w
  ·simp at h
 ·rename_i hs hd
  split at h
  ·rename_i hk
   split at h
   ·simp only[Option.some.injEq] at h;subst h
    rw[Atom.conc,convert_int hs hd,wrap_nat hk];rfl
   ·simp only[Option.some.injEq] at h;subst h
    refine (convert_int hs hd w).trans ?_
    simp only[Atom.conc]
    rw[Int.toNat_of_nonneg (Int.emod_nonneg _ (Int.ofNat_ne_zero.2 (Nat.pos_iff_ne_zero.1 (bitsOf_pos _)))),←wrap_un hk]
   ·simp at h
  ·simp at h
 ·split at h
  ·rename_i v hv
   split at h
   ·rename_i r' hr
    simp only[Option.some.injEq] at h;subst h
    rw[val?_conc hv,ofVal_conc]
    exact pureRun_run _ hr w
   ·simp at h
  ·simp at h
end
section
variable {P:Program} {w0:Base} {w:World} {φ:Loc} {mem:List Blk}
theorem boundA_run {s:Bool} {d top n:Nat} {x:Option V1} {o:List Prop} (h:boundA s d x top=some (o,n)) (ho:All o):
  (x=none∧n=d)∨∃v,x=some v∧∀(code:BoundsCode) (w:World),(Instr.sliceBound (v.conc φ) top code).run P w= .ok n w:=by
 unfold boundA at h
 split at h
 ·simp only[Option.some.injEq,Prod.mk.injEq] at h;exact .inl ⟨rfl,h.2.symm⟩
 ·split at h
  ·rename_i z _ o' hm
   simp only[Option.some.injEq,Prod.mk.injEq] at h;obtain ⟨rfl,rfl⟩:=h
   obtain ⟨h1,h2⟩:=must_spec hm ho
   exact .inr ⟨_,rfl,fun code w=>by simp[Instr.sliceBound,V1.conc,Atom.conc,asIntOf,h1,h2]⟩
  ·simp at h
 ·simp at h
theorem sliceArrA_post {s:Bool} {t:TypeId} {x:V1} {lo hi:Option V1} {ob:List Prop} {v:AV} {mem':List Blk} (h:sliceArrA P mem s t x lo hi=some (ob,v,mem')) (hm:MRel w0 φ mem w) (ho:All ob):
  OpPost w0 φ mem ((do pure (.value (←Instr.sliceAt t (x.conc φ) (lo.map (V1.conc φ)) (hi.map (V1.conc φ)) none)):Sem Next).run P w) v mem':=by
 unfold sliceArrA at h
 split at h
 ·rename_i b off n e hu
  split at h
  ·rename_i o1 hz sz hb1 hn
   split at h
   ·rename_i o2 lz hb2
    split at h
    ·rename_i hne
     have ho':=ho
     rw[good_obs h,All_append] at ho'
     refine good_post h hm (fun _=> ?_) ho
     have hne':n≠lz:=fun e=>by subst e;simp at hne
     have hbs:(Instr.sliceBounds false n n (lo.map (V1.conc φ)) (hi.map (V1.conc φ)) none).run P w= .ok (lz,hz,n) w:=by
      rcases boundA_run (φ:=φ) (P:=P) hb1 ho'.1 with ⟨rfl,rfl⟩|⟨vh,rfl,h1⟩<;>rcases boundA_run (φ:=φ) (P:=P) hb2 ho'.2 with ⟨rfl,rfl⟩|⟨vl,rfl,h2⟩<;>
       simp[Instr.sliceBounds, *]
     simp[Instr.sliceAt,underlying_run hu,V1.conc,Atom.conc,Instr.sureAddr,hbs,sizeA_run hn,hne',add_own]
    ·simp at h
   ·simp at h
  ·simp at h
 ·simp at h
theorem copyA_post {t:TypeId} {ts:Array TypeId} (ht:ts[0]? =some t) {ty:TypeId} {x y:V1} {ob:List Prop} {v:AV} {mem':List Blk} (h:copyA P mem t x y=some (ob,v,mem')) (hm:MRel w0 φ mem w):
  OpPost w0 φ mem ((do pure (.value (←Builtin.copy_ ts ty #[x.conc φ,y.conc φ])):Sem Next).run P w) v mem':=by
 unfold copyA at h
 split at h
 ·rename_i b off n cap b' off' n' cap' e hu
  split at h
  ·rename_i sz k k' hn hk hk'
   split at h
   ·rename_i ps hc hlo
    simp only[Bool.and_eq_true] at hlo
    have hl:=(cutP_spec (φ:=φ) hc).2.2
    refine place_post (P:=P) h hm hk hlo.1 hl rfl (fun w' hw=> .inl ?_)
    have hload:=loadCells_run (P:=P) hm hk' hlo.2 hc
    simp[Builtin.copy_,ht,V1.conc,Atom.conc,underlying_run hu,Builtin.lenOf,Builtin.firstCells,sizeA_run hn,hload,hw,goInt]
   ·simp at h
  ·simp at h
 ·simp at h
theorem foldl_set (off:Nat):∀(vs:List Value) (i:Nat) (cs:List Value),off+i+vs.length≤cs.length→
  ((vs.zipIdx i).foldl (fun (cs:Array Value) (c,j)=>cs.setIfInBounds (off+j) c) cs.toArray).toList=cs.take (off+i)++(vs++cs.drop (off+i+vs.length))
 |[],i,cs,h=>by simp
 |v::vs,i,cs,h=>by
  simp only[List.length_cons] at h
  simp only[List.zipIdx_cons,List.foldl_cons,List.setIfInBounds_toArray]
  rw[foldl_set off vs (i+1) (cs.set (off+i) v) (by simp;omega)]
  apply List.ext_getElem?
  intro j
  have e1:min (off+(i+1)) cs.length=off+i+1:=by omega
  have e2:min (off+i) cs.length=off+i:=by omega
  simp only[List.getElem?_append,List.length_take,List.length_set,List.getElem?_take,List.getElem?_drop,List.getElem?_set,e1,e2,List.length_cons,List.getElem?_cons]
  by_cases h1:j<off+i
  ·simp[h1,show j<off+i+1 by omega,show j<off+(i+1) by omega,show ¬off+i=j by omega]
  ·by_cases h2:j=off+i
   ·subst h2
    rw[if_pos (by omega),if_pos (by omega),if_pos rfl,if_pos (by omega),if_neg (by omega),if_pos (by omega),if_pos (by omega)]
   ·rw[if_neg (by omega),if_neg h1]
    by_cases h3:j-(off+i+1)<vs.length
    ·rw[if_pos h3,if_pos (by omega),if_neg (by omega),show j-(off+i)-1=j-(off+i+1) by omega]
    ·rw[if_neg h3,if_neg (by omega)]
     rw[if_neg (by omega)]
     congr 1;omega
theorem fillA_run {place:Nat→Option (Nat×Nat)}:∀(vs:List (Nat×V1)) (cells r:List Piece),fillA place cells vs=some r→
  Instr.fill place (concs φ cells).toArray (vs.map fun p=>(p.1,p.2.conc φ))=some (concs φ r).toArray
 |[],cells,r,h=>by simp only[fillA,Option.some.injEq] at h;subst h;rfl
 |(i,v)::vs,cells,r,h=>by
  simp only[fillA] at h
  split at h
  ·rename_i off size ps hp hps
   split at h
   ·rename_i hs
    simp only[Nat.beq_eq] at hs
    split at h
    ·rename_i c hc
     have ih:=fillA_run vs c r h
     obtain ⟨h1,h2⟩:=putP_spec (φ:=φ) hc
     have hcells:=pieces_conc (φ:=φ) hps
     have hsz:(concs φ ps).length=size:=by rw[concs_length];exact hs
     have hf:=foldl_set off (concs φ ps) 0 (concs φ cells) (by omega)
     simp only[Nat.add_zero,hsz] at hf
     rw[←h1] at hf
     simp only[List.map_cons,Instr.fill,hp,hcells]
     have hg:¬(((concs φ ps).toArray.size≠size||decide (off+(concs φ ps).toArray.size>(concs φ cells).toArray.size))=true):=by
      simp[hsz];omega
     rw[if_neg hg]
     rw[←ih]
     congr 1
     apply Array.ext'
     rw[←hf]
     simp
    ·simp at h
   ·simp at h
  ·simp at h
theorem buildA_post {t:TypeId} {vs:List (Nat×V1)} {parts:Array (Nat×Value)} (hp:parts.toList=vs.map fun p=>(p.1,p.2.conc φ)) {ob:List Prop} {v:AV} {mem':List Blk}
  (h:buildA P mem t vs=some (ob,v,mem')) (hm:MRel w0 φ mem w) (ho:All ob):
  OpPost w0 φ mem ((do pure (.value (←Instr.build t parts)):Sem Next).run P w) v mem':=by
 unfold buildA at h
 split at h
 ·rename_i z hz
  obtain ⟨zv,hzr,hzc⟩:=zeroA_run (φ:=φ) hz w
  split at h
  ·rename_i len e hu
   split at h
   ·rename_i n hn
    split at h
    ·rename_i r hr
     refine good_post h hm (fun _=> ?_) ho
     have hf:=fillA_run (φ:=φ) vs z r hr
     simp only[Instr.build,Sem.run_bind,hzr,Result.andThen_ok,underlying_run hu,sizeA_run hn,hzc,hp,hf,Sem.run_pure]
     rfl
    ·simp at h
   ·simp at h
  ·rename_i fs hu
   split at h
   ·rename_i pl hpl
    split at h
    ·rename_i r hr
     refine good_post h hm (fun _=> ?_) ho
     have hf:=fillA_run (φ:=φ) vs z r hr
     have hmap:∀(l:List Field) (q:List (Nat×Nat)) (w:World),l.mapM (fun f=>(sizeA P f.type).map fun n=>(f.offset,n))=some q→
       (l.mapM (m:=Sem) fun f=>do pure (f.offset,←sizeOf f.type)).run P w= .ok q w:=by
      intro l
      induction l with
      |nil=>intro q w hq;simp at hq;subst hq;rfl
      |cons f l ih=>
       intro q w hq
       simp only[List.mapM_cons,Option.bind_eq_bind,Option.bind_eq_some_iff,Option.map_eq_some_iff,Option.pure_def,Option.some.injEq] at hq
       obtain ⟨a,⟨n,hn,rfl⟩,q',hq',rfl⟩:=hq
       simp only[List.mapM_cons,Sem.run_bind,sizeA_run hn,Result.andThen_ok,Sem.run_pure,ih q' w hq']
     have hm2:=hmap fs.toList pl w hpl
     have hm3:(fs.mapM (m:=Sem) fun f=>do pure (f.offset,←sizeOf f.type)).run P w= .ok pl.toArray w:=by
      rw[Array.mapM_eq_mapM_toList]
      simp only[Sem.run_map,hm2,Result.andThen_ok]
     simp only[Instr.build,Sem.run_bind,hzr,Result.andThen_ok,underlying_run hu,hm3,hzc,hp,List.getElem?_toArray,hf,Sem.run_pure]
     rfl
    ·simp at h
   ·simp at h
  ·simp at h
 ·simp at h
theorem lenA_run {t:TypeId} {ts:Array TypeId} (ht:ts[0]? =some t) {ty:TypeId} {x:V1} {n:Int} (h:lenA P t x=some n) (xs:Array Value) (hx:xs[0]? =some (x.conc φ)) (w:World):
  (Builtin.len_ ts ty xs).run P w= .ok (.int .i64 n) w:=by
 unfold lenA at h
 split at h
 ·rename_i hu
  simp only[Option.some.injEq] at h;subst h
  simp only[V1.conc,Atom.conc] at hx
  simp[Builtin.len_,ht,hx,underlying_run hu,goInt]
 ·rename_i hu
  simp only[Option.some.injEq] at h;subst h
  simp[Builtin.len_,ht,hx,underlying_run hu,goInt]
 ·rename_i hu
  simp only[Option.some.injEq] at h;subst h
  simp only[V1.conc,Atom.conc] at hx
  simp[Builtin.len_,ht,hx,underlying_run hu,goInt]
 ·rename_i hu
  simp only[Option.some.injEq] at h;subst h
  simp only[V1.conc,Atom.conc] at hx
  simp[Builtin.len_,ht,hx,underlying_run hu,goInt]
 ·rename_i hu
  simp only[Option.some.injEq] at h;subst h
  simp only[V1.conc,Atom.conc] at hx
  simp[Builtin.len_,ht,hx,underlying_run hu,goInt]
 ·simp at h
theorem minA_wf {vs:List V1} {x:Atom} (h:minA vs=some x) (n:Nat):(V1.one x).wf n=true:=by
 unfold minA at h
 split at h
 ·simp only[Option.some.injEq] at h;subst h;rfl
 ·simp at h
theorem minA_post {ts:Array TypeId} {ty:TypeId} {vs:List V1} {x:Atom} (h:minA vs=some x) (w:World):(Builtin.min_ ts ty (vs.map (V1.conc φ)).toArray).run P w= .ok (x.conc φ) w:=by
 unfold minA at h
 split at h
 ·rename_i a b
  simp only[Option.some.injEq] at h;subst h
  simp only[Builtin.min_,List.map_cons,List.map_nil,List.foldlM_cons,List.foldlM_nil,V1.conc,Atom.conc,Builtin.min2,Sem.run_bind,Sem.run_pure,Result.andThen_ok]
  by_cases hb:b<a
  ·simp[hb]
  ·simp[hb]
 ·simp at h
theorem maxA_wf {vs:List V1} {x:Atom} (h:maxA vs=some x) (n:Nat):(V1.one x).wf n=true:=by
 unfold maxA at h
 split at h
 ·simp only[Option.some.injEq] at h;subst h;rfl
 ·simp at h
theorem maxA_post {ts:Array TypeId} {ty:TypeId} {vs:List V1} {x:Atom} (h:maxA vs=some x) (w:World):(Builtin.max_ ts ty (vs.map (V1.conc φ)).toArray).run P w= .ok (x.conc φ) w:=by
 unfold maxA at h
 split at h
 ·rename_i a b
  simp only[Option.some.injEq] at h;subst h
  simp only[Builtin.max_,List.map_cons,List.map_nil,List.foldlM_cons,List.foldlM_nil,V1.conc,Atom.conc,Builtin.max2,Sem.run_bind,Sem.run_pure,Result.andThen_ok]
  by_cases hb:a<b
  ·simp[hb]
  ·simp[hb]
 ·simp at h
end
section
variable {P:Program} {w0:Base} {w:World} {φ:Loc} {mem:List Blk}
theorem newSl_post {e:TypeId} {ps:List Piece} {l c:Nat} {ob:List Prop} {v:AV} {mem':List Blk} {r:Result Next} (h:newSl mem e ps l c=some (ob,v,mem')) (hm:MRel w0 φ mem w)
  (hr:r= .ok (.value (.slice (some ⟨w.heap.size,0,none⟩) l c)) (w.alloc (.cells (concs φ ps).toArray e))):OpPost w0 φ mem r v mem':=by
 unfold newSl at h
 split at h
 ·rename_i hp
  simp only[Option.some.injEq,Prod.mk.injEq] at h
  obtain ⟨rfl,rfl,rfl⟩:=h
  obtain ⟨φ',ha,hs,hm'⟩:=hm.alloc ps e hp
  exact ⟨φ',_,.inl (by rw[hr];simp[AV.conc,V1.conc,Atom.conc,hs]),ha,by simp,hm',by simp[AV.wf,V1.wf,Nat.blt]⟩
 ·simp at h
theorem concs_repPs (z:List Piece):∀n,concs φ (repPs n z)=(List.replicate n (concs φ z)).flatten
 |0=>rfl
 |n+1=>by simp[repPs,concs_append,concs_repPs z n,List.replicate_succ]
theorem flatten_rep (Z:List Value) (hZ:0<Z.length):∀n,(List.range (n*Z.length)).map (fun i=>Z[i%Z.length]!)=(List.replicate n Z).flatten
 |0=>by simp
 |n+1=>by
  rw[Nat.add_mul,Nat.one_mul,List.range_add,List.map_append,flatten_rep Z hZ n]
  rw[List.replicate_succ',List.flatten_append]
  congr 1
  simp only[List.map_map,List.flatten_cons,List.flatten_nil,List.append_nil]
  apply List.ext_getElem?
  intro i
  by_cases hi:i<Z.length
  ·simp only[List.getElem?_map,List.getElem?_range hi,Option.map_some,Function.comp]
   rw[Nat.mul_add_mod',Nat.mod_eq_of_lt hi];simp[hi]
  ·rw[List.getElem?_eq_none (by simp;omega),List.getElem?_eq_none (by omega)]
theorem range0:Array.range 0= #[]:=rfl
theorem zeroRow {z:List Piece} {zv:Value} (hzc:zv.cells=(concs φ z).toArray) (hs:0<sizes z) (n:Nat):
  (Array.range (n*sizes z)).map (fun i=>zv.cells[i%zv.cells.size]!)=(concs φ (repPs n z)).toArray:=by
 have hl:(concs φ z).length=sizes z:=concs_length φ z
 rw[concs_repPs,←flatten_rep (concs φ z) (by omega),hl]
 apply Array.ext'
 simp[hzc,hl]
theorem buildSlP_run {t:TypeId} {len:Nat} {vs:List (Nat×V1)} {parts:Array (Nat×Value)} (hp:parts.toList=vs.map fun p=>(p.1,p.2.conc φ)) {ps:List Piece} {e:TypeId}
  (h:buildSlP P t len vs=some (ps,e)) (w:World):((do pure (.value (←Instr.buildSlice t len parts)):Sem Next).run P w)= .ok (.value (.slice (some ⟨w.heap.size,0,none⟩) len len)) (w.alloc (.cells (concs φ ps).toArray e)):=by
 unfold buildSlP at h
 split at h
 ·rename_i e' hu
  split at h
  ·rename_i n z hn hz
   split at h
   ·rename_i hc
    simp only[Bool.and_eq_true,Nat.beq_eq,Nat.ble_eq,Nat.blt] at hc
    obtain ⟨rfl,hle,hpos⟩:=hc
    split at h
    ·rename_i ps' hps
     simp only[Option.some.injEq,Prod.mk.injEq] at h
     obtain ⟨rfl,rfl⟩:=h
     obtain ⟨zv,hzr,hzc⟩:=zeroA_run (φ:=φ) hz w
     have hf:=fillA_run (φ:=φ) vs _ ps' hps
     have hrow:=zeroRow (φ:=φ) hzc (by omega) len
     have h1:¬(len*sizes z>2^24):=by omega
     by_cases h0:len*sizes z=0
     ·have hmap:∀f:Nat→Value,(Array.range (len*sizes z)).map f= #[]:=by intro f;rw[h0,range0];simp
      rw[←hrow,hmap] at hf
      rw[hmap] at hrow
      simp only[Instr.buildSlice,Sem.run_bind,underlying_run hu,Result.andThen_ok,sizeA_run hn]
      rw[Sem.run_ite,if_neg h1]
      simp only[Sem.run_bind,Sem.run_pure,h0,if_true,Result.andThen_ok,hp,hf,range0,Array.map_empty]
      simp[newRow]
     ·simp only[Instr.buildSlice,Sem.run_bind,underlying_run hu,Result.andThen_ok,sizeA_run hn]
      rw[Sem.run_ite,if_neg h1]
      simp only[Sem.run_bind,h0,if_false,hzr,Sem.run_pure,Result.andThen_ok,hrow,hp,hf]
      simp[newRow]
    ·simp at h
   ·simp at h
  ·simp at h
 ·simp at h
theorem buildSlA_post {t:TypeId} {len:Nat} {vs:List (Nat×V1)} {parts:Array (Nat×Value)} (hp:parts.toList=vs.map fun p=>(p.1,p.2.conc φ)) {ob:List Prop} {v:AV} {mem':List Blk}
  (h:buildSlA P mem t len vs=some (ob,v,mem')) (hm:MRel w0 φ mem w):OpPost w0 φ mem ((do pure (.value (←Instr.buildSlice t len parts)):Sem Next).run P w) v mem':=by
 unfold buildSlA at h
 split at h
 ·rename_i ps e hps
  exact newSl_post h hm (buildSlP_run hp hps w)
 ·simp at h
theorem makeSl_run {t e:TypeId} {l c:Int} {i:TypeInfo} {z:List Piece} (hu:P.underlying t=some (.slice e)) (hi:P.info? e=some i) (hz:zeroA P e=some z) (hs:sizes z=i.size) (hpos:0<i.size)
  (h1:0≤l) (h2:l≤c) (h3:(i.bytes:Int)*c≤140737488355328) (h4:c≤140737488355328) (w:World):
  ((do pure (.value (←Instr.makeSlice t (.int .i64 l) (.int .i64 c))):Sem Next).run P w)= .ok (.value (.slice (some ⟨w.heap.size,0,none⟩) l.toNat c.toNat)) (w.alloc (.cells (concs φ (repPs c.toNat z)).toArray e)):=by
 obtain ⟨zv,hzr,hzc⟩:=zeroA_run (φ:=φ) hz w
 have hrow:=zeroRow (φ:=φ) hzc (by omega) c.toNat
 rw[hs] at hrow
 have hwl:IntKind.i64.wrap l=l:=wrap64_inI ⟨by omega,by omega⟩
 have hwc:IntKind.i64.wrap c=c:=wrap64_inI ⟨by omega,by omega⟩
 have hti:(typeInfo e).run P w= .ok i w:=by simp[typeInfo,hi]
 have htl:¬(((decide (c<0)||decide ((i.bytes:Int)*c>2^48))||decide (l<0)||decide (l>c))=true):=by
  simp;omega
 by_cases h0:c.toNat*i.size=0
 ·have hmap:∀f:Nat→Value,(Array.range (c.toNat*i.size)).map f= #[]:=by intro f;rw[h0,range0];simp
  rw[hmap] at hrow
  simp only[Instr.makeSlice,Sem.run_bind,underlying_run hu,Result.andThen_ok,asInt,asIntOf,Sem.run_pure,hti,hwl,hwc]
  rw[Sem.run_ite,if_neg htl]
  simp only[Sem.run_bind,run_askRoom,Result.andThen_ok,sizeOf,hti,Sem.run_pure,h0,if_true,range0,Array.map_empty]
  rw[hrow]
  simp[newRow]
 ·simp only[Instr.makeSlice,Sem.run_bind,underlying_run hu,Result.andThen_ok,asInt,asIntOf,Sem.run_pure,hti,hwl,hwc]
  rw[Sem.run_ite,if_neg htl]
  simp only[Sem.run_bind,run_askRoom,Result.andThen_ok,sizeOf,hti,Sem.run_pure,h0,if_false,hzr,hrow]
  simp[newRow]
theorem makeSlA_post {t:TypeId} {l c:V1} {ob:List Prop} {v:AV} {mem':List Blk} (h:makeSlA P mem t l c=some (ob,v,mem')) (hm:MRel w0 φ mem w):
  OpPost w0 φ mem ((do pure (.value (←Instr.makeSlice t (l.conc φ) (c.conc φ))):Sem Next).run P w) v mem':=by
 unfold makeSlA at h
 split at h
 ·rename_i e l c hu
  split at h
  ·rename_i i z hi hz
   split at h
   ·rename_i hc
    simp only[Bool.and_eq_true,Nat.beq_eq,Nat.ble_eq,Nat.blt,decide_eq_true_eq] at hc
    obtain ⟨⟨hs,hpos⟩,h1,h2,h3,h4⟩:=hc
    exact newSl_post h hm (makeSl_run hu hi hz hs (by omega) h1 h2 h3 h4 w)
   ·simp at h
  ·simp at h
 ·simp at h
theorem bytesP_spec:∀(ps:List Piece) {l:List Nat},bytesP ps=some l→concs φ ps=l.map fun n=> .int .u8 ((n:Nat):Int)
 |[],l,h=>by simp only[bytesP,Option.some.injEq] at h;subst h;rfl
 | .a (.u .u8 n)::ps,l,h=>by
  simp only[bytesP] at h
  split at h
  ·rename_i l' hl
   simp only[Option.some.injEq] at h;subst h
   simp[concs,Piece.conc,Atom.conc,bytesP_spec ps hl]
  ·simp at h
 | .num _ _::_,_,h=>by simp[bytesP] at h
 | .arr _ _::_,_,h=>by simp[bytesP] at h
 | .a (.v _)::_,_,h=>by simp[bytesP] at h
 | .a (.i _)::_,_,h=>by simp[bytesP] at h
 | .a (.ptr _ _)::_,_,h=>by simp[bytesP] at h
 | .a (.sl _ _ _ _)::_,_,h=>by simp[bytesP] at h
 | .a (.sx _ _)::_,_,h=>by simp[bytesP] at h
 | .a (.u .i8 _)::_,_,h=>by simp[bytesP] at h
 | .a (.u .i16 _)::_,_,h=>by simp[bytesP] at h
 | .a (.u .i32 _)::_,_,h=>by simp[bytesP] at h
 | .a (.u .i64 _)::_,_,h=>by simp[bytesP] at h
 | .a (.u .u16 _)::_,_,h=>by simp[bytesP] at h
 | .a (.u .u32 _)::_,_,h=>by simp[bytesP] at h
 | .a (.u .u64 _)::_,_,h=>by simp[bytesP] at h
theorem ownSl_conc {x:V1} {b off n:Nat} (h:ownSl x=some (b,off,n)):∃c,x.conc φ= .slice (some ⟨(φ b).1,(φ b).2.1+off,none⟩) n c:=by
 unfold ownSl at h
 split at h
 ·simp only[Option.some.injEq,Prod.mk.injEq] at h;obtain ⟨rfl,rfl,rfl⟩:=h;exact ⟨_,rfl⟩
 ·simp only[Option.some.injEq,Prod.mk.injEq] at h;obtain ⟨rfl,rfl,rfl⟩:=h;exact ⟨_,rfl⟩
 ·simp at h
theorem bytesToString_run {a:Addr} {n c:Nat} {l:List Nat} (h:(loadCells a n).run P w= .ok (l.map fun n=>Value.int .u8 ((n:Nat):Int)).toArray w):
  (Conv.bytesToString (.slice (some a) n c)).run P w= .ok (.string (strOf l)) w:=by
 simp only[Conv.bytesToString,Sem.run_bind,h,Result.andThen_ok]
 rw[←Array.forIn_toList]
 have key:∀(l:List Nat) (s:ByteArray),(forIn (m:=Sem) (l.map fun n=>Value.int .u8 ((n:Nat):Int)) s fun c s=>do
   let .int .u8 n:=c|stuck "bytesToString: byte expected"
   pure (ForInStep.yield (s.push (UInt8.ofNat n.toNat)))).run P w= .ok ⟨s.data++(l.map UInt8.ofNat).toArray⟩ w:=by
  intro l
  induction l with
  |nil=>intro s;simp
  |cons n l ih=>
   intro s
   simp only[List.map_cons,List.forIn_cons,Sem.run_bind,Sem.run_pure,Result.andThen_ok,Int.toNat_natCast]
   rw[ih]
   congr 2
   apply Array.ext'
   simp[ByteArray.push]
 have:=key l .empty
 refine Eq.trans (b:=((forIn (m:=Sem) (l.map fun n=>Value.int .u8 ((n:Nat):Int)) ByteArray.empty fun c s=>do
   let .int .u8 n:=c|stuck "bytesToString: byte expected"
   pure (ForInStep.yield (s.push (UInt8.ofNat n.toNat)))).run P w).andThen fun s w=> .ok (.string s) w) ?_ ?_
 ·rfl
 ·rw[this];simp[strOf,ByteArray.empty,ByteArray.emptyWithCapacity];rfl
theorem toStrA_post {src dst:TypeId} {x:V1} {ob:List Prop} {v:AV} {mem':List Blk} (h:toStrA P mem src dst x=some (ob,v,mem')) (hm:MRel w0 φ mem w):
  OpPost w0 φ mem ((do pure (.value (←convert src dst (x.conc φ))):Sem Next).run P w) v mem':=by
 unfold toStrA at h
 split at h
 ·rename_i e hs hd
  split at h
  ·rename_i he
   refine one_post h hm ?_ rfl
   simp[convert,underlying_run hs,underlying_run hd,V1.conc,Atom.conc,underlying_run he,Conv.bytesToString]
  ·rename_i he hx
   split at h
   ·rename_i b off n hown
    split at h
    ·rename_i k hk
     split at h
     ·rename_i ps hlv hc
      split at h
      ·rename_i l hl
       refine one_post h hm ?_ rfl
       obtain ⟨cp,hcv⟩:=ownSl_conc (φ:=φ) hown
       have hload:=loadCells_run (P:=P) hm hk hlv hc
       rw[bytesP_spec ps hl] at hload
       simp[convert,underlying_run hs,underlying_run hd,hcv,underlying_run he,bytesToString_run hload,Atom.conc]
      ·simp at h
     ·simp at h
    ·simp at h
   ·simp at h
  ·simp at h
 ·simp at h
end
section
variable {P:Program} {w0:Base} {w:World} {φ:Loc} {mem:List Blk}
theorem MRel.kill (h:MRel w0 φ mem w) {b:Nat} {k:Blk} (hk:mem[b]? =some k):MRel w0 φ (mem.set b {k with live:=false}) w:=by
 have hbl:=lt_of_getElem? hk
 have split:∀(i:Nat) (x:Blk),(mem.set b {k with live:=false})[i]? =some x→(x.live=false∧x.ps=k.ps∧i=b)∨(i≠b∧mem[i]? =some x):=by
  intro i x hx
  by_cases h1:i=b
  ·subst h1
   rw[List.getElem?_set_self hbl] at hx
   simp only[Option.some.injEq] at hx
   subst hx
   exact .inl ⟨rfl,rfl,rfl⟩
  ·rw[List.getElem?_set_ne (by omega)] at hx
   exact .inr ⟨h1,hx⟩
 have live:∀(i:Nat) (x:Blk),(mem.set b {k with live:=false})[i]? =some x→x.live=true→mem[i]? =some x:=by
  intro i x hx hl
  rcases split i x hx with ⟨h1,_⟩|⟨_,h1⟩
  ·rw[h1] at hl;cases hl
  ·exact h1
 refine ⟨h.below,?_,?_,?_,?_,?_⟩
 ·intro i j x x' hx hx' hl hl';exact h.inj i j x x' (live i x hx hl) (live j x' hx' hl') hl hl'
 ·intro i x hx hl;exact h.own i x (live i x hx hl) hl
 ·intro i x hx hl;exact h.old i x (live i x hx hl) hl
 ·intro i x hx hl;exact h.blk i x (live i x hx hl) hl
 ·intro i x hx
  simp only[List.length_set]
  rcases split i x hx with ⟨_,h2,_⟩|⟨_,h1⟩
  ·rw[h2];exact h.wf b k hk
  ·exact h.wf i x h1
theorem MRel.join (h:MRel w0 φ mem w) {w':World} (hb:KB w0 w') (g cap:Nat) (hg:¬w0.K g)
  (hfree:∀(i:Nat) (b:Blk),mem[i]? =some b→b.live=true→b.ro=false→(φ i).1≠g) (hsame:∀k,k≠g→k<w.heap.size→w'.heap[k]? =w.heap[k]?)
  (k:Blk) (hkl:k.live=true) (hkr:k.ro=false) (hp:allPtr (ltB mem.length) k.ps=true) (hnew:Holds w' (g,0,cap) (concs φ k.ps) k):
  ∃φ':Loc,Agree mem.length φ φ'∧φ' mem.length=(g,0,cap)∧MRel w0 φ' (mem++[k]) w':=by
 have hag:Agree mem.length φ (fun b=>if b=mem.length then (g,0,cap) else φ b):=fun b hb=>by simp;omega
 refine ⟨fun b=>if b=mem.length then (g,0,cap) else φ b,hag,by simp,?_⟩
 have h':=h.agree hag
 have split:∀(i:Nat) (b:Blk),(mem++[k])[i]? =some b→(i=mem.length∧b=k)∨(i<mem.length∧mem[i]? =some b):=by
  intro i b hb
  have hi:=lt_of_getElem? hb
  simp only[List.length_append,List.length_cons,List.length_nil] at hi
  by_cases h1:i=mem.length
  ·subst h1;simp at hb;exact .inl ⟨rfl,hb.symm⟩
  ·have h2:i<mem.length:=by omega
   rw[List.getElem?_append_left h2] at hb
   exact .inr ⟨h2,hb⟩
 constructor
 ·exact hb
 ·intro i j b b' hb hb' hl hl' hr hr' e
  rcases split i b hb with ⟨h1,rfl⟩|⟨h1,hb1⟩<;>rcases split j b' hb' with ⟨h2,rfl⟩|⟨h2,hb2⟩
  ·omega
  ·have:=hfree j b' hb2 hl' hr'
   simp only[h1,if_true,show ¬j=mem.length by omega,if_false] at e
   exact absurd e.symm this
  ·have:=hfree i b hb1 hl hr
   simp only[h2,if_true,show ¬i=mem.length by omega,if_false] at e
   exact absurd e this
  ·exact h'.inj i j b b' hb1 hb2 hl hl' hr hr' e
 ·intro i b hb hl hr
  rcases split i b hb with ⟨h1,rfl⟩|⟨h1,hb1⟩
  ·simp only[h1,if_true];exact ⟨hg,trivial⟩
  ·exact h'.own i b hb1 hl hr
 ·intro i b hb hl hr
  rcases split i b hb with ⟨h1,rfl⟩|⟨h1,hb1⟩
  ·rw[hkr] at hr;cases hr
  ·exact h'.old i b hb1 hl hr
 ·intro i b hb hl hr
  rcases split i b hb with ⟨h1,rfl⟩|⟨h1,hb1⟩
  ·simp only[h1,if_true]
   rw[concs_agree hag _ hp]
   exact hnew
  ·have h3:=h'.blk i b hb1 hl hr
   have h4:=h'.lt hb1 hl
   have h5:=hfree i b hb1 hl hr
   unfold Holds at h3 ⊢
   simp only[show ¬i=mem.length by omega,if_false] at h3 h4 ⊢
   rw[hsame _ h5 h4]
   exact h3
 ·intro i b hb
  simp only[List.length_append,List.length_cons,List.length_nil]
  rcases split i b hb with ⟨h1,rfl⟩|⟨h1,hb1⟩
  ·exact allPtr_mono (by omega) _ hp
  ·exact allPtr_mono (by omega) _ (h.wf i b hb1)
theorem bytePs_conc (s:ByteArray):concs φ (bytePs s)=s.data.toList.map fun b=> .int .u8 (b.toNat:Int):=by
 unfold bytePs
 generalize s.data.toList=l
 induction l with
 |nil=>rfl
 |cons b l ih=>simp only[List.map_cons,concs,Piece.conc,Atom.conc,ih];rfl
theorem bytePs_ptr (f:Nat→Bool) (s:ByteArray):allPtr f (bytePs s)=true:=by
 unfold bytePs
 generalize s.data.toList=l
 induction l with
 |nil=>rfl
 |cons b l ih=>simp only[List.map_cons,allPtr,ih]
theorem toBytesA_post {src dst:TypeId} {x:V1} {ob:List Prop} {v:AV} {mem':List Blk} (h:toBytesA P mem src dst x=some (ob,v,mem')) (hm:MRel w0 φ mem w):
  OpPost w0 φ mem ((do pure (.value (←convert src dst (x.conc φ))):Sem Next).run P w) v mem':=by
 unfold toBytesA at h
 split at h
 ·rename_i e s hs hd
  split at h
  ·rename_i he
   simp only[Option.some.injEq,Prod.mk.injEq] at h
   obtain ⟨rfl,rfl,rfl⟩:=h
   have hrun:=run_bytes_of_string (P:=P) w src dst e s hs hd he
   have hge:=grownCap_ge w s.size 0 e
   generalize grownCap w s.size 0 e=cap at hrun hge
   have hcs:bytesRow s cap=(concs φ (bytePs s)++List.replicate (cap-s.size) (Value.int .u8 0)).toArray:=by
    apply Array.ext'
    simp[bytesRow,bytePs_conc]
   obtain ⟨φ',ha,hs',hm'⟩:=hm.join (w':=w.drew.alloc (.cells (bytesRow s cap) e ((bytesRow s cap).size,(bytesRow s cap).size+1)))
    ((hm.below.drew).alloc _) w.heap.size cap hm.below.new (fun i b hb hl hr=>by have:=hm.lt hb hl;omega)
    (fun k hk hlt=>by simp only[World.alloc,World.drew];rw[Array.getElem?_push,if_neg (by omega)])
    ⟨bytePs s,e,true,false,0⟩ rfl rfl (bytePs_ptr _ s)
    ⟨List.replicate (cap-s.size) (Value.int .u8 0),(bytesRow s cap).size,(bytesRow s cap).size+1,by
     simp only[World.alloc,World.drew]
     rw[Array.getElem?_push_size,hcs],fun j hj=>by rw[hcs];simp at hj ⊢;omega,fun h=>by simp at h⟩
   refine ⟨φ',_,.inl ?_,ha,by simp,hm',by simp[AV.wf,V1.wf,Nat.blt]⟩
   simp[V1.conc,Atom.conc,hrun,AV.conc,hs']
  ·simp at h
 ·simp at h
theorem sliceSlA_post {s:Bool} {t:TypeId} {x:V1} {lo hi:Option V1} {ob:List Prop} {v:AV} {mem':List Blk} (h:sliceSlA P mem s t x lo hi=some (ob,v,mem')) (hm:MRel w0 φ mem w) (ho:All ob):
  OpPost w0 φ mem ((do pure (.value (←Instr.sliceAt t (x.conc φ) (lo.map (V1.conc φ)) (hi.map (V1.conc φ)) none)):Sem Next).run P w) v mem':=by
 unfold sliceSlA at h
 split at h
 ·rename_i y hu
  split at h
  ·rename_i o1 hz hb1
   split at h
   ·rename_i o2 lz hb2
    have ho':=ho
    rw[good_obs h,All_append] at ho'
    refine good_post h hm (fun _=> ?_) ho
    have hbs:(Instr.sliceBounds false y.size y.size (lo.map (V1.conc φ)) (hi.map (V1.conc φ)) none).run P w= .ok (lz,hz,y.size) w:=by
     rcases boundA_run (φ:=φ) (P:=P) hb1 ho'.1 with ⟨rfl,rfl⟩|⟨vh,rfl,h1⟩<;>rcases boundA_run (φ:=φ) (P:=P) hb2 ho'.2 with ⟨rfl,rfl⟩|⟨vl,rfl,h2⟩<;>
      simp[Instr.sliceBounds, *]
    simp[Instr.sliceAt,Instr.slice,underlying_run hu,V1.conc,Atom.conc,hbs]
   ·simp at h
  ·simp at h
 ·rename_i e b off n c hu
  split at h
  ·rename_i o1 hz sz hb1 hn
   split at h
   ·rename_i o2 lz hb2
    have hbs:All (o1++o2)→(Instr.sliceBounds true n c (lo.map (V1.conc φ)) (hi.map (V1.conc φ)) none).run P w= .ok (lz,hz,c) w:=by
     intro ho'
     rw[All_append] at ho'
     rcases boundA_run (φ:=φ) (P:=P) hb1 ho'.1 with ⟨rfl,rfl⟩|⟨vh,rfl,h1⟩<;>rcases boundA_run (φ:=φ) (P:=P) hb2 ho'.2 with ⟨rfl,rfl⟩|⟨vl,rfl,h2⟩<;>
      simp[Instr.sliceBounds, *]
    split at h
    ·rename_i hl0
     obtain rfl:lz=0:=Nat.eq_of_beq_eq_true hl0
     have ho':=ho
     rw[good_obs h] at ho'
     refine good_post h hm (fun _=> ?_) ho
     have h0:∀(b x:Nat),(⟨b,x,none⟩:Addr).add 0=⟨b,x,none⟩:=fun b x=>add_own0 b x 0
     simp[Instr.sliceAt,Instr.slice,underlying_run hu,V1.conc,Atom.conc,hbs ho',sizeA_run hn,h0]
    ·split at h
     ·rename_i hne
      have ho':=ho
      rw[good_obs h] at ho'
      refine good_post h hm (fun _=> ?_) ho
      have hne':c≠lz:=fun e=>by subst e;simp at hne
      simp[Instr.sliceAt,Instr.slice,underlying_run hu,V1.conc,Atom.conc,hbs ho',sizeA_run hn,hne',add_own]
     ·rename_i hne
      have ho':=ho
      rw[good_obs h] at ho'
      refine good_post h hm (fun _=> ?_) ho
      have hne':c=lz:=Nat.eq_of_beq_eq_true hne
      subst hne'
      have hb:=hbs ho'
      simp[Instr.sliceAt,Instr.slice,underlying_run hu,V1.conc,Atom.conc,hb,sizeA_run hn]
   ·simp at h
  ·simp at h
 ·rename_i e hu
  split at h
  ·rename_i o1 hz sz hb1 hn
   split at h
   ·rename_i o2 lz hb2
    split at h
    ·rename_i hl0 hh0
     obtain rfl:lz=0:=Nat.eq_of_beq_eq_true hl0
     obtain rfl:hz=0:=Nat.eq_of_beq_eq_true hh0
     have ho':=ho
     rw[good_obs h,All_append] at ho'
     refine good_post h hm (fun _=> ?_) ho
     have hbs:(Instr.sliceBounds true 0 0 (lo.map (V1.conc φ)) (hi.map (V1.conc φ)) none).run P w= .ok (0,0,0) w:=by
      rcases boundA_run (φ:=φ) (P:=P) hb1 ho'.1 with ⟨rfl,hx1⟩|⟨vh,rfl,h1⟩<;>rcases boundA_run (φ:=φ) (P:=P) hb2 ho'.2 with ⟨rfl,hx2⟩|⟨vl,rfl,h2⟩<;>
       simp[Instr.sliceBounds, *]
     simp[Instr.sliceAt,Instr.slice,underlying_run hu,V1.conc,Atom.conc,hbs,sizeA_run hn]
    ·simp at h
   ·simp at h
  ·simp at h
 ·simp at h
theorem indexStrA_post {s:Bool} {t:TypeId} {x i:V1} {ob:List Prop} {v:AV} {mem':List Blk} (h:indexStrA P mem s t x i=some (ob,v,mem')) (hm:MRel w0 φ mem w) (ho:All ob):
  OpPost w0 φ mem ((do pure (.value (←Instr.index t (x.conc φ) (i.conc φ))):Sem Next).run P w) v mem':=by
 unfold indexStrA at h
 split at h
 ·rename_i y z hu
  split at h
  ·rename_i ob' hmu
   refine good_post h hm (fun ho=> ?_) ho
   rw[good_obs h] at ho
   obtain ⟨h1,h2⟩:=must_spec hmu ho
   have hlt:z.toNat<y.size:=by omega
   have hget:y[z.toNat]? =some (y.data.getD z.toNat 0):=by
    have hlt':z.toNat<y.data.size:=hlt
    rw[getElem?_pos y z.toNat hlt]
    simp only[Option.some.injEq]
    simp only[Array.getD,hlt',dif_pos]
    rfl
   simp[Instr.index,asIntOf,V1.conc,Atom.conc,underlying_run hu,h1,hget]
  ·simp at h
 ·rename_i y kk z hu
  split at h
  ·rename_i ob' hmu
   refine good_post h hm (fun ho=> ?_) ho
   rw[good_obs h] at ho
   have h2:=must_spec hmu ho
   have hget:y[z]? =some (y.data.getD z 0):=by
    have hlt':z<y.data.size:=h2
    rw[getElem?_pos y z h2]
    simp only[Option.some.injEq]
    simp only[Array.getD,hlt',dif_pos]
    rfl
   simp[Instr.index,asIntOf,V1.conc,Atom.conc,underlying_run hu,hget]
  ·simp at h
 ·simp at h
theorem cellsOk_spec:∀(ps:List Piece),cellsOk ps=true→∀v∈concs φ ps,v.oneCell'=true:=by
 intro ps
 fun_induction cellsOk ps<;>intro this
 ·intro v hv;simp[concs] at hv
 ·rename_i x ps ih
  simp only[Bool.and_eq_true] at this
  intro v hv
  simp only[concs,Piece.conc,Atom.conc,List.cons_append,List.nil_append,List.mem_cons] at hv
  rcases hv with rfl|hv
  ·exact this.1
  ·exact ih this.2 v hv
 ·rename_i p ps h0 ih
  intro v hv
  simp only[concs,List.mem_append] at hv
  rcases hv with hv|hv
  ·cases p with
   |a x=>cases x<;>first|exact absurd rfl (h0 _)|(simp only[Piece.conc,Atom.conc,List.mem_singleton] at hv;subst hv;rfl)
   |num k n=>exact limbs_one k n v hv
   |arr k l=>
    simp only[Piece.conc,List.mem_map] at hv
    obtain ⟨_,_,rfl⟩:=hv;rfl
  ·exact ih this v hv
theorem run_storeCells_free (P:Program) (g o:Nat) (t:TypeId) (fz:Nat×Nat) (top:Nat) (hz:fz.2≤fz.1∨top≤fz.1):∀(vs:List Value) (i:Nat) (cur:Array Value) (w:World),w.heap[g]? =some (.cells cur t fz)→cur.size=top→o+i+vs.length≤cur.size→(∀v∈vs,v.oneCell'=true)→
  (storeCells ⟨g,o,none⟩ vs i).run P w= .ok () (w.setRow g (cur.toList.take (o+i)++vs++cur.toList.drop (o+i+vs.length)).toArray)
 |[],i,cur,w,hg,_,_,_=>by
  simp only[storeCells,List.append_nil,List.length_nil,Nat.add_zero,List.take_append_drop,Array.toArray_toList]
  rw[setRow_self w g cur t fz hg]
  rfl
 |v::rest,i,cur,w,hg,htp,hl,h1=>by
  have hi:o+i<cur.size:=by simp at hl;omega
  have hadd:(⟨g,o,none⟩:Addr).add i=⟨g,o+i,none⟩:=by unfold Addr.add;split<;>simp_all
  have hcell:w.cell? ⟨g,o+i,none⟩=some cur[o+i]:=by simp[World.cell?,hg,hi]
  have hfro:w.frozen? ⟨g,o+i,none⟩=false:=by
   obtain ⟨lo,hi'⟩:=fz
   simp only[World.frozen?,hg,Bool.and_eq_false_iff,decide_eq_false_iff_not]
   simp only at hz
   omega
  have hst:(store ((⟨g,o,none⟩:Addr).add i) v).run P w= .ok () (w.setRow g (cur.setIfInBounds (o+i) v)):=by
   rw[hadd,run_store P w _ v _ (h1 v (by simp)),hcell]
   simp[hfro,setCell_eq_setRow w g (o+i) cur t fz v hg]
  have ih:=run_storeCells_free P g o t fz top hz rest (i+1) (cur.setIfInBounds (o+i) v) (w.setRow g (cur.setIfInBounds (o+i) v)) (setRow_heap w g cur _ t _ hg) (by simpa using htp) (by simp at hl ⊢;omega) (fun x hx=>h1 x (by simp[hx]))
  simp only[storeCells,Sem.run_bind,hst,Result.andThen_ok,ih,setRow_setRow]
  congr 3
  have e:=list_seg_step cur.toList (o+i) v rest (by simp at hl ⊢;omega)
  simpa[Array.toList_setIfInBounds,Nat.add_assoc] using e
theorem run_append_free (w:World) (t ty e:TypeId) (i:TypeInfo) (ht:P.underlying t=some (.slice e)) (hi:P.info? e=some i)
  (g sLen sCap:Nat) (cur:Array Value) (fz:Nat×Nat) (hg:w.heap[g]? =some (.cells cur e fz)) (hfz:fz.2≤fz.1∨cur.size≤fz.1)
  (a:Addr) (m c:Nat) (news:List Value) (hl:news.length=m*i.size) (hnews:∀j u,news[j]? =some u→w.cell? (a.add j)=some u) (h1:∀u∈news,u.oneCell'=true)
  (hroom:sLen+m≤sCap) (hfit:sLen*i.size+news.length≤cur.size):
  (Builtin.append_ #[t,t] ty #[.slice (some ⟨g,0,none⟩) sLen sCap,.slice (some a) m c]).run P w=
   .ok (.slice (some ⟨g,0,none⟩) (sLen+m) sCap) (w.setRow g (cur.toList.take (sLen*i.size)++news++cur.toList.drop (sLen*i.size+news.length)).toArray):=by
 have hf:=run_firstCells_some (P:=P) w i.size m a m c news hl hnews
 have hst:=run_storeCells_free P g (sLen*i.size) e fz cur.size hfz news 0 cur w hg rfl (by simpa using hfit) h1
 simp only[Nat.add_zero] at hst
 simp[Builtin.append_,run_underlying ht,sizeOf,typeInfo,hi,Builtin.lenOf,hroom,hf,Addr.add_lit,hst]
theorem append_gen {A:Value→Sem Value} {t e:TypeId} {i:TypeInfo} {z:List Piece} {b1 n m:Nat} {k1:Blk} {news:List Value} {out:List Piece} (_:P.underlying t=some (.slice e)) (hi:P.info? e=some i) (hz:zeroA P e=some z)
  (hk1:mem[b1]? =some k1) (hl1:k1.live=true) (hr1:k1.ro=false) (hesz:k1.esz=i.size) (hel:k1.elem=e) (hlen1:sizes k1.ps=n*i.size)
  (hc3:news.length=m*i.size)
  (hR:∀(g n cap:Nat) (cur:Array Value) (fz:Nat×Nat),w.heap[g]? =some (.cells cur e fz)→(fz.2≤fz.1∨cur.size≤fz.1)→n+m≤cap→n*i.size+news.length≤cur.size→
   (A (.slice (some ⟨g,0,none⟩) n cap)).run P w= .ok (.slice (some ⟨g,0,none⟩) (n+m) cap) (w.setRow g (cur.toList.take (n*i.size)++news++cur.toList.drop (n*i.size+news.length)).toArray))
  (hG:∀(zv:Value) (a:Addr) (n cap:Nat) (olds:List Value),i.zero=some zv→olds.length=n*i.size→(∀j u,olds[j]? =some u→w.cell? (a.add j)=some u)→cap<n+m→n+m≤140737488355328→(n+m)*i.bytes≤140737488355328→
   (A (.slice (some a) n cap)).run P w= .ok (.slice (some ⟨w.heap.size,0,none⟩) (n+m) (grownCap w (n+m) cap e)) (w.drew.alloc (.cells (olds.toArray++news.toArray++Builtin.zeroCells zv.cells (grownCap w (n+m) cap e-(n+m))) e)))
  (hsz:sizes z=i.size) (hpos:0<i.size) (hby:(n+m)*i.bytes≤140737488355328) (hnm:n+m≤140737488355328)
  (hptr:allPtr (ltB mem.length) out=true) (hout:concs φ out=concs φ k1.ps++news) (hm:MRel w0 φ mem w):
  OpPost w0 φ mem ((do pure (.value (←A ((V1.one (.sx b1 n)).conc φ))):Sem Next).run P w) (.val (.one (.sx mem.length (n+m)))) (mem.set b1 {k1 with live:=false}++[⟨out,e,true,false,i.size⟩]):=by
 obtain ⟨zv,hzr,hzc⟩:=zeroA_run (φ:=φ) hz w
 have hzs:∃zv,i.zero=some zv∧zv.cells.size=i.size:=by
  simp only[zeroValue,typeInfo,Sem.run_bind,run_program,Result.andThen_ok,hi,Sem.run_pure] at hzr
  cases hzz:i.zero with
  |none=>rw[hzz] at hzr;simp at hzr
  |some zv'=>
   rw[hzz] at hzr
   simp at hzr
   subst hzr
   refine ⟨_,rfl,?_⟩
   rw[hzc]
   simp[concs_length,hsz]
 obtain ⟨zv',hz1,hz2⟩:=hzs
 obtain ⟨tail,lo,hi',hheap,hfr,hes⟩:=hm.blk b1 k1 hk1 hl1 hr1
 obtain ⟨hfz,htot,hcm⟩:=hes (by omega)
 have hoff:=(hm.own b1 k1 hk1 hl1 hr1).2
 have hbase:=(hm.own b1 k1 hk1 hl1 hr1).1
 have hcl:(concs φ k1.ps).length=n*i.size:=by rw[concs_length];exact hlen1
 have hncap:n≤(φ b1).2.2:=by
  have:n*i.size≤(φ b1).2.2*i.size:=by rw[←hcl,←hesz,←htot];simp
  exact Nat.le_of_mul_le_mul_right this hpos
 rw[hel] at hheap
 have hkill:=hm.kill hk1
 have hfree:∀(g:Nat),(g=(φ b1).1∨w.heap.size≤g)→∀(j:Nat) (x:Blk),(mem.set b1 {k1 with live:=false})[j]? =some x→x.live=true→x.ro=false→(φ j).1≠g:=by
  intro g hg j x hx hxl hxr e
  by_cases hj:j=b1
  ·subst hj
   rw[List.getElem?_set_self (lt_of_getElem? hk1)] at hx
   simp only[Option.some.injEq] at hx
   subst hx;cases hxl
  ·rw[List.getElem?_set_ne (by omega)] at hx
   rcases hg with hg|hg
   ·exact hj (hm.inj j b1 x k1 hx hk1 hxl hl1 hxr hr1 (by rw[e,hg]))
   ·have:=hm.lt hx hxl;omega
 have hptr':allPtr (ltB (mem.set b1 {k1 with live:=false}).length) out=true:=by simpa using hptr
 by_cases hroom:n+m≤(φ b1).2.2
 ·have hrun:=hR (φ b1).1 n (φ b1).2.2 _ (lo,hi') hheap (by rcases hfz with h|h;exact .inl (Nat.le_of_eq h);exact .inr (by simp only[List.size_toArray,htot];exact h)) hroom
   (by rw[hc3,←Nat.add_mul];simp only[List.size_toArray,htot,hesz];exact Nat.mul_le_mul_right _ hroom)
  obtain ⟨φ',ha,hs',hm'⟩:=hkill.join (w':=w.setRow (φ b1).1 ((concs φ k1.ps++tail).toArray.toList.take (n*i.size)++news++(concs φ k1.ps++tail).toArray.toList.drop (n*i.size+news.length)).toArray)
   (hm.below.put rfl rfl rfl (by simp) fun j hj=>setRow_other w _ _ _ (fun e=>hbase (by rw[←e];exact hj))) (φ b1).1 (φ b1).2.2 hbase (hfree _ (.inl rfl))
   (fun j hj _=>setRow_other w _ _ _ hj) ⟨out,e,true,false,i.size⟩ rfl rfl hptr'
   ⟨tail.drop (m*i.size),lo,hi',by
    rw[setRow_heap w _ _ _ e _ hheap]
    congr 3
    rw[List.take_append_of_le_length (by omega),List.take_of_length_le (by omega),hout,List.append_assoc,List.append_assoc]
    congr 2
    rw[List.drop_append,List.drop_of_length_le (by omega),List.nil_append,hcl,hc3]
    congr 1;omega,fun j hj=>by
     have ht:tail.length=(φ b1).2.2*i.size-n*i.size:=by
      have:=htot
      rw[List.length_append,hcl,hesz] at this;omega
     have hle2:(n+m)*i.size≤(φ b1).2.2*i.size:=Nat.mul_le_mul_right _ hroom
     rw[hout,List.length_append,hcl,hc3,←Nat.add_mul] at hj
     rw[hesz] at hfz
     omega,fun _=>⟨by show hi'=lo∨(φ b1).2.2*i.size≤lo;rw[hesz] at hfz;exact hfz,by
     have ht:tail.length=(φ b1).2.2*i.size-n*i.size:=by
      have:=htot
      rw[List.length_append,hcl,hesz] at this;omega
     have hle2:(n+m)*i.size≤(φ b1).2.2*i.size:=Nat.mul_le_mul_right _ hroom
     rw[Nat.add_mul] at hle2
     simp only[hout,List.length_append,hcl,hc3,List.length_drop,ht];omega,hcm⟩⟩
  refine ⟨φ',_,.inl ?_,?_,by simp,hm',by simp[AV.wf,V1.wf,Nat.blt]⟩
  ·simp only[V1.conc,Atom.conc,hoff,Nat.zero_add,Sem.run_bind] at hrun ⊢
   rw[hrun]
   simp only[Result.andThen_ok,Sem.run_pure,AV.conc,V1.conc,Atom.conc]
   simp only[List.length_set] at hs'
   rw[hs']
  ·simpa using ha
 ·have holds:∀j u,(concs φ k1.ps)[j]? =some u→w.cell? ((⟨(φ b1).1,0,none⟩:Addr).add j)=some u:=by
   intro j u hj
   have:=hm.cell hk1 hl1 hj
   rw[hoff] at this
   rw[add_own0];exact this
  have hrun:=hG zv' ⟨(φ b1).1,0,none⟩ n (φ b1).2.2 (concs φ k1.ps) hz1 hcl holds (by omega) hnm hby
  have hge:=grownCap_ge w (n+m) (φ b1).2.2 e
  have hle:=grownCap_le_maxLen w (n+m) (φ b1).2.2 e (by simp only[maxLen];omega)
  generalize grownCap w (n+m) (φ b1).2.2 e=cap at hrun hge hle
  obtain ⟨φ',ha,hs',hm'⟩:=hkill.join (w':=w.drew.alloc (.cells ((concs φ k1.ps).toArray++news.toArray++Builtin.zeroCells zv'.cells (cap-(n+m))) e))
   ((hm.below.drew).alloc _) w.heap.size cap hm.below.new (hfree _ (.inr (Nat.le_refl _)))
   (fun k hk hlt=>by simp only[World.alloc,World.drew];rw[Array.getElem?_push,if_neg (by omega)])
   ⟨out,e,true,false,i.size⟩ rfl rfl hptr'
   ⟨(Builtin.zeroCells zv'.cells (cap-(n+m))).toList,0,0,by
    simp only[World.alloc,World.drew]
    rw[Array.getElem?_push_size]
    congr 2
    apply Array.ext'
    simp[hout],fun j hj=>by omega,fun _=>⟨.inl rfl,by
     simp only[hout,List.length_append,hcl,hc3,Array.length_toList,size_zeroCells,hz2,←Nat.add_mul]
     congr 1;omega,hle⟩⟩
  refine ⟨φ',_,.inl ?_,?_,by simp,hm',by simp[AV.wf,V1.wf,Nat.blt]⟩
  ·simp only[V1.conc,Atom.conc,hoff,Nat.zero_add,Sem.run_bind] at hrun ⊢
   rw[hrun]
   simp only[Result.andThen_ok,Sem.run_pure,AV.conc,V1.conc,Atom.conc]
   simp only[List.length_set] at hs'
   rw[hs']
  ·simpa using ha
theorem append_nil {A:Value→Sem Value} {e:TypeId} {i:TypeInfo} {z:List Piece} {m:Nat} {news:List Value} {out:List Piece} (hi:P.info? e=some i) (hz:zeroA P e=some z)
  (hc3:news.length=m*i.size)
  (hG:∀(zv:Value),i.zero=some zv→(A (.slice none 0 0)).run P w= .ok (.slice (some ⟨w.heap.size,0,none⟩) m (grownCap w m 0 e)) (w.drew.alloc (.cells (news.toArray++Builtin.zeroCells zv.cells (grownCap w m 0 e-m)) e)))
  (hsz:sizes z=i.size) (hnm:m≤140737488355328) (hptr:allPtr (ltB mem.length) out=true) (hout:concs φ out=news) (hm:MRel w0 φ mem w):
  OpPost w0 φ mem ((do pure (.value (←A (.slice none 0 0))):Sem Next).run P w) (.val (.one (.sx mem.length m))) (mem++[⟨out,e,true,false,i.size⟩]):=by
 obtain ⟨zv,hzr,hzc⟩:=zeroA_run (φ:=φ) hz w
 have hzs:∃zv,i.zero=some zv∧zv.cells.size=i.size:=by
  simp only[zeroValue,typeInfo,Sem.run_bind,run_program,Result.andThen_ok,hi,Sem.run_pure] at hzr
  cases hzz:i.zero with
  |none=>rw[hzz] at hzr;simp at hzr
  |some zv'=>
   rw[hzz] at hzr
   simp at hzr
   subst hzr
   refine ⟨_,rfl,?_⟩
   rw[hzc]
   simp[concs_length,hsz]
 obtain ⟨zv',hz1,hz2⟩:=hzs
 have hrun:=hG zv' hz1
 have hge:=grownCap_ge w m 0 e
 have hle:=grownCap_le_maxLen w m 0 e (by simp only[maxLen];omega)
 generalize grownCap w m 0 e=cap at hrun hge hle
 obtain ⟨φ',ha,hs',hm'⟩:=hm.join (w':=w.drew.alloc (.cells (news.toArray++Builtin.zeroCells zv'.cells (cap-m)) e))
  ((hm.below.drew).alloc _) w.heap.size cap hm.below.new (fun i b hb hl hr=>by have:=hm.lt hb hl;omega)
  (fun k hk hlt=>by simp only[World.alloc,World.drew];rw[Array.getElem?_push,if_neg (by omega)])
  ⟨out,e,true,false,i.size⟩ rfl rfl hptr
  ⟨(Builtin.zeroCells zv'.cells (cap-m)).toList,0,0,by
   simp only[World.alloc,World.drew]
   rw[Array.getElem?_push_size]
   congr 2
   apply Array.ext'
   simp[hout],fun j hj=>by omega,fun _=>⟨.inl rfl,by
    simp only[hout,List.length_append,hc3,Array.length_toList,size_zeroCells,hz2,←Nat.add_mul]
    congr 1;omega,hle⟩⟩
 refine ⟨φ',_,.inl ?_,ha,by simp,hm',by simp[AV.wf,V1.wf,Nat.blt]⟩
 simp only[Sem.run_bind,hrun,Result.andThen_ok,Sem.run_pure,AV.conc,V1.conc,Atom.conc,hs',Nat.zero_add]
theorem append_own {t ty e:TypeId} {i:TypeInfo} {z:List Piece} {y:V1} {b1 n b off m:Nat} {k1 k:Blk} {news out:List Piece} (hu:P.underlying t=some (.slice e)) (hi:P.info? e=some i) (hz:zeroA P e=some z)
  (hk1:mem[b1]? =some k1) (hl1:k1.live=true) (hr1:k1.ro=false) (hesz:k1.esz=i.size) (hel:k1.elem=e) (hlen1:sizes k1.ps=n*i.size)
  (hown:ownSl y=some (b,off,m)) (hk:mem[b]? =some k) (hlv:k.live=true)
  (hc1:concs φ news=((concs φ k.ps).drop off).take (m*i.size)) (hc3:(concs φ news).length=m*i.size)
  (hcells:∀v∈concs φ news,v.oneCell'=true) (hsz:sizes z=i.size) (hpos:0<i.size) (hby:(n+m)*i.bytes≤140737488355328) (hnm:n+m≤140737488355328) (_:0<m)
  (hptr:allPtr (ltB mem.length) out=true) (hout:concs φ out=concs φ k1.ps++concs φ news) (hm:MRel w0 φ mem w):
  OpPost w0 φ mem ((do pure (.value (←Builtin.append_ #[t,t] ty #[(V1.one (.sx b1 n)).conc φ,y.conc φ])):Sem Next).run P w) (.val (.one (.sx mem.length (n+m)))) (mem.set b1 {k1 with live:=false}++[⟨out,e,true,false,i.size⟩]):=by
 obtain ⟨cy,hy⟩:=ownSl_conc (φ:=φ) hown
 have hnews:∀j u,(concs φ news)[j]? =some u→w.cell? ((⟨(φ b).1,(φ b).2.1+off,none⟩:Addr).add j)=some u:=by
  intro j u hj
  rw[add_own]
  refine hm.cell hk hlv ?_
  have hjl:=lt_of_getElem? hj
  rw[hc1,List.getElem?_take_of_lt (by omega),List.getElem?_drop] at hj
  exact hj
 have:=append_gen (A:=fun s=>Builtin.append_ #[t,t] ty #[s,y.conc φ]) (t:=t) (news:=concs φ news) hu hi hz hk1 hl1 hr1 hesz hel hlen1 hc3
  (fun g n cap cur fz h1 h2 h3 h4=>by rw[hy];exact run_append_free (P:=P) w t ty e i hu hi g n cap cur fz h1 h2 ⟨(φ b).1,(φ b).2.1+off,none⟩ m cy (concs φ news) hc3 hnews hcells h3 h4)
  (fun zv a n cap olds h1 h2 h3 h4 h5 h6=>by rw[hy];exact run_append_grow (P:=P) w t ty e i zv hu hi h1 a n cap olds h2 h3 ⟨(φ b).1,(φ b).2.1+off,none⟩ m cy (concs φ news) hc3 hnews (by omega) (by omega) (growslice_fits (by omega) h6))
  hsz hpos hby hnm hptr hout hm
 exact this
theorem zeroCells_eq {z:List Piece} {zv:Value} (hzc:zv.cells=(concs φ z).toArray) (hs:0<sizes z) (n:Nat):Builtin.zeroCells zv.cells n=(concs φ (repPs n z)).toArray:=by
 have hl:(concs φ z).length=sizes z:=concs_length φ z
 rw[←zeroRow (φ:=φ) hzc hs n]
 unfold Builtin.zeroCells
 rw[show zv.cells.size=sizes z by rw[hzc];simp[hl]]
theorem zero_one {z:List Piece} (h:∀v∈concs φ z,v.oneCell'=true) (n:Nat):∀v∈concs φ (repPs n z),v.oneCell'=true:=by
 intro v hv
 rw[concs_repPs] at hv
 obtain ⟨l,hl,hv⟩:=List.mem_flatten.1 hv
 rw[(List.mem_replicate.1 hl).2] at hv
 exact h v hv
theorem run_append_free_zeros (w:World) (t tn ty e:TypeId) (i:TypeInfo) (z:Value) (kn:IntKind) (ht:P.underlying t=some (.slice e)) (htn:P.underlying tn=some (.int kn)) (hi:P.info? e=some i) (hz:i.zero=some z)
  (g sLen sCap:Nat) (cur:Array Value) (fz:Nat×Nat) (hg:w.heap[g]? =some (.cells cur e fz)) (hfz:fz.2≤fz.1∨cur.size≤fz.1)
  (m:Nat) (hm0:0<m) (hpos:0<i.size) (hmb:m*i.bytes≤140737488355328) (hm63:m≤140737488355328) (news:List Value) (hn:Builtin.zeroCells z.cells m=news.toArray) (h1:∀u∈news,u.oneCell'=true)
  (hroom:sLen+m≤sCap) (hfit:sLen*i.size+news.length≤cur.size):
  (Builtin.append_ #[t,tn] ty #[.slice (some ⟨g,0,none⟩) sLen sCap,.int .i64 m]).run P w=
   .ok (.slice (some ⟨g,0,none⟩) (sLen+m) sCap) (w.setRow g (cur.toList.take (sLen*i.size)++news++cur.toList.drop (sLen*i.size+news.length)).toArray):=by
 have hst:=run_storeCells_free P g (sLen*i.size) e fz cur.size hfz news 0 cur w hg rfl (by simpa using hfit) h1
 simp only[Nat.add_zero] at hst
 have hw:IntKind.i64.wrap (m:Int)=m:=wrap64_inI ⟨by omega,by omega⟩
 have hne:¬(m*i.size=0):=by have:=Nat.mul_pos hm0 hpos;omega
 have h48:¬(281474976710656<(m:Int)*(i.bytes:Int)):=by omega
 have h0:¬((m:Int)<0):=by omega
 simp[Builtin.append_,run_underlying ht,run_underlying htn,sizeOf,typeInfo,zeroValue,hi,hz,asInt,asIntOf,hw,h0,h48,hne,hn,hroom,Addr.add_lit,hst]
theorem run_append_grow_zeros (w:World) (t tn ty e:TypeId) (i:TypeInfo) (z:Value) (kn:IntKind) (ht:P.underlying t=some (.slice e)) (htn:P.underlying tn=some (.int kn)) (hi:P.info? e=some i) (hz:i.zero=some z)
  (a:Addr) (sLen sCap:Nat) (olds:List Value) (hlo:olds.length=sLen*i.size) (holds:∀j v,olds[j]? =some v→w.cell? (a.add j)=some v)
  (m:Nat) (hm0:0<m) (hpos:0<i.size) (hmb:m*i.bytes≤140737488355328) (hm63:m≤140737488355328) (news:List Value) (hn:Builtin.zeroCells z.cells m=news.toArray)
  (hg:sCap<sLen+m) (h63:sLen+m≤140737488355328) (hfit:Builtin.nextslicecap (sLen+m) sCap*i.bytes≤281474976710656):
  (Builtin.append_ #[t,tn] ty #[.slice (some a) sLen sCap,.int .i64 m]).run P w=
   .ok (.slice (some ⟨w.heap.size,0,none⟩) (sLen+m) (grownCap w (sLen+m) sCap e)) (w.drew.alloc (.cells (olds.toArray++news.toArray++Builtin.zeroCells z.cells (grownCap w (sLen+m) sCap e-(sLen+m))) e)):=by
 have hfo:=run_firstCells_some (P:=P) w.drew i.size sLen a sLen sCap olds hlo (by simpa using holds)
 have hw:IntKind.i64.wrap (m:Int)=m:=wrap64_inI ⟨by omega,by omega⟩
 have hne:¬(m*i.size=0):=by have:=Nat.mul_pos hm0 hpos;omega
 have h48:¬(281474976710656<(m:Int)*(i.bytes:Int)):=by omega
 have h0:¬((m:Int)<0):=by omega
 have hnr:¬(sLen+m≤sCap):=by omega
 have h63':¬(9223372036854775807<((sLen:Int)+(m:Int))):=by omega
 have h48':¬(281474976710656<Builtin.nextslicecap (sLen+m) sCap*i.bytes):=by omega
 simp[Builtin.append_,run_underlying ht,run_underlying htn,sizeOf,typeInfo,zeroValue,hi,hz,asInt,asIntOf,hw,h0,h48,hne,hn,hnr,h63',h48',Question.forced,hfo,newRow,grownCap]
 congr 2
 apply Array.ext'
 simp[List.append_assoc]
theorem appendZ_post {t t' ty:TypeId} {x y:V1} {ob:List Prop} {v:AV} {mem':List Blk} (h:appendZ P mem t x y=some (ob,v,mem')) (hti:isInt P t'=true) (hm:MRel w0 φ mem w):
  OpPost w0 φ mem ((do pure (.value (←Builtin.append_ #[t,t'] ty #[x.conc φ,y.conc φ])):Sem Next).run P w) v mem':=by
 unfold isInt at hti
 split at hti
 case h_2=>cases hti
 rename_i kn htn
 unfold appendZ at h
 split at h
 ·rename_i e b n l hu
  split at h
  ·rename_i i z k hi hz hk
   split at h
   ·rename_i hc
    simp only[Option.some.injEq,Prod.mk.injEq] at h
    obtain ⟨rfl,rfl,rfl⟩:=h
    simp only[Bool.and_eq_true,Nat.beq_eq,Nat.blt_eq,decide_eq_true_eq,Bool.not_eq_true'] at hc
    obtain ⟨⟨⟨⟨c1,c2⟩,c3,c4⟩,⟨c5,c6⟩,c7,c0,c8⟩,c9,c10,c11⟩:=hc
    obtain ⟨m,rfl⟩:∃m:Nat,l=(m:Int):=⟨l.toNat,by omega⟩
    rw[Int.toNat_natCast] at*
    obtain ⟨zv,hzr,hzc⟩:=zeroA_run (φ:=φ) hz w
    have hzo:∀zv',i.zero=some zv'→zv'=zv:=by
     intro zv' hz'
     simp only[zeroValue,typeInfo,Sem.run_bind,run_program,Result.andThen_ok,hi,Sem.run_pure,hz'] at hzr
     simpa using hzr
    have hzn:Builtin.zeroCells zv.cells m=(concs φ (repPs m z)).toArray:=zeroCells_eq hzc (by omega) m
    have hmb:m*i.bytes≤140737488355328:=Nat.le_trans (Nat.mul_le_mul_right _ (Nat.le_add_left _ _)) c10
    have hlen:(concs φ (repPs m z)).length=m*i.size:=by
     rw[concs_repPs,List.length_flatten,List.map_replicate,concs_length,c7,List.sum_replicate_nat]
    have hz1:∃zv',i.zero=some zv':=by
     simp only[zeroValue,typeInfo,Sem.run_bind,run_program,Result.andThen_ok,hi,Sem.run_pure] at hzr
     cases hzz:i.zero with
     |none=>rw[hzz] at hzr;simp at hzr
     |some zv'=>exact ⟨_,rfl⟩
    obtain ⟨zv',hz2⟩:=hz1
    have hz3:=hzo zv' hz2
    subst hz3
    have hone:∀u∈concs φ (repPs m z),u.oneCell'=true:=zero_one (cellsOk_spec z c0) m
    have:=append_gen (A:=fun s=>Builtin.append_ #[t,t'] ty #[s,.int .i64 (m:Int)]) (t:=t) (news:=concs φ (repPs m z)) (out:=k.ps++repPs m z) hu hi hz hk c1 c2 c3 c5 c6 hlen
     (fun g n cap cur fz h1 h2 h3 h4=>run_append_free_zeros (P:=P) w t t' ty e i zv' kn hu htn hi hz2 g n cap cur fz h1 h2 m (by omega) (by omega) hmb (by omega) _ hzn hone h3 h4)
     (fun zv a n cap olds h1 h2 h3 h4 h5 h6=>by
      have:=hzo zv h1
      subst this
      exact run_append_grow_zeros (P:=P) w t t' ty e i zv kn hu htn hi h1 a n cap olds h2 h3 m (by omega) (by omega) hmb (by omega) _ hzn h4 h5 (growslice_fits (by omega) h6))
     c7 (by omega) c10 c11 c8 (by rw[concs_append]) hm
    exact this
   ·simp at h
  ·simp at h
 ·simp at h
theorem appendA_post {t ty:TypeId} {x y:V1} {ob:List Prop} {v:AV} {mem':List Blk} (h:appendA P mem t x y=some (ob,v,mem')) (hm:MRel w0 φ mem w):
  OpPost w0 φ mem ((do pure (.value (←Builtin.append_ #[t,t] ty #[x.conc φ,y.conc φ])):Sem Next).run P w) v mem':=by
 unfold appendA at h
 split at h
 ·rename_i e hu
  split at h
  ·rename_i i z hi hz
   split at h
   ·rename_i n xs mem1 b off m hold hown
    split at h
    ·rename_i k hk
     split at h
     ·rename_i news hlv hc
      split at h
      ·rename_i hck
       simp only[Option.some.injEq,Prod.mk.injEq] at h
       obtain ⟨rfl,rfl,rfl⟩:=h
       simp only[Bool.and_eq_true,decide_eq_true_eq,Nat.beq_eq,Nat.blt,Nat.ble_eq] at hck
       obtain ⟨⟨⟨⟨hptr,hcells⟩,hsz,hpos⟩,hby,hnm⟩,hmpos⟩:=hck
       obtain ⟨cy,hy⟩:=ownSl_conc (φ:=φ) hown
       obtain ⟨hc1,hc2,hc3⟩:=cutP_spec (φ:=φ) hc
       have hnews:∀j u,(concs φ news)[j]? =some u→w.cell? ((⟨(φ b).1,(φ b).2.1+off,none⟩:Addr).add j)=some u:=by
        intro j u hj
        rw[add_own]
        refine hm.cell hk hlv ?_
        have hjl:=lt_of_getElem? hj
        rw[hc1,List.getElem?_take_of_lt (by omega),List.getElem?_drop] at hj
        exact hj
       obtain ⟨zv,hzr,hzc⟩:=zeroA_run (φ:=φ) hz w
       have hzs:∃zv,i.zero=some zv∧zv.cells.size=i.size:=by
        simp only[zeroValue,typeInfo,Sem.run_bind,run_program,Result.andThen_ok,hi,Sem.run_pure] at hzr
        cases hzz:i.zero with
        |none=>rw[hzz] at hzr;simp at hzr
        |some zv'=>
         rw[hzz] at hzr
         simp at hzr
         subst hzr
         refine ⟨_,rfl,?_⟩
         rw[hzc]
         simp[concs_length,hsz]
       obtain ⟨zv',hz1,hz2⟩:=hzs
       unfold oldSl at hold
       split at hold
       ·
        simp only[Option.some.injEq,Prod.mk.injEq] at hold
        obtain ⟨rfl,rfl,rfl⟩:=hold
        simp only[Nat.zero_add] at hby hnm
        have hrun:=run_append_nil (P:=P) w t ty e i zv' hu hi hz1 ⟨(φ b).1,(φ b).2.1+off,none⟩ m cy (concs φ news) hc3 hnews (by omega) (by omega) (by omega)
        have hge:=grownCap_ge w m 0 e
        have hle:=grownCap_le_maxLen w m 0 e (by simp only[maxLen];omega)
        generalize grownCap w m 0 e=cap at hrun hge hle
        obtain ⟨φ',ha,hs',hm'⟩:=hm.join (w':=w.drew.alloc (.cells ((concs φ news).toArray++Builtin.zeroCells zv'.cells (cap-m)) e))
         ((hm.below.drew).alloc _) w.heap.size cap hm.below.new (fun i b hb hl hr=>by have:=hm.lt hb hl;omega)
         (fun k hk hlt=>by simp only[World.alloc,World.drew];rw[Array.getElem?_push,if_neg (by omega)])
         ⟨[]++news,e,true,false,i.size⟩ rfl rfl hptr
         ⟨(Builtin.zeroCells zv'.cells (cap-m)).toList,0,0,by
          simp only[World.alloc,World.drew]
          rw[Array.getElem?_push_size]
          congr 2
          apply Array.ext'
          simp,fun j hj=>by omega,fun _=>⟨.inl rfl,by
           simp only[List.nil_append,List.length_append,hc3,Array.length_toList,size_zeroCells,hz2,←Nat.add_mul]
           congr 1;omega,hle⟩⟩
        refine ⟨φ',_,.inl ?_,ha,by simp,hm',by simp[AV.wf,V1.wf,Nat.blt]⟩
        rw[hy]
        simp only[V1.conc,Atom.conc,Sem.run_bind,hrun,Result.andThen_ok,Sem.run_pure,AV.conc,hs',Nat.zero_add]
       ·
        rename_i b1 n
        split at hold
        ·rename_i k1 hk1
         split at hold
         ·rename_i hck1
          simp only[Option.some.injEq,Prod.mk.injEq] at hold
          obtain ⟨rfl,rfl,rfl⟩:=hold
          simp only[Bool.and_eq_true,Nat.beq_eq,Nat.blt,Nat.ble_eq,Bool.not_eq_true'] at hck1
          obtain ⟨⟨⟨hl1,hr1⟩,hesz,_⟩,hel,hlen1⟩:=hck1
          exact append_own hu hi hz hk1 hl1 hr1 hesz hel hlen1 hown hk hlv hc1 hc3 (cellsOk_spec news hcells) hsz hpos hby hnm hmpos hptr (concs_append φ k1.ps news) hm
         ·simp at hold
        ·simp at hold
       ·simp at hold
      ·simp at h
     ·simp at h
    ·simp at h
   ·simp at h
  ·simp at h
 ·simp at h
theorem appendG_post {t ty:TypeId} {x y:V1} {ob:List Prop} {v:AV} {mem':List Blk} (h:appendG P mem t x y=some (ob,v,mem')) (hm:MRel w0 φ mem w):
  OpPost w0 φ mem ((do pure (.value (←Builtin.append_ #[t,t] ty #[x.conc φ,y.conc φ])):Sem Next).run P w) v mem':=by
 unfold appendG at h
 split at h
 ·rename_i b1 off1 n cap0
  split at h
  ·rename_i e hu
   split at h
   ·rename_i i z hi hz
    split at h
    ·rename_i k1 b off m hk1 hown
     split at h
     ·rename_i k hk
      split at h
      ·rename_i xs news hlv hc1 hc
       split at h
       ·rename_i hck
        simp only[Option.some.injEq,Prod.mk.injEq] at h
        obtain ⟨rfl,rfl,rfl⟩:=h
        simp only[Bool.and_eq_true,decide_eq_true_eq,Nat.beq_eq,Nat.blt,Nat.ble_eq] at hck hlv
        obtain ⟨⟨hptr,hsz,hpos⟩,⟨hby,hnm⟩,hfull⟩:=hck
        obtain ⟨cy,hy⟩:=ownSl_conc (φ:=φ) hown
        obtain ⟨ha1,ha2,ha3⟩:=cutP_spec (φ:=φ) hc1
        obtain ⟨hc1',hc2,hc3⟩:=cutP_spec (φ:=φ) hc
        have holds:∀j u,(concs φ xs)[j]? =some u→w.cell? ((⟨(φ b1).1,(φ b1).2.1+off1,none⟩:Addr).add j)=some u:=by
         intro j u hj
         rw[add_own]
         refine hm.cell hk1 hlv.1 ?_
         have hjl:=lt_of_getElem? hj
         rw[ha1,List.getElem?_take_of_lt (by omega),List.getElem?_drop] at hj
         exact hj
        have hnews:∀j u,(concs φ news)[j]? =some u→w.cell? ((⟨(φ b).1,(φ b).2.1+off,none⟩:Addr).add j)=some u:=by
         intro j u hj
         rw[add_own]
         refine hm.cell hk hlv.2 ?_
         have hjl:=lt_of_getElem? hj
         rw[hc1',List.getElem?_take_of_lt (by omega),List.getElem?_drop] at hj
         exact hj
        obtain ⟨zv,hzr,hzc⟩:=zeroA_run (φ:=φ) hz w
        have hzs:∃zv,i.zero=some zv∧zv.cells.size=i.size:=by
         simp only[zeroValue,typeInfo,Sem.run_bind,run_program,Result.andThen_ok,hi,Sem.run_pure] at hzr
         cases hzz:i.zero with
         |none=>rw[hzz] at hzr;simp at hzr
         |some zv'=>
          rw[hzz] at hzr
          simp at hzr
          subst hzr
          refine ⟨_,rfl,?_⟩
          rw[hzc]
          simp[concs_length,hsz]
        obtain ⟨zv',hz1,hz2⟩:=hzs
        have hrun:=run_append_grow (P:=P) w t ty e i zv' hu hi hz1 ⟨(φ b1).1,(φ b1).2.1+off1,none⟩ n cap0 (concs φ xs) ha3 holds ⟨(φ b).1,(φ b).2.1+off,none⟩ m cy (concs φ news) hc3 hnews (by omega) (by omega) (growslice_fits (by omega) hby)
        have hge:=grownCap_ge w (n+m) cap0 e
        have hle:=grownCap_le_maxLen w (n+m) cap0 e (by simp only[maxLen];omega)
        generalize grownCap w (n+m) cap0 e=cap at hrun hge hle
        obtain ⟨φ',ha,hs',hm'⟩:=hm.join (w':=w.drew.alloc (.cells ((concs φ xs).toArray++(concs φ news).toArray++Builtin.zeroCells zv'.cells (cap-(n+m))) e))
         ((hm.below.drew).alloc _) w.heap.size cap hm.below.new (fun i b hb hl hr=>by have:=hm.lt hb hl;omega)
         (fun k hk hlt=>by simp only[World.alloc,World.drew];rw[Array.getElem?_push,if_neg (by omega)])
         ⟨xs++news,e,true,false,i.size⟩ rfl rfl hptr
         ⟨(Builtin.zeroCells zv'.cells (cap-(n+m))).toList,0,0,by
          simp only[World.alloc,World.drew]
          rw[Array.getElem?_push_size]
          congr 2
          apply Array.ext'
          simp[concs_append],fun j hj=>by omega,fun _=>⟨.inl rfl,by
           simp only[concs_append,List.length_append,ha3,hc3,Array.length_toList,size_zeroCells,hz2,←Nat.add_mul]
           congr 1;omega,hle⟩⟩
        refine ⟨φ',_,.inl ?_,ha,by simp,hm',by simp[AV.wf,V1.wf,Nat.blt]⟩
        rw[hy]
        simp only[V1.conc,Atom.conc,Sem.run_bind,hrun,Result.andThen_ok,Sem.run_pure,AV.conc,hs',Nat.zero_add]
       ·simp at h
      ·simp at h
     ·simp at h
    ·simp at h
   ·simp at h
  ·simp at h
 ·exact appendA_post h hm
theorem run_append_none (w:World) (t ty e:TypeId) (i:TypeInfo) (ht:P.underlying t=some (.slice e)) (hi:P.info? e=some i) (base:Option Addr) (n cap:Nat) (h:n≤cap):
  (Builtin.append_ #[t,t] ty #[.slice base n cap,.slice none 0 0]).run P w= .ok (.slice base n cap) w:=by
 cases base<;>simp[Builtin.append_,run_underlying ht,sizeOf,typeInfo,hi,Builtin.lenOf,h,Builtin.firstCells,storeCells]
theorem appendO_post {t ty:TypeId} {x y:V1} {ob:List Prop} {v:AV} {mem':List Blk} (h:appendO P mem t x y=some (ob,v,mem')) (ho:All ob) (hm:MRel w0 φ mem w):
  OpPost w0 φ mem ((do pure (.value (←Builtin.append_ #[t,t] ty #[x.conc φ,y.conc φ])):Sem Next).run P w) v mem':=by
 unfold appendO at h
 split at h
 ·rename_i e hu
  split at h
  ·rename_i i hi
   split at h
   ·split at h
    ·rename_i b off n cap
     split at h
     ·rename_i hck
      simp only[Option.some.injEq,Prod.mk.injEq] at h
      obtain ⟨rfl,rfl,rfl⟩:=h
      simp only[Bool.and_eq_true,Nat.ble_eq] at hck
      have hrun:=run_append_none (P:=P) w t ty e i hu hi (some ⟨(φ b).1,(φ b).2.1+off,none⟩) n cap hck.1
      refine ⟨φ,w,.inl ?_,Agree.refl _ _,Nat.le_refl _,hm,by simpa[AV.wf,V1.wf] using hck.2⟩
      simp only[V1.conc,Atom.conc,Sem.run_bind,hrun,Result.andThen_ok,Sem.run_pure,AV.conc]
     ·simp at h
    ·rename_i b n
     split at h
     ·rename_i hold
      simp only[Option.some.injEq,Prod.mk.injEq] at h
      obtain ⟨rfl,rfl,rfl⟩:=h
      unfold oldSl at hold
      split at hold
      ·rename_i heq;simp at heq
      ·rename_i b' n' heq
       simp only[V1.one.injEq,Atom.sx.injEq] at heq
       obtain ⟨rfl,rfl⟩:=heq
       split at hold
       ·rename_i k hk
        split at hold
        ·rename_i hck
         simp only[Bool.and_eq_true,Bool.not_eq_true',Nat.beq_eq,Nat.blt,Nat.ble_eq] at hck
         obtain ⟨⟨⟨hl,hr⟩,hes,hpos⟩,hel,hsz⟩:=hck
         obtain ⟨tail,lo,hi',h1,_,h3⟩:=hm.blk _ _ hk hl hr
         obtain ⟨_,h4,_⟩:=h3 (by omega)
         have hle:n≤(φ b).2.2:=by
          rw[List.length_append,concs_length,hsz,hes] at h4
          exact Nat.le_of_mul_le_mul_right (by omega) hpos
         have hrun:=run_append_none (P:=P) w t ty e i hu hi (some ⟨(φ b).1,(φ b).2.1+0,none⟩) n (φ b).2.2 hle
         refine ⟨φ,w,.inl ?_,Agree.refl _ _,Nat.le_refl _,hm,by simp only[AV.wf,V1.wf,Nat.blt,Nat.ble_eq];exact lt_of_getElem? hk⟩
         simp only[V1.conc,Atom.conc,Sem.run_bind,hrun,Result.andThen_ok,Sem.run_pure,AV.conc]
        ·simp at hold
       ·simp at hold
      ·rename_i h2;exact absurd rfl (h2 b n)
     ·simp at h
    ·simp at h
   ·split at h
    ·split at h
     ·dsimp only at h
      simp only[Option.some.injEq,Prod.mk.injEq] at h
      obtain ⟨rfl,rfl,rfl⟩:=h
      exact appendG_post ho.1 hm
     ·simp at h
    ·exact appendG_post h hm
  ·simp at h
 ·simp at h
end
end Go.Ev
