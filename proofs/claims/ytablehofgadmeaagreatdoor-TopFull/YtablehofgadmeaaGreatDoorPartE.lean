/- Of the proof of TopFull: an evaluator of the code with values known in part, and its soundness. -/
import Derived.Test.YtablehofgadmeaaGreatDoorPartD
import Derived.ProofKit
import Derived.Deep.Slices
import Derived.OpenShut
namespace Go.Ev
open Go Go.RowKit
section
variable {P:Program} {w0:Base} {w:World} {φ:Loc} {m:List Blk} {tm:List AV} {a:Act}
def liveB (m:List Blk) (b:Nat):Bool:=
 match m[b]? with
 |some k=>k.fil
 |none=>false
def V1.okP (f:Nat→Bool):V1→Bool
 | .one (.ptr b _)=>f b
 | .one (.sl b _ _ _)=>f b
 | .one (.sx b _)=>f b
 | .one (.clo _ x y)=>capB f x&&capB f y
 | .one _=>true
 | .agg ps=>allPtr f ps
theorem okP_tup (f:Nat→Bool) (xs:List V1):(AV.tup xs).okP f=xs.all (V1.okP f):=by
 simp only[AV.okP]
 congr 1
theorem okP_val (f:Nat→Bool) (x:V1):(AV.val x).okP f=x.okP f:=by
 unfold AV.okP V1.okP
 rcases x with x|x
 ·cases x<;>rfl
 ·rfl
theorem V1.okP_imp {f g:Nat→Bool} (h:∀b,f b=true→g b=true) (x:V1) (hx:x.okP f=true):x.okP g=true:=by
 rcases x with x|x
 ·cases x<;>simp only[V1.okP] at hx ⊢ <;>first|exact h _ hx|(simp only[Bool.and_eq_true] at hx ⊢;exact ⟨capB_imp h _ hx.1,capB_imp h _ hx.2⟩)
 ·exact allPtr_imp h x hx
theorem AV.okP_imp {f g:Nat→Bool} (h:∀b,f b=true→g b=true) (x:AV) (hx:x.okP f=true):x.okP g=true:=by
 cases x with
 |val x=>rw[okP_val] at*;exact V1.okP_imp h x hx
 |tup xs=>
  rw[okP_tup] at*
  simp only[List.all_eq_true] at hx ⊢
  exact fun x hm=>V1.okP_imp h x (hx x hm)
 |junk=>rfl
theorem V1.conc_okP {f:Nat→Bool} {φ φ':Loc} (h:∀b,f b=true→φ' b=φ b) (x:V1) (hx:x.okP f=true):x.conc φ'=x.conc φ:=by
 rcases x with x|x
 ·cases x<;>simp only[V1.okP] at hx<;>first|rfl|(simp only[Bool.and_eq_true] at hx;simp only[V1.conc,Atom.conc,capC_ok h _ hx.1,capC_ok h _ hx.2];done)|simp[V1.conc,Atom.conc,h _ hx]
 ·simp only[V1.okP] at hx;simp[V1.conc,concs_okP h x hx]
theorem AV.conc_okP {f:Nat→Bool} {φ φ':Loc} (h:∀b,f b=true→φ' b=φ b) (x:AV) (hx:x.okP f=true):x.conc φ'=x.conc φ:=by
 cases x with
 |val x=>rw[okP_val] at hx;exact V1.conc_okP h x hx
 |tup xs=>
  rw[okP_tup] at hx
  simp only[List.all_eq_true] at hx
  simp only[AV.conc,Value.tuple.injEq]
  congr 1
  exact List.map_congr_left fun x hm=>V1.conc_okP h x (hx x hm)
 |junk=>rfl
theorem V1.wf_okP (n:Nat) (x:V1):x.wf n=x.okP (ltB n):=by
 rcases x with x|x
 ·cases x<;>rfl
 ·rfl
theorem AV.wf_okP (n:Nat) (x:AV):x.wf n=x.okP (ltB n):=by
 cases x with
 |val x=>rw[okP_val];exact V1.wf_okP n x
 |tup xs=>
  rw[okP_tup]
  simp only[AV.wf]
  congr 1
 |junk=>rfl
theorem liveB_lt {b:Nat} (h:liveB m b=true):ltB m.length b=true:=by
 unfold liveB at h
 split at h
 ·rename_i k hk
  have:=lt_of_getElem? hk
  simp only[ltB,Nat.blt,Nat.ble_eq];omega
 ·simp at h
def gB (base:Nat) (m:List Blk) (b:Nat):Bool:=Nat.blt b base||liveB m b
theorem gB_lt {base b:Nat} (hb:base≤m.length) (h:gB base m b=true):ltB m.length b=true:=by
 simp only[gB,Bool.or_eq_true] at h
 rcases h with h|h
 ·simp only[ltB,Nat.blt,Nat.ble_eq] at h ⊢;omega
 ·exact liveB_lt h
theorem gB_hole {base hole:Nat} {d:Blk} (hb:base≤hole) (hd:m[hole]? =some d) (hdl:d.fil=false):gB base m hole=false:=by
 cases h:gB base m hole with
 |false=>rfl
 |true=>
  simp only[gB,Bool.or_eq_true,Nat.blt,Nat.ble_eq] at h
  rcases h with h|h
  ·omega
  ·simp[liveB,hd,hdl] at h
theorem MRel.fill (h:MRel w0 φ m w) {hole:Nat} {d:Blk} (hd:m[hole]? =some d) (ps:List Piece) (e:TypeId) (hp:allPtr (ltB m.length) ps=true)
  {q:Nat→Bool} (hqh:q hole=false) (hlv:allPtr q ps=true) (hm:∀(i:Nat) (b:Blk),m[i]? =some b→b.live=true→allPtr q b.ps=true):
  ∃φ':Loc,(∀b,q b=true→φ' b=φ b)∧φ' hole=(w.heap.size,0,0)∧MRel w0 φ' (m.set hole ⟨ps,e,true,false,0⟩) (w.alloc (.cells (concs φ ps).toArray e)):=by
 have hag:∀b,q b=true→(fun b=>if b=hole then (w.heap.size,0,0) else φ b) b=φ b:=by
  intro b hb
  have:b≠hole:=fun e=>by rw[e,hqh] at hb;cases hb
  simp[this]
 have hhl:=lt_of_getElem? hd
 refine ⟨fun b=>if b=hole then (w.heap.size,0,0) else φ b,hag,by simp,?_⟩
 have split:∀(i:Nat) (x:Blk),(m.set hole (⟨ps,e,true,false,0⟩:Blk))[i]? =some x→(i=hole∧x=⟨ps,e,true,false,0⟩)∨(i≠hole∧m[i]? =some x):=by
  intro i x hx
  by_cases h1:i=hole
  ·subst h1
   rw[List.getElem?_set_self hhl] at hx
   simp only[Option.some.injEq] at hx
   exact .inl ⟨rfl,hx.symm⟩
  ·rw[List.getElem?_set_ne (by omega)] at hx
   exact .inr ⟨h1,hx⟩
 constructor
 ·exact h.below.alloc _
 ·intro i j x x' hx hx' hl hl' hr hr' he
  rcases split i x hx with ⟨h1,rfl⟩|⟨h1,hx1⟩<;>rcases split j x' hx' with ⟨h2,rfl⟩|⟨h2,hx2⟩
  ·omega
  ·have:=h.lt hx2 hl'
   simp only[h1,if_true,h2,if_false] at he;omega
  ·have:=h.lt hx1 hl
   simp only[h2,if_true,h1,if_false] at he;omega
  ·simp only[h1,h2,if_false] at he
   exact h.inj i j _ _ hx1 hx2 hl hl' hr hr' he
 ·intro i x hx hl hr
  rcases split i x hx with ⟨h1,rfl⟩|⟨h1,hx1⟩
  ·simp only[h1,if_true];exact ⟨h.below.new,trivial⟩
  ·simp only[h1,if_false];exact h.own _ _ hx1 hl hr
 ·intro i x hx hl hr
  rcases split i x hx with ⟨h1,rfl⟩|⟨h1,hx1⟩
  ·cases hr
  ·rw[concs_okP hag _ (hm i x hx1 hl)]
   simp only[h1,if_false]
   exact h.old _ _ hx1 hl hr
 ·intro i x hx hl hr
  rcases split i x hx with ⟨h1,rfl⟩|⟨h1,hx1⟩
  ·refine ⟨[],0,0,?_,by simp,by simp⟩
   simp only[h1,if_true,World.alloc,Array.getElem?_push_size,Option.some.injEq,Obj.cells.injEq,List.append_nil]
   exact ⟨by rw[concs_okP hag _ hlv],trivial,trivial⟩
  ·have h3:=h.lt hx1 hl
   have:=h.blk i x hx1 hl hr
   rw[concs_okP hag _ (hm i x hx1 hl)]
   unfold Holds at this ⊢
   simp only[h1,if_false,World.alloc]
   rw[Array.getElem?_push,if_neg (by omega)]
   exact this
 ·intro i x hx
  simp only[List.length_set]
  rcases split i x hx with ⟨h1,rfl⟩|⟨h1,hx1⟩
  ·exact hp
  ·exact h.wf i x hx1
theorem MRel.move {φ':Loc} {k d:Blk} {w':World} (h:MRel w0 φ' (m++[k]) w') {q:Nat→Bool} (hag:∀b,q b=true→φ' b=φ b) {hole:Nat} (hd:m[hole]? =some d) (hqh:q hole=false)
  (hk:allPtr (fun _=>false) k.ps=true) (hokm:∀(i:Nat) (b:Blk),m[i]? =some b→b.live=true→allPtr q b.ps=true) (hwf:∀(i:Nat) (b:Blk),m[i]? =some b→allPtr (ltB m.length) b.ps=true):
  ∃φ2:Loc,(∀b,q b=true→φ2 b=φ b)∧φ2 hole=φ' m.length∧MRel w0 φ2 (m.set hole k) w':=by
 have hhl:=lt_of_getElem? hd
 have hne:∀b,q b=true→b≠hole:=fun b hb e=>by rw[e,hqh] at hb;cases hb
 have h2:∀b,q b=true→(fun b=>if b=hole then φ' m.length else φ' b) b=φ' b:=fun b hb=>by simp[hne b hb]
 have hlast:(m++[k])[m.length]? =some k:=by rw[List.getElem?_append_right (Nat.le_refl _),Nat.sub_self];rfl
 have hold:∀(i:Nat) (x:Blk),m[i]? =some x→(m++[k])[i]? =some x:=fun i x hx=>by rw[List.getElem?_append_left (lt_of_getElem? hx)];exact hx
 have hlt:∀(i:Nat) (x:Blk),m[i]? =some x→i≠m.length:=fun i x hx=>by have:=lt_of_getElem? hx;omega
 refine ⟨fun b=>if b=hole then φ' m.length else φ' b,fun b hb=>by rw[h2 b hb];exact hag b hb,by simp,?_⟩
 have split:∀(i:Nat) (x:Blk),(m.set hole k)[i]? =some x→(i=hole∧x=k)∨(i≠hole∧m[i]? =some x):=by
  intro i x hx
  by_cases h1:i=hole
  ·subst h1
   rw[List.getElem?_set_self hhl] at hx
   simp only[Option.some.injEq] at hx
   exact .inl ⟨rfl,hx.symm⟩
  ·rw[List.getElem?_set_ne (by omega)] at hx
   exact .inr ⟨h1,hx⟩
 have hck:∀ψ:Loc,concs ψ k.ps=concs φ' k.ps:=fun ψ=>concs_okP (f:=fun _=>false) (fun _ hb=>by simp at hb) _ hk
 constructor
 ·exact h.below
 ·intro i j x x' hx hx' hl hl' hr hr' he
  rcases split i x hx with ⟨h1,rfl⟩|⟨h1,hx1⟩<;>rcases split j x' hx' with ⟨h3,rfl⟩|⟨h3,hx2⟩
  ·omega
  ·simp only[h1,if_true,h3,if_false] at he
   exact absurd (h.inj _ _ _ _ hlast (hold _ _ hx2) hl hl' hr hr' he).symm (hlt _ _ hx2)
  ·simp only[h3,if_true,h1,if_false] at he
   exact absurd (h.inj _ _ _ _ (hold _ _ hx1) hlast hl hl' hr hr' he) (hlt _ _ hx1)
  ·simp only[h1,h3,if_false] at he
   exact h.inj i j _ _ (hold _ _ hx1) (hold _ _ hx2) hl hl' hr hr' he
 ·intro i x hx hl hr
  rcases split i x hx with ⟨h1,rfl⟩|⟨h1,hx1⟩
  ·simp only[h1,if_true];exact h.own _ _ hlast hl hr
  ·simp only[h1,if_false];exact h.own _ _ (hold _ _ hx1) hl hr
 ·intro i x hx hl hr
  rcases split i x hx with ⟨h1,rfl⟩|⟨h1,hx1⟩
  ·rw[hck]
   simp only[h1,if_true];exact h.old _ _ hlast hl hr
  ·rw[concs_okP h2 _ (hokm i x hx1 hl)]
   simp only[h1,if_false]
   exact h.old _ _ (hold _ _ hx1) hl hr
 ·intro i x hx hl hr
  rcases split i x hx with ⟨h1,rfl⟩|⟨h1,hx1⟩
  ·rw[hck]
   simp only[h1,if_true];exact h.blk _ _ hlast hl hr
  ·rw[concs_okP h2 _ (hokm i x hx1 hl)]
   simp only[h1,if_false]
   exact h.blk _ _ (hold _ _ hx1) hl hr
 ·intro i x hx
  simp only[List.length_set]
  rcases split i x hx with ⟨h1,rfl⟩|⟨h1,hx1⟩
  ·exact allPtr_imp (by simp) x.ps hk
  ·exact hwf i x hx1
theorem MRel.moveX {φ':Loc} {k d:Blk} {w':World} (h:MRel w0 φ' (m++[k]) w') {q:Nat→Bool} (hag:∀b,q b=true→φ' b=φ b) {hole:Nat} (hd:m[hole]? =some d) (hqh:q hole=false)
  (hk:allPtr (fun y=>Nat.blt y m.length&& !Nat.beq y hole) k.ps=true) (hokm:∀(i:Nat) (b:Blk),m[i]? =some b→b.live=true→allPtr q b.ps=true) (hwf:∀(i:Nat) (b:Blk),m[i]? =some b→allPtr (ltB m.length) b.ps=true):
  ∃φ2:Loc,(∀b,q b=true→φ2 b=φ b)∧φ2 hole=φ' m.length∧MRel w0 φ2 (m.set hole k) w':=by
 have hhl:=lt_of_getElem? hd
 have hne:∀b,q b=true→b≠hole:=fun b hb e=>by rw[e,hqh] at hb;cases hb
 have h2:∀b,q b=true→(fun b=>if b=hole then φ' m.length else φ' b) b=φ' b:=fun b hb=>by simp[hne b hb]
 have hlast:(m++[k])[m.length]? =some k:=by rw[List.getElem?_append_right (Nat.le_refl _),Nat.sub_self];rfl
 have hold:∀(i:Nat) (x:Blk),m[i]? =some x→(m++[k])[i]? =some x:=fun i x hx=>by rw[List.getElem?_append_left (lt_of_getElem? hx)];exact hx
 have hlt:∀(i:Nat) (x:Blk),m[i]? =some x→i≠m.length:=fun i x hx=>by have:=lt_of_getElem? hx;omega
 refine ⟨fun b=>if b=hole then φ' m.length else φ' b,fun b hb=>by rw[h2 b hb];exact hag b hb,by simp,?_⟩
 have split:∀(i:Nat) (x:Blk),(m.set hole k)[i]? =some x→(i=hole∧x=k)∨(i≠hole∧m[i]? =some x):=by
  intro i x hx
  by_cases h1:i=hole
  ·subst h1
   rw[List.getElem?_set_self hhl] at hx
   simp only[Option.some.injEq] at hx
   exact .inl ⟨rfl,hx.symm⟩
  ·rw[List.getElem?_set_ne (by omega)] at hx
   exact .inr ⟨h1,hx⟩
 have hck:concs (fun b=>if b=hole then φ' m.length else φ' b) k.ps=concs φ' k.ps:=concs_okP (f:=fun y=>Nat.blt y m.length&& !Nat.beq y hole) (fun b hb=>by
  have hne:b≠hole:=by
   intro e
   subst e
   simp[Nat.beq_refl] at hb
  simp[hne]) _ hk
 constructor
 ·exact h.below
 ·intro i j x x' hx hx' hl hl' hr hr' he
  rcases split i x hx with ⟨h1,rfl⟩|⟨h1,hx1⟩<;>rcases split j x' hx' with ⟨h3,rfl⟩|⟨h3,hx2⟩
  ·omega
  ·simp only[h1,if_true,h3,if_false] at he
   exact absurd (h.inj _ _ _ _ hlast (hold _ _ hx2) hl hl' hr hr' he).symm (hlt _ _ hx2)
  ·simp only[h3,if_true,h1,if_false] at he
   exact absurd (h.inj _ _ _ _ (hold _ _ hx1) hlast hl hl' hr hr' he) (hlt _ _ hx1)
  ·simp only[h1,h3,if_false] at he
   exact h.inj i j _ _ (hold _ _ hx1) (hold _ _ hx2) hl hl' hr hr' he
 ·intro i x hx hl hr
  rcases split i x hx with ⟨h1,rfl⟩|⟨h1,hx1⟩
  ·simp only[h1,if_true];exact h.own _ _ hlast hl hr
  ·simp only[h1,if_false];exact h.own _ _ (hold _ _ hx1) hl hr
 ·intro i x hx hl hr
  rcases split i x hx with ⟨h1,rfl⟩|⟨h1,hx1⟩
  ·rw[hck]
   simp only[h1,if_true];exact h.old _ _ hlast hl hr
  ·rw[concs_okP h2 _ (hokm i x hx1 hl)]
   simp only[h1,if_false]
   exact h.old _ _ (hold _ _ hx1) hl hr
 ·intro i x hx hl hr
  rcases split i x hx with ⟨h1,rfl⟩|⟨h1,hx1⟩
  ·rw[hck]
   simp only[h1,if_true];exact h.blk _ _ hlast hl hr
  ·rw[concs_okP h2 _ (hokm i x hx1 hl)]
   simp only[h1,if_false]
   exact h.blk _ _ (hold _ _ hx1) hl hr
 ·intro i x hx
  simp only[List.length_set]
  rcases split i x hx with ⟨h1,rfl⟩|⟨h1,hx1⟩
  ·exact allPtr_imp (fun b hb=>by simp only[Bool.and_eq_true] at hb;exact hb.1) x.ps hk
  ·exact hwf i x hx1
theorem pieces_okP {f:Nat→Bool} {v:V1} {ps:List Piece} (h:v.pieces=some ps) (hv:v.okP f=true):allPtr f ps=true:=by
 unfold V1.pieces at h
 split at h
 ·simp at h
 ·simp at h
 ·rename_i x h1 h2
  simp only[Option.some.injEq] at h;subst h
  cases x<;>simp[allPtr,V1.okP] at hv ⊢ <;>exact hv
 ·simp only[Option.some.injEq] at h;subst h;exact hv
theorem ofVal1_okP (f:Nat→Bool) (x:Value):(ofVal1 x).okP f=true:=by
 have h1:∀x,(V1.one (ofVal x)).okP f=true:=by
  intro x;unfold ofVal;split<;>rfl
 unfold ofVal1
 split
 ·rename_i cs
  simp only[V1.okP]
  have:∀l:List Value,allPtr f (l.map fun c=> .a (ofVal c))=true:=by
   intro l
   induction l with
   |nil=>rfl
   |cons c l ih=>
    simp only[List.map_cons]
    have hc:=h1 c
    cases hv:ofVal c<;>simp[hv,V1.okP] at hc<;>simp[allPtr,ih,hc]
  exact this _
 ·exact h1 _
theorem rhoL_okP {look:List Tmp} {f:Nat→Bool} (ht:∀x∈tm,x.okP f=true) {x:Operand} {u:AV} (h:rhoL look tm x=some u):u.okP f=true:=by
 have h:=rhoL_sub h
 cases x with
 |tmp t=>simp only[rho] at h;exact ht u (List.mem_of_getElem? (unJ_some h).1)
 |const v=>simp only[rho,Option.some.injEq] at h;subst h;rw[okP_val];exact ofVal1_okP _ _
 |global g=>simp[rho] at h
 |func g=>simp only[rho,Option.some.injEq] at h;subst h;rfl
structure Inv (base:Nat) (w0:Base) (φ:Loc) (tm:List AV) (m:List Blk) (a:Act) (w:World):Prop where
 low:base≤m.length
 tmps:TmR φ tm a.tmps
 defs:a.defers=[]
 okt:∀x∈tm,x.okP (gB base m)=true
 okm:∀(i:Nat) (b:Blk),m[i]? =some b→b.live=true→allPtr (gB base m) b.ps=true
 mrel:MRel w0 φ m w
theorem Inv.rel {base:Nat} (h:Inv base w0 φ tm m a w):Rel w0 φ tm m a w:=
 ⟨h.tmps,h.defs,fun x hx=>by rw[AV.wf_okP];exact AV.okP_imp (fun _ hb=>gB_lt h.low hb) x (h.okt x hx),h.mrel⟩
theorem dApp_res {base hole:Nat} (hbh:base≤hole) {a:Act} (hi:Inv base w0 φ tm m a w) {t:TypeId} {x:V1} {b off n cp:Nat} {v:AV} {wr:List (Nat×Blk)} {rd:List Nat} (h:dApp P m hole t x b off n cp=some (v,wr,rd)) (ty:TypeId)
  {K:Loc→World→Prop} (hK:∀φ' w',(∀b,gB base m b=true→φ' b=φ b)→TmR φ' tm a.tmps→MRel w0 φ' (apW m wr) w'→K φ' w'):
  ∃φ' w',((do pure (.value (←Builtin.append_ #[t,t] ty #[x.conc φ,(V1.one (.sl b off n cp)).conc φ])):Sem Next).run P w)= .ok (.value (v.conc φ')) w'∧K φ' w':=by
 unfold dApp at h
 split at h
 ·rename_i A q
  split at h
  ·rename_i b9 len mem9 k1 d hap hA hd
   split at h
   ·rename_i k hk
    split at h
    ·rename_i hc
     simp only[Bool.and_eq_true,Bool.not_eq_true'] at hc
     obtain ⟨hfr,hdl,hAh⟩:=hc
     simp only[Option.some.injEq,Prod.mk.injEq] at h
     obtain ⟨rfl,rfl,rfl⟩:=h
     obtain ⟨k',k1',len',h1,_,hv',rfl,_⟩:=appSx_shape (m':=m) rfl rfl rfl hap
     rw[hA] at h1
     simp only[Option.some.injEq] at h1
     subst h1
     have hk':k'=k:=by
      rw[List.getElem?_append_right (by simp),List.length_set,Nat.sub_self] at hk
      simpa using hk
     subst hk'
     simp only[AV.val.injEq,V1.one.injEq,Atom.sx.injEq] at hv'
     obtain ⟨rfl,rfl⟩:=hv'
     obtain ⟨φ',w',hrun,hag,hlen,hm',hv'⟩:=appendG_post (P:=P) (ty:=ty) hap hi.mrel
     have hne:A≠hole:=by intro e;subst e;simp[Nat.beq_refl] at hAh
     have hagl:∀b,gB base m b=true→φ' b=φ b:=fun b hb=>hag b (by have:=gB_lt hi.low hb;simp only[ltB,Nat.blt,Nat.ble_eq] at this;omega)
     have hd':(m.set A {k1 with live:=false})[hole]? =some d:=by rw[List.getElem?_set_ne hne];exact hd
     have hel:(m.set A {k1 with live:=false}).length=m.length:=List.length_set
     have hm'':=hm'
     rw[←hel] at hfr
     have hsp:∀(i:Nat) (y:Blk),(m.set A {k1 with live:=false})[i]? =some y→(i=A∧y={k1 with live:=false})∨(i≠A∧m[i]? =some y):=by
      intro i y hy
      by_cases h1:i=A
      ·subst h1
       rw[List.getElem?_set_self (lt_of_getElem? hA)] at hy
       simp only[Option.some.injEq] at hy
       exact .inl ⟨rfl,hy.symm⟩
      ·rw[List.getElem?_set_ne (by omega)] at hy
       exact .inr ⟨h1,hy⟩
     obtain ⟨φ2,g1,g2,g3⟩:=hm''.moveX hagl hd' (gB_hole hbh hd hdl) hfr
      (fun i y hy hl=>by
       rcases hsp i y hy with ⟨_,rfl⟩|⟨_,h1⟩
       ·cases hl
       ·exact hi.okm i y h1 hl)
      (fun i y hy=>by
       rw[hel]
       rcases hsp i y hy with ⟨rfl,rfl⟩|⟨_,h1⟩
       ·exact hi.mrel.wf i k1 hA
       ·exact hi.mrel.wf i y h1)
     rw[hel] at g2
     have hmap:TmR φ2 tm a.tmps:=hi.tmps.to fun x hx=>AV.conc_okP g1 x (hi.okt x hx)
     have hconc:(AV.val (.one (.sx m.length len))).conc φ'=(AV.val (.one (.sx hole len))).conc φ2:=by
      simp only[AV.conc,V1.conc,Atom.conc,g2]
     refine ⟨φ2,w',?_,hK φ2 w' g1 hmap g3⟩
     rcases hrun with hrun|⟨_,hu⟩
     ·rw[hrun,hconc]
     ·simp[unA] at hu
    ·simp at h
   ·simp at h
  ·simp at h
 ·split at h
  ·rename_i b9 len mem9 d hap hd
   split at h
   ·rename_i k hk
    split at h
    ·rename_i hc
     simp only[Bool.and_eq_true,Bool.not_eq_true'] at hc
     obtain ⟨hfr,hdl⟩:=hc
     simp only[Option.some.injEq,Prod.mk.injEq] at h
     obtain ⟨rfl,rfl,rfl⟩:=h
     obtain ⟨k',len',_,hv',rfl,_⟩:=appNil_shape (m':=m) rfl rfl hap
     have hk':k'=k:=by
      rw[List.getElem?_append_right (Nat.le_refl _),Nat.sub_self] at hk
      simpa using hk
     subst hk'
     simp only[AV.val.injEq,V1.one.injEq,Atom.sx.injEq] at hv'
     obtain ⟨rfl,rfl⟩:=hv'
     obtain ⟨φ',w',hrun,hag,hlen,hm',hv'⟩:=appendG_post (P:=P) (ty:=ty) hap hi.mrel
     have hagl:∀b,gB base m b=true→φ' b=φ b:=fun b hb=>hag b (by have:=gB_lt hi.low hb;simp only[ltB,Nat.blt,Nat.ble_eq] at this;omega)
     obtain ⟨φ2,g1,g2,g3⟩:=hm'.moveX hagl hd (gB_hole hbh hd hdl) hfr hi.okm hi.mrel.wf
     have hmap:TmR φ2 tm a.tmps:=hi.tmps.to fun x hx=>AV.conc_okP g1 x (hi.okt x hx)
     have hconc:(AV.val (.one (.sx m.length len))).conc φ'=(AV.val (.one (.sx hole len))).conc φ2:=by
      simp only[AV.conc,V1.conc,Atom.conc,g2]
     refine ⟨φ2,w',?_,hK φ2 w' g1 hmap g3⟩
     rcases hrun with hrun|⟨_,hu⟩
     ·rw[hrun,hconc]
     ·simp[unA] at hu
    ·simp at h
   ·simp at h
  ·simp at h
 ·simp at h
def QfOK (P:Program) (qf:QF):Prop:=
 (∀f vs ob r,qf.1 f vs=some (ob,r)→All ob→∀φ w,Calls P f (vs.map (V1.conc φ)).toArray w fun e w'=>e= .returned (r.conc φ)∧Below w.heap.size w w')∧
 (∀f vs mem ob r,qf.2.1 f vs (blks mem vs)=some (ob,r)→All ob→∀w0 φ w,MRel w0 φ mem w→Calls P f (vs.map (V1.conc φ)).toArray w fun e w'=>e= .returned (r.conc φ)∧Below w.heap.size w w')∧
 (∀f vs mem x,qf.2.2 f vs mem=some x→All x.ob→RunsM P f x.As x.Ms x.R x.Gs)
theorem deciD_spec {s:Bool×Bool} {c c':List Bool} {ob ob':List Prop} {v v':AV} {wr wr':List (Nat×Blk)} {rd rd':List Nat} (h:deciD s c ob v wr rd=some (ob',c',v',wr',rd')) (ho:All ob'):
  v'=v∧wr'=wr∧All ob:=by
 unfold deciD at h
 split at h
 ·rename_i ob1 c1 v1 m1 hd
  simp only[Option.some.injEq,Prod.mk.injEq] at h
  obtain ⟨rfl,rfl,rfl,rfl,rfl⟩:=h
  obtain ⟨h1,_,h3⟩:=decided_spec hd ho
  exact ⟨h1,rfl,h3⟩
 ·simp at h
theorem ptA_ok {q:Nat→Bool} {x:Atom} (h:(V1.one x).okP q=true):∀b∈ptA x,q b=true:=by
 intro b hb
 cases x<;>simp only[ptA,List.mem_cons,List.not_mem_nil,or_false] at hb<;>subst hb<;>exact h
theorem ptP_ok {q:Nat→Bool}:∀{ps:List Piece},allPtr q ps=true→∀b∈ptP ps,q b=true
 |[],_,b,hb=>by simp[ptP] at hb
 | .num _ _::ps,h,b,hb=>ptP_ok (ps:=ps) (by simpa only[allPtr] using h) b (by simpa only[ptP] using hb)
 | .arr _ _::ps,h,b,hb=>ptP_ok (ps:=ps) (by simpa only[allPtr] using h) b (by simpa only[ptP] using hb)
 | .a x::ps,h,b,hb=>by
  simp only[ptP,List.mem_append] at hb
  cases x<;>simp only[allPtr,Bool.and_eq_true] at h<;>simp only[ptA,List.mem_cons,List.not_mem_nil,or_false,false_or] at hb
  case ptr=>rcases hb with rfl|hb;exact h.1;exact ptP_ok h.2 b hb
  case sl=>rcases hb with rfl|hb;exact h.1;exact ptP_ok h.2 b hb
  case sx=>rcases hb with rfl|hb;exact h.1;exact ptP_ok h.2 b hb
  case clo=>exact ptP_ok h.2 b hb
  all_goals exact ptP_ok h b hb
theorem ptV_ok {q:Nat→Bool} {v:V1} (h:v.okP q=true):∀b∈ptV v,q b=true:=by
 cases v with
 |one x=>exact ptA_ok h
 |agg ps=>exact ptP_ok h
theorem ptL_ok {look:List Tmp} {q:Nat→Bool} (ht:∀x∈tm,x.okP q=true):∀{xs:List (Nat×Operand)} {vs:List (Nat×V1)},partsA (rhoL look tm) xs=some vs→∀b∈ptL vs,q b=true
 |[],vs,h,b,hb=>by simp only[partsA,Option.some.injEq] at h;subst h;simp[ptL] at hb
 |(i,x)::xs,vs,h,b,hb=>by
  simp only[partsA] at h
  split at h
  ·rename_i v vs' hx hxs
   simp only[Option.some.injEq] at h
   subst h
   simp only[ptL,List.mem_append] at hb
   rcases hb with hb|hb
   ·have:=rhoL_okP ht hx
    rw[okP_val] at this
    exact ptV_ok this b hb
   ·exact ptL_ok ht hxs b hb
  ·simp at h
theorem dstep_sound {qf:QF} (hq:QfOK P qf) {S:Nat→Bool} {ops:Array Oper} {c c':List Bool} {hole:Nat} {o:Oper} {ob:List Prop} {v:AV}
  {wr:List (Nat×Blk)} {rd:List Nat} (hq0:∀f vs m,qf.2.2 f vs m=none) (h:dstep P qf S ops.toList tm m c hole o=some (ob,c',v,wr,rd)) (ho:All ob) {base:Nat} (hbh:base≤hole) (hi:Inv base w0 φ tm m a w)
  {K:Act→World→Prop}
  (hK:∀φ' w',(∀b,gB base m b=true→φ' b=φ b)→TmR φ' tm a.tmps→MRel w0 φ' (apW m wr) w'→K (a.put o.dst (v.conc φ')) w'):
  if Region.wanted o (yielded ops a.tmps) then OpRes P o a w K else K (a.put o.dst undef) w:=by
 have hr:=hi.rel
 unfold dstep at h
 split at h
 ·simp at h
 ·rename_i hwa
  rw[wantA_sound hwa hr.tmps]
  simp only[Option.some.injEq,Prod.mk.injEq] at h
  obtain ⟨rfl,rfl,rfl,rfl,rfl⟩:=h
  exact hK φ w (fun _ _=>rfl) hi.tmps hi.mrel
 ·rename_i hwa
  rw[wantA_sound hwa hr.tmps,if_pos rfl]
  have ht:Tells φ (rhoL (looks ops.toList o) tm) a.eval:=fun x u hu=>rho_tells hr x u (rhoL_sub hu)
  split at h
  ·split at h
   ·rename_i ob1 v1 b nb hrow
    simp only[Option.some.injEq,Prod.mk.injEq] at h
    obtain ⟨rfl,rfl,rfl,rfl,rfl⟩:=h
    obtain ⟨w',hrun,hm',hwf⟩:=rowOp_run (a:=a.eval) hrow ho hi.mrel (fun x u hx=>gv_tells ht hx)
    have:=hK φ w' (fun _ _=>rfl) hi.tmps (by cases nb<;>exact hm')
    unfold OpRes
    rcases hrun with hrun|⟨hrun,hu⟩
    ·rw[hrun];exact this
    ·rw[hrun];rw[hu] at this;exact this
   ·simp at h
  simp only at h
  split at h
  ·
   split at h
   ·rename_i ob1 v1 m1 hop
    split at h
    ·rename_i hvw
     obtain ⟨rfl,rfl,ho1⟩:=deciD_spec h ho
     have hdead:MRel w φ (deads m) w:=by
      refine ⟨KB.refl _,?_,?_,?_,?_,?_⟩
      ·intro i j b b' hb _ hl;rw[(deads_dead m i b hb).1] at hl;simp at hl
      ·intro i b hb hl;rw[(deads_dead m i b hb).1] at hl;simp at hl
      ·intro i b hb hl;rw[(deads_dead m i b hb).1] at hl;simp at hl
      ·intro i b hb hl;rw[(deads_dead m i b hb).1] at hl;simp at hl
      ·intro i b hb;rw[(deads_dead m i b hb).2];rfl
     obtain ⟨φ1,w1,hrun,hag,hlen,hm1,hv1⟩:=opA_sound hop ho1 hdead ht
     rw[deads_length] at hag
     have hc:=AV.conc_agree hag _ hvw
     have:=hK φ w1 (fun _ _=>rfl) hi.tmps (hi.mrel.below_of hm1.below.below)
     unfold OpRes
     rcases hrun with hrun|⟨hrun,hu⟩
     ·rw[hrun,hc];exact this
     ·rw[hrun];rw[hu] at this;exact this
    ·simp at h
   ·simp at h
  ·split at h
   ·
    rename_i e hop
    split at h
    ·rename_i ps hz
     split at h
     ·rename_i hp
      split at h
      case h_2=>simp at h
      rename_i d hd
      split at h
      case h_2=>simp at h
      rename_i hdl
      simp only[Option.some.injEq,Prod.mk.injEq] at h
      obtain ⟨rfl,rfl,rfl,rfl,rfl⟩:=h
      obtain ⟨φ',h1,h2,h3⟩:=hi.mrel.fill hd ps e (allPtr_imp (by simp) ps hp) (gB_hole hbh hd hdl) (allPtr_imp (by simp) ps hp) hi.okm
      obtain ⟨zv,hz1,hz2⟩:=zeroA_run (φ:=φ) hz w
      have hmap:TmR φ' tm a.tmps:=hi.tmps.to fun x hx=>AV.conc_okP h1 x (hi.okt x hx)
      have:=hK φ' _ h1 hmap h3
      unfold OpRes
      have hrun:(execOp a.eval o).run P w= .ok (.value (.pointer (some ⟨w.heap.size,0,none⟩))) (w.alloc (.cells (concs φ ps).toArray e)):=by
       simp[execOp,hop,Instr.alloc,hz1,newVar,newRow,hz2]
      rw[hrun]
      simp only[AV.conc,V1.conc,Atom.conc,h2] at this
      exact this
     ·simp at h
    ·simp at h
   ·
    rename_i e x hop
    split at h
    ·rename_i u hu
     split at h
     ·rename_i ps hps
      split at h
      ·rename_i hp
       split at h
       case h_2=>simp at h
       rename_i d hd
       split at h
       case h_2=>simp at h
       rename_i hdl
       simp only[Option.some.injEq,Prod.mk.injEq] at h
       obtain ⟨rfl,rfl,rfl,rfl,rfl⟩:=h
       have hul:u.okP (gB base m)=true:=by
        unfold gv at hu
        split at hu
        ·rename_i u' hu'
         simp only[Option.some.injEq] at hu;subst hu
         have:=rhoL_okP hi.okt hu'
         rwa[okP_val] at this
        ·simp at hu
       obtain ⟨φ',h1,h2,h3⟩:=hi.mrel.fill hd ps e hp (gB_hole hbh hd hdl) (pieces_okP hps hul) hi.okm
       have hmap:TmR φ' tm a.tmps:=hi.tmps.to fun x hx=>AV.conc_okP h1 x (hi.okt x hx)
       have:=hK φ' _ h1 hmap h3
       unfold OpRes
       have hpc:=pieces_conc (φ:=φ) hps
       have hrun:(execOp a.eval o).run P w= .ok (.value (.pointer (some ⟨w.heap.size,0,none⟩))) (w.alloc (.cells (concs φ ps).toArray e)):=by
        simp[execOp,hop,gv_tells ht hu,Instr.box,newVar,newRow,hpc]
       rw[hrun]
       simp only[AV.conc,V1.conc,Atom.conc,h2] at this
       exact this
      ·simp at h
     ·simp at h
    ·simp at h
   ·
    rename_i t len parts hop
    split at h
    ·rename_i vs hvs
     split at h
     ·rename_i ps e hps
      split at h
      ·rename_i hp
       split at h
       case h_2=>simp at h
       rename_i d hd
       split at h
       case h_2=>simp at h
       rename_i hdl
       simp only[Option.some.injEq,Prod.mk.injEq] at h
       obtain ⟨rfl,rfl,rfl,rfl,rfl⟩:=h
       have hq:∀b,memN b (ptL _)=true→gB base m b=true:=fun b hb=>ptL_ok hi.okt hvs b (memN_iff.1 hb)
       obtain ⟨φ',h1,h2,h3⟩:=hi.mrel.fill hd ps e (allPtr_imp (fun b hb=>gB_lt hi.low (hq b hb)) ps hp) (gB_hole hbh hd hdl) (allPtr_imp hq ps hp) hi.okm
       have hmap:TmR φ' tm a.tmps:=hi.tmps.to fun x hx=>AV.conc_okP h1 x (hi.okt x hx)
       have:=hK φ' _ h1 hmap h3
       unfold OpRes
       have hrun:(execOp a.eval o).run P w= .ok (.value (.slice (some ⟨w.heap.size,0,none⟩) len len)) (w.alloc (.cells (concs φ ps).toArray e)):=by
        have hpt:=partsA_tells ht _ hvs
        rw[←buildSlP_run (P:=P) (φ:=φ) (parts:=parts.map fun (i,x)=>(i,a.eval x)) (by rw[Array.toList_map];exact hpt) hps w]
        simp only[execOp,hop]
       rw[hrun]
       simp only[AV.conc,V1.conc,Atom.conc,h2] at this
       exact this
      ·simp at h
     ·simp at h
    ·simp at h
   ·
    rename_i t x hop
    split at h
    ·rename_i b off hx
     split at h
     ·rename_i ob1 v1 m1 hld
      obtain ⟨rfl,rfl,ho1⟩:=deciD_spec h ho
      simp only[loadA] at hld
      split at hld
      ·rename_i k hk
       split at hld
       ·rename_i v' hlv hv
        unfold good at hld
        split at hld
        ·simp only[Option.some.injEq,Prod.mk.injEq] at hld
         obtain ⟨_,rfl,_⟩:=hld
         have:=hK φ w (fun _ _=>rfl) hi.tmps hi.mrel
         unfold OpRes
         have hrun:(execOp a.eval o).run P w= .ok (.value (v'.conc φ)) w:=by
          simp[execOp,hop,gv_tells ht hx,Instr.loadAt,Instr.sureAddr,V1.conc,Atom.conc,loadVar_run hi.mrel hk hlv hv]
         rw[hrun]
         exact this
        ·simp at hld
       ·simp at hld
      ·simp at hld
     ·simp at h
    ·simp at h
   ·
    rename_i t x y hop
    split at h
    ·rename_i b off u hx hy
     split at h
     ·rename_i ob1 v1 m1 hst
      split at h
      ·rename_i k hk
       simp only[Option.some.injEq,Prod.mk.injEq] at h
       obtain ⟨rfl,rfl,rfl,rfl,rfl⟩:=h
       obtain ⟨k',h1,h2,h3,h4⟩:=storeA_congr (m':=m) rfl rfl hst
       rw[h2] at hk
       simp only[Option.some.injEq] at hk
       subst hk
       have hpost:=storeA_post hst hi.mrel
       have hex:execOp a.eval o=(do Instr.storeAt t ((V1.one (.ptr b off)).conc φ) (u.conc φ);pure .skip:Sem Next):=by
        simp only[execOp,hop,gv_tells ht hx,gv_tells ht hy]
       rw[←hex] at hpost
       refine opPost_res hpost ?_
       intro φ' w' hag hlen hm' hv'
       have hmap:TmR φ' tm a.tmps:=hi.tmps.to fun x hx=>AV.conc_agree hag x (hr.wft x hx)
       refine hK φ' w' (fun b hb=>hag b (by have:=gB_lt hi.low hb;simp only[ltB,Nat.blt,Nat.ble_eq] at this;omega)) hmap ?_
       rw[h1] at hm'
       exact hm'
      ·simp at h
     ·simp at h
    ·simp at h
   ·
    rename_i cl hop
    split at h
    ·rename_i x hcl
     split at h
     case h_2=>simp at h
     rename_i f vs hfn hvs
     split at h
     ·rename_i hok
      split at h
      ·rename_i ob1 r hqf
       split at h
       ·rename_i hwf
        obtain ⟨rfl,rfl,ho1⟩:=deciD_spec h ho
        have hargs:cl.args.map a.eval=(vs.map (V1.conc φ)).toArray:=by
         apply Array.ext'
         rw[Array.toList_map,valsA_tells ht _ hvs]
        have hrun:(execOp a.eval o).run P w= .ok (.enter f (vs.map (V1.conc φ)).toArray) w:=by
         simp only[execOp,hop,Sem.run_bind,resolve,hcl,fnOf_tells ht hfn,Deferred.ofValue,Sem.run_pure,Result.andThen_ok,invoke]
         rw[hargs]
         simp only[Array.empty_append,Array.append_empty]
         exact callOk_run hok _ w
        unfold OpRes
        rw[hrun,resU_enter]
        refine (hq.1 _ _ _ _ hqf ho1 φ w).mono ?_
        rintro e w' ⟨rfl,hb⟩
        exact ⟨_,rfl,hK φ w' (fun _ _=>rfl) hi.tmps (hi.mrel.below_of hb)⟩
       ·simp at h
      ·split at h
       case h_2=>simp only[hq0,reduceCtorEq] at h
       rename_i ob1 r hqf
       split at h
       ·rename_i hwf
        obtain ⟨rfl,rfl,ho1⟩:=deciD_spec h ho
        have hargs:cl.args.map a.eval=(vs.map (V1.conc φ)).toArray:=by
         apply Array.ext'
         rw[Array.toList_map,valsA_tells ht _ hvs]
        have hrun:(execOp a.eval o).run P w= .ok (.enter f (vs.map (V1.conc φ)).toArray) w:=by
         simp only[execOp,hop,Sem.run_bind,resolve,hcl,fnOf_tells ht hfn,Deferred.ofValue,Sem.run_pure,Result.andThen_ok,invoke]
         rw[hargs]
         simp only[Array.empty_append,Array.append_empty]
         exact callOk_run hok _ w
        unfold OpRes
        rw[hrun,resU_enter]
        refine (hq.2.1 _ _ _ _ _ hqf ho1 _ φ w hi.mrel).mono ?_
        rintro e w' ⟨rfl,hb⟩
        exact ⟨_,rfl,hK φ w' (fun _ _=>rfl) hi.tmps (hi.mrel.below_of hb)⟩
       ·simp at h
     ·simp at h
    ·
     rename_i hcl
     split at h
     ·rename_i b off n cp b' off' n' cp' t hvs hty
      split at h
      ·rename_i ob1 v1 m1 hst
       split at h
       ·rename_i k hk
        simp only[Option.some.injEq,Prod.mk.injEq] at h
        obtain ⟨rfl,rfl,rfl,rfl,rfl⟩:=h
        obtain ⟨k',h1,h2,h3,h4⟩:=copyA_congr (m':=m) rfl rfl rfl hst
        rw[h2] at hk
        simp only[Option.some.injEq] at hk
        subst hk
        have hpost:=copyA_post (P:=P) hty (ty:=o.type) hst hi.mrel
        have hargs:cl.args.map a.eval= #[(V1.one (.sl b off n cp)).conc φ,(V1.one (.sl b' off' n' cp')).conc φ]:=by
         apply Array.ext'
         rw[Array.toList_map,valsA_tells ht _ hvs];rfl
        have hpost:OpPost w0 φ m ((execOp a.eval o).run P w) v1 m1:=by
         simpa only[execOp,hop,resolve,hcl,invoke,builtin,Sem.run_bind,Sem.run_pure,Result.andThen_ok,hargs] using hpost
        refine opPost_res hpost ?_
        intro φ' w' hag hlen hm' hv'
        have hmap:TmR φ' tm a.tmps:=hi.tmps.to fun x hx=>AV.conc_agree hag x (hr.wft x hx)
        refine hK φ' w' (fun b hb=>hag b (by have:=gB_lt hi.low hb;simp only[ltB,Nat.blt,Nat.ble_eq] at this;omega)) hmap ?_
        rw[h1] at hm'
        exact hm'
       ·simp at h
      ·simp at h
     ·simp at h
    ·
     rename_i hcl
     split at h
     ·rename_i b off n cp b' off' n' cp' t t' hvs hty hty' hty2
      split at h
      ·rename_i hbeq
       split at h
       ·rename_i ob1 b9 len mem9 hap
        split at h
        ·rename_i k d hk hd
         split at h
         ·rename_i hfr hdl
          simp only[Option.some.injEq,Prod.mk.injEq] at h
          obtain ⟨rfl,rfl,rfl,rfl,rfl⟩:=h
          obtain ⟨k',len',rfl,hv',rfl,_,_,_⟩:=appendG_shape (m':=m) rfl rfl rfl hap
          have hk':k'=k:=by
           rw[List.getElem?_append_right (Nat.le_refl _),Nat.sub_self] at hk
           simpa using hk
          subst hk'
          simp only[AV.val.injEq,V1.one.injEq,Atom.sx.injEq] at hv'
          obtain ⟨rfl,rfl⟩:=hv'
          obtain rfl:=Nat.eq_of_beq_eq_true hbeq
          have hts:cl.argTypes= #[t,t]:=by
           apply Array.ext_getElem?
           intro j
           match j with
           |0=>simpa using hty
           |1=>simpa using hty'
           |j+2=>
            have hsz:cl.argTypes.size≤2:=by
             rcases Nat.lt_or_ge 2 cl.argTypes.size with hlt|hge
             ·rw[Array.getElem?_eq_getElem hlt] at hty2;simp at hty2
             ·exact hge
            rw[Array.getElem?_eq_none (by omega),Array.getElem?_eq_none (by simp)]
          have hpost:=appendG_post (P:=P) (ty:=o.type) hap hi.mrel
          have hargs:cl.args.map a.eval= #[(V1.one (.sl b off n cp)).conc φ,(V1.one (.sl b' off' n' cp')).conc φ]:=by
           apply Array.ext'
           rw[Array.toList_map,valsA_tells ht _ hvs];rfl
          have hpost:OpPost w0 φ m ((execOp a.eval o).run P w) (.val (.one (.sx m.length len))) (m++[k']):=by
           simpa only[execOp,hop,resolve,hcl,invoke,builtin,Sem.run_bind,Sem.run_pure,Result.andThen_ok,hargs,hts] using hpost
          obtain ⟨φ',w',hrun,hag,hlen,hm',hv'⟩:=hpost
          have hagl:∀b,gB base m b=true→φ' b=φ b:=fun b hb=>hag b (by have:=gB_lt hi.low hb;simp only[ltB,Nat.blt,Nat.ble_eq] at this;omega)
          obtain ⟨φ2,g1,g2,g3⟩:=hm'.move hagl hd (gB_hole hbh hd hdl) hfr hi.okm hi.mrel.wf
          have hmap:TmR φ2 tm a.tmps:=hi.tmps.to fun x hx=>AV.conc_okP g1 x (hi.okt x hx)
          have:=hK φ2 w' g1 hmap g3
          have hconc:(AV.val (.one (.sx m.length len))).conc φ'=(AV.val (.one (.sx hole len))).conc φ2:=by
           simp only[AV.conc,V1.conc,Atom.conc,g2]
          unfold OpRes
          rcases hrun with hrun|⟨_,hu⟩
          ·rw[hrun,hconc]
           exact this
          ·simp[unA] at hu
         ·simp at h
        ·simp at h
       ·simp at h
      ·simp at h
     ·rename_i x b off n cp t t' _ hvs hty hty' hty2
      split at h
      ·rename_i hbeq
       split at h
       ·rename_i v2 wr2 rd2 hap
        simp only[Option.some.injEq,Prod.mk.injEq] at h
        obtain ⟨rfl,rfl,rfl,rfl,rfl⟩:=h
        obtain rfl:=Nat.eq_of_beq_eq_true hbeq
        have hts:cl.argTypes= #[t,t]:=by
         apply Array.ext_getElem?
         intro j
         match j with
         |0=>simpa using hty
         |1=>simpa using hty'
         |j+2=>
          have hsz:cl.argTypes.size≤2:=by
           rcases Nat.lt_or_ge 2 cl.argTypes.size with hlt|hge
           ·rw[Array.getElem?_eq_getElem hlt] at hty2;simp at hty2
           ·exact hge
          rw[Array.getElem?_eq_none (by omega),Array.getElem?_eq_none (by simp)]
        have hargs:cl.args.map a.eval= #[x.conc φ,(V1.one (.sl b off n cp)).conc φ]:=by
         apply Array.ext'
         rw[Array.toList_map,valsA_tells ht _ hvs];rfl
        obtain ⟨φ',w',hrun,hkk⟩:=dApp_res hbh hi hap o.type (K:=fun φ' w'=>K (a.put o.dst (v2.conc φ')) w') hK
        have hrun:(execOp a.eval o).run P w= .ok (.value (v2.conc φ')) w':=by
         simpa only[execOp,hop,resolve,hcl,invoke,builtin,Sem.run_bind,Sem.run_pure,Result.andThen_ok,hargs,hts] using hrun
        unfold OpRes
        rw[hrun]
        exact hkk
       ·simp at h
      ·simp at h
     ·simp at h
    ·simp at h
   ·
    rename_i t x y hop
    split at h
    ·rename_i ps e ln cp hmk
     split at h
     ·rename_i hp
      split at h
      case h_2=>simp at h
      rename_i d hd
      split at h
      case h_2=>simp at h
      rename_i hdl
      simp only[Option.some.injEq,Prod.mk.injEq] at h
      obtain ⟨rfl,rfl,rfl,rfl,rfl⟩:=h
      obtain ⟨φ',h1,h2,h3⟩:=hi.mrel.fill hd ps e (allPtr_imp (by simp) ps hp) (gB_hole hbh hd hdl) (allPtr_imp (by simp) ps hp) hi.okm
      have hmap:TmR φ' tm a.tmps:=hi.tmps.to fun x hx=>AV.conc_okP h1 x (hi.okt x hx)
      have:=hK φ' _ h1 hmap h3
      unfold OpRes
      have hrun:(execOp a.eval o).run P w= .ok (.value (.slice (some ⟨w.heap.size,0,none⟩) ln cp)) (w.alloc (.cells (concs φ ps).toArray e)):=by
       unfold makeSlD at hmk
       split at hmk
       ·rename_i e' l c' hu hl hc
        split at hmk
        ·rename_i i z hii hz
         split at hmk
         ·rename_i hcc
          simp only[Bool.and_eq_true,Nat.beq_eq,Nat.ble_eq,Nat.blt,decide_eq_true_eq] at hcc
          obtain ⟨⟨hs,hpos⟩,g1,g2,g3,g4⟩:=hcc
          simp only[Option.some.injEq,Prod.mk.injEq] at hmk
          obtain ⟨rfl,rfl,rfl,rfl⟩:=hmk
          have hrun:=makeSl_run (P:=P) (φ:=φ) hu hii hz hs (by omega) g1 g2 g3 g4 w
          rw[←hrun]
          simp only[execOp,hop,gv_tells ht hl,gv_tells ht hc,V1.conc,Atom.conc]
         ·simp at hmk
        ·simp at hmk
       ·simp at hmk
      rw[hrun]
      simp only[AV.conc,V1.conc,Atom.conc,h2] at this
      exact this
     ·simp at h
    ·simp at h
   ·simp at h
theorem fw_sound {qf:QF} (hq:QfOK P qf) {ops:Array Oper} {hole:Nat} {o:Oper} {ob:List Prop} {v:AV} {wr:List (Nat×Blk)} {rd:List Nat} (h:FwCase P qf ops.toList tm m hole o ob v wr rd) (ho:All ob)
  {base:Nat} (hbh:base≤hole) (hi:Inv base w0 φ tm m a w) {K:Act→World→Prop}
  (hK:∀φ' w',(∀b,gB base m b=true→φ' b=φ b)→TmR φ' tm a.tmps→MRel w0 φ' (apW m wr) w'→K (a.put o.dst (v.conc φ')) w'):
  if Region.wanted o (yielded ops a.tmps) then OpRes P o a w K else K (a.put o.dst undef) w:=by
 obtain ⟨cl,x,f,vs,y,hop,hcl,hwa,hfn,hvs,hok,⟨m0,hy⟩,hk,rfl,rfl,rfl,rfl⟩:=h
 have hr:=hi.rel
 rw[wantA_sound hwa hr.tmps,if_pos rfl]
 have ht:Tells φ (rhoL (looks ops.toList o) tm) a.eval:=fun x u hu=>rho_tells hr x u (rhoL_sub hu)
 obtain ⟨hv,hs,hob⟩:=ho
 have hargs:cl.args.map a.eval=(vs.map (V1.conc φ)).toArray:=by
  apply Array.ext'
  rw[Array.toList_map,valsA_tells ht _ hvs]
 have hrun:(execOp a.eval o).run P w= .ok (.enter f (vs.map (V1.conc φ)).toArray) w:=by
  simp only[execOp,hop,Sem.run_bind,resolve,hcl,fnOf_tells ht hfn,Deferred.ofValue,Sem.run_pure,Result.andThen_ok,invoke]
  rw[hargs]
  simp only[Array.empty_append,Array.append_empty]
  exact callOk_run hok _ w
 have hdd:deadFrom m hole y.k=true:=by
  unfold FwR.ok at hk
  simp only[Bool.and_eq_true] at hk
  exact hk.2
 have hh:∀d,d<y.k→gB base m (hole+d)=false:=by
  intro d hd
  obtain ⟨b,hb,_,hbl⟩:=deadFrom_get hdd d hd
  exact gB_hole (by omega) hb hbl
 unfold OpRes
 rw[hrun,resU_enter,hv]
 refine (frame_run (hq.2.2 _ _ _ _ hy hob) hk hs hi.mrel hh hi.okm).mono ?_
 rintro e w' ⟨φ',rfl,h1,h2⟩
 have hg:∀b,gB base m b=true→φ' b=φ b:=fun b hb=>h1 b fun d hd e=>by rw[e,hh d hd] at hb;cases hb
 exact ⟨_,rfl,hK φ' w' hg (hi.tmps.to fun x hx=>AV.conc_okP hg x (hi.okt x hx)) h2⟩
end
section
variable {P : Program}
theorem putK_eq {β : Type} (tm : List AV) (d : Option Tmp) (v : AV) (k : List AV → β) : putK tm d v k = k (putA tm d v) := by
  cases d with
  | none => rfl
  | some d => simp only [putK, setK_eq, putA]
theorem lexD_spec {qf : QF} {S : Nat → Bool} {L : List Oper} : ∀ (rest : List Oper) (tm : List AV) (m : List Blk) (c : List Bool) (h : Nat) {ob : List Prop} {c' : List Bool} {tm' : List AV} {m' : List Blk} {rows : List Row},
    lexD P qf S L rest tm m c h = some (ob, c', tm', m', rows) → rows.length = rest.length ∧ tm' = Tx rows (fun _ => true) 0 tm ∧ m' = Mx rows (fun _ => true) 0 m ∧
    ∀ j o, rest[j]? = some o → ∃ r obj cj cj' hj, h ≤ hj ∧ rows[j]? = some r ∧ r.dst = o.dst ∧ r.look = looks L o ∧ (All ob → All obj) ∧
      dstep P qf S L (Tx rows (fun i => decide (i < j)) 0 tm) (Mx rows (fun i => decide (i < j)) 0 m) cj hj o = some (obj, cj', r.v, r.wr, r.rd)
  | [], tm, m, c, h, ob, c', tm', m', rows, hx => by
    simp only [lexD, Option.some.injEq, Prod.mk.injEq] at hx
    obtain ⟨rfl, rfl, rfl, rfl, rfl⟩ := hx
    exact ⟨rfl, rfl, rfl, fun j o hj => by simp at hj⟩
  | o :: rest, tm, m, c, h, ob, c', tm', m', rows, hx => by
    simp only [lexD, putK_eq] at hx
    split at hx
    · rename_i ob1 c1 v wr rd hd
      split at hx
      · rename_i ob2 c2 tm2 m2 rows2 hl
        simp only [Option.some.injEq, Prod.mk.injEq] at hx
        obtain ⟨rfl, rfl, rfl, rfl, rfl⟩ := hx
        obtain ⟨h1, h2, h3, h4⟩ := lexD_spec rest _ _ _ _ hl
        refine ⟨by simp [h1], ?_, ?_, ?_⟩
        · simp only [Tx, if_true]; rw [Tx_shift]; exact h2
        · simp only [Mx, if_true]; rw [Mx_shift]; exact h3
        · intro j o' hj
          cases j with
          | zero =>
            simp only [List.getElem?_cons_zero, Option.some.injEq] at hj
            subst hj
            refine ⟨_, ob1, c, c1, h, Nat.le_refl _, rfl, rfl, rfl, fun ha => (All_append.1 ha).1, ?_⟩
            rw [Tx_none _ _ _ _ (by simp), Mx_none _ _ _ _ (by simp)]
            exact hd
          | succ j =>
            obtain ⟨r, obj, cj, cj', hj', g0, g1, g2, g3, g4, g5⟩ := h4 j o' (by simpa using hj)
            refine ⟨r, obj, cj, cj', hj', by omega, by simpa using g1, g2, g3, fun ha => g4 (All_append.1 ha).2, ?_⟩
            simp only [Tx, Mx, show decide (0 < j + 1) = true by simp, if_true]
            rw [Tx_shift, Mx_shift]
            simp only [Nat.add_lt_add_iff_right]
            exact g5
      · simp at hx
    · simp at hx
theorem preOf_spec {acc : List Nat} {i : Nat} : ∀ {es : List Edge}, (preOf acc es).testBit i = true → ∃ e ∈ es, Region.binds .any e = true ∧ (e.on = i ∨ (acc.getD e.on 0).testBit i = true)
  | [], h => by simp [preOf] at h
  | e :: es, h => by
    simp only [preOf] at h
    split at h
    · rename_i hb
      simp only [Nat.testBit_or, Bool.or_eq_true] at h
      rcases h with (h | h) | h
      · rw [Nat.testBit_two_pow] at h
        exact ⟨e, by simp, hb, .inl (by simpa using h)⟩
      · exact ⟨e, by simp, hb, .inr h⟩
      · obtain ⟨e', h1, h2⟩ := preOf_spec h
        exact ⟨e', by simp [h1], h2⟩
    · obtain ⟨e', h1, h2⟩ := preOf_spec h
      exact ⟨e', by simp [h1], h2⟩
theorem pres_spec : ∀ (os : List Oper) (acc : List Nat), (∀ i, i < acc.length → (pres os acc)[i]? = acc[i]?) ∧
    ∀ j o, os[j]? = some o → ∃ acc', (pres os acc)[acc.length + j]? = some (preOf acc' o.after.toList) ∧ acc'.length = acc.length + j ∧ ∀ i, i < acc'.length → (pres os acc)[i]? = acc'[i]?
  | [], acc => ⟨fun _ _ => rfl, fun j o h => by simp at h⟩
  | o :: os, acc => by
    obtain ⟨h1, h2⟩ := pres_spec os (acc ++ [preOf acc o.after.toList])
    simp only [List.length_append, List.length_cons, List.length_nil] at h1 h2
    refine ⟨fun i hi => ?_, fun j o' hj => ?_⟩
    · simp only [pres]; rw [h1 i (by omega), List.getElem?_append_left hi]
    · cases j with
      | zero =>
        simp only [List.getElem?_cons_zero, Option.some.injEq] at hj
        subst hj
        refine ⟨acc, ?_, rfl, fun i hi => ?_⟩
        · simp only [pres, Nat.add_zero]; rw [h1 acc.length (by omega)]; simp
        · simp only [pres]; rw [h1 i (by omega), List.getElem?_append_left hi]
      | succ j =>
        obtain ⟨acc', g1, g2, g3⟩ := h2 j o' (by simpa using hj)
        refine ⟨acc', ?_, by omega, fun i hi => ?_⟩
        · simp only [pres]; rw [show acc.length + (j + 1) = acc.length + (0 + 1) + j by omega]; exact g1
        · simp only [pres]; exact g3 i hi
def Closed (L : List Oper) (X : Nat → Bool) : Prop := ∀ j o, L[j]? = some o → X j = true → ∀ e ∈ o.after.toList, Region.binds .any e = true → X e.on = true
theorem edgesOk_spec : ∀ (os : List Oper) (k j : Nat) (o : Oper), edgesOk k os = true → os[j]? = some o → ∀ e ∈ o.after.toList, Region.binds .any e = true → e.on < k + j
  | [], _, _, _, _, h, _, _, _ => by simp at h
  | p :: os, k, 0, o, h, ho, e, he, hb => by
    simp only [List.getElem?_cons_zero, Option.some.injEq] at ho
    subst ho
    simp only [edgesOk, Bool.and_eq_true, List.all_eq_true] at h
    have := h.1 e he
    simp only [hb, Bool.not_true, Bool.false_or, Nat.blt, Nat.ble_eq] at this
    omega
  | p :: os, k, j + 1, o, h, ho, e, he, hb => by
    simp only [edgesOk, Bool.and_eq_true] at h
    have := edgesOk_spec os (k + 1) j o h.2 (by simpa using ho) e he hb
    omega
theorem pre_closed {L : List Oper} {X : Nat → Bool} (hc : Closed L X) (he : edgesOk 0 L = true) : ∀ (n j : Nat), j ≤ n → ∀ (o : Oper) (p i : Nat), L[j]? = some o → (pres L [])[j]? = some p → p.testBit i = true →
    (∀ e ∈ o.after.toList, Region.binds .any e = true → X e.on = true) → X i = true
  | 0, j, hj, o, p, i, ho, hp, ht, hx => by
    obtain ⟨acc', g1, g2, g3⟩ := (pres_spec L []).2 j o ho
    simp only [List.length_nil, Nat.zero_add] at g1 g2
    rw [hp] at g1
    simp only [Option.some.injEq] at g1
    subst g1
    obtain ⟨e, h1, h2, h3⟩ := preOf_spec ht
    have := edgesOk_spec L 0 j o he ho e h1 h2
    omega
  | n + 1, j, hj, o, p, i, ho, hp, ht, hx => by
    obtain ⟨acc', g1, g2, g3⟩ := (pres_spec L []).2 j o ho
    simp only [List.length_nil, Nat.zero_add] at g1 g2
    rw [hp] at g1
    simp only [Option.some.injEq] at g1
    subst g1
    obtain ⟨e, h1, h2, h3⟩ := preOf_spec ht
    have hlt := edgesOk_spec L 0 j o he ho e h1 h2
    simp only [Nat.zero_add] at hlt
    have hXe := hx e h1 h2
    rcases h3 with h3 | h3
    · rw [← h3]; exact hXe
    · have hjl := lt_of_getElem? ho
      have hoe : ∃ oe, L[e.on]? = some oe := ⟨_, List.getElem?_eq_getElem (by omega)⟩
      obtain ⟨oe, hoe⟩ := hoe
      have hpe : (pres L [])[e.on]? = some (acc'.getD e.on 0) := by
        rw [g3 e.on (by omega), List.getD_eq_getElem?_getD, List.getElem?_eq_getElem (by omega : e.on < acc'.length)]; rfl
      exact pre_closed hc he n e.on (by omega) oe _ i hoe hpe h3 (hc e.on oe hoe hXe)
theorem rowsOk_spec {base total : Nat} {rows : List Row} : ∀ (rs : List Row) (ps : List Nat) (j k : Nat) (r : Row), rowsOk base total rows j ps rs = true → rs[k]? = some r →
    ∃ p, ps[k]? = some p ∧ rowOk base total rows (j + k) p r = true
  | [], _, _, _, _, _, h => by simp at h
  | q :: rs, [], _, _, _, h, _ => by simp [rowsOk] at h
  | q :: rs, p :: ps, j, 0, r, h, hr => by
    simp only [List.getElem?_cons_zero, Option.some.injEq] at hr
    subst hr
    simp only [rowsOk, Bool.and_eq_true] at h
    exact ⟨p, rfl, h.1⟩
  | q :: rs, p :: ps, j, k + 1, r, h, hr => by
    simp only [rowsOk, Bool.and_eq_true] at h
    obtain ⟨p', h1, h2⟩ := rowsOk_spec rs ps (j + 1) k r h.2 (by simpa using hr)
    exact ⟨p', by simpa using h1, by rwa [show j + (k + 1) = j + 1 + k by omega]⟩
theorem prevOk_spec {q : Row} {p : Nat} : ∀ (rs : List Row) (k i : Nat) (r : Row), prevOk q p k rs = true → rs[i]? = some r → conf r q = true → p.testBit (k + i) = true
  | [], _, _, _, _, h, _ => by simp at h
  | x :: rs, k, 0, r, h, hr, hc => by
    simp only [List.getElem?_cons_zero, Option.some.injEq] at hr
    subst hr
    simp only [prevOk, Bool.and_eq_true, hc, Bool.not_true, Bool.false_or] at h
    simpa using h.1
  | x :: rs, k, i + 1, r, h, hr, hc => by
    simp only [prevOk, Bool.and_eq_true] at h
    have := prevOk_spec rs (k + 1) i r h.2 (by simpa using hr) hc
    rwa [show k + (i + 1) = k + 1 + i by omega]
theorem owned_spec {p j b : Nat} : ∀ (rs : List Row) (k : Nat), owned p j b k rs = true → ∃ i r, rs[i]? = some r ∧ (k + i = j ∨ p.testBit (k + i) = true) ∧ b ∈ wbs r.wr
  | [], _, h => by simp [owned] at h
  | r :: rs, k, h => by
    simp only [owned, Bool.or_eq_true, Bool.and_eq_true, Nat.beq_eq] at h
    rcases h with ⟨h1, h2⟩ | h
    · exact ⟨0, r, rfl, by simpa using h1, memN_iff.1 h2⟩
    · obtain ⟨i, q, h1, h2, h3⟩ := owned_spec rs (k + 1) h
      exact ⟨i + 1, q, by simpa using h1, by rwa [show k + (i + 1) = k + 1 + i by omega], h3⟩
theorem gB_apW {base : Nat} : ∀ {ws : List (Nat × Blk)} {m : List Blk}, (∀ b k, (b, k) ∈ ws → k.fil = true ∨ b < base) → ∀ {b : Nat}, gB base m b = true → gB base (apW m ws) b = true
  | [], _, _, _, hb => hb
  | (c, k) :: ws, m, h, b, hb => by
    simp only [apW]
    refine gB_apW (fun b k hk => h b k (by simp [hk])) ?_
    simp only [gB, Bool.or_eq_true] at hb ⊢
    rcases hb with hb | hb
    · exact .inl hb
    · have hlt : b < m.length := by
        unfold liveB at hb
        split at hb
        · rename_i q hq; exact lt_of_getElem? hq
        · cases hb
      by_cases hc : c = b
      · subst hc
        rcases h c k (by simp) with h1 | h1
        · exact .inr (by simp only [liveB, List.getElem?_set_self hlt, h1])
        · exact .inl (by simp only [Nat.blt, Nat.ble_eq]; omega)
      · exact .inr (by simp only [liveB, List.getElem?_set_ne hc]; exact hb)
theorem gB_new {base : Nat} : ∀ {ws : List (Nat × Blk)} {m : List Blk}, (∀ b k, (b, k) ∈ ws → k.fil = true ∨ b < base) → ∀ {b : Nat}, b ∈ wbs ws → b < m.length → gB base (apW m ws) b = true
  | [], _, _, _, hb, _ => by simp [wbs] at hb
  | (c, k) :: ws, m, h, b, hb, hl => by
    simp only [apW]
    have h' : ∀ b k, (b, k) ∈ ws → k.fil = true ∨ b < base := fun b k hk => h b k (by simp [hk])
    by_cases hw : b ∈ wbs ws
    · exact gB_new h' hw (by simpa using hl)
    · simp only [wbs, List.mem_cons] at hb
      rcases hb with rfl | hb
      · refine gB_apW h' ?_
        simp only [gB, Bool.or_eq_true]
        rcases h b k (by simp) with h1 | h1
        · exact .inr (by simp only [liveB, List.getElem?_set_self hl, h1])
        · exact .inl (by simp only [Nat.blt, Nat.ble_eq]; omega)
      · exact absurd hb hw
theorem Mx_live {base : Nat} (X : Nat → Bool) : ∀ (rs : List Row) (k : Nat) (m : List Blk), (∀ (i : Nat) (r : Row) (b : Nat) (q : Blk), rs[i]? = some r → (b, q) ∈ r.wr → q.fil = true ∨ b < base) → ∀ b, gB base m b = true → gB base (Mx rs X k m) b = true
  | [], _, _, _, _, h => h
  | r :: rs, k, m, hw, b, h => by
    simp only [Mx]
    refine Mx_live X rs (k + 1) _ (fun i q b x hq hx => hw (i + 1) q b x (by simpa using hq) hx) b ?_
    split
    · exact gB_apW (fun b' q hq => hw 0 r b' q rfl hq) h
    · exact h
theorem Mx_live_new {base : Nat} (X : Nat → Bool) : ∀ (rs : List Row) (k : Nat) (m : List Blk), (∀ (i : Nat) (r : Row) (b : Nat) (q : Blk), rs[i]? = some r → (b, q) ∈ r.wr → q.fil = true ∨ b < base) → ∀ (i : Nat) (r : Row) (b : Nat), rs[i]? = some r → b ∈ wbs r.wr →
    X (k + i) = true → b < m.length → gB base (Mx rs X k m) b = true
  | [], _, _, _, _, _, _, h, _, _, _ => by simp at h
  | q :: rs, k, m, hw, 0, r, b, h, hb, hX, hl => by
    simp only [List.getElem?_cons_zero, Option.some.injEq] at h
    subst h
    simp only [Nat.add_zero] at hX
    simp only [Mx, hX, if_true]
    refine Mx_live X rs (k + 1) _ (fun i q b x hq hx => hw (i + 1) q b x (by simpa using hq) hx) b ?_
    exact gB_new (fun b' x hx => hw 0 q b' x rfl hx) hb hl
  | q :: rs, k, m, hw, i + 1, r, b, h, hb, hX, hl => by
    simp only [Mx]
    refine Mx_live_new X rs (k + 1) _ (fun i q b x hq hx => hw (i + 1) q b x (by simpa using hq) hx) i r b (by simpa using h) hb (by rwa [show k + 1 + i = k + (i + 1) by omega]) ?_
    split
    · rw [apW_length]; exact hl
    · exact hl
def cntF : Nat → (Nat → Bool) → Nat
  | 0, _ => 0
  | n + 1, X => (if X n then 0 else 1) + cntF n X
theorem cntF_same : ∀ (n : Nat) (X Y : Nat → Bool), (∀ i, i < n → X i = Y i) → cntF n X = cntF n Y
  | 0, _, _, _ => rfl
  | n + 1, X, Y, h => by simp only [cntF, h n (by omega), cntF_same n X Y fun i hi => h i (by omega)]
theorem cntF_insert : ∀ (n j : Nat) (X Y : Nat → Bool), j < n → X j = false → (∀ i, Y i = (X i || decide (i = j))) → cntF n Y + 1 = cntF n X
  | 0, _, _, _, h, _, _ => by omega
  | n + 1, j, X, Y, h, hX, hY => by
    simp only [cntF]
    by_cases hj : j = n
    · subst hj
      rw [cntF_same j Y X fun i hi => by rw [hY, decide_eq_false (by omega), Bool.or_false]]
      have : Y j = true := by rw [hY]; simp
      simp only [this, hX, if_true, Bool.false_eq_true, if_false]; omega
    · have ih := cntF_insert n j X Y (by omega) hX hY
      have : Y n = X n := by rw [hY, decide_eq_false (by omega), Bool.or_false]
      rw [this]; omega
theorem cntF_zero : ∀ (n : Nat) (X : Nat → Bool), cntF n X = 0 → ∀ i, i < n → X i = true
  | 0, _, _, i, hi => by omega
  | n + 1, X, h, i, hi => by
    simp only [cntF] at h
    by_cases hin : i = n
    · subst hin
      cases hx : X i
      · simp [hx] at h
      · rfl
    · exact cntF_zero n X (by omega) i (by omega)
theorem wrOk_spec {base : Nat} {f : Nat → Bool} : ∀ {ws : List (Nat × Blk)}, wrOk base f ws = true → ∀ b k, (b, k) ∈ ws → (k.fil = true ∨ b < base) ∧ allPtr f k.ps = true
  | [], _, b, k, h => by simp at h
  | (c, q) :: ws, h, b, k, hk => by
    simp only [wrOk, Bool.and_eq_true, Bool.or_eq_true, Nat.blt, Nat.ble_eq] at h
    rcases List.mem_cons.1 hk with hk | hk
    · simp only [Prod.mk.injEq] at hk
      obtain ⟨rfl, rfl⟩ := hk
      exact ⟨h.1.1.imp id (fun h => by omega), h.1.2⟩
    · exact wrOk_spec h.2 b k hk
structure Facts (P : Program) (qf : QF) (S : Nat → Bool) (L : List Oper) (base total : Nat) (rows : List Row) (tm0 : List AV) (m0 : List Blk) : Prop where
  len : rows.length = L.length
  edges : edgesOk 0 L = true
  lex : ∀ j o, L[j]? = some o → ∃ r obj cj cj' hj, base ≤ hj ∧ rows[j]? = some r ∧ r.dst = o.dst ∧ r.look = looks L o ∧ All obj ∧
      dstep P qf S L (Tx rows (fun i => decide (i < j)) 0 tm0) (Mx rows (fun i => decide (i < j)) 0 m0) cj hj o = some (obj, cj', r.v, r.wr, r.rd)
  ok : ∀ j r, rows[j]? = some r → ∃ p, (pres L [])[j]? = some p ∧ rowOk base total rows j p r = true
  tot : m0.length = total
  base0 : base ≤ m0.length
theorem Facts.wrLive {qf : QF} {S : Nat → Bool} {L : List Oper} {base total : Nat} {rows : List Row} {tm0 : List AV} {m0 : List Blk}
    (F : Facts P qf S L base total rows tm0 m0) : ∀ (i : Nat) (r : Row) (b : Nat) (q : Blk), rows[i]? = some r → (b, q) ∈ r.wr → q.fil = true ∨ b < base := by
  intro i r b q hr hw
  obtain ⟨p, _, h⟩ := F.ok i r hr
  simp only [rowOk, Bool.and_eq_true] at h
  exact (wrOk_spec h.2.2 b q hw).1
theorem draw_step {qf : QF} (hq : QfOK P qf) {S : Nat → Bool} {ops : Array Oper} {base total : Nat} {rows : List Row} {tm0 : List AV} {m0 : List Blk}
    (F : Facts P qf S ops.toList base total rows tm0 m0) {X Y : Nat → Bool} (hcl : Closed ops.toList X) {j : Nat} {o : Oper} (ho : ops.toList[j]? = some o) (hXj : X j = false)
    (hrdy : ∀ e ∈ o.after.toList, Region.binds .any e = true → X e.on = true) (hY : ∀ i, Y i = (X i || decide (i = j)))
    {w0 : Base} {w : World} {φ : Loc} {a : Act} (hi : Inv base w0 φ (Tx rows X 0 tm0) (Mx rows X 0 m0) a w) {K : Act → World → Prop}
    (hK : ∀ φ' a' w', (∀ b, b < base → φ' b = φ b) → Inv base w0 φ' (Tx rows Y 0 tm0) (Mx rows Y 0 m0) a' w' → K a' w') :
    if Region.wanted o (yielded ops a.tmps) then OpRes P o a w K else K (a.put o.dst undef) w := by
  obtain ⟨r, obj, cj, cj', hj, hbj, hr, hdst, hlook, hobj, hd⟩ := F.lex j o ho
  obtain ⟨p, hp, hrow⟩ := F.ok j r hr
  simp only [rowOk, Bool.and_eq_true] at hrow
  obtain ⟨hprev, hvok, hwok⟩ := hrow
  have hbefore : ∀ i q, i < j → rows[i]? = some q → conf q r = true → X i = true := by
    intro i q hij hq hc
    have := prevOk_spec (rows.take j) 0 i q hprev (by rw [List.getElem?_take_of_lt hij]; exact hq) hc
    rw [Nat.zero_add] at this
    exact pre_closed hcl F.edges j j (Nat.le_refl _) o p i ho hp this hrdy
  have hafter : ∀ i q, j < i → rows[i]? = some q → conf r q = true → X i = false := by
    intro i q hij hq hc
    cases hx : X i with
    | false => rfl
    | true =>
      have hil := lt_of_getElem? hq
      rw [F.len] at hil
      have hoi : ∃ oi, ops.toList[i]? = some oi := ⟨_, List.getElem?_eq_getElem hil⟩
      obtain ⟨oi, hoi⟩ := hoi
      obtain ⟨pi, hpi, hrowi⟩ := F.ok i q hq
      simp only [rowOk, Bool.and_eq_true] at hrowi
      have := prevOk_spec (rows.take i) 0 j r hrowi.1 (by rw [List.getElem?_take_of_lt hij]; exact hr) hc
      rw [Nat.zero_add] at this
      have := pre_closed hcl F.edges i i (Nat.le_refl _) oi pi j hoi hpi this (hcl i oi hoi hx)
      rw [hXj] at this; cases this
  have hsplit : ∀ i q, rows[i]? = some q → (i < j → conf q r = true) → (j < i → conf r q = true) → X (0 + i) = decide (0 + i < j) := by
    intro i q hq h1 h2
    rw [Nat.zero_add]
    by_cases hij : i < j
    · rw [hbefore i q hij hq (h1 hij)]; simp [hij]
    · by_cases hji : j < i
      · rw [hafter i q hji hq (h2 hji)]; simp; omega
      · have : i = j := by omega
        subst this; rw [hXj]; simp
  have ht : ∀ t ∈ looks ops.toList o, (Tx rows (fun i => decide (i < j)) 0 tm0)[t]? = (Tx rows X 0 tm0)[t]? := by
    intro t ht
    refine Tx_get rows _ _ 0 _ _ t rfl rfl fun i q hq hdq => ?_
    refine (hsplit i q hq ?_ ?_).symm
    · intro _; simp [conf, memO, hdq, hlook, memN_spec.2 ht]
    · intro _; simp [conf, memO, hdq, hlook, memN_spec.2 ht]
  have hb : ∀ b ∈ r.rd, (Mx rows (fun i => decide (i < j)) 0 m0)[b]? = (Mx rows X 0 m0)[b]? := by
    intro b hb
    refine Mx_get rows _ _ 0 _ _ b rfl rfl fun i q hq hdq => ?_
    refine (hsplit i q hq ?_ ?_).symm
    · intro _; simp [conf, anyIn_iff.2 ⟨b, hdq, hb⟩]
    · intro _; simp [conf, anyIn_iff.2 ⟨b, hdq, hb⟩]
  have hTY : Tx rows Y 0 tm0 = putA (Tx rows X 0 tm0) o.dst r.v := by
    rw [← hdst]
    refine Tx_insert rows X Y 0 j r tm0 hr (by rwa [Nat.zero_add]) (fun i => by rw [hY, Nat.zero_add]) ?_
    intro i q hij hq hx
    rw [Nat.zero_add] at hx
    cases hs : sameD r.dst q.dst with
    | false => rfl
    | true => rw [hafter i q hij hq (by simp [conf, hs])] at hx; cases hx
  have hMY : Mx rows Y 0 m0 = apW (Mx rows X 0 m0) r.wr := by
    refine Mx_insert rows X Y 0 j r m0 hr (by rwa [Nat.zero_add]) (fun i => by rw [hY, Nat.zero_add]) ?_
    intro i q hij hq hx
    rw [Nat.zero_add] at hx
    cases hs : anyIn (wbs r.wr) (wbs q.wr) with
    | false => rfl
    | true => rw [hafter i q hij hq (by simp [conf, hs])] at hx; cases hx
  have hwl := F.wrLive
  have hmay : ∀ b, mayP base total rows j p b = true → gB base (Mx rows Y 0 m0) b = true := by
    intro b hb
    simp only [mayP, Bool.or_eq_true, Bool.and_eq_true, Nat.blt, Nat.ble_eq] at hb
    rcases hb with hb | ⟨hb, hown⟩
    · simp only [gB, Bool.or_eq_true, Nat.blt, Nat.ble_eq]; exact .inl hb
    · obtain ⟨i, q, h1, h2, h3⟩ := owned_spec rows 0 hown
      rw [Nat.zero_add] at h2
      refine Mx_live_new Y rows 0 m0 hwl i q b h1 h3 ?_ (by rw [F.tot]; exact hb)
      rw [Nat.zero_add, hY]
      rcases h2 with h2 | h2
      · simp [h2]
      · rw [pre_closed hcl F.edges j j (Nat.le_refl _) o p i ho hp h2 hrdy]; rfl
  have hup : ∀ b, gB base (Mx rows X 0 m0) b = true → gB base (Mx rows Y 0 m0) b = true := by
    intro b hb
    rw [hMY]
    exact gB_apW (fun b' k hk => hwl j r b' k hr hk) hb
  have goal : ∀ φ' w', (∀ b, gB base (Mx rows X 0 m0) b = true → φ' b = φ b) → TmR φ' (Tx rows X 0 tm0) a.tmps → MRel w0 φ' (apW (Mx rows X 0 m0) r.wr) w' → K (a.put o.dst (r.v.conc φ')) w' := by
   intro φ' w' hag htm hm'
   refine hK φ' _ w' (fun b hb => hag b (by simp only [gB, Bool.or_eq_true, Nat.blt, Nat.ble_eq]; exact .inl hb)) ⟨by rw [Mx_length]; exact F.base0, ?_, (by cases o.dst <;> exact hi.defs), ?_, ?_, ?_⟩
   · rw [hTY]
     cases o.dst with
     | none => exact htm
     | some d => simp only [Act.put, putA]; exact htm.set d _
   · intro x hx
     rw [hTY] at hx
     have : x ∈ Tx rows X 0 tm0 ∨ x = r.v := by
       cases hdd : o.dst with
       | none => rw [hdd] at hx; exact .inl hx
       | some d => rw [hdd] at hx; exact List.mem_or_eq_of_mem_set hx
     rcases this with hx | rfl
     · exact AV.okP_imp hup x (hi.okt x hx)
     · exact AV.okP_imp hmay _ hvok
   · intro i b hb hl
     rw [hMY] at hb
     rcases apW_get _ _ _ _ hb with hb | ⟨hb, _⟩
     · exact allPtr_imp hmay _ (wrOk_spec hwok i b hb).2
     · exact allPtr_imp hup _ (hi.okm i b hb hl)
   · rw [hMY]; exact hm'
  rcases dstep_split hd with hd0 | hfw
  · exact dstep_sound (qf := qf0 qf) ⟨hq.1, hq.2.1, fun _ _ _ _ h => by cases h⟩ (fun _ _ _ => rfl) (dstep_congr (fun _ _ _ => rfl) ht (by rw [Mx_length, Mx_length]) hd0 hb) hobj hbj hi goal
  · exact fw_sound hq (hfw.congr ht (by rw [Mx_length, Mx_length]) hb) hobj hbj hi goal
theorem ready_spec {ops : Array Oper} {listed : Array Bool} {i : Nat} : i ∈ Region.ready .any ops listed ↔ i < ops.size ∧ listed.getD i true = false ∧ ∃ o, ops[i]? = some o ∧ ∀ e ∈ o.after.toList, Region.binds .any e = true → listed.getD e.on false = true := by
  unfold Region.ready
  simp only [List.mem_filter, List.mem_range, Bool.and_eq_true, Bool.not_eq_true']
  refine and_congr_right fun hi => and_congr_right fun _ => ?_
  have ho : ops[i]? = some ops[i] := Array.getElem?_eq_getElem hi
  rw [ho]
  simp only [Option.map_some, Option.getD_some, Array.all_eq_true', Option.some.injEq, exists_eq_left']
  constructor
  · intro h e he hb
    have := h e (by simpa using he)
    simpa [hb] using this
  · intro h e he
    cases hb : Region.binds .any e with
    | false => simp
    | true => simpa using h e (by simpa using he) hb
theorem getD_true_false {listed : Array Bool} {i : Nat} (h : i < listed.size) : listed.getD i true = listed.getD i false := by
  simp [Array.getD, h]
theorem draw_any {qf : QF} (hq : QfOK P qf) {S : Nat → Bool} {ops : Array Oper} {base total : Nat} {rows : List Row} {tm0 : List AV} {m0 : List Blk}
    (F : Facts P qf S ops.toList base total rows tm0 m0) {w0 : Base} {φ0 : Loc} {Q : Exit → Act → World → Prop}
    (hQ : ∀ φ' a' w', (∀ b, b < base → φ' b = φ0 b) → Inv base w0 φ' (Tx rows (fun _ => true) 0 tm0) (Mx rows (fun _ => true) 0 m0) a' w' → Q .normal a' w') :
    ∀ (fuel : Nat) (listed : Array Bool) (φ : Loc) (a : Act) (w : World), listed.size = ops.size → cntF ops.size (fun i => listed.getD i false) ≤ fuel → Closed ops.toList (fun i => listed.getD i false) →
      (∀ b, b < base → φ b = φ0 b) → Inv base w0 φ (Tx rows (fun i => listed.getD i false) 0 tm0) (Mx rows (fun i => listed.getD i false) 0 m0) a w → wpAny P .any ops Q fuel listed a w := by
  have hend : ∀ (listed : Array Bool) (φ : Loc) (a : Act) (w : World), listed.size = ops.size → Region.ready .any ops listed = [] →
      (∀ b, b < base → φ b = φ0 b) → Inv base w0 φ (Tx rows (fun i => listed.getD i false) 0 tm0) (Mx rows (fun i => listed.getD i false) 0 m0) a w → Q .normal a w := by
    intro listed φ a w hsz hrd hφ hi
    have hall : ∀ n i, i ≤ n → i < ops.size → listed.getD i false = true := by
      intro n
      induction n with
      | zero =>
        intro i hi hin
        cases hx : listed.getD i false with
        | true => rfl
        | false =>
          have : i ∈ Region.ready .any ops listed := by
            refine ready_spec.2 ⟨hin, by rw [getD_true_false (by omega)]; exact hx, ops[i], Array.getElem?_eq_getElem hin, fun e he hb => ?_⟩
            have := edgesOk_spec ops.toList 0 i ops[i] F.edges (by rw [Array.getElem?_toList]; exact Array.getElem?_eq_getElem hin) e he hb
            omega
          rw [hrd] at this; simp at this
      | succ n ih =>
        intro i hi hin
        cases hx : listed.getD i false with
        | true => rfl
        | false =>
          have : i ∈ Region.ready .any ops listed := by
            refine ready_spec.2 ⟨hin, by rw [getD_true_false (by omega)]; exact hx, ops[i], Array.getElem?_eq_getElem hin, fun e he hb => ?_⟩
            have := edgesOk_spec ops.toList 0 i ops[i] F.edges (by rw [Array.getElem?_toList]; exact Array.getElem?_eq_getElem hin) e he hb
            exact ih e.on (by omega) (by omega)
          rw [hrd] at this; simp at this
    have hlen : rows.length = ops.size := by rw [F.len]; simp
    have hX : ∀ i, 0 ≤ i → i < 0 + rows.length → listed.getD i false = (fun _ => true) i := fun i _ h => hall i i (Nat.le_refl _) (by omega)
    refine hQ φ a w hφ ?_
    rw [← Tx_congr rows _ _ 0 tm0 hX, ← Mx_congr rows _ _ 0 m0 hX]
    exact hi
  intro fuel
  induction fuel with
  | zero =>
    intro listed φ a w hsz hcnt hcl hφ hi
    have hrd : Region.ready .any ops listed = [] := by
      rw [List.eq_nil_iff_forall_not_mem]
      intro i him
      obtain ⟨h1, h2, _⟩ := ready_spec.1 him
      have := cntF_zero ops.size (fun i => listed.getD i false) (Nat.le_zero.1 hcnt) i h1
      rw [getD_true_false (by omega)] at h2
      rw [h2] at this; cases this
    exact ⟨hrd, hend listed φ a w hsz hrd hφ hi⟩
  | succ fuel ih =>
    intro listed φ a w hsz hcnt hcl hφ hi
    refine ⟨fun hrd => hend listed φ a w hsz hrd hφ hi, fun j hj => ?_⟩
    obtain ⟨h1, h2, o, ho, h3⟩ := ready_spec.1 hj
    rw [getD_true_false (by omega)] at h2
    have hY : ∀ i, (fun i => (listed.setIfInBounds j true).getD i false) i = ((fun i => listed.getD i false) i || decide (i = j)) := by
      intro i
      simp only [Array.getD_eq_getD_getElem?, Array.getElem?_setIfInBounds]
      by_cases hij : j = i
      · subst hij; simp [hsz, h1]
      · rw [if_neg hij, decide_eq_false (by omega), Bool.or_false]
    unfold wpOp
    rw [ho]
    refine (show ∀ {A : Prop} {b : Bool} {B C D : Prop}, (if b = true then A else C) → (A → B) → (if b = true then B ∨ D else C) from fun {A b B C D} h g => by cases b with | true => exact .inl (g h) | false => exact h) (draw_step hq F (X := fun i => listed.getD i false) (Y := fun i => (listed.setIfInBounds j true).getD i false) hcl (by rw [Array.getElem?_toList]; exact ho) h2 h3 hY hi ?_) (fun h => OpRes.wp h)
    intro φ' a' w' hag hi'
    refine ih _ φ' a' w' (by simp [hsz]) ?_ ?_ (fun b hb => (hag b hb).trans (hφ b hb)) hi'
    · have := cntF_insert ops.size j (fun i => listed.getD i false) (fun i => (listed.setIfInBounds j true).getD i false) h1 h2 hY
      omega
    · intro i oi hoi hx e he hb
      rw [hY] at hx ⊢
      simp only [Bool.or_eq_true, decide_eq_true_eq] at hx ⊢
      rcases hx with hx | rfl
      · exact .inl (hcl i oi hoi hx e he hb)
      · rw [Array.getElem?_toList, ho] at hoi
        simp only [Option.some.injEq] at hoi
        subst hoi
        exact .inl (h3 e he hb)
theorem drawA_sound {E : Env} (hE : EnvOK E) {S : Nat → Bool} {ops : Array Oper} {id : Nat} {Q : Exit → Act → World → Prop} {c c' : List Bool} {ob : List Prop} {tm tm' : List AV} {mem mem' : List Blk}
    {w0 : Base} {w : World} {φ : Loc} {a : Act} (h : drawA E.P (E.fn, E.fm, E.fw) S ops.toList tm mem c = some (ob, c', tm', mem')) (ho : All ob) (hr : Rel w0 φ tm mem a w)
    (hQ : ∀ φ' a' w', Agree mem.length φ φ' → mem.length ≤ mem'.length → Rel w0 φ' tm' mem' a' w' → Q .normal a' w') : (Code.region id ops true).wp E.P Q a w := by
  unfold drawA at h
  split at h
  · rename_i ob1 c1 tm1 mem1 rows hl
    split at h
    · rename_i hc
      simp only [Option.some.injEq, Prod.mk.injEq] at h
      obtain ⟨rfl, rfl, rfl, rfl⟩ := h
      simp only [Bool.and_eq_true] at hc
      obtain ⟨hedges, hrows⟩ := hc
      obtain ⟨g1, g2, g3, g4⟩ := lexD_spec _ _ _ _ _ hl
      have hlen : (mem ++ gone (holeSum S ops.toList)).length = mem.length + holeSum S ops.toList := by rw [List.length_append, gone_length]
      have F : Facts E.P (E.fn, E.fm, E.fw) S ops.toList mem.length (mem.length + holeSum S ops.toList) rows tm (mem ++ gone (holeSum S ops.toList)) := by
        refine ⟨g1, hedges, ?_, ?_, hlen, by omega⟩
        · intro j o hj
          obtain ⟨r, obj, cj, cj', hjj, e0, e1, e2, e3, e4, e5⟩ := g4 j o hj
          exact ⟨r, obj, cj, cj', hjj, e0, e1, e2, e3, e4 ho, e5⟩
        · intro j r hj
          obtain ⟨p, e1, e2⟩ := rowsOk_spec rows _ 0 j r hrows hj
          exact ⟨p, e1, by rwa [Nat.zero_add] at e2⟩
      have hlb : ∀ b, ltB mem.length b = true → gB mem.length (mem ++ gone (holeSum S ops.toList)) b = true := by
        intro b hb
        simp only [ltB] at hb
        simp only [gB, hb, Bool.true_or]
      have hinv : Inv mem.length w0 φ tm (mem ++ gone (holeSum S ops.toList)) a w := by
        refine ⟨by omega, hr.tmps, hr.defs, ?_, ?_, hr.mrel.more _⟩
        · intro x hx
          have := hr.wft x hx
          rw [AV.wf_okP] at this
          exact AV.okP_imp hlb x this
        · intro i b hb hl
          by_cases hi : i < mem.length
          · rw [List.getElem?_append_left hi] at hb
            exact allPtr_imp hlb _ (hr.mrel.wf i b hb)
          · rw [List.getElem?_append_right (by omega)] at hb
            rw [(gone_dead _ _ _ hb).1] at hl; cases hl
      refine wp_region_any hE.mixed ?_
      have hlist : ∀ i, (Array.replicate ops.size false).getD i false = false := by
        intro i; simp only [Array.getD_eq_getD_getElem?, Array.getElem?_replicate]; split <;> rfl
      refine draw_any (qf := (E.fn, E.fm, E.fw)) ⟨hE.fns, hE.fms, hE.fws⟩ F (w0 := w0) (φ0 := φ) ?_ ops.size _ φ a _ (by simp) ?_ ?_ (fun _ _ => rfl) ?_
      · intro φ' a' w' hag hi
        rw [← g2, ← g3] at hi
        refine hQ φ' a' w' (fun b hb => hag b hb) ?_ hi.rel
        rw [g3, Mx_length]; simp
      · have : ∀ n (X : Nat → Bool), cntF n X ≤ n := by
          intro n X
          induction n with
          | zero => exact Nat.le_refl _
          | succ n ih => simp only [cntF]; split <;> omega
        exact this _ _
      · intro j o _ hx; have h0 := hlist j; simp only at hx; rw [h0] at hx; cases hx
      · rw [Tx_none _ _ _ _ (fun i _ => hlist i), Mx_none _ _ _ _ (fun i _ => hlist i)]
        have hdrew : Below w.heap.size w { w with drawn := w.drawn + 1 } := ⟨rfl, rfl, rfl, Nat.le_refl _, fun _ _ => rfl⟩
        exact ⟨hinv.low, hinv.tmps, hinv.defs, hinv.okt, hinv.okm, hinv.mrel.below_of hdrew⟩
    · simp at h
  · simp at h
end
section
variable {P:Program} {w0:Base} {w:World} {φ:Loc} {mem:List Blk} {tm:List AV} {a:Act}
def LoopsOK (E:Env) (n:Nat):Prop:=
 ∀S x tm mem c ob c' ex tm' mem',E.lp (lkey S x)=none→evalC E n S (.loop x) tm mem c=some (ob,c',ex,tm',mem')→All ob→∀w0 φ a w,Rel w0 φ tm mem a w→∀Q:Exit→Act→World→Prop,
  (∀φ' a' w',Agree mem.length φ φ'→mem.length≤mem'.length→Rel w0 φ' tm' mem' a' w'→Q ex.to a' w')→Code.rounds E.P x Q n a w
theorem loops_step {E:Env} {n:Nat} (ih:EvOK E.P (evalC E n)) (ihl:LoopsOK E n):LoopsOK E (n+1):=by
 intro S x tm mem c ob c' ex tm' mem' hlp h ho w0 φ a w hr Q hQ
 unfold evalC at h
 simp only[hlp] at h
 split at h
 ·rename_i ob1 c1 tm1 mem1 hx
  split at h
  ·rename_i ob2 r hy
   simp only[Option.some.injEq,Prod.mk.injEq] at h
   obtain ⟨rfl,rfl⟩:=h
   rw[All_append] at ho
   refine ih S x _ _ _ _ _ _ _ _ hx ho.1 w0 φ a w hr _ ?_
   intro φ1 a1 w1 ha1 hl1 hr1
   refine ihl S x _ _ _ _ _ _ _ _ hlp hy ho.2 w0 φ1 a1 w1 hr1 Q ?_
   intro φ2 a2 w2 ha2 hl2 hr2
   exact hQ φ2 a2 w2 (ha1.trans hl1 ha2) (Nat.le_trans hl1 hl2) hr2
  ·simp at h
 ·rename_i hne
  refine ih S x _ _ _ _ _ _ _ _ h ho w0 φ a w hr _ ?_
  intro φ1 a1 w1 ha1 hl1 hr1
  have hQ1:=hQ φ1 a1 w1 ha1 hl1 hr1
  cases ex with
  |normal=>exact absurd h (hne _ _ _ _)
  |exit id=>exact hQ1
  |ret=>exact hQ1
theorem evalC_both {E:Env} (hE:EnvOK E):∀n,EvOK E.P (evalC E n)∧LoopsOK E n
 |0=>⟨by intro S code tm mem c ob c' ex tm' mem' h;simp[evalC] at h,by intro S x tm mem c ob c' ex tm' mem' _ h;simp[evalC] at h⟩
 |n+1=>by
  obtain ⟨ih,ihl⟩:=evalC_both hE n
  have hcf:=callBy_ok hE ih
  have hls:=loops_step ih ihl
  refine ⟨?_,hls⟩
  intro S code tm mem c ob c' ex tm' mem' h ho w0 φ a w hr Q hQ
  unfold evalC at h
  split at h
  ·
   simp only[Option.some.injEq,Prod.mk.injEq] at h
   obtain ⟨rfl,rfl,rfl,rfl,rfl⟩:=h
   exact wp_skip (hQ φ a w (Agree.refl _ _) (Nat.le_refl _) hr)
  ·rename_i id ops draw
   split at h
   ·split at h
    ·rename_i ob1 c1 tm1 mem1 hops
     simp only[Option.some.injEq,Prod.mk.injEq] at h
     obtain ⟨rfl,rfl,rfl,rfl,rfl⟩:=h
     refine wp_region ?_
     have:=opsA_sound (P:=E.P) (ops:=ops) hcf (Q:=Q) ops.toList 0 tm mem c c1 ob1 tm1 mem1 φ a w (fun j=>by simp) hops ho hr hQ
     rw[Array.length_toList,←List.range_eq_range'] at this
     exact this
    ·simp at h
   ·split at h
    ·rename_i ob1 c1 tm1 mem1 hops
     simp only[Option.some.injEq,Prod.mk.injEq] at h
     obtain ⟨rfl,rfl,rfl,rfl,rfl⟩:=h
     exact drawA_sound hE hops ho hr hQ
    ·simp at h
  ·
   rename_i x y
   split at h
   ·rename_i ob1 c1 tm1 mem1 hx
    split at h
    ·rename_i ob2 r hy
     simp only[Option.some.injEq,Prod.mk.injEq] at h
     obtain ⟨rfl,rfl⟩:=h
     rw[All_append] at ho
     refine wp_seq (ih S x _ _ _ _ _ _ _ _ hx ho.1 w0 φ a w hr _ ?_)
     intro φ1 a1 w1 ha1 hl1 hr1
     refine ih S y _ _ _ _ _ _ _ _ hy ho.2 w0 φ1 a1 w1 hr1 _ ?_
     intro φ2 a2 w2 ha2 hl2 hr2
     exact hQ φ2 a2 w2 (ha1.trans hl1 ha2) (Nat.le_trans hl1 hl2) hr2
    ·simp at h
   ·rename_i hne
    refine wp_seq (ih S x _ _ _ _ _ _ _ _ h ho w0 φ a w hr _ ?_)
    intro φ1 a1 w1 ha1 hl1 hr1
    have hQ1:=hQ φ1 a1 w1 ha1 hl1 hr1
    cases ex with
    |normal=>exact absurd h (hne _ _ _ _)
    |exit id=>exact hQ1
    |ret=>exact hQ1
  ·
   rename_i q x y
   split at h
   ·rename_i hq
    have:=rho_tells hr _ _ hq
    exact wp_cond_true this (ih S x _ _ _ _ _ _ _ _ h ho w0 φ a w hr _ hQ)
   ·rename_i hq
    have:=rho_tells hr _ _ hq
    exact wp_cond_false this (ih S y _ _ _ _ _ _ _ _ h ho w0 φ a w hr _ hQ)
   ·simp at h
  ·
   rename_i id x
   split at h
   ·rename_i ob1 c1 id' tm1 mem1 hx
    refine wp_block (ih S x _ _ _ _ _ _ _ _ hx ?_ w0 φ a w hr _ ?_)
    ·split at h<;>(simp only[Option.some.injEq,Prod.mk.injEq] at h;obtain ⟨rfl,_⟩:=h;exact ho)
    ·intro φ1 a1 w1 ha1 hl1 hr1
     split at h
     ·rename_i hid
      simp only[Option.some.injEq,Prod.mk.injEq] at h
      obtain ⟨rfl,rfl,rfl,rfl,rfl⟩:=h
      have hid:id'=id:=Nat.eq_of_beq_eq_true hid
      simp only[Ex.to,Exit.inBlock,hid,if_true]
      exact hQ φ1 a1 w1 ha1 hl1 hr1
     ·rename_i hid
      simp only[Option.some.injEq,Prod.mk.injEq] at h
      obtain ⟨rfl,rfl,rfl,rfl,rfl⟩:=h
      have hid:id'≠id:=Nat.ne_of_beq_eq_false hid
      simp only[Ex.to,Exit.inBlock,hid,if_false]
      exact hQ φ1 a1 w1 ha1 hl1 hr1
   ·rename_i hne
    refine wp_block (ih S x _ _ _ _ _ _ _ _ h ho w0 φ a w hr _ ?_)
    intro φ1 a1 w1 ha1 hl1 hr1
    have hQ1:=hQ φ1 a1 w1 ha1 hl1 hr1
    cases ex with
    |normal=>exact hQ1
    |exit id=>exact absurd h (hne _ _ _ _ _)
    |ret=>exact hQ1
  ·
   rename_i x
   split at h
   ·rename_i y f hlp
    split at h
    ·rename_i ob1 r hf
     simp only[Option.some.injEq,Prod.mk.injEq] at h
     obtain ⟨rfl,rfl⟩:=h
     obtain ⟨hxy,ho⟩:=ho
     subst hxy
     exact hE.lps _ _ _ hlp _ _ _ _ _ _ _ _ hf ho w0 φ a w hr Q hQ
    ·simp at h
   ·rename_i hlp
    refine wp_loop_rounds (n+1) (hls S x tm mem c ob c' ex tm' mem' hlp ?_ ho w0 φ a w hr Q hQ)
    unfold evalC
    simp only[hlp]
    exact h
  ·
   simp only[Option.some.injEq,Prod.mk.injEq] at h
   obtain ⟨rfl,rfl,rfl,rfl,rfl⟩:=h
   exact wp_exit (hQ φ a w (Agree.refl _ _) (Nat.le_refl _) hr)
  ·simp only[Option.some.injEq,Prod.mk.injEq] at h
   obtain ⟨rfl,rfl,rfl,rfl,rfl⟩:=h
   exact wp_ret (hQ φ a w (Agree.refl _ _) (Nat.le_refl _) hr)
  ·simp at h
theorem evalC_ok {E:Env} (hE:EnvOK E) (n:Nat):EvOK E.P (evalC E n):=(evalC_both hE n).1
theorem callBy_calls {E:Env} (hE:EnvOK E) {n:Nat} {f:FuncId} {vs:List V1} {ob:List Prop} {c c':List Bool} {r:AV} {mem':List Blk}
  (h:callBy E (evalC E n) f vs [] c=some (ob,c',r,mem')) (ho:All ob) (hr:r.wf 0=true) (φ:Loc) (w:World) (hv:∀v∈vs,v.wf 0=true):
  Calls E.P f (vs.map (V1.conc φ)).toArray w fun e w'=>e= .returned (r.conc φ)∧Below w.heap.size w w':=by
 have hm:MRel w φ [] w:=⟨KB.refl _,by simp,by simp,by simp,by simp,by simp⟩
 refine (callBy_ok hE (evalC_ok hE n) _ _ _ _ _ _ _ _ h ho w φ w hm hv).mono ?_
 rintro e w' ⟨φ',rfl,_,_,hm',_⟩
 exact ⟨by rw[AV.conc_agree (n:=0) (fun b hb=>by omega) r hr],hm'.below.below⟩
theorem callBy_specB {E:Env} (hE:EnvOK E) {n:Nat} {f:FuncId} {vs:List V1} {ob:List Prop} {c c':List Bool} {b len:Nat} {mem':List Blk} {k:Blk}
  (h:callBy E (evalC E n) f vs [] c=some (ob,c',.val (.one (.sx b len)),mem')) (hk:mem'[b]? =some k) (hl:k.live=true) (hr:k.ro=false) (hp:allPtr (fun _=>false) k.ps=true) (ho:All ob) (hv:∀v∈vs,v.wf 0=true):
  SpecB E.P f vs k.elem k.ps len:=by
 intro φ w
 have hm:MRel w φ [] w:=⟨KB.refl _,by simp,by simp,by simp,by simp,by simp⟩
 refine (callBy_ok hE (evalC_ok hE n) _ _ _ _ _ _ _ _ h ho w φ w hm hv).mono ?_
 rintro e w' ⟨φ',rfl,_,_,hm',_⟩
 have h1:=hm'.own b k hk hl hr
 obtain ⟨tail,lo,hi,h2,h3,_⟩:=hm'.blk b k hk hl hr
 have hc:concs φ k.ps=concs φ' k.ps:=(concs_agree (n:=0) (fun b hb=>by omega) k.ps (allPtr_imp0 k.ps hp)).symm
 refine ⟨(φ' b).1,(φ' b).2.2,?_,hm'.below.below,Nat.le_of_not_lt h1.1,tail,lo,hi,?_,?_,fun h=>by simp at h⟩
 ·simp[AV.conc,V1.conc,Atom.conc,h1.2]
 ·rw[hc];exact h2
 ·rw[hc];exact h3
end
def fitT:List AV→List AV→List AV
 | .junk::ps,_::ts=> .junk::fitT ps ts
 |_::ps,t::ts=>t::fitT ps ts
 |[],ts=>ts
 |_::_,[]=>[]
def fits (T:List AV) (M:List Blk) (tm:List AV) (mem:List Blk):Prop:=
 fitT T tm=T∧mem.take M.length=M∧tmsWf M.length T=true∧memWf M.length M=true
section
variable {P:Program} {w0:Base} {w:World} {φ:Loc} {mem M:List Blk} {tm T:List AV} {a:Act}
theorem fitT_length:∀(T tm:List AV),(fitT T tm).length=tm.length
 |[],ts=>rfl
 | .junk::ps,[]=>rfl
 | .val _::ps,[]=>rfl
 | .tup _::ps,[]=>rfl
 | .junk::ps,t::ts=>by simp[fitT,fitT_length ps ts]
 | .val _::ps,t::ts=>by simp[fitT,fitT_length ps ts]
 | .tup _::ps,t::ts=>by simp[fitT,fitT_length ps ts]
theorem fitT_get:∀(T tm:List AV) (t:Nat) (x:AV),(fitT T tm)[t]? =some x→x≠.junk→tm[t]? =some x
 |[],ts,t,x,h,_=>h
 | .junk::ps,[],t,x,h,_=>by simp[fitT] at h
 | .val _::ps,[],t,x,h,_=>by simp[fitT] at h
 | .tup _::ps,[],t,x,h,_=>by simp[fitT] at h
 | .junk::ps,y::ts,t,x,h,hj=>by
  cases t with
  |zero=>simp[fitT] at h;exact absurd h.symm hj
  |succ t=>simp only[fitT,List.getElem?_cons_succ] at h ⊢;exact fitT_get ps ts t x h hj
 | .val _::ps,y::ts,t,x,h,hj=>by
  cases t with
  |zero=>simpa[fitT] using h
  |succ t=>simp only[fitT,List.getElem?_cons_succ] at h ⊢;exact fitT_get ps ts t x h hj
 | .tup _::ps,y::ts,t,x,h,hj=>by
  cases t with
  |zero=>simpa[fitT] using h
  |succ t=>simp only[fitT,List.getElem?_cons_succ] at h ⊢;exact fitT_get ps ts t x h hj
theorem MRel.take (h:MRel w0 φ mem w) (hM:mem.take M.length=M) (hw:memWf M.length M=true):MRel w0 φ M w:=by
 have hs:∀(i:Nat) (b:Blk),M[i]? =some b→mem[i]? =some b:=by
  intro i b hb
  have hi:=lt_of_getElem? hb
  rw[←hM,List.getElem?_take_of_lt hi] at hb
  exact hb
 exact ⟨h.below,fun i j b b' hb hb'=>h.inj i j b b' (hs i b hb) (hs j b' hb'),fun i b hb=>h.own i b (hs i b hb),fun i b hb=>h.old i b (hs i b hb),fun i b hb=>h.blk i b (hs i b hb),fun i b hb=>memWf_mem hw i b hb⟩
theorem Rel.fit (h:Rel w0 φ tm mem a w) (hf:fits T M tm mem):Rel w0 φ T M a w:=by
 obtain ⟨hT,hM,hwT,hwM⟩:=hf
 refine ⟨⟨?_,?_⟩,h.defs,tmsWf_mem hwT,h.mrel.take hM hwM⟩
 ·rw[h.tmps.size,←fitT_length T tm,hT]
 ·intro t x ht hj
  rw[←hT] at ht
  exact h.tmps.get t x (fitT_get T tm t x ht hj) hj
theorem Rel.pad {φ':Loc} (h:Rel w0 φ' T M a w) (n:Nat) (hag:Agree M.length φ φ'):∃φ'',Agree (M.length+n) φ φ''∧Rel w0 φ'' T (M++gone n) a w:=by
 let φ'':Loc:=fun b=>if b<M.length then φ' b else φ b
 have h1:Agree M.length φ' φ'':=fun b hb=>by simp[φ'',hb]
 have hs:∀(i:Nat) (b:Blk),(M++gone n)[i]? =some b→b.live=true→M[i]? =some b:=by
  intro i b hb hl
  by_cases hi:i<M.length
  ·rwa[List.getElem?_append_left hi] at hb
  ·rw[List.getElem?_append_right (by omega)] at hb
   rw[(gone_dead _ _ _ hb).1] at hl;cases hl
 have hφ:∀(i:Nat) (b:Blk),M[i]? =some b→φ'' i=φ' i:=fun i _ hb=>h1 i (lt_of_getElem? hb)
 have hc:∀(i:Nat) (b:Blk),M[i]? =some b→concs φ'' b.ps=concs φ' b.ps:=fun i b hb=>concs_agree h1 _ (h.mrel.wf i b hb)
 refine ⟨φ'',?_,?_⟩
 ·intro b _
  by_cases hm:b<M.length
  ·rw[h1 b hm,hag b hm]
  ·simp[φ'',hm]
 ·refine ⟨h.tmps.to fun x hx=>AV.conc_agree h1 x (h.wft x hx),h.defs,fun x hx=>AV.wf_mono (by simp) x (h.wft x hx),?_⟩
  refine ⟨h.mrel.below,?_,?_,?_,?_,?_⟩
  ·intro i j b b' hb hb' hl hl' hro hro' he
   have e1:=hs i b hb hl
   have e2:=hs j b' hb' hl'
   rw[hφ i b e1,hφ j b' e2] at he
   exact h.mrel.inj i j b b' e1 e2 hl hl' hro hro' he
  ·intro i b hb hl hro
   have e1:=hs i b hb hl
   rw[hφ i b e1];exact h.mrel.own i b e1 hl hro
  ·intro i b hb hl hro
   have e1:=hs i b hb hl
   rw[hφ i b e1,hc i b e1];exact h.mrel.old i b e1 hl hro
  ·intro i b hb hl hro
   have e1:=hs i b hb hl
   rw[hφ i b e1,hc i b e1];exact h.mrel.blk i b e1 hl hro
  ·intro i b hb
   by_cases hi:i<M.length
   ·rw[List.getElem?_append_left hi] at hb
    exact allPtr_mono (by simp) _ (h.mrel.wf i b hb)
   ·rw[List.getElem?_append_right (by omega)] at hb
    rw[(gone_dead _ _ _ hb).2];rfl
def wfS (T:List AV) (M:List Blk):Bool:=tmsWf M.length T&&memWf M.length M
theorem fits_of {T:List AV} {M:List Blk} {tm:List AV} {mem:List Blk} (h:(fitT T tm,mem.take M.length)=(T,M)) (hw:wfS T M=true):fits T M tm mem:=by
 simp only[Prod.mk.injEq] at h
 simp only[wfS,Bool.and_eq_true] at hw
 exact ⟨h.1,h.2,hw.1,hw.2⟩
def runTo (E:Env) (n:Nat) (S:Nat→Bool) (y:Code) (T:List AV) (M:List Blk) (c:List Bool) (T':List AV) (k:Nat):Option (List Prop×Ex×List AV×List Blk):=
 match evalC E n S y T M c with
 |some (ob,_,ex,tm,mem)=>some (ob,ex,fitT T' tm,mem.take k)
 |none=>none
def Runs (E:Env) (n:Nat) (S:Nat→Bool) (y:Code) (ex:Ex) (T:List AV) (M:List Blk) (T':List AV) (M':List Blk):Prop:=
 ∃c ob,runTo E n S y T M c T' M'.length=some (ob,ex,T',M')∧All ob∧wfS T' M'=true
theorem Runs.wp {E:Env} (hE:EnvOK E) {n:Nat} {S:Nat→Bool} {y:Code} {ex:Ex} {T':List AV} {M':List Blk} (h:Runs E n S y ex T M T' M')
  (hr:Rel w0 φ T M a w) {Q:Exit→Act→World→Prop} (hQ:∀φ' a' w',Agree M.length φ φ'→Rel w0 φ' T' M' a' w'→Q ex.to a' w'):y.wp E.P Q a w:=by
 obtain ⟨c,ob,hev,ho,hw⟩:=h
 unfold runTo at hev
 split at hev
 ·rename_i ob1 c1 ex1 tm mem hev1
  simp only[Option.some.injEq,Prod.mk.injEq] at hev
  obtain ⟨rfl,rfl,h1,h2⟩:=hev
  refine evalC_ok hE n S y _ _ _ _ _ _ _ _ hev1 ho w0 φ a w hr Q ?_
  intro φ' a' w' hag _ hr'
  exact hQ φ' a' w' hag (hr'.fit (fits_of (by rw[h1,h2]) hw))
 ·simp at hev
theorem loop_wp {E:Env} (hE:EnvOK E) {n:Nat} {S:Nat→Bool} {y:Code} {ex:Ex} (hex:ex≠.normal) {N k:Nat} {T:Nat→List AV} {M:Nat→List Blk} {TF:List AV} {MF:List Blk}
  (hk:∀j,j≤N→(M j).length=k)
  (hstep:∀j,j<N→Runs E n S y .normal (T j) (M j) (T (j+1)) (M (j+1))) (hlast:Runs E n S y ex (T N) (M N) TF MF)
  (hr:Rel w0 φ (T 0) (M 0) a w) {Q:Exit→Act→World→Prop} (hQ:∀φ' a' w',Agree k φ φ'→Rel w0 φ' TF MF a' w'→Q ex.to a' w'):(Code.loop y).wp E.P Q a w:=by
 refine wp_loop_rounds (N+1) ?_
 have key:∀d j,j+d=N→∀φ1 a1 w1,Agree k φ φ1→Rel w0 φ1 (T j) (M j) a1 w1→Code.rounds E.P y Q (d+1) a1 w1:=by
  intro d
  induction d with
  |zero=>
   intro j hj φ1 a1 w1 hag hr1
   obtain rfl:j=N:=by omega
   refine hlast.wp hE hr1 ?_
   intro φ' a' w' hag' hr'
   have:=hQ φ' a' w' (hag.trans (Nat.le_refl _) (by rw[hk j (Nat.le_refl _)] at hag';exact hag')) hr'
   cases ex with
   |normal=>exact absurd rfl hex
   |exit id=>exact this
   |ret=>exact this
  |succ d ih=>
   intro j hj φ1 a1 w1 hag hr1
   refine (hstep j (by omega)).wp hE hr1 ?_
   intro φ' a' w' hag' hr'
   exact ih (j+1) (by omega) φ' a' w' (hag.trans (Nat.le_refl _) (by rw[hk j (by omega)] at hag';exact hag')) hr'
 exact key N 0 (by omega) φ a w (Agree.refl _ _) hr
def sumBy {α:Type} (rd:List AV→List Blk→α) (pre:α→List Prop) (T:α→List AV) (M:α→List Blk) (F:α→List AV) (G:α→List Blk) (ex:Ex):List AV→List Blk→List Bool→CoR:=fun tm mem c=>
 let x:α:=rd tm mem
 some (((fitT (T x) tm,mem.take (M x).length)=(T x,M x))::(wfS (T x) (M x)=true)::pre x,c,ex,F x,G x++gone (mem.length-(M x).length))
theorem sumBy_ok {α:Type} {y:Code} {rd:List AV→List Blk→α} {pre:α→List Prop} {T F:α→List AV} {M G:α→List Blk} {ex:Ex} (hl:∀x,(G x).length=(M x).length)
  (h:∀x,All (pre x)→∀w0 φ a w,Rel w0 φ (T x) (M x) a w→∀Q:Exit→Act→World→Prop,(∀φ' a' w',Agree (M x).length φ φ'→Rel w0 φ' (F x) (G x) a' w'→Q ex.to a' w')→(Code.loop y).wp P Q a w):
  SumOK P (.loop y) (sumBy rd pre T M F G ex):=by
 intro tm mem c ob c' ex' tm' mem' hf ho w0 φ a w hr Q hQ
 simp only[sumBy,Option.some.injEq,Prod.mk.injEq] at hf
 obtain ⟨rfl,rfl,rfl,rfl,rfl⟩:=hf
 obtain ⟨hfit,hw,hpre⟩:=ho
 have hfit:=fits_of (Prod.ext hfit.1 hfit.2) hw
 have hle:(M (rd tm mem)).length≤mem.length:=by
  have:=congrArg List.length hfit.2.1
  simp at this;omega
 refine h _ hpre w0 φ a w (hr.fit hfit) Q ?_
 intro φ' a' w' hag hr'
 obtain ⟨φ'',h1,h2⟩:=hr'.pad (φ:=φ) (mem.length-(M (rd tm mem)).length) (by rw[hl];exact hag)
 refine hQ φ'' a' w' ?_ ?_ h2
 ·rw[hl,Nat.add_sub_cancel' hle] at h1
  exact h1
 ·rw[List.length_append,gone_length,hl];omega
def slots:Nat→List (Nat×AV)→List AV
 |0,_=>[]
 |n+1,xs=>match xs with
  |(0,v)::xs=>v::slots n (xs.map fun p=>(p.1-1,p.2))
  |xs=> .junk::slots n (xs.map fun p=>(p.1-1,p.2))
end
def HasK (k:Nat) (v:Value):Prop:=
 match k with
 |0=>∃b,v= .bool b
 |1=>∃s:ByteArray,v= .string s∧s.size≤maxLen
 |2=>∃z:Int,v= .int .i8 z∧-128≤z∧z<128
 |3=>∃z:Int,v= .int .i16 z∧-32768≤z∧z<32768
 |4=>∃z:Int,v= .int .i32 z∧-2147483648≤z∧z<2147483648
 |5=>∃z:Int,v= .int .i64 z∧-9223372036854775808≤z∧z<9223372036854775808
 |6=>∃n:Nat,v= .int .u8 n∧n<256
 |7=>∃n:Nat,v= .int .u16 n∧n<65536
 |8=>∃n:Nat,v= .int .u32 n∧n<4294967296
 |_=>∃n:Nat,v= .int .u64 n∧n<18446744073709551616
def FitK:List Nat→List Value→Prop
 |[],[]=>True
 |k::ks,v::vs=>HasK k v∧FitK ks vs
 |_,_=>False
theorem FitK.length:∀{ks:List Nat} {vs:List Value},FitK ks vs→ks.length=vs.length
 |[],[],_=>rfl
 |[],_::_,h=>h.elim
 |_::_,[],h=>h.elim
 |k::ks,v::vs,h=>by simp[FitK.length h.2]
theorem FitK.append:∀{ks ls:List Nat} {vs us:List Value},FitK ks vs→FitK ls us→FitK (ks++ls) (vs++us)
 |[],_,[],_,_,h=>h
 |[],_,_::_,_,h,_=>h.elim
 |_::_,_,[],_,h,_=>h.elim
 |_::_,_,_::_,_,h,h'=>⟨h.1,FitK.append h.2 h'⟩
theorem hasK_int {k:IntKind} {n:Int} (h:(Lit.int k n).wf=true):HasK (codeK k) (.int k n):=by
 cases k<;>simp[Lit.wf,IntKind.min,IntKind.max,IntKind.signed,IntKind.bits] at h<;>simp only[codeK,HasK]
 ·exact ⟨n,rfl,by omega⟩
 ·exact ⟨n,rfl,by omega⟩
 ·exact ⟨n,rfl,by omega⟩
 ·exact ⟨n,rfl,by omega⟩
 ·exact ⟨n.toNat,by congr 1;omega,by omega⟩
 ·exact ⟨n.toNat,by congr 1;omega,by omega⟩
 ·exact ⟨n.toNat,by congr 1;omega,by omega⟩
 ·exact ⟨n.toNat,by congr 1;omega,by omega⟩
section
variable {H:Type} {enc:TypeId×Value→H} {P:Program} {w:World} {base:Nat} {spare:Nat→Bool} {held:Bool}
theorem sizeA_cellsOf {t:TypeId} {n:Nat} (h:sizeA P t=some n):P.cellsOf t=n:=by
 unfold sizeA at h
 unfold Program.cellsOf
 split at h
 ·rename_i i hi
  simp only[Option.some.injEq] at h
  simp[hi,h]
 ·simp at h
theorem fit_rows {ks:List Nat}:∀(n:Nat) (cs:List Value),cs.length=n*ks.length→(∀i,i<n→FitK ks ((cs.drop (i*ks.length)).take ks.length))→FitK (repK n ks) cs
 |0,cs,hl,_=>by
  rw[Nat.zero_mul] at hl
  rw[List.length_eq_zero_iff.1 hl];trivial
 |n+1,cs,hl,h=>by
  have h0:=h 0 (by omega)
  rw[Nat.zero_mul,List.drop_zero] at h0
  have:=fit_rows (ks:=ks) n (cs.drop ks.length) (by rw[List.length_drop,hl,Nat.succ_mul];omega) (fun i hi=>by
   rw[List.drop_drop,Nat.add_comm,←Nat.succ_mul]
   exact h (i+1) (by omega))
  have:=h0.append this
  rwa[List.take_append_drop] at this
theorem fit_fields {g:TypeId→Option (List Nat)} {r:TypeId→List Value→Prop} (hg:∀t ks cs,g t=some ks→r t cs→cs.length=ks.length→FitK ks cs):∀(fs:List Field) (off:Nat) (ks:List Nat) (cs:List Value),
  kindsF P g fs off=some ks→cs.length=off+ks.length→(∀f∈fs,r f.type ((cs.drop f.offset).take (P.cellsOf f.type)))→FitK ks (cs.drop off)
 |[],off,ks,cs,hk,hl,_=>by
  simp only[kindsF,Option.some.injEq] at hk
  subst hk
  rw[List.drop_eq_nil_of_le (by simp at hl;omega)];trivial
 |f::fs,off,ks,cs,hk,hl,h=>by
  simp only[kindsF] at hk
  split at hk
  ·rename_i kf n hf hgf hn
   split at hk
   ·rename_i r' hlen hr
    simp only[Option.some.injEq] at hk
    subst hk
    simp only[Bool.and_eq_true,Nat.beq_eq] at hf hlen
    obtain ⟨_,hoff⟩:=hf
    rw[List.length_append] at hl
    have h1:=h f (by simp)
    rw[sizeA_cellsOf hn,hoff] at h1
    have h2:=hg _ _ _ hgf h1 (by rw[List.length_take,List.length_drop,hl];omega)
    have h3:=fit_fields hg fs (off+n) r' cs hr (by omega) (fun f' hf'=>h f' (by simp[hf']))
    have:=h2.append h3
    rwa[←List.drop_drop,List.take_append_drop] at this
   ·simp at hk
  ·simp at hk
theorem trod_kinds:∀(d:Nat) (t:TypeId) (ks:List Nat),kindsT P d t=some ks→∀(n:Nat) (cs:List Value) (x:DataW H×List MemPlace),DataW.trod enc P w base spare held n t cs=some x→cs.length=ks.length→FitK ks cs
 |0,t,ks,h,_,_,_,_,_=>by simp[kindsT] at h
 |d+1,t,ks,h,n,cs,x,hx,hl=>by
  simp only[kindsT] at h
  split at h
  ·rename_i k hk
   simp only[Option.some.injEq] at h;subst h
   cases n with
   |zero=>simp[DataW.trod] at hx
   |succ n=>
    unfold DataW.trod at hx
    rw[hk] at hx
    split at hx<;>simp_all
    rename_i k' z e1
    obtain ⟨⟨rfl,hw⟩,_⟩:=hx
    subst e1
    exact ⟨hasK_int hw,trivial⟩
  ·rename_i hk
   simp only[Option.some.injEq] at h;subst h
   cases n with
   |zero=>simp[DataW.trod] at hx
   |succ n=>
    unfold DataW.trod at hx
    rw[hk] at hx
    split at hx<;>simp_all
    exact ⟨⟨_,rfl⟩,trivial⟩
  ·rename_i hk
   simp only[Option.some.injEq] at h;subst h
   cases n with
   |zero=>simp[DataW.trod] at hx
   |succ n=>
    unfold DataW.trod at hx
    rw[hk] at hx
    split at hx<;>simp_all
    exact ⟨⟨_,rfl,hx.1⟩,trivial⟩
  ·rename_i len e hk
   split at h
   ·rename_i ke m hke hm
    split at h
    ·rename_i hkm
     simp only[Option.some.injEq] at h;subst h
     rw[Nat.beq_eq] at hkm
     obtain ⟨xs,m',_,_,_,hxl,hi⟩:=DataW.trod_array hk hx
     rw[repK_length] at hl
     refine fit_rows len cs hl fun i hil=> ?_
     have h1:=hi i hil
     rw[sizeA_cellsOf hm,←hkm,List.getElem?_eq_getElem (by omega)] at h1
     refine trod_kinds d e ke hke _ _ _ h1 ?_
     rw[List.length_take,List.length_drop,hl]
     have:(i+1)*ke.length≤len*ke.length:=Nat.mul_le_mul_right _ hil
     rw[Nat.succ_mul] at this
     omega
    ·simp at h
   ·simp at h
  ·rename_i fs hk
   split at h
   ·obtain ⟨xs,m',_,_,_,hxl,hi⟩:=DataW.trod_struct hk hx
    have:=fit_fields (P:=P) (g:=kindsT P d) (r:=fun t cs=>∃y,DataW.trod enc P w base spare held m' t cs=some y) (fun t ks cs hks ⟨y,hy⟩ hl=>trod_kinds d t ks hks _ _ _ hy hl) fs.toList 0 ks cs h (by omega)
     (fun f hf=>by
      obtain ⟨i,hil,rfl⟩:=List.getElem_of_mem hf
      have h1:=hi i fs.toList[i] (by simp at hil ⊢)
      rw[List.getElem?_eq_getElem (by simp at hil;omega)] at h1
      exact ⟨_,h1⟩)
    simpa using this
   ·simp at h
  ·simp at h
end
structure Cells where
 b:Nat→Bool
 s:Nat→ByteArray
 z:Nat→Int
 n:Nat→Nat
def cellsOf (V:Nat→Value):Cells where
 b j:=match V j with| .bool b=>b|_=>false
 s j:=match V j with| .string s=>s|_=>ByteArray.empty
 z j:=match V j with| .int _ z=>z|_=>0
 n j:=match V j with| .int _ z=>z.toNat|_=>0
end Go.Ev
namespace Go.Ev
open Go Go.RowKit Go.ChangeShapes Go.WideShapes Go.ChangeAt
section
variable {H:Type} {enc:TypeId×Value→H} {P:Program}
theorem post_true {fn:Func} {s:ChangeSpec} {again:Bool} (hag:again=false) {W W':World} {v:Value} {d:DataW H} {gs:List (DataW H)} {before:List MemPlace} {t tb:TypeId}
  (hp:fn.params= #[t]) (hr:fn.resultTypes= #[tb]) (htb:P.underlying tb=some .bool) (hl:laidOutB P=true) (hrd:P.readableRec t=true) (hrow:t<P.types.size)
  (hvars:s.vars=[]) (hfn:s.fn H [d]={results:=[.lit (.bool true)],args:=[d]})
  (hW:DataW.Whole enc P fn.params.toList s.vars false W #[v].toList [d] gs before) (hb:Below W.heap.size W W'):
  s.post enc P fn false true false again W #[v] (.bool true) W':=by
 have hW0:=hW
 obtain ⟨p,q,hA,hV,rfl,hfz,hnd⟩:=hW
 rw[hvars] at hV
 obtain ⟨rfl,rfl⟩:=trodVars_none hV
 rw[hp] at hA
 obtain ⟨v',d',e1,e2,hd⟩:=trodAll_one (args:= #[v]) hA
 simp only[List.cons.injEq,and_true] at e2
 subst e2
 obtain rfl:v=v':=by simpa using e1
 refine ⟨[d],[],p++[],[],p,[],hW0,?_,?_,?_,hb.frame _,?_⟩
 ·rw[hr,List.append_nil,hfn]
  exact trodAll_mk1 (shut_bool htb true)
 ·rw[hp,List.append_nil,hfn]
  refine trodAll_mk1 (Below.trod hl hrd hrow hd hb ?_)
  intro x hx
  have:=hW0.lt x (by simpa using hx)
  exact this
 ·rw[List.append_nil,hfn,hvars]
  trivial
 ·intro h;rw[hag] at h;cases h
end
section
variable {P:Program}
end
def Trues (w:World) (ex:Ending) (w':World):Prop:=ex= .returned (.bool true)∧Below w.heap.size w w'
end Go.Ev
