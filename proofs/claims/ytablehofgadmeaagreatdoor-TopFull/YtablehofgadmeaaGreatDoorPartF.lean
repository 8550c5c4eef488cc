/- Of the proof of TopFull: an evaluator of the code with values known in part, and its soundness. -/
import Derived.Test.YtablehofgadmeaaGreatDoorPartE
import Derived.SizedLaws
import Derived.Test.YtablehofgadmeaaGreatDoorProg
import Derived.Test.YtablehofgadmeaaGreatDoorPartC
import Derived.RangeFuncOwn
import Derived.RangeFuncCalls
import Derived.OrdersIn
namespace Go.Ev
open Go Go.RowKit
def Goes (P:Program) (y:Code) (ex:Ex) (T:List AV) (M:List Blk) (T':List AV) (M':List Blk):Prop:=
 ∀w0 φ a w,Rel w0 φ T M a w→∀Q:Exit→Act→World→Prop,(∀φ' a' w',Agree M.length φ φ'→Rel w0 φ' T' M' a' w'→Q ex.to a' w')→y.wp P Q a w
theorem Runs.goes {E:Env} (hE:EnvOK E) {n:Nat} {S:Nat→Bool} {y:Code} {ex:Ex} {T T':List AV} {M M':List Blk} (h:Runs E n S y ex T M T' M'):Goes E.P y ex T M T' M':=
 fun _ _ _ _ hr _ hQ=>h.wp hE hr hQ
def sameT:List AV→List AV→Prop
 |[],[]=>True
 |x::xs,y::ys=>(y= .junk∨(x≠.junk∧∀φ,x.conc φ=y.conc φ))∧sameT xs ys
 |_,_=>False
def sameM:List Blk→List Blk→Prop
 |[],[]=>True
 |b::bs,b'::bs'=>(b.elem=b'.elem∧b.live=b'.live∧b.ro=b'.ro∧b.esz=b'.esz∧∀φ,concs φ b.ps=concs φ b'.ps)∧sameM bs bs'
 |_,_=>False
theorem sameT_refl:∀T:List AV,sameT T T
 |[]=>trivial
 |x::xs=>⟨by cases x<;>simp,sameT_refl xs⟩
theorem sameT_length:∀{T T':List AV},sameT T T'→T.length=T'.length
 |[],[],_=>rfl
 |[],_::_,h=>h.elim
 |_::_,[],h=>h.elim
 |x::xs,y::ys,h=>by simp[sameT_length h.2]
theorem sameM_length:∀{M M':List Blk},sameM M M'→M.length=M'.length
 |[],[],_=>rfl
 |[],_::_,h=>h.elim
 |_::_,[],h=>h.elim
 |x::xs,y::ys,h=>by simp[sameM_length h.2]
theorem sameT_get:∀{T T':List AV},sameT T T'→∀(t:Nat) (y:AV),T'[t]? =some y→y≠.junk→∃x,T[t]? =some x∧x≠.junk∧∀φ,x.conc φ=y.conc φ
 |[],[],_,t,y,h,_=>by simp at h
 |[],_::_,h,_,_,_,_=>h.elim
 |_::_,[],h,_,_,_,_=>h.elim
 |x::xs,z::zs,h,0,y,hy,hj=>by
  simp only[List.getElem?_cons_zero,Option.some.injEq] at hy;subst hy
  rcases h.1 with h1|h1
  ·exact absurd h1 hj
  ·exact ⟨x,rfl,h1⟩
 |x::xs,z::zs,h,t+1,y,hy,hj=>by
  simp only[List.getElem?_cons_succ] at hy ⊢
  exact sameT_get h.2 t y hy hj
theorem sameM_get:∀{M M':List Blk},sameM M M'→∀(t:Nat) (y:Blk),M'[t]? =some y→∃x,M[t]? =some x∧x.elem=y.elem∧x.live=y.live∧x.ro=y.ro∧x.esz=y.esz∧∀φ,concs φ x.ps=concs φ y.ps
 |[],[],_,t,y,h=>by simp at h
 |[],_::_,h,_,_,_=>h.elim
 |_::_,[],h,_,_,_=>h.elim
 |x::xs,z::zs,h,0,y,hy=>by
  simp only[List.getElem?_cons_zero,Option.some.injEq] at hy;subst hy
  exact ⟨x,rfl,h.1⟩
 |x::xs,z::zs,h,t+1,y,hy=>by
  simp only[List.getElem?_cons_succ] at hy ⊢
  exact sameM_get h.2 t y hy
section
variable {P:Program} {w0:Base} {w:World} {φ:Loc} {M M':List Blk} {T T':List AV} {a:Act}
theorem MRel.same (h:MRel w0 φ M w) (hs:sameM M M') (hw:memWf M'.length M'=true):MRel w0 φ M' w:=by
 refine ⟨h.below,?_,?_,?_,?_,fun i b hb=>memWf_mem hw i b hb⟩
 ·intro i j b b' hb hb' hl hl' hr hr' e
  obtain ⟨x,hx,_,e1,e2,_,_⟩:=sameM_get hs i b hb
  obtain ⟨x',hx',_,e1',e2',_,_⟩:=sameM_get hs j b' hb'
  exact h.inj i j x x' hx hx' (e1.trans hl) (e1'.trans hl') (e2.trans hr) (e2'.trans hr') e
 ·intro i b hb hl hr
  obtain ⟨x,hx,_,e1,e2,_,_⟩:=sameM_get hs i b hb
  exact h.own i x hx (e1.trans hl) (e2.trans hr)
 ·intro i b hb hl hr
  obtain ⟨x,hx,_,e1,e2,_,e4⟩:=sameM_get hs i b hb
  rw[←e4]
  exact h.old i x hx (e1.trans hl) (e2.trans hr)
 ·intro i b hb hl hr
  obtain ⟨x,hx,e0,e1,e2,e3,e4⟩:=sameM_get hs i b hb
  have:=h.blk i x hx (e1.trans hl) (e2.trans hr)
  unfold Holds at this ⊢
  rw[←e4,←e0,←e3]
  exact this
theorem Rel.same (h:Rel w0 φ T M a w) (ht:sameT T T') (hs:sameM M M') (hw:wfS T' M'=true):Rel w0 φ T' M' a w:=by
 simp only[wfS,Bool.and_eq_true] at hw
 refine ⟨⟨?_,?_⟩,h.defs,tmsWf_mem hw.1,h.mrel.same hs hw.2⟩
 ·rw[h.tmps.size,sameT_length ht]
 ·intro t y hy hj
  obtain ⟨x,hx,hxj,e⟩:=sameT_get ht t y hy hj
  rw[←e]
  exact h.tmps.get t x hx hxj
theorem Goes.after {y:Code} {ex:Ex} {T1:List AV} {M1:List Blk} (h:Goes P y ex T M T1 M1) (ht:sameT T1 T') (hs:sameM M1 M') (hw:wfS T' M'=true):Goes P y ex T M T' M':=
 fun w0 φ a w hr Q hQ=>h w0 φ a w hr Q fun φ' a' w' ha hr'=>hQ φ' a' w' ha (hr'.same ht hs hw)
theorem Goes.before {y:Code} {ex:Ex} {T1:List AV} {M1:List Blk} (h:Goes P y ex T1 M1 T' M') (ht:sameT T T1) (hs:sameM M M1) (hw:wfS T1 M1=true):Goes P y ex T M T' M':=
 fun w0 φ a w hr Q hQ=>h w0 φ a w (hr.same ht hs hw) Q fun φ' a' w' ha hr'=>hQ φ' a' w' (by rw[←sameM_length hs] at ha;exact ha) hr'
theorem loop_goes {y:Code} {ex:Ex} (hex:ex≠.normal) {N k:Nat} {T:Nat→List AV} {M:Nat→List Blk} {TF:List AV} {MF:List Blk}
  (hk:∀j,j≤N→(M j).length=k)
  (hstep:∀j,j<N→Goes P y .normal (T j) (M j) (T (j+1)) (M (j+1))) (hlast:Goes P y ex (T N) (M N) TF MF):Goes P (.loop y) ex (T 0) (M 0) TF MF:=by
 intro w0 φ a w hr Q hQ
 refine wp_loop_rounds (N+1) ?_
 have key:∀d j,j+d=N→∀φ1 a1 w1,Agree k φ φ1→Rel w0 φ1 (T j) (M j) a1 w1→Code.rounds P y Q (d+1) a1 w1:=by
  intro d
  induction d with
  |zero=>
   intro j hj φ1 a1 w1 hag hr1
   obtain rfl:j=N:=by omega
   refine hlast w0 φ1 a1 w1 hr1 _ ?_
   intro φ' a' w' hag' hr'
   have:=hQ φ' a' w' (by rw[hk 0 (by omega)];exact hag.trans (Nat.le_refl _) (by rw[hk j (Nat.le_refl _)] at hag';exact hag')) hr'
   cases ex with
   |normal=>exact absurd rfl hex
   |exit id=>exact this
   |ret=>exact this
  |succ d ih=>
   intro j hj φ1 a1 w1 hag hr1
   refine hstep j (by omega) w0 φ1 a1 w1 hr1 _ ?_
   intro φ' a' w' hag' hr'
   exact ih (j+1) (by omega) φ' a' w' (hag.trans (Nat.le_refl _) (by rw[hk j (by omega)] at hag';exact hag')) hr'
 exact key N 0 (by omega) φ a w (Agree.refl _ _) hr
theorem sumBy_goes {α:Type} {y:Code} {rd:List AV→List Blk→α} {pre:α→List Prop} {T F:α→List AV} {M G:α→List Blk} {ex:Ex} (hl:∀x,(G x).length=(M x).length)
  (h:∀x,All (pre x)→Goes P (.loop y) ex (T x) (M x) (F x) (G x)):SumOK P (.loop y) (sumBy rd pre T M F G ex):=
 sumBy_ok hl fun x hp w0 φ a w hr Q hQ=>h x hp w0 φ a w hr Q hQ
end
def cellsU:Nat→Nat→(Nat→Nat)→List Piece
 |0,_,_=>[]
 |n+1,j,u=> .a (.u .u32 (u j))::cellsU n (j+1) u
def limb (N i:Nat):Nat:=N/4294967296^i%4294967296
def valU:Nat→Nat→(Nat→Nat)→Nat
 |0,_,_=>0
 |n+1,j,u=>u j+4294967296*valU n (j+1) u
theorem limbs_limb (φ:Loc) (N:Nat):∀n j,concs φ (cellsU n j (limb N))=limbs n (N/4294967296^j)
 |0,j=>rfl
 |n+1,j=>by
  simp only[cellsU,concs,Piece.conc,Atom.conc,limbs,List.cons_append,List.nil_append]
  rw[limbs_limb φ N n (j+1),Nat.div_div_eq_div_mul,←Nat.pow_succ]
  rfl
theorem concs_num (φ:Loc) (n N:Nat):concs φ [.num n N]=concs φ (cellsU n 0 (limb N)):=by
 rw[limbs_limb];simp[concs,Piece.conc]
theorem limbs_valU (φ:Loc) (u:Nat→Nat):∀n j,(∀i,j≤i→i<j+n→u i<4294967296)→limbs n (valU n j u)=concs φ (cellsU n j u)
 |0,j,_=>rfl
 |n+1,j,h=>by
  have h0:=h j (Nat.le_refl _) (by omega)
  have ih:=limbs_valU φ u n (j+1) (fun i h1 h2=>h i (by omega) (by omega))
  simp only[valU,cellsU,concs,Piece.conc,Atom.conc,limbs,List.cons_append,List.nil_append]
  rw[show (u j+4294967296*valU n (j+1) u)%4294967296=u j by omega,show (u j+4294967296*valU n (j+1) u)/4294967296=valU n (j+1) u by omega,ih]
theorem concs_valU (φ:Loc) (u:Nat→Nat) (n:Nat) (h:∀i,i<n→u i<4294967296):concs φ [.num n (valU n 0 u)]=concs φ (cellsU n 0 u):=by
 rw[←limbs_valU φ u n 0 (fun i _ h2=>h i (by omega))];simp[concs,Piece.conc]
theorem valU_lt (u:Nat→Nat):∀n j,(∀i,j≤i→i<j+n→u i<4294967296)→valU n j u<4294967296^n
 |0,j,_=>by simp[valU]
 |n+1,j,h=>by
  have h0:=h j (Nat.le_refl _) (by omega)
  have ih:=valU_lt u n (j+1) (fun i h1 h2=>h i (by omega) (by omega))
  simp only[valU,Nat.pow_succ]
  omega
theorem limb_lt (N i:Nat):limb N i<4294967296:=Nat.mod_lt _ (by decide)
theorem valU_limb (N:Nat):∀n j,valU n j (limb N)=N/4294967296^j%4294967296^n
 |0,j=>by simp[valU,Nat.mod_one]
 |n+1,j=>by
  simp only[valU]
  rw[valU_limb N n (j+1)]
  unfold limb
  rw[Nat.pow_succ 4294967296 j,←Nat.div_div_eq_div_mul,Nat.pow_succ 4294967296 n,Nat.mul_comm (4294967296^n),Nat.mod_mul]
theorem valU_num (N n:Nat) (h:N<4294967296^n):valU n 0 (limb N)=N:=by
 rw[valU_limb];simp[Nat.mod_eq_of_lt h]
theorem cellsU_free (u:Nat→Nat) (f:Nat→Bool):∀n j,allPtr f (cellsU n j u)=true
 |0,_=>rfl
 |n+1,j=>by simp[cellsU,allPtr,cellsU_free u f n]
inductive SK where|n8|i|s|b|u32|u64
def SK.ks:SK→List Nat
 | .n8=>[8,8,8,8,8,8,8,8]
 | .i=>[5]
 | .s=>[1]
 | .b=>[0]
 | .u32=>[8]
 | .u64=>[9]
def nA (c:Cells) (p:Nat):Nat:=valU 8 p c.n
def nU (c:Cells) (p:Nat):Nat:=c.n p
def zA (c:Cells) (p:Nat):Int:=c.z p
def sA (c:Cells) (p:Nat):ByteArray:=c.s p
def SK.ok (c:Cells) (p:Nat):SK→Prop
 | .n8=>nA c p<4294967296^8
 | .i=>inI (zA c p)
 | .s=>(sA c p).size≤maxLen
 | .b=>True
 | .u32=>nU c p<4294967296
 | .u64=>nU c p<18446744073709551616
theorem allPtr_app (f:Nat→Bool):∀(ps qs:List Piece),allPtr f ps=true→allPtr f qs=true→allPtr f (ps++qs)=true
 |[],_,_,h=>h
 |p::ps,qs,h,h'=>by
  unfold allPtr at h
  cases p with
  |num k x=>simp only[List.cons_append,allPtr] at h ⊢;exact allPtr_app f ps qs h h'
  |arr k x=>simp only[List.cons_append,allPtr] at h ⊢;exact allPtr_app f ps qs h h'
  |a x=>
   cases x<;>simp only[List.cons_append,allPtr,Bool.and_eq_true] at h ⊢ <;>
    first|exact ⟨h.1,allPtr_app f ps qs h.2 h'⟩|exact allPtr_app f ps qs h h'
end Go.Ev
namespace Go.Ev
open Go Go.RowKit Go.ChangeShapes Go.WideShapes Go.ChangeAt
def SzV (B:Nat) (v:Value):Prop:=∀s,v= .string s→s.size≤B
section
variable {H:Type} {enc:TypeId×Value→H} {P:Program} {w:World} {base:Nat} {spare:Nat→Bool} {held:Bool} {B:Nat}
theorem weights_mem_all {e:TypeId} {d:DataW H}:∀{l:List (DataW H)},d∈l→∀{n:Nat},n∈d.weights P e→n∈DataW.weightsAll P e l
 |[],h,_,_=>by simp at h
 |x::l,h,n,hn=>by
  simp only[DataW.weightsAll,List.mem_append]
  rcases List.mem_cons.1 h with rfl|h
  ·exact .inl hn
  ·exact .inr (weights_mem_all h hn)
end
section
variable {P:Program} {B:Nat}
theorem rowsW {n0:Nat}:∀(n:Nat) (cs:List Value),cs.length=n*n0→(∀i,i<n→∀v∈(cs.drop (i*n0)).take n0,SzV B v)→∀v∈cs,SzV B v
 |0,cs,hl,_=>by
  rw[Nat.zero_mul] at hl
  rw[List.length_eq_zero_iff.1 hl];simp
 |n+1,cs,hl,h=>by
  have h0:=h 0 (by omega)
  rw[Nat.zero_mul,List.drop_zero] at h0
  have:=rowsW (n0:=n0) n (cs.drop n0) (by rw[List.length_drop,hl,Nat.succ_mul];omega) (fun i hi=>by
   rw[List.drop_drop,Nat.add_comm,←Nat.succ_mul]
   exact h (i+1) (by omega))
  intro v hv
  rw[←List.take_append_drop n0 cs] at hv
  rcases List.mem_append.1 hv with hv|hv
  ·exact h0 v hv
  ·exact this v hv
theorem fieldsW {g:TypeId→Option (List Nat)} {r:TypeId→List Value→Prop} (hg:∀t ks cs,g t=some ks→r t cs→cs.length=ks.length→∀v∈cs,SzV B v):∀(fs:List Field) (off:Nat) (ks:List Nat) (cs:List Value),
  kindsF P g fs off=some ks→cs.length=off+ks.length→(∀f∈fs,r f.type ((cs.drop f.offset).take (P.cellsOf f.type)))→∀v∈cs.drop off,SzV B v
 |[],off,ks,cs,hk,hl,_=>by
  simp only[kindsF,Option.some.injEq] at hk
  subst hk
  rw[List.drop_eq_nil_of_le (by simp at hl;omega)];simp
 |f::fs,off,ks,cs,hk,hl,h=>by
  simp only[kindsF] at hk
  split at hk
  ·rename_i kf n hf hgf hn
   split at hk
   ·rename_i r' hlen hr
    simp only[Option.some.injEq] at hk
    subst hk
    simp only[Bool.and_eq_true,Nat.beq_eq] at hf hlen
    obtain ⟨_,hoff⟩:=hf
    rw[List.length_append] at hl
    have h1:=h f (by simp)
    rw[sizeA_cellsOf hn,hoff] at h1
    have h2:=hg _ _ _ hgf h1 (by rw[List.length_take,List.length_drop,hl];omega)
    have h3:=fieldsW hg fs (off+n) r' cs hr (by omega) (fun f' hf'=>h f' (by simp[hf']))
    intro v hv
    rw[←List.take_append_drop n (cs.drop off),List.drop_drop] at hv
    rcases List.mem_append.1 hv with hv|hv
    ·exact h2 v hv
    ·exact h3 v hv
   ·simp at hk
  ·simp at hk
end
section
variable {H:Type} {enc:TypeId×Value→H} {P:Program} {w:World} {base:Nat} {spare:Nat→Bool} {held:Bool} {B:Nat}
theorem trod_kindsW:∀(d:Nat) (t:TypeId) (ks:List Nat),kindsT P d t=some ks→∀(n:Nat) (cs:List Value) (x:DataW H×List MemPlace),DataW.trod enc P w base spare held n t cs=some x→cs.length=ks.length→(∀m∈x.1.weights P t,m≤B)→∀v∈cs,SzV B v
 |0,t,ks,h,_,_,_,_,_,_=>by simp[kindsT] at h
 |d+1,t,ks,h,n,cs,x,hx,hl,hw=>by
  simp only[kindsT] at h
  split at h
  ·rename_i k hk
   cases n with
   |zero=>simp[DataW.trod] at hx
   |succ n=>
    unfold DataW.trod at hx
    rw[hk] at hx
    split at hx<;>simp_all
    intro s hs
    simp_all
  ·rename_i hk
   cases n with
   |zero=>simp[DataW.trod] at hx
   |succ n=>
    unfold DataW.trod at hx
    rw[hk] at hx
    split at hx<;>simp_all
    intro s hs
    simp_all
  ·rename_i hk
   cases n with
   |zero=>simp[DataW.trod] at hx
   |succ n=>
    unfold DataW.trod at hx
    rw[hk] at hx
    split at hx<;>simp_all
    obtain ⟨_,rfl⟩:=hx
    intro s hs
    simp only[Value.string.injEq] at hs
    subst hs
    simpa[DataW.weights] using hw
  ·rename_i len e hk
   split at h
   ·rename_i ke m hke hm
    split at h
    ·rename_i hkm
     simp only[Option.some.injEq] at h;subst h
     rw[Nat.beq_eq] at hkm
     obtain ⟨xs,m',_,rfl,_,hxl,hi⟩:=DataW.trod_array hk hx
     rw[repK_length] at hl
     refine rowsW len cs hl fun i hil=> ?_
     have h1:=hi i hil
     rw[sizeA_cellsOf hm,←hkm,List.getElem?_eq_getElem (by omega)] at h1
     refine trod_kindsW d e ke hke _ _ _ h1 ?_ ?_
     ·rw[List.length_take,List.length_drop,hl]
      have:(i+1)*ke.length≤len*ke.length:=Nat.mul_le_mul_right _ hil
      rw[Nat.succ_mul] at this
      omega
     ·intro q hq
      refine hw q ?_
      simp only[DataW.weights,hk]
      exact weights_mem_all (List.mem_map.2 ⟨_,List.getElem_mem _,rfl⟩) hq
    ·simp at h
   ·simp at h
  ·rename_i fs hk
   split at h
   ·obtain ⟨xs,m',_,rfl,_,hxl,hi⟩:=DataW.trod_struct hk hx
    have:=fieldsW (P:=P) (B:=B) (g:=kindsT P d) (r:=fun t cs=>∃y,DataW.trod enc P w base spare held m' t cs=some y∧∀q∈y.1.weights P t,q≤B) (fun t ks cs hks ⟨y,hy,hyw⟩ hl=>trod_kindsW d t ks hks _ _ _ hy hl hyw) fs.toList 0 ks cs h (by omega)
     (fun f hf=>by
      obtain ⟨i,hil,rfl⟩:=List.getElem_of_mem hf
      have h1:=hi i fs.toList[i] (by simp at hil ⊢)
      rw[List.getElem?_eq_getElem (by simp at hil;omega)] at h1
      refine ⟨_,h1,fun q hq=>hw q ?_⟩
      simp only[DataW.weights,hk]
      refine DataW.weights_mem_each (j:=i) (t:=fs.toList[i].type) (d:=(xs[i]'(by simp at hil;omega)).1) ?_ ?_ q hq
      ·rw[List.getElem?_map,List.getElem?_eq_getElem hil];rfl
      ·rw[List.getElem?_map,List.getElem?_eq_getElem (by simp at hil;omega)];rfl)
    simpa using this
   ·simp at h
  ·simp at h
end
section
variable {P:Program}
end
end Go.Ev
namespace Go.Ev.Ch
open Go Go.Proofs Go.RowKit
noncomputable def E0:Env:=⟨Tryz.prog,fun _ _=>none,fun _ _ _=>none,fun _=>none,fun _ _=>false,fun _ _=>none,fun _ _ _=>none⟩
theorem mixed:Tryz.prog.follows .mixedOrders=true:=by kernel_rfl
theorem envE0:EnvOK E0:=⟨mixed,fun _ _ _ _ h=>by simp[E0] at h,fun _ _ _ _ _ h=>by simp[E0] at h,fun _ _ _ h=>by simp[E0] at h,fun _ _ _ _ _ _ h=>by simp[E0] at h,fun _ _ _ _ h=>by simp[E0] at h⟩
def callR (E:Env) (n:Nat) (f:FuncId) (vs:List V1) (c:List Bool):Option (List Prop×AV):=
 match callBy E (evalC E n) f vs [] c with
 |some (ob,_,r,_)=>some (ob,r)
 |none=>none
def bV (b:Bool):AV:= .val (.one (.v (.bool b)))
def iV (z:Int):AV:= .val (.one (.i z))
def pV (b:Nat):AV:= .val (.one (.ptr b 0))
def u32 (n:Nat):V1:= .one (.u .u32 n)
def Spec (f:FuncId) (vs:List V1) (r:AV):Prop:=∀(φ:Loc) (w:World),Calls Tryz.prog f (vs.map (V1.conc φ)).toArray w fun e w'=>e= .returned (r.conc φ)∧Below w.heap.size w w'
theorem Spec.congr {f:FuncId} {vs vs':List V1} {r r':AV} (h:Spec f vs r) (h1:∀φ,vs.map (V1.conc φ)=vs'.map (V1.conc φ)) (h2:∀φ,r.conc φ=r'.conc φ):Spec f vs' r':=by
 intro φ w
 rw[←h1,←h2]
 exact h φ w
theorem spec_run {E:Env} (hE:EnvOK E) (hP:E.P=Tryz.prog) {n:Nat} {f:FuncId} {vs:List V1} {ob:List Prop} {c:List Bool} {r:AV}
  (h:callR E n f vs c=some (ob,r)) (ho:All ob) (hr:r.wf 0=true) (hv:(vs.all fun v=>v.wf 0)=true):Spec f vs r:=by
 intro φ w
 have hv:∀v∈vs,v.wf 0=true:=by simpa using hv
 unfold callR at h
 split at h
 ·rename_i ob1 c1 r1 mem1 h1
  simp only[Option.some.injEq,Prod.mk.injEq] at h
  obtain ⟨rfl,rfl⟩:=h
  have:=callBy_calls hE h1 ho hr φ w hv
  rwa[hP] at this
 ·simp at h
def findLoop (k:Nat):Code→Option Code
 | .loop y=>match Nat.beq (lid y) k with
  |true=>some y
  |false=>findLoop k y
 | .seq a b=>match findLoop k a with
  |some y=>some y
  |none=>findLoop k b
 | .cond _ a b=>match findLoop k a with
  |some y=>some y
  |none=>findLoop k b
 | .block _ a=>findLoop k a
 |_=>none
def bodyOf (P:Program) (f k:Nat):Code:=
 match P.funcs[f]? with
 |some fn=>match fn.body with
  |some c=>match findLoop k c with
   |some y=>y
   |none=> .skip
  |none=> .skip
 |none=> .skip
def Free (B:Blk):Prop:=∀f,allPtr f B.ps=true
theorem wfS_of {T:List AV} {M:List Blk} (hM:∀b∈M,Free b) (h:tmsWf M.length T=true):wfS T M=true:=by
 unfold wfS
 rw[h,Bool.true_and]
 clear h
 generalize M.length=n
 induction M with
 |nil=>rfl
 |cons b M ih=>
  simp only[memWf,hM b (by simp) _,Bool.true_and]
  exact ih (fun x hx=>hM x (by simp[hx]))
def sumC (T0:List AV) (M0:List Blk) (TF:List AV) (MF:List Blk) (ex:Ex):List AV→List Blk→List Bool→CoR:=
 sumBy (α:=Unit) (fun _ _=>()) (fun _=>[]) (fun _=>T0) (fun _=>M0) (fun _=>TF) (fun _=>MF) ex
theorem sumC_ok {P:Program} {y:Code} {T0:List AV} {M0:List Blk} {TF:List AV} {MF:List Blk} {ex:Ex} (hl:MF.length=M0.length) (h:Goes P (.loop y) ex T0 M0 TF MF):SumOK P (.loop y) (sumC T0 M0 TF MF ex):=
 sumBy_goes (fun _=>hl) fun _ _=>h
noncomputable def addL (E:Env) (k:Nat) (y:Code) (f:List AV→List Blk→List Bool→CoR):Env:=
 {E with lp:=fun j=>match Nat.beq j k with|true=>some (y,f)|false=>E.lp j}
theorem envAddL {E:Env} (hE:EnvOK E) {k:Nat} {y:Code} {f:List AV→List Blk→List Bool→CoR} (h:SumOK E.P (.loop y) f):EnvOK (addL E k y f):=by
 refine ⟨hE.mixed,hE.fns,hE.fms,?_,hE.fbs,hE.fws⟩
 intro j y' f' hj
 simp only[addL] at hj
 split at hj
 ·simp only[Option.some.injEq,Prod.mk.injEq] at hj
  obtain ⟨rfl,rfl⟩:=hj
  exact h
 ·exact hE.lps j y' f' hj
noncomputable def addB (E:Env) (g:FuncId→List V1→Option (List Prop×TypeId×List Piece×Nat)):Env:={E with fb:=g}
theorem envAddB {E:Env} (hE:EnvOK E) {g:FuncId→List V1→Option (List Prop×TypeId×List Piece×Nat)} (h:∀f vs ob e ps n,g f vs=some (ob,e,ps,n)→All ob→SpecB E.P f vs e ps n):EnvOK (addB E g):=
 ⟨hE.mixed,hE.fns,hE.fms,hE.lps,h,hE.fws⟩
def GoesN (P:Program) (y:Code) (n:Nat) (ex:Ex) (T:List AV) (M:List Blk) (T':List AV) (M':List Blk):Prop:=
 ∀w0 φ a w,Rel w0 φ T M a w→∀Q:Exit→Act→World→Prop,(∀φ' a' w',Agree M.length φ φ'→Rel w0 φ' T' M' a' w'→Q ex.to a' w')→Code.rounds P y Q n a w
theorem GoesN.loop {P:Program} {y:Code} {n:Nat} {ex:Ex} {T T':List AV} {M M':List Blk} (h:GoesN P y n ex T M T' M'):Goes P (.loop y) ex T M T' M':=
 fun w0 φ a w hr Q hQ=>wp_loop_rounds n (h w0 φ a w hr Q hQ)
theorem GoesN.out {P:Program} {y:Code} {n:Nat} {ex:Ex} (hex:ex≠.normal) {T T':List AV} {M M':List Blk} (h:Goes P y ex T M T' M'):GoesN P y (n+1) ex T M T' M':=by
 intro w0 φ a w hr Q hQ
 refine h w0 φ a w hr _ ?_
 intro φ' a' w' hag hr'
 have:=hQ φ' a' w' hag hr'
 cases ex with
 |normal=>exact absurd rfl hex
 |exit id=>exact this
 |ret=>exact this
theorem GoesN.cons {P:Program} {y:Code} {n:Nat} {ex:Ex} {T T1 T':List AV} {M M1 M':List Blk} (hl:M.length=M1.length) (h1:Goes P y .normal T M T1 M1) (h:GoesN P y n ex T1 M1 T' M'):GoesN P y (n+1) ex T M T' M':=by
 intro w0 φ a w hr Q hQ
 refine h1 w0 φ a w hr _ ?_
 intro φ' a' w' hag hr'
 refine h w0 φ' a' w' hr' Q ?_
 intro φ'' a'' w'' hag' hr''
 exact hQ φ'' a'' w'' (hag.trans (Nat.le_refl _) (by rw[hl];exact hag')) hr''
structure CT where
 f:FuncId
 g:List V1→Option (List Prop×AV)
def CTok (c:CT):Prop:=∀vs ob r,c.g vs=some (ob,r)→All ob→Spec c.f vs r
def lookC:List CT→FuncId→List V1→Option (List Prop×AV)
 |[],_,_=>none
 |c::r,f,vs=>match Nat.beq c.f f with
  |true=>c.g vs
  |false=>lookC r f vs
def AllCT:List CT→Prop
 |[]=>True
 |c::r=>CTok c∧AllCT r
theorem lookC_spec:∀{L:List CT},AllCT L→∀{f:FuncId} {vs:List V1} {ob:List Prop} {r:AV},lookC L f vs=some (ob,r)→All ob→Spec f vs r
 |[],_,f,vs,ob,r,h,_=>by simp[lookC] at h
 |c::L,hL,f,vs,ob,r,h,ho=>by
  simp only[lookC] at h
  split at h
  ·rename_i hc
   have:=Nat.eq_of_beq_eq_true hc
   rw[←this]
   exact hL.1 vs ob r h ho
  ·exact lookC_spec hL.2 h ho
noncomputable def mkE (L:List CT) (S:FuncId→Nat→Bool):Env:={E0 with fn:=lookC L,S:=S}
theorem envMk {L:List CT} (hL:AllCT L) (S:FuncId→Nat→Bool):EnvOK (mkE L S):=
 ⟨mixed,fun _ _ _ _ h ho=>lookC_spec hL h ho,fun _ _ _ _ _ h=>by simp[mkE,E0] at h,fun _ _ _ h=>by simp[mkE,E0] at h,fun _ _ _ _ _ _ h=>by simp[mkE,E0] at h,fun _ _ _ _ h=>by simp[mkE,E0] at h⟩
def bT:List V1→Option (List Prop×AV):=fun vs=>match vs with|[]=>some ([],bV true)|_=>none
theorem ctT {f:FuncId} (h:Spec f [] (bV true)):CTok ⟨f,bT⟩:=by
 intro vs ob r hv ho
 simp only[bT] at hv
 split at hv
 ·simp only[Option.some.injEq,Prod.mk.injEq] at hv
  obtain ⟨rfl,rfl⟩:=hv
  exact h
 ·simp at hv
theorem u4:Tryz.prog.underlying 4=some .bool:=by kernel_rfl
theorem laid:laidOutB Tryz.prog=true:=by kernel_rfl
theorem own:ownKnob Tryz.prog.godebug=none:=by kernel_rfl
def dropM:Option (List Prop×List Bool×AV×List Blk)→Option (List Prop×AV)
 |some (o,_,r,_)=>some (o,r)
 |none=>none
theorem dropM_some {x:Option (List Prop×List Bool×AV×List Blk)} {o:List Prop} {r:AV} (h:dropM x=some (o,r)):∃c m,x=some (o,c,r,m):=by
 unfold dropM at h
 split at h
 ·rename_i o' c r' m
  simp only[Option.some.injEq,Prod.mk.injEq] at h
  obtain ⟨rfl,rfl⟩:=h
  exact ⟨c,m,rfl⟩
 ·simp at h
def ldC (t:TypeId) (g:Nat→V1):CT:=⟨3000000+t,fun vs=>match vs with|[.one (.ptr _ off)]=>some ([False],.val (g off))|_=>none⟩
theorem ldC_ok (t:TypeId) (g:Nat→V1):CTok (ldC t g):=by
 intro vs ob r h ho
 simp only[ldC] at h
 split at h
 ·simp only[Option.some.injEq,Prod.mk.injEq] at h
  obtain ⟨rfl,_⟩:=h
  exact ho.1.elim
 ·simp at h
end Go.Ev.Ch
namespace Go.Ev
open Go Go.RowKit Go.ChangeShapes Go.WideShapes Go.ChangeAt
section
variable {P:Program}
end
end Go.Ev
namespace Go.Ev
open Go Go.RowKit
def GoesK (P:Program) (K:Nat) (y:Code) (ex:Ex) (T:List AV) (M:List Blk) (T':List AV) (M':List Blk):Prop:=
 ∀w0 φ a w,Rel w0 φ T M a w→∀Q:Exit→Act→World→Prop,(∀φ' a' w',Agree K φ φ'→Rel w0 φ' T' M' a' w'→Q ex.to a' w')→y.wp P Q a w
theorem Goes.toK {P:Program} {y:Code} {ex:Ex} {T T':List AV} {M M':List Blk} (h:Goes P y ex T M T' M') {K:Nat} (hK:K≤M.length):GoesK P K y ex T M T' M':=
 fun w0 φ a w hr Q hQ=>h w0 φ a w hr Q fun φ' a' w' hag hr'=>hQ φ' a' w' (fun b hb=>hag b (by omega)) hr'
theorem GoesK.goes {P:Program} {K:Nat} {y:Code} {ex:Ex} {T T':List AV} {M M':List Blk} (h:GoesK P K y ex T M T' M') (hK:M.length=K):Goes P y ex T M T' M':=
 fun w0 φ a w hr Q hQ=>h w0 φ a w hr Q fun φ' a' w' hag hr'=>hQ φ' a' w' (by rw[hK];exact hag) hr'
def mvT (K b b':Nat):List AV→List AV→Prop
 |[],[]=>True
 |x::xs,y::ys=>(y= .junk∨(x=y∧y.okP (ltB K)=true)∨(∃n,x= .val (.one (.sx b n))∧y= .val (.one (.sx b' n))))∧mvT K b b' xs ys
 |_,_=>False
theorem mvT_length {K b b':Nat}:∀{T T':List AV},mvT K b b' T T'→T.length=T'.length
 |[],[],_=>rfl
 |[],_::_,h=>h.elim
 |_::_,[],h=>h.elim
 |x::xs,y::ys,h=>by simp[mvT_length h.2]
theorem mvT_get {K b b':Nat}:∀{T T':List AV},mvT K b b' T T'→∀(t:Nat) (y:AV),T'[t]? =some y→y≠.junk→
  ∃x,T[t]? =some x∧x≠.junk∧((x=y∧y.okP (ltB K)=true)∨(∃n,x= .val (.one (.sx b n))∧y= .val (.one (.sx b' n))))
 |[],[],_,t,y,h,_=>by simp at h
 |[],_::_,h,_,_,_,_=>h.elim
 |_::_,[],h,_,_,_,_=>h.elim
 |x::xs,z::zs,h,0,y,hy,hj=>by
  simp only[List.getElem?_cons_zero,Option.some.injEq] at hy;subst hy
  refine ⟨x,rfl,?_,?_⟩
  ·rcases h.1 with h1|⟨rfl,_⟩|⟨n,rfl,_⟩
   ·exact absurd h1 hj
   ·exact hj
   ·simp
  ·rcases h.1 with h1|h1
   ·exact absurd h1 hj
   ·exact h1
 |x::xs,z::zs,h,t+1,y,hy,hj=>by
  simp only[List.getElem?_cons_succ] at hy ⊢
  exact mvT_get h.2 t y hy hj
theorem V1.conc_okL {K:Nat} {φ φ':Loc} (h:∀b,b<K→φ' b=φ b) (x:V1) (hx:x.okP (ltB K)=true):x.conc φ'=x.conc φ:=by
 have h':∀b,ltB K b=true→φ' b=φ b:=fun b hb=>h b (by simp only[ltB,Nat.blt,Nat.ble_eq] at hb;omega)
 rcases x with x|x
 ·cases x with
  |ptr b off=>simp only[V1.okP] at hx;simp[V1.conc,Atom.conc,h' _ hx]
  |sl b off n c=>simp only[V1.okP] at hx;simp[V1.conc,Atom.conc,h' _ hx]
  |sx b n=>simp only[V1.okP] at hx;simp[V1.conc,Atom.conc,h' _ hx]
  |clo f x y=>simp only[V1.okP,Bool.and_eq_true] at hx;simp only[V1.conc,Atom.conc,capC_ok h' x hx.1,capC_ok h' y hx.2]
  |v x=>rfl
  |u k x=>rfl
  |i x=>rfl
 ·simp only[V1.okP] at hx
  simp only[V1.conc,concs_okP h' x hx]
theorem AV.conc_okL {K:Nat} {φ φ':Loc} (h:∀b,b<K→φ' b=φ b) (x:AV) (hx:x.okP (ltB K)=true):x.conc φ'=x.conc φ:=by
 cases x with
 |val x=>rw[okP_val] at hx;exact V1.conc_okL h x hx
 |tup xs=>
  rw[okP_tup] at hx
  simp only[AV.conc]
  congr 2
  refine List.map_congr_left fun v hv=>V1.conc_okL h v ?_
  exact List.all_eq_true.1 hx v hv
 |junk=>rfl
theorem Rel.move {w0:Base} {w:World} {φ φ':Loc} {T1 T':List AV} {M1 M':List Blk} {a:Act} (h:Rel w0 φ' T1 M1 a w) {K b b':Nat} (hag:Agree K φ φ') (hT:mvT K b b' T1 T') (hb':K≤b')
  (hM:∀i k,M'[i]? =some k→k.live=true→(∀f,allPtr f k.ps=true)∧((i<K∧M1[i]? =some k)∨(i=b'∧K≤b∧M1[b]? =some k)))
  (hw:wfS T' M'=true):∃φ'':Loc,(∀i,i≠b'→φ'' i=φ i)∧Rel w0 φ'' T' M' a w:=by
 simp only[wfS,Bool.and_eq_true] at hw
 let φ'':Loc:=fun i=>if i=b' then φ' b else φ i
 have e1:∀i,i<K→φ'' i=φ' i:=by
  intro i hi
  have:i≠b':=by omega
  simp only[φ'',this,if_false]
  exact (hag i hi).symm
 have e2:φ'' b'=φ' b:=by simp[φ'']
 have hfr:∀k:Blk,(∀f,allPtr f k.ps=true)→concs φ'' k.ps=concs φ' k.ps:=fun k hk=>concs_okP (f:=fun _=>false) (fun _ h=>by simp at h) _ (hk _)
 have hcase:∀i k,M'[i]? =some k→k.live=true→∃j,M1[j]? =some k∧φ'' i=φ' j∧concs φ'' k.ps=concs φ' k.ps∧((i<K∧j=i)∨(i=b'∧j=b∧K≤b)):=by
  intro i k hk hl
  obtain ⟨hf,h1|h1⟩:=hM i k hk hl
  ·exact ⟨i,h1.2,e1 i h1.1,hfr k hf,.inl ⟨h1.1,rfl⟩⟩
  ·obtain ⟨rfl,hKb,h2⟩:=h1
   exact ⟨b,h2,e2,hfr k hf,.inr ⟨rfl,rfl,hKb⟩⟩
 refine ⟨φ'',fun i hi=>by simp[φ'',hi],⟨?_,?_⟩,h.defs,tmsWf_mem hw.1,⟨h.mrel.below,?_,?_,?_,?_,fun i k hk=>memWf_mem hw.2 i k hk⟩⟩
 ·rw[h.tmps.size,mvT_length hT]
 ·intro t y hy hj
  obtain ⟨x,hx,hxj,h1|⟨n,rfl,rfl⟩⟩:=mvT_get hT t y hy hj
  ·obtain ⟨rfl,hok⟩:=h1
   rw[AV.conc_okL e1 x hok]
   exact h.tmps.get t x hx hxj
  ·have:=h.tmps.get t _ hx hxj
   rw[this]
   simp only[AV.conc,V1.conc,Atom.conc,e2]
 ·intro i j k k' hk hk' hl hl' hr hr' he
  obtain ⟨i1,q1,q2,_,q3⟩:=hcase i k hk hl
  obtain ⟨j1,r1,r2,_,r3⟩:=hcase j k' hk' hl'
  rw[q2,r2] at he
  have:=h.mrel.inj i1 j1 k k' q1 r1 hl hl' hr hr' he
  omega
 ·intro i k hk hl hr
  obtain ⟨i1,q1,q2,_,_⟩:=hcase i k hk hl
  rw[q2];exact h.mrel.own i1 k q1 hl hr
 ·intro i k hk hl hr
  obtain ⟨i1,q1,q2,q3,_⟩:=hcase i k hk hl
  rw[q2,q3];exact h.mrel.old i1 k q1 hl hr
 ·intro i k hk hl hr
  obtain ⟨i1,q1,q2,q3,_⟩:=hcase i k hk hl
  rw[q2,q3];exact h.mrel.blk i1 k q1 hl hr
theorem GoesK.move {P:Program} {K:Nat} {y:Code} {ex:Ex} {T T1 T':List AV} {M M1 M':List Blk} (h:GoesK P K y ex T M T1 M1) {K' b b':Nat} (hT:mvT K b b' T1 T') (hK:K'≤b') (hKK:K≤K')
  (hM:∀i k,M'[i]? =some k→k.live=true→(∀f,allPtr f k.ps=true)∧((i<K∧M1[i]? =some k)∨(i=b'∧K≤b∧M1[b]? =some k)))
  (hw:wfS T' M'=true):GoesK P K' y ex T M T' M':=by
 intro w0 φ a w hr Q hQ
 refine h w0 φ a w hr Q ?_
 intro φ' a' w' hag hr'
 obtain ⟨φ'',h1,h2⟩:=hr'.move hag hT (by omega) hM hw
 exact hQ φ'' a' w' (fun i hi=>h1 i (by omega)) h2
theorem loop_goesK {P:Program} {K:Nat} {y:Code} {ex:Ex} (hex:ex≠.normal) {N:Nat} {T:Nat→List AV} {M:Nat→List Blk} {TF:List AV} {MF:List Blk}
  (hstep:∀j,j<N→GoesK P K y .normal (T j) (M j) (T (j+1)) (M (j+1))) (hlast:GoesK P K y ex (T N) (M N) TF MF):GoesK P K (.loop y) ex (T 0) (M 0) TF MF:=by
 intro w0 φ a w hr Q hQ
 refine wp_loop_rounds (N+1) ?_
 have key:∀d j,j+d=N→∀φ1 a1 w1,Agree K φ φ1→Rel w0 φ1 (T j) (M j) a1 w1→Code.rounds P y Q (d+1) a1 w1:=by
  intro d
  induction d with
  |zero=>
   intro j hj φ1 a1 w1 hag hr1
   obtain rfl:j=N:=by omega
   refine hlast w0 φ1 a1 w1 hr1 _ ?_
   intro φ' a' w' hag' hr'
   have:=hQ φ' a' w' (hag.trans (Nat.le_refl _) hag') hr'
   cases ex with
   |normal=>exact absurd rfl hex
   |exit id=>exact this
   |ret=>exact this
  |succ d ih=>
   intro j hj φ1 a1 w1 hag hr1
   refine hstep j (by omega) w0 φ1 a1 w1 hr1 _ ?_
   intro φ' a' w' hag' hr'
   exact ih (j+1) (by omega) φ' a' w' (hag.trans (Nat.le_refl _) hag') hr'
 exact key N 0 (by omega) φ a w (Agree.refl _ _) hr
theorem GoesK.out {P:Program} {y:Code} {ex:Ex} {T T':List AV} {M M':List Blk} (h:GoesK P M.length y ex T M T' M'):Goes P y ex T M T' M':=h.goes rfl
theorem runsM_of {E:Env} (hE:EnvOK E) {n:Nat} {f:FuncId} {As:List V1} {Ms:List Blk} {ob:List Prop} {c c':List Bool} {R:AV} {Gs:List Blk}
  (h:callBy E (evalC E n) f As Ms c=some (ob,c',R,Gs)) (ho:All ob) (hv:(As.all fun v=>v.wf Ms.length)=true):RunsM E.P f As Ms R Gs:=by
 intro w0 φ w hm
 have hv:∀v∈As,v.wf Ms.length=true:=by simpa using hv
 refine (callBy_ok hE (evalC_ok hE n) _ _ _ _ _ _ _ _ h ho w0 φ w hm hv).mono ?_
 rintro e w' ⟨φ',rfl,h1,_,h2,_⟩
 exact ⟨φ',rfl,h1,h2⟩
def pickR (ι:List Nat) (b:Nat):Nat:=ι.getD b 0
def picked (Gs:List Blk) (ι:List Nat):List (Option Blk):=ι.map fun i=>Gs[i]?
def pickW (r:Nat→Nat) (Gs:List Blk):List (Option Blk):=Gs.map fun b=>some (renB r b)
def idTo:Nat→List Nat→Nat→Bool
 |_,_,0=>true
 |k,i::is,n+1=>Nat.beq k i&&idTo (k+1) is n
 |_,[],_+1=>false
def pickOk (ι:List Nat) (N K:Nat) (Gs:List Blk) (R:AV):Bool:=
 (allLt N ι&&nodupB ι)&&((Nat.beq ι.length Gs.length&&memWf Gs.length Gs)&&(R.wf Gs.length&&idTo 0 ι K))
theorem idTo_spec:∀{k:Nat} {ι:List Nat} {n:Nat},idTo k ι n=true→∀t,t<n→ι[t]? =some (k+t)
 |_,_,0,_,t,h=>by omega
 |k,[],n+1,h,_,_=>by simp[idTo] at h
 |k,i::is,n+1,h,0,_=>by
  simp only[idTo,Bool.and_eq_true,Nat.beq_eq] at h
  simp[h.1]
 |k,i::is,n+1,h,t+1,ht=>by
  simp only[idTo,Bool.and_eq_true] at h
  rw[List.getElem?_cons_succ,idTo_spec h.2 t (by omega)]
  congr 1;omega
theorem MRel.pick {w0:Base} {φ:Loc} {Gs:List Blk} {w:World} (h:MRel w0 φ Gs w) {ι:List Nat} {Gs':List Blk} (hl:ι.length=Gs'.length) (hn:ι.Nodup) (hw:memWf Gs'.length Gs'=true)
  (hs:picked Gs ι=pickW (pickR ι) Gs'):MRel w0 (fun b=>φ (pickR ι b)) Gs' w:=by
 have at_:∀(t:Nat) (g:Blk),Gs'[t]? =some g→∃i,ι[t]? =some i∧pickR ι t=i∧Gs[i]? =some (renB (pickR ι) g):=by
  intro t g hg
  have ht:t<ι.length:=by rw[hl];exact lt_of_getElem? hg
  have h1:ι[t]? =some ι[t]:=List.getElem?_eq_getElem ht
  refine ⟨ι[t],h1,by simp[pickR,List.getD_eq_getElem?_getD,h1],?_⟩
  have:=congrArg (fun l=>l[t]?) hs
  simp only[picked,pickW,List.getElem?_map,h1,hg,Option.map_some,Option.some.injEq] at this
  exact this
 have hc:∀g:Blk,concs φ (renB (pickR ι) g).ps=concs (fun b=>φ (pickR ι b)) g.ps:=fun g=>renP_conc φ (pickR ι) g.ps
 refine ⟨h.below,?_,?_,?_,?_,?_⟩
 ·intro t u g q hg hq l1 l2 r1 r2 e
  obtain ⟨i,a1,a2,a3⟩:=at_ t g hg
  obtain ⟨j,b1,b2,b3⟩:=at_ u q hq
  rw[a2,b2] at e
  have:=h.inj i j _ _ a3 b3 l1 l2 r1 r2 e
  subst this
  have ht:=lt_of_getElem? a1
  have hu:=lt_of_getElem? b1
  rw[List.getElem?_eq_getElem ht,Option.some.injEq] at a1
  rw[List.getElem?_eq_getElem hu,Option.some.injEq] at b1
  exact (List.getElem_inj hn).1 (a1.trans b1.symm)
 ·intro t g hg l1 r1
  obtain ⟨i,a1,a2,a3⟩:=at_ t g hg
  rw[a2]
  exact h.own i _ a3 l1 r1
 ·intro t g hg l1 r1
  obtain ⟨i,a1,a2,a3⟩:=at_ t g hg
  have:=h.old i _ a3 l1 r1
  rw[hc] at this
  rw[a2]
  exact this
 ·intro t g hg l1 r1
  obtain ⟨i,a1,a2,a3⟩:=at_ t g hg
  have:=h.blk i _ a3 l1 r1
  rw[hc] at this
  rw[a2]
  exact this
 ·intro t g hg
  exact memWf_mem hw t g hg
theorem RunsM.pick {P:Program} {f:FuncId} {As:List V1} {Ms:List Blk} {R:AV} {Gs:List Blk} (h:RunsM P f As Ms R Gs) (ι:List Nat) (R':AV) (Gs':List Blk)
  (hk:pickOk ι Gs.length Ms.length Gs' R'=true) (hs:picked Gs ι=pickW (pickR ι) Gs') (hr:R=R'.ren (pickR ι)):RunsM P f As Ms R' Gs':=by
 simp only[pickOk,Bool.and_eq_true,Nat.beq_eq] at hk
 obtain ⟨⟨_,h2⟩,⟨h3,h4⟩,_,h6⟩:=hk
 intro w0 φ w hm
 refine (h w0 φ w hm).mono ?_
 rintro e w' ⟨φ',rfl,hag,hm'⟩
 refine ⟨fun b=>φ' (pickR ι b),?_,?_,hm'.pick h3 (nodupB_ok h2) h4 hs⟩
 ·rw[hr,AV.ren_conc]
 ·intro b hb
  have:=idTo_spec h6 b hb
  have e:pickR ι b=b:=by simp[pickR,List.getD_eq_getElem?_getD,this]
  show φ' (pickR ι b)=φ b
  rw[e]
  exact hag b hb
def Same (g g':Blk):Prop:=g.elem=g'.elem∧g.live=g'.live∧g.ro=g'.ro∧g.esz=g'.esz∧∀φ,concs φ g.ps=concs φ g'.ps
theorem Same.refl (g:Blk):Same g g:=⟨rfl,rfl,rfl,rfl,fun _=>rfl⟩
def Sames:List Blk→List Blk→Prop
 |[],[]=>True
 |g::gs,g'::gs'=>Same g g'∧Sames gs gs'
 |_,_=>False
theorem Sames.get:∀{Gs Gs':List Blk},Sames Gs Gs'→∀(t:Nat) (g':Blk),Gs'[t]? =some g'→∃g,Gs[t]? =some g∧Same g g'
 |[],[],_,t,g',h=>by simp at h
 |[],_::_,h,_,_,_=>by simp[Sames] at h
 |_::_,[],h,_,_,_=>by simp[Sames] at h
 |g::gs,g'::gs',h,0,x,hx=>by
  simp only[List.getElem?_cons_zero,Option.some.injEq] at hx
  subst hx
  exact ⟨g,rfl,h.1⟩
 |g::gs,g'::gs',h,t+1,x,hx=>by
  simp only[List.getElem?_cons_succ] at hx ⊢
  exact Sames.get h.2 t x hx
theorem MRel.cast {w0:Base} {φ:Loc} {Gs Gs':List Blk} {w:World} (h:MRel w0 φ Gs w) (hs:Sames Gs Gs') (hw:memWf Gs'.length Gs'=true):MRel w0 φ Gs' w:=by
 refine ⟨h.below,?_,?_,?_,?_,fun t g hg=>memWf_mem hw t g hg⟩
 ·intro t u g q hg hq l1 l2 r1 r2 e
  obtain ⟨g0,a1,a2,a3,a4,_⟩:=hs.get t g hg
  obtain ⟨q0,b1,b2,b3,b4,_⟩:=hs.get u q hq
  exact h.inj t u _ _ a1 b1 (by rw[a3];exact l1) (by rw[b3];exact l2) (by rw[a4];exact r1) (by rw[b4];exact r2) e
 ·intro t g hg l1 r1
  obtain ⟨g0,a1,a2,a3,a4,_⟩:=hs.get t g hg
  exact h.own t _ a1 (by rw[a3];exact l1) (by rw[a4];exact r1)
 ·intro t g hg l1 r1
  obtain ⟨g0,a1,a2,a3,a4,a5,a6⟩:=hs.get t g hg
  have:=h.old t _ a1 (by rw[a3];exact l1) (by rw[a4];exact r1)
  rwa[a6] at this
 ·intro t g hg l1 r1
  obtain ⟨g0,a1,a2,a3,a4,a5,a6⟩:=hs.get t g hg
  have:=h.blk t _ a1 (by rw[a3];exact l1) (by rw[a4];exact r1)
  unfold Holds at this ⊢
  rwa[a6,a2,a5] at this
theorem RunsM.cast {P:Program} {f:FuncId} {As:List V1} {Ms:List Blk} {R:AV} {Gs Gs':List Blk} (h:RunsM P f As Ms R Gs) (hs:Sames Gs Gs') (hw:memWf Gs'.length Gs'=true):RunsM P f As Ms R Gs':=by
 intro w0 φ w hm
 refine (h w0 φ w hm).mono ?_
 rintro e w' ⟨φ',rfl,hag,hm'⟩
 exact ⟨φ',rfl,hag,hm'.cast hs hw⟩
theorem RunsM.as {P:Program} {f:FuncId} {As As':List V1} {Ms Ms':List Blk} {R R':AV} {Gs Gs':List Blk} (h:RunsM P f As Ms R Gs) (h1:As=As') (h2:Ms=Ms') (h3:R=R') (h4:Gs=Gs'):RunsM P f As' Ms' R' Gs':=by
 subst h1 h2 h3 h4;exact h
def strsP (d:Nat→ByteArray):Nat→Nat→List Piece
 |_,0=>[]
 |i,n+1=> .a (.v (.string (d i)))::strsP d (i+1) n
theorem strsP_length (d:Nat→ByteArray):∀i n,(strsP d i n).length=n
 |_,0=>rfl
 |i,n+1=>by simp[strsP,strsP_length d (i+1) n]
theorem strsP_cells (d:Nat→ByteArray):∀i n,cellsP (strsP d i n)=true
 |_,0=>rfl
 |i,n+1=>by simp[strsP,cellsP,strsP_cells d (i+1) n]
def upd (d:Nat→ByteArray) (i:Nat) (s:ByteArray):Nat→ByteArray:=fun j=>bif Nat.beq j i then s else d j
theorem upd_self (d:Nat→ByteArray) (i:Nat) (s:ByteArray):upd d i s i=s:=by simp[upd]
theorem upd_ne (d:Nat→ByteArray) {i j:Nat} (h:j≠i) (s:ByteArray):upd d i s j=d j:=by
 unfold upd
 cases hb:Nat.beq j i with
 |true=>exact absurd (Nat.eq_of_beq_eq_true hb) h
 |false=>rfl
theorem strsP_congr {d d':Nat→ByteArray}:∀{i n:Nat},(∀j,i≤j→j<i+n→d j=d' j)→strsP d i n=strsP d' i n
 |_,0,_=>rfl
 |i,n+1,h=>by
  simp only[strsP]
  rw[h i (Nat.le_refl _) (by omega),strsP_congr (i:=i+1) (n:=n) fun j h1 h2=>h j (by omega) (by omega)]
theorem setS_strs (d:Nat→ByteArray) (s:ByteArray):∀(i n k:Nat),k<n→setS (strsP d i n) k s=strsP (upd d (i+k) s) i n
 |_,0,_,h=>by omega
 |i,n+1,0,_=>by
  simp only[strsP,setS,Nat.add_zero,upd_self]
  rw[strsP_congr (d:=d) (d':=upd d i s) fun j h1 _=>(upd_ne d (by omega) s).symm]
 |i,n+1,k+1,h=>by
  simp only[strsP,setS]
  rw[setS_strs d s (i+1) n k (by omega),show i+1+k=i+(k+1) by omega]
  rw[upd_ne d (by omega) s]
theorem strsP_conc (φ:Loc) (d:Nat→ByteArray):∀i n k,k<n→(concs φ (strsP d i n))[k]? =some (.string (d (i+k)))
 |_,0,_,h=>by omega
 |i,n+1,0,_=>by simp[strsP,concs,Piece.conc,Atom.conc]
 |i,n+1,k+1,h=>by
  simp only[strsP,concs,Piece.conc,List.singleton_append,List.getElem?_cons_succ]
  rw[strsP_conc φ d (i+1) n k (by omega)]
  congr 3;omega
theorem loads_strs {P:Program} {t:TypeId} (ha:isAggA P t=some false) (d:Nat→ByteArray) {i n k:Nat} (h:k<n):LoadsAs P t (strsP d i n) k (.one (.v (.string (d (i+k))))):=
 fun φ=>⟨ha,strsP_conc φ d i n k h⟩
end Go.Ev
namespace Go.Ev.Ch.T
open Go Go.Proofs Go.RowKit
set_option maxRecDepth 100000
def sS (s:ByteArray):V1:= .one (.v (.string s))
def TC (s:ByteArray) (c:Nat) (i:Int):List AV:=slots 29 [(0,.val (sS s)),(2,.val (u32 0)),(3,.val (u32 c)),(6,iV s.size),(7,iV i)]
noncomputable def SC:FuncId→Nat→Bool:=fun f t=>match f with|47=>memN t [8,13,17,25,26]|_=>false
noncomputable def EC:Env:={E0 with S:=SC}
theorem envEC:EnvOK EC:=⟨mixed,envE0.fns,envE0.fms,envE0.lps,envE0.fbs,envE0.fws⟩
def crc1 (c:Nat):Nat:=c/2^min 1 (IntKind.bits IntKind.u32)%bitsOf IntKind.u32^^^(((4294967296:Nat)-(c%bitsOf IntKind.u32&&&1%bitsOf IntKind.u32)%bitsOf IntKind.u32)%bitsOf IntKind.u32%bitsOf IntKind.u32&&&2197175160%bitsOf IntKind.u32)%bitsOf IntKind.u32
def TI (s:ByteArray) (c:Nat) (i j:Int):List AV:=slots 29 [(0,.val (sS s)),(2,.val (u32 0)),(3,.val (u32 c)),(4,iV i),(6,iV s.size),(7,iV i),(16,iV j)]
def crcI (c:Nat):Nat→Nat
 |0=>c
 |j+1=>crc1 (crcI c j)
def xorB (c b:Nat):Nat:=c%bitsOf IntKind.u32^^^b%bitsOf IntKind.u32%bitsOf IntKind.u32
def crcB (c b:Nat):Nat:=crcI (xorB c b) 8
def crcN (s:ByteArray):Nat→Nat
 |0=>4294967295
 |i+1=>crcB (crcN s i) (s.data.getD i 0).toNat
theorem iy (s:ByteArray) (c i j:Nat):runTo EC 1000 (SC 47) (bodyOf Tryz.prog 47 7) (TI s c (i:Int) (j:Int)) [] [true] (TI s (crc1 c) (i:Int) ((j:Int)+1)) 0=
  some ([decide ((j:Int)<8)=true,inI ((j:Int)+1)],.normal,TI s (crc1 c) (i:Int) ((j:Int)+1),[]):=by kernel_rfl
theorem inn (s:ByteArray) (c i j:Nat):runTo EC 1000 (SC 47) (bodyOf Tryz.prog 47 7) (TI s c (i:Int) (j:Int)) [] [false] (TI s c (i:Int) (j:Int)) 0=
  some ([decide ((j:Int)<8)=false],.exit 2,TI s c (i:Int) (j:Int),[]):=by kernel_rfl
theorem wfTI (s:ByteArray) (c:Nat) (i j:Int):wfS (TI s c i j) []=true:=by kernel_rfl
theorem loopI (s:ByteArray) (c i:Nat):Goes Tryz.prog (.loop (bodyOf Tryz.prog 47 7)) (.exit 2) (TI s c (i:Int) ((0:Nat):Int)) [] (TI s (crcI c 8) (i:Int) ((8:Nat):Int)) []:=by
 refine loop_goes (N:=8) (k:=0) (T:=fun j=>TI s (crcI c j) (i:Int) (j:Int)) (M:=fun _=>[]) (by simp) (fun _ _=>rfl) (fun j hj=> ?_) ?_
 ·have hr:Goes Tryz.prog (bodyOf Tryz.prog 47 7) .normal (TI s (crcI c j) (i:Int) (j:Int)) [] (TI s (crc1 (crcI c j)) (i:Int) ((j:Int)+1)) []:=
   Runs.goes envEC ⟨[true],_,iy s (crcI c j) i j,⟨decide_eq_true (by omega),by unfold inI;omega,trivial⟩,wfTI _ _ _ _⟩
  have e:((j+1:Nat):Int)=(j:Int)+1:=by omega
  show Goes Tryz.prog (bodyOf Tryz.prog 47 7) .normal (TI s (crcI c j) (i:Int) (j:Int)) [] (TI s (crcI c (j+1)) (i:Int) ((j+1:Nat):Int)) []
  rw[e]
  exact hr
 ·exact Runs.goes envEC ⟨[false],_,inn s _ i 8,⟨decide_eq_false (by omega),trivial⟩,wfTI _ _ _ _⟩
noncomputable def EC1 (s:ByteArray) (c i:Nat):Env:=addL EC 7 (bodyOf Tryz.prog 47 7) (sumC (TI s c (i:Int) ((0:Nat):Int)) [] (TI s (crcI c 8) (i:Int) ((8:Nat):Int)) [] (.exit 2))
theorem envEC1 (s:ByteArray) (c i:Nat):EnvOK (EC1 s c i):=envAddL envEC (sumC_ok rfl (loopI s c i))
theorem cy (s:ByteArray) (c i:Nat):runTo (EC1 s (xorB c (s.data.getD (i:Int).toNat 0).toNat) i) 1000 (SC 47) (bodyOf Tryz.prog 47 3) (TC s c (i:Int)) [] [true] (TC s (crcB c (s.data.getD (i:Int).toNat 0).toNat) ((i:Int)+1)) 0=
  some ([decide ((i:Int)<(s.size:Int))=true,(0:Int)≤(i:Int)∧(i:Int)<(s.size:Int),bodyOf Tryz.prog 47 7=bodyOf Tryz.prog 47 7,(TI s (xorB c (s.data.getD (i:Int).toNat 0).toNat) i ((0:Nat):Int),([]:List Blk))=(TI s (xorB c (s.data.getD (i:Int).toNat 0).toNat) i ((0:Nat):Int),[]),wfS (TI s (xorB c (s.data.getD (i:Int).toNat 0).toNat) i ((0:Nat):Int)) []=true,inI ((i:Int)+1)],.normal,TC s (crcB c (s.data.getD (i:Int).toNat 0).toNat) ((i:Int)+1),[]):=by kernel_rfl
theorem cn (s:ByteArray) (c i:Nat):runTo EC 1000 (SC 47) (bodyOf Tryz.prog 47 3) (TC s c (i:Int)) [] [false] (TC s c (i:Int)) 0=
  some ([decide ((i:Int)<(s.size:Int))=false],.exit 0,TC s c (i:Int),[]):=by kernel_rfl
theorem wfTC (s:ByteArray) (c:Nat) (i:Int):wfS (TC s c i) []=true:=by kernel_rfl
theorem loopC (s:ByteArray) (hs:s.size≤1000000):Goes Tryz.prog (.loop (bodyOf Tryz.prog 47 3)) (.exit 0) (TC s 4294967295 ((0:Nat):Int)) [] (TC s (crcN s s.size) ((s.size:Nat):Int)) []:=by
 refine loop_goes (N:=s.size) (k:=0) (T:=fun i=>TC s (crcN s i) (i:Int)) (M:=fun _=>[]) (by simp) (fun _ _=>rfl) (fun i hi=> ?_) ?_
 ·have hr:Goes Tryz.prog (bodyOf Tryz.prog 47 3) .normal (TC s (crcN s i) (i:Int)) [] (TC s (crcB (crcN s i) (s.data.getD (i:Int).toNat 0).toNat) ((i:Int)+1)) []:=
   Runs.goes (envEC1 _ _ _) ⟨[true],_,cy s (crcN s i) i,⟨decide_eq_true (by omega),⟨by omega,by omega⟩,rfl,rfl,wfTI _ _ _ _,by unfold inI;omega,trivial⟩,wfTC _ _ _⟩
  have e:((i+1:Nat):Int)=(i:Int)+1:=by omega
  show Goes Tryz.prog (bodyOf Tryz.prog 47 3) .normal (TC s (crcN s i) (i:Int)) [] (TC s (crcN s (i+1)) ((i+1:Nat):Int)) []
  rw[e]
  exact hr
 ·exact Runs.goes envEC ⟨[false],_,cn s _ s.size,⟨decide_eq_false (by omega),trivial⟩,wfTC _ _ _⟩
def crcS (s:ByteArray):Nat:=4294967296-1-crcN s s.size%4294967296
noncomputable def EC2 (s:ByteArray):Env:=addL EC 3 (bodyOf Tryz.prog 47 3) (sumC (TC s 4294967295 ((0:Nat):Int)) [] (TC s (crcN s s.size) ((s.size:Nat):Int)) [] (.exit 0))
theorem envEC2 (s:ByteArray) (hs:s.size≤1000000):EnvOK (EC2 s):=envAddL envEC (sumC_ok rfl (loopC s hs))
theorem r47 (s:ByteArray):callR (EC2 s) 1000 47 [sS s] []=some ([bodyOf Tryz.prog 47 3=bodyOf Tryz.prog 47 3,(TC s 4294967295 ((0:Nat):Int),([]:List Blk))=(TC s 4294967295 ((0:Nat):Int),[]),wfS (TC s 4294967295 ((0:Nat):Int)) []=true],.val (u32 (crcS s))):=by kernel_rfl
theorem spec47 (s:ByteArray) (hs:s.size≤1000000):Spec 47 [sS s] (.val (u32 (crcS s))):=spec_run (envEC2 s hs) rfl (r47 s) ⟨rfl,rfl,wfTC _ _ _,trivial⟩ rfl rfl
def fnCrc (vs:List V1):Option (List Prop×AV):=match vs with|[.one (.v (.string s))]=>some ([s.size≤1000000],.val (u32 (crcS s)))|_=>none
theorem ctCrc:CTok ⟨47,fnCrc⟩:=by
 intro vs ob r h ho
 simp only[fnCrc] at h
 split at h
 ·simp only[Option.some.injEq,Prod.mk.injEq] at h
  obtain ⟨rfl,rfl⟩:=h
  exact spec47 _ ho.1
 ·simp at h
structure FT where
 f:FuncId
 g:List V1→List Blk→Option FwR
def FTok (c:FT):Prop:=∀vs mem x,c.g vs mem=some x→All x.ob→RunsM Tryz.prog c.f x.As x.Ms x.R x.Gs
def lookF:List FT→FuncId→List V1→List Blk→Option FwR
 |[],_,_,_=>none
 |c::r,f,vs,mem=>match Nat.beq c.f f with
  |true=>c.g vs mem
  |false=>lookF r f vs mem
def AllFT:List FT→Prop
 |[]=>True
 |c::r=>FTok c∧AllFT r
theorem lookF_spec:∀{L:List FT},AllFT L→∀{f:FuncId} {vs:List V1} {mem:List Blk} {x:FwR},lookF L f vs mem=some x→All x.ob→RunsM Tryz.prog f x.As x.Ms x.R x.Gs
 |[],_,_,_,_,_,h,_=>by simp[lookF] at h
 |c::L,hL,f,vs,mem,x,h,ho=>by
  simp only[lookF] at h
  split at h
  ·rename_i hc
   have:=Nat.eq_of_beq_eq_true hc
   rw[←this]
   exact hL.1 vs mem x h ho
  ·exact lookF_spec hL.2 h ho
noncomputable def mkW (L:List CT) (F:List FT) (S:FuncId→Nat→Bool):Env:={E0 with fn:=lookC L,fw:=lookF F,S:=S}
theorem envW {L:List CT} (hL:AllCT L) {F:List FT} (hF:AllFT F) (S:FuncId→Nat→Bool):EnvOK (mkW L F S):=
 ⟨mixed,fun _ _ _ _ h ho=>lookC_spec hL h ho,fun _ _ _ _ _ h=>by simp[mkW,E0] at h,fun _ _ _ h=>by simp[mkW,E0] at h,fun _ _ _ _ _ _ h=>by simp[mkW,E0] at h,fun _ _ _ _ h ho=>lookF_spec hF h ho⟩
def eqL (x:List V1):Prop:=x=x
def eqB (x:List (Option Blk)):Prop:=x=x
def callM (E:Env) (n:Nat) (f:FuncId) (vs:List V1) (mem:List Blk) (c:List Bool):Option (List Prop×AV×List Blk):=
 match callBy E (evalC E n) f vs mem c with
 |some (ob,_,r,m)=>some (ob,r,m)
 |none=>none
theorem runsM_call {E:Env} (hE:EnvOK E) (hP:E.P=Tryz.prog) {n:Nat} {f:FuncId} {As:List V1} {Ms:List Blk} {ob:List Prop} {c:List Bool} {R:AV} {Gs:List Blk}
  (h:callM E n f As Ms c=some (ob,R,Gs)) (ho:All ob) (hv:(As.all fun v=>v.wf Ms.length)=true):RunsM Tryz.prog f As Ms R Gs:=by
 unfold callM at h
 split at h
 ·rename_i ob1 c1 r1 m1 h1
  simp only[Option.some.injEq,Prod.mk.injEq] at h
  obtain ⟨rfl,rfl,rfl⟩:=h
  rw[←hP]
  exact runsM_of hE h1 ho hv
 ·simp at h
def u64 (n:Nat):V1:= .one (.u .u64 n)
def aB (l:List Nat):Blk:=⟨[.arr .u8 l],5,true,false,1⟩
def nilS:V1:= .one (.v (.slice none 0 0))
def Blk.dead (b:Blk):Blk:=⟨b.ps,b.elem,false,b.ro,b.esz⟩
theorem same_arr {l l':List Nat} (h:l=l'):Same (aB l) (aB l'):=by subst h;exact Same.refl _
def byt (v n:Nat):Nat:=v/2^(8*n)%256
def beL (v:Nat):Nat→List Nat
 |0=>[]
 |n+1=>byt v n::beL v n
theorem beL_length (v:Nat):∀n,(beL v n).length=n
 |0=>rfl
 |n+1=>by simp[beL,beL_length v n]
def pB (v:Nat):Nat→List Nat→List Blk
 |0,_=>[]
 |n+1,l=>⟨[.a (.u .u8 (byt v n))],5,true,false,0⟩::⟨[.arr .u8 (l++[byt v n])],5,Nat.beq n 0,false,1⟩::pB v n (l++[byt v n])
def pO (v:Nat):Nat→Nat→List Nat→List Prop
 |0,_,_=>[]
 |n+1,m,l=>(m=l.length∧0<1∧(m+1)*1≤140737488355328∧m+1≤140737488355328)::pO v n (m+1) (l++[byt v n])
theorem pO_ok (v:Nat):∀(n m:Nat) (l:List Nat),m=l.length→m+n≤1000000→All (pO v n m l)
 |0,_,_,_,_=>trivial
 |n+1,m,l,h,hb=>⟨⟨h,by omega,by omega,by omega⟩,pO_ok v n (m+1) _ (by simp[h]) (by omega)⟩
noncomputable def SP:FuncId→Nat→Bool:=fun f t=>match f with|62=>memN t [2000021]|_=>false
noncomputable def EP:Env:={E0 with S:=SP}
theorem envEP:EnvOK EP:=⟨mixed,envE0.fns,envE0.fms,envE0.lps,envE0.fbs,envE0.fws⟩
theorem p2 (m v:Nat) (l:List Nat):callM EP 1000 62 [.one (.sx 0 m),u64 v,.one (.i 2)] [aB l] []=some (pO v 2 m l,.val (.one (.sx 4 (m+1+1))),Blk.dead (aB l)::pB v 2 l):=by kernel_rfl
theorem p4 (m v:Nat) (l:List Nat):callM EP 1000 62 [.one (.sx 0 m),u64 v,.one (.i 4)] [aB l] []=some (pO v 4 m l,.val (.one (.sx 8 (m+1+1+1+1))),Blk.dead (aB l)::pB v 4 l):=by kernel_rfl
theorem p8 (m v:Nat) (l:List Nat):callM EP 1000 62 [.one (.sx 0 m),u64 v,.one (.i 8)] [aB l] []=some (pO v 8 m l,.val (.one (.sx 16 (m+1+1+1+1+1+1+1+1))),Blk.dead (aB l)::pB v 8 l):=by kernel_rfl
theorem p2n (v:Nat):callM E0 1000 62 [nilS,u64 v,.one (.i 2)] [] []=some ([],.val (.one (.sx 3 2)),[⟨[.a (.u .u8 (byt v 1))],5,true,false,0⟩,⟨[.a (.u .u8 (byt v 1))],5,false,false,1⟩,⟨[.a (.u .u8 (byt v 0))],5,true,false,0⟩,⟨[.a (.u .u8 (byt v 1)),.a (.u .u8 (byt v 0))],5,true,false,1⟩]):=by kernel_rfl
theorem put2 (m v:Nat) (l:List Nat) (h:m=l.length) (hb:m+2≤1000000):RunsM Tryz.prog 62 [.one (.sx 0 m),u64 v,.one (.i 2)] [aB l] (.val (.one (.sx 1 (m+2)))) [Blk.dead (aB l),aB (l++beL v 2)]:=
 ((runsM_call envEP rfl (p2 m v l) (pO_ok v 2 m l h hb) rfl).pick [0,4] (.val (.one (.sx 1 (m+2)))) [Blk.dead (aB l),aB ((l++[byt v 1])++[byt v 0])] rfl rfl rfl).cast ⟨Same.refl _,same_arr (by simp[beL]),trivial⟩ rfl
theorem put4 (m v:Nat) (l:List Nat) (h:m=l.length) (hb:m+4≤1000000):RunsM Tryz.prog 62 [.one (.sx 0 m),u64 v,.one (.i 4)] [aB l] (.val (.one (.sx 1 (m+4)))) [Blk.dead (aB l),aB (l++beL v 4)]:=
 ((runsM_call envEP rfl (p4 m v l) (pO_ok v 4 m l h hb) rfl).pick [0,8] (.val (.one (.sx 1 (m+4)))) [Blk.dead (aB l),aB ((((l++[byt v 3])++[byt v 2])++[byt v 1])++[byt v 0])] rfl rfl rfl).cast ⟨Same.refl _,same_arr (by simp[beL]),trivial⟩ rfl
theorem put8 (m v:Nat) (l:List Nat) (h:m=l.length) (hb:m+8≤1000000):RunsM Tryz.prog 62 [.one (.sx 0 m),u64 v,.one (.i 8)] [aB l] (.val (.one (.sx 1 (m+8)))) [Blk.dead (aB l),aB (l++beL v 8)]:=
 ((runsM_call envEP rfl (p8 m v l) (pO_ok v 8 m l h hb) rfl).pick [0,16] (.val (.one (.sx 1 (m+8)))) [Blk.dead (aB l),aB ((((((((l++[byt v 7])++[byt v 6])++[byt v 5])++[byt v 4])++[byt v 3])++[byt v 2])++[byt v 1])++[byt v 0])] rfl rfl rfl).cast ⟨Same.refl _,same_arr (by simp[beL]),trivial⟩ rfl
theorem put2n (v:Nat):RunsM Tryz.prog 62 [nilS,u64 v,.one (.i 2)] [] (.val (.one (.sx 0 2))) [aB (beL v 2)]:=
 ((runsM_call envE0 rfl (p2n v) trivial rfl).pick [3] (.val (.one (.sx 0 2))) [⟨[.a (.u .u8 (byt v 1)),.a (.u .u8 (byt v 0))],5,true,false,1⟩] rfl rfl rfl).cast ⟨⟨rfl,rfl,rfl,rfl,fun _=>rfl⟩,trivial⟩ rfl
def arrAt (mem:List Blk) (b:Nat):Option (List Nat):=match mem[b]? with
 |some k=>match k.ps with
  |[.arr .u8 l]=>some l
  |_=>none
 |none=>none
def isW (n:Nat):Bool:=Nat.beq n 2||Nat.beq n 4||Nat.beq n 8
def fwPut (vs:List V1) (mem:List Blk):Option FwR:=
 match vs with
 |[.one (.sx b m),.one (.u .u64 v),.one (.i (.ofNat n))]=>match isW n,arrAt mem b with
  |true,some l=>some ⟨[m=l.length,m+n≤1000000],[b],[.one (.sx 0 m),u64 v,.one (.i (.ofNat n))],[aB l],[Blk.dead (aB l),aB (l++beL v n)],.val (.one (.sx 1 (m+n)))⟩
  |_,_=>none
 |[.one (.v (.slice none 0 0)),.one (.u .u64 v),.one (.i (.ofNat 2))]=>some ⟨[],[],[nilS,u64 v,.one (.i 2)],[],[aB (beL v 2)],.val (.one (.sx 0 2))⟩
 |_=>none
theorem ftPut:FTok ⟨62,fwPut⟩:=by
 intro vs mem x h ho
 simp only[fwPut] at h
 split at h
 ·rename_i b m v n
  split at h
  ·rename_i l hn hl
   simp only[Option.some.injEq] at h
   subst h
   obtain ⟨h1,h2,_⟩:=ho
   simp only[isW,Bool.or_eq_true,Nat.beq_eq] at hn
   rcases hn with (rfl|rfl)|rfl
   ·exact put2 m v l h1 h2
   ·exact put4 m v l h1 h2
   ·exact put8 m v l h1 h2
  ·simp at h
 ·simp only[Option.some.injEq] at h
  subst h
  exact put2n _
 ·simp at h
def tk1 (x b:Nat):Nat:=x*2^min 8 (IntKind.bits IntKind.u64)%bitsOf IntKind.u64%bitsOf IntKind.u64|||b%bitsOf IntKind.u64%bitsOf IntKind.u64
def tkF (s:ByteArray):Nat→Nat
 |0=>0
 |i+1=>tk1 (tkF s i) (s.data.getD i 0).toNat
def TT (s:ByteArray) (x:Nat) (i:Int):List AV:=slots 18 [(0,.val (sS s)),(2,.val (u64 x)),(5,iV s.size),(6,iV i)]
noncomputable def ST:FuncId→Nat→Bool:=fun f t=>match f with|60=>memN t [7,13,16]|_=>false
noncomputable def ET:Env:={E0 with S:=ST}
theorem envET:EnvOK ET:=⟨mixed,envE0.fns,envE0.fms,envE0.lps,envE0.fbs,envE0.fws⟩
theorem ty (s:ByteArray) (x i:Nat):runTo ET 1000 (ST 60) (bodyOf Tryz.prog 60 2) (TT s x (i:Int)) [] [true] (TT s (tk1 x (s.data.getD (i:Int).toNat 0).toNat) ((i:Int)+1)) 0=
  some ([decide ((i:Int)<(s.size:Int))=true,(0:Int)≤(i:Int)∧(i:Int)<(s.size:Int),inI ((i:Int)+1)],.normal,TT s (tk1 x (s.data.getD (i:Int).toNat 0).toNat) ((i:Int)+1),[]):=by kernel_rfl
theorem tn (s:ByteArray) (x i:Nat):runTo ET 1000 (ST 60) (bodyOf Tryz.prog 60 2) (TT s x (i:Int)) [] [false] (TT s x (i:Int)) 0=
  some ([decide ((i:Int)<(s.size:Int))=false],.exit 0,TT s x (i:Int),[]):=by kernel_rfl
theorem wfTT (s:ByteArray) (x:Nat) (i:Int):wfS (TT s x i) []=true:=by kernel_rfl
theorem loopT (s:ByteArray) (hs:s.size≤1000000):Goes Tryz.prog (.loop (bodyOf Tryz.prog 60 2)) (.exit 0) (TT s 0 ((0:Nat):Int)) [] (TT s (tkF s s.size) ((s.size:Nat):Int)) []:=by
 refine loop_goes (N:=s.size) (k:=0) (T:=fun i=>TT s (tkF s i) (i:Int)) (M:=fun _=>[]) (by simp) (fun _ _=>rfl) (fun i hi=> ?_) ?_
 ·have hr:Goes Tryz.prog (bodyOf Tryz.prog 60 2) .normal (TT s (tkF s i) (i:Int)) [] (TT s (tk1 (tkF s i) (s.data.getD (i:Int).toNat 0).toNat) ((i:Int)+1)) []:=
   Runs.goes envET ⟨[true],_,ty s (tkF s i) i,⟨decide_eq_true (by omega),⟨by omega,by omega⟩,by unfold inI;omega,trivial⟩,wfTT _ _ _⟩
  have e:((i+1:Nat):Int)=(i:Int)+1:=by omega
  show Goes Tryz.prog (bodyOf Tryz.prog 60 2) .normal (TT s (tkF s i) (i:Int)) [] (TT s (tkF s (i+1)) ((i+1:Nat):Int)) []
  rw[e]
  exact hr
 ·exact Runs.goes envET ⟨[false],_,tn s _ s.size,⟨decide_eq_false (by omega),trivial⟩,wfTT _ _ _⟩
def tkS (s:ByteArray):Nat:=tkF s s.size
noncomputable def ET2 (s:ByteArray):Env:=addL ET 2 (bodyOf Tryz.prog 60 2) (sumC (TT s 0 ((0:Nat):Int)) [] (TT s (tkF s s.size) ((s.size:Nat):Int)) [] (.exit 0))
theorem envET2 (s:ByteArray) (hs:s.size≤1000000):EnvOK (ET2 s):=envAddL envET (sumC_ok rfl (loopT s hs))
theorem r60 (s:ByteArray):callR (ET2 s) 1000 60 [sS s] []=some ([bodyOf Tryz.prog 60 2=bodyOf Tryz.prog 60 2,(TT s 0 ((0:Nat):Int),([]:List Blk))=(TT s 0 ((0:Nat):Int),[]),wfS (TT s 0 ((0:Nat):Int)) []=true],.val (u64 (tkS s))):=by kernel_rfl
theorem spec60 (s:ByteArray) (hs:s.size≤1000000):Spec 60 [sS s] (.val (u64 (tkS s))):=spec_run (envET2 s hs) rfl (r60 s) ⟨rfl,rfl,wfTT _ _ _,trivial⟩ rfl rfl
def fnTake (vs:List V1):Option (List Prop×AV):=match vs with|[.one (.v (.string s))]=>some ([s.size≤1000000],.val (u64 (tkS s)))|_=>none
theorem ctTake:CTok ⟨60,fnTake⟩:=by
 intro vs ob r h ho
 simp only[fnTake] at h
 split at h
 ·simp only[Option.some.injEq,Prod.mk.injEq] at h
  obtain ⟨rfl,rfl⟩:=h
  exact spec60 _ ho.1
 ·simp at h
def nz (z:Int):Nat:=(z%((bitsOf .u64:Nat):Int)).toNat
def h0:List Nat:=[110,111,116,97,114,121,45,49]
def hdL (a:Nat) (b c:Int) (_:Nat):List Nat:=((h0++beL a 8)++beL (nz b) 2)++beL (nz c) 4
def hdM (a:Nat) (b c:Int) (d:Nat):List Nat:=hdL a b c d++beL (d%bitsOf .u64) 4
def hdC (a:Nat) (b c:Int) (d:Nat):Nat:=crcS (strOf (hdM a b c d))%bitsOf .u64
def hdB (a:Nat) (b c:Int) (d:Nat):ByteArray:=strOf ((hdM a b c d++beL (hdC a b c d) 4)++List.replicate 34 0)
def hdV (a:Nat) (b c:Int) (d:Nat):V1:= .agg [.a (.u .u64 a),.a (.i b),.a (.i c),.a (.u .u32 d)]
noncomputable def SH:FuncId→Nat→Bool:=fun f t=>match f with|67=>memN t [6000013,6000017,2000004,2000005,2000025,2000030,2000031]|_=>false
noncomputable def EH:Env:=mkW [⟨47,fnCrc⟩] [⟨62,fwPut⟩] SH
theorem envEH:EnvOK EH:=envW (L:=[⟨47,fnCrc⟩]) ⟨ctCrc,trivial⟩ (F:=[⟨62,fwPut⟩]) ⟨ftPut,trivial⟩ SH
theorem r67 (a d:Nat) (b c:Int):callR EH 1000 67 [hdV a b c d] []=some ([
  eqL [.one (.sx 1 8),u64 a,.one (.i 8)],eqB [some (aB h0)],8=h0.length,8+8≤1000000,
  eqL [.one (.sx 2 16),u64 (nz b),.one (.i 2)],eqB [some (aB (h0++beL a 8))],16=(h0++beL a 8).length,16+2≤1000000,
  eqL [.one (.sx 3 18),u64 (nz c),.one (.i 4)],eqB [some (aB ((h0++beL a 8)++beL (nz b) 2))],18=((h0++beL a 8)++beL (nz b) 2).length,18+4≤1000000,
  eqL [.one (.sx 7 22),u64 (d%bitsOf .u64),.one (.i 4)],eqB [some (aB (hdL a b c d))],22=(hdL a b c d).length,22+4≤1000000,
  0=0∧26=(hdM a b c d).length,(strOf (hdM a b c d)).size≤1000000,
  eqL [.one (.sx 11 26),u64 (hdC a b c d),.one (.i 4)],eqB [some (aB (hdM a b c d))],26=(hdM a b c d).length,26+4≤1000000,
  0=0∧64=((hdM a b c d++beL (hdC a b c d) 4)++List.replicate 34 0).length],.val (sS (hdB a b c d))):=by kernel_rfl
theorem so_size (l:List Nat):(strOf l).size=l.length:=by simp[strOf,ByteArray.size]
theorem so_get (l:List Nat) (i:Nat):((strOf l).data.getD i 0).toNat=l.getD i 0%256:=by
 unfold strOf
 simp only[Array.getD_eq_getD_getElem?,List.getElem?_toArray,List.getElem?_map,List.getD_eq_getElem?_getD]
 cases l[i]? <;>simp
theorem so_cut (a b c:List Nat):(strOf (a++b++c)).extract a.length (a.length+b.length)=strOf b:=by
 apply ByteArray.ext
 rw[ByteArray.data_extract]
 simp only[strOf,List.extract_toArray,List.extract_eq_take_drop,Nat.add_sub_cancel_left,List.map_append]
 congr 1
 rw[List.append_assoc,List.drop_left' (by simp),List.take_left' (by simp)]
theorem tk1_eq (x b:Nat) (hb:b<256):tk1 x b=(x*256+b)%18446744073709551616:=by
 unfold tk1
 rw[show (2:Nat)^min 8 (IntKind.bits IntKind.u64)=256 from rfl,show bitsOf IntKind.u64=18446744073709551616 from rfl,Nat.mod_mod,Nat.mod_mod,Nat.mod_eq_of_lt (show b<18446744073709551616 by omega)]
 have h1:x*256%18446744073709551616=2^8*(x%72057594037927936):=by omega
 rw[h1,←Nat.two_pow_add_eq_or_of_lt (i:=8) (by omega)]
 omega
theorem tkF_eq (l:List Nat):∀n,n≤l.length→tkF (strOf l) n=(l.take n).foldl (fun x b=>tk1 x (b%256)) 0
 |0,_=>rfl
 |n+1,h=>by
  rw[tkF,tkF_eq l n (by omega),so_get,List.take_add_one,List.foldl_append,List.getElem?_eq_getElem (show n<l.length by omega),List.getD_eq_getElem?_getD,List.getElem?_eq_getElem (show n<l.length by omega)]
  rfl
theorem tkS_eq (l:List Nat):tkS (strOf l)=l.foldl (fun x b=>tk1 x (b%256)) 0:=by
 unfold tkS
 rw[so_size,tkF_eq l _ (Nat.le_refl _),List.take_length]
theorem byt_lt (v n:Nat):byt v n<256:=Nat.mod_lt _ (by decide)
theorem fold_be (v:Nat):∀n x,n≤8→(beL v n).foldl (fun x b=>tk1 x (b%256)) x=(x*256^n+v%256^n)%18446744073709551616∨(n=0∧(beL v n).foldl (fun x b=>tk1 x (b%256)) x=x)
 |0,x,_=> .inr ⟨rfl,rfl⟩
 |n+1,x,h=>by
  left
  have e:byt v n*256^n+v%256^n=v%256^(n+1):=by
   have h2:byt v n=v/256^n%256:=by unfold byt;rw[Nat.pow_mul]
   rw[h2,Nat.pow_succ,Nat.mod_mul,Nat.mul_comm]
   omega
  rw[beL,List.foldl_cons,Nat.mod_eq_of_lt (byt_lt v n),tk1_eq _ _ (byt_lt v n)]
  rcases fold_be v n ((x*256+byt v n)%18446744073709551616) (by omega) with h1|⟨rfl,h1⟩
  ·rw[h1,←e,Nat.add_mod,Nat.mod_mul_mod,←Nat.add_mod,Nat.pow_succ]
   congr 1
   rw[Nat.add_mul]
   have:x*256*256^n=x*(256^n*256):=by rw[Nat.mul_assoc,Nat.mul_comm 256]
   omega
  ·rw[h1,←e]
   simp[Nat.mod_one]
theorem tkS_be (v n:Nat) (hn:n≤8) (hv:v<256^n):tkS (strOf (beL v n))=v:=by
 rw[tkS_eq]
 have h8:256^n≤256^8:=Nat.pow_le_pow_right (by decide) hn
 rcases fold_be v n 0 hn with h|⟨rfl,h⟩
 ·rw[h,Nat.zero_mul,Nat.zero_add,Nat.mod_eq_of_lt hv,Nat.mod_eq_of_lt (by omega)]
 ·rw[h];simp at hv;omega
theorem hdL_length (a d:Nat) (b c:Int):(hdM a b c d).length=26:=by simp[hdM,hdL,h0,beL_length]
theorem hdAll_length (a d:Nat) (b c:Int):((hdM a b c d++beL (hdC a b c d) 4)++List.replicate 34 0).length=64:=by simp[hdM,hdL,h0,beL_length]
theorem hdB_size (a d:Nat) (b c:Int):(hdB a b c d).size=64:=by unfold hdB;rw[so_size,hdAll_length]
theorem spec67 (a d:Nat) (b c:Int):Spec 67 [hdV a b c d] (.val (sS (hdB a b c d))):=
 spec_run envEH rfl (r67 a d b c) ⟨rfl,rfl,rfl,by decide,rfl,rfl,by simp[h0,beL_length],by decide,rfl,rfl,by simp[h0,beL_length],by decide,rfl,rfl,by simp[hdL,h0,beL_length],by decide,
  ⟨rfl,(hdL_length a d b c).symm⟩,by rw[so_size,hdL_length];decide,rfl,rfl,(hdL_length a d b c).symm,by decide,⟨rfl,(hdAll_length a d b c).symm⟩,trivial⟩ rfl rfl
def fnHead (vs:List V1):Option (List Prop×AV):=match vs with|[.agg [.a (.u .u64 a),.a (.i b),.a (.i c),.a (.u .u32 d)]]=>some ([],.val (sS (hdB a b c d)))|_=>none
theorem ctHead:CTok ⟨67,fnHead⟩:=by
 intro vs ob r h ho
 simp only[fnHead] at h
 split at h
 ·simp only[Option.some.injEq,Prod.mk.injEq] at h
  obtain ⟨rfl,rfl⟩:=h
  exact spec67 _ _ _ _
 ·simp at h
def fA (s:ByteArray):Nat:=tkS (s.extract 8 16)
def fB (s:ByteArray):Int:=IntKind.i64.wrap (tkS (s.extract 16 18))
def fC (s:ByteArray):Int:=IntKind.i64.wrap (tkS (s.extract 18 22))
def fD (s:ByteArray):Nat:=tkS (s.extract 22 26)%bitsOf .u32
def hoE (s:ByteArray):Bool:=(hdB (fA s) (fB s) (fC s) (fD s)).toList==s.toList
noncomputable def SO:FuncId→Nat→Bool:=fun f t=>match f with|59=>memN t [6,9,13,17,25,29,34]|_=>false
noncomputable def EO:Env:=mkW [⟨60,fnTake⟩,⟨67,fnHead⟩] [] SO
theorem envEO:EnvOK EO:=envW (L:=[⟨60,fnTake⟩,⟨67,fnHead⟩]) ⟨ctTake,ctHead,trivial⟩ (F:=[]) trivial SO
def hoO (s:ByteArray):List Prop:=[(0:Int)≤16∧(16:Int)≤(s.size:Int),(0:Int)≤8∧(8:Int)≤((Int.toNat 16:Nat):Int),(s.extract 8 16).size≤1000000,(0:Int)≤18∧(18:Int)≤(s.size:Int),(0:Int)≤16∧(16:Int)≤((Int.toNat 18:Nat):Int),(s.extract 16 18).size≤1000000,
 (0:Int)≤22∧(22:Int)≤(s.size:Int),(0:Int)≤18∧(18:Int)≤((Int.toNat 22:Nat):Int),(s.extract 18 22).size≤1000000,(0:Int)≤26∧(26:Int)≤(s.size:Int),(0:Int)≤22∧(22:Int)≤((Int.toNat 26:Nat):Int),(s.extract 22 26).size≤1000000]
theorem hoO_ok {s:ByteArray} (h:s.size=64) {P:List Prop} (hP:All P):All (hoO s++P):=by
 rw[All_append]
 exact ⟨⟨⟨by decide,by omega⟩,by decide,by rw[ByteArray.size_extract];omega,⟨by decide,by omega⟩,by decide,by rw[ByteArray.size_extract];omega,⟨by decide,by omega⟩,by decide,by rw[ByteArray.size_extract];omega,⟨by decide,by omega⟩,by decide,by rw[ByteArray.size_extract];omega,trivial⟩,hP⟩
theorem r59n (s:ByteArray):callR EO 1000 59 [sS s] [false]=some (hoO s++[hoE s=false],.tup [hdV (fA s) (fB s) (fC s) (fD s),.one (.v (.bool false))]):=by kernel_rfl
theorem r59b (s:ByteArray):callR EO 1000 59 [sS s] [true,false]=some (hoO s++[hoE s=true,decide (fB s≤40)=false],.tup [hdV (fA s) (fB s) (fC s) (fD s),.one (.v (.bool false))]):=by kernel_rfl
theorem r59t (s:ByteArray):callR EO 1000 59 [sS s] [true,true,true]=some (hoO s++[hoE s=true,decide (fB s≤40)=true,decide (fC s≤3080)=true],.tup [hdV (fA s) (fB s) (fC s) (fD s),.one (.v (.bool true))]):=by kernel_rfl
theorem r59f (s:ByteArray):callR EO 1000 59 [sS s] [true,true,false]=some (hoO s++[hoE s=true,decide (fB s≤40)=true,decide (fC s≤3080)=false],.tup [hdV (fA s) (fB s) (fC s) (fD s),.one (.v (.bool false))]):=by kernel_rfl
def hoV (s:ByteArray):Bool:=hoE s&&(decide (fB s≤40)&&decide (fC s≤3080))
theorem spec59 (s:ByteArray) (h:s.size=64):Spec 59 [sS s] (.tup [hdV (fA s) (fB s) (fC s) (fD s),.one (.v (.bool (hoV s)))]):=by
 unfold hoV
 cases h1:hoE s with
 |false=>exact spec_run envEO rfl (r59n s) (hoO_ok h ⟨h1,trivial⟩) rfl rfl
 |true=>
  cases h2:decide (fB s≤40) with
  |false=>exact spec_run envEO rfl (r59b s) (hoO_ok h ⟨h1,h2,trivial⟩) rfl rfl
  |true=>
   cases h3:decide (fC s≤3080) with
   |false=>exact spec_run envEO rfl (r59f s) (hoO_ok h ⟨h1,h2,h3,trivial⟩) rfl rfl
   |true=>exact spec_run envEO rfl (r59t s) (hoO_ok h ⟨h1,h2,h3,trivial⟩) rfl rfl
def fnHo (vs:List V1):Option (List Prop×AV):=match vs with|[.one (.v (.string s))]=>some ([s.size=64],.tup [hdV (fA s) (fB s) (fC s) (fD s),.one (.v (.bool (hoV s)))])|_=>none
theorem ctHo:CTok ⟨59,fnHo⟩:=by
 intro vs ob r h ho
 simp only[fnHo] at h
 split at h
 ·simp only[Option.some.injEq,Prod.mk.injEq] at h
  obtain ⟨rfl,rfl⟩:=h
  exact spec59 _ ho.1
 ·simp at h
theorem wrap_small (n:Nat) (h:n<4294967296):IntKind.i64.wrap (n:Int)=(n:Int):=by
 exact wrap64_inI ⟨by omega,by omega⟩
theorem nz_small (n:Nat) (h:n<4294967296):nz (n:Int)=n:=by
 unfold nz
 rw[show ((bitsOf .u64:Nat):Int)=18446744073709551616 from rfl]
 omega
section
variable (a b c d:Nat) (ha:a<18446744073709551616) (hb:b<65536) (hc:c<4294967296) (hd:d<4294967296)
include ha in
theorem fA_hd:fA (hdB a b c d)=a:=by
 unfold fA hdB
 have e:(hdM a b c d++beL (hdC a b c d) 4)++List.replicate 34 0=h0++beL a 8++(beL (nz b) 2++beL (nz c) 4++beL (d%bitsOf .u64) 4++beL (hdC a b c d) 4++List.replicate 34 0):=by simp[hdM,hdL]
 have:=so_cut h0 (beL a 8) (beL (nz b) 2++beL (nz c) 4++beL (d%bitsOf .u64) 4++beL (hdC a b c d) 4++List.replicate 34 0)
 have hl:h0.length=8:=rfl
 rw[hl,beL_length] at this
 rw[e,this]
 exact tkS_be a 8 (by decide) (by omega)
include hb in
theorem fB_hd:fB (hdB a b c d)=b:=by
 unfold fB hdB
 have e:(hdM a b c d++beL (hdC a b c d) 4)++List.replicate 34 0=(h0++beL a 8)++beL (nz b) 2++(beL (nz c) 4++beL (d%bitsOf .u64) 4++beL (hdC a b c d) 4++List.replicate 34 0):=by simp[hdM,hdL]
 have:=so_cut (h0++beL a 8) (beL (nz b) 2) (beL (nz c) 4++beL (d%bitsOf .u64) 4++beL (hdC a b c d) 4++List.replicate 34 0)
 have hl:(h0++beL a 8).length=16:=by simp[h0,beL_length]
 rw[hl,beL_length] at this
 rw[e,this,nz_small b (by omega),tkS_be b 2 (by decide) (by omega)]
 exact wrap_small b (by omega)
include hc in
theorem fC_hd:fC (hdB a b c d)=c:=by
 unfold fC hdB
 have e:(hdM a b c d++beL (hdC a b c d) 4)++List.replicate 34 0=(h0++beL a 8++beL (nz b) 2)++beL (nz c) 4++(beL (d%bitsOf .u64) 4++beL (hdC a b c d) 4++List.replicate 34 0):=by simp[hdM,hdL]
 have:=so_cut (h0++beL a 8++beL (nz b) 2) (beL (nz c) 4) (beL (d%bitsOf .u64) 4++beL (hdC a b c d) 4++List.replicate 34 0)
 have hl:(h0++beL a 8++beL (nz b) 2).length=18:=by simp[h0,beL_length]
 rw[hl,beL_length] at this
 rw[e,this,nz_small c hc,tkS_be c 4 (by decide) (by omega)]
 exact wrap_small c hc
include hd in
theorem fD_hd:fD (hdB a b c d)=d:=by
 unfold fD hdB
 have e:(hdM a b c d++beL (hdC a b c d) 4)++List.replicate 34 0=(h0++beL a 8++beL (nz b) 2++beL (nz c) 4)++beL (d%bitsOf .u64) 4++(beL (hdC a b c d) 4++List.replicate 34 0):=by simp[hdM,hdL]
 have:=so_cut (h0++beL a 8++beL (nz b) 2++beL (nz c) 4) (beL (d%bitsOf .u64) 4) (beL (hdC a b c d) 4++List.replicate 34 0)
 have hl:(h0++beL a 8++beL (nz b) 2++beL (nz c) 4).length=22:=by simp[h0,beL_length]
 rw[hl,beL_length] at this
 have hm:d%bitsOf .u64=d:=Nat.mod_eq_of_lt (by rw[show bitsOf .u64=18446744073709551616 from rfl];omega)
 rw[e,this,hm,tkS_be d 4 (by decide) (by omega)]
 exact Nat.mod_eq_of_lt (by rw[show bitsOf .u32=4294967296 from rfl];exact hd)
end
theorem hoV_hd (a b c d:Nat) (ha:a<18446744073709551616) (hb:b≤40) (hc:c≤3080) (hd:d<4294967296):hoV (hdB a b c d)=true:=by
 unfold hoV hoE
 rw[fA_hd a b c d ha,fB_hd a b c d (by omega),fC_hd a b c d (by omega),fD_hd a b c d hd]
 simp;omega
def z64:ByteArray:=strOf (List.replicate 64 0)
theorem z64_size:z64.size=64:=by unfold z64;rw[so_size];rfl
theorem hoV_z:hoV z64=false:=by
 unfold hoV hoE
 have:((hdB (fA z64) (fB z64) (fC z64) (fD z64)).toList==z64.toList)=false:=by
  rw[beq_eq_false_iff_ne]
  intro e
  have h1:=congrArg (fun s:ByteArray=>s.data.getD 0 0) (ByteArray.ext (by
   have:=e
   simpa[ByteArray.toList_eq] using this):hdB (fA z64) (fB z64) (fC z64) (fD z64)=z64)
  have h2:=congrArg UInt8.toNat h1
  simp only[hdB,z64,so_get] at h2
  revert h2
  simp[hdM,hdL,h0]
 rw[this];rfl
theorem renP_strs (ι:Nat→Nat) (d:Nat→ByteArray):∀i n,renP ι (strsP d i n)=strsP d i n
 |_,0=>rfl
 |i,n+1=>by simp only[strsP,renP,Atom.ren,renP_strs ι d (i+1) n]
theorem allPtr_strs (f:Nat→Bool) (d:Nat→ByteArray):∀i n,allPtr f (strsP d i n)=true
 |_,0=>rfl
 |i,n+1=>by simp only[strsP,allPtr,allPtr_strs f d (i+1) n]
def dk (n s p:Atom):Blk:=⟨[.a n,.a s,.a p,.a (.i (-1)),.a (.v (.bool false))],81,true,false,0⟩
def sB (d:Nat→ByteArray):Blk:=⟨strsP d 0 256,9,true,false,1⟩
def nilA:Atom:= .v (.slice none 0 0)
def zD:Nat→ByteArray:=fun _=>z64
theorem renB_sB (ι:Nat→Nat) (d:Nat→ByteArray):renB ι (sB d)=sB d:=by simp only[renB,sB,renP_strs]
def atM (is:List Nat) (x:Option (List Prop×AV×List Blk)):Option (List Prop×AV×Nat×List (Option Blk)):=match x with|some (o,r,m)=>some (o,r,m.length,is.map fun i=>m[i]?)|none=>none
theorem atM_some {is:List Nat} {x:Option (List Prop×AV×List Blk)} {o:List Prop} {r:AV} {n:Nat} {b:List (Option Blk)} (h:atM is x=some (o,r,n,b)):∃m,x=some (o,r,m)∧m.length=n∧(is.map fun i=>m[i]?)=b:=by
 unfold atM at h
 split at h
 ·rename_i o' r' m
  simp only[Option.some.injEq,Prod.mk.injEq] at h
  obtain ⟨rfl,rfl,rfl,rfl⟩:=h
  exact ⟨m,rfl,rfl,rfl⟩
 ·simp at h
theorem r10:atM [7,4,6] (callM E0 2000 10 [.one (.i 256)] [] [])=some ([],.tup [.one (.ptr 7 0),.one (.i 0)],8,[some (dk (.sx 4 256) (.sx 6 256) nilA),some (sB zD),some (sB zD)]):=by kernel_rfl
theorem runs10:RunsM Tryz.prog 10 [.one (.i 256)] [] (.tup [.one (.ptr 0 0),.one (.i 0)]) [dk (.sx 1 256) (.sx 2 256) nilA,sB zD,sB zD]:=by
 obtain ⟨m,h1,h2,h3⟩:=atM_some r10
 refine (runsM_call envE0 rfl h1 trivial rfl).pick [7,4,6] _ _ ?_ ?_ rfl
 ·rw[h2]
  simp only[pickOk,memWf,sB,allPtr_strs]
  rfl
 ·show (List.map (fun i=>m[i]?) [7,4,6])=_
  rw[h3]
  simp only[pickW,List.map_cons,List.map_nil,renB_sB]
  rfl
def allA:List Piece→Bool
 |[]=>true
 | .a _::ps=>allA ps
 |_::_=>false
theorem takeP_all:∀ps:List Piece,allA ps=true→takeP ps ps.length=some ps
 |[],_=>rfl
 | .a x::ps,h=>by simp only[List.length_cons,takeP,takeP_all ps h]
 | .num _ _::_,h=>by simp[allA] at h
 | .arr _ _::_,h=>by simp[allA] at h
theorem cut_all {ps:List Piece} {n:Nat} (h:allA ps=true) (hn:ps.length=n):cutP ps 0 n=some ps:=by
 subst hn
 unfold cutP
 have:dropP ps 0=some ps:=by cases ps<;>rfl
 rw[this]
 exact takeP_all ps h
theorem allPtr_app (f:Nat→Bool):∀ps qs:List Piece,allPtr f ps=true→allPtr f qs=true→allPtr f (ps++qs)=true
 |[],_,_,h=>h
 | .num _ _::ps,qs,h,h'=>by simp only[allPtr] at h;simp only[List.cons_append,allPtr];exact allPtr_app f ps qs h h'
 | .arr _ _::ps,qs,h,h'=>by simp only[allPtr] at h;simp only[List.cons_append,allPtr];exact allPtr_app f ps qs h h'
 | .a x::ps,qs,h,h'=>by
  cases x<;>simp only[List.cons_append,allPtr,Bool.and_eq_true] at h ⊢
  case ptr=>exact ⟨h.1,allPtr_app f ps qs h.2 h'⟩
  case sl=>exact ⟨h.1,allPtr_app f ps qs h.2 h'⟩
  case sx=>exact ⟨h.1,allPtr_app f ps qs h.2 h'⟩
  case clo=>exact ⟨h.1,allPtr_app f ps qs h.2 h'⟩
  all_goals exact allPtr_app f ps qs h h'
theorem app_own {t e sz by_:Nat} (hu:Tryz.prog.underlying t=some (.slice e)) (hi:∃i,Tryz.prog.info? e=some i∧i.size=sz∧i.bytes=by_) (hz:∃z,zeroA Tryz.prog e=some z∧sizes z=sz) (hsz:0<sz)
  {mem:List Blk} {A n b j:Nat} {ps:List Piece} {k:Blk} {y:V1} (hA:mem[A]? =some ⟨ps,e,true,false,sz⟩) (hps:sizes ps=n*sz) (hpf:allPtr (ltB mem.length) ps=true)
  (hy:ownSl y=some (b,0,j)) (hk:mem[b]? =some k) (hl:k.live=true) (hc:allA k.ps=true) (hn:k.ps.length=j*sz) (ho:cellsOk k.ps=true) (hf:allPtr (ltB mem.length) k.ps=true) (hj:0<j)
  (hm:(n+j)*by_≤140737488355328∧n+j≤140737488355328):
  appendG Tryz.prog mem t (.one (.sx A n)) y=some ([],.val (.one (.sx mem.length (n+j))),mem.set A ⟨ps,e,false,false,sz⟩++[⟨ps++k.ps,e,true,false,sz⟩]):=by
 obtain ⟨i,hi,hi1,hi2⟩:=hi
 obtain ⟨z,hz,hz1⟩:=hz
 have hb1:Nat.ble 1 sz=true:=Nat.ble_eq_true_of_le hsz
 have e2:oldSl mem e sz (.one (.sx A n))=some (n,ps,mem.set A ⟨ps,e,false,false,sz⟩):=by
  simp only[oldSl,hA,hps]
  simp[Nat.blt,hb1]
 have e3:cutP k.ps 0 (j*sz)=some k.ps:=cut_all hc hn
 have e4:allPtr (ltB mem.length) (ps++k.ps)=true:=allPtr_app _ _ _ hpf hf
 simp only[appendG,appendA,hu,hi,hz,e2,hy,hk,hl,e3,e4,ho,hz1,hi1,hi2]
 have hb:Nat.ble 1 j=true:=Nat.ble_eq_true_of_le hj
 simp[Nat.blt,hm,hb,hb1]
def pdP:List (Int×ByteArray)→List Piece
 |[]=>[]
 |(z,s)::l=> .a (.i z):: .a (.v (.string s))::pdP l
theorem pdP_sizes:∀l,sizes (pdP l)=l.length*2
 |[]=>rfl
 |(z,s)::l=>by simp only[pdP,sizes,pdP_sizes l,Piece.size,List.length_cons];omega
theorem pdP_ptr (f:Nat→Bool):∀l,allPtr f (pdP l)=true
 |[]=>rfl
 |(z,s)::l=>by simp only[pdP,allPtr,pdP_ptr f l]
theorem pdP_app:∀l z s,pdP l++[.a (.i z),.a (.v (.string s))]=pdP (l++[(z,s)])
 |[],_,_=>rfl
 |(x,y)::l,z,s=>by simp only[pdP,List.cons_append,pdP_app l z s]
def pdB (l:List (Int×ByteArray)):Blk:=⟨pdP l,138,true,false,2⟩
theorem und79:Tryz.prog.underlying 79=some (.slice 138):=by kernel_rfl
theorem i138:∃i,Tryz.prog.info? 138=some i∧i.size=2∧i.bytes=24:=by
 have h:(match Tryz.prog.info? 138 with|some i=>Nat.beq i.size 2&&Nat.beq i.bytes 24|none=>false)=true:=by kernel_rfl
 split at h
 ·rename_i i hi
  simp only[Bool.and_eq_true,Nat.beq_eq] at h
  exact ⟨i,hi,h.1,h.2⟩
 ·simp at h
theorem z138:∃z,zeroA Tryz.prog 138=some z∧sizes z=2:=by
 have h:(match zeroA Tryz.prog 138 with|some z=>Nat.beq (sizes z) 2|none=>false)=true:=by kernel_rfl
 split at h
 ·rename_i z hz
  exact ⟨z,hz,Nat.eq_of_beq_eq_true h⟩
 ·simp at h
noncomputable def SD:FuncId→Nat→Bool:=fun f t=>match f with|80=>memN t [6,14]|66=>memN t [20,28,4000028,38]|58=>memN t [21,2000022]|_=>false
noncomputable def SD0:FuncId→Nat→Bool:=fun f t=>match f with|80=>memN t [6,14]|66=>memN t [20,28,4000028]|58=>memN t [21,2000022]|_=>false
noncomputable def ED:Env:=mkW [] [] SD
noncomputable def ED0:Env:=mkW [] [] SD0
theorem envED:EnvOK ED:=envW (L:=[]) trivial (F:=[]) trivial SD
theorem envED0:EnvOK ED0:=envW (L:=[]) trivial (F:=[]) trivial SD0
def stB (d:Nat→ByteArray) (i:Nat) (s:ByteArray):Blk:=⟨setS (sB d).ps (0+(i:Int).toNat*1) s,9,true,false,1⟩
def wrO (d:Nat→ByteArray) (i:Nat) (s:ByteArray):List Prop:=[decide ((0:Int)≤(i:Int))=true,decide ((i:Int)<((256:Nat):Int))=true,(!decide ((s.size:Int)=64))=false,(0:Int)≤(i:Int)∧(i:Int)<((256:Nat):Int),cellsP (sB d).ps=true∧0+(i:Int).toNat*1<(sB d).ps.length]
def pd1 (i:Nat) (s:ByteArray):Blk:=⟨pdP [((i:Int),s)],138,true,false,0⟩
theorem wr0 (d e:Nat→ByteArray) (i:Nat) (s:ByteArray):callM ED0 2000 66 [.one (.ptr 0 0),.one (.i (i:Int)),sS s] [dk (.sx 1 256) (.sx 2 256) nilA,sB d,sB e] [true,true,false]=
  some (wrO d i s,.val (.one (.i 0)),[dk (.sx 1 256) (.sx 2 256) (.sx 4 1),stB d i s,sB e,pd1 i s,pdB [((i:Int),s)]]):=by kernel_rfl
def wrM (d e:Nat→ByteArray) (i:Nat) (s:ByteArray) (l:List (Int×ByteArray)) (n:Nat):List Blk:=[dk (.sx 1 256) (.sx 2 256) (.sx 3 n),stB d i s,sB e,pdB l,pd1 i s]
theorem wr1 (d e:Nat→ByteArray) (i:Nat) (s:ByteArray) (l:List (Int×ByteArray)) (n:Nat):callM ED 2000 66 [.one (.ptr 0 0),.one (.i (i:Int)),sS s] [dk (.sx 1 256) (.sx 2 256) (.sx 3 n),sB d,sB e,pdB l] [true,true,false]=
  some (wrO d i s++[appendG Tryz.prog (wrM d e i s l n) 79 (.one (.sx 3 n)) (.one (.sl 4 0 1 1))=some ([],.val (.one (.sx 5 (n+1))),(wrM d e i s l n).set 3 (Blk.dead (pdB l))++[⟨pdP l++(pd1 i s).ps,138,true,false,2⟩])],.val (.one (.i 0)),
   [dk (.sx 1 256) (.sx 2 256) (.sx 5 (n+1)),stB d i s,sB e,Blk.dead (pdB l),pd1 i s,⟨pdP l++(pd1 i s).ps,138,true,false,2⟩]):=by kernel_rfl
theorem stB_eq (d:Nat→ByteArray) {i:Nat} (s:ByteArray) (h:i<256):stB d i s=sB (upd d i s):=by
 unfold stB sB
 have e:0+(i:Int).toNat*1=i:=by omega
 rw[e,setS_strs d s 0 256 i h,Nat.zero_add]
theorem wrO_ok (d:Nat→ByteArray) {i:Nat} {s:ByteArray} (h:i<256) (hs:s.size=64):All (wrO d i s):=
 ⟨decide_eq_true (by omega),decide_eq_true (by omega),by simp[hs],by omega,⟨strsP_cells d 0 256,by show _<(strsP d 0 256).length;rw[strsP_length];omega⟩,trivial⟩
theorem write0 (d e:Nat→ByteArray) (i:Nat) (s:ByteArray) (h:i<256) (hs:s.size=64):
  RunsM Tryz.prog 66 [.one (.ptr 0 0),.one (.i (i:Int)),sS s] [dk (.sx 1 256) (.sx 2 256) nilA,sB d,sB e] (.val (.one (.i 0))) [dk (.sx 1 256) (.sx 2 256) (.sx 3 1),sB (upd d i s),sB e,pdB [((i:Int),s)]]:=by
 have hr:=runsM_call envED0 rfl (wr0 d e i s) (wrO_ok d h hs) rfl
 rw[stB_eq d s h] at hr
 refine hr.pick [0,1,2,4] _ _ ?_ ?_ rfl
 ·simp only[pickOk,memWf,sB,allPtr_strs];rfl
 ·simp only[picked,pickW,List.map_cons,List.map_nil,renB_sB];rfl
theorem renP_pd (ι:Nat→Nat):∀l,renP ι (pdP l)=pdP l
 |[]=>rfl
 |(z,s)::l=>by simp only[pdP,renP,Atom.ren,renP_pd ι l]
theorem renB_pd (ι:Nat→Nat) (l:List (Int×ByteArray)):renB ι (pdB l)=pdB l:=by simp only[renB,pdB,renP_pd]
theorem renB_pdd (ι:Nat→Nat) (l:List (Int×ByteArray)):renB ι (Blk.dead (pdB l))=Blk.dead (pdB l):=by simp only[renB,Blk.dead,pdB,renP_pd]
theorem write1 (d e:Nat→ByteArray) (i:Nat) (s:ByteArray) (l:List (Int×ByteArray)) (h:i<256) (hs:s.size=64) (hl:l.length≤1000):
  RunsM Tryz.prog 66 [.one (.ptr 0 0),.one (.i (i:Int)),sS s] [dk (.sx 1 256) (.sx 2 256) (.sx 3 l.length),sB d,sB e,pdB l] (.val (.one (.i 0))) [dk (.sx 1 256) (.sx 2 256) (.sx 4 (l.length+1)),sB (upd d i s),sB e,Blk.dead (pdB l),pdB (l++[((i:Int),s)])]:=by
 have ha:=app_own und79 i138 z138 (by decide) (mem:=wrM d e i s l l.length) (A:=3) (n:=l.length) (b:=4) (j:=1) (ps:=pdP l) (k:=pd1 i s) (y:= .one (.sl 4 0 1 1)) rfl (pdP_sizes l) (pdP_ptr _ l) rfl rfl rfl rfl rfl rfl (pdP_ptr _ _) (by decide) (by omega)
 have hr:=runsM_call envED rfl (wr1 d e i s l l.length) (by rw[All_append];exact ⟨wrO_ok d h hs,ha,trivial⟩) (by rfl)
 rw[stB_eq d s h] at hr
 have e1:(⟨pdP l++(pd1 i s).ps,138,true,false,2⟩:Blk)=pdB (l++[((i:Int),s)]):=by unfold pdB;rw[←pdP_app];rfl
 rw[e1] at hr
 refine hr.pick [0,1,2,3,5] _ _ ?_ ?_ rfl
 ·simp only[pickOk,memWf,sB,pdB,Blk.dead,allPtr_strs,pdP_ptr];rfl
 ·simp only[picked,pickW,List.map_cons,List.map_nil,renB_sB,renB_pd,renB_pdd];rfl
noncomputable def LRd (d:Nat→ByteArray):List CT:=[ldC 9 fun off=>sS (d off)]
noncomputable def ERd (d:Nat→ByteArray):Env:=mkW (LRd d) [] SD0
theorem envERd (d:Nat→ByteArray):EnvOK (ERd d):=envW (L:=LRd d) ⟨ldC_ok _ _,trivial⟩ (F:=[]) trivial SD0
def rdO (d:Nat→ByteArray) (i:Nat):List Prop:=[decide ((0:Int)≤(i:Int))=true,decide ((i:Int)<((256:Nat):Int))=true,(0:Int)≤(i:Int)∧(i:Int)<((256:Nat):Int),LoadsAs Tryz.prog 9 (sB d).ps (0+(i:Int).toNat*1) (sS (d (0+(i:Int).toNat*1)))]
theorem rd0 (d e:Nat→ByteArray) (i:Nat):callM (ERd d) 2000 58 [.one (.ptr 0 0),.one (.i (i:Int))] [dk (.sx 1 256) (.sx 2 256) nilA,sB d,sB e] [true,true]=
  some (rdO d i,.tup [sS (d (0+(i:Int).toNat*1)),.one (.i 0)],[dk (.sx 1 256) (.sx 2 256) nilA,sB d,sB e]):=by kernel_rfl
theorem ag9:isAggA Tryz.prog 9=some false:=by kernel_rfl
theorem rdO_ok (d:Nat→ByteArray) {i:Nat} (h:i<256):All (rdO d i):=by
 have e:0+(i:Int).toNat*1=i:=by omega
 refine ⟨decide_eq_true (by omega),decide_eq_true (by omega),by omega,?_,trivial⟩
 rw[e]
 have:=loads_strs (P:=Tryz.prog) ag9 d (i:=0) (n:=256) h
 rw[Nat.zero_add] at this
 exact this
theorem read0 (d e:Nat→ByteArray) (i:Nat) (h:i<256):RunsM Tryz.prog 58 [.one (.ptr 0 0),.one (.i (i:Int))] [dk (.sx 1 256) (.sx 2 256) nilA,sB d,sB e] (.tup [sS (d i),.one (.i 0)]) [dk (.sx 1 256) (.sx 2 256) nilA,sB d,sB e]:=by
 have hr:=runsM_call (envERd d) rfl (rd0 d e i) (rdO_ok d h) rfl
 have e1:0+(i:Int).toNat*1=i:=by omega
 rw[e1] at hr
 exact hr
theorem fl0 (d e:Nat→ByteArray):atM [0,1,2,4] (callM ED0 2000 68 [.one (.ptr 0 0)] [dk (.sx 1 256) (.sx 2 256) nilA,sB d,sB e] [])=some ([],.val (.one (.i 0)),5,[some (dk (.sx 1 256) (.sx 4 256) nilA),some (sB d),some (sB e),some (sB d)]):=by kernel_rfl
theorem fl1 (d e:Nat→ByteArray) (l:List (Int×ByteArray)) (n:Nat):atM [0,1,2,3,5] (callM ED0 2000 68 [.one (.ptr 0 0)] [dk (.sx 1 256) (.sx 2 256) (.sx 3 n),sB d,sB e,pdB l] [])=some ([],.val (.one (.i 0)),6,[some (dk (.sx 1 256) (.sx 5 256) nilA),some (sB d),some (sB e),some (pdB l),some (sB d)]):=by kernel_rfl
theorem flush0 (d e:Nat→ByteArray):RunsM Tryz.prog 68 [.one (.ptr 0 0)] [dk (.sx 1 256) (.sx 2 256) nilA,sB d,sB e] (.val (.one (.i 0))) [dk (.sx 1 256) (.sx 3 256) nilA,sB d,sB e,sB d]:=by
 obtain ⟨m,h1,h2,h3⟩:=atM_some (fl0 d e)
 refine (runsM_call envED0 rfl h1 trivial rfl).pick [0,1,2,4] _ _ ?_ ?_ rfl
 ·rw[h2]
  simp only[pickOk,memWf,sB,allPtr_strs];rfl
 ·show (List.map (fun i=>m[i]?) [0,1,2,4])=_
  rw[h3]
  simp only[pickW,List.map_cons,List.map_nil,renB_sB];rfl
theorem flush1 (d e:Nat→ByteArray) (l:List (Int×ByteArray)) (n:Nat):RunsM Tryz.prog 68 [.one (.ptr 0 0)] [dk (.sx 1 256) (.sx 2 256) (.sx 3 n),sB d,sB e,pdB l] (.val (.one (.i 0))) [dk (.sx 1 256) (.sx 4 256) nilA,sB d,sB e,pdB l,sB d]:=by
 obtain ⟨m,h1,h2,h3⟩:=atM_some (fl1 d e l n)
 refine (runsM_call envED0 rfl h1 trivial ?_).pick [0,1,2,3,5] _ _ ?_ ?_ rfl
 ·rfl
 ·rw[h2]
  simp only[pickOk,memWf,sB,pdB,allPtr_strs,pdP_ptr];rfl
 ·show (List.map (fun i=>m[i]?) [0,1,2,3,5])=_
  rw[h3]
  simp only[pickW,List.map_cons,List.map_nil,renB_sB,renB_pd];rfl
noncomputable def SF:FuncId→Nat→Bool:=fun f t=>match f with|44=>memN t [28,39]|_=>false
noncomputable def EF:Env:=mkW [⟨59,fnHo⟩] [] SF
theorem envEF:EnvOK EF:=envW (L:=[⟨59,fnHo⟩]) ⟨ctHo,trivial⟩ (F:=[]) trivial SF
def ahd (x y:Nat):Int:=IntKind.i64.wrap (((y+(18446744073709551616-x%bitsOf .u64))%bitsOf .u64:Nat):Int)
theorem ahd_one (x:Nat) (h:x<1000000):decide (0<ahd x (x+1))=true:=by
 unfold ahd
 have e:((x+1)+(18446744073709551616-x%bitsOf .u64))%bitsOf .u64=1:=by
  rw[show bitsOf .u64=18446744073709551616 from rfl];omega
 rw[e,wrap_small 1 (by decide)]
 decide
def dkM (d e:Nat→ByteArray):List Blk:=[dk (.sx 1 256) (.sx 2 256) nilA,sB d,sB e]
theorem fnd0 (d e:Nat→ByteArray):atM [0,1,2] (callM EF 2000 44 [.one (.ptr 0 0)] (dkM d e) [false,false])=some ([(d 0).size=64,hoV (d 0)=false,(d 1).size=64,hoV (d 1)=false],.tup [.one (.i (-1)),hdV 0 0 0 0,.one (.i 0)],6,[some (dk (.sx 1 256) (.sx 2 256) nilA),some (sB d),some (sB e)]):=by kernel_rfl
theorem fnd1 (d e:Nat→ByteArray):atM [0,1,2] (callM EF 2000 44 [.one (.ptr 0 0)] (dkM d e) [true,true,true])=some ([(d 0).size=64,hoV (d 0)=true,(d 1).size=64,hoV (d 1)=true,decide (0<ahd (fA (d 0)) (fA (d 1)))=true],.tup [.one (.i 1),hdV (fA (d 1)) (fB (d 1)) (fC (d 1)) (fD (d 1)),.one (.i 0)],6,[some (dk (.sx 1 256) (.sx 2 256) nilA),some (sB d),some (sB e)]):=by kernel_rfl
theorem found0 (d e:Nat→ByteArray) (h0:d 0=z64) (h1:d 1=z64):RunsM Tryz.prog 44 [.one (.ptr 0 0)] (dkM d e) (.tup [.one (.i (-1)),hdV 0 0 0 0,.one (.i 0)]) (dkM d e):=by
 obtain ⟨m,g1,g2,g3⟩:=atM_some (fnd0 d e)
 refine (runsM_call envEF rfl g1 ⟨by rw[h0];exact z64_size,by rw[h0];exact hoV_z,by rw[h1];exact z64_size,by rw[h1];exact hoV_z,trivial⟩ rfl).pick [0,1,2] _ _ ?_ ?_ rfl
 ·rw[g2]
  simp only[pickOk,memWf,dkM,sB,allPtr_strs];rfl
 ·show (List.map (fun i=>m[i]?) [0,1,2])=_
  rw[g3]
  simp only[pickW,dkM,List.map_cons,List.map_nil,renB_sB];rfl
theorem found1 (d e:Nat→ByteArray) (a b c x:Nat) (b' c' x':Nat) (h0:d 0=hdB a b' c' x') (h1:d 1=hdB (a+1) b c x) (ha:a<1000000) (hb:b≤40) (hc:c≤3080) (hx:x<4294967296) (hb':b'≤40) (hc':c'≤3080) (hx':x'<4294967296):
  RunsM Tryz.prog 44 [.one (.ptr 0 0)] (dkM d e) (.tup [.one (.i 1),hdV (a+1) b c x,.one (.i 0)]) (dkM d e):=by
 obtain ⟨m,g1,g2,g3⟩:=atM_some (fnd1 d e)
 have e0:fA (d 0)=a:=by rw[h0];exact fA_hd a b' c' x' (by omega)
 have e1:fA (d 1)=a+1:=by rw[h1];exact fA_hd (a+1) b c x (by omega)
 have e2:fB (d 1)=b:=by rw[h1];exact fB_hd (a+1) b c x (by omega)
 have e3:fC (d 1)=c:=by rw[h1];exact fC_hd (a+1) b c x (by omega)
 have e4:fD (d 1)=x:=by rw[h1];exact fD_hd (a+1) b c x hx
 rw[e0,e1,e2,e3,e4] at g1
 refine (runsM_call envEF rfl g1 ⟨by rw[h0];exact hdB_size _ _ _ _,by rw[h0];exact hoV_hd a b' c' x' (by omega) hb' hc' hx',by rw[h1];exact hdB_size _ _ _ _,by rw[h1];exact hoV_hd (a+1) b c x (by omega) hb hc hx,ahd_one a ha,trivial⟩ rfl).pick [0,1,2] _ _ ?_ ?_ rfl
 ·rw[g2]
  simp only[pickOk,memWf,dkM,sB,allPtr_strs];rfl
 ·show (List.map (fun i=>m[i]?) [0,1,2])=_
  rw[g3]
  simp only[pickW,dkM,List.map_cons,List.map_nil,renB_sB];rfl
end Go.Ev.Ch.T
namespace Go.Ev
open Go Go.RowKit
section
variable {P:Program} {w0:Base} {φ:Loc} {tm:List AV} {mem:List Blk} {a:Act} {w:World}
theorem OpRes.wpIn {o:Oper} {K:Act→World→Prop} {Q:Exit→Act→World→Prop} {l n:Nat} (hd:∀c,o.op≠.defer c) (h:OpRes P o a w K):o.wpIn (Fence.wide.inRound l) n P a w K Q:=by
 refine ⟨fun _ _=>trivial,?_⟩
 rw[Oper.semAt_eq _ _ _ hd]
 unfold OpRes at h
 generalize (execOp a.eval o).run P w=r at h
 unfold resU at h
 split at h
 ·exact h
 ·exact h
 ·rw[Oper.uponIn_enter]
  refine ⟨fun h=>by simp[Fence.wide] at h,CallsIn.inRound l (callsIn_wide.2 (h.mono ?_))⟩
  rintro e w'' ⟨v,rfl,hk⟩
  exact hk
 ·exact h.elim
theorem opsA_in {cf:CF} {S:Nat→Bool} {ops:Array Oper} (hcf:CfOK P cf) (hnd:∀(i:Nat) (o:Oper),ops[i]? =some o→∀c,o.op≠.defer c) {Q:Exit→Act→World→Prop} {l' n:Nat}:∀(l:List Oper) (k:Nat) (tm:List AV) (mem:List Blk) (c c':List Bool) (ob:List Prop) (tm':List AV) (mem':List Blk)
  (φ:Loc) (a:Act) (w:World),(∀j,l[j]? =ops[k+j]?)→opsA P cf S ops.toList l tm mem c=some (ob,c',tm',mem')→All ob→Rel w0 φ tm mem a w→
  (∀φ' a' w',Agree mem.length φ φ'→mem.length≤mem'.length→Rel w0 φ' tm' mem' a' w'→Q .normal a' w')→wpOpsIn (Fence.wide.inRound l') n P ops Q (List.range' k l.length) a w
 |[],k,tm,mem,c,c',ob,tm',mem',φ,a,w,_,h,_,hr,hQ=>by
  simp only[opsA,Option.some.injEq,Prod.mk.injEq] at h
  obtain ⟨rfl,rfl,rfl,rfl⟩:=h
  exact hQ φ a w (Agree.refl _ _) (Nat.le_refl _) hr
 |o::rest,k,tm,mem,c,c',ob,tm',mem',φ,a,w,hl,h,ho,hr,hQ=>by
  rw[opsA_eq] at h
  split at h
  ·rename_i ob1 c1 v mem1 hst
   split at h
   ·rename_i ob2 r hrest
    simp only[Option.some.injEq,Prod.mk.injEq] at h
    obtain ⟨rfl,rfl⟩:=h
    rw[All_append] at ho
    have hk:ops[k]? =some o:=by have:=hl 0;simpa using this.symm
    simp only[List.length_cons,List.range'_succ,wpOpsIn,hk]
    have key:=stepG_res hcf hst ho.1 hr (K:=wpOpsIn (Fence.wide.inRound l') n P ops Q (List.range' (k+1) rest.length)) (by
     intro φ' w' ha hlen hm hv
     refine opsA_in hcf hnd rest (k+1) _ _ _ _ _ _ _ φ' _ w' (fun j=>by have:=hl (j+1);simpa[Nat.add_assoc,Nat.add_comm 1 j] using this) hrest ho.2 (hr.put o.dst ha hlen hm hv) ?_
     intro φ2 a2 w2 ha2 hl2 hr2
     exact hQ φ2 a2 w2 (ha.trans hlen ha2) (Nat.le_trans hlen hl2) hr2)
    split at key
    ·rename_i hw
     rw[if_pos hw]
     exact OpRes.wpIn (hnd k o hk) key
    ·rename_i hw
     rw[if_neg hw]
     exact ⟨fun _ _=>trivial,key⟩
   ·simp at h
  ·simp at h
end
section
variable {P:Program}
theorem draw_in {qf:QF} (hq:QfOK P qf) {S:Nat→Bool} {ops:Array Oper} {base total:Nat} {rows:List Row} {tm0:List AV} {m0:List Blk}
  (F:Facts P qf S ops.toList base total rows tm0 m0) (hnd:∀(i:Nat) (o:Oper),ops[i]? =some o→∀c,o.op≠.defer c) {l' n:Nat} {w0:Base} {φ0:Loc} {Q:Exit→Act→World→Prop}
  (hQ:∀φ' a' w',(∀b,b<base→φ' b=φ0 b)→Inv base w0 φ' (Tx rows (fun _=>true) 0 tm0) (Mx rows (fun _=>true) 0 m0) a' w'→Q .normal a' w'):
  ∀(fuel:Nat) (listed:Array Bool) (φ:Loc) (a:Act) (w:World),listed.size=ops.size→cntF ops.size (fun i=>listed.getD i false)≤fuel→Closed ops.toList (fun i=>listed.getD i false)→
   (∀b,b<base→φ b=φ0 b)→Inv base w0 φ (Tx rows (fun i=>listed.getD i false) 0 tm0) (Mx rows (fun i=>listed.getD i false) 0 m0) a w→wpAnyIn (Fence.wide.inRound l') n P .any ops Q fuel listed a w:=by
 have hend:∀(listed:Array Bool) (φ:Loc) (a:Act) (w:World),listed.size=ops.size→Region.ready .any ops listed=[]→
   (∀b,b<base→φ b=φ0 b)→Inv base w0 φ (Tx rows (fun i=>listed.getD i false) 0 tm0) (Mx rows (fun i=>listed.getD i false) 0 m0) a w→Q .normal a w:=by
  intro listed φ a w hsz hrd hφ hi
  have hall:∀n i,i≤n→i<ops.size→listed.getD i false=true:=by
   intro n
   induction n with
   |zero=>
    intro i hi hin
    cases hx:listed.getD i false with
    |true=>rfl
    |false=>
     have:i∈Region.ready .any ops listed:=by
      refine ready_spec.2 ⟨hin,by rw[getD_true_false (by omega)];exact hx,ops[i],Array.getElem?_eq_getElem hin,fun e he hb=> ?_⟩
      have:=edgesOk_spec ops.toList 0 i ops[i] F.edges (by rw[Array.getElem?_toList];exact Array.getElem?_eq_getElem hin) e he hb
      omega
     rw[hrd] at this;simp at this
   |succ n ih=>
    intro i hi hin
    cases hx:listed.getD i false with
    |true=>rfl
    |false=>
     have:i∈Region.ready .any ops listed:=by
      refine ready_spec.2 ⟨hin,by rw[getD_true_false (by omega)];exact hx,ops[i],Array.getElem?_eq_getElem hin,fun e he hb=> ?_⟩
      have:=edgesOk_spec ops.toList 0 i ops[i] F.edges (by rw[Array.getElem?_toList];exact Array.getElem?_eq_getElem hin) e he hb
      exact ih e.on (by omega) (by omega)
     rw[hrd] at this;simp at this
  have hlen:rows.length=ops.size:=by rw[F.len];simp
  have hX:∀i,0≤i→i<0+rows.length→listed.getD i false=(fun _=>true) i:=fun i _ h=>hall i i (Nat.le_refl _) (by omega)
  refine hQ φ a w hφ ?_
  rw[←Tx_congr rows _ _ 0 tm0 hX,←Mx_congr rows _ _ 0 m0 hX]
  exact hi
 intro fuel
 induction fuel with
 |zero=>
  intro listed φ a w hsz hcnt hcl hφ hi
  have hrd:Region.ready .any ops listed=[]:=by
   rw[List.eq_nil_iff_forall_not_mem]
   intro i him
   obtain ⟨h1,h2,_⟩:=ready_spec.1 him
   have:=cntF_zero ops.size (fun i=>listed.getD i false) (Nat.le_zero.1 hcnt) i h1
   rw[getD_true_false (by omega)] at h2
   rw[h2] at this;cases this
  exact ⟨hrd,hend listed φ a w hsz hrd hφ hi⟩
 |succ fuel ih=>
  intro listed φ a w hsz hcnt hcl hφ hi
  refine ⟨fun hrd=>hend listed φ a w hsz hrd hφ hi,fun j hj=> ?_⟩
  obtain ⟨h1,h2,o,ho,h3⟩:=ready_spec.1 hj
  rw[getD_true_false (by omega)] at h2
  have hY:∀i,(fun i=>(listed.setIfInBounds j true).getD i false) i=((fun i=>listed.getD i false) i||decide (i=j)):=by
   intro i
   simp only[Array.getD_eq_getD_getElem?,Array.getElem?_setIfInBounds]
   by_cases hij:j=i
   ·subst hij;simp[hsz,h1]
   ·rw[if_neg hij,decide_eq_false (by omega),Bool.or_false]
  unfold wpOpIn
  rw[ho]
  refine (show ∀{A:Prop} {b:Bool} {B C D:Prop},(if b=true then A else C)→(A→B)→D→(if b=true then B else D∧C) from fun {A b B C D} h g d=>by cases b with|true=>exact g h|false=>exact ⟨d,h⟩) (draw_step hq F (X:=fun i=>listed.getD i false) (Y:=fun i=>(listed.setIfInBounds j true).getD i false) hcl (by rw[Array.getElem?_toList];exact ho) h2 h3 hY hi ?_) (fun h=>OpRes.wpIn (hnd j o ho) h) (fun _ _=>trivial)
  intro φ' a' w' hag hi'
  refine ih _ φ' a' w' (by simp[hsz]) ?_ ?_ (fun b hb=>(hag b hb).trans (hφ b hb)) hi'
  ·have:=cntF_insert ops.size j (fun i=>listed.getD i false) (fun i=>(listed.setIfInBounds j true).getD i false) h1 h2 hY
   omega
  ·intro i oi hoi hx e he hb
   rw[hY] at hx ⊢
   simp only[Bool.or_eq_true,decide_eq_true_eq] at hx ⊢
   rcases hx with hx|rfl
   ·exact .inl (hcl i oi hoi hx e he hb)
   ·rw[Array.getElem?_toList,ho] at hoi
    simp only[Option.some.injEq] at hoi
    subst hoi
    exact .inl (h3 e he hb)
theorem drawA_in {E:Env} (hE:EnvOK E) {l' n:Nat} {S:Nat→Bool} {ops:Array Oper} (hnd:∀(i:Nat) (o:Oper),ops[i]? =some o→∀c,o.op≠.defer c) {id:Nat} {Q:Exit→Act→World→Prop} {c c':List Bool} {ob:List Prop} {tm tm':List AV} {mem mem':List Blk}
  {w0:Base} {w:World} {φ:Loc} {a:Act} (h:drawA E.P (E.fn,E.fm,E.fw) S ops.toList tm mem c=some (ob,c',tm',mem')) (ho:All ob) (hr:Rel w0 φ tm mem a w)
  (hQ:∀φ' a' w',Agree mem.length φ φ'→mem.length≤mem'.length→Rel w0 φ' tm' mem' a' w'→Q .normal a' w'):(Code.region id ops true).wpIn (Fence.wide.inRound l') n E.P Q a w:=by
 unfold drawA at h
 split at h
 ·rename_i ob1 c1 tm1 mem1 rows hl
  split at h
  ·rename_i hc
   simp only[Option.some.injEq,Prod.mk.injEq] at h
   obtain ⟨rfl,rfl,rfl,rfl⟩:=h
   simp only[Bool.and_eq_true] at hc
   obtain ⟨hedges,hrows⟩:=hc
   obtain ⟨g1,g2,g3,g4⟩:=lexD_spec _ _ _ _ _ hl
   have hlen:(mem++gone (holeSum S ops.toList)).length=mem.length+holeSum S ops.toList:=by rw[List.length_append,gone_length]
   have F:Facts E.P (E.fn,E.fm,E.fw) S ops.toList mem.length (mem.length+holeSum S ops.toList) rows tm (mem++gone (holeSum S ops.toList)):=by
    refine ⟨g1,hedges,?_,?_,hlen,by omega⟩
    ·intro j o hj
     obtain ⟨r,obj,cj,cj',hjj,e0,e1,e2,e3,e4,e5⟩:=g4 j o hj
     exact ⟨r,obj,cj,cj',hjj,e0,e1,e2,e3,e4 ho,e5⟩
    ·intro j r hj
     obtain ⟨p,e1,e2⟩:=rowsOk_spec rows _ 0 j r hrows hj
     exact ⟨p,e1,by rwa[Nat.zero_add] at e2⟩
   have hlb:∀b,ltB mem.length b=true→gB mem.length (mem++gone (holeSum S ops.toList)) b=true:=by
    intro b hb
    simp only[ltB] at hb
    simp only[gB,hb,Bool.true_or]
   have hinv:Inv mem.length w0 φ tm (mem++gone (holeSum S ops.toList)) a w:=by
    refine ⟨by omega,hr.tmps,hr.defs,?_,?_,hr.mrel.more _⟩
    ·intro x hx
     have:=hr.wft x hx
     rw[AV.wf_okP] at this
     exact AV.okP_imp hlb x this
    ·intro i b hb hl
     by_cases hi:i<mem.length
     ·rw[List.getElem?_append_left hi] at hb
      exact allPtr_imp hlb _ (hr.mrel.wf i b hb)
     ·rw[List.getElem?_append_right (by omega)] at hb
      rw[(gone_dead _ _ _ hb).1] at hl;cases hl
   refine wpIn_region_any hE.mixed ?_
   have hlist:∀i,(Array.replicate ops.size false).getD i false=false:=by
    intro i;simp only[Array.getD_eq_getD_getElem?,Array.getElem?_replicate];split<;>rfl
   refine draw_in (qf:=(E.fn,E.fm,E.fw)) ⟨hE.fns,hE.fms,hE.fws⟩ F hnd (w0:=w0) (φ0:=φ) ?_ ops.size _ φ a _ (by simp) ?_ ?_ (fun _ _=>rfl) ?_
   ·intro φ' a' w' hag hi
    rw[←g2,←g3] at hi
    refine hQ φ' a' w' (fun b hb=>hag b hb) ?_ hi.rel
    rw[g3,Mx_length];simp
   ·have:∀n (X:Nat→Bool),cntF n X≤n:=by
     intro n X
     induction n with
     |zero=>exact Nat.le_refl _
     |succ n ih=>simp only[cntF];split<;>omega
    exact this _ _
   ·intro j o _ hx;have h0:=hlist j;simp only at hx;rw[h0] at hx;cases hx
   ·rw[Tx_none _ _ _ _ (fun i _=>hlist i),Mx_none _ _ _ _ (fun i _=>hlist i)]
    have hdrew:Below w.heap.size w {w with drawn:=w.drawn+1}:=⟨rfl,rfl,rfl,Nat.le_refl _,fun _ _=>rfl⟩
    exact ⟨hinv.low,hinv.tmps,hinv.defs,hinv.okt,hinv.okm,hinv.mrel.below_of hdrew⟩
  ·simp at h
 ·simp at h
end
def opNd (o:Oper):Bool:=match o.op with
 | .defer _=>false
 |_=>true
def stcB:Code→Bool
 | .skip=>true
 | .region _ ops _=>ops.toList.all opNd
 | .seq x y=>stcB x&&stcB y
 | .cond _ x y=>stcB x&&stcB y
 | .exit _=>true
 | .ret=>true
 |_=>false
theorem opNd_ok {ops:Array Oper} (h:ops.toList.all opNd=true):∀(i:Nat) (o:Oper),ops[i]? =some o→∀c,o.op≠.defer c:=by
 intro i o ho c e
 rw[List.all_eq_true] at h
 have hm:o∈ops.toList:=by
  have:=Array.mem_of_getElem? ho
  exact Array.mem_toList_iff.2 this
 have:=h o hm
 simp[opNd,e] at this
theorem evalIn {E:Env} (hE:EnvOK E) {l m:Nat}:∀(n:Nat) (S:Nat→Bool) (code:Code) (tm:List AV) (mem:List Blk) (c:List Bool) (ob:List Prop) (c':List Bool) (ex:Ex) (tm':List AV) (mem':List Blk),
  stcB code=true→evalC E n S code tm mem c=some (ob,c',ex,tm',mem')→All ob→∀(w0:Base) (φ:Loc) (a:Act) (w:World),Rel w0 φ tm mem a w→∀Q:Exit→Act→World→Prop,
  (∀φ' a' w',Agree mem.length φ φ'→mem.length≤mem'.length→Rel w0 φ' tm' mem' a' w'→Q ex.to a' w')→code.wpIn (Fence.wide.inRound l) m E.P Q a w
 |0,S,code,tm,mem,c,ob,c',ex,tm',mem',_,h=>by simp[evalC] at h
 |n+1,S,code,tm,mem,c,ob,c',ex,tm',mem',hst,h=>by
  intro ho w0 φ a w hr Q hQ
  have hcf:=callBy_ok hE (evalC_ok hE n)
  unfold evalC at h
  split at h
  ·simp only[Option.some.injEq,Prod.mk.injEq] at h
   obtain ⟨rfl,rfl,rfl,rfl,rfl⟩:=h
   exact wpIn_skip (hQ φ a w (Agree.refl _ _) (Nat.le_refl _) hr)
  ·rename_i id ops draw
   have hnd:=opNd_ok (ops:=ops) hst
   split at h
   ·split at h
    ·rename_i ob1 c1 tm1 mem1 hops
     simp only[Option.some.injEq,Prod.mk.injEq] at h
     obtain ⟨rfl,rfl,rfl,rfl,rfl⟩:=h
     refine wpIn_region ?_
     have:=opsA_in (P:=E.P) (ops:=ops) hcf hnd (l':=l) (n:=m) (Q:=Q) ops.toList 0 tm mem c c1 ob1 tm1 mem1 φ a w (fun j=>by simp) hops ho hr hQ
     rw[Array.length_toList,←List.range_eq_range'] at this
     exact this
    ·simp at h
   ·split at h
    ·rename_i ob1 c1 tm1 mem1 hops
     simp only[Option.some.injEq,Prod.mk.injEq] at h
     obtain ⟨rfl,rfl,rfl,rfl,rfl⟩:=h
     exact drawA_in hE hnd hops ho hr hQ
    ·simp at h
  ·rename_i x y
   simp only[stcB,Bool.and_eq_true] at hst
   split at h
   ·rename_i ob1 c1 tm1 mem1 hx
    split at h
    ·rename_i ob2 r hy
     simp only[Option.some.injEq,Prod.mk.injEq] at h
     obtain ⟨rfl,rfl⟩:=h
     rw[All_append] at ho
     refine wpIn_seq (evalIn hE n S x _ _ _ _ _ _ _ _ hst.1 hx ho.1 w0 φ a w hr _ ?_)
     intro φ1 a1 w1 ha1 hl1 hr1
     refine evalIn hE n S y _ _ _ _ _ _ _ _ hst.2 hy ho.2 w0 φ1 a1 w1 hr1 _ ?_
     intro φ2 a2 w2 ha2 hl2 hr2
     exact hQ φ2 a2 w2 (ha1.trans hl1 ha2) (Nat.le_trans hl1 hl2) hr2
    ·simp at h
   ·rename_i hne
    refine wpIn_seq (evalIn hE n S x _ _ _ _ _ _ _ _ hst.1 h ho w0 φ a w hr _ ?_)
    intro φ1 a1 w1 ha1 hl1 hr1
    have hQ1:=hQ φ1 a1 w1 ha1 hl1 hr1
    cases ex with
    |normal=>exact absurd h (hne _ _ _ _)
    |exit id=>exact hQ1
    |ret=>exact hQ1
  ·rename_i q x y
   simp only[stcB,Bool.and_eq_true] at hst
   split at h
   ·rename_i hq
    have:=rho_tells hr _ _ hq
    exact wpIn_cond_true this (evalIn hE n S x _ _ _ _ _ _ _ _ hst.1 h ho w0 φ a w hr _ hQ)
   ·rename_i hq
    have:=rho_tells hr _ _ hq
    exact wpIn_cond_false this (evalIn hE n S y _ _ _ _ _ _ _ _ hst.2 h ho w0 φ a w hr _ hQ)
   ·simp at h
  ·simp[stcB] at hst
  ·simp[stcB] at hst
  ·simp only[Option.some.injEq,Prod.mk.injEq] at h
   obtain ⟨rfl,rfl,rfl,rfl,rfl⟩:=h
   exact wpIn_exit (hQ φ a w (Agree.refl _ _) (Nat.le_refl _) hr)
  ·simp only[Option.some.injEq,Prod.mk.injEq] at h
   obtain ⟨rfl,rfl,rfl,rfl,rfl⟩:=h
   exact wpIn_ret (hQ φ a w (Agree.refl _ _) (Nat.le_refl _) hr)
  ·simp at h
end Go.Ev
