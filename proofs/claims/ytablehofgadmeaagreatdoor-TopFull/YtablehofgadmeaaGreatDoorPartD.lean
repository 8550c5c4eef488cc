/- Of the proof of TopFull: an evaluator of the code with values known in part, and its soundness. -/
import Derived.Test.YtablehofgadmeaaGreatDoorPartC
namespace Go.Ev
open Go Go.RowKit
theorem setK_eq {α β:Type}:∀(l:List α) (n:Nat) (v:α) (k:List α→β),setK l n v k=k (l.set n v)
 |[],n,v,k=>by simp[setK]
 |x::xs,0,v,k=>by simp[setK]
 |x::xs,n+1,v,k=>by simp[setK,setK_eq xs n v]
structure TmR (φ:Loc) (tm:List AV) (ts:Array Value):Prop where
 size:ts.size=tm.length
 get:∀(t:Nat) (x:AV),tm[t]? =some x→x≠.junk→ts[t]? =some (x.conc φ)
theorem TmR.mk' {φ:Loc} {tm:List AV} {ts:Array Value} (h:ts=(tm.map (AV.conc φ)).toArray):TmR φ tm ts:=
 ⟨by simp[h],fun t x ht _=>by simp[h,ht]⟩
theorem TmR.to {φ φ':Loc} {tm:List AV} {ts:Array Value} (h:TmR φ tm ts) (hx:∀x∈tm,x.conc φ'=x.conc φ):TmR φ' tm ts:=
 ⟨h.size,fun t x ht hj=>by rw[hx x (List.mem_of_getElem? ht)];exact h.get t x ht hj⟩
theorem TmR.set {φ:Loc} {tm:List AV} {ts:Array Value} (h:TmR φ tm ts) (d:Nat) (v:AV):TmR φ (tm.set d v) (ts.setIfInBounds d (v.conc φ)):=by
 refine ⟨by simp[h.size],?_⟩
 intro t x ht hj
 rw[List.getElem?_set] at ht
 rw[Array.getElem?_setIfInBounds,h.size]
 split at ht
 ·rename_i hd
  subst hd
  split at ht
  ·rename_i hlt
   simp only[Option.some.injEq] at ht;subst ht
   simp[hlt]
  ·simp at ht
 ·rename_i hd
  rw[if_neg hd]
  exact h.get t x ht hj
structure Rel (w0:Base) (φ:Loc) (tm:List AV) (mem:List Blk) (a:Act) (w:World):Prop where
 tmps:TmR φ tm a.tmps
 defs:a.defers=[]
 wft:∀x∈tm,x.wf mem.length=true
 mrel:MRel w0 φ mem w
section
variable {P:Program} {w0:Base} {w:World} {φ:Loc} {mem:List Blk} {tm:List AV} {a:Act}
theorem rho_tells (h:Rel w0 φ tm mem a w):Tells φ (rho tm) a.eval:=by
 intro x u hu
 cases x with
 |tmp t=>
  simp only[rho] at hu
  obtain ⟨hu,hj⟩:=unJ_some hu
  simp[Act.eval,h.tmps.get t u hu hj]
 |const v=>simp only[rho,Option.some.injEq] at hu;subst hu;simp[Act.eval,AV.conc,ofVal1_conc]
 |global g=>simp[rho] at hu
 |func f=>simp only[rho,Option.some.injEq] at hu;subst hu;rfl
theorem ofVal_wf (x:Value) (n:Nat):(V1.one (ofVal x)).wf n=true:=by
 unfold ofVal
 split<;>rfl
theorem ofVal1_wf (x:Value) (n:Nat):(ofVal1 x).wf n=true:=by
 unfold ofVal1
 split
 ·rename_i cs
  simp only[V1.wf]
  have:∀l:List Value,allPtr (fun b=>Nat.blt b n) (l.map fun c=> .a (ofVal c))=true:=by
   intro l
   induction l with
   |nil=>rfl
   |cons c l ih=>
    simp only[List.map_cons]
    have hc:=ofVal_wf c n
    cases hv:ofVal c<;>simp[hv,V1.wf] at hc<;>simp[allPtr,ih,hc]
  exact this _
 ·exact ofVal_wf _ _
theorem rho_wf (h:Rel w0 φ tm mem a w):∀x u,rho tm x=some u→u.wf mem.length=true:=by
 intro x u hu
 cases x with
 |tmp t=>simp only[rho] at hu;exact h.wft u (List.mem_of_getElem? (unJ_some hu).1)
 |const v=>simp only[rho,Option.some.injEq] at hu;subst hu;exact ofVal1_wf _ _
 |global g=>simp[rho] at hu
 |func f=>simp only[rho,Option.some.injEq] at hu;subst hu;rfl
theorem Rel.put {φ':Loc} {mem':List Blk} {w':World} (h:Rel w0 φ tm mem a w) (d:Option Tmp) {v:AV} (ha:Agree mem.length φ φ') (hl:mem.length≤mem'.length)
  (hm:MRel w0 φ' mem' w') (hv:v.wf mem'.length=true):Rel w0 φ' (putA tm d v) mem' (a.put d (v.conc φ')) w':=by
 have hmap:TmR φ' tm a.tmps:=h.tmps.to fun x hx=>AV.conc_agree ha x (h.wft x hx)
 cases d with
 |none=>
  exact ⟨by rw[Act.put,putA];exact hmap,h.defs,fun x hx=>AV.wf_mono hl x (h.wft x hx),hm⟩
 |some d=>
  refine ⟨?_,h.defs,fun x hx=> ?_,hm⟩
  ·simp only[Act.put,putA]
   exact hmap.set d v
  ·simp only[putA] at hx
   rcases List.mem_or_eq_of_mem_set hx with hx|rfl
   ·exact AV.wf_mono hl x (h.wft x hx)
   ·exact hv
def CfOK (P:Program) (cf:CF):Prop:=
 ∀f vs mem c ob c' r mem',cf f vs mem c=some (ob,c',r,mem')→All ob→∀w0 φ w,MRel w0 φ mem w→(∀v∈vs,v.wf mem.length=true)→
  Calls P f (vs.map (V1.conc φ)).toArray w fun e w'=>∃φ',e= .returned (r.conc φ')∧Agree mem.length φ φ'∧mem.length≤mem'.length∧MRel w0 φ' mem' w'∧r.wf mem'.length=true
theorem valsA_wf {ρ:Operand→Option AV} {n:Nat} (h:∀x u,ρ x=some u→u.wf n=true):∀(xs:List Operand) {vs:List V1},valsA ρ xs=some vs→∀v∈vs,v.wf n=true
 |[],vs,hv=>by simp only[valsA,Option.some.injEq] at hv;subst hv;simp
 |x::xs,vs,hv=>by
  simp only[valsA] at hv
  split at hv
  ·rename_i v vs' hx hxs
   simp only[Option.some.injEq] at hv;subst hv
   intro u hu
   rcases List.mem_cons.1 hu with rfl|hu
   ·exact h x _ hx
   ·exact valsA_wf h xs hxs u hu
  ·simp at hv
theorem decided_spec {s:Bool×Bool} {c c':List Bool} {ob ob':List Prop} {v v':AV} {mem mem':List Blk} (h:decided s c ob v mem=some (ob',c',v',mem')) (ho:All ob'):v'=v∧mem'=mem∧All ob:=by
 unfold decided at h
 split at h
 ·split at h
  ·simp only[Option.some.injEq,Prod.mk.injEq] at h
   obtain ⟨rfl,rfl,rfl,rfl⟩:=h
   exact ⟨by rw[ho.1],rfl,ho.2⟩
  ·simp at h
 unfold decided1 at h
 split at h
 ·split at h
  ·simp only[Option.some.injEq,Prod.mk.injEq] at h
   obtain ⟨rfl,rfl,rfl,rfl⟩:=h
   exact ⟨by rw[ho.1],rfl,ho.2⟩
  ·simp at h
 ·simp only[Option.some.injEq,Prod.mk.injEq] at h
  obtain ⟨rfl,rfl,rfl,rfl⟩:=h
  exact ⟨rfl,rfl,ho⟩
theorem callOk_run {f:FuncId} (h:callOk P f=true) (args:Array Value) (w:World):(callFunc f args).run P w= .ok (.enter f args) w:=by
 unfold callOk at h
 split at h
 ·rename_i fn hf
  simp only[Bool.and_eq_true,Bool.not_eq_true'] at h
  have hb:fn.body.isNone=false:=by cases hfb:fn.body<;>simp[hfb] at h ⊢
  simp only[callFunc,Sem.run_bind,run_program,Result.andThen_ok,hf,h.1,hb,Bool.false_eq_true,if_false,Sem.run_pure]
 ·simp at h
theorem fnOf_tells {ρ:Operand→Option AV} {a:Operand→Value} (h:Tells φ ρ a) {x:Operand} {f:FuncId} (hf:fnOf (ρ x)=some f):a x= .func (.func f) #[] #[]:=by
 unfold fnOf at hf
 split at hf
 ·rename_i g p q hg
  split at hf
  ·rename_i hp hq
   simp only[Option.some.injEq] at hf
   subst hf
   have hp':p= #[]:=Array.toList_eq_nil_iff.1 hp
   have hq':q= #[]:=Array.toList_eq_nil_iff.1 hq
   rw[h x _ hg,hp',hq'];rfl
  ·simp at hf
 ·simp at hf
theorem fnOfC_tells {ρ:Operand→Option AV} {a:Operand→Value} (h:Tells φ ρ a) {x:Operand} {f:FuncId} {us ws:List V1} (hf:fnOfC (ρ x)=some (f,us,ws)):
  a x= .func (.func f) (us.map (V1.conc φ)).toArray (ws.map (V1.conc φ)).toArray:=by
 unfold fnOfC at hf
 split at hf
 ·rename_i g p q hg
  simp only[Option.some.injEq,Prod.mk.injEq] at hf
  obtain ⟨rfl,rfl,rfl⟩:=hf
  rw[h x _ hg,capV_conc,capV_conc];rfl
 ·split at hf
  ·rename_i g hg
   simp only[Option.some.injEq,Prod.mk.injEq] at hf
   obtain ⟨rfl,rfl,rfl⟩:=hf
   rw[fnOf_tells h hg];rfl
  ·simp at hf
theorem fnOfC_wf {ρ:Operand→Option AV} {n:Nat} (hw:∀x u,ρ x=some u→u.wf n=true) {x:Operand} {f:FuncId} {us ws:List V1} (hf:fnOfC (ρ x)=some (f,us,ws)):(∀v∈us,v.wf n=true)∧(∀v∈ws,v.wf n=true):=by
 unfold fnOfC at hf
 split at hf
 ·rename_i g p q hg
  simp only[Option.some.injEq,Prod.mk.injEq] at hf
  obtain ⟨rfl,rfl,rfl⟩:=hf
  have:=hw x _ hg
  simp only[AV.wf,V1.wf,Bool.and_eq_true] at this
  exact ⟨capV_wf p this.1,capV_wf q this.2⟩
 ·split at hf
  ·simp only[Option.some.injEq,Prod.mk.injEq] at hf
   obtain ⟨rfl,rfl,rfl⟩:=hf
   simp
  ·simp at hf
def resU (P:Program) (o:Oper) (a:Act) (K:Act→World→Prop):Result Next→Prop
 | .ok (.value v) w'=>K (a.put o.dst v) w'
 | .ok .skip w'=>K (a.put o.dst undef) w'
 | .ok (.enter f args) w'=>Calls P f args w' fun e w''=>∃v,e= .returned v∧K (a.put o.dst v) w''
 |_=>False
def OpRes (P:Program) (o:Oper) (a:Act) (w:World) (K:Act→World→Prop):Prop:=resU P o a K ((execOp a.eval o).run P w)
theorem resU_enter (P:Program) (o:Oper) (a:Act) (K:Act→World→Prop) (f:FuncId) (args:Array Value) (w:World):
  resU P o a K (.ok (.enter f args) w)=Calls P f args w fun e w''=>∃v,e= .returned v∧K (a.put o.dst v) w'':=rfl
theorem OpRes.wp {P:Program} {o:Oper} {a:Act} {w:World} {K:Act→World→Prop} {Q:Exit→Act→World→Prop} (h:OpRes P o a w K):o.wp P a w K Q:=by
 unfold OpRes at h
 unfold Oper.wp
 generalize (execOp a.eval o).run P w=r at h
 unfold resU at h
 split at h
 ·exact h
 ·exact h
 ·rw[Oper.upon_enter]
  refine h.mono ?_
  rintro e w'' ⟨v,rfl,hk⟩
  exact hk
 ·exact h.elim
theorem opPost_res {o:Oper} {v:AV} {mem':List Blk} {K:Act→World→Prop} (h:OpPost w0 φ mem ((execOp a.eval o).run P w) v mem')
  (hK:∀φ' w',Agree mem.length φ φ'→mem.length≤mem'.length→MRel w0 φ' mem' w'→v.wf mem'.length=true→K (a.put o.dst (v.conc φ')) w'):OpRes P o a w K:=by
 obtain ⟨φ',w',hr,ha,hl,hm,hv⟩:=h
 unfold OpRes
 rcases hr with hr|⟨hr,hu⟩
 ·rw[hr];exact hK φ' w' ha hl hm hv
 ·rw[hr]
  have:=hK φ' w' ha hl hm hv
  rw[hu] at this
  exact this
theorem plainV_conc:∀{vs:List V1} {xs:List Value},plainV vs=some xs→vs.map (V1.conc φ)=xs
 |[],xs,h=>by simp only[plainV,Option.some.injEq] at h;subst h;rfl
 | .one x::vs,xs,h=>by
  simp only[plainV] at h
  split at h
  ·rename_i y r hx hr
   simp only[Option.some.injEq] at h
   subst h
   rw[List.map_cons,plainV_conc hr,V1.conc,val?_conc hx]
  ·simp at h
 | .agg _::_,xs,h=>by simp[plainV] at h
theorem extA_run {f:FuncId} {vs:List V1} {ob:List Prop} {v:AV} {mem':List Blk} (h:extA P f vs mem=some (ob,v,mem')) (ho:All ob) (hm:MRel w0 φ mem w):
  OpPost w0 φ mem ((callFunc f (vs.map (V1.conc φ)).toArray).run P w) v mem':=by
 unfold extA at h
 split at h
 ·rename_i fn hf
  split at h
  ·rename_i e xs hc he hxs
   split at h
   ·rename_i u hu
    simp only[Bool.and_eq_true,Bool.not_eq_true'] at hc
    refine good_post h hm (fun _=> ?_) ho
    rw[run_callFunc_extern hf hc.1.1 hc.1.2 (by simpa using hc.2) he,plainV_conc hxs,pureRun_run _ hu w,V1.conc,ofVal_conc]
    rfl
   ·simp at h
  ·simp at h
 ·simp at h
theorem stepA_res {cf:CF} {S:Nat→Bool} {c c':List Bool} {o:Oper} {ob:List Prop} {v:AV} {mem':List Blk} {ρ:Operand→Option AV} (hcf:CfOK P cf)
  (h:stepA P cf S ρ mem c o=some (ob,c',v,mem')) (ho:All ob) (hm:MRel w0 φ mem w) (ht:Tells φ ρ a.eval) (hw:∀x u,ρ x=some u→u.wf mem.length=true)
  {K:Act→World→Prop}
  (hK:∀φ' w',Agree mem.length φ φ'→mem.length≤mem'.length→MRel w0 φ' mem' w'→v.wf mem'.length=true→K (a.put o.dst (v.conc φ')) w'):OpRes P o a w K:=by
 have main:∀s:Bool×Bool,(match opA P s.1 ρ mem o.op with|some (ob,v,mem')=>decided s c ob v mem'|none=>none)=some (ob,c',v,mem')→OpRes P o a w K:=by
  intro s h
  split at h
  ·rename_i ob1 v1 mem1 hop
   obtain ⟨rfl,rfl,ho1⟩:=decided_spec h ho
   exact opPost_res (opA_sound hop ho1 hm ht) hK
  ·simp at h
 unfold stepA at h
 split at h
 ·split at h
  ·rename_i ob1 v1 b nb hrow
   simp only[Option.some.injEq,Prod.mk.injEq] at h
   obtain ⟨rfl,rfl,rfl,rfl⟩:=h
   obtain ⟨w',hrun,hm',hwf⟩:=rowOp_run (a:=a.eval) hrow ho hm (fun x u hx=>gv_tells ht hx)
   have hl:mem.length≤(apB mem b nb).length:=by cases nb<;>simp[apB]
   exact opPost_res (v:= .val v1) ⟨φ,w',hrun,Agree.refl _ _,hl,hm',AV.wf_mono (Nat.zero_le _) (.val v1) hwf⟩ hK
  ·split at h
   ·rename_i ob1 v1 mem1 hnew
    simp only[Option.some.injEq,Prod.mk.injEq] at h
    obtain ⟨rfl,rfl,rfl,rfl⟩:=h
    exact opPost_res (arrNew_post hnew ho hm (fun x u hx=>gv_tells ht hx)) hK
   ·simp at h
 simp only at h
 split at h
 ·rename_i cl hop
  split at h
  ·rename_i x hcl
   split at h
   case h_2=>simp at h
   rename_i f us ws vs hfn hvs
   split at h
   ·rename_i hok
    split at h
    ·rename_i ob1 c1 v1 mem1 hcall
     obtain ⟨rfl,rfl,ho1⟩:=decided_spec h ho
     have hwf:∀v∈us++(vs++ws),v.wf mem.length=true:=by
      obtain ⟨h1,h2⟩:=fnOfC_wf hw hfn
      intro v hv
      rcases List.mem_append.1 hv with hv|hv
      ·exact h1 v hv
      ·rcases List.mem_append.1 hv with hv|hv
       ·exact valsA_wf hw _ hvs v hv
       ·exact h2 v hv
     have hc:=hcf _ _ _ _ _ _ _ _ hcall ho1 w0 φ w hm hwf
     have hargs:cl.args.map a.eval=(vs.map (V1.conc φ)).toArray:=by
      apply Array.ext'
      rw[Array.toList_map,valsA_tells ht _ hvs]
     have hrun:(execOp a.eval o).run P w= .ok (.enter f ((us++(vs++ws)).map (V1.conc φ)).toArray) w:=by
      simp only[execOp,hop,Sem.run_bind,resolve,hcl,fnOfC_tells ht hfn,Deferred.ofValue,Sem.run_pure,Result.andThen_ok,invoke]
      rw[hargs]
      have:(us.map (V1.conc φ)).toArray++(vs.map (V1.conc φ)).toArray++(ws.map (V1.conc φ)).toArray=((us++(vs++ws)).map (V1.conc φ)).toArray:=by simp
      rw[this]
      exact callOk_run hok _ w
     unfold OpRes
     rw[hrun,resU_enter]
     refine hc.mono ?_
     rintro e w' ⟨φ',rfl,ha,hl,hm',hv⟩
     exact ⟨_,rfl,hK φ' w' ha hl hm' hv⟩
    ·simp at h
   ·split at h
    ·rename_i ob1 v1 mem1 hext
     obtain ⟨rfl,rfl,ho1⟩:=decided_spec h ho
     refine opPost_res ?_ hK
     have hargs:cl.args.map a.eval=(vs.map (V1.conc φ)).toArray:=by
      apply Array.ext'
      rw[Array.toList_map,valsA_tells ht _ hvs]
     have hq:=extA_run hext ho1 hm
     have:(us.map (V1.conc φ)).toArray++(vs.map (V1.conc φ)).toArray++(ws.map (V1.conc φ)).toArray=((us++(vs++ws)).map (V1.conc φ)).toArray:=by simp
     simpa only[execOp,hop,Sem.run_bind,resolve,hcl,fnOfC_tells ht hfn,Deferred.ofValue,Sem.run_pure,Result.andThen_ok,invoke,hargs,this] using hq
    ·simp at h
  ·exact main _ h
 ·exact main _ h
theorem stepA_sound {cf:CF} {S:Nat→Bool} {c c':List Bool} {o:Oper} {ob:List Prop} {v:AV} {mem':List Blk} {ρ:Operand→Option AV} (hcf:CfOK P cf)
  (h:stepA P cf S ρ mem c o=some (ob,c',v,mem')) (ho:All ob) (hm:MRel w0 φ mem w) (ht:Tells φ ρ a.eval) (hw:∀x u,ρ x=some u→u.wf mem.length=true)
  {K:Act→World→Prop} {Q:Exit→Act→World→Prop}
  (hK:∀φ' w',Agree mem.length φ φ'→mem.length≤mem'.length→MRel w0 φ' mem' w'→v.wf mem'.length=true→K (a.put o.dst (v.conc φ')) w'):o.wp P a w K Q:=by
 exact (stepA_res hcf h ho hm ht hw hK).wp
theorem wantA_sound {ops:Array Oper} {o:Oper} {b:Bool} (h:wantA ops.toList tm o=some b) (ht:TmR φ tm a.tmps):Region.wanted o (yielded ops a.tmps)=b:=by
 unfold wantA at h
 unfold Region.wanted
 split at h
 ·rename_i hg;simp only[Option.some.injEq] at h;subst h;simp[hg]
 ·rename_i j want hg
  simp only[hg]
  split at h
  ·rename_i g hgj
   have hgj':ops[j]? =some g:=by simpa using hgj
   split at h
   ·rename_i d hd
    split at h
    ·rename_i x hx
     simp only[Option.some.injEq] at h;subst h
     have:=ht.get _ _ hx (by simp)
     simp[yielded,hgj',hd,this,AV.conc,V1.conc,Atom.conc]
    ·rename_i x hx
     simp only[Option.some.injEq] at h;subst h
     have:=ht.get _ _ hx (by simp)
     simp[yielded,hgj',hd,this,AV.conc,V1.conc,Atom.conc]
    ·simp at h
   ·simp at h
  ·simp at h
theorem stepG_res {cf:CF} {S:Nat→Bool} {ops:Array Oper} {c c':List Bool} {o:Oper} {ob:List Prop} {v:AV} {mem':List Blk} (hcf:CfOK P cf)
  (h:stepG P cf S ops.toList tm mem c o=some (ob,c',v,mem')) (ho:All ob) (hr:Rel w0 φ tm mem a w)
  {K:Act→World→Prop} (hK:∀φ' w',Agree mem.length φ φ'→mem.length≤mem'.length→MRel w0 φ' mem' w'→v.wf mem'.length=true→K (a.put o.dst (v.conc φ')) w'):
  if Region.wanted o (yielded ops a.tmps) then OpRes P o a w K else K (a.put o.dst undef) w:=by
 unfold stepG at h
 split at h
 ·rename_i hwa
  rw[wantA_sound hwa hr.tmps,if_pos rfl]
  exact stepA_res hcf h ho hr.mrel (rho_tells hr) (rho_wf hr) hK
 ·rename_i hwa
  rw[wantA_sound hwa hr.tmps]
  simp only[Option.some.injEq,Prod.mk.injEq] at h
  obtain ⟨rfl,rfl,rfl,rfl⟩:=h
  exact hK φ w (Agree.refl _ _) (Nat.le_refl _) hr.mrel rfl
 ·simp at h
theorem stepG_sound {cf:CF} {S:Nat→Bool} {ops:Array Oper} {c c':List Bool} {o:Oper} {ob:List Prop} {v:AV} {mem':List Blk} (hcf:CfOK P cf)
  (h:stepG P cf S ops.toList tm mem c o=some (ob,c',v,mem')) (ho:All ob) (hr:Rel w0 φ tm mem a w)
  {K:Act→World→Prop} {Q:Exit→Act→World→Prop} (hK:∀φ' w',Agree mem.length φ φ'→mem.length≤mem'.length→MRel w0 φ' mem' w'→v.wf mem'.length=true→K (a.put o.dst (v.conc φ')) w'):
  if Region.wanted o (yielded ops a.tmps) then o.wp P a w K Q∨(o.asks P a w∧LetsOut Q) else K (a.put o.dst undef) w:=by
 unfold stepG at h
 split at h
 ·rename_i hwa
  rw[wantA_sound hwa hr.tmps,if_pos rfl]
  exact .inl (stepA_sound hcf h ho hr.mrel (rho_tells hr) (rho_wf hr) hK)
 ·rename_i hwa
  rw[wantA_sound hwa hr.tmps]
  simp only[Option.some.injEq,Prod.mk.injEq] at h
  obtain ⟨rfl,rfl,rfl,rfl⟩:=h
  exact hK φ w (Agree.refl _ _) (Nat.le_refl _) hr.mrel rfl
 ·simp at h
theorem opsA_eq {cf:CF} {S:Nat→Bool} {ops:List Oper} {o:Oper} {rest:List Oper} {c:List Bool}:
  opsA P cf S ops (o::rest) tm mem c=match stepG P cf S ops tm mem c o with
   |some (ob,c',v,mem')=>match opsA P cf S ops rest (putA tm o.dst v) mem' c' with
    |some (ob',r)=>some (ob++ob',r)
    |none=>none
   |none=>none:=by
 simp only[opsA]
 cases h:stepG P cf S ops tm mem c o with
 |none=>rfl
 |some x=>
  obtain ⟨ob,c',v,mem'⟩:=x
  cases o.dst with
  |some d=>simp only[setK_eq,putA];cases opsA P cf S ops rest (tm.set d v) mem' c'<;>rfl
  |none=>simp only[putA];cases opsA P cf S ops rest tm mem' c'<;>rfl
theorem opsA_sound {cf:CF} {S:Nat→Bool} {ops:Array Oper} (hcf:CfOK P cf) {Q:Exit→Act→World→Prop}:∀(l:List Oper) (k:Nat) (tm:List AV) (mem:List Blk) (c c':List Bool) (ob:List Prop) (tm':List AV) (mem':List Blk)
  (φ:Loc) (a:Act) (w:World),(∀j,l[j]? =ops[k+j]?)→opsA P cf S ops.toList l tm mem c=some (ob,c',tm',mem')→All ob→Rel w0 φ tm mem a w→
  (∀φ' a' w',Agree mem.length φ φ'→mem.length≤mem'.length→Rel w0 φ' tm' mem' a' w'→Q .normal a' w')→wpOps P ops Q (List.range' k l.length) a w
 |[],k,tm,mem,c,c',ob,tm',mem',φ,a,w,_,h,_,hr,hQ=>by
  simp only[opsA,Option.some.injEq,Prod.mk.injEq] at h
  obtain ⟨rfl,rfl,rfl,rfl⟩:=h
  exact hQ φ a w (Agree.refl _ _) (Nat.le_refl _) hr
 |o::rest,k,tm,mem,c,c',ob,tm',mem',φ,a,w,hl,h,ho,hr,hQ=>by
  rw[opsA_eq] at h
  split at h
  ·rename_i ob1 c1 v mem1 hst
   split at h
   ·rename_i ob2 r hrest
    simp only[Option.some.injEq,Prod.mk.injEq] at h
    obtain ⟨rfl,rfl⟩:=h
    rw[All_append] at ho
    have hk:ops[k]? =some o:=by have:=hl 0;simpa using this.symm
    simp only[List.length_cons,List.range'_succ,wpOps,hk]
    refine stepG_sound hcf hst ho.1 hr ?_
    intro φ' w' ha hlen hm hv
    refine opsA_sound hcf rest (k+1) _ _ _ _ _ _ _ φ' _ w' (fun j=>by have:=hl (j+1);simpa[Nat.add_assoc,Nat.add_comm 1 j] using this) hrest ho.2 (hr.put o.dst ha hlen hm hv) ?_
    intro φ2 a2 w2 ha2 hl2 hr2
    exact hQ φ2 a2 w2 (ha.trans hlen ha2) (Nat.le_trans hlen hl2) hr2
   ·simp at h
  ·simp at h
end
section
variable {P:Program} {w0:Base} {w:World} {φ:Loc} {mem:List Blk} {tm:List AV} {a:Act}
def SumOK (P:Program) (code:Code) (f:List AV→List Blk→List Bool→CoR):Prop:=
 ∀tm mem c ob c' ex tm' mem',f tm mem c=some (ob,c',ex,tm',mem')→All ob→∀w0 φ a w,Rel w0 φ tm mem a w→∀Q:Exit→Act→World→Prop,
  (∀φ' a' w',Agree mem.length φ φ'→mem.length≤mem'.length→Rel w0 φ' tm' mem' a' w'→Q ex.to a' w')→code.wp P Q a w
def SpecB (P:Program) (f:FuncId) (vs:List V1) (e:TypeId) (ps:List Piece) (n:Nat):Prop:=
 ∀(φ:Loc) (w:World),Calls P f (vs.map (V1.conc φ)).toArray w fun x w'=>∃b cap,x= .returned (.slice (some ⟨b,0,none⟩) n cap)∧Below w.heap.size w w'∧w.heap.size≤b∧Holds w' (b,0,cap) (concs φ ps) ⟨ps,e,true,false,0⟩
structure EnvOK (E:Env):Prop where
 mixed:E.P.follows .mixedOrders=true
 fns:∀f vs ob r,E.fn f vs=some (ob,r)→All ob→∀φ w,Calls E.P f (vs.map (V1.conc φ)).toArray w fun e w'=>e= .returned (r.conc φ)∧Below w.heap.size w w'
 fms:∀f vs mem ob r,E.fm f vs (blks mem vs)=some (ob,r)→All ob→∀w0 φ w,MRel w0 φ mem w→Calls E.P f (vs.map (V1.conc φ)).toArray w fun e w'=>e= .returned (r.conc φ)∧Below w.heap.size w w'
 lps:∀k y f,E.lp k=some (y,f)→SumOK E.P (.loop y) f
 fbs:∀f vs ob e ps n,E.fb f vs=some (ob,e,ps,n)→All ob→SpecB E.P f vs e ps n
 fws:∀f vs mem x,E.fw f vs mem=some x→All x.ob→RunsM E.P f x.As x.Ms x.R x.Gs
theorem vals_wf {n:Nat}:∀{vs:List V1},(∀v∈vs,v.wf n=true)→∀x∈vals vs,x.wf n=true
 |[],_,x,hx=>by simp[vals] at hx
 |v::vs,hw,x,hx=>by
  simp only[vals,List.mem_cons] at hx
  rcases hx with rfl|hx
  ·exact hw v (by simp)
  ·exact vals_wf (fun u hu=>hw u (by simp[hu])) x hx
theorem undefs_mem:∀(n:Nat) (x:AV),x∈undefs n→x=unA
 |0,x,h=>by simp[undefs] at h
 |n+1,x,h=>by
  simp only[undefs,List.mem_cons] at h
  rcases h with h|h
  ·exact h
  ·exact undefs_mem n x h
theorem Rel.mk' {fn:Func} {vs:List V1} (hm:MRel w0 φ mem w) (hw:∀v∈vs,v.wf mem.length=true):
  Rel w0 φ (vals vs++undefs (fn.ntmps-vs.length)) mem {tmps:=(vs.map (V1.conc φ)).toArray++Array.replicate (fn.ntmps-(vs.map (V1.conc φ)).toArray.size) undef,defers:=[]} w:=by
 have h1:∀n,(undefs n).map (AV.conc φ)=List.replicate n undef:=by
  intro n;induction n with
  |zero=>rfl
  |succ n ih=>simp[undefs,ih,List.replicate_succ];rfl
 have h2:∀vs:List V1,(vals vs).map (AV.conc φ)=vs.map (V1.conc φ):=by
  intro vs;induction vs with
  |nil=>rfl
  |cons v vs ih=>simp[vals,ih];rfl
 refine ⟨?_,rfl,?_,hm⟩
 ·apply TmR.mk'
  apply Array.ext'
  simp[h1,h2]
 ·intro x hx
  rcases List.mem_append.1 hx with hx|hx
  ·exact vals_wf hw x hx
  ·rw[undefs_mem _ x hx];rfl
def resSem (tmps:Array Value):ResultVar→Sem Value
 | .tmp t=>pure (tmps.getD t undef)
 | .cell b t=>do loadVar t (←asAddr (tmps.getD b undef))
theorem resVar_run {r:ResultVar} {v:V1} (h:resVar P tm mem r=some v) (hr:Rel w0 φ tm mem a w):(resSem a.tmps r).run P w= .ok (v.conc φ) w:=by
 have hg:∀{t:Nat} {u:V1},gv (tm[t]?)=some u→a.tmps.getD t undef=u.conc φ:=by
  intro t u hu
  have:=gv_tells (rho_tells hr) (x:= .tmp t) (v:=u) (by
   rw[rho]
   cases h':tm[t]? with
   |none=>rw[h'] at hu;simp[gv] at hu
   |some y=>rw[h'] at hu;cases y<;>simp_all [gv,unJ])
  simpa[Act.eval] using this
 cases r with
 |tmp t=>
  simp only[resVar] at h
  simp only[resSem,hg h];rfl
 |cell b t=>
  simp only[resVar] at h
  split at h
  ·rename_i u hu
   split at h
   ·rename_i ob r' m hl
    simp only[Option.some.injEq] at h;subst h
    simp only[resSem,hg hu]
    unfold loadA at hl
    split at hl
    ·split at hl
     ·rename_i k hk
      split at hl
      ·rename_i v' hlv hv
       unfold good at hl
       split at hl
       ·simp only[Option.some.injEq,Prod.mk.injEq,AV.val.injEq] at hl
        obtain ⟨_,rfl,_⟩:=hl
        simp[V1.conc,Atom.conc,asAddr,loadVar_run hr.mrel hk hlv hv]
       ·simp at hl
      ·simp at hl
     ·simp at hl
    ·simp at hl
   ·simp at h
  ·simp at h
theorem resVars_run:∀(rs:List ResultVar) {vs:List V1},resVars P tm mem rs=some vs→Rel w0 φ tm mem a w→
  (rs.mapM (m:=Sem) (resSem a.tmps)).run P w= .ok (vs.map (V1.conc φ)) w
 |[],vs,h,hr=>by simp only[resVars,Option.some.injEq] at h;subst h;rfl
 |r::rs,vs,h,hr=>by
  simp only[resVars] at h
  split at h
  ·rename_i v vs' hv hvs
   simp only[Option.some.injEq] at h;subst h
   simp only[List.mapM_cons,Sem.run_bind,resVar_run hv hr,resVars_run rs hvs hr,Result.andThen_ok,Sem.run_pure,List.map_cons]
  ·simp at h
theorem resA_run {fn:Func} {r:AV} (h:resA P tm mem fn.results.toList=some r) (hr:Rel w0 φ tm mem a w):(results fn a.tmps).run P w= .ok (r.conc φ) w:=by
 have key:∀{vs:List V1},resVars P tm mem fn.results.toList=some vs→(results fn a.tmps).run P w= .ok (if h:(vs.map (V1.conc φ)).toArray.size=1 then (vs.map (V1.conc φ)).toArray[0] else .tuple (vs.map (V1.conc φ)).toArray) w:=by
  intro vs hv
  have:=resVars_run _ hv hr
  have e:results fn a.tmps=(do let vs ←fn.results.mapM (resSem a.tmps);pure (if h:vs.size=1 then vs[0] else .tuple vs)):=by
   unfold results
   congr 1
  rw[e,Array.mapM_eq_mapM_toList]
  simp only[Sem.run_bind,Sem.run_map,this,Result.andThen_ok,Sem.run_pure]
 unfold resA at h
 split at h
 ·rename_i v hv
  simp only[Option.some.injEq] at h;subst h
  rw[key hv];rfl
 ·rename_i vs hne hv
  simp only[Option.some.injEq] at h;subst h
  rw[key hv]
  have:¬(vs.map (V1.conc φ)).toArray.size=1:=by
   intro he
   simp at he
   obtain ⟨v,rfl⟩:=List.length_eq_one_iff.1 he
   exact hne v rfl
  rw[dif_neg this];rfl
 ·simp at h
def EvOK (P:Program) (ev:(Nat→Bool)→Code→List AV→List Blk→List Bool→CoR):Prop:=∀S code,SumOK P code (ev S code)
theorem allPtr_imp0 {f:Nat→Bool}:∀(ps:List Piece),allPtr (fun _=>false) ps=true→allPtr f ps=true
 |[],_=>rfl
 | .num k n::ps,h=>by simp only[allPtr] at h ⊢;exact allPtr_imp0 ps h
 | .arr k n::ps,h=>by simp only[allPtr] at h ⊢;exact allPtr_imp0 ps h
 | .a x::ps,h=>by
  cases x with
  |clo g u v=>
   simp only[allPtr,Bool.and_eq_true] at h ⊢
   exact ⟨⟨capB_imp (fun _ hb=>by cases hb) u h.1.1,capB_imp (fun _ hb=>by cases hb) v h.1.2⟩,allPtr_imp0 ps h.2⟩
  |_=>simp only[allPtr,Bool.false_and,Bool.false_eq_true] at h ⊢ <;>exact allPtr_imp0 ps h
theorem callBy_ok {E:Env} {ev:(Nat→Bool)→Code→List AV→List Blk→List Bool→CoR} (hE:EnvOK E) (hev:EvOK E.P ev):CfOK E.P (callBy E ev):=by
 intro f vs mem c ob c' r mem' h ho w0 φ w hm hw
 unfold callBy at h
 split at h
 ·rename_i ob1 r1 hf
  split at h
  ·rename_i hwf
   simp only[Option.some.injEq,Prod.mk.injEq] at h
   obtain ⟨rfl,rfl,rfl,rfl⟩:=h
   refine (hE.fns _ _ _ _ hf ho φ w).mono ?_
   rintro e w' ⟨rfl,hb⟩
   refine ⟨φ,rfl,Agree.refl _ _,Nat.le_refl _,?_,AV.wf_mono (Nat.zero_le _) _ hwf⟩
   exact hm.below_of hb
  ·simp at h
 ·split at h
  ·rename_i ob1 e1 ps1 n1 hf
   split at h
   ·rename_i hp
    simp only[Option.some.injEq,Prod.mk.injEq] at h
    obtain ⟨rfl,rfl,rfl,rfl⟩:=h
    refine (hE.fbs _ _ _ _ _ _ hf ho φ w).mono ?_
    rintro x w' ⟨b,cap,rfl,hb,hnew,hh⟩
    obtain ⟨φ',hag,hs,hm'⟩:=hm.join (hm.below.trans hb) b cap (hm.below.beyond hnew) (fun i k hk hl hr=>by have:=hm.lt hk hl;omega) (fun k hk hlt=>hb.block _ hlt) ⟨ps1,e1,true,false,0⟩ rfl rfl (allPtr_imp0 ps1 hp) hh
    exact ⟨φ',by simp[AV.conc,V1.conc,Atom.conc,hs],hag,by simp,hm',by simp[AV.wf,V1.wf,Nat.blt]⟩
   ·simp at h
  split at h
  ·rename_i ob1 r1 hf
   split at h
   ·rename_i hwf
    simp only[Option.some.injEq,Prod.mk.injEq] at h
    obtain ⟨rfl,rfl,rfl,rfl⟩:=h
    refine (hE.fms _ _ _ _ _ hf ho w0 φ w hm).mono ?_
    rintro e w' ⟨rfl,hb⟩
    exact ⟨φ,rfl,Agree.refl _ _,Nat.le_refl _,hm.below_of hb,AV.wf_mono (Nat.zero_le _) _ hwf⟩
   ·simp at h
  split at h
  ·rename_i x hf
   split at h
   ·rename_i hk
    simp only[Option.some.injEq,Prod.mk.injEq] at h
    obtain ⟨rfl,rfl,rfl,rfl⟩:=h
    obtain ⟨rfl,hs,hob⟩:=ho
    exact frame_run_end (hE.fws _ _ _ _ hf hob) hk hs hm
   ·simp at h
  split at h
  ·rename_i fn hfn
   split at h
   ·rename_i code hbody
    split at h
    ·simp at h
    ·rename_i ob1 c1 ex tm1 mem1 hex hcode
     split at h
     ·rename_i r1 hres
      split at h
      ·rename_i hrw
       simp only[Option.some.injEq,Prod.mk.injEq] at h
       obtain ⟨rfl,rfl,rfl,rfl⟩:=h
       refine calls_of_wp hfn hbody ?_
       refine hev _ _ _ _ _ _ _ _ _ _ hcode ho w0 φ _ w (Rel.mk' hm hw) _ ?_
       intro φ' a' w' ha hl hr
       have hpost:a'.defers=[]∧∃v,(results fn a'.tmps).run E.P w'= .ok v w'∧(∃φ'',Ending.returned v= .returned (r1.conc φ'')∧Agree mem.length φ φ''∧mem.length≤mem1.length∧MRel w0 φ'' mem1 w'∧r1.wf mem1.length=true):=
        ⟨hr.defs,_,resA_run hres hr,φ',rfl,ha,hl,hr.mrel,hrw⟩
       cases ex with
       |normal=>exact hpost
       |ret=>exact hpost
       |exit id=>exact (hex _ rfl).elim
      ·simp at h
     ·simp at h
    ·simp at h
   ·simp at h
  ·simp at h
end
def Tx:List Row→(Nat→Bool)→Nat→List AV→List AV
 |[],_,_,tm=>tm
 |r::rs,X,k,tm=>Tx rs X (k+1) (if X k then putA tm r.dst r.v else tm)
def Mx:List Row→(Nat→Bool)→Nat→List Blk→List Blk
 |[],_,_,m=>m
 |r::rs,X,k,m=>Mx rs X (k+1) (if X k then apW m r.wr else m)
theorem putA_length (tm:List AV) (d:Option Tmp) (v:AV):(putA tm d v).length=tm.length:=by cases d<;>simp[putA]
theorem memN_iff:∀{x:Nat} {l:List Nat},memN x l=true↔x∈l
 |x,[]=>by simp[memN]
 |x,y::ys=>by simp only[memN,Bool.or_eq_true,Nat.beq_eq,memN_iff (l:=ys),List.mem_cons]
theorem anyIn_iff:∀{xs ys:List Nat},anyIn xs ys=true↔∃x,x∈xs∧x∈ys
 |[],ys=>by simp[anyIn]
 |x::xs,ys=>by
  simp only[anyIn,Bool.or_eq_true,memN_iff,anyIn_iff (xs:=xs),List.mem_cons]
  constructor
  ·rintro (h|⟨z,h1,h2⟩)
   ·exact ⟨x,.inl rfl,h⟩
   ·exact ⟨z,.inr h1,h2⟩
  ·rintro ⟨z,rfl|h1,h2⟩
   ·exact .inl h2
   ·exact .inr ⟨z,h1,h2⟩
theorem apW_set:∀(ws:List (Nat×Blk)) (m:List Blk) (b:Nat) (k:Blk),b∉wbs ws→apW (m.set b k) ws=(apW m ws).set b k
 |[],_,_,_,_=>rfl
 |(b',k')::ws,m,b,k,h=>by
  simp only[wbs,List.mem_cons,not_or] at h
  simp only[apW]
  rw[List.set_comm _ _ h.1]
  exact apW_set ws _ b k h.2
theorem apW_get_eq:∀(ws:List (Nat×Blk)) (m m':List Blk) (b:Nat),m[b]? =m'[b]? →m.length=m'.length→(apW m ws)[b]? =(apW m' ws)[b]?
 |[],_,_,_,h,_=>h
 |(c,k)::ws,m,m',b,h,hl=>by
  simp only[apW]
  exact apW_get_eq ws _ _ b (by simp only[List.getElem?_set,hl,h]) (by simp[hl])
theorem apW_get_ne:∀(ws:List (Nat×Blk)) (m:List Blk) (b:Nat),b∉wbs ws→(apW m ws)[b]? =m[b]?
 |[],_,_,_=>rfl
 |(c,k)::ws,m,b,h=>by
  simp only[wbs,List.mem_cons,not_or] at h
  simp only[apW]
  rw[apW_get_ne ws _ b h.2,List.getElem?_set_ne (fun e=>h.1 e.symm)]
theorem Mx_length (X:Nat→Bool):∀(rows:List Row) (k:Nat) (m:List Blk),(Mx rows X k m).length=m.length
 |[],_,_=>rfl
 |r::rs,k,m=>by simp only[Mx];rw[Mx_length X rs];split<;>simp[apW_length]
theorem Tx_shift (X:Nat→Bool):∀(rows:List Row) (k:Nat) (tm:List AV),Tx rows X (k+1) tm=Tx rows (fun i=>X (i+1)) k tm
 |[],_,_=>rfl
 |r::rs,k,tm=>by simp only[Tx];rw[Tx_shift X rs]
theorem Mx_shift (X:Nat→Bool):∀(rows:List Row) (k:Nat) (m:List Blk),Mx rows X (k+1) m=Mx rows (fun i=>X (i+1)) k m
 |[],_,_=>rfl
 |r::rs,k,m=>by simp only[Mx];rw[Mx_shift X rs]
theorem Tx_none:∀(rows:List Row) (X:Nat→Bool) (k:Nat) (tm:List AV),(∀i,k≤i→X i=false)→Tx rows X k tm=tm
 |[],_,_,_,_=>rfl
 |r::rs,X,k,tm,h=>by simp only[Tx,h k (Nat.le_refl _),Bool.false_eq_true,if_false];exact Tx_none rs X _ _ fun i hi=>h i (by omega)
theorem Mx_none:∀(rows:List Row) (X:Nat→Bool) (k:Nat) (m:List Blk),(∀i,k≤i→X i=false)→Mx rows X k m=m
 |[],_,_,_,_=>rfl
 |r::rs,X,k,m,h=>by simp only[Mx,h k (Nat.le_refl _),Bool.false_eq_true,if_false];exact Mx_none rs X _ _ fun i hi=>h i (by omega)
theorem Tx_congr:∀(rows:List Row) (X Y:Nat→Bool) (k:Nat) (tm:List AV),(∀i,k≤i→i<k+rows.length→X i=Y i)→Tx rows X k tm=Tx rows Y k tm
 |[],_,_,_,_,_=>rfl
 |r::rs,X,Y,k,tm,h=>by
  simp only[List.length_cons] at h
  simp only[Tx,h k (Nat.le_refl _) (by omega)]
  exact Tx_congr rs X Y _ _ fun i h1 h2=>h i (by omega) (by omega)
theorem Mx_congr:∀(rows:List Row) (X Y:Nat→Bool) (k:Nat) (m:List Blk),(∀i,k≤i→i<k+rows.length→X i=Y i)→Mx rows X k m=Mx rows Y k m
 |[],_,_,_,_,_=>rfl
 |r::rs,X,Y,k,m,h=>by
  simp only[List.length_cons] at h
  simp only[Mx,h k (Nat.le_refl _) (by omega)]
  exact Mx_congr rs X Y _ _ fun i h1 h2=>h i (by omega) (by omega)
theorem putA_comm (tm:List AV) (d d':Option Tmp) (v v':AV) (h:sameD d d'=false):putA (putA tm d v) d' v'=putA (putA tm d' v') d v:=by
 cases d<;>cases d'<;>simp only[putA]
 rename_i d d'
 refine List.set_comm _ _ fun e=> ?_
 subst e;simp[sameD] at h
theorem apW_comm:∀(x y:List (Nat×Blk)) (m:List Blk),anyIn (wbs x) (wbs y)=false→apW (apW m x) y=apW (apW m y) x
 |[],_,_,_=>rfl
 |(b,k)::x,y,m,h=>by
  simp only[wbs,anyIn,Bool.or_eq_false_iff] at h
  simp only[apW]
  rw[apW_comm x y _ h.2,apW_set y m b k (fun hb=>by rw[memN_iff.2 hb] at h;cases h.1)]
theorem Tx_comm:∀(rows:List Row) (X:Nat→Bool) (k:Nat) (tm:List AV) (d:Option Tmp) (v:AV),(∀i r,rows[i]? =some r→X (k+i)=true→sameD d r.dst=false)→
  Tx rows X k (putA tm d v)=putA (Tx rows X k tm) d v
 |[],_,_,_,_,_,_=>rfl
 |r::rs,X,k,tm,d,v,h=>by
  simp only[Tx]
  have ih:=fun tm=>Tx_comm rs X (k+1) tm d v fun i q hq hX=>h (i+1) q (by simpa using hq) (by rwa[show k+(i+1)=k+1+i by omega])
  split
  ·rename_i hk
   rw[putA_comm _ _ _ _ _ (h 0 r (by simp) (by simpa using hk)),ih]
  ·rw[ih]
theorem Mx_comm:∀(rows:List Row) (X:Nat→Bool) (k:Nat) (m:List Blk) (x:List (Nat×Blk)),(∀i r,rows[i]? =some r→X (k+i)=true→anyIn (wbs x) (wbs r.wr)=false)→
  Mx rows X k (apW m x)=apW (Mx rows X k m) x
 |[],_,_,_,_,_=>rfl
 |r::rs,X,k,m,x,h=>by
  simp only[Mx]
  have ih:=fun m=>Mx_comm rs X (k+1) m x fun i q hq hX=>h (i+1) q (by simpa using hq) (by rwa[show k+(i+1)=k+1+i by omega])
  split
  ·rename_i hk
   rw[apW_comm _ _ _ (h 0 r (by simp) (by simpa using hk)),ih]
  ·rw[ih]
theorem Tx_insert:∀(rows:List Row) (X Y:Nat→Bool) (k j:Nat) (r:Row) (tm:List AV),rows[j]? =some r→X (k+j)=false→(∀i,Y i=(X i||decide (i=k+j)))→
  (∀i q,j<i→rows[i]? =some q→X (k+i)=true→sameD r.dst q.dst=false)→Tx rows Y k tm=putA (Tx rows X k tm) r.dst r.v
 |[],_,_,_,_,_,_,h,_,_,_=>by simp at h
 |q::rs,X,Y,k,0,r,tm,h,hX,hY,hc=>by
  simp only[List.getElem?_cons_zero,Option.some.injEq] at h
  subst h
  simp only[Nat.add_zero] at hX hY
  have hYk:Y k=true:=by rw[hY];simp
  simp only[Tx,hYk,hX,if_true,Bool.false_eq_true,if_false]
  rw[Tx_congr rs Y X (k+1) _ fun i h1 _=>by rw[hY,decide_eq_false (by omega),Bool.or_false]]
  exact Tx_comm rs X (k+1) tm q.dst q.v fun i p hp hx=>hc (i+1) p (by omega) (by simpa using hp) (by rwa[show k+(i+1)=k+1+i by omega])
 |q::rs,X,Y,k,j+1,r,tm,h,hX,hY,hc=>by
  simp only[Tx]
  have hYk:Y k=X k:=by rw[hY,decide_eq_false (by omega),Bool.or_false]
  rw[hYk]
  exact Tx_insert rs X Y (k+1) j r _ (by simpa using h) (by rwa[show k+1+j=k+(j+1) by omega]) (fun i=>by rw[hY,show k+1+j=k+(j+1) by omega])
   (fun i p h1 h2 h3=>hc (i+1) p (by omega) (by simpa using h2) (by rwa[show k+(i+1)=k+1+i by omega]))
theorem Mx_insert:∀(rows:List Row) (X Y:Nat→Bool) (k j:Nat) (r:Row) (m:List Blk),rows[j]? =some r→X (k+j)=false→(∀i,Y i=(X i||decide (i=k+j)))→
  (∀i q,j<i→rows[i]? =some q→X (k+i)=true→anyIn (wbs r.wr) (wbs q.wr)=false)→Mx rows Y k m=apW (Mx rows X k m) r.wr
 |[],_,_,_,_,_,_,h,_,_,_=>by simp at h
 |q::rs,X,Y,k,0,r,m,h,hX,hY,hc=>by
  simp only[List.getElem?_cons_zero,Option.some.injEq] at h
  subst h
  simp only[Nat.add_zero] at hX hY
  have hYk:Y k=true:=by rw[hY];simp
  simp only[Mx,hYk,hX,if_true,Bool.false_eq_true,if_false]
  rw[Mx_congr rs Y X (k+1) _ fun i h1 _=>by rw[hY,decide_eq_false (by omega),Bool.or_false]]
  exact Mx_comm rs X (k+1) m q.wr fun i p hp hx=>hc (i+1) p (by omega) (by simpa using hp) (by rwa[show k+(i+1)=k+1+i by omega])
 |q::rs,X,Y,k,j+1,r,m,h,hX,hY,hc=>by
  simp only[Mx]
  have hYk:Y k=X k:=by rw[hY,decide_eq_false (by omega),Bool.or_false]
  rw[hYk]
  exact Mx_insert rs X Y (k+1) j r _ (by simpa using h) (by rwa[show k+1+j=k+(j+1) by omega]) (fun i=>by rw[hY,show k+1+j=k+(j+1) by omega])
   (fun i p h1 h2 h3=>hc (i+1) p (by omega) (by simpa using h2) (by rwa[show k+(i+1)=k+1+i by omega]))
theorem putA_get (tm tm':List AV) (d:Option Tmp) (v:AV) (t:Nat) (h:tm[t]? =tm'[t]?) (hl:tm.length=tm'.length):(putA tm d v)[t]? =(putA tm' d v)[t]? :=by
 cases d with
 |none=>exact h
 |some d=>simp only[putA,List.getElem?_set,hl,h]
theorem Tx_get:∀(rows:List Row) (X Y:Nat→Bool) (k:Nat) (tm tm':List AV) (t:Nat),tm[t]? =tm'[t]? →tm.length=tm'.length→(∀i r,rows[i]? =some r→r.dst=some t→X (k+i)=Y (k+i))→
  (Tx rows X k tm)[t]? =(Tx rows Y k tm')[t]?
 |[],_,_,_,_,_,_,h,_,_=>h
 |r::rs,X,Y,k,tm,tm',t,h,hl,hc=>by
  simp only[Tx]
  refine Tx_get rs X Y (k+1) _ _ t ?_ ?_ fun i q hq hd=>by have:=hc (i+1) q (by simpa using hq) hd;rwa[show k+1+i=k+(i+1) by omega]
  ·by_cases hd:r.dst=some t
   ·have:=hc 0 r (by simp) hd
    simp only[Nat.add_zero] at this
    rw[this]
    split
    ·exact putA_get _ _ _ _ _ h hl
    ·exact h
   ·have hne:∀tm:List AV,(putA tm r.dst r.v)[t]? =tm[t]? :=by
     intro tm
     cases hr:r.dst with
     |none=>rfl
     |some d=>simp only[putA];rw[List.getElem?_set_ne (fun e=>hd (by rw[hr,e]))]
    split<;>split<;>simp[hne,h]
  ·split<;>split<;>simp[putA_length,hl]
theorem Mx_get:∀(rows:List Row) (X Y:Nat→Bool) (k:Nat) (m m':List Blk) (b:Nat),m[b]? =m'[b]? →m.length=m'.length→(∀i r,rows[i]? =some r→b∈wbs r.wr→X (k+i)=Y (k+i))→
  (Mx rows X k m)[b]? =(Mx rows Y k m')[b]?
 |[],_,_,_,_,_,_,h,_,_=>h
 |r::rs,X,Y,k,m,m',b,h,hl,hc=>by
  simp only[Mx]
  refine Mx_get rs X Y (k+1) _ _ b ?_ ?_ fun i q hq hd=>by have:=hc (i+1) q (by simpa using hq) hd;rwa[show k+(i+1)=k+1+i by omega] at this
  ·by_cases hd:b∈wbs r.wr
   ·have:=hc 0 r (by simp) hd
    simp only[Nat.add_zero] at this
    rw[this]
    split
    ·exact apW_get_eq _ _ _ b h hl
    ·exact h
   ·split<;>split<;>simp[apW_get_ne _ _ _ hd,h]
  ·split<;>split<;>simp[apW_length,hl]
section
variable {P:Program}
theorem memN_spec:∀{x:Nat} {l:List Nat},memN x l=true↔x∈l
 |x,[]=>by simp[memN]
 |x,y::ys=>by simp only[memN,Bool.or_eq_true,Nat.beq_eq,memN_spec (l:=ys),List.mem_cons]
theorem rhoL_congr {look:List Tmp} {tm tm':List AV} (h:∀t∈look,tm[t]? =tm'[t]?):rhoL look tm=rhoL look tm':=by
 funext x
 cases x with
 |tmp t=>
  simp only[rhoL]
  split
  ·rename_i ht;rw[h t (memN_spec.1 ht)]
  ·rfl
 |_=>rfl
theorem rhoL_sub {look:List Tmp} {tm:List AV} {x:Operand} {u:AV} (h:rhoL look tm x=some u):rho tm x=some u:=by
 cases x with
 |tmp t=>
  simp only[rhoL] at h
  split at h
  ·exact h
  ·simp at h
 |_=>exact h
theorem deads_congr:∀{m m':List Blk},m.length=m'.length→deads m=deads m'
 |[],[],_=>rfl
 |[],_::_,h=>by simp at h
 |_::_,[],h=>by simp at h
 |x::m,y::m',h=>by simp only[deads,deads_congr (m:=m) (m':=m') (by simpa using h)]
theorem deads_length:∀(m:List Blk),(deads m).length=m.length
 |[]=>rfl
 |x::m=>by simp[deads,deads_length m]
theorem deads_dead:∀(m:List Blk) (i:Nat) (b:Blk),(deads m)[i]? =some b→b.live=false∧b.ps=[]
 |[],i,b,h=>by simp[deads] at h
 |x::m,0,b,h=>by simp only[deads,List.getElem?_cons_zero,Option.some.injEq] at h;subst h;exact ⟨rfl,rfl⟩
 |x::m,i+1,b,h=>deads_dead m i b (by simpa[deads] using h)
theorem wantA_congr {ops:List Oper} {o:Oper} {tm tm':List AV} (h:∀t∈looks ops o,tm[t]? =tm'[t]?):wantA ops tm o=wantA ops tm' o:=by
 unfold wantA
 cases hg:o.guard with
 |none=>rfl
 |some g=>
  obtain ⟨j,want⟩:=g
  simp only
  cases hj:ops[j]? with
  |none=>rfl
  |some q=>
   simp only
   cases hd:q.dst with
   |none=>rfl
   |some d=>
    have:d∈looks ops o:=by simp[looks,hg,hj,hd]
    simp only[h d this]
theorem loadA_congr {m m':List Blk} {t:TypeId} {b off:Nat} (hl:m.length=m'.length) (hb:m[b]? =m'[b]?) {ob:List Prop} {v:AV} {x:List Blk} (h:loadA P m t (.one (.ptr b off))=some (ob,v,x)):
  loadA P m' t (.one (.ptr b off))=some (ob,v,m'):=by
 simp only[loadA] at h ⊢
 rw[←hb]
 split at h
 ·split at h
  ·try simp only[*]
   unfold good at h ⊢
   rw[←hl]
   split at h
   ·rename_i hw
    simp only[Option.some.injEq,Prod.mk.injEq] at h
    obtain ⟨rfl,rfl,rfl⟩:=h
    simp
   ·simp at h
  ·simp at h
 ·simp at h
theorem storeA_congr {m m':List Blk} {t:TypeId} {b off:Nat} {y:V1} (hl:m.length=m'.length) (hb:m[b]? =m'[b]?) {ob:List Prop} {v:AV} {x:List Blk} (h:storeA P m t (.one (.ptr b off)) y=some (ob,v,x)):
  ∃k,x=m.set b k∧x[b]? =some k∧k.live=true∧storeA P m' t (.one (.ptr b off)) y=some (ob,v,m'.set b k):=by
 simp only[storeA] at h ⊢
 rw[←hb]
 split at h
 ·rename_i ps n k hps hn hk
  have hbl:=lt_of_getElem? hk
  split at h
  ·rename_i hc
   try simp only[hps,hn,hk,hc]
   unfold place at h ⊢
   rw[←hl]
   split at h
   ·rename_i qs hq
    split at h
    ·rename_i hp
     simp only[Option.some.injEq,Prod.mk.injEq] at h
     obtain ⟨rfl,rfl,rfl⟩:=h
     refine ⟨_,rfl,?_,?_,by simp⟩
     ·rw[List.getElem?_set_self hbl]
     ·simp only[Bool.and_eq_true] at hc;exact hc.1
    ·simp at h
   ·simp at h
  ·simp at h
 ·simp at h
theorem copyA_congr {m m':List Blk} {t:TypeId} {b off n cp b' off' n' cp':Nat} (hl:m.length=m'.length) (hb:m[b]? =m'[b]?) (hb':m[b']? =m'[b']?) {ob:List Prop} {v:AV} {x:List Blk}
  (h:copyA P m t (.one (.sl b off n cp)) (.one (.sl b' off' n' cp'))=some (ob,v,x)):
  ∃k,x=m.set b k∧x[b]? =some k∧k.live=true∧copyA P m' t (.one (.sl b off n cp)) (.one (.sl b' off' n' cp'))=some (ob,v,m'.set b k):=by
 unfold copyA at h ⊢
 split at h
 ·rename_i b1 off1 n1 c1 b2 off2 n2 c2 e e1 e2 hu
  simp only[V1.one.injEq,Atom.sl.injEq] at e1 e2
  obtain ⟨rfl,rfl,rfl,rfl⟩:=e1
  obtain ⟨rfl,rfl,rfl,rfl⟩:=e2
  split at h
  ·rename_i sz k k' hn hk hk'
   have hbl:=lt_of_getElem? hk
   have hk2:=hb.symm.trans hk
   have hk2':=hb'.symm.trans hk'
   split at h
   ·rename_i ps hc hlo
    unfold place at h
    split at h
    ·rename_i qs hq
     split at h
     ·rename_i hp
      simp only[Option.some.injEq,Prod.mk.injEq] at h
      obtain ⟨rfl,rfl,rfl⟩:=h
      refine ⟨_,rfl,?_,?_,?_⟩
      ·rw[List.getElem?_set_self hbl]
      ·simp only[Bool.and_eq_true] at hlo;exact hlo.1
      ·rw[hl] at hp
       simp only[hn,hk2,hk2',hc,hlo,place,hq,hp]
     ·simp at h
    ·simp at h
   ·simp at h
  ·simp at h
 ·simp at h
theorem blks_congr {m m':List Blk}:∀{vs:List V1},(∀b∈slIds vs,m[b]? =m'[b]?)→blks m vs=blks m' vs
 |[],_=>rfl
 |v::vs,h=>by
  have ih:=fun h'=>blks_congr (m:=m) (m':=m') (vs:=vs) h'
  unfold blks
  cases v with
  |agg ps=>rw[ih (fun b hb=>h b (by simpa[slIds] using hb))];rfl
  |one x=>
   cases x with
   |sl b off n cp=>
    rw[ih (fun b' hb=>h b' (by simp[slIds,hb]))]
    simp only[blkOf,h b (by simp[slIds])]
   |sx b n=>
    rw[ih (fun b' hb=>h b' (by simp[slIds,hb]))]
    simp only[blkOf,h b (by simp[slIds])]
   |_=>rw[ih (fun b hb=>h b (by simpa[slIds] using hb))];rfl
theorem appendG_shape {m m':List Blk} {t:TypeId} {b off n cp b' off' n' cp':Nat} (hl:m.length=m'.length) (hb:m[b]? =m'[b]?) (hb':m[b']? =m'[b']?) {ob:List Prop} {v:AV} {x:List Blk}
  (h:appendG P m t (.one (.sl b off n cp)) (.one (.sl b' off' n' cp'))=some (ob,v,x)):
  ∃k len,ob=[]∧v= .val (.one (.sx m.length len))∧x=m++[k]∧k.live=true∧k.ro=false∧appendG P m' t (.one (.sl b off n cp)) (.one (.sl b' off' n' cp'))=some (ob,v,m'++[k]):=by
 simp only[appendG,ownSl] at h ⊢
 rw[←hb]
 split at h
 ·rename_i e hu
  split at h
  ·rename_i i z hi hz
   split at h
   ·rename_i k1 b2 o2 m2 hk1 hown
    simp only[Option.some.injEq,Prod.mk.injEq] at hown
    obtain ⟨rfl,rfl,rfl⟩:=hown
    rw[←hb']
    split at h
    ·rename_i k hk
     split at h
     ·rename_i xs news hlv hx hn
      split at h
      ·rename_i hc
       simp only[Option.some.injEq,Prod.mk.injEq] at h
       obtain ⟨rfl,rfl,rfl⟩:=h
       refine ⟨_,_,rfl,rfl,rfl,rfl,rfl,?_⟩
       simp only[←hl,hc]
      ·simp at h
     ·simp at h
    ·simp at h
   ·simp at h
  ·simp at h
 ·simp at h
theorem appSx_shape {m m':List Blk} {t:TypeId} {A n b' off' n' cp':Nat} (hl:m.length=m'.length) (hb:m[A]? =m'[A]?) (hb':m[b']? =m'[b']?) {ob:List Prop} {v:AV} {x:List Blk}
  (h:appendG P m t (.one (.sx A n)) (.one (.sl b' off' n' cp'))=some (ob,v,x)):
  ∃k k1 len,m[A]? =some k1∧ob=[]∧v= .val (.one (.sx m.length len))∧x=m.set A {k1 with live:=false}++[k]∧appendG P m' t (.one (.sx A n)) (.one (.sl b' off' n' cp'))=some (ob,v,m'.set A {k1 with live:=false}++[k]):=by
 simp only[appendG,appendA,oldSl,ownSl] at h ⊢
 rw[←hb]
 split at h
 ·rename_i e hu
  split at h
  ·rename_i i z hi hz
   cases hA:m[A]? with
   |none=>simp[hA] at h
   |some k1=>
    simp only[hA] at h ⊢
    split at h
    ·rename_i n0 xs mem1 b2 o2 m2 ho hown
     split at ho
     ·rename_i hc
      simp only[Option.some.injEq,Prod.mk.injEq] at ho hown
      obtain ⟨rfl,rfl,rfl⟩:=ho
      obtain ⟨rfl,rfl,rfl⟩:=hown
      dsimp only
      rw[←hb']
      split at h
      ·rename_i k hk
       split at h
       ·rename_i news hlv hn
        split at h
        ·rename_i hc2
         simp only[Option.some.injEq,Prod.mk.injEq] at h
         obtain ⟨rfl,rfl,rfl⟩:=h
         refine ⟨_,k1,_,rfl,rfl,rfl,rfl,?_⟩
         simp only[←hl,hc2]
        ·simp at h
       ·simp at h
      ·simp at h
     ·simp at ho
    ·simp at h
  ·simp at h
 ·simp at h
theorem appNil_shape {m m':List Blk} {t:TypeId} {b' off' n' cp':Nat} (hl:m.length=m'.length) (hb':m[b']? =m'[b']?) {ob:List Prop} {v:AV} {x:List Blk}
  (h:appendG P m t (.one (.v (.slice none 0 0))) (.one (.sl b' off' n' cp'))=some (ob,v,x)):
  ∃k len,ob=[]∧v= .val (.one (.sx m.length len))∧x=m++[k]∧appendG P m' t (.one (.v (.slice none 0 0))) (.one (.sl b' off' n' cp'))=some (ob,v,m'++[k]):=by
 simp only[appendG,appendA,oldSl,ownSl] at h ⊢
 split at h
 ·rename_i e hu
  split at h
  ·rename_i i z hi hz
   rw[←hb']
   split at h
   ·rename_i k hk
    split at h
    ·rename_i news hlv hn
     split at h
     ·rename_i hc2
      simp only[Option.some.injEq,Prod.mk.injEq] at h
      obtain ⟨rfl,rfl,rfl⟩:=h
      refine ⟨_,_,rfl,rfl,rfl,?_⟩
      simp only[←hl,hc2]
     ·simp at h
    ·simp at h
   ·simp at h
  ·simp at h
 ·simp at h
theorem dApp_congr {m m':List Blk} {hole:Nat} {t:TypeId} {x:V1} {b off n cp:Nat} {v:AV} {wr:List (Nat×Blk)} {rd:List Nat} (hl:m.length=m'.length) (h:dApp P m hole t x b off n cp=some (v,wr,rd)) (hb:∀b∈rd,m[b]? =m'[b]?):
  dApp P m' hole t x b off n cp=some (v,wr,rd):=by
 unfold dApp at h ⊢
 split at h
 ·rename_i A q
  split at h
  ·rename_i b9 len mem9 k1 d hap hA hd
   split at h
   ·rename_i k hk
    split at h
    ·rename_i hc
     simp only[Option.some.injEq,Prod.mk.injEq] at h
     obtain ⟨rfl,rfl,rfl⟩:=h
     obtain ⟨k',k1',len',h1,_,h3,rfl,h5⟩:=appSx_shape hl (hb A (by simp)) (hb b (by simp)) hap
     rw[hA] at h1
     simp only[Option.some.injEq] at h1
     subst h1
     have hk':k'=k:=by
      rw[List.getElem?_append_right (by simp),List.length_set,Nat.sub_self] at hk
      simpa using hk
     subst hk'
     have e9:(m'.set A {k1 with live:=false}++[k'])[m.length]? =some k':=by rw[hl,List.getElem?_append_right (by simp),List.length_set,Nat.sub_self];rfl
     simp only[h5,←hb A (by simp),←hb hole (by simp),hA,hd,e9,←hl,hc]
    ·simp at h
   ·simp at h
  ·simp at h
 ·split at h
  ·rename_i b9 len mem9 d hap hd
   split at h
   ·rename_i k hk
    split at h
    ·rename_i hc
     simp only[Option.some.injEq,Prod.mk.injEq] at h
     obtain ⟨rfl,rfl,rfl⟩:=h
     obtain ⟨k',len',_,h3,rfl,h5⟩:=appNil_shape hl (hb b (by simp)) hap
     have hk':k'=k:=by
      rw[List.getElem?_append_right (Nat.le_refl _),Nat.sub_self] at hk
      simpa using hk
     subst hk'
     have e9:(m'++[k'])[m.length]? =some k':=by rw[hl,List.getElem?_append_right (Nat.le_refl _),Nat.sub_self];rfl
     simp only[h5,←hb hole (by simp),hd,e9,←hl,hc]
    ·simp at h
   ·simp at h
  ·simp at h
 ·simp at h
theorem arrLd_b {m:List Blk} {t:TypeId} {x:Option V1} {r:List Prop×V1×Nat} (h:arrLd P m t x=some r):∃off,x=some (.one (.ptr r.2.2 off)):=by
 unfold arrLd at h
 split at h
 ·split at h
  ·split at h
   ·split at h
    ·simp only[Option.some.injEq] at h;subst h;exact ⟨_,rfl⟩
    ·simp at h
   ·simp at h
  ·simp at h
 ·simp at h
theorem rowLd_b {m:List Blk} {orc:FuncId→List V1→Option V1} {t:TypeId} {x:Option V1} {r:List Prop×V1×Nat} (h:rowLd P orc m t x=some r):∃off,x=some (.one (.ptr r.2.2 off)):=by
 unfold rowLd at h
 split at h
 ·split at h
  ·split at h
   ·split at h
    ·simp only[Option.some.injEq] at h;subst h;exact ⟨_,rfl⟩
    ·simp at h
   ·simp at h
  ·simp at h
 ·simp at h
theorem arrSt_b {m:List Blk} {t:TypeId} {x y:Option V1} {r:List Prop×Nat×Blk} (h:arrSt P m t x y=some r):∃off n kk,x=some (.one (.ptr r.2.1 off))∧y=some (.one (.u kk n)):=by
 unfold arrSt at h
 split at h
 ·split at h
  ·split at h
   ·split at h
    ·simp only[Option.some.injEq] at h;subst h;exact ⟨_,_,_,rfl,rfl⟩
    ·simp at h
   ·simp at h
  ·simp at h
 ·simp at h
theorem strSt_b {m:List Blk} {t:TypeId} {x y:Option V1} {r:List Prop×Nat×Blk} (h:strSt P m t x y=some r):∃off s,x=some (.one (.ptr r.2.1 off))∧y=some (.one (.v (.string s))):=by
 unfold strSt at h
 split at h
 ·split at h
  ·split at h
   ·split at h
    ·simp only[Option.some.injEq] at h;subst h;exact ⟨_,_,rfl,rfl⟩
    ·simp at h
   ·simp at h
  ·simp at h
 ·simp at h
theorem arrStr_b {m:List Blk} {src dst:TypeId} {x:Option V1} {r:List Prop×ByteArray×Nat} (h:arrStr P m src dst x=some r):∃u off n,x=some u∧ownSl u=some (r.2.2,off,n):=by
 unfold arrStr at h
 split at h
 ·split at h
  ·rename_i hown
   split at h
   ·split at h
    ·simp only[Option.some.injEq] at h;subst h;exact ⟨_,_,_,rfl,hown⟩
    ·simp at h
    ·split at h
     ·split at h
      ·simp only[Option.some.injEq] at h;subst h;exact ⟨_,_,_,rfl,hown⟩
      ·simp at h
     ·simp at h
   ·simp at h
  ·simp at h
 ·simp at h
theorem arrCp_b {m:List Blk} {t:TypeId} {x y:Option V1} {r:List Prop×ByteArray×Nat×Blk} (h:arrCp P m t x y=some r):∃u off n s,x=some u∧ownSl u=some (r.2.2.1,off,n)∧y=some (.one (.v (.string s))):=by
 unfold arrCp at h
 split at h
 ·split at h
  ·rename_i hown _
   split at h
   ·split at h
    ·split at h
     ·simp only[Option.some.injEq] at h;subst h;exact ⟨_,_,_,_,rfl,hown,rfl⟩
     ·simp at h
    ·simp at h
   ·simp at h
  ·simp at h
 ·simp at h
theorem rowOp_congr {m m':List Blk} {orc:FuncId→List V1→Option V1} {ρ:Operand→Option AV} {o:Op} {ob:List Prop} {v:V1} {b:Nat} {nb:Option Blk} (h:rowOp P orc m ρ o=some (ob,v,b,nb)) (hb:m[b]? =m'[b]?):
  rowOp P orc m' ρ o=some (ob,v,b,nb):=by
 unfold rowOp at h ⊢
 split at h
 ·rename_i t x
  have key:∃off,gv (ρ x)=some (.one (.ptr b off)):=by
   split at h
   ·rename_i ob1 v1 b1 hl
    obtain ⟨off,hx⟩:=arrLd_b hl
    simp only[Option.some.injEq,Prod.mk.injEq] at h
    exact ⟨off,by rw[hx,←h.2.2.1]⟩
   ·split at h
    ·rename_i ob1 v1 b1 hl
     obtain ⟨off,hx⟩:=rowLd_b hl
     simp only[Option.some.injEq,Prod.mk.injEq] at h
     exact ⟨off,by rw[hx,←h.2.2.1]⟩
    ·simp at h
  obtain ⟨off,hx⟩:=key
  rw[hx] at h ⊢
  unfold arrLd rowLd at h ⊢
  simp only[←hb]
  exact h
 ·rename_i t x y
  have key:∃off,gv (ρ x)=some (.one (.ptr b off)):=by
   split at h
   ·rename_i ob1 b1 k1 hl
    obtain ⟨off,n,kk,hx,hy⟩:=arrSt_b hl
    simp only[Option.some.injEq,Prod.mk.injEq] at h
    exact ⟨off,by rw[hx,←h.2.2.1]⟩
   ·split at h
    ·rename_i ob1 b1 k1 hl
     obtain ⟨off,s,hx,hy⟩:=strSt_b hl
     simp only[Option.some.injEq,Prod.mk.injEq] at h
     exact ⟨off,by rw[hx,←h.2.2.1]⟩
    ·simp at h
  obtain ⟨off,hx⟩:=key
  rw[hx] at h ⊢
  have e1:arrSt P m' t (some (.one (.ptr b off))) (gv (ρ y))=arrSt P m t (some (.one (.ptr b off))) (gv (ρ y)):=by
   unfold arrSt
   split
   ·rename_i hu _
    simp only[Option.some.injEq,V1.one.injEq,Atom.ptr.injEq] at hu
    obtain ⟨rfl,rfl⟩:=hu
    rw[hb]
   ·rfl
  have e2:strSt P m' t (some (.one (.ptr b off))) (gv (ρ y))=strSt P m t (some (.one (.ptr b off))) (gv (ρ y)):=by
   unfold strSt
   split
   ·rename_i hu _
    simp only[Option.some.injEq,V1.one.injEq,Atom.ptr.injEq] at hu
    obtain ⟨rfl,rfl⟩:=hu
    rw[hb]
   ·rfl
  rw[e1,e2]
  exact h
 ·rename_i src dst x
  have key:∃u off n,gv (ρ x)=some u∧ownSl u=some (b,off,n):=by
   split at h
   ·rename_i ob1 s1 b1 hl
    obtain ⟨u,off,n,hx,ho⟩:=arrStr_b hl
    simp only[Option.some.injEq,Prod.mk.injEq] at h
    exact ⟨u,off,n,hx,by rw[ho,←h.2.2.1]⟩
   ·simp at h
  obtain ⟨u,off,n,hx,ho⟩:=key
  rw[hx] at h ⊢
  have e:arrStr P m' src dst (some u)=arrStr P m src dst (some u):=by
   unfold arrStr
   split
   ·rename_i hu
    simp only[Option.some.injEq] at hu;subst hu
    rw[ho]
    split
    ·rename_i he hh
     simp only[Option.some.injEq,Prod.mk.injEq] at hh
     obtain ⟨rfl,rfl,rfl⟩:=hh
     rw[hb]
    ·rfl
   ·rfl
  rw[e]
  exact h
 ·rename_i cl
  split at h
  ·rename_i x y t hcl hargs ht
   have key:∃u off n s,gv (ρ x)=some u∧ownSl u=some (b,off,n)∧gv (ρ y)=some (.one (.v (.string s))):=by
    split at h
    ·rename_i ob1 s1 b1 k1 hl
     obtain ⟨u,off,n,s,hx,ho,hy⟩:=arrCp_b hl
     simp only[Option.some.injEq,Prod.mk.injEq] at h
     exact ⟨u,off,n,s,hx,by rw[ho,←h.2.2.1],hy⟩
    ·simp at h
   obtain ⟨u,off,n,s,hx,ho,hy⟩:=key
   rw[hx,hy] at h ⊢
   have e:arrCp P m' t (some u) (some (.one (.v (.string s))))=arrCp P m t (some u) (some (.one (.v (.string s)))):=by
    unfold arrCp
    split
    ·rename_i hu hs
     simp only[Option.some.injEq] at hu;subst hu
     rw[ho]
     split
     ·rename_i he hh hsz
      simp only[Option.some.injEq,Prod.mk.injEq] at hh
      obtain ⟨rfl,rfl,rfl⟩:=hh
      rw[hb]
     ·rfl
    ·rfl
   rw[e]
   exact h
  ·simp at h
 ·simp at h
def FwCase (P:Program) (qf:QF) (ops:List Oper) (tm:List AV) (m:List Blk) (hole:Nat) (o:Oper) (ob:List Prop) (v:AV) (wr:List (Nat×Blk)) (rd:List Nat):Prop:=
 ∃cl x f vs y,o.op= .call cl∧cl.callee= .value x∧wantA ops tm o=some true∧fnOf (rhoL (looks ops o) tm x)=some f∧valsA (rhoL (looks ops o) tm) cl.args.toList=some vs∧callOk P f=true∧
  (∃m0,qf.2.2 f vs m0=some y)∧FwR.ok y m hole=true∧ob=y.obs vs m hole∧v=y.R.ren (y.r hole)∧wr=y.wr hole∧rd=y.ι++rng hole y.k
def qf0 (qf:QF):QF:=(qf.1,qf.2.1,fun _ _ _=>none)
theorem dstep_split {qf:QF} {S:Nat→Bool} {ops:List Oper} {tm:List AV} {m:List Blk} {c c':List Bool} {hole:Nat} {o:Oper} {ob:List Prop} {v:AV}
  {wr:List (Nat×Blk)} {rd:List Nat} (h:dstep P qf S ops tm m c hole o=some (ob,c',v,wr,rd)):dstep P (qf0 qf) S ops tm m c hole o=some (ob,c',v,wr,rd)∨FwCase P qf ops tm m hole o ob v wr rd:=by
 unfold dstep at h ⊢
 cases hw:wantA ops tm o with
 |none=>simp only[hw,reduceCtorEq] at h
 |some b=>
  cases b with
  |false=>simp only[hw] at h ⊢;exact .inl h
  |true=>
   simp only[hw] at h ⊢
   cases hrf:rowFl S o with
   |true=>simp only[hrf] at h ⊢;exact .inl h
   |false=>
    simp only[hrf] at h ⊢
    cases hmf:memFree o.op with
    |true=>simp only[hmf] at h ⊢;exact .inl h
    |false=>
     simp only[hmf] at h ⊢
     cases hop:o.op with
     |call cl=>
      simp only[hop] at h ⊢
      cases hcl:cl.callee with
      |value x=>
       simp only[hcl] at h ⊢
       cases hfn:fnOf (rhoL (looks ops o) tm x) with
       |none=>simp only[hfn,reduceCtorEq] at h
       |some f=>
        cases hvs:valsA (rhoL (looks ops o) tm) cl.args.toList with
        |none=>simp only[hfn,hvs,reduceCtorEq] at h
        |some vs=>
         simp only[hfn,hvs] at h ⊢
         cases hok:callOk P f with
         |false=>simp only[hok,reduceCtorEq] at h
         |true=>
          simp only[hok] at h ⊢
          cases h1:qf.1 f vs with
          |some r=>simp only[h1,qf0] at h ⊢;exact .inl h
          |none=>
           cases h2:qf.2.1 f vs (blks m vs) with
           |some r=>simp only[h1,h2,qf0] at h ⊢;exact .inl h
           |none=>
            simp only[h1,h2] at h
            split at h
            ·rename_i y hy
             split at h
             ·rename_i hk
              simp only[Option.some.injEq,Prod.mk.injEq] at h
              obtain ⟨rfl,rfl,rfl,rfl,rfl⟩:=h
              exact .inr ⟨cl,x,f,vs,y,hop,hcl,hw,hfn,hvs,hok,⟨m,hy⟩,hk,rfl,rfl,rfl,rfl⟩
             ·simp only[reduceCtorEq] at h
            ·simp only[reduceCtorEq] at h
      |invoke r n=>simp only[hcl,reduceCtorEq] at h
      |builtin b=>cases b<;>simp only[hcl] at h ⊢ <;>first|exact .inl h|cases h
     |_=>simp only[hop] at h ⊢;first|exact .inl h|cases h
theorem seen_congr {m m':List Blk}:∀{ι:List Nat} {Ms:List Blk},(∀b∈ι,m[b]? =m'[b]?)→seen m ι Ms=seen m' ι Ms
 |[],_,_=>rfl
 |_::_,[],_=>rfl
 |i::is,b::bs,h=>by
  simp only[seen]
  rw[seen_congr fun b hb=>h b (by simp[hb]),h i (by simp)]
theorem deadFrom_congr {m m':List Blk}:∀{k H:Nat},(∀b∈rng H k,m[b]? =m'[b]?)→deadFrom m H k=deadFrom m' H k
 |0,_,_=>rfl
 |k+1,H,h=>by
  simp only[deadFrom]
  rw[deadFrom_congr fun b hb=>h b (by simp[rng,hb]),h H (by simp[rng])]
theorem FwCase.congr {qf:QF} {ops:List Oper} {tm tm':List AV} {m m':List Blk} {hole:Nat} {o:Oper} {ob:List Prop} {v:AV} {wr:List (Nat×Blk)} {rd:List Nat}
  (ht:∀t∈looks ops o,tm[t]? =tm'[t]?) (hl:m.length=m'.length) (hb:∀b∈rd,m[b]? =m'[b]?) (h:FwCase P qf ops tm m hole o ob v wr rd):FwCase P qf ops tm' m' hole o ob v wr rd:=by
 obtain ⟨cl,x,f,vs,y,e1,e2,e3,e4,e5,e6,e7,e8,e9,e10,e11,e12⟩:=h
 subst e12
 have hs:seen m y.ι y.Ms=seen m' y.ι y.Ms:=seen_congr fun b hb'=>hb b (by simp[hb'])
 have hd:deadFrom m hole y.k=deadFrom m' hole y.k:=deadFrom_congr fun b hb'=>hb b (by simp[hb'])
 refine ⟨cl,x,f,vs,y,e1,e2,by rw[←wantA_congr ht];exact e3,by rw[←rhoL_congr ht];exact e4,by rw[←rhoL_congr ht];exact e5,e6,e7,?_,?_,e10,e11,rfl⟩
 ·unfold FwR.ok at e8 ⊢
  rw[←hl,←hd];exact e8
 ·rw[e9]
  unfold FwR.obs
  rw[hs]
theorem dstep_congr {qf:QF} {S:Nat→Bool} {ops:List Oper} {tm tm':List AV} {m m':List Blk} {c c':List Bool} {hole:Nat} {o:Oper} {ob:List Prop} {v:AV}
  {wr:List (Nat×Blk)} {rd:List Nat} (hq0:∀f vs m,qf.2.2 f vs m=none) (ht:∀t∈looks ops o,tm[t]? =tm'[t]?) (hl:m.length=m'.length) (h:dstep P qf S ops tm m c hole o=some (ob,c',v,wr,rd))
  (hb:∀b∈rd,m[b]? =m'[b]?):dstep P qf S ops tm' m' c hole o=some (ob,c',v,wr,rd):=by
 unfold dstep at h ⊢
 rw[←wantA_congr ht,←rhoL_congr ht,←deads_congr hl,←hl]
 split at h
 ·simp at h
 ·exact h
 ·split at h
  ·split at h
   ·rename_i ob1 v1 b nb hrow
    simp only[Option.some.injEq,Prod.mk.injEq] at h
    obtain ⟨rfl,rfl,rfl,rfl,rfl⟩:=h
    rw[rowOp_congr hrow (hb b (by simp))]
   ·simp at h
  try simp only at h
  try simp only
  split at h
  ·exact h
  ·try simp only
   split at h
   ·rename_i e hop
    try simp only[hop]
    split at h
    ·split at h
     ·split at h
      ·rename_i k hk
       split at h
       ·rename_i hkl
        simp only[Option.some.injEq,Prod.mk.injEq] at h
        obtain ⟨rfl,rfl,rfl,rfl,rfl⟩:=h
        have:=hb hole (by simp)
        simp only[←this,hk,hkl]
       ·simp at h
      ·simp at h
     ·simp at h
    ·simp at h
   ·rename_i e x hop
    try simp only[hop]
    split at h
    ·split at h
     ·split at h
      ·split at h
       ·rename_i k hk
        split at h
        ·rename_i hkl
         simp only[Option.some.injEq,Prod.mk.injEq] at h
         obtain ⟨rfl,rfl,rfl,rfl,rfl⟩:=h
         have:=hb hole (by simp)
         simp only[←this,hk,hkl]
        ·simp at h
       ·simp at h
      ·simp at h
     ·simp at h
    ·simp at h
   ·rename_i t len parts hop
    try simp only[hop]
    split at h
    ·split at h
     ·split at h
      ·split at h
       ·rename_i k hk
        split at h
        ·rename_i hkl
         simp only[Option.some.injEq,Prod.mk.injEq] at h
         obtain ⟨rfl,rfl,rfl,rfl,rfl⟩:=h
         have:=hb hole (by simp)
         simp only[←this,hk,hkl]
        ·simp at h
       ·simp at h
      ·simp at h
     ·simp at h
    ·simp at h
   ·rename_i t x hop
    try simp only[hop]
    split at h
    ·rename_i b off hx
     try simp only[hx]
     split at h
     ·rename_i ob1 v1 m1 hld
      have hrd:rd=[b]:=by
       unfold deciD at h
       split at h<;>simp at h
       exact h.2.2.2.2.symm
      rw[loadA_congr hl (hb b (by simp[hrd])) hld]
      exact h
     ·simp at h
    ·simp at h
   ·rename_i t x y hop
    try simp only[hop]
    split at h
    ·rename_i b off u hx hy
     try simp only[hx,hy]
     split at h
     ·rename_i ob1 v1 m1 hst
      split at h
      ·rename_i k hk
       simp only[Option.some.injEq,Prod.mk.injEq] at h
       obtain ⟨rfl,rfl,rfl,rfl,rfl⟩:=h
       obtain ⟨k',h1,h2,h3,h4⟩:=storeA_congr hl (hb b (by simp)) hst
       rw[h2] at hk
       simp only[Option.some.injEq] at hk
       subst hk
       have hbl:b<m'.length:=by
        have:=lt_of_getElem? h2
        rw[h1] at this
        simp at this;omega
       simp[h4,List.getElem?_set_self hbl]
      ·simp at h
     ·simp at h
    ·simp at h
   ·rename_i cl hop
    try simp only[hop]
    split at h
    ·try simp only
     split at h
     ·rename_i f vs hfn hvs
      try simp only[hfn,hvs]
      split at h
      ·try simp only
       split at h
       ·exact h
       ·split at h
        ·rename_i ob1 r hqf
         split at h
         ·rename_i hwf
          have hrd:rd=slIds vs:=by
           unfold deciD at h
           split at h<;>simp at h
           exact h.2.2.2.2.symm
          rw[blks_congr (m:=m) (m':=m') (fun b hb'=>hb b (by rw[hrd];exact hb'))] at hqf
          simp only[hqf,hwf]
          exact h
         ·simp at h
        ·simp only[hq0,reduceCtorEq] at h
      ·simp at h
     ·simp at h
    ·split at h
     ·rename_i b off n cp b' off' n' cp' t hvs hty
      try simp only[hvs,hty]
      split at h
      ·rename_i ob1 v1 m1 hst
       split at h
       ·rename_i k hk
        simp only[Option.some.injEq,Prod.mk.injEq] at h
        obtain ⟨rfl,rfl,rfl,rfl,rfl⟩:=h
        obtain ⟨k',h1,h2,h3,h4⟩:=copyA_congr hl (hb b (by simp)) (hb b' (by simp)) hst
        rw[h2] at hk
        simp only[Option.some.injEq] at hk
        subst hk
        have hbl:b<m'.length:=by
         have:=lt_of_getElem? h2
         rw[h1] at this
         simp at this;omega
        simp[h4,List.getElem?_set_self hbl]
       ·simp at h
      ·simp at h
     ·simp at h
    ·split at h
     ·rename_i b off n cp b' off' n' cp' t t' hvs hty hty' hty2
      try simp only[hvs,hty,hty',hty2]
      split at h
      ·rename_i hbeq
       try simp only[hbeq]
       split at h
       ·rename_i ob1 b9 len mem9 hap
        split at h
        ·rename_i k d hk hd
         split at h
         ·rename_i hfr hdl
          simp only[Option.some.injEq,Prod.mk.injEq] at h
          obtain ⟨rfl,rfl,rfl,rfl,rfl⟩:=h
          obtain ⟨k',len',rfl,hv',rfl,_,_,h4⟩:=appendG_shape hl (hb b (by simp)) (hb b' (by simp)) hap
          have hk':k'=k:=by
           rw[List.getElem?_append_right (Nat.le_refl _),Nat.sub_self] at hk
           simpa using hk
          subst hk'
          have hh:=hb hole (by simp)
          rw[h4]
          have e9:(m'++[k'])[m.length]? =some k':=by rw[hl,List.getElem?_append_right (Nat.le_refl _),Nat.sub_self];rfl
          simp only[←hh,hd,e9,hfr,hdl]
         ·simp at h
        ·simp at h
       ·simp at h
      ·simp at h
     ·rename_i x b off n cp t t' _ hvs hty hty' hty2
      try simp only[hvs,hty,hty',hty2]
      split at h
      ·rename_i hbeq
       try simp only[hbeq]
       split at h
       ·rename_i v2 wr2 rd2 hap
        simp only[Option.some.injEq,Prod.mk.injEq] at h
        obtain ⟨rfl,rfl,rfl,rfl,rfl⟩:=h
        rw[dApp_congr hl hap hb]
       ·simp at h
      ·simp at h
     ·simp at h
    ·simp at h
   ·rename_i t x y hop
    try simp only[hop]
    split at h
    ·rename_i ps e ln cp hmk
     try simp only[hmk]
     split at h
     ·rename_i hfr
      try simp only[hfr]
      split at h
      ·rename_i k hk
       split at h
       ·rename_i hkl
        simp only[Option.some.injEq,Prod.mk.injEq] at h
        obtain ⟨rfl,rfl,rfl,rfl,rfl⟩:=h
        have:=hb hole (by simp)
        simp only[←this,hk,hkl]
       ·simp at h
      ·simp at h
     ·simp at h
    ·simp at h
   ·simp at h
end
end Go.Ev
