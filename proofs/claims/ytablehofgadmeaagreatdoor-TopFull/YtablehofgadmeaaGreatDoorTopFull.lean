/- notarytop.TopFull returns true for every argument, and leaves it as it was: the tied card of the law. Conditions: those of the card alone: the listed package-level variables are laid as the program's text lays them. -/
import Derived.Test.YtablehofgadmeaaGreatDoorPartO
import Derived.Test.YtablehofgadmeaaGreatDoorPartK
import Derived.Test.YtablehofgadmeaaGreatDoorPartE
import Derived.Test.YtablehofgadmeaaGreatDoorCards
import Derived.Test.YtablehofgadmeaaGreatDoorTie
import Derived.JoinedOf
import Derived.SizedLaws
import Derived.LaidLaws
import Derived.Handed
import Derived.Lay
import Derived.LaidOnce
import Derived.SevenTiedAt
namespace Go.Ev.Ch.T
open Go Go.Proofs Go.RowKit
set_option maxRecDepth 100000
theorem toC {f:FuncId} {vs:List V1} {r:AV} (h:Go.Ev.Spec f vs r):Spec f vs r:=fun φ w=>h φ w
noncomputable def pGi (s:ByteArray) (i:Nat):PbF:=⟨H5.mK s,H5.mC s,H5.cK s i,H5.cC s i,H5.Ed.pubZ (H5.cK s i)⟩
noncomputable def pGf (s:ByteArray) (k:Nat):PbF:=pGi s (2147483648+(48+k-48))
noncomputable def pM0 (s:ByteArray):PbF:=⟨H5.mK s,H5.mC s,H5.mK s,H5.mC s,H5.Ed.pubZ (H5.mK s)⟩
theorem pD1 {s:ByteArray} (h:16≤s.size∧s.size≤64):Spec 203 [.one (.i 1),sS s] (.tup [ndV (H5.mK s) (H5.mC s),.one (.i 0)]):=toC (H5.slMs h)
theorem pD2 (s:ByteArray) {i:Nat} (hi:2147483648≤i):Spec 204 [.one (.i 1),ndV (H5.mK s) (H5.mC s),u32 i] (.tup [ndV (H5.cK s i) (H5.cC s i),.one (.i 0)]):=toC (H5.slCh s hi)
theorem pD3 (s:ByteArray) (i:Nat):Spec 200 [.one (.i 1),ndV (H5.cK s i) (H5.cC s i)] trV:=toC (H5.slMc s i)
theorem pD4 (s:ByteArray) (i:Nat):Spec 201 [sS (H5.cK s i)] (.tup [sS (H5.Ed.pubZ (H5.cK s i)),.one (.i 0)]):=toC (H5.slPu (H5.cK_size s i))
theorem pE3 (s:ByteArray):Spec 200 [.one (.i 1),ndV (H5.mK s) (H5.mC s)] trV:=toC (H5.slMa s)
theorem pE4 (s:ByteArray):Spec 201 [sS (H5.mK s)] (.tup [sS (H5.Ed.pubZ (H5.mK s)),.one (.i 0)]):=toC (H5.slPu (H5.mK_size s))
theorem pbD_mk {k1 c1 k2 c2 pb seed:ByteArray} {d:Nat} (h1:Spec 203 [.one (.i 1),sS seed] (.tup [ndV k1 c1,.one (.i 0)])) (h2:Spec 204 [.one (.i 1),ndV k1 c1,u32 (2147483648+(d-48))] (.tup [ndV k2 c2,.one (.i 0)]))
  (h3:Spec 200 [.one (.i 1),ndV k2 c2] trV) (h4:Spec 201 [sS k2] (.tup [sS pb,.one (.i 0)])):PbD ⟨k1,c1,k2,c2,pb⟩ seed d:=⟨h1,h2,h3,h4⟩
theorem pbE_mk {k1 c1 k2 c2 pb seed:ByteArray} (h1:Spec 203 [.one (.i 1),sS seed] (.tup [ndV k1 c1,.one (.i 0)])) (h3:Spec 200 [.one (.i 1),ndV k1 c1] trV) (h4:Spec 201 [sS k1] (.tup [sS pb,.one (.i 0)])):PbE ⟨k1,c1,k2,c2,pb⟩ seed:=⟨h1,h3,h4⟩
theorem pD {s:ByteArray} (h:16≤s.size∧s.size≤64) (k:Nat):PbD (pGf s k) s (48+k):=by
 unfold pGf
 generalize hi:2147483648+(48+k-48)=i
 have hle:2147483648≤i:=by omega
 unfold pGi
 refine pbD_mk (pD1 h) ?_ (pD3 s i) (pD4 s i)
 rw[hi]
 exact pD2 s hle
theorem pE {s:ByteArray} (h:16≤s.size∧s.size≤64):PbE (pM0 s) s:=by
 unfold pM0
 exact pbE_mk (pD1 h) (pE3 s) (pE4 s)
theorem pAll:PubAll (fun s k=>(pGf s k).pb) (fun s=>(pGf s 8).pb) (pM0 (zrS 16)).pb:=
 pubAll_of (fun _ hs k _=>pD hs k) (pE (by unfold zrS;rw[so_size];exact ⟨by decide,by decide⟩))
theorem law3 {H:Type} {enc:TypeId×Value→H} {r:Reach} {W:World} {base:Nat} {v:Value} {d:DataW H} {ps:List MemPlace} (hval:Value.okWide Tryz.prog W r base 24 v) (h:DataW.Trod enc Tryz.prog W 0 (fun _=>true) true 24 v d ps)
  (hwt:∀n∈d.weights Tryz.prog 24,n≤reachBytes):Calls Tryz.prog 3 #[v] W (Trues W):=law3G pAll hval h hwt
end Go.Ev.Ch.T
namespace Go.Proofs.YtablehofgadmeaaGreatDoor.Laws
open Go Go.Ev Go.RowKit Go.ChangeShapes Go.WideShapes Go.ChangeAt
set_option maxRecDepth 100000
theorem own:ownKnob Tryz.prog.godebug=none:=by kernel_rfl
theorem laidO:laidOutB Tryz.prog=true:=by kernel_rfl
theorem u4:Tryz.prog.underlying 4=some .bool:=by kernel_rfl
theorem rd24:Tryz.prog.readableRec 24=true:=by kernel_rfl
theorem row24:(24:Nat)<Tryz.prog.types.size:=of_decide_eq_true (by kernel_rfl)
theorem plainL:(Rows.topFullRow.laid.all fun x=>x.2.handleName?.isNone)=true:=by kernel_rfl
def arg0:Value:= .agg #[.string ByteArray.empty,.string ByteArray.empty,.slice none 0 0]
theorem met (os:Os):laidMetH Tryz.prog Rows.topFullRow.laid ((World.laidAll Tryz.prog os Rows.topFullRow.laid).forCall (fun _ _=>0) ⟨#[],#[arg0],[]⟩).memory:=by
 rw[MakeChecks.laidMetH_plain _ _ _ plainL]
 exact laidMet_laidAll _ (by kernel_rfl) (by kernel_rfl)
theorem lifted3 (os:Os) (started:os.Started) (H:Type) (enc:TypeId×Value→H):
  ReturnsInHanded {} Tryz.checked os 3 .any (fun w args=>(Rows.topFullSpec.pre enc Tryz.prog Tryz.f3 [] false w args∧laidMetH Tryz.prog Rows.topFullRow.laid w)∧sizedMet enc Tryz.prog Tryz.f3 (OpenSpec.ofChange Rows.topFullSpec) false w args)
   (Rows.topFullSpec.post enc Tryz.prog Tryz.f3 false true false false):=by
 refine returnsInHanded_of_change_and (C:=Tryz.checked) (X:=fun w _=>laidMetH Tryz.prog Rows.topFullRow.laid w) (fun _ _ _ hh h=>h.of_heap hh) own started (by kernel_rfl) Tryz.func3
  (ChangeSpec.witness_shaped (enc:=enc) (C:=Tryz.checked) (os:=os) (X:=fun w _=>laidMetH Tryz.prog Rows.topFullRow.laid w) false (World.laidAll Tryz.prog os Rows.topFullRow.laid) #[arg0] 8 (World.laidAll_os _ _ _)
   (World.shaped_of_ZipB (by kernel_rfl) (by kernel_rfl)) (by kernel_rfl) (by kernel_rfl) (by kernel_rfl) (met os)) ?_
 intro W base args ds gs before hval0 hW _ hsz0 _ _
 have hsz:(DataW.weightsEach Tryz.prog (Tryz.f3.params.toList++Rows.topFullSpec.plain.varTypes Tryz.prog) (ds++gs)).all (· ≤reachBytes)=true:=hsz0
 clear hsz0
 have hval:∀(j:Nat) t v,Tryz.f3.params[j]? =some t→args[j]? =some v→Value.okWide Tryz.prog W .any base t v:=hval0
 have hW':=hW
 obtain ⟨p,q,hA0,hV,hbef,hfz,hnd⟩:=hW
 have hp:Tryz.f3.params= #[24]:=by kernel_rfl
 have hA:DataW.TrodAll enc Tryz.prog W 0 (fun _=>true) true Tryz.f3.params.toList args.toList ds p:=hA0
 rw[hp] at hA hval
 obtain ⟨v0,d0,rfl,rfl,h0⟩:=trodAll_one hA
 obtain ⟨rfl,rfl⟩:=trodVars_none hV
 refine (Go.Ev.Ch.T.law3 (hval 0 24 v0 rfl rfl) h0 (fun n hn=>by simpa using List.all_eq_true.1 hsz n (DataW.weights_mem_each (j:=0) (t:=24) (by rw[hp];rfl) rfl n hn))).mono ?_
 rintro e W' ⟨rfl,hb⟩
 exact ⟨_,rfl,post_true (tb:=4) rfl hp (by kernel_rfl) u4 laidO rd24 row24 rfl rfl hW' hb⟩
theorem jf:joinedFacts Tryz.pinned.checked.prog 3 Tryz.f3 Rows.topFullSpec Rows.topFullRow=true:=by kernel_rfl
theorem fnm:Tryz.pinned.checked.prog.funcNamed Rows.topFullRow.func=some 3:=by kernel_rfl
theorem fin:Tryz.f3.isInstance Tryz.pinned.checked.prog Rows.topFullRow.origin Rows.topFullRow.targs:=(of_decide_eq_true (by kernel_rfl))
theorem fwr:Tryz.f3.isWrapper Tryz.pinned.checked.prog Rows.topFullRow.wrapper Rows.topFullRow.mainSum:=by unfold Func.isWrapper;first|(rw[if_pos (by decide+kernel)];kernel_rfl)|(rw[if_neg (by decide+kernel)];exact ⟨rfl,rfl⟩)
theorem ff3:Tryz.pinned.checked.prog.funcs[3]? =some Tryz.f3:=Tryz.func3
theorem lift3:∀os:Os,os.Started→∀(H:Type) (enc:TypeId×Value→H),(∀a b,enc a=enc b→a=b)→
  ReturnsInHanded Rows.topFullRow.assume Tryz.pinned.checked os 3 .any (Rows.topFullRow.pre enc Tryz.pinned.checked.prog Tryz.f3 (OpenSpec.ofChange Rows.topFullSpec)) (Rows.topFullSpec.post enc Tryz.pinned.checked.prog Tryz.f3 Rows.topFullRow.apart Rows.topFullRow.fresh Rows.topFullRow.handsOn Rows.topFullRow.again):=
 fun os started H enc _=>lifted3 os started H enc
theorem holds3:Rows.TopFullSaid:=
 OpenClaim.holds_of_wide 3 Tryz.f3 rfl rfl rfl rfl rfl rfl rfl ⟨rfl,rfl,rfl,rfl,rfl⟩ rfl rfl rfl rfl rfl fnm ff3 jf fin fwr lift3
end Go.Proofs.YtablehofgadmeaaGreatDoor.Laws
namespace Go.Proofs.YtablehofgadmeaaGreatDoor
open Go
theorem topFull_card_holds:Rows.TopFullCardSaid:=
 Claim7.holds_tied_plain_at .later [] [.data,.data,.data,.data,.sentinel,.sentinel,.pinned] true (true,"a6f237395504392b7a4456cadc99d52292e13543f02a9ae18ac2fc0c9a0ed08a") true
  Laws.holds3 (fun _ h=>by cases h) (by kernel_rfl) (fun _ h=>by cases h) topFull_row_tie rfl ⟨rfl,rfl⟩ (by kernel_rfl) rfl
  (fun f fn hf hfn=>by
   obtain rfl:f=3:=Option.some.inj ((show Tryz.prog.funcNamed Rows.topFullRow.func=some 3 by kernel_rfl).symm.trans hf)|>.symm
   obtain rfl:fn=Tryz.f3:=(Option.some.inj (Tryz.func3.symm.trans hfn)).symm
   exact ⟨by kernel_rfl,fun j t ht=>by
    rw[show Tryz.f3.params= #[24] by kernel_rfl] at ht
    have h3:t=24:=by
     rcases j with _|j
     ·simpa using ht.symm
     ·simp at ht
    subst h3
    exact (show Tryz.prog.wantsStandIn 24=false by kernel_rfl)⟩)
  (by kernel_rfl)
end Go.Proofs.YtablehofgadmeaaGreatDoor
