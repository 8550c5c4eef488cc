/- Keyed sums, nodes, and the law, of every input; An evaluator of the model's code with values known in part, and its soundness -/
import Derived.Test.YtfcobjhnkghdjaaGreatPartQ
import Derived.Test.YtfcobjhnkghdjaaGreatPartL
import Derived.Maps.OwnSet
import Derived.Maps.Views
namespace Go.Ev.H5
open Go Go.Proofs Go.RowKit
set_option maxRecDepth 100000
noncomputable def mst (w:ByteArray):Nat→ByteArray→Option ByteArray
 |0,_=>none
 |t+1,s=>bif gd (beS (hL w s)) then some (hmac w s) else mst w t (hmac w s)
noncomputable def chl (a:Nat) (c x:ByteArray):Nat→ByteArray→Option (ByteArray×ByteArray)
 |0,_=>none
 |t+1,s=>bif smB a (beS (hL c s)) then some (bgS (smV a (beS (hL c s))),hR c s) else chl a c x t (one1++hR c s++x)
theorem mst_zero (w s:ByteArray):mst w 0 s=none:=rfl
theorem mst_succ (w:ByteArray) (t:Nat) (s:ByteArray):mst w (t+1) s=bif gd (beS (hL w s)) then some (hmac w s) else mst w t (hmac w s):=rfl
theorem chl_zero (a:Nat) (c x s:ByteArray):chl a c x 0 s=none:=rfl
theorem chl_succ (a:Nat) (c x:ByteArray) (t:Nat) (s:ByteArray):chl a c x (t+1) s=bif smB a (beS (hL c s)) then some (bgS (smV a (beS (hL c s))),hR c s) else chl a c x t (one1++hR c s++x):=rfl
theorem mayB2 {k c:ByteArray} (hk:k.size=32) (hc:c.size=32):mayB 2 k c=gd (beS k):=by
 unfold mayB
 rw[decide_eq_true hk,decide_eq_true hc]
 rfl
theorem mayB1 {k c:ByteArray} (hk:k.size=32) (hc:c.size=32):mayB 1 k c=true:=by
 unfold mayB
 rw[decide_eq_true hk,decide_eq_true hc]
 rfl
theorem nB_free (k c:ByteArray):Free (nB k c):=fun _=>rfl
theorem free1 (k c:ByteArray):∀b∈[nB k c],Free b:=by
 intro b hb
 simp only[List.mem_cons,List.not_mem_nil,or_false] at hb
 subst hb;exact nB_free _ _
theorem free2 (k c k' c':ByteArray):∀b∈[nB k c,nB k' c'],Free b:=by
 intro b hb
 simp only[List.mem_cons,List.not_mem_nil,or_false] at hb
 rcases hb with rfl|rfl<;>exact nB_free _ _
theorem wf1 {n:Nat} {l:List (Nat×AV)} (k c:ByteArray) (h:tmsWf 1 (slots n l)=true):wfS (slots n l) [nB k c]=true:=wfS_of (free1 k c) h
theorem wf2 {n:Nat} {l:List (Nat×AV)} (k c k' c':ByteArray) (h:tmsWf 2 (slots n l)=true):wfS (slots n l) [nB k c,nB k' c']=true:=wfS_of (free2 k c k' c') h
theorem wP_size:wP.size=14:=rfl
theorem wE_size:wE.size=12:=rfl
theorem envMs:EnvOK (mkE LMy SMs):=envMk LMy_ok SMs
theorem nx_size (c s:ByteArray) (i:Nat):(one1++hR c s++ixS i).size=37:=by
 rw[ByteArray.size_append,ByteArray.size_append,hR_size,ixS_size];rfl
theorem nx1_size (c s:ByteArray):(one1++hR c s).size=33:=by
 rw[ByteArray.size_append,hR_size];rfl
theorem adV_lt {a:Nat} (ha:a<modN 3) (b:Nat):adV a b<modN 3:=Nat.mod_lt _ (Nat.lt_of_le_of_lt (Nat.zero_le _) ha)
theorem adV_eq (a b:Nat):adV a b=addM (modN 3) a b:=by unfold adV addM;rw[Nat.add_comm]
theorem smB_of {a b:Nat} (ha:a<modN 3) (hb:b<modN 3):smB a b= !isZ (adV a b):=by
 unfold smB gd
 rw[←adV_eq a b,decide_eq_true hb,decide_eq_true (adV_lt ha b),Bool.true_and,Bool.and_true]
theorem smB_out {a b:Nat} (hb:¬b<modN 3):smB a b=false:=by
 unfold smB
 rw[decide_eq_false hb,Bool.false_and]
theorem smV_of {a b:Nat} (hb:b<modN 3):smV a b=adV a b:=by
 unfold smV
 rw[decide_eq_true hb,cond_true,adV_eq a b]
theorem obH_ok {c s:ByteArray} {b:Bool} (hc:c.size=32) (hs:s.size≤1000000) (h:decide (beS (hL c s)<modN 3)=b):All (obH c s b):=by
 have hz:=hmac_size c s
 exact ⟨by omega,by omega,by omega,hL_size _ _,rfl,by decide,by omega,h,beS_lt (hL_size _ _),modN_lt 3,trivial⟩
theorem ob12_ok {k c s:ByteArray} (hk:k.size=32) (ha:beS k<modN 3) (hb:beS (hL c s)<modN 3):All (ob12 k c s):=⟨by omega,hk,okR_K (by omega),hb,ha,beS_lt (hL_size _ _),beS_lt hk,trivial⟩
theorem obT_ok {c s:ByteArray} {i j:Nat} (hj:j<8):All (obT c s i j):=by
 have hz:=hmac_size c s
 exact ⟨by omega,by rw[hR'_eq,hR_size];omega,by rw[hR'_eq,nx1_size,ixS_size];omega,by unfold inI;omega,trivial⟩
theorem All_ap {l r:List Prop} (h:All l) (h':All r):All (l++r):=All_append.2 ⟨h,h'⟩
theorem yes22 (s:ByteArray) (j:Nat) (hj:j<8) (hs:s.size≤1000000) (hg:gd (beS (hL wP s))=true):Goes Tryz.prog (bodyOf Tryz.prog 22 6) (.ret) (T22 s (j:Int)) ([nB e0 e0]) (T22r) ([nB ((hmac wP s).extract 0 32) ((hmac wP s).extract 32 64)]):=by
 exact Runs.goes envMs ⟨_,_,t22y s j,⟨decide_eq_true (by omega),by rw[wP_size];omega,by omega,hmac_size _ _,by rw[mayB2 (hL_size _ _) (hR_size _ _)];exact hg,trivial⟩,wf1 _ _ (by kernel_rfl)⟩
theorem no22 (s:ByteArray) (j:Nat) (hj:j<8) (hs:s.size≤1000000) (hg:gd (beS (hL wP s))=false):Goes Tryz.prog (bodyOf Tryz.prog 22 6) (.normal) (T22 s (j:Int)) ([nB e0 e0]) (T22 (hmac wP s) ((j:Int)+1)) ([nB e0 e0]):=by
 exact Runs.goes envMs ⟨_,_,t22n s j,⟨decide_eq_true (by omega),by rw[wP_size];omega,by omega,hmac_size _ _,by rw[mayB2 (hL_size _ _) (hR_size _ _)];exact hg,by unfold inI;omega,trivial⟩,wf1 _ _ (by kernel_rfl)⟩
theorem out22 (s:ByteArray) (j:Nat) (hj:¬j<8):Goes Tryz.prog (bodyOf Tryz.prog 22 6) (.exit 0) (T22 s (j:Int)) ([nB e0 e0]) (T22x) ([nB e0 e0]):=by
 exact Runs.goes envMs ⟨_,_,t22x s j,⟨decide_eq_false (by omega),trivial⟩,wf1 _ _ (by kernel_rfl)⟩
theorem yes16 (s:ByteArray) (j:Nat) (hj:j<8) (hs:s.size≤1000000) (hg:gd (beS (hL wP s))=true):Goes Tryz.prog (bodyOf Tryz.prog 16 6) (.ret) (T16 wP s (j:Int)) ([nB e0 e0]) (T16r) ([nB ((hmac wP s).extract 0 32) ((hmac wP s).extract 32 64)]):=by
 have hz:=hmac_size wP s
 have r:=t16y wP s j
 rw[hR'_eq] at r
 exact Runs.goes envMs ⟨_,_,r,⟨decide_eq_true (by omega),by rw[wP_size];omega,by omega,by omega,by omega,by rw[mayB2 (hL_size _ _) (hR_size _ _)];exact hg,trivial⟩,wf1 _ _ (by kernel_rfl)⟩
theorem no16 (s:ByteArray) (j:Nat) (hj:j<8) (hs:s.size≤1000000) (hg:gd (beS (hL wP s))=false):Goes Tryz.prog (bodyOf Tryz.prog 16 6) (.normal) (T16 wP s (j:Int)) ([nB e0 e0]) (T16 wP (hmac wP s) ((j:Int)+1)) ([nB e0 e0]):=by
 have hz:=hmac_size wP s
 have r:=t16n wP s j
 rw[hR'_eq] at r
 exact Runs.goes envMs ⟨_,_,r,⟨decide_eq_true (by omega),by rw[wP_size];omega,by omega,by omega,by omega,by rw[mayB2 (hL_size _ _) (hR_size _ _)];exact hg,by unfold inI;omega,trivial⟩,wf1 _ _ (by kernel_rfl)⟩
theorem out16 (s:ByteArray) (j:Nat) (hj:¬j<8):Goes Tryz.prog (bodyOf Tryz.prog 16 6) (.exit 0) (T16 wP s (j:Int)) ([nB e0 e0]) (T16x) ([nB e0 e0]):=by
 exact Runs.goes envMs ⟨_,_,t16x wP s j,⟨decide_eq_false (by omega),trivial⟩,wf1 _ _ (by kernel_rfl)⟩
theorem loop22s:∀(t j:Nat) (s:ByteArray) (r:ByteArray),j+t=8→s.size≤1000000→mst wP t s=some r→GoesN Tryz.prog (bodyOf Tryz.prog 22 6) (t+1) (.ret) (T22 s (j:Int)) ([nB e0 e0]) (T22r) ([nB (r.extract 0 32) (r.extract 32 64)]):=by
 intro t
 induction t with
 |zero=>
  intro j s r hj hs hm
  rw[mst_zero] at hm;cases hm
 |succ t ih=>
  intro j s r hj hs hm
  rw[mst_succ] at hm
  cases hg:gd (beS (hL wP s)) with
  |true=>
   rw[hg,cond_true,Option.some.injEq] at hm
   subst hm
   exact GoesN.out (by simp) (yes22 s j (by omega) hs hg)
  |false=>
   rw[hg,cond_false] at hm
   have ih:=ih (j+1) (hmac wP s) r (by omega) (by rw[hmac_size];omega) hm
   rw[show ((j+1:Nat):Int)=(j:Int)+1 by omega] at ih
   exact GoesN.cons (M1:=[nB e0 e0]) rfl (no22 s j (by omega) hs hg) ih
theorem loop22n:∀(t j:Nat) (s:ByteArray),j+t=8→s.size≤1000000→mst wP t s=none→GoesN Tryz.prog (bodyOf Tryz.prog 22 6) (t+1) (.exit 0) (T22 s (j:Int)) ([nB e0 e0]) (T22x) ([nB e0 e0]):=by
 intro t
 induction t with
 |zero=>
  intro j s hj hs hm
  exact GoesN.out (by simp) (out22 s j (by omega))
 |succ t ih=>
  intro j s hj hs hm
  rw[mst_succ] at hm
  cases hg:gd (beS (hL wP s)) with
  |true=>
   rw[hg,cond_true] at hm;cases hm
  |false=>
   rw[hg,cond_false] at hm
   have ih:=ih (j+1) (hmac wP s) (by omega) (by rw[hmac_size];omega) hm
   rw[show ((j+1:Nat):Int)=(j:Int)+1 by omega] at ih
   exact GoesN.cons (M1:=[nB e0 e0]) rfl (no22 s j (by omega) hs hg) ih
theorem loop16s:∀(t j:Nat) (s:ByteArray) (r:ByteArray),j+t=8→s.size≤1000000→mst wP t s=some r→GoesN Tryz.prog (bodyOf Tryz.prog 16 6) (t+1) (.ret) (T16 wP s (j:Int)) ([nB e0 e0]) (T16r) ([nB (r.extract 0 32) (r.extract 32 64)]):=by
 intro t
 induction t with
 |zero=>
  intro j s r hj hs hm
  rw[mst_zero] at hm;cases hm
 |succ t ih=>
  intro j s r hj hs hm
  rw[mst_succ] at hm
  cases hg:gd (beS (hL wP s)) with
  |true=>
   rw[hg,cond_true,Option.some.injEq] at hm
   subst hm
   exact GoesN.out (by simp) (yes16 s j (by omega) hs hg)
  |false=>
   rw[hg,cond_false] at hm
   have ih:=ih (j+1) (hmac wP s) r (by omega) (by rw[hmac_size];omega) hm
   rw[show ((j+1:Nat):Int)=(j:Int)+1 by omega] at ih
   exact GoesN.cons (M1:=[nB e0 e0]) rfl (no16 s j (by omega) hs hg) ih
theorem loop16n:∀(t j:Nat) (s:ByteArray),j+t=8→s.size≤1000000→mst wP t s=none→GoesN Tryz.prog (bodyOf Tryz.prog 16 6) (t+1) (.exit 0) (T16 wP s (j:Int)) ([nB e0 e0]) (T16x) ([nB e0 e0]):=by
 intro t
 induction t with
 |zero=>
  intro j s hj hs hm
  exact GoesN.out (by simp) (out16 s j (by omega))
 |succ t ih=>
  intro j s hj hs hm
  rw[mst_succ] at hm
  cases hg:gd (beS (hL wP s)) with
  |true=>
   rw[hg,cond_true] at hm;cases hm
  |false=>
   rw[hg,cond_false] at hm
   have ih:=ih (j+1) (hmac wP s) (by omega) (by rw[hmac_size];omega) hm
   rw[show ((j+1:Nat):Int)=(j:Int)+1 by omega] at ih
   exact GoesN.cons (M1:=[nB e0 e0]) rfl (no16 s j (by omega) hs hg) ih
theorem yes27 {k c:ByteArray} {i:Nat} (hk:k.size=32) (hc:c.size=32) (ha:beS k<modN 3) (s:ByteArray) (j:Nat) (hj:j<8) (hs:s.size≤1000000) (hg:smB (beS k) (beS (hL c s))=true):Goes Tryz.prog (bodyOf Tryz.prog 27 5) (.ret) (T27 s i (j:Int)) ([nB k c,nB e0 e0]) (T27r) ([nB k c,nB (bgS (smV (beS k) (beS (hL c s)))) (hR c s)]):=by
 exact Runs.goes envMs ⟨_,_,t27y k c s i j,⟨decide_eq_true (by omega),by omega,by omega,hmac_size _ _,hk,hL_size _ _,ha,hg,trivial⟩,wf2 _ _ _ _ (by kernel_rfl)⟩
theorem no27 {k c:ByteArray} {i:Nat} (hk:k.size=32) (hc:c.size=32) (ha:beS k<modN 3) (s:ByteArray) (j:Nat) (hj:j<8) (hs:s.size≤1000000) (hg:smB (beS k) (beS (hL c s))=false):Goes Tryz.prog (bodyOf Tryz.prog 27 5) (.normal) (T27 s i (j:Int)) ([nB k c,nB e0 e0]) (T27 (one1++hR c s++ixS i) i ((j:Int)+1)) ([nB k c,nB e0 e0]):=by
 exact Runs.goes envMs ⟨_,_,t27n k c s i j,⟨decide_eq_true (by omega),by omega,by omega,hmac_size _ _,hk,hL_size _ _,ha,hg,by rw[hR_size];omega,by rw[nx1_size,ixS_size];omega,by unfold inI;omega,trivial⟩,wf2 _ _ _ _ (by kernel_rfl)⟩
theorem out27 {k c:ByteArray} {i:Nat} (s:ByteArray) (j:Nat) (hj:¬j<8):Goes Tryz.prog (bodyOf Tryz.prog 27 5) (.exit 0) (T27 s i (j:Int)) ([nB k c,nB e0 e0]) (T27x) ([nB k c,nB e0 e0]):=by
 exact Runs.goes envMs ⟨_,_,t27x k c s i j,⟨decide_eq_false (by omega),trivial⟩,wf2 _ _ _ _ (by kernel_rfl)⟩
theorem yes12 {k c:ByteArray} {i:Nat} (hk:k.size=32) (hc:c.size=32) (ha:beS k<modN 3) (s:ByteArray) (j:Nat) (hj:j<8) (hs:s.size≤1000000) (hg:smB (beS k) (beS (hL c s))=true):Goes Tryz.prog (bodyOf Tryz.prog 12 7) .ret (T12 s i (j:Int)) ([nB k c,nB e0 e0]) T12r [nB k c,nB (bgS (smV (beS k) (beS (hL c s)))) (hR c s)]:=by
 have hz:=hmac_size c s
 by_cases hb:beS (hL c s)<modN 3
 ·rw[smB_of ha hb] at hg
  rw[smV_of hb]
  have r:=t12y k c s i j
  rw[hR'_eq] at r
  exact Runs.goes envMs ⟨_,_,r,All_ap (All_ap (All_ap ⟨decide_eq_true (by omega),trivial⟩ (obH_ok hc hs (decide_eq_true hb))) (ob12_ok hk ha hb)) ⟨hg,Nat.lt_trans (adV_lt ha _) (modN_lt 3),by omega,trivial⟩,wf2 _ _ _ _ (by kernel_rfl)⟩
 ·rw[smB_out hb] at hg;cases hg
theorem no12 {k c:ByteArray} {i:Nat} (hk:k.size=32) (hc:c.size=32) (ha:beS k<modN 3) (s:ByteArray) (j:Nat) (hj:j<8) (hs:s.size≤1000000) (hg:smB (beS k) (beS (hL c s))=false):Goes Tryz.prog (bodyOf Tryz.prog 12 7) .normal (T12 s i (j:Int)) ([nB k c,nB e0 e0]) (T12 (one1++hR c s++ixS i) i ((j:Int)+1)) ([nB k c,nB e0 e0]):=by
 by_cases hb:beS (hL c s)<modN 3
 ·rw[smB_of ha hb] at hg
  have r:=t12z k c s i j
  rw[hR'_eq] at r
  exact Runs.goes envMs ⟨_,_,r,All_ap (All_ap (All_ap (All_ap ⟨decide_eq_true (by omega),trivial⟩ (obH_ok hc hs (decide_eq_true hb))) (ob12_ok hk ha hb)) ⟨hg,trivial⟩) (obT_ok hj),wf2 _ _ _ _ (by kernel_rfl)⟩
 ·have r:=t12n k c s i j
  rw[hR'_eq] at r
  exact Runs.goes envMs ⟨_,_,r,All_ap (All_ap ⟨decide_eq_true (by omega),trivial⟩ (obH_ok hc hs (decide_eq_false hb))) (obT_ok hj),wf2 _ _ _ _ (by kernel_rfl)⟩
theorem out12 {k c:ByteArray} {i:Nat} (s:ByteArray) (j:Nat) (hj:¬j<8):Goes Tryz.prog (bodyOf Tryz.prog 12 7) (.exit 0) (T12 s i (j:Int)) ([nB k c,nB e0 e0]) (T12x) ([nB k c,nB e0 e0]):=by
 exact Runs.goes envMs ⟨_,_,t12x k c s i j,⟨decide_eq_false (by omega),trivial⟩,wf2 _ _ _ _ (by kernel_rfl)⟩
theorem loop27s {k c:ByteArray} {i:Nat} (hk:k.size=32) (hc:c.size=32) (ha:beS k<modN 3):∀(t j:Nat) (s:ByteArray) (r:ByteArray×ByteArray),j+t=8→s.size≤1000000→chl (beS k) c (ixS i) t s=some r→GoesN Tryz.prog (bodyOf Tryz.prog 27 5) (t+1) (.ret) (T27 s i (j:Int)) ([nB k c,nB e0 e0]) (T27r) ([nB k c,nB r.1 r.2]):=by
 intro t
 induction t with
 |zero=>
  intro j s r hj hs hm
  rw[chl_zero] at hm;cases hm
 |succ t ih=>
  intro j s r hj hs hm
  rw[chl_succ] at hm
  cases hg:smB (beS k) (beS (hL c s)) with
  |true=>
   rw[hg,cond_true,Option.some.injEq] at hm
   subst hm
   exact GoesN.out (by simp) (yes27 hk hc ha s j (by omega) hs hg)
  |false=>
   rw[hg,cond_false] at hm
   have ih:=ih (j+1) (one1++hR c s++ixS i) r (by omega) (by rw[nx_size];omega) hm
   rw[show ((j+1:Nat):Int)=(j:Int)+1 by omega] at ih
   exact GoesN.cons (M1:=[nB k c,nB e0 e0]) rfl (no27 hk hc ha s j (by omega) hs hg) ih
theorem loop27n {k c:ByteArray} {i:Nat} (hk:k.size=32) (hc:c.size=32) (ha:beS k<modN 3):∀(t j:Nat) (s:ByteArray),j+t=8→s.size≤1000000→chl (beS k) c (ixS i) t s=none→GoesN Tryz.prog (bodyOf Tryz.prog 27 5) (t+1) (.exit 0) (T27 s i (j:Int)) ([nB k c,nB e0 e0]) (T27x) ([nB k c,nB e0 e0]):=by
 intro t
 induction t with
 |zero=>
  intro j s hj hs hm
  exact GoesN.out (by simp) (out27 s j (by omega))
 |succ t ih=>
  intro j s hj hs hm
  rw[chl_succ] at hm
  cases hg:smB (beS k) (beS (hL c s)) with
  |true=>
   rw[hg,cond_true] at hm;cases hm
  |false=>
   rw[hg,cond_false] at hm
   have ih:=ih (j+1) (one1++hR c s++ixS i) (by omega) (by rw[nx_size];omega) hm
   rw[show ((j+1:Nat):Int)=(j:Int)+1 by omega] at ih
   exact GoesN.cons (M1:=[nB k c,nB e0 e0]) rfl (no27 hk hc ha s j (by omega) hs hg) ih
theorem loop12s {k c:ByteArray} {i:Nat} (hk:k.size=32) (hc:c.size=32) (ha:beS k<modN 3):∀(t j:Nat) (s:ByteArray) (r:ByteArray×ByteArray),j+t=8→s.size≤1000000→chl (beS k) c (ixS i) t s=some r→GoesN Tryz.prog (bodyOf Tryz.prog 12 7) (t+1) (.ret) (T12 s i (j:Int)) ([nB k c,nB e0 e0]) (T12r) ([nB k c,nB r.1 r.2]):=by
 intro t
 induction t with
 |zero=>
  intro j s r hj hs hm
  rw[chl_zero] at hm;cases hm
 |succ t ih=>
  intro j s r hj hs hm
  rw[chl_succ] at hm
  cases hg:smB (beS k) (beS (hL c s)) with
  |true=>
   rw[hg,cond_true,Option.some.injEq] at hm
   subst hm
   exact GoesN.out (by simp) (yes12 hk hc ha s j (by omega) hs hg)
  |false=>
   rw[hg,cond_false] at hm
   have ih:=ih (j+1) (one1++hR c s++ixS i) r (by omega) (by rw[nx_size];omega) hm
   rw[show ((j+1:Nat):Int)=(j:Int)+1 by omega] at ih
   exact GoesN.cons (M1:=[nB k c,nB e0 e0]) rfl (no12 hk hc ha s j (by omega) hs hg) ih
theorem loop12n {k c:ByteArray} {i:Nat} (hk:k.size=32) (hc:c.size=32) (ha:beS k<modN 3):∀(t j:Nat) (s:ByteArray),j+t=8→s.size≤1000000→chl (beS k) c (ixS i) t s=none→GoesN Tryz.prog (bodyOf Tryz.prog 12 7) (t+1) (.exit 0) (T12 s i (j:Int)) ([nB k c,nB e0 e0]) (T12x) ([nB k c,nB e0 e0]):=by
 intro t
 induction t with
 |zero=>
  intro j s hj hs hm
  exact GoesN.out (by simp) (out12 s j (by omega))
 |succ t ih=>
  intro j s hj hs hm
  rw[chl_succ] at hm
  cases hg:smB (beS k) (beS (hL c s)) with
  |true=>
   rw[hg,cond_true] at hm;cases hm
  |false=>
   rw[hg,cond_false] at hm
   have ih:=ih (j+1) (one1++hR c s++ixS i) (by omega) (by rw[nx_size];omega) hm
   rw[show ((j+1:Nat):Int)=(j:Int)+1 by omega] at ih
   exact GoesN.cons (M1:=[nB k c,nB e0 e0]) rfl (no12 hk hc ha s j (by omega) hs hg) ih
end Go.Ev.H5

namespace Go.Ev.H5
open Go Go.Proofs Go.RowKit
set_option maxRecDepth 100000
noncomputable def E22s (s:ByteArray) (T:List AV) (k c:ByteArray) (ex:Ex):Env:=addLp (mkE LMy SMs) 6 (bodyOf Tryz.prog 22 6) (sumC (T22 s 0) [nB e0 e0] T [nB k c] ex)
noncomputable def E16s (s:ByteArray) (T:List AV) (k c:ByteArray) (ex:Ex):Env:=addLp (mkE LMy SMs) 6 (bodyOf Tryz.prog 16 6) (sumC (T16 wP s 0) [nB e0 e0] T [nB k c] ex)
noncomputable def E27s (s:ByteArray) (i:Nat) (k c:ByteArray) (T:List AV) (k' c':ByteArray) (ex:Ex):Env:=addLp (mkE LMy SMs) 5 (bodyOf Tryz.prog 27 5) (sumC (T27 s i 0) [nB k c,nB e0 e0] T [nB k c,nB k' c'] ex)
noncomputable def E12s (s:ByteArray) (i:Nat) (k c:ByteArray) (T:List AV) (k' c':ByteArray) (ex:Ex):Env:=addLp (mkE LMy SMs) 7 (bodyOf Tryz.prog 12 7) (sumC (T12 s i 0) [nB k c,nB e0 e0] T [nB k c,nB k' c'] ex)
def res (k c:ByteArray) (e:Int):AV:= .tup [node k c,.one (.i e)]
theorem rA (z:Int) (s:ByteArray):callR (mkE LMy SMs) 1000 22 [.one (.i z),sS s] [false,false]=some ([decide (z=1)=false,decide (z=2)=false],res e0 e0 1):=by kernel_rfl
theorem rB1 (z:Int) (s:ByteArray):callR (mkE LMy SMs) 1000 22 [.one (.i z),sS s] [true,true]=some ([decide (z=1)=true,decide ((s.size:Int)<16)=true],res e0 e0 1):=by kernel_rfl
theorem rC1 (z:Int) (s:ByteArray):callR (mkE LMy SMs) 1000 22 [.one (.i z),sS s] [true,false,true]=some ([decide (z=1)=true,decide ((s.size:Int)<16)=false,decide ((64:Int)<(s.size:Int))=true],res e0 e0 1):=by kernel_rfl
theorem rB2 (z:Int) (s:ByteArray):callR (mkE LMy SMs) 1000 22 [.one (.i z),sS s] [false,true,true]=some ([decide (z=1)=false,decide (z=2)=true,decide ((s.size:Int)<16)=true],res e0 e0 1):=by kernel_rfl
theorem rC2 (z:Int) (s:ByteArray):callR (mkE LMy SMs) 1000 22 [.one (.i z),sS s] [false,true,false,true]=some ([decide (z=1)=false,decide (z=2)=true,decide ((s.size:Int)<16)=false,decide ((64:Int)<(s.size:Int))=true],res e0 e0 1):=by kernel_rfl
theorem rD (z:Int) (s:ByteArray):callR (mkE LMy SMs) 1000 22 [.one (.i z),sS s] [true,false,false,true]=some ([decide (z=1)=true,decide ((s.size:Int)<16)=false,decide ((64:Int)<(s.size:Int))=false,decide (z=1)=true,wE.size≤128,s.size≤10000000000000,(hmac wE s).size=64],res (hL wE s) (hR wE s) 0):=by kernel_rfl
def ob22 (s:ByteArray) (T:List AV) (k c:ByteArray):List Prop:=[decide ((2:Int)=1)=false,decide ((2:Int)=2)=true,decide ((s.size:Int)<16)=false,decide ((64:Int)<(s.size:Int))=false,decide ((2:Int)=1)=false,bodyOf Tryz.prog 22 6=bodyOf Tryz.prog 22 6,(T22 s 0,[nB e0 e0])=(T22 s 0,[nB e0 e0]),wfS (T22 s 0) [nB e0 e0]=true]
theorem rS (s k c:ByteArray):callR (E22s s T22r k c .ret) 1000 22 [.one (.i 2),sS s] [false,true,false,false,false]=some (ob22 s T22r k c,res k c 0):=by kernel_rfl
theorem rN (s:ByteArray):callR (E22s s T22x e0 e0 (.exit 0)) 1000 22 [.one (.i 2),sS s] [false,true,false,false,false]=some (ob22 s T22x e0 e0,res e0 e0 3):=by kernel_rfl
theorem rE (s:ByteArray):callR (mkE LMy SMs) 1000 16 [.one (.i 1),sS s] [false,true,true]=
  some ([decide ((1:Int)=2)=false,decide ((0:Int)<8)=true,wE.size≤128,s.size≤10000000000000,(0:Int)≤32∧(32:Int)≤((hmac wE s).size:Int),(0:Int)≤32∧(32:Int)≤((hmac wE s).size:Int),mayB 1 (hL wE s) (hR' wE s)=true],res (hL wE s) (hR' wE s) 0):=by kernel_rfl
def ob16 (s:ByteArray):List Prop:=[decide ((2:Int)=2)=true,bodyOf Tryz.prog 16 6=bodyOf Tryz.prog 16 6,(T16 wP s 0,[nB e0 e0])=(T16 wP s 0,[nB e0 e0]),wfS (T16 wP s 0) [nB e0 e0]=true]
theorem rPs (s k c:ByteArray):callR (E16s s T16r k c .ret) 1000 16 [.one (.i 2),sS s] [true]=some (ob16 s,res k c 0):=by kernel_rfl
theorem rPn (s:ByteArray):callR (E16s s T16x e0 e0 (.exit 0)) 1000 16 [.one (.i 2),sS s] [true]=some (ob16 s,res e0 e0 3):=by kernel_rfl
noncomputable def msK (z:Int) (s:ByteArray):ByteArray:=bif decide (z=1) then hL wE s else (match mst wP 8 s with|some h=>h.extract 0 32|none=>e0)
noncomputable def msC (z:Int) (s:ByteArray):ByteArray:=bif decide (z=1) then hR wE s else (match mst wP 8 s with|some h=>h.extract 32 64|none=>e0)
noncomputable def msE (z:Int) (s:ByteArray):Int:=bif decide (z=1) then 0 else (match mst wP 8 s with|some _=>0|none=>3)
def sdB (z:Int) (s:ByteArray):Bool:=(decide (z=1)||decide (z=2))&&(!decide (s.size<16)&& !decide (64<s.size))
theorem lift {a b:Nat}:decide ((a:Int)<(b:Int))=decide (a<b):=by
 by_cases h:a<b
 ·rw[decide_eq_true h,decide_eq_true (by omega)]
 ·rw[decide_eq_false h,decide_eq_false (by omega)]
theorem spec16 (z:Int) (s:ByteArray) (hz:z=1∨z=2) (hs:s.size≤1000000):Spec 16 [.one (.i z),sS s] (res (msK z s) (msC z s) (msE z s)):=by
 have hw:(hmac wE s).size=64:=hmac_size _ _
 rcases hz with rfl|rfl
 ·have r:=rE s
  rw[hR'_eq] at r
  exact spec_run envMs rfl r ⟨by decide,by decide,by rw[wE_size];omega,by omega,by omega,by omega,mayB1 (hL_size _ _) (hR_size _ _),trivial⟩ rfl rfl
 ·unfold msK msC msE
  rw[show decide ((2:Int)=1)=false from rfl,cond_false,cond_false,cond_false]
  cases hm:mst wP 8 s with
  |some h=>
   have hE:EnvOK (E16s s T16r (h.extract 0 32) (h.extract 32 64) .ret):=envAddLp envMs (sumC_ok rfl (loop16s 8 0 s h (by omega) hs hm).loop)
   exact spec_run hE rfl (rPs s _ _) ⟨by decide,rfl,rfl,wf1 _ _ (by kernel_rfl),trivial⟩ rfl rfl
  |none=>
   have hE:EnvOK (E16s s T16x e0 e0 (.exit 0)):=envAddLp envMs (sumC_ok rfl (loop16n 8 0 s (by omega) hs hm).loop)
   exact spec_run hE rfl (rPn s) ⟨by decide,rfl,rfl,wf1 _ _ (by kernel_rfl),trivial⟩ rfl rfl
theorem spec22 (z:Int) (s:ByteArray):Spec 22 [.one (.i z),sS s] (res (bif sdB z s then msK z s else e0) (bif sdB z s then msC z s else e0) (bif sdB z s then msE z s else 1)):=by
 have run:=fun {ob:List Prop} {ch:List Bool} {r:AV} (h:callR (mkE LMy SMs) 1000 22 [.one (.i z),sS s] ch=some (ob,r)) (ho:All ob) (hr:r.wf 0=true)=>spec_run envMs rfl h ho hr rfl
 have e1:=lift (a:=s.size) (b:=16)
 have e2:=lift (a:=64) (b:=s.size)
 unfold sdB
 by_cases h1:z=1
 ·rw[decide_eq_true h1,Bool.true_or,Bool.true_and]
  by_cases hs:s.size<16
  ·rw[decide_eq_true hs]
   exact run (rB1 z s) ⟨decide_eq_true h1,e1.trans (decide_eq_true hs),trivial⟩ rfl
  ·rw[decide_eq_false hs]
   by_cases hl:64<s.size
   ·rw[decide_eq_true hl]
    exact run (rC1 z s) ⟨decide_eq_true h1,e1.trans (decide_eq_false hs),e2.trans (decide_eq_true hl),trivial⟩ rfl
   ·rw[decide_eq_false hl]
    have r:=run (rD z s) ⟨decide_eq_true h1,e1.trans (decide_eq_false hs),e2.trans (decide_eq_false hl),decide_eq_true h1,by rw[wE_size];omega,by omega,hmac_size _ _,trivial⟩ rfl
    subst h1
    exact r
 ·rw[decide_eq_false h1,Bool.false_or]
  by_cases h2:z=2
  ·rw[decide_eq_true h2,Bool.true_and]
   by_cases hs:s.size<16
   ·rw[decide_eq_true hs]
    exact run (rB2 z s) ⟨decide_eq_false h1,decide_eq_true h2,e1.trans (decide_eq_true hs),trivial⟩ rfl
   ·rw[decide_eq_false hs]
    by_cases hl:64<s.size
    ·rw[decide_eq_true hl]
     exact run (rC2 z s) ⟨decide_eq_false h1,decide_eq_true h2,e1.trans (decide_eq_false hs),e2.trans (decide_eq_true hl),trivial⟩ rfl
    ·rw[decide_eq_false hl]
     subst h2
     rw[show (!false&& !false)=true from rfl,cond_true,cond_true,cond_true]
     unfold msK msC msE
     rw[show decide ((2:Int)=1)=false from rfl,cond_false,cond_false,cond_false]
     cases hm:mst wP 8 s with
     |some h=>
      have hE:EnvOK (E22s s T22r (h.extract 0 32) (h.extract 32 64) .ret):=envAddLp envMs (sumC_ok rfl (loop22s 8 0 s h (by omega) (by omega) hm).loop)
      exact spec_run hE rfl (rS s _ _) ⟨by decide,by decide,e1.trans (decide_eq_false hs),e2.trans (decide_eq_false hl),by decide,rfl,rfl,wf1 _ _ (by kernel_rfl),trivial⟩ rfl rfl
     |none=>
      have hE:EnvOK (E22s s T22x e0 e0 (.exit 0)):=envAddLp envMs (sumC_ok rfl (loop22n 8 0 s (by omega) (by omega) hm).loop)
      exact spec_run hE rfl (rN s) ⟨by decide,by decide,e1.trans (decide_eq_false hs),e2.trans (decide_eq_false hl),by decide,rfl,rfl,wf1 _ _ (by kernel_rfl),trivial⟩ rfl rfl
  ·rw[decide_eq_false h2]
   exact run (rA z s) ⟨decide_eq_false h1,decide_eq_false h2,trivial⟩ rfl
noncomputable def fnMs (vs:List V1):Option (List Prop×AV):=match vs with|[.one (.i z),.one (.v (.string s))]=>some ([],res (bif sdB z s then msK z s else e0) (bif sdB z s then msC z s else e0) (bif sdB z s then msE z s else 1))|_=>none
noncomputable def fnMsP (vs:List V1):Option (List Prop×AV):=match vs with|[.one (.i z),.one (.v (.string s))]=>some ([z=1∨z=2,s.size≤1000000],res (msK z s) (msC z s) (msE z s))|_=>none
theorem ct22:CTok ⟨22,fnMs⟩:=by
 intro vs ob r h ho
 simp only[fnMs] at h
 split at h
 ·simp only[Option.some.injEq,Prod.mk.injEq] at h
  obtain ⟨rfl,rfl⟩:=h
  exact spec22 _ _
 ·simp at h
theorem ct16:CTok ⟨16,fnMsP⟩:=by
 intro vs ob r h ho
 simp only[fnMsP] at h
 split at h
 ·simp only[Option.some.injEq,Prod.mk.injEq] at h
  obtain ⟨rfl,rfl⟩:=h
  obtain ⟨h1,h2,_⟩:=ho
  exact spec16 _ _ h1 h2
 ·simp at h
def hdS (k:ByteArray) (i:Nat):ByteArray:=zer1++k++ixS i
theorem hdS_size {k:ByteArray} (h:k.size=32) (i:Nat):(hdS k i).size=37:=by
 unfold hdS
 rw[ByteArray.size_append,ByteArray.size_append,h,ixS_size];rfl
theorem hd1_size {k:ByteArray} (h:k.size=32):(zer1++k).size=33:=by
 rw[ByteArray.size_append,h];rfl
theorem c1f (k c:ByteArray) (i:Nat):callR (mkE LMy SMs) 1000 27 [.one (.i 1),node k c,u32 i] [true,false,true,true]=
  some ([decide ((1:Int)=1)=true,decide (i<2147483648)=false,decide (2147483648≤i)=true,1+k.size≤9223372036854775807,(zer1++k).size+(ixS i).size≤9223372036854775807,decide ((0:Int)<8)=true,c.size≤128,(hdS k i).size≤10000000000000,(hmac c (hdS k i)).size=64],res (hL c (hdS k i)) (hR c (hdS k i)) 0):=by kernel_rfl
def ob27 (k c:ByteArray) (i:Nat):List Prop:=[decide ((2:Int)=1)=false,decide (2147483648≤i)=true,1+k.size≤9223372036854775807,(zer1++k).size+(ixS i).size≤9223372036854775807,bodyOf Tryz.prog 27 5=bodyOf Tryz.prog 27 5,(T27 (hdS k i) i 0,[nB k c,nB e0 e0])=(T27 (hdS k i) i 0,[nB k c,nB e0 e0]),wfS (T27 (hdS k i) i 0) [nB k c,nB e0 e0]=true]
theorem cS (k c k' c':ByteArray) (i:Nat):callR (E27s (hdS k i) i k c T27r k' c' .ret) 1000 27 [.one (.i 2),node k c,u32 i] [false,true]=some (ob27 k c i,res k' c' 0):=by kernel_rfl
theorem cN (k c:ByteArray) (i:Nat):callR (E27s (hdS k i) i k c T27x e0 e0 (.exit 0)) 1000 27 [.one (.i 2),node k c,u32 i] [false,true]=some (ob27 k c i,res e0 e0 3):=by kernel_rfl
theorem d1 (k c:ByteArray) (i:Nat):callR (mkE LMy SMs) 1000 12 [.one (.i 1),node k c,u32 i] [true,false,false,true]=
  some ([decide ((1:Int)=1)=true,decide (i<2147483648)=false,1+k.size≤9223372036854775807,(zer1++k).size+(ixS i).size≤9223372036854775807,decide (i<2147483648)=false,decide ((0:Int)<8)=true,c.size≤128,(hdS k i).size≤10000000000000,(0:Int)≤32∧(32:Int)≤((hmac c (hdS k i)).size:Int),(0:Int)≤32∧(32:Int)≤((hmac c (hdS k i)).size:Int)],res (hL c (hdS k i)) (hR' c (hdS k i)) 0):=by kernel_rfl
def ob12h (k c:ByteArray) (i:Nat):List Prop:=[decide ((2:Int)=1)=false,1+k.size≤9223372036854775807,(zer1++k).size+(ixS i).size≤9223372036854775807,decide (i<2147483648)=false,bodyOf Tryz.prog 12 7=bodyOf Tryz.prog 12 7,(T12 (hdS k i) i 0,[nB k c,nB e0 e0])=(T12 (hdS k i) i 0,[nB k c,nB e0 e0]),wfS (T12 (hdS k i) i 0) [nB k c,nB e0 e0]=true]
theorem dS (k c k' c':ByteArray) (i:Nat):callR (E12s (hdS k i) i k c T12r k' c' .ret) 1000 12 [.one (.i 2),node k c,u32 i] [false,false]=some (ob12h k c i,res k' c' 0):=by kernel_rfl
theorem dN (k c:ByteArray) (i:Nat):callR (E12s (hdS k i) i k c T12x e0 e0 (.exit 0)) 1000 12 [.one (.i 2),node k c,u32 i] [false,false]=some (ob12h k c i,res e0 e0 3):=by kernel_rfl
noncomputable def chK (z:Int) (k c s x:ByteArray):ByteArray:=bif decide (z=1) then hL c s else (match chl (beS k) c x 8 s with|some r=>r.1|none=>e0)
noncomputable def chC (z:Int) (k c s x:ByteArray):ByteArray:=bif decide (z=1) then hR c s else (match chl (beS k) c x 8 s with|some r=>r.2|none=>e0)
noncomputable def chE (z:Int) (k c s x:ByteArray):Int:=bif decide (z=1) then 0 else (match chl (beS k) c x 8 s with|some _=>0|none=>3)
def chOk (z:Int) (k c:ByteArray) (i:Nat):List Prop:=[z=1∨z=2,mayB z k c=true,2147483648≤i]
theorem may_parts {z:Int} {k c:ByteArray} (h:mayB z k c=true):k.size=32∧c.size=32∧(z=1∨beS k<modN 3):=by
 unfold mayB gd at h
 simp only[Bool.and_eq_true,Bool.or_eq_true,decide_eq_true_eq] at h
 exact ⟨h.2.1,h.2.2.1,h.2.2.2.elim .inl fun h=> .inr h.2⟩
theorem spec27h (z:Int) (k c:ByteArray) (i:Nat) (hz:z=1∨z=2) (hm:mayB z k c=true) (hi:2147483648≤i):Spec 27 [.one (.i z),node k c,u32 i] (res (chK z k c (hdS k i) (ixS i)) (chC z k c (hdS k i) (ixS i)) (chE z k c (hdS k i) (ixS i))):=by
 obtain ⟨hk,hc,ha⟩:=may_parts hm
 have h1:=hd1_size hk
 have h2:=hdS_size hk i
 have h3:=ixS_size i
 rcases hz with rfl|rfl
 ·exact spec_run envMs rfl (c1f k c i) ⟨by decide,decide_eq_false (by omega),decide_eq_true hi,by omega,by omega,by decide,by omega,by omega,hmac_size _ _,trivial⟩ rfl rfl
 ·have ha:beS k<modN 3:=ha.resolve_left (by omega)
  unfold chK chC chE
  rw[show decide ((2:Int)=1)=false from rfl,cond_false,cond_false,cond_false]
  cases hm:chl (beS k) c (ixS i) 8 (hdS k i) with
  |some r=>
   have hE:EnvOK (E27s (hdS k i) i k c T27r r.1 r.2 .ret):=envAddLp envMs (sumC_ok rfl (loop27s hk hc ha 8 0 _ r (by omega) (by omega) hm).loop)
   exact spec_run hE rfl (cS k c _ _ i) ⟨by decide,decide_eq_true hi,by omega,by omega,rfl,rfl,wf2 _ _ _ _ (by kernel_rfl),trivial⟩ rfl rfl
  |none=>
   have hE:EnvOK (E27s (hdS k i) i k c T27x e0 e0 (.exit 0)):=envAddLp envMs (sumC_ok rfl (loop27n hk hc ha 8 0 _ (by omega) (by omega) hm).loop)
   exact spec_run hE rfl (cN k c i) ⟨by decide,decide_eq_true hi,by omega,by omega,rfl,rfl,wf2 _ _ _ _ (by kernel_rfl),trivial⟩ rfl rfl
theorem spec12h (z:Int) (k c:ByteArray) (i:Nat) (hz:z=1∨z=2) (hm:mayB z k c=true) (hi:2147483648≤i):Spec 12 [.one (.i z),node k c,u32 i] (res (chK z k c (hdS k i) (ixS i)) (chC z k c (hdS k i) (ixS i)) (chE z k c (hdS k i) (ixS i))):=by
 obtain ⟨hk,hc,ha⟩:=may_parts hm
 have h1:=hd1_size hk
 have h2:=hdS_size hk i
 have h3:=ixS_size i
 have h4:=hmac_size c (hdS k i)
 rcases hz with rfl|rfl
 ·have r:=d1 k c i
  rw[hR'_eq] at r
  exact spec_run envMs rfl r ⟨by decide,decide_eq_false (by omega),by omega,by omega,decide_eq_false (by omega),by decide,by omega,by omega,by omega,by omega,trivial⟩ rfl rfl
 ·have ha:beS k<modN 3:=ha.resolve_left (by omega)
  unfold chK chC chE
  rw[show decide ((2:Int)=1)=false from rfl,cond_false,cond_false,cond_false]
  cases hm:chl (beS k) c (ixS i) 8 (hdS k i) with
  |some r=>
   have hE:EnvOK (E12s (hdS k i) i k c T12r r.1 r.2 .ret):=envAddLp envMs (sumC_ok rfl (loop12s hk hc ha 8 0 _ r (by omega) (by omega) hm).loop)
   exact spec_run hE rfl (dS k c _ _ i) ⟨by decide,by omega,by omega,decide_eq_false (by omega),rfl,rfl,wf2 _ _ _ _ (by kernel_rfl),trivial⟩ rfl rfl
  |none=>
   have hE:EnvOK (E12s (hdS k i) i k c T12x e0 e0 (.exit 0)):=envAddLp envMs (sumC_ok rfl (loop12n hk hc ha 8 0 _ (by omega) (by omega) hm).loop)
   exact spec_run hE rfl (dN k c i) ⟨by decide,by omega,by omega,decide_eq_false (by omega),rfl,rfl,wf2 _ _ _ _ (by kernel_rfl),trivial⟩ rfl rfl
end Go.Ev.H5

namespace Go.Ev.H5
open Go Go.Proofs Go.RowKit
set_option maxRecDepth 100000
noncomputable def resC (z : Int) (k c : ByteArray) (i : Nat) : AV := res (chK z k c (hdS k i) (ixS i)) (chC z k c (hdS k i) (ixS i)) (chE z k c (hdS k i) (ixS i))
noncomputable def fnCh (vs : List V1) : Option (List Prop × AV) := match vs with | [.one (.i z), .agg [.a (.v (.string k)), .a (.v (.string c))], .one (.u .u32 i)] => some (chOk z k c i, resC z k c i) | _ => none
theorem ct27 : CTok ⟨27, fnCh⟩ := by
 intro vs ob r h ho
 simp only [fnCh] at h
 split at h
 ·simp only [Option.some.injEq, Prod.mk.injEq] at h
  obtain ⟨rfl, rfl⟩ := h
  obtain ⟨h1, h2, h3, _⟩ := ho
  exact spec27h _ _ _ _ h1 h2 h3
 ·simp at h
theorem ct12 : CTok ⟨12, fnCh⟩ := by
 intro vs ob r h ho
 simp only [fnCh] at h
 split at h
 ·simp only [Option.some.injEq, Prod.mk.injEq] at h
  obtain ⟨rfl, rfl⟩ := h
  obtain ⟨h1, h2, h3, _⟩ := ho
  exact spec12h _ _ _ _ h1 h2 h3
 ·simp at h
noncomputable def LCh : List CT := ⟨27, fnCh⟩ :: LMy
theorem LCh_ok : AllCT LCh := ⟨ct27, LMy_ok⟩
theorem r10y (z : Int) (k c : ByteArray) (i : Nat) : callR (mkE LCh SMs) 1000 10 [.one (.i z), node k c, u32 i] [true] = some ([mayB z k c = true, z = 1 ∨ z = 2, mayB z k c = true, 2147483648 ≤ i], resC z k c i) := by kernel_rfl
theorem ct10 : CTok ⟨10, fnCh⟩ := by
 intro vs ob r h ho
 simp only [fnCh] at h
 split at h
 ·simp only [Option.some.injEq, Prod.mk.injEq] at h
  obtain ⟨rfl, rfl⟩ := h
  obtain ⟨h1, h2, h3, _⟩ := ho
  exact spec_run (envMk LCh_ok SMs) rfl (r10y _ _ _ _) ⟨h2, h1, h2, h3, trivial⟩ rfl rfl
 ·simp at h
noncomputable def LWk : List CT := ⟨10, fnCh⟩ :: ⟨12, fnCh⟩ :: ⟨22, fnMs⟩ :: ⟨16, fnMsP⟩ :: LCh
theorem LWk_ok : AllCT LWk := ⟨ct10, ct12, ct22, ct16, LCh_ok⟩
noncomputable def SWk : FuncId → Nat → Bool := fun f t => match f with | 14 => memN t [10, 15, 21] | _ => false
theorem r14 : callR (mkE LWk SWk) 1000 14 [] [true, true, true] = some ([(0 : Int) ≤ 16 ∧ (16 : Int) ≤ 1000000, decide ((bif sdB 1 (zs 16) then msE 1 (zs 16) else 1) = 0) = true, decide (((bif sdB 1 (zs 16) then msK 1 (zs 16) else e0).size : Int) = 32) = true, decide (((bif sdB 1 (zs 16) then msC 1 (zs 16) else e0).size : Int) = 32) = true], bV true) := by kernel_rfl
theorem sdB_of {z : Int} {s : ByteArray} (hz : z = 1 ∨ z = 2) (h1 : 16 ≤ s.size) (h2 : s.size ≤ 64) : sdB z s = true := by
 unfold sdB
 rw [decide_eq_false (show ¬ s.size < 16 by omega), decide_eq_false (show ¬ 64 < s.size by omega)]
 rcases hz with rfl | rfl <;> rfl
theorem wakes14 : Spec 14 [] (bV true) := by
 have hs : sdB 1 (zs 16) = true := sdB_of (.inl rfl) (by rw [zs_size]; omega) (by rw [zs_size]; omega)
 refine spec_run (envMk LWk_ok SWk) rfl r14 ⟨by omega, ?_, ?_, ?_, trivial⟩ rfl rfl
 ·rw [hs]; exact decide_eq_true rfl
 ·rw [hs]; exact deq (hL_size _ _)
 ·rw [hs]; exact deq (hR_size _ _)
end Go.Ev.H5

namespace Go.Ev
open Go Go.RowKit
section
variable {P : Program} {w0 w : World} {φ : Loc} {a : Act}
end
end Go.Ev

namespace Go.Ev
open Go Go.RowKit Go.ChangeShapes Go.WideShapes Go.ChangeAt
def SubS (W : World) (B : Nat) (v : Value) (n : Nat) (q : Nat → Nat) : Prop :=
 (n = 0 ∧ ∃ o cap, v = .slice o 0 cap) ∨ ∃ b p cap, v = .slice (some ⟨b, p, none⟩) n cap ∧ 1 ≤ n ∧ n ≤ cap ∧ cap ≤ maxLen ∧ n ≤ B ∧ b < W.heap.size ∧ ∀ j, j < n → q j < 4294967296 ∧ W.cell? ⟨b, p + j, none⟩ = some (.int .u32 (q j : Int))
section
variable {H : Type} {enc : TypeId × Value → H} {P : Program} {W : World} {base : Nat} {sp : Nat → Bool} {held : Bool}
theorem sub_open {t e : TypeId} {D : Nat} (ht : P.underlying t = some (.slice e)) (he : kindsT P D e = some [8]) (ce : P.cellsOf e = 1) (hb : 0 < P.bytesOf e) {B n : Nat} {v : Value} {y : DataW H × List MemPlace}
  (h : DataW.trod enc P W base (fun _ => true) held n t [v] = some y) (hwt : ∀ m ∈ y.1.weights P t, m ≤ B) : ∃ n q, SubS W B v n q := by
 rcases Go.Deep.open_slice ht h with ⟨hcs, _⟩ | ⟨a, len, cap, m, n, DD, Pl, hcs, _, hl, hcap, hm, hxe, hx⟩
 ·simp only [List.cons.injEq, and_true] at hcs
  subst hcs
  exact ⟨0, fun _ => 0, .inl ⟨rfl, none, 0, rfl⟩⟩
 ·simp only [List.cons.injEq, and_true] at hcs
  subst hcs
  simp only [if_true] at hm
  rcases Nat.eq_zero_or_pos len with h0 | h0
  ·subst h0
   exact ⟨0, fun _ => 0, .inl ⟨rfl, some a, cap, rfl⟩⟩
  ·have hcell : ∀ j, j < len → ∃ z : Nat, z < 4294967296 ∧ W.cell? (a.add j) = some (.int .u32 (z : Int)) := by
    intro j hj
    obtain ⟨cs, h1, h2⟩ := hx j (by omega)
    rw [ce, Nat.mul_one] at h1
    obtain ⟨_, h3, h4⟩ := World.cells?_some h1
    have h5 := h4 0 (by omega)
    match cs, h3 with
    | [x], _ =>
     obtain ⟨z, rfl, hz⟩ : HasK 8 x := (trod_kinds D e [8] he _ _ _ h2 rfl).1
     refine ⟨z, hz, ?_⟩
     rw [show (a.add j).add 0 = a.add j from rfl] at h5
     exact h5
   obtain ⟨z0, _, hc0⟩ := hcell 0 h0
   have e0 : a.add 0 = a := rfl
   rw [e0] at hc0
   have hsp : a.spot = none := by
    unfold World.cell? at hc0
    split at hc0
    ·split at hc0
     ·simp at hc0
     ·rename_i hs
      cases hq : a.spot with
      | none => rfl
      | some x => rw [hq] at hs; simp at hs
    ·simp at hc0
   have hbl : a.block < W.heap.size := by
    unfold World.cell? at hc0
    split at hc0
    ·rename_i hg
     exact (Array.getElem?_eq_some_iff.1 hg).1
    ·simp at hc0
   obtain ⟨b, off, s⟩ := a
   simp only at hsp hbl
   subst hsp
   have hlB : len ≤ B := by
    have h1 : (((List.range len).map DD).length + _) * P.bytesOf e ≤ B := hwt _ (by
     rw [hxe]
     simp only [DataW.weights, ht]
     exact List.mem_cons_self ..)
    rw [List.length_map, List.length_range] at h1
    exact Nat.le_trans (Nat.le_trans (Nat.le_add_right _ _) (Nat.le_mul_of_pos_right _ hb)) h1
   refine ⟨len, fun j => match W.cell? ⟨b, off + j, none⟩ with | some (.int _ z) => z.toNat | _ => 0, .inr ⟨b, off, cap, rfl, h0, hl, hcap, hlB, hbl, fun j hj => ?_⟩⟩
   obtain ⟨z, hz, hc⟩ := hcell j hj
   have e1 : (⟨b, off, none⟩ : Addr).add j = ⟨b, off + j, none⟩ := by
    unfold Addr.add
    split
    ·rename_i h0; rw [h0, Nat.add_zero]
    ·rfl
   rw [e1] at hc
   simp only [hc]
   exact ⟨by omega, by congr 1⟩
end
def OpenA (W : World) (B : Nat) (v : Value) : Prop :=
 v = .slice none 0 0 ∨ ∃ (V : Nat → Value) (len cap b off : Nat) (nl : Nat → Nat) (q : Nat → Nat → Nat), v = .slice (some ⟨b, off, none⟩) len cap ∧ len ≤ cap ∧ cap ≤ maxLen ∧ len ≤ B ∧ b < W.heap.size ∧
  (∀ j, j < len * 5 → W.cell? ⟨b, off + j, none⟩ = some (V j)) ∧
  ∀ i, i < len → HasK 5 (V (i * 5)) ∧ HasK 1 (V (i * 5 + 1)) ∧ HasK 1 (V (i * 5 + 2)) ∧ HasK 1 (V (i * 5 + 3)) ∧ SzV B (V (i * 5 + 1)) ∧ SzV B (V (i * 5 + 2)) ∧ SzV B (V (i * 5 + 3)) ∧ SubS W B (V (i * 5 + 4)) (nl i) (q i)
section
variable {P : Program}
theorem ask_open {H : Type} {enc : TypeId × Value → H} {t e eL : TypeId} {f0 f1 f2 f3 : Field} {D B : Nat} (ht : P.underlying t = some (.slice e)) (he : P.underlying e = some (.struct #[f0, f1, f2, f3])) (o0 : f0.offset = 0) (o1 : f1.offset = 1) (o2 : f2.offset = 2) (o3 : f3.offset = 4)
  (c0 : P.cellsOf f0.type = 1) (c1 : P.cellsOf f1.type = 1) (c2 : P.cellsOf f2.type = 2) (c3 : P.cellsOf f3.type = 1) (ce : P.cellsOf e = 5) (k0 : kindsT P D f0.type = some [5]) (k1 : kindsT P D f1.type = some [1]) (k2 : kindsT P D f2.type = some [1, 1])
  (h3 : P.underlying f3.type = some (.slice eL)) (hL : kindsT P D eL = some [8]) (cL : P.cellsOf eL = 1) (bL : 0 < P.bytesOf eL) (hb : 0 < P.bytesOf e)
  {r : Reach} {W : World} {base : Nat} {v : Value} {d : DataW H} {ps : List MemPlace} (hval : Value.okWide P W r base t v) (h : DataW.Trod enc P W 0 (fun _ => true) true t v d ps) (hwt : ∀ n ∈ d.weights P t, n ≤ B) : OpenA W B v := by
 obtain ⟨a0, len0, cap0, rfl⟩ := okWide_slice ht hval
 obtain ⟨fuel, hf⟩ := h
 rcases Go.Deep.open_slice ht hf with ⟨hcs, _⟩ | ⟨a, len, cap, m, n, DD, Pl, hcs, _, hl, hcap, hm, hxe, hx⟩
 ·simp [Value.cells] at hcs
  obtain ⟨rfl, rfl, rfl⟩ := hcs
  exact .inl rfl
 ·simp [Value.cells] at hcs
  obtain ⟨rfl, rfl, rfl⟩ := hcs
  simp only [if_true] at hm
  have hhas : W.has P r base a e cap0 := by
   simp only [Value.okWide, ht, Cell.okWide, Cell.ok] at hval
   exact hval.2.2
  obtain ⟨_, hspot, row, cells, hsh, _⟩ := hhas
  have hblk : a.block < W.heap.size := by
   unfold World.shape? at hsh
   split at hsh
   ·rename_i hb
    exact (Array.getElem?_eq_some_iff.1 hb).1
   ·simp at hsh
  obtain ⟨b, off, sp⟩ := a
  simp only at hspot; subst hspot
  let V : Nat → Value := fun j => (W.cell? ⟨b, off + j, none⟩).getD undef
  simp only [Prod.mk.injEq] at hxe
  have hDD : ∀ i, i < len0 → ∀ q ∈ (DD i).weights P e, q ≤ B := by
   intro i hi q hq
   refine hwt q ?_
   rw [hxe.1]
   simp only [DataW.weights, ht]
   refine List.mem_cons_of_mem _ (List.mem_append_left _ (weights_mem_all ?_ hq))
   exact List.mem_map.2 ⟨i, List.mem_range.2 hi, rfl⟩
  have hlB : len0 ≤ B := by
   have h1 : (((List.range len0).map DD).length + _) * P.bytesOf e ≤ B := hwt _ (by
    rw [hxe.1]
    simp only [DataW.weights, ht]
    exact List.mem_cons_self ..)
   rw [List.length_map, List.length_range] at h1
   exact Nat.le_trans (Nat.le_trans (Nat.le_add_right _ _) (Nat.le_mul_of_pos_right _ hb)) h1
  have hcells : ∀ i, i < len0 → ∃ x0 x1 x2 x3 x4 : Value, (∀ j, j < 5 → W.cell? ⟨b, off + (i * 5 + j), none⟩ = [x0, x1, x2, x3, x4][j]?) ∧ HasK 5 x0 ∧ HasK 1 x1 ∧ HasK 1 x2 ∧ HasK 1 x3 ∧ SzV B x1 ∧ SzV B x2 ∧ SzV B x3 ∧ ∃ n q, SubS W B x4 n q := by
   intro i hi
   obtain ⟨cs, h1, h2⟩ := hx i (by omega)
   rw [ce] at h1
   obtain ⟨_, hlen, h4⟩ := World.cells?_some h1
   have hD := hDD i hi
   obtain ⟨xs, m', _, hxx, _, hxl, hfld⟩ := DataW.trod_struct he h2
   have hxs : xs.length = 4 := hxl
   have hw : ∀ (j : Nat) (y : DataW H × List MemPlace) (f : Field), (#[f0, f1, f2, f3] : Array Field)[j]? = some f → xs[j]? = some y → ∀ q ∈ y.1.weights P f.type, q ≤ B := by
    intro j y f hj hy q hq
    refine hD q ?_
    simp only [Prod.mk.injEq] at hxx
    rw [hxx.1]
    simp only [DataW.weights, he]
    refine DataW.weights_mem_each (j := j) (t := f.type) (d := y.1) ?_ ?_ q hq
    ·rw [List.getElem?_map]
     have : (#[f0, f1, f2, f3] : Array Field).toList[j]? = some f := by simpa using hj
     rw [this]; rfl
    ·rw [List.getElem?_map, hy]; rfl
   match cs, hlen with
   | [x0, x1, x2, x3, x4], _ =>
    match xs, hxs with
    | [y0, y1, y2, y3], _ =>
     have g0 := hfld 0 f0 rfl
     have g1 := hfld 1 f1 rfl
     have g2 := hfld 2 f2 rfl
     have g3 := hfld 3 f3 rfl
     rw [o0, c0] at g0
     rw [o1, c1] at g1
     rw [o2, c2] at g2
     rw [o3, c3] at g3
     have t0 := trod_kinds D _ _ k0 _ _ _ g0 rfl
     have t1 := trod_kinds D _ _ k1 _ _ _ g1 rfl
     have t2 := trod_kinds D _ _ k2 _ _ _ g2 rfl
     have w1 := trod_kindsW (B := B) D _ _ k1 _ _ _ g1 rfl (hw 1 y1 f1 rfl rfl)
     have w2 := trod_kindsW (B := B) D _ _ k2 _ _ _ g2 rfl (hw 2 y2 f2 rfl rfl)
     obtain ⟨n, q, hs⟩ := sub_open (B := B) h3 hL cL bL g3 (hw 3 y3 f3 rfl rfl)
     refine ⟨x0, x1, x2, x3, x4, fun j hj => ?_, t0.1, t1.1, t2.1, t2.2.1, w1 _ (by simp), w2 _ (by simp), w2 _ (by simp), n, q, hs⟩
     rw [← h4 j hj, Go.Deep.add_add]
     congr 1
     unfold Addr.add
     split
     ·rename_i h0; rw [h0, Nat.add_zero]
     ·rfl
  have hV : ∀ j, j < len0 * 5 → W.cell? ⟨b, off + j, none⟩ = some (V j) := by
   intro j hj
   obtain ⟨x0, x1, x2, x3, x4, hc, _⟩ := hcells (j / 5) (by omega)
   have := hc (j % 5) (by omega)
   rw [show j / 5 * 5 + j % 5 = j by omega] at this
   simp only [V]
   have h5 : j % 5 < ([x0, x1, x2, x3, x4] : List Value).length := by simp; omega
   rw [this, List.getElem?_eq_getElem h5]
   rfl
  have hsub : ∀ i, ∃ p : Nat × (Nat → Nat), i < len0 → SubS W B (V (i * 5 + 4)) p.1 p.2 := by
   intro i
   by_cases hi : i < len0
   ·obtain ⟨x0, x1, x2, x3, x4, hc, _, _, _, _, _, _, _, n, q, hs⟩ := hcells i hi
    refine ⟨(n, q), fun _ => ?_⟩
    have h4 := hc 4 (by omega)
    have : V (i * 5 + 4) = x4 := by simp only [V]; rw [h4]; rfl
    rw [this]; exact hs
   ·exact ⟨(0, fun _ => 0), fun h => absurd h hi⟩
  refine .inr ⟨V, len0, cap0, b, off, fun i => (Classical.choose (hsub i)).1, fun i => (Classical.choose (hsub i)).2, rfl, hl, hcap, hlB, hblk, hV, fun i hi => ?_⟩
  obtain ⟨x0, x1, x2, x3, x4, hc, a0, a1, a2, a3, b1, b2, b3, _⟩ := hcells i hi
  have e0 : V (i * 5) = x0 := by simp only [V]; rw [show i * 5 = i * 5 + 0 from rfl, hc 0 (by omega)]; rfl
  have e1 : V (i * 5 + 1) = x1 := by simp only [V]; rw [hc 1 (by omega)]; rfl
  have e2 : V (i * 5 + 2) = x2 := by simp only [V]; rw [hc 2 (by omega)]; rfl
  have e3 : V (i * 5 + 3) = x3 := by simp only [V]; rw [hc 3 (by omega)]; rfl
  rw [e0, e1, e2, e3]
  exact ⟨a0, a1, a2, a3, b1, b2, b3, Classical.choose_spec (hsub i) hi⟩
end
end Go.Ev

namespace Go.Ev
open Go Go.RowKit
def rowX (c : Cells) (x : Atom) (p : Nat) : List Piece := [.a (.i (zA c p)), .a (.v (.string (sA c (p + 1)))), .a (.v (.string (sA c (p + 2)))), .a (.v (.string (sA c (p + 3)))), .a x]
def rowsX (c : Cells) (xs : Nat → Atom) : Nat → Nat → List Piece
 | 0, _ => []
 | m + 1, i => rowX c (xs i) (i * 5) ++ rowsX c xs m (i + 1)
def blkX (c : Cells) (xs : Nat → Atom) (m : Nat) (e : TypeId) : Blk := ⟨rowsX c xs m 0, e, true, true, 0⟩
theorem rowX_len (c : Cells) (x : Atom) (p : Nat) (φ : Loc) : (concs φ (rowX c x p)).length = 5 := by simp [rowX, concs, Piece.conc]
theorem rowsX_drop (c : Cells) (xs : Nat → Atom) (φ : Loc) : ∀ (m i k : Nat), k < m → ∃ r, (concs φ (rowsX c xs m i)).drop (k * 5) = concs φ (rowX c (xs (i + k)) ((i + k) * 5)) ++ r
 | 0, _, _, h => absurd h (Nat.not_lt_zero _)
 | m + 1, i, 0, _ => ⟨concs φ (rowsX c xs m (i + 1)), by simp [rowsX, concs_append]⟩
 | m + 1, i, k + 1, h => by
  obtain ⟨r, hr⟩ := rowsX_drop c xs φ m (i + 1) k (by omega)
  refine ⟨r, ?_⟩
  simp only [rowsX, concs_append]
  rw [List.drop_append, rowX_len, List.drop_eq_nil_of_le (by rw [rowX_len]; omega), List.nil_append, show (k + 1) * 5 - 5 = k * 5 by omega, hr, show i + 1 + k = i + (k + 1) by omega]
theorem rowsX_get (c : Cells) (xs : Nat → Atom) (φ : Loc) {m i j : Nat} (h : i < m) (hj : j < 5) : (concs φ (rowsX c xs m 0))[i * 5 + j]? = (concs φ (rowX c (xs i) (i * 5)))[j]? := by
 obtain ⟨r, hr⟩ := rowsX_drop c xs φ m 0 i h
 rw [← List.getElem?_drop, hr, List.getElem?_append_left (by rw [rowX_len]; exact hj), Nat.zero_add]
theorem rowsX_ptr (c : Cells) (xs : Nat → Atom) (f : Nat → Bool) : ∀ m i, (∀ k, k < m → allPtr f [.a (xs (i + k))] = true) → allPtr f (rowsX c xs m i) = true
 | 0, _, _ => rfl
 | m + 1, i, h => by
  refine allPtr_app f _ _ ?_ (rowsX_ptr c xs f m (i + 1) fun k hk => by have := h (k + 1) (by omega); rwa [show i + (k + 1) = i + 1 + k by omega] at this)
  exact h 0 (by omega)
theorem loadsX {P : Program} {c : Cells} {xs : Nat → Atom} {m i j : Nat} {t : TypeId} {x : V1} (h : i < m) (hj : j < 5)
  (hx : match x with | .one y => isAggA P t = some false ∧ ∀ φ, (concs φ (rowX c (xs i) (i * 5)))[j]? = some (y.conc φ) | .agg r => isAggA P t = some true ∧ ∃ n, sizeA P t = some n ∧ (∀ φ, (concs φ r).length = n ∧ concs φ r = ((concs φ (rowX c (xs i) (i * 5))).drop j).take n) ∧ j + n ≤ 5) : LoadsAs P t (rowsX c xs m 0) (0 + i * 5 + j) x := by
 intro φ
 cases x with
 | one y => exact ⟨hx.1, by rw [Nat.zero_add, rowsX_get c xs φ h hj]; exact hx.2 φ⟩
 | agg r =>
  obtain ⟨h1, n, h2, h3, h4⟩ := hx
  refine ⟨h1, n, h2, ?_, (h3 φ).1⟩
  obtain ⟨r', hr⟩ := rowsX_drop c xs φ m 0 i h
  rw [Nat.zero_add, ← List.drop_drop, hr, (h3 φ).2, Nat.zero_add, List.drop_append_of_le_length (by rw [rowX_len]; omega), List.take_append_of_le_length (by rw [List.length_drop, rowX_len]; omega)]
theorem MRel.ofRo {W w : World} {φ : Loc} {M : List Blk} (hb : Below W.heap.size W w) (hro : ∀ (i : Nat) (b : Blk), M[i]? = some b → b.ro = true) (hold : ∀ (i : Nat) (b : Blk), M[i]? = some b → (φ i).1 < W.heap.size ∧ ∀ j v, (concs φ b.ps)[j]? = some v → W.cell? ⟨(φ i).1, (φ i).2.1 + j, none⟩ = some v) (hw : memWf M.length M = true) : MRel W φ M w := by
 refine ⟨hb, ?_, ?_, ?_, ?_, fun i b h => memWf_mem hw i b h⟩
 ·intro i j b1 b2 hb1 _ _ _ hr _ _
  rw [hro i b1 hb1] at hr; cases hr
 ·intro i b1 hb1 _ hr
  rw [hro i b1 hb1] at hr; cases hr
 ·intro i b1 hb1 _ _
  exact hold i b1 hb1
 ·intro i b1 hb1 _ hr
  rw [hro i b1 hb1] at hr; cases hr
end Go.Ev

