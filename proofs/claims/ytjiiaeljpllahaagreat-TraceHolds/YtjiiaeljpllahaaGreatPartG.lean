/- Numbers of limbs: what the functions on them come to -/
import Derived.Test.YtjiiaeljpllahaaGreatPartF
namespace Go.Ev
open Go Go.Proofs Go.RowKit
def GoesN (P:Program) (y:Code) (n:Nat) (ex:Ex) (T:List AV) (M:List Blk) (T':List AV) (M':List Blk):Prop:=
 ∀w0 φ a w,Rel w0 φ T M a w→∀Q:Exit→Act→World→Prop,(∀φ' a' w',Agree M.length φ φ'→Rel w0 φ' T' M' a' w'→Q ex.to a' w')→Code.rounds P y Q n a w
theorem GoesN.loop {P:Program} {y:Code} {n:Nat} {ex:Ex} {T T':List AV} {M M':List Blk} (h:GoesN P y n ex T M T' M'):Goes P (.loop y) ex T M T' M':=
 fun w0 φ a w hr Q hQ=>wp_loop_rounds n (h w0 φ a w hr Q hQ)
theorem GoesN.out {P:Program} {y:Code} {n:Nat} {ex:Ex} (hex:ex≠.normal) {T T':List AV} {M M':List Blk} (h:Goes P y ex T M T' M'):GoesN P y (n+1) ex T M T' M':=by
 intro w0 φ a w hr Q hQ
 refine h w0 φ a w hr _ ?_
 intro φ' a' w' hag hr'
 have:=hQ φ' a' w' hag hr'
 cases ex with
 |normal=>exact absurd rfl hex
 |exit id=>exact this
 |ret=>exact this
theorem GoesN.cons {P:Program} {y:Code} {n:Nat} {ex:Ex} {T T1 T':List AV} {M M1 M':List Blk} (hl:M.length=M1.length) (h1:Goes P y .normal T M T1 M1) (h:GoesN P y n ex T1 M1 T' M'):GoesN P y (n+1) ex T M T' M':=by
 intro w0 φ a w hr Q hQ
 refine h1 w0 φ a w hr _ ?_
 intro φ' a' w' hag hr'
 refine h w0 φ' a' w' hr' Q ?_
 intro φ'' a'' w'' hag' hr''
 exact hQ φ'' a'' w'' (hag.trans (Nat.le_refl _) (by rw[hl];exact hag')) hr''
def b17 (u:Nat→Nat):Blk:=⟨bp 17 0 u,219,true,false,0⟩
theorem LL (u:Nat→Nat):er (b17 u):=fun f=>gY u f 17 0
noncomputable def E80:Env:={E0 with
 fn:=fun f vs=>match f with
  |102=>mT yL vs
  |103=>mT qQ vs
  |_=>none
 S:=fun f t=>match f with
  |160=>bf t [68,96,100]
  |_=>false}
theorem sC:EnvOK E80:=by
 refine ⟨mixed,?_,fun _ _ _ _ _ h=>by simp[E80,E0] at h,fun _ _ _ h=>by simp[E80,E0] at h,fun _ _ _ _ _ _ h=>by simp[E80,E0] at h⟩
 intro f vs ob r h ho
 simp only[E80] at h
 split at h
 ·exact de vr h ho
 ·exact de wn h ho
 ·simp at h
def iW (t:Nat→Nat) (k v j:Nat):Nat:=match Nat.beq j k with|true=>v|false=>t j
def lP (t:Nat→Nat) (c k:Nat):Nat:=(c+t k%18446744073709551616)%18446744073709551616
def nn (t:Nat→Nat) (c k:Nat):Nat→Nat→Nat
 |0=>t
 |n+1=>match decide (0<c) with
  |false=>t
  |true=>nn (iW t k (lP t c k%4294967296)) (lP t c k/4294967296) (k+1) n
def TC (f i c:Nat) (k:Int):List AV:=bt 110 [(2,.val (u32 f)),(3,pV 0),(4,pV 1),(6,pV 2),(7,pV 3),(9,iV (i:Int)),(11,GI c),(13,iV k)]
def dz (f:Nat) (i:Int):List AV:=bt 110 [(2,.val (u32 f)),(3,pV 0),(4,pV 1),(6,pV 2),(7,pV 3),(9,iV i)]
theorem tTC (f i c:Nat) (k:Int):cw 4 (TC f i c k)=true:=by kernel_rfl
theorem af2 (f:Nat) (i:Int):cw 4 (dz f i)=true:=by kernel_rfl
def dR (w m t:Nat→Nat):List Blk:=[bW w,bN m,z8,b17 t]
theorem Ct (w m t:Nat→Nat):∀b∈dR w m t,er b:=by
 intro b hb
 simp only[dR,List.mem_cons,List.not_mem_nil,or_false] at hb
 rcases hb with rfl|rfl|rfl|rfl
 ·exact jN _
 ·exact iy _
 ·exact iy _
 ·exact LL _
theorem aiH (w m t:Nat→Nat) (f i c:Nat) (k:Int):dl (TC f i c k) (dR w m t)=true:=cc (Ct w m t) (tTC f i c k)
theorem vt (w m t:Nat→Nat) (f:Nat) (i:Int):dl (dz f i) (dR w m t)=true:=cc (Ct w m t) (af2 f i)
theorem abo (w m t:Nat→Nat) (f i c:Nat):aH E80 1000 (E80.S 160) (ah Tryz.prog 160 18) (TC f i c ((8:Nat):Int)) (dR w m t) [true] (TC f i (lP t c 8/4294967296) ((8+1:Nat):Int)) 4=
  some ([decide (0<c)=true],.normal,TC f i (lP t c 8/4294967296) ((8+1:Nat):Int),dR w m (iW t 8 (lP t c 8%4294967296))):=by kernel_rfl
theorem P9 (w m t:Nat→Nat) (f i c:Nat):aH E80 1000 (E80.S 160) (ah Tryz.prog 160 18) (TC f i c ((8:Nat):Int)) (dR w m t) [false] (dz f (i:Int)) 4=
  some ([decide (0<c)=false],.exit 6,dz f (i:Int),dR w m t):=by kernel_rfl
theorem YJ (w m t:Nat→Nat) (f i c:Nat):aH E80 1000 (E80.S 160) (ah Tryz.prog 160 18) (TC f i c ((9:Nat):Int)) (dR w m t) [true] (TC f i (lP t c 9/4294967296) ((9+1:Nat):Int)) 4=
  some ([decide (0<c)=true],.normal,TC f i (lP t c 9/4294967296) ((9+1:Nat):Int),dR w m (iW t 9 (lP t c 9%4294967296))):=by kernel_rfl
theorem Uw (w m t:Nat→Nat) (f i c:Nat):aH E80 1000 (E80.S 160) (ah Tryz.prog 160 18) (TC f i c ((9:Nat):Int)) (dR w m t) [false] (dz f (i:Int)) 4=
  some ([decide (0<c)=false],.exit 6,dz f (i:Int),dR w m t):=by kernel_rfl
theorem Q9 (w m t:Nat→Nat) (f i c:Nat):aH E80 1000 (E80.S 160) (ah Tryz.prog 160 18) (TC f i c ((10:Nat):Int)) (dR w m t) [true] (TC f i (lP t c 10/4294967296) ((10+1:Nat):Int)) 4=
  some ([decide (0<c)=true],.normal,TC f i (lP t c 10/4294967296) ((10+1:Nat):Int),dR w m (iW t 10 (lP t c 10%4294967296))):=by kernel_rfl
theorem LG (w m t:Nat→Nat) (f i c:Nat):aH E80 1000 (E80.S 160) (ah Tryz.prog 160 18) (TC f i c ((10:Nat):Int)) (dR w m t) [false] (dz f (i:Int)) 4=
  some ([decide (0<c)=false],.exit 6,dz f (i:Int),dR w m t):=by kernel_rfl
theorem Sg (w m t:Nat→Nat) (f i c:Nat):aH E80 1000 (E80.S 160) (ah Tryz.prog 160 18) (TC f i c ((11:Nat):Int)) (dR w m t) [true] (TC f i (lP t c 11/4294967296) ((11+1:Nat):Int)) 4=
  some ([decide (0<c)=true],.normal,TC f i (lP t c 11/4294967296) ((11+1:Nat):Int),dR w m (iW t 11 (lP t c 11%4294967296))):=by kernel_rfl
theorem Oa (w m t:Nat→Nat) (f i c:Nat):aH E80 1000 (E80.S 160) (ah Tryz.prog 160 18) (TC f i c ((11:Nat):Int)) (dR w m t) [false] (dz f (i:Int)) 4=
  some ([decide (0<c)=false],.exit 6,dz f (i:Int),dR w m t):=by kernel_rfl
theorem Wh (w m t:Nat→Nat) (f i c:Nat):aH E80 1000 (E80.S 160) (ah Tryz.prog 160 18) (TC f i c ((12:Nat):Int)) (dR w m t) [true] (TC f i (lP t c 12/4294967296) ((12+1:Nat):Int)) 4=
  some ([decide (0<c)=true],.normal,TC f i (lP t c 12/4294967296) ((12+1:Nat):Int),dR w m (iW t 12 (lP t c 12%4294967296))):=by kernel_rfl
theorem Nf (w m t:Nat→Nat) (f i c:Nat):aH E80 1000 (E80.S 160) (ah Tryz.prog 160 18) (TC f i c ((12:Nat):Int)) (dR w m t) [false] (dz f (i:Int)) 4=
  some ([decide (0<c)=false],.exit 6,dz f (i:Int),dR w m t):=by kernel_rfl
theorem SU (w m t:Nat→Nat) (f i c:Nat):aH E80 1000 (E80.S 160) (ah Tryz.prog 160 18) (TC f i c ((13:Nat):Int)) (dR w m t) [true] (TC f i (lP t c 13/4294967296) ((13+1:Nat):Int)) 4=
  some ([decide (0<c)=true],.normal,TC f i (lP t c 13/4294967296) ((13+1:Nat):Int),dR w m (iW t 13 (lP t c 13%4294967296))):=by kernel_rfl
theorem OL (w m t:Nat→Nat) (f i c:Nat):aH E80 1000 (E80.S 160) (ah Tryz.prog 160 18) (TC f i c ((13:Nat):Int)) (dR w m t) [false] (dz f (i:Int)) 4=
  some ([decide (0<c)=false],.exit 6,dz f (i:Int),dR w m t):=by kernel_rfl
theorem Uh (w m t:Nat→Nat) (f i c:Nat):aH E80 1000 (E80.S 160) (ah Tryz.prog 160 18) (TC f i c ((14:Nat):Int)) (dR w m t) [true] (TC f i (lP t c 14/4294967296) ((14+1:Nat):Int)) 4=
  some ([decide (0<c)=true],.normal,TC f i (lP t c 14/4294967296) ((14+1:Nat):Int),dR w m (iW t 14 (lP t c 14%4294967296))):=by kernel_rfl
theorem L' (w m t:Nat→Nat) (f i c:Nat):aH E80 1000 (E80.S 160) (ah Tryz.prog 160 18) (TC f i c ((14:Nat):Int)) (dR w m t) [false] (dz f (i:Int)) 4=
  some ([decide (0<c)=false],.exit 6,dz f (i:Int),dR w m t):=by kernel_rfl
theorem Ty (w m t:Nat→Nat) (f i c:Nat):aH E80 1000 (E80.S 160) (ah Tryz.prog 160 18) (TC f i c ((15:Nat):Int)) (dR w m t) [true] (TC f i (lP t c 15/4294967296) ((15+1:Nat):Int)) 4=
  some ([decide (0<c)=true],.normal,TC f i (lP t c 15/4294967296) ((15+1:Nat):Int),dR w m (iW t 15 (lP t c 15%4294967296))):=by kernel_rfl
theorem PE (w m t:Nat→Nat) (f i c:Nat):aH E80 1000 (E80.S 160) (ah Tryz.prog 160 18) (TC f i c ((15:Nat):Int)) (dR w m t) [false] (dz f (i:Int)) 4=
  some ([decide (0<c)=false],.exit 6,dz f (i:Int),dR w m t):=by kernel_rfl
theorem V0 (w m t:Nat→Nat) (f i c:Nat):aH E80 1000 (E80.S 160) (ah Tryz.prog 160 18) (TC f i c ((16:Nat):Int)) (dR w m t) [true] (TC f i (lP t c 16/4294967296) ((16+1:Nat):Int)) 4=
  some ([decide (0<c)=true],.normal,TC f i (lP t c 16/4294967296) ((16+1:Nat):Int),dR w m (iW t 16 (lP t c 16%4294967296))):=by kernel_rfl
theorem Pj (w m t:Nat→Nat) (f i c:Nat):aH E80 1000 (E80.S 160) (ah Tryz.prog 160 18) (TC f i c ((16:Nat):Int)) (dR w m t) [false] (dz f (i:Int)) 4=
  some ([decide (0<c)=false],.exit 6,dz f (i:Int),dR w m t):=by kernel_rfl
theorem TJ (w m t:Nat→Nat) (f i c:Nat):aH E80 1000 (E80.S 160) (ah Tryz.prog 160 18) (TC f i c ((17:Nat):Int)) (dR w m t) [] (dz f (i:Int)) 4=
  some ([],.exit 6,dz f (i:Int),dR w m t):=by kernel_rfl
theorem agO (w m t:Nat→Nat) (f i c k:Nat) (hk:8≤k) (hk2:k<17) (hc:0<c):Goes Tryz.prog (ah Tryz.prog 160 18) .normal (TC f i c (k:Int)) (dR w m t) (TC f i (lP t c k/4294967296) ((k+1:Nat):Int)) (dR w m (iW t k (lP t c k%4294967296))):=by
 have hd:cL [decide (0<c)=true]:=⟨decide_eq_true hc,trivial⟩
 have hw:=aiH w m (iW t k (lP t c k%4294967296)) f i (lP t c k/4294967296) ((k+1:Nat):Int)
 have:Runs E80 1000 (E80.S 160) (ah Tryz.prog 160 18) .normal (TC f i c (k:Int)) (dR w m t) (TC f i (lP t c k/4294967296) ((k+1:Nat):Int)) (dR w m (iW t k (lP t c k%4294967296))):=by
  have h9:k=8∨k=9∨k=10∨k=11∨k=12∨k=13∨k=14∨k=15∨k=16:=by omega
  rcases h9 with rfl|rfl|rfl|rfl|rfl|rfl|rfl|rfl|rfl
  ·exact ⟨[true],_,abo w m t f i c,hd,hw⟩
  ·exact ⟨[true],_,YJ w m t f i c,hd,hw⟩
  ·exact ⟨[true],_,Q9 w m t f i c,hd,hw⟩
  ·exact ⟨[true],_,Sg w m t f i c,hd,hw⟩
  ·exact ⟨[true],_,Wh w m t f i c,hd,hw⟩
  ·exact ⟨[true],_,SU w m t f i c,hd,hw⟩
  ·exact ⟨[true],_,Uh w m t f i c,hd,hw⟩
  ·exact ⟨[true],_,Ty w m t f i c,hd,hw⟩
  ·exact ⟨[true],_,V0 w m t f i c,hd,hw⟩
 exact this.goes sC
theorem aoG (w m t:Nat→Nat) (f i c k:Nat) (hk:8≤k) (hk2:k<17) (hc:¬0<c):Goes Tryz.prog (ah Tryz.prog 160 18) (.exit 6) (TC f i c (k:Int)) (dR w m t) (dz f (i:Int)) (dR w m t):=by
 have hd:cL [decide (0<c)=false]:=⟨decide_eq_false hc,trivial⟩
 have hw:=vt w m t f (i:Int)
 have:Runs E80 1000 (E80.S 160) (ah Tryz.prog 160 18) (.exit 6) (TC f i c (k:Int)) (dR w m t) (dz f (i:Int)) (dR w m t):=by
  have h9:k=8∨k=9∨k=10∨k=11∨k=12∨k=13∨k=14∨k=15∨k=16:=by omega
  rcases h9 with rfl|rfl|rfl|rfl|rfl|rfl|rfl|rfl|rfl
  ·exact ⟨[false],_,P9 w m t f i c,hd,hw⟩
  ·exact ⟨[false],_,Uw w m t f i c,hd,hw⟩
  ·exact ⟨[false],_,LG w m t f i c,hd,hw⟩
  ·exact ⟨[false],_,Oa w m t f i c,hd,hw⟩
  ·exact ⟨[false],_,Nf w m t f i c,hd,hw⟩
  ·exact ⟨[false],_,OL w m t f i c,hd,hw⟩
  ·exact ⟨[false],_,L' w m t f i c,hd,hw⟩
  ·exact ⟨[false],_,PE w m t f i c,hd,hw⟩
  ·exact ⟨[false],_,Pj w m t f i c,hd,hw⟩
 exact this.goes sC
theorem XD (w m:Nat→Nat) (f i:Nat):∀(n:Nat) (t:Nat→Nat) (c k:Nat),8≤k→k+n=17→GoesN Tryz.prog (ah Tryz.prog 160 18) (n+1) (.exit 6) (TC f i c (k:Int)) (dR w m t) (dz f (i:Int)) (dR w m (nn t c k n))
 |0,t,c,k,_,hn=>by
  obtain rfl:k=17:=by omega
  exact GoesN.out (by simp) (Runs.goes sC ⟨[],_,TJ w m t f i c,trivial,vt _ _ _ _ _⟩)
 |n+1,t,c,k,hk,hn=>by
  by_cases hc:0<c
  ·have e:nn t c k (n+1)=nn (iW t k (lP t c k%4294967296)) (lP t c k/4294967296) (k+1) n:=by
    rw[nn,decide_eq_true hc]
   rw[e]
   have hs:=agO w m t f i c k hk (by omega) hc
   exact GoesN.cons (by simp only[dR,List.length_cons]) hs (XD w m f i n _ _ (k+1) (by omega) (by omega))
  ·have e:nn t c k (n+1)=t:=by
    rw[nn,decide_eq_false hc]
   rw[e]
   exact GoesN.out (by simp) (aoG w m t f i c k hk (by omega) hc)
def T80 (q:Nat) (b w:Nat→Nat) (i c k:Nat):Nat:=((c+q*(b k%18446744073709551616)%18446744073709551616)%18446744073709551616+w (i+k)%18446744073709551616)%18446744073709551616
def lR (t m:Nat→Nat) (f i:Nat):Nat→Nat→Nat:=T80 (t i*f%4294967296%18446744073709551616) m t i
def mn (t m:Nat→Nat) (f i j:Nat):Nat:=
 match Nat.blt j i with
 |true=>t j
 |false=>match Nat.blt j (i+8) with
  |true=>lR t m f i (dF (lR t m f i) (j-i)) (j-i)%4294967296
  |false=>t j
def IA (t m:Nat→Nat) (f i:Nat):Nat→Nat:=nn (mn t m f i) (dF (lR t m f i) 8) (i+8) (9-i)
noncomputable def Bo (w m t:Nat→Nat) (f i:Nat):Env:={E80 with lp:=fun j=>match Nat.beq j 18 with
  |true=>some (ah Tryz.prog 160 18,fo (TC f i (dF (lR t m f i) 8) ((i+8:Nat):Int)) (dR w m (mn t m f i)) (dz f (i:Int)) (dR w m (IA t m f i)) (.exit 6))
  |false=>none}
theorem Sd (w m t:Nat→Nat) (f i:Nat) (hi:i≤8):EnvOK (Bo w m t f i):=kj sC (bz (by simp only[dR,List.length_cons]) (GoesN.loop (XD w m f i (9-i) (mn t m f i) (dF (lR t m f i) 8) (i+8) (by omega) (by omega))))
theorem Rl (w m t:Nat→Nat) (f:Nat):aH (Bo w m t f 0) 1000 (E80.S 160) (ah Tryz.prog 160 7) (dz f ((0:Nat):Int)) (dR w m t) [] (dz f ((0+1:Nat):Int)) 4=
  some ([ah Tryz.prog 160 18=ah Tryz.prog 160 18,(TC f 0 (dF (lR t m f 0) 8) ((0+8:Nat):Int),dR w m (mn t m f 0))=(TC f 0 (dF (lR t m f 0) 8) ((0+8:Nat):Int),dR w m (mn t m f 0)),dl (TC f 0 (dF (lR t m f 0) 8) ((0+8:Nat):Int)) (dR w m (mn t m f 0))=true],.normal,dz f ((0+1:Nat):Int),dR w m (IA t m f 0)):=by kernel_rfl
theorem Qc (w m t:Nat→Nat) (f:Nat):aH (Bo w m t f 1) 1000 (E80.S 160) (ah Tryz.prog 160 7) (dz f ((1:Nat):Int)) (dR w m t) [] (dz f ((1+1:Nat):Int)) 4=
  some ([ah Tryz.prog 160 18=ah Tryz.prog 160 18,(TC f 1 (dF (lR t m f 1) 8) ((1+8:Nat):Int),dR w m (mn t m f 1))=(TC f 1 (dF (lR t m f 1) 8) ((1+8:Nat):Int),dR w m (mn t m f 1)),dl (TC f 1 (dF (lR t m f 1) 8) ((1+8:Nat):Int)) (dR w m (mn t m f 1))=true],.normal,dz f ((1+1:Nat):Int),dR w m (IA t m f 1)):=by kernel_rfl
theorem Vy (w m t:Nat→Nat) (f:Nat):aH (Bo w m t f 2) 1000 (E80.S 160) (ah Tryz.prog 160 7) (dz f ((2:Nat):Int)) (dR w m t) [] (dz f ((2+1:Nat):Int)) 4=
  some ([ah Tryz.prog 160 18=ah Tryz.prog 160 18,(TC f 2 (dF (lR t m f 2) 8) ((2+8:Nat):Int),dR w m (mn t m f 2))=(TC f 2 (dF (lR t m f 2) 8) ((2+8:Nat):Int),dR w m (mn t m f 2)),dl (TC f 2 (dF (lR t m f 2) 8) ((2+8:Nat):Int)) (dR w m (mn t m f 2))=true],.normal,dz f ((2+1:Nat):Int),dR w m (IA t m f 2)):=by kernel_rfl
theorem To (w m t:Nat→Nat) (f:Nat):aH (Bo w m t f 3) 1000 (E80.S 160) (ah Tryz.prog 160 7) (dz f ((3:Nat):Int)) (dR w m t) [] (dz f ((3+1:Nat):Int)) 4=
  some ([ah Tryz.prog 160 18=ah Tryz.prog 160 18,(TC f 3 (dF (lR t m f 3) 8) ((3+8:Nat):Int),dR w m (mn t m f 3))=(TC f 3 (dF (lR t m f 3) 8) ((3+8:Nat):Int),dR w m (mn t m f 3)),dl (TC f 3 (dF (lR t m f 3) 8) ((3+8:Nat):Int)) (dR w m (mn t m f 3))=true],.normal,dz f ((3+1:Nat):Int),dR w m (IA t m f 3)):=by kernel_rfl
theorem Ut (w m t:Nat→Nat) (f:Nat):aH (Bo w m t f 4) 1000 (E80.S 160) (ah Tryz.prog 160 7) (dz f ((4:Nat):Int)) (dR w m t) [] (dz f ((4+1:Nat):Int)) 4=
  some ([ah Tryz.prog 160 18=ah Tryz.prog 160 18,(TC f 4 (dF (lR t m f 4) 8) ((4+8:Nat):Int),dR w m (mn t m f 4))=(TC f 4 (dF (lR t m f 4) 8) ((4+8:Nat):Int),dR w m (mn t m f 4)),dl (TC f 4 (dF (lR t m f 4) 8) ((4+8:Nat):Int)) (dR w m (mn t m f 4))=true],.normal,dz f ((4+1:Nat):Int),dR w m (IA t m f 4)):=by kernel_rfl
theorem Qf (w m t:Nat→Nat) (f:Nat):aH (Bo w m t f 5) 1000 (E80.S 160) (ah Tryz.prog 160 7) (dz f ((5:Nat):Int)) (dR w m t) [] (dz f ((5+1:Nat):Int)) 4=
  some ([ah Tryz.prog 160 18=ah Tryz.prog 160 18,(TC f 5 (dF (lR t m f 5) 8) ((5+8:Nat):Int),dR w m (mn t m f 5))=(TC f 5 (dF (lR t m f 5) 8) ((5+8:Nat):Int),dR w m (mn t m f 5)),dl (TC f 5 (dF (lR t m f 5) 8) ((5+8:Nat):Int)) (dR w m (mn t m f 5))=true],.normal,dz f ((5+1:Nat):Int),dR w m (IA t m f 5)):=by kernel_rfl
theorem Rn (w m t:Nat→Nat) (f:Nat):aH (Bo w m t f 6) 1000 (E80.S 160) (ah Tryz.prog 160 7) (dz f ((6:Nat):Int)) (dR w m t) [] (dz f ((6+1:Nat):Int)) 4=
  some ([ah Tryz.prog 160 18=ah Tryz.prog 160 18,(TC f 6 (dF (lR t m f 6) 8) ((6+8:Nat):Int),dR w m (mn t m f 6))=(TC f 6 (dF (lR t m f 6) 8) ((6+8:Nat):Int),dR w m (mn t m f 6)),dl (TC f 6 (dF (lR t m f 6) 8) ((6+8:Nat):Int)) (dR w m (mn t m f 6))=true],.normal,dz f ((6+1:Nat):Int),dR w m (IA t m f 6)):=by kernel_rfl
theorem UX (w m t:Nat→Nat) (f:Nat):aH (Bo w m t f 7) 1000 (E80.S 160) (ah Tryz.prog 160 7) (dz f ((7:Nat):Int)) (dR w m t) [] (dz f ((7+1:Nat):Int)) 4=
  some ([ah Tryz.prog 160 18=ah Tryz.prog 160 18,(TC f 7 (dF (lR t m f 7) 8) ((7+8:Nat):Int),dR w m (mn t m f 7))=(TC f 7 (dF (lR t m f 7) 8) ((7+8:Nat):Int),dR w m (mn t m f 7)),dl (TC f 7 (dF (lR t m f 7) 8) ((7+8:Nat):Int)) (dR w m (mn t m f 7))=true],.normal,dz f ((7+1:Nat):Int),dR w m (IA t m f 7)):=by kernel_rfl
theorem UP (w m t:Nat→Nat) (f:Nat):aH E80 1000 (E80.S 160) (ah Tryz.prog 160 7) (dz f ((8:Nat):Int)) (dR w m t) [] (dz f ((8:Nat):Int)) 4=
  some ([],.exit 2,dz f ((8:Nat):Int),dR w m t):=by kernel_rfl
def Lp (w:Nat→Nat) (j:Nat):Nat:=match Nat.blt j 16 with|true=>w j|false=>0
def nj (w m:Nat→Nat) (f:Nat):Nat→Nat→Nat
 |0=>Lp w
 |i+1=>IA (nj w m f i) m f i
theorem adK (w m:Nat→Nat) (f:Nat):Goes Tryz.prog (.loop (ah Tryz.prog 160 7)) (.exit 2) (dz f ((0:Nat):Int)) (dR w m (Lp w)) (dz f ((8:Nat):Int)) (dR w m (nj w m f 8)):=by
 refine bJ (N:=8) (k:=4) (T:=fun k=>dz f (k:Int)) (M:=fun k=>dR w m (nj w m f k)) (by simp) (fun _ _=>by simp only[dR,List.length_cons,List.length_nil]) (fun k hk=> ?_) ?_
 ·have:Goes Tryz.prog (ah Tryz.prog 160 7) .normal (dz f (k:Int)) (dR w m (nj w m f k)) (dz f ((k+1:Nat):Int)) (dR w m (IA (nj w m f k) m f k)):=by
   have hw1:=aiH w m (mn (nj w m f k) m f k) f k (dF (lR (nj w m f k) m f k) 8) ((k+8:Nat):Int)
   have hw2:=vt w m (IA (nj w m f k) m f k) f ((k+1:Nat):Int)
   have hE:=Sd w m (nj w m f k) f k (by omega)
   generalize nj w m f k=t at*
   have h8:k=0∨k=1∨k=2∨k=3∨k=4∨k=5∨k=6∨k=7:=by omega
   rcases h8 with rfl|rfl|rfl|rfl|rfl|rfl|rfl|rfl
   ·exact Runs.goes hE ⟨[],_,Rl w m t f,⟨rfl,rfl,hw1,trivial⟩,hw2⟩
   ·exact Runs.goes hE ⟨[],_,Qc w m t f,⟨rfl,rfl,hw1,trivial⟩,hw2⟩
   ·exact Runs.goes hE ⟨[],_,Vy w m t f,⟨rfl,rfl,hw1,trivial⟩,hw2⟩
   ·exact Runs.goes hE ⟨[],_,To w m t f,⟨rfl,rfl,hw1,trivial⟩,hw2⟩
   ·exact Runs.goes hE ⟨[],_,Ut w m t f,⟨rfl,rfl,hw1,trivial⟩,hw2⟩
   ·exact Runs.goes hE ⟨[],_,Qf w m t f,⟨rfl,rfl,hw1,trivial⟩,hw2⟩
   ·exact Runs.goes hE ⟨[],_,Rn w m t f,⟨rfl,rfl,hw1,trivial⟩,hw2⟩
   ·exact Runs.goes hE ⟨[],_,UX w m t f,⟨rfl,rfl,hw1,trivial⟩,hw2⟩
  exact this
 ·exact Runs.goes sC ⟨[],_,UP w m _ f,trivial,vt _ _ _ _ _⟩
theorem acd {u w b d:Nat→Nat} {x c i:Nat} (n:Nat) (h1:∀j,j<i→u j=w j) (h2:∀k,k<n→u (k+i)=d k)
  (hs:aW n 0 d+4294967296^n*c=x*aW n 0 b+aW n i w):aW (i+n) 0 u+4294967296^(i+n)*c=aW (i+n) 0 w+4294967296^i*(x*aW n 0 b):=by
 have e1:aW i 0 u=aW i 0 w:=cv i 0 (fun j _ hj=>h1 j (by omega))
 have e2:aW n i u=aW n 0 d:=by
  have:=f7 u i n 0
  rw[Nat.zero_add] at this
  rw[←this]
  exact cv n 0 (fun k _ hk=>h2 k (by omega))
 rw[dG u i n 0,dG w i n 0,Nat.zero_add,e1,e2,Nat.pow_add,Nat.mul_assoc,Nat.add_assoc,←Nat.mul_add,hs,Nat.mul_add]
 omega
theorem FY {t m:Nat→Nat} {f i:Nat} (ht:∀k,t k<4294967296) (hm:∀k,m k<4294967296) (c k:Nat) (hc:c<4294967296):lR t m f i c k=c+(t i*f%4294967296)*m k+t (i+k):=by
 have hq:t i*f%4294967296<4294967296:=Nat.mod_lt _ (by decide)
 have h:=(Ox hq (hm k) (ht (i+k)) hc).2.1
 rw[←h]
 unfold lR T80
 rfl
theorem ab' {t m:Nat→Nat} {f i:Nat} (ht:∀k,t k<4294967296) (hm:∀k,m k<4294967296) (k:Nat):dF (lR t m f i) k<4294967296:=
 qF (x:=t i*f%4294967296) (Nat.mod_lt _ (by decide)) hm ht (fun c k hc=>FY ht hm c k hc) k
theorem acP {t m:Nat→Nat} {f i:Nat} (ht:∀k,t k<4294967296) (j:Nat):mn t m f i j<4294967296:=by
 unfold mn
 split
 ·exact ht j
 ·split
  ·exact Nat.mod_lt _ (by decide)
  ·exact ht j
theorem acS {t m:Nat→Nat} {f i:Nat} (ht:∀k,t k<4294967296) (hm:∀k,m k<4294967296) (hi:i≤8):
  aW 17 0 (mn t m f i)+4294967296^(i+8)*dF (lR t m f i) 8=aW 17 0 t+4294967296^i*((t i*f%4294967296)*aW 8 0 m):=by
 have hr:=acd (u:=mn t m f i) (w:=t) (b:=m) (d:=fun k=>lR t m f i (dF (lR t m f i) k) k%4294967296) (c:=dF (lR t m f i) 8) (i:=i) 8
  (fun j hj=>by unfold mn;rw[j9 hj])
  (fun k hk=>by
   unfold mn
   rw[kh (show ¬k+i<i by omega),j9 (show k+i<i+8 by omega),Nat.add_sub_cancel])
  (xa (Nat.mod_lt _ (by decide)) hm ht (fun c k hc=>FY ht hm c k hc) 8)
 have s1:=dG (mn t m f i) (i+8) (9-i) 0
 have s2:=dG t (i+8) (9-i) 0
 rw[show i+8+(9-i)=17 by omega,Nat.zero_add] at s1 s2
 have s3:aW (9-i) (i+8) (mn t m f i)=aW (9-i) (i+8) t:=cv _ _ (fun j hj _=>by
  unfold mn
  rw[kh (show ¬j<i by omega),kh (show ¬j<i+8 by omega)])
 rw[s3] at s1
 omega
theorem Cm (t:Nat→Nat) (v:Nat):∀N k,k<N→aW N 0 (iW t k v)+4294967296^k*t k=aW N 0 t+4294967296^k*v
 |0,k,h=>by omega
 |N+1,k,h=>by
  rw[dQ,dQ,Nat.zero_add]
  by_cases hk:k=N
  ·subst hk
   have e1:aW k 0 (iW t k v)=aW k 0 t:=cv k 0 (fun j _ hj=>by
    unfold iW
    rw[show Nat.beq j k=false from by rw[Bool.eq_false_iff];intro h';have:=Nat.eq_of_beq_eq_true h';omega])
   have e2:iW t k v k=v:=by unfold iW;rw[Nat.beq_refl]
   rw[e1,e2];omega
  ·have ih:=Cm t v N k (by omega)
   have e2:iW t k v N=t N:=by
    unfold iW
    rw[show Nat.beq N k=false from by rw[Bool.eq_false_iff];intro h';have:=Nat.eq_of_beq_eq_true h';omega]
   rw[e2];omega
theorem Ju (N:Nat):∀(n:Nat) (t:Nat→Nat) (c k:Nat),(∀j,t j<4294967296)→c<4294967296→k+n=N→aW N 0 t+4294967296^k*c<4294967296^N→
  aW N 0 (nn t c k n)=aW N 0 t+4294967296^k*c∧(∀j,nn t c k n j<4294967296)∧∀j,j<k→nn t c k n j=t j:=by
 intro n
 induction n with
 |zero=>
  intro t c k ht _ hk hb
  obtain rfl:k=N:=by omega
  have hc0:c=0:=by
   rcases c with _|c
   ·rfl
   ·rw[Nat.mul_succ] at hb;omega
  rw[hc0,Nat.mul_zero,Nat.add_zero]
  exact ⟨rfl,ht,fun _ _=>rfl⟩
 |succ n ih=>
  intro t c k ht hc hk hb
  by_cases h0:0<c
  ·have e:nn t c k (n+1)=nn (iW t k (lP t c k%4294967296)) (lP t c k/4294967296) (k+1) n:=by
    rw[nn,decide_eq_true h0]
   have htk:=ht k
   have hE:lP t c k=c+t k:=by unfold lP;omega
   rw[e,hE]
   have hu:=Cm t ((c+t k)%4294967296) N k (by omega)
   have hpk:4294967296^k*((c+t k)%4294967296)+4294967296^(k+1)*((c+t k)/4294967296)=4294967296^k*c+4294967296^k*t k:=by
    rw[Nat.pow_succ,Nat.mul_assoc,←Nat.mul_add,Nat.mod_add_div,Nat.mul_add]
   have hv:aW N 0 (iW t k ((c+t k)%4294967296))+4294967296^(k+1)*((c+t k)/4294967296)=aW N 0 t+4294967296^k*c:=by omega
   have hd:∀j,iW t k ((c+t k)%4294967296) j<4294967296:=fun j=>by
    unfold iW
    split
    ·exact Nat.mod_lt _ (by decide)
    ·exact ht j
   obtain ⟨h1,h2,h3⟩:=ih (iW t k ((c+t k)%4294967296)) ((c+t k)/4294967296) (k+1) hd (by omega) (by omega) (by rw[hv];exact hb)
   refine ⟨by rw[h1,hv],h2,fun j hj=> ?_⟩
   rw[h3 j (by omega)]
   unfold iW
   rw[show Nat.beq j k=false from by rw[Bool.eq_false_iff];intro h';have:=Nat.eq_of_beq_eq_true h';omega]
  ·have e:nn t c k (n+1)=t:=by
    rw[nn,decide_eq_false h0]
   have hc0:c=0:=by omega
   rw[e,hc0,Nat.mul_zero,Nat.add_zero]
   exact ⟨rfl,ht,fun _ _=>rfl⟩
theorem DV {V m f:Nat} (hV:V<4294967296^16) (hm:m<4294967296^8) (hf:bc m f):∀i,i≤8→
  (∀k,nj (ak V) (ak m) f i k<4294967296)∧(∀j,j<i→nj (ak V) (ak m) f i j=0)∧∃Q,Q<4294967296^i∧aW 17 0 (nj (ak V) (ak m) f i)=V+Q*m
 |0,_=>by
  refine ⟨fun k=> ?_,fun j hj=>by omega,0,by simp,?_⟩
  ·show Lp (ak V) k<4294967296
   unfold Lp;split
   ·exact ba _ _
   ·decide
  ·show aW 17 0 (Lp (ak V))=V+0*m
   rw[dQ,show Lp (ak V) (0+16)=0 from rfl,Nat.mul_zero,Nat.add_zero,cv (v:=ak V) 16 0 (fun i _ hi=>by unfold Lp;rw[j9 (by omega)]),ce V 16 hV]
   omega
 |i+1,hi=>by
  obtain ⟨h1,h2,Q,h3,h4⟩:=DV hV hm hf i (by omega)
  rw[show nj (ak V) (ak m) f (i+1)=IA (nj (ak V) (ak m) f i) (ak m) f i from rfl]
  generalize nj (ak V) (ak m) f i=t at*
  have hr:=acS (f:=f) (i:=i) h1 (ba m) (by omega)
  rw[ce m 8 hm,h4] at hr
  have hq:t i*f%4294967296<4294967296:=Nat.mod_lt _ (by decide)
  have h6:4294967296^i*(t i*f%4294967296+1)≤4294967296^i*4294967296:=Nat.mul_le_mul_left _ hq
  rw[Nat.mul_succ] at h6
  have hQ:Q+4294967296^i*(t i*f%4294967296)<4294967296^(i+1):=by rw[Nat.pow_succ];omega
  have htot:V+Q*m+4294967296^i*(t i*f%4294967296*m)=V+(Q+4294967296^i*(t i*f%4294967296))*m:=by rw[Nat.add_mul,Nat.mul_assoc];omega
  rw[htot] at hr
  have hle:4294967296^(i+1)≤4294967296^8:=Nat.pow_le_pow_right (by decide) hi
  have hQm:(Q+4294967296^i*(t i*f%4294967296))*m≤4294967296^8*4294967296^8:=Nat.mul_le_mul (by omega) (by omega)
  obtain ⟨p1,p2,p3⟩:=Ju 17 (9-i) (mn t (ak m) f i) (dF (lR t (ak m) f i) 8) (i+8) (acP h1) (ab' h1 (ba m) 8) (by omega) (by rw[hr];omega)
  refine ⟨p2,?_,Q+4294967296^i*(t i*f%4294967296),hQ,?_⟩
  ·intro j hj
   unfold IA
   rw[p3 j (by omega)]
   unfold mn
   by_cases hji:j=i
   ·subst hji
    rw[kh (show ¬j<j by omega),j9 (show j<j+8 by omega),Nat.sub_self]
    simp only
    rw[FY h1 (ba m) _ _ (by simp[dF])]
    simp only[dF,Nat.zero_add,Nat.add_zero]
    have h7:(t j*f%4294967296*ak m 0+t j)%4294967296=(t j*(ak m 0*f+1))%4294967296:=by
     rw[Nat.add_mod,Nat.mod_mul_mod,←Nat.add_mod,Nat.mul_add,Nat.mul_one,Nat.mul_assoc,Nat.mul_comm f (ak m 0)]
    rw[h7,Nat.mul_mod,show (ak m 0*f+1)%4294967296=0 from hf,Nat.mul_zero,Nat.zero_mod]
   ·rw[j9 (show j<i by omega)]
    exact h2 j (by omega)
  ·show aW 17 0 (nn _ _ _ _)=_
   rw[p1,hr]
def vO (t:Nat→Nat) (i:Nat):Nat:=t (i+8)
noncomputable def Tn (w m:Nat→Nat) (f:Nat):Env:={E80 with lp:=fun j=>match Nat.beq j 7 with
  |true=>some (ah Tryz.prog 160 7,fo (dz f ((0:Nat):Int)) (dR w m (Lp w)) (dz f ((8:Nat):Int)) (dR w m (nj w m f 8)) (.exit 2))
  |false=>none}
theorem zx (w m:Nat→Nat) (f:Nat):EnvOK (Tn w m f):=kj sC (bz (by simp only[dR,List.length_cons]) (adK w m f))
def obT (w m:Nat→Nat) (f:Nat):List Prop:=[ah Tryz.prog 160 7=ah Tryz.prog 160 7,(dz f ((0:Nat):Int),dR w m (Lp w))=(dz f ((0:Nat):Int),dR w m (Lp w)),dl (dz f ((0:Nat):Int)) (dR w m (Lp w))=true]
def VS (w m:Nat→Nat) (f:Nat):Nat:=aW 8 0 (vO (nj w m f 8))
theorem abR (w m:Nat→Nat) (f:Nat):al (Tn w m f) 1000 160 [m5 w,C8 m,u32 f] [true]=some (obT w m f++((decide (nj w m f 8 16=1)=true)::(AA (vO (nj w m f 8))++AA m)),.val (N8 (bh (VS w m f) (E' m)))):=by kernel_rfl
theorem Z5 (w m:Nat→Nat) (f:Nat):al (Tn w m f) 1000 160 [m5 w,C8 m,u32 f] [false,false]=some (obT w m f++((decide (nj w m f 8 16=1)=false)::(decide (VS w m f<E' m)=false)::(AA (vO (nj w m f 8))++(AA m++(AA (vO (nj w m f 8))++AA m)))),.val (N8 (bh (VS w m f) (E' m)))):=by kernel_rfl
theorem abQ (w m:Nat→Nat) (f:Nat):al (Tn w m f) 1000 160 [m5 w,C8 m,u32 f] [false,true]=some (obT w m f++((decide (nj w m f 8 16=1)=false)::(decide (VS w m f<E' m)=true)::(AA (vO (nj w m f 8))++AA m)),.val (C8 (vO (nj w m f 8)))):=by kernel_rfl
theorem Yp (V m f:Nat) (hV:V<4294967296^16) (hR:m<4294967296^8) (hm:0<m) (hf:bc m f) (hVm:V<m*4294967296^8):Spec 160 [mO V,N8 m,u32 f] (.val (N8 (fj V m))):=by
 obtain ⟨h1,h2,Q,h3,h4⟩:=DV hV hR hf 8 (Nat.le_refl _)
 have hM:E' (ak m)=m:=ce m 8 hR
 have hH:VS (ak V) (ak m) f<4294967296^8:=ip _ 8 0 (fun i _ _=>h1 _)
 have hob:cL (obT (ak V) (ak m) f):=⟨rfl,rfl,vt _ _ _ _ _,trivial⟩
 have hl1:cL (AA (vO (nj (ak V) (ak m) f 8))):=AQ (fun k=>h1 _)
 have hl2:=AQ (ba m)
 have hQm:Q*m≤4294967296^8*m:=Nat.mul_le_mul_right _ (Nat.le_of_lt h3)
 have h5:4294967296^8*(VS (ak V) (ak m) f+4294967296^8*nj (ak V) (ak m) f 8 16)=V+Q*m:=by
  rw[←h4]
  have s:=dG (nj (ak V) (ak m) f 8) 8 9 0
  rw[show 8+9=17 from rfl,Nat.zero_add,cv (v:=fun _=>0) 8 0 (fun j _ hj=>h2 j (by omega)),oo,Nat.zero_add] at s
  rw[s,dQ,show 8+8=16 from rfl]
  have hh:=f7 (nj (ak V) (ak m) f 8) 8 8 0
  rw[Nat.zero_add] at hh
  rw[←hh]
  rfl
 rw[Nat.mul_comm m] at hVm
 have ht:VS (ak V) (ak m) f+4294967296^8*nj (ak V) (ak m) f 8 16<2*m:=by omega
 have ho:nj (ak V) (ak m) f 8 16≤1:=by omega
 have hcg:Cg m (4294967296^8*(VS (ak V) (ak m) f+4294967296^8*nj (ak V) (ak m) f 8 16)) V:=by
  unfold Cg;rw[h5,Nat.add_mul_mod_self_right]
 have conv:∀r,Spec 160 [m5 (ak V),C8 (ak m),u32 f] (.val (N8 r))→r=fj V m→Spec 160 [mO V,N8 m,u32 f] (.val (N8 (fj V m))):=by
  intro r hr e
  rw[←e]
  exact hr.congr (fun φ=>by simp only[List.map_cons,List.map_nil,c8,qN]) (fun _=>rfl)
 have sub:∀t,t<2*m→m≤t→Cg m (4294967296^8*t) V→t-m=fj V m:=by
  intro t ht hmt hc
  refine ua hR hf (by omega) (Cg.trans ?_ hc)
  unfold Cg
  rw[show t=(t-m)+m by omega,Nat.mul_add,Nat.add_sub_cancel,Nat.add_mul_mod_self_right]
 by_cases hk:nj (ak V) (ak m) f 8 16=1
 ·refine conv _ (af (zx _ _ _) rfl (abR _ _ _) ?_ rfl rfl) ?_
  ·simp only[aY,cL]
   exact ⟨hob,decide_eq_true hk,hl1,hl2⟩
  ·rw[←sub _ ht (by rw[hk];omega) hcg,hM,hk]
   unfold bh
   omega
 ·have hk0:nj (ak V) (ak m) f 8 16=0:=by omega
  rw[hk0,Nat.mul_zero,Nat.add_zero] at ht hcg
  by_cases hc:VS (ak V) (ak m) f<m
  ·have hs:=af (zx _ _ _) rfl (abQ (ak V) (ak m) f) (by
    simp only[aY,cL]
    exact ⟨hob,decide_eq_false hk,decide_eq_true (by rw[hM];exact hc),hl1,hl2⟩) rfl rfl
   refine conv _ (hs.congr (fun _=>rfl) (fun φ=> ?_)) (ua hR hf hc hcg)
   exact ew φ (fun i _=>h1 _) rfl
  ·refine conv _ (af (zx _ _ _) rfl (Z5 _ _ _) ?_ rfl rfl) ?_
   ·simp only[aY,cL]
    exact ⟨hob,decide_eq_false hk,decide_eq_false (by rw[hM];exact hc),hl1,hl2,hl1,hl2⟩
   ·rw[←sub _ ht (by omega) hcg,hM]
    unfold bh
    omega
noncomputable def abw (vs:List V1):Option (List Prop×AV):=
 match vs with
 |[x,y,.one (.u .u32 f)]=>match el 16 x,el 8 y with
  |some (o,V),some (o',m)=>some ((0<m)::bc m f::(V<m*4294967296^8)::(o++o'),.val (N8 (fj V m)))
  |_,_=>none
 |_=>none
theorem V3 {vs:List V1} {ob:List Prop} {r:AV} (h:abw vs=some (ob,r)) (ho:cL ob):Spec 160 vs r:=by
 unfold abw at h
 split at h
 ·rename_i x y f
  split at h
  ·rename_i o V o' m hx hy
   obtain ⟨rfl,rfl⟩:=sI h
   obtain ⟨g1,g2,g3,g4⟩:=ho
   rw[aY] at g4
   obtain ⟨h1,h2⟩:=aX hx g4.1
   obtain ⟨h3,h4⟩:=aX hy g4.2
   exact (Yp V m f h1 h3 g1 g2 g3).congr (fun φ=>by simp only[List.map_cons,List.map_nil];rw[←h2 φ,←h4 φ];rfl) (fun _=>rfl)
  ·simp at h
 ·simp at h
def ac5 (low:Nat):Nat→Nat
 |0=>1
 |k+1=>ac5 low k*((2+(4294967296-low*ac5 low k%4294967296%4294967296))%4294967296)%4294967296
def aA (low:Nat):Nat:=(4294967296-ac5 low 5%4294967296)%4294967296
theorem afR (m:Nat→Nat):al E0 1000 158 [C8 m] []=some ([],.val (u32 (aA (m 0)))):=by kernel_rfl
theorem FB (m:Nat):Spec 158 [N8 m] (.val (u32 (aA (ak m 0)))):=
 (af envE0 rfl (afR (ak m)) trivial rfl rfl).congr (fun φ=>by simp only[List.map_cons,List.map_nil,c8]) (fun _=>rfl)
theorem JT {k:Nat} (hk:k<4):bc (ab k) (aA (ak (ab k) 0)):=by
 match k,hk with
 |0,_=>unfold bc;decide+kernel
 |1,_=>unfold bc;decide+kernel
 |2,_=>unfold bc;decide+kernel
 |3,_=>unfold bc;decide+kernel
 |n+4,h=>exact absurd h (by omega)
def smU (n i:Nat):Nat:=match Nat.beq i 0 with|true=>n|false=>0
theorem aeY (n:Nat):al E0 1000 104 [u32 n] []=some ([],.val (C8 (smU n))):=by kernel_rfl
theorem Yu (n:Nat) (hn:n<4294967296):Spec 104 [u32 n] (.val (N8 n)):=
 (af envE0 rfl (aeY n) trivial rfl rfl).congr (fun _=>rfl) (fun φ=>ew φ (fun i _=>by
  unfold smU;split
  ·exact hn
  ·decide) (by simp[aW,smU]))
def Bu (vs:List V1):Option (List Prop×AV):=
 match vs with
 |[.one (.u .u32 n)]=>some ([n<4294967296],.val (N8 n))
 |_=>none
theorem Bi {vs:List V1} {ob:List Prop} {r:AV} (h:Bu vs=some (ob,r)) (ho:cL ob):Spec 104 vs r:=by
 unfold Bu at h
 split at h
 ·obtain ⟨rfl,rfl⟩:=sI h
  exact Yu _ ho.1
 ·simp at h
def d2 (m:Nat):Nat→Nat
 |0=>1
 |j+1=>2*d2 m j%m
theorem WA (m:Nat):∀j,Cg m (d2 m j) (2^j)
 |0=>Cg.refl _ _
 |j+1=>by
  have ih:=WA m j
  rw[Nat.pow_succ,Nat.mul_comm]
  exact (Cg.mod m _).trans ((Cg.refl m 2).mul ih)
theorem Xp {m:Nat} (hm:1<m):∀j,d2 m j<m
 |0=>hm
 |j+1=>Nat.mod_lt _ (by omega)
def aO (m:Nat):Nat:=d2 m 512
theorem agj (m:Nat):Cg m (aO m) (4294967296^8*4294967296^8):=by
 have h:=WA m (32*16)
 rw[jb 16,show (4294967296:Nat)^16=4294967296^8*4294967296^8 from Nat.pow_add 4294967296 8 8] at h
 exact h
noncomputable def E66:Env:={E0 with
 fn:=fun f vs=>match f with
  |101=>mT AX vs
  |102=>mT yL vs
  |103=>mT qQ vs
  |158=>xA (fun m=> .val (u32 (aA (ak m 0)))) vs
  |104=>Bu vs
  |_=>none
 S:=fun f t=>match f with
  |97=>bf t [9,11,19,23]
  |_=>false}
theorem wD:EnvOK E66:=by
 refine ⟨mixed,?_,fun _ _ _ _ _ h=>by simp[E66,E0] at h,fun _ _ _ h=>by simp[E66,E0] at h,fun _ _ _ _ _ _ h=>by simp[E66,E0] at h⟩
 intro f vs ob r h ho
 simp only[E66] at h
 split at h
 ·exact de Gs h ho
 ·exact de vr h ho
 ·exact de wn h ho
 ·exact ej (fun a _=>FB a) h ho
 ·exact Bi h ho
 ·simp at h
def alt:Blk:=⟨bp 17 0 zF,81,true,false,0⟩
def TN (j:Int):List AV:=bt 38 [(1,pV 0),(2,pV 1),(3,pV 2),(4,iV j)]
theorem tTN (j:Int):cw 3 (TN j)=true:=by kernel_rfl
def MN (m:Nat) (B:Blk):List Blk:=[b8 m,alt,B]
theorem LJ (m:Nat) {B:Blk} (hB:er B) (j:Int):dl (TN j) (MN m B)=true:=cc (by
 intro b hb
 simp only[MN,List.mem_cons,List.not_mem_nil,or_false] at hb
 rcases hb with rfl|rfl|rfl
 ·exact eN _
 ·exact fun f=>gY _ f 17 0
 ·exact hB) (tTN j)
theorem ZU (m x j:Nat):aH E66 1000 (E66.S 97) (ah Tryz.prog 97 3) (TN (j:Int)) (MN m (b8 x)) [true,true] (TN ((j+1:Nat):Int)) 3=
  some ([decide ((j:Int)<512)=true,x<4294967296^8,x<4294967296^8,decide (lb x x=1)=true,aD x x<4294967296^8,m<4294967296^8,br ((j:Int)+1)],.normal,TN ((j+1:Nat):Int),MN m (b8 (bh (aD x x) m))):=by kernel_rfl
theorem aav (m x j:Nat):aH E66 1000 (E66.S 97) (ah Tryz.prog 97 3) (TN (j:Int)) (MN m (b8 x)) [true,false,false] (TN ((j+1:Nat):Int)) 3=
  some ([decide ((j:Int)<512)=true,x<4294967296^8,x<4294967296^8,decide (lb x x=1)=false,decide (aD x x<m)=false,aD x x<4294967296^8,m<4294967296^8,aD x x<4294967296^8,m<4294967296^8,br ((j:Int)+1)],.normal,TN ((j+1:Nat):Int),MN m (b8 (bh (aD x x) m))):=by kernel_rfl
theorem XU (m x j:Nat):aH E66 1000 (E66.S 97) (ah Tryz.prog 97 3) (TN (j:Int)) (MN m (b8 x)) [true,false,true] (TN ((j+1:Nat):Int)) 3=
  some ([decide ((j:Int)<512)=true,x<4294967296^8,x<4294967296^8,decide (lb x x=1)=false,decide (aD x x<m)=true,aD x x<4294967296^8,m<4294967296^8,br ((j:Int)+1)],.normal,TN ((j+1:Nat):Int),MN m (b8 (aD x x))):=by kernel_rfl
theorem Y5 (m x:Nat):aH E66 1000 (E66.S 97) (ah Tryz.prog 97 3) (TN ((512:Nat):Int)) (MN m (b8 x)) [false] (TN ((512:Nat):Int)) 3=
  some ([decide (((512:Nat):Int)<512)=false],.exit 0,TN ((512:Nat):Int),MN m (b8 x)):=by kernel_rfl
theorem aaR {m j:Nat} (hR:m<4294967296^8) (hm:1<m) (hj:j<512):Goes Tryz.prog (ah Tryz.prog 97 3) .normal (TN (j:Int)) (MN m (b8 (d2 m j))) (TN ((j+1:Nat):Int)) (MN m (b8 (d2 m (j+1)))):=by
 have hx:=Xp hm j
 have e:d2 m (j+1)=2*d2 m j%m:=rfl
 rw[e]
 generalize d2 m j=x at*
 have o0:decide ((j:Int)<512)=true:=decide_eq_true (by omega)
 have o1:br ((j:Int)+1):=by unfold br;omega
 have hx2:x<4294967296^8:=by omega
 by_cases hK:lb x x=1
 ·have e:bh (aD x x) m=2*x%m:=by
   unfold lb at hK
   unfold bh aD
   rw[Nat.mod_eq_sub_mod (show 2*x≥m by omega),Nat.mod_eq_of_lt (show 2*x-m<m by omega)]
   omega
  have hr:=ZU m x j
  rw[e] at hr
  exact Runs.goes wD ⟨_,_,hr,⟨o0,hx2,hx2,decide_eq_true hK,be _ _,hR,o1,trivial⟩,LJ m (eN _) _⟩
 ·have hs:x+x<4294967296^8:=by unfold lb at hK;omega
  have ha2:aD x x=x+x:=Nat.mod_eq_of_lt hs
  by_cases hc:x+x<m
  ·have e:aD x x=2*x%m:=by rw[ha2,Nat.mod_eq_of_lt (show 2*x<m by omega)];omega
   have hr:=XU m x j
   have hc':decide (aD x x<m)=true:=by rw[ha2];exact decide_eq_true hc
   have hl:=be x x
   rw[←e]
   exact Runs.goes wD ⟨_,_,hr,⟨o0,hx2,hx2,decide_eq_false hK,hc',hl,hR,o1,trivial⟩,LJ m (eN _) _⟩
  ·have e:bh (aD x x) m=2*x%m:=by
    rw[ha2,Nat.mod_eq_sub_mod (show 2*x≥m by omega),Nat.mod_eq_of_lt (show 2*x-m<m by omega)]
    unfold bh;omega
   have hr:=aav m x j
   rw[e] at hr
   have hc':decide (aD x x<m)=false:=by rw[ha2];exact decide_eq_false hc
   exact Runs.goes wD ⟨_,_,hr,⟨o0,hx2,hx2,decide_eq_false hK,hc',be _ _,hR,be _ _,hR,o1,trivial⟩,LJ m (eN _) _⟩
theorem adm {m:Nat} (hR:m<4294967296^8) (hm:1<m):Goes Tryz.prog (.loop (ah Tryz.prog 97 3)) (.exit 0) (TN ((0:Nat):Int)) (MN m (b8 1)) (TN ((512:Nat):Int)) (MN m (b8 (aO m))):=by
 have:=bJ (P:=Tryz.prog) (y:=ah Tryz.prog 97 3) (ex:= .exit 0) (N:=512) (k:=3) (T:=fun j=>TN (j:Int)) (M:=fun j=>MN m (b8 (d2 m j))) (TF:=TN ((512:Nat):Int)) (MF:=MN m (b8 (d2 m 512))) (by simp) (fun _ _=>by simp only[MN,List.length_cons,List.length_nil])
  (fun j hj=>aaR hR hm hj) (Runs.goes wD ⟨[false],_,Y5 m _,⟨by decide,trivial⟩,LJ m (eN _) _⟩)
 exact this
noncomputable def aff (m:Nat):Env:={E66 with lp:=fun j=>match Nat.beq j 3 with
  |true=>some (ah Tryz.prog 97 3,fo (TN ((0:Nat):Int)) (MN m (b8 1)) (TN ((512:Nat):Int)) (MN m (b8 (aO m))) (.exit 0))
  |false=>none}
theorem UE {m:Nat} (hR:m<4294967296^8) (hm:1<m):EnvOK (aff m):=kj wD (bz (by simp only[MN,List.length_cons]) (adm hR hm))
def rg (m q r:Nat):V1:= .agg [.num 8 m,.a (.u .u32 q),.num 8 r]
theorem ahr (m:Nat):al (aff m) 1000 97 [N8 m] []=some ([1<4294967296,ah Tryz.prog 97 3=ah Tryz.prog 97 3,(TN ((0:Nat):Int),MN m (b8 1))=(TN ((0:Nat):Int),MN m (b8 1)),dl (TN ((0:Nat):Int)) (MN m (b8 1))=true,m<4294967296^8],.val (rg m (aA (ak m 0)) (aO m))):=by kernel_rfl
theorem ZA (m:Nat) (hR:m<4294967296^8) (hm:1<m):Spec 97 [N8 m] (.val (rg m (aA (ak m 0)) (aO m))):=
 af (UE hR hm) rfl (ahr m) ⟨by decide,rfl,rfl,LJ m (eN _) _,hR,trivial⟩ rfl rfl
def bg (m q r:Nat):Prop:=m<4294967296^8∧bc m q∧r<m∧Cg m r (4294967296^8*4294967296^8)
def Dl (f:FuncId) (g:Nat→Nat→Nat→Nat):Prop:=∀m q r a b,bg m q r→a<m→b<m→Spec f [rg m q r,N8 a,N8 b] (.val (N8 (g m a b)))
def OS (g:Nat→Nat→Nat→Nat) (vs:List V1):Option (List Prop×AV):=
 match vs with
 |[.agg [.num 8 m,.a (.u .u32 q),.num 8 r],x,y]=>match el 8 x,el 8 y with
  |some (o,a),some (o',b)=>some (bg m q r::(a<m)::(b<m)::(o++o'),.val (N8 (g m a b)))
  |_,_=>none
 |_=>none
theorem ma {f:FuncId} {g:Nat→Nat→Nat→Nat} (hg:Dl f g) {vs:List V1} {ob:List Prop} {r:AV} (h:OS g vs=some (ob,r)) (ho:cL ob):Spec f vs r:=by
 unfold OS at h
 split at h
 ·rename_i m q r x y
  split at h
  ·rename_i o a o' b hx hy
   obtain ⟨rfl,rfl⟩:=sI h
   obtain ⟨h0,h1,h2,h3⟩:=ho
   rw[aY] at h3
   obtain ⟨_,h4⟩:=aX hx h3.1
   obtain ⟨_,h5⟩:=aX hy h3.2
   exact (hg m q r a b h0 h1 h2).congr (fun φ=>by simp only[List.map_cons,List.map_nil];rw[←h4 φ,←h5 φ];rfl) (fun _=>rfl)
  ·simp at h
 ·simp at h
def FS (f:FuncId) (g:Nat→Nat→Nat):Prop:=∀m q r a,bg m q r→a<m→Spec f [rg m q r,N8 a] (.val (N8 (g m a)))
def KV (g:Nat→Nat→Nat) (vs:List V1):Option (List Prop×AV):=
 match vs with
 |[.agg [.num 8 m,.a (.u .u32 q),.num 8 r],x]=>match el 8 x with
  |some (o,a)=>some (bg m q r::(a<m)::o,.val (N8 (g m a)))
  |_=>none
 |_=>none
theorem Al {f:FuncId} {g:Nat→Nat→Nat} (hg:FS f g) {vs:List V1} {ob:List Prop} {r:AV} (h:KV g vs=some (ob,r)) (ho:cL ob):Spec f vs r:=by
 unfold KV at h
 split at h
 ·rename_i m q r x
  split at h
  ·rename_i o a hx
   obtain ⟨rfl,rfl⟩:=sI h
   obtain ⟨h0,h1,h3⟩:=ho
   obtain ⟨_,h4⟩:=aX hx h3
   exact (hg m q r a h0 h1).congr (fun φ=>by simp only[List.map_cons,List.map_nil];rw[←h4 φ];rfl) (fun _=>rfl)
  ·simp at h
 ·simp at h
noncomputable def KC:Env:={E0 with
 fn:=fun f vs=>match f with
  |161=>mT Hu vs
  |160=>abw vs
  |99=>mT (fun a b=> .val (mO (co a b))) vs
  |101=>mT AX vs
  |102=>mT yL vs
  |103=>mT qQ vs
  |_=>none
 S:=fun f t=>match f with
  |51=>bf t [16,21]
  |196=>bf t [16]
  |_=>false}
theorem p9:EnvOK KC:=by
 refine ⟨mixed,?_,fun _ _ _ _ _ h=>by simp[KC,E0] at h,fun _ _ _ h=>by simp[KC,E0] at h,fun _ _ _ _ _ _ h=>by simp[KC,E0] at h⟩
 intro f vs ob r h ho
 simp only[KC] at h
 split at h
 ·exact de (fun a b ha hb=>adr a b ha hb) h ho
 ·exact V3 h ho
 ·exact de Ft h ho
 ·exact de Gs h ho
 ·exact de vr h ho
 ·exact de wn h ho
 ·simp at h
theorem afN (m q r a b:Nat):al KC 1000 100 [rg m q r,N8 a,N8 b] []=some ([a<4294967296^8,b<4294967296^8,0<m,bc m q,oM a b<m*4294967296^8,oM a b<4294967296^16,m<4294967296^8],.val (N8 (ap m a b))):=by kernel_rfl
theorem Gg:Dl 100 ap:=by
 intro m q r a b ⟨hm,hq,_,_⟩ ha hb
 have h1:oM a b<m*4294967296^8:=by
  unfold oM
  have h2:a*b≤a*4294967296^8:=Nat.mul_le_mul_left _ (by omega)
  have h3:a*4294967296^8<m*4294967296^8:=Nat.mul_lt_mul_of_pos_right ha (by decide)
  omega
 exact af p9 rfl (afN m q r a b) ⟨by omega,by omega,by omega,hq,h1,fG (by omega) (by omega),hm,trivial⟩ rfl rfl
theorem ah1 (m q r a:Nat):al KC 1000 149 [rg m q r,N8 a] []=some ([a<4294967296^8,0<4294967296,0<4294967296,0<4294967296,0<4294967296,0<4294967296,0<4294967296,0<4294967296,0<4294967296,0<m,bc m q,co a 0<m*4294967296^8,co a 0<4294967296^16,m<4294967296^8],.val (N8 (ci m a))):=by kernel_rfl
theorem aaE:FS 149 ci:=by
 intro m q r a ⟨hm,hq,_,_⟩ ha
 have h0:(0:Nat)<4294967296:=by decide
 have h1:co a 0<m*4294967296^8:=by unfold co;omega
 exact af p9 rfl (ah1 m q r a) ⟨by omega,h0,h0,h0,h0,h0,h0,h0,h0,by omega,hq,h1,by unfold co;omega,hm,trivial⟩ rfl rfl
theorem Zk (m q r a b:Nat):al KC 1000 51 [rg m q r,N8 a,N8 b] [true]=some ([a<4294967296^8,b<4294967296^8,decide (lb a b=1)=true,aD a b<4294967296^8,m<4294967296^8],.val (N8 (bh (aD a b) m))):=by kernel_rfl
theorem adZ (m q r a b:Nat):al KC 1000 51 [rg m q r,N8 a,N8 b] [false,false]=some ([a<4294967296^8,b<4294967296^8,decide (lb a b=1)=false,decide (aD a b<m)=false,aD a b<4294967296^8,m<4294967296^8,aD a b<4294967296^8,m<4294967296^8],.val (N8 (bh (aD a b) m))):=by kernel_rfl
theorem YB (m q r a b:Nat):al KC 1000 51 [rg m q r,N8 a,N8 b] [false,true]=some ([a<4294967296^8,b<4294967296^8,decide (lb a b=1)=false,decide (aD a b<m)=true,aD a b<4294967296^8,m<4294967296^8],.val (N8 (aD a b))):=by kernel_rfl
theorem Yv (m q r a b:Nat):al KC 1000 196 [rg m q r,N8 a,N8 b] [true]=some ([a<4294967296^8,b<4294967296^8,decide (gw a b=1)=true,bh a b<4294967296^8,m<4294967296^8],.val (N8 (aD (bh a b) m))):=by kernel_rfl
theorem aas (m q r a b:Nat):al KC 1000 196 [rg m q r,N8 a,N8 b] [false]=some ([a<4294967296^8,b<4294967296^8,decide (gw a b=1)=false],.val (N8 (bh a b))):=by kernel_rfl
theorem Pk:Dl 51 addM:=by
 intro m q r a b ⟨hm,_,_,_⟩ ha hb
 have h1:a<4294967296^8:=by omega
 have h2:b<4294967296^8:=by omega
 by_cases hK:lb a b=1
 ·have e:bh (aD a b) m=addM m a b:=by
   unfold lb at hK
   unfold bh aD addM
   rw[Nat.mod_eq_sub_mod (show a+b≥m by omega),Nat.mod_eq_of_lt (show a+b-m<m by omega)]
   omega
  have:=af p9 rfl (Zk m q r a b) ⟨h1,h2,decide_eq_true hK,be _ _,hm,trivial⟩ rfl rfl
  rwa[e] at this
 ·have hs:a+b<4294967296^8:=by unfold lb at hK;omega
  have ha2:aD a b=a+b:=Nat.mod_eq_of_lt hs
  by_cases hc:a+b<m
  ·have e:aD a b=addM m a b:=by unfold addM;rw[ha2,Nat.mod_eq_of_lt hc]
   have:=af p9 rfl (YB m q r a b) ⟨h1,h2,decide_eq_false hK,by rw[ha2];exact decide_eq_true hc,be _ _,hm,trivial⟩ rfl rfl
   rwa[e] at this
  ·have e:bh (aD a b) m=addM m a b:=by
    unfold addM
    rw[ha2,Nat.mod_eq_sub_mod (show a+b≥m by omega),Nat.mod_eq_of_lt (show a+b-m<m by omega)]
    unfold bh;omega
   have:=af p9 rfl (adZ m q r a b) ⟨h1,h2,decide_eq_false hK,by rw[ha2];exact decide_eq_false hc,be _ _,hm,be _ _,hm,trivial⟩ rfl rfl
   rwa[e] at this
theorem Zd:Dl 196 aw:=by
 intro m q r a b ⟨hm,_,_,_⟩ ha hb
 have h1:a<4294967296^8:=by omega
 have h2:b<4294967296^8:=by omega
 by_cases hc:a<b
 ·have e:aD (bh a b) m=aw m a b:=by
   unfold aD bh aw
   rw[Nat.mod_eq_of_lt (show a+m-b<m by omega)];omega
  have hk:gw a b=1:=by unfold gw;rw[if_pos hc]
  have:=af p9 rfl (Yv m q r a b) ⟨h1,h2,decide_eq_true hk,cJ _ _,hm,trivial⟩ rfl rfl
  rwa[e] at this
 ·have e:bh a b=aw m a b:=by
   unfold bh aw
   rw[Nat.mod_eq_sub_mod (show a+m-b≥m by omega),Nat.mod_eq_of_lt (show a+m-b-m<m by omega)];omega
  have hk:¬gw a b=1:=by unfold gw;rw[if_neg hc];omega
  have:=af p9 rfl (aas m q r a b) ⟨h1,h2,decide_eq_false hk,trivial⟩ rfl rfl
  rwa[e] at this
noncomputable def EG2:Env:={E0 with
 fn:=fun f vs=>match f with
  |100=>OS ap vs
  |_=>none}
theorem Lb:EnvOK EG2:=by
 refine ⟨mixed,?_,fun _ _ _ _ _ h=>by simp[EG2,E0] at h,fun _ _ _ h=>by simp[EG2,E0] at h,fun _ _ _ _ _ _ h=>by simp[EG2,E0] at h⟩
 intro f vs ob r h ho
 simp only[EG2] at h
 split at h
 ·exact ma Gg h ho
 ·simp at h
theorem afM (m q r a:Nat):al EG2 1000 154 [rg m q r,N8 a] []=some ([bg m q r,a<m,r<m,a<4294967296^8,r<4294967296^8],.val (N8 (ap m a r))):=by kernel_rfl
theorem aeJ (m q r a b:Nat):al EG2 1000 50 [rg m q r,N8 a,N8 b] []=some ([bg m q r,a<m,b<m,a<4294967296^8,b<4294967296^8,bg m q r,ap m a b<m,r<m,ap m a b<4294967296^8,r<4294967296^8],.val (N8 (ap m (ap m a b) r))):=by kernel_rfl
theorem WO {m q r a:Nat} (h:bg m q r):ap m a r=aq m a:=by
 obtain ⟨hR,hq,_,hr⟩:=h
 unfold ap fj oM aq dY co
 rw[Nat.zero_add]
 have h1:Cg m (a*r*gG m) (a*(4294967296^8*4294967296^8)*gG m):=((Cg.refl m a).mul hr).mul (Cg.refl _ _)
 have h2:a*(4294967296^8*4294967296^8)*gG m=4294967296^8*a*(4294967296^8*gG m):=by
  generalize (4294967296:Nat)^8=R
  ac_rfl
 have h3:Cg m (4294967296^8*a*(4294967296^8*gG m)) (4294967296^8*a*1):=(Cg.refl _ _).mul (jP hR hq)
 rw[Nat.mul_one] at h3
 exact h1.trans ((Cg.of_eq h2).trans h3)
theorem z0:FS 154 aq:=by
 intro m q r a h ha
 have hs:=af Lb rfl (afM m q r a) ⟨h,ha,h.2.2.1,by have:=h.1;omega,by have:=h.1;have:=h.2.2.1;omega,trivial⟩ rfl rfl
 rwa[WO h] at hs
theorem GZ:Dl 50 bK:=by
 intro m q r a b h ha hb
 have hR:=h.1
 have hr:=h.2.2.1
 have hmm:ap m a b<m:=Nat.mod_lt _ (by omega)
 have hs:=af Lb rfl (aeJ m q r a b) ⟨h,ha,hb,by omega,by omega,h,hmm,hr,by omega,by omega,trivial⟩ rfl rfl
 have e:ap m (ap m a b) r=bK m a b:=by
  rw[WO h]
  unfold aq dY co ap fj oM bK
  rw[Nat.zero_add]
  have h1:Cg m (4294967296^8*(a*b*gG m%m)) (4294967296^8*(a*b*gG m)):=(Cg.refl _ _).mul (Cg.mod m _)
  have h2:4294967296^8*(a*b*gG m)=a*b*(4294967296^8*gG m):=by
   generalize (4294967296:Nat)^8=R
   ac_rfl
  have h3:Cg m (a*b*(4294967296^8*gG m)) (a*b*1):=(Cg.refl _ _).mul (jP hR h.2.1)
  rw[Nat.mul_one] at h3
  exact h1.trans ((Cg.of_eq h2).trans h3)
 rwa[e] at hs
def BP (k:Nat):V1:=rg (ab k) (aA (ak (ab k) 0)) (aO (ab k))
theorem aC {k:Nat} (hk:k<4):bg (ab k) (aA (ak (ab k) 0)) (aO (ab k)):=
 ⟨aj k,JT hk,Xp (by have:=en k;omega) 512,agj _⟩
noncomputable def E41:Env:={E0 with
 fn:=fun f vs=>match f with
  |9=>Ln g21 vs
  |97=>(match vs with|[x]=>(match el 8 x with|some (o,m)=>some ((1<m)::o,.val (rg m (aA (ak m 0)) (aO m)))|_=>none)|_=>none)
  |_=>none}
theorem YU:EnvOK E41:=by
 refine ⟨mixed,?_,fun _ _ _ _ _ h=>by simp[E41,E0] at h,fun _ _ _ h=>by simp[E41,E0] at h,fun _ _ _ _ _ _ h=>by simp[E41,E0] at h⟩
 intro f vs ob r h ho
 simp only[E41] at h
 split at h
 ·exact lX wi h ho
 ·split at h
  ·rename_i x
   split at h
   ·rename_i o m hx
    obtain ⟨rfl,rfl⟩:=sI h
    obtain ⟨h1,h2⟩:=aX hx ho.2
    exact (ZA m h1 ho.1).congr (fun φ=>by simp only[List.map_cons,List.map_nil];rw[←h2 φ];rfl) (fun _=>rfl)
   ·simp at h
  ·simp at h
 ·simp at h
theorem ae0 (k:Nat):al E41 1000 48 [kV k] []=some ([0≤(k:Int)∧(k:Int)<4,1<ab k,ab k<4294967296^8],.val (BP k)):=by kernel_rfl
theorem GR (k:Nat) (hk:k<4):Spec 48 [.one (.i (k:Int))] (.val (BP k)):=
 af YU rfl (ae0 k) ⟨by omega,by have:=en k;omega,aj k,trivial⟩ rfl rfl
def iz (z:Int):Bool:=decide (0≤z)&&decide (z<4)
theorem Lx {z:Int} (h:iz z=true):0≤z∧z<4:=by simpa[iz] using h
theorem aaA {z:Int} (h:iz z=false):¬(0≤z∧z<4):=by
 intro h';simp[iz,h'.1,h'.2] at h
def mX (z:Int) (a:Nat):Bool:=decide (a<ab z.toNat)
def fT (z:Int) (a:Nat):Bool:=iz z&&mX z a
def zV (z:Int):V1:= .one (.i z)
noncomputable def Tl:Env:={E0 with
 S:=fun f t=>match f with
  |135=>bf t [6,9,12,15]
  |195=>bf t [6,10]
  |_=>false}
theorem zU:EnvOK Tl:=⟨mixed,fun _ _ _ _ h=>by simp[Tl,E0] at h,fun _ _ _ _ _ h=>by simp[Tl,E0] at h,fun _ _ _ h=>by simp[Tl,E0] at h,fun _ _ _ _ _ _ h=>by simp[Tl,E0] at h⟩
theorem adg (z:Int):al Tl 1000 135 [zV z] [false,false,false,false]=some ([decide (z=0)=false,decide (z=1)=false,decide (z=2)=false,decide (z=3)=false],.tup [C8 zF,.one (.v (.bool false))]):=by kernel_rfl
def aiW:AV:= .tup [N8 0,.one (.v (.bool false))]
theorem IT (φ:c7):(C8 zF).conc φ=(N8 0).conc φ:=by rw[←gU,c8]
theorem Qn (z:Int) (h:iz z=false):Spec 135 [zV z] aiW:=by
 have:=aaA h
 refine (af zU rfl (adg z) ⟨decide_eq_false (by omega),decide_eq_false (by omega),decide_eq_false (by omega),decide_eq_false (by omega),trivial⟩ rfl rfl).congr (fun _=>rfl) (fun φ=> ?_)
 simp only[aiW,AV.conc,List.map_cons,List.map_nil,IT]
theorem abe (z:Int):al Tl 1000 195 [zV z,zV 3] [true,true]=some ([decide (0≤z)=true,decide (z≤3)=true],bV true):=by kernel_rfl
theorem acp (z:Int):al Tl 1000 195 [zV z,zV 3] [false]=some ([decide (0≤z)=false],bV false):=by kernel_rfl
theorem ab1 (z:Int):al Tl 1000 195 [zV z,zV 3] [true,false]=some ([decide (0≤z)=true,decide (z≤3)=false],bV false):=by kernel_rfl
theorem aad (z:Int):Spec 195 [zV z,zV 3] (bV (iz z)):=by
 by_cases h1:0≤z
 ·by_cases h2:z≤3
  ·have:iz z=true:=by simp[iz];omega
   rw[this]
   exact af zU rfl (abe z) ⟨decide_eq_true h1,decide_eq_true h2,trivial⟩ rfl rfl
  ·have:iz z=false:=by simp[iz];omega
   rw[this]
   exact af zU rfl (ab1 z) ⟨decide_eq_true h1,decide_eq_false h2,trivial⟩ rfl rfl
 ·have:iz z=false:=by simp[iz];omega
  rw[this]
  exact af zU rfl (acp z) ⟨decide_eq_false h1,trivial⟩ rfl rfl
noncomputable def E19:Env:={E0 with
 fn:=fun f vs=>match f with
  |195=>(match vs with|[.one (.i z),.one (.i y)]=>some ([y=3],bV (iz z))|_=>none)
  |_=>none}
theorem XX:EnvOK E19:=by
 refine ⟨mixed,?_,fun _ _ _ _ _ h=>by simp[E19,E0] at h,fun _ _ _ h=>by simp[E19,E0] at h,fun _ _ _ _ _ _ h=>by simp[E19,E0] at h⟩
 intro f vs ob r h ho
 simp only[E19] at h
 split at h
 ·split at h
  ·obtain ⟨rfl,rfl⟩:=sI h
   obtain ⟨rfl,_⟩:=ho
   exact aad _
  ·simp at h
 ·simp at h
theorem yO (z:Int):al E19 1000 147 [zV z] []=some ([(3:Int)=3],bV (iz z)):=by kernel_rfl
theorem Ha (z:Int):Spec 147 [zV z] (bV (iz z)):=af XX rfl (yO z) ⟨rfl,trivial⟩ rfl rfl
theorem MRel.window {w0 w:World} {φ:c7} {mem:List Blk} (h:MRel w0 φ mem w) {b:Nat} {k:Blk} (hk:mem[b]? =some k) (hl:k.live=true) (hf:er k):MRel w (fun _=>φ b) [⟨k.ps,k.elem,true,true,0⟩] w:=by
 have hc:∀j v,(an (fun _=>φ b) k.ps)[j]? =some v→w.cell? ⟨(φ b).1,(φ b).2.1+j,none⟩=some v:=by
  intro j v hv
  rw[cU (n:=0) (φ:=φ) (fun b hb=>by omega) k.ps (hf _)] at hv
  exact h.cell hk hl hv
 have one:∀(i:Nat) (x:Blk),([⟨k.ps,k.elem,true,true,0⟩]:List Blk)[i]? =some x→x=⟨k.ps,k.elem,true,true,0⟩:=by
  intro i x hx
  cases i with
  |zero=>simpa using hx.symm
  |succ i=>simp at hx
 refine ⟨Below.refl _ _,?_,?_,?_,?_,?_⟩
 ·intro i j x x' hx _ _ _ hr
  rw[one i x hx] at hr;cases hr
 ·intro i x hx _ hr
  rw[one i x hx] at hr;cases hr
 ·intro i x hx _ _
  rw[one i x hx]
  exact ⟨h.lt hk hl,hc⟩
 ·intro i x hx _ hr
  rw[one i x hx] at hr;cases hr
 ·intro i x hx
  rw[one i x hx]
  exact hf _
theorem rj {E:Env} (hE:EnvOK E) (hP:E.P=Tryz.prog) {n:Nat} {f:FuncId} {vs:List V1} {M:List Blk} {ob:List Prop} {c c':List Bool} {r:AV} {mem':List Blk}
  (h:ep E (dH E n) f vs M c=some (ob,c',r,mem')) (ho:cL ob) (hr:r.wf 0=true) {w:World} {φ:c7} (hm:MRel w φ M w) (hv:∀v∈vs,v.wf M.length=true):
  Calls Tryz.prog f (vs.map (V1.conc φ)).toArray w fun e w'=>e= .returned (r.conc φ)∧Below w.heap.size w w':=by
 have:=jQ hE (lv hE n) _ _ _ _ _ _ _ _ h ho w φ w hm hv
 rw[hP] at this
 refine this.mono ?_
 rintro e w' ⟨φ',rfl,_,_,hm',_⟩
 exact ⟨by rw[AV.conc_agree (n:=0) (fun b hb=>by omega) r hr],hm'.below⟩
noncomputable def J':Env:={E0 with
 S:=fun f t=>match f with
  |152=>bf t [6,11,1000006]
  |_=>false}
theorem nx:EnvOK J':=⟨mixed,fun _ _ _ _ h=>by simp[J',E0] at h,fun _ _ _ _ _ h=>by simp[J',E0] at h,fun _ _ _ h=>by simp[J',E0] at h,fun _ _ _ _ _ _ h=>by simp[J',E0] at h⟩
theorem Vo (a:Nat→Nat) (i:Int):al J' 1000 152 [C8 a,.one (.i i)] [false]=some ([i.tdiv 32=((0:Nat):Int),(32:Int)≠0∧br (i.tdiv 32),0≤i.tmod 32],bV (decide (cn a 0 i=1))):=by kernel_rfl
theorem UL (a:Nat→Nat) (i:Int):al J' 1000 152 [C8 a,.one (.i i)] [true,false]=some ([i.tdiv 32=((1:Nat):Int),(32:Int)≠0∧br (i.tdiv 32),0≤i.tmod 32],bV (decide (cn a 1 i=1))):=by kernel_rfl
theorem Qp (a:Nat→Nat) (i:Int):al J' 1000 152 [C8 a,.one (.i i)] [true,true,false]=some ([i.tdiv 32=((2:Nat):Int),(32:Int)≠0∧br (i.tdiv 32),0≤i.tmod 32],bV (decide (cn a 2 i=1))):=by kernel_rfl
theorem Qv (a:Nat→Nat) (i:Int):al J' 1000 152 [C8 a,.one (.i i)] [true,true,true,false]=some ([i.tdiv 32=((3:Nat):Int),(32:Int)≠0∧br (i.tdiv 32),0≤i.tmod 32],bV (decide (cn a 3 i=1))):=by kernel_rfl
theorem Vp (a:Nat→Nat) (i:Int):al J' 1000 152 [C8 a,.one (.i i)] [true,true,true,true,false]=some ([i.tdiv 32=((4:Nat):Int),(32:Int)≠0∧br (i.tdiv 32),0≤i.tmod 32],bV (decide (cn a 4 i=1))):=by kernel_rfl
theorem Vl (a:Nat→Nat) (i:Int):al J' 1000 152 [C8 a,.one (.i i)] [true,true,true,true,true,false]=some ([i.tdiv 32=((5:Nat):Int),(32:Int)≠0∧br (i.tdiv 32),0≤i.tmod 32],bV (decide (cn a 5 i=1))):=by kernel_rfl
theorem Ss (a:Nat→Nat) (i:Int):al J' 1000 152 [C8 a,.one (.i i)] [true,true,true,true,true,true,false]=some ([i.tdiv 32=((6:Nat):Int),(32:Int)≠0∧br (i.tdiv 32),0≤i.tmod 32],bV (decide (cn a 6 i=1))):=by kernel_rfl
theorem U9 (a:Nat→Nat) (i:Int):al J' 1000 152 [C8 a,.one (.i i)] [true,true,true,true,true,true,true,false]=some ([i.tdiv 32=((7:Nat):Int),(32:Int)≠0∧br (i.tdiv 32),0≤i.tmod 32],bV (decide (cn a 7 i=1))):=by kernel_rfl
theorem ZD (a i:Nat) (hi:i<256):Spec 152 [N8 a,.one (.i (i:Int))] (bV (eY a i)):=by
 have hb:cn (ak a) (i/32) (i:Int)=dw a i:=by
  have:=uL a (i/32) (i%32) (by omega)
  rwa[Nat.div_add_mod] at this
 have h1:((i:Nat):Int).tdiv 32=((i/32:Nat):Int):=rG i
 have h2:(32:Int)≠0∧br (((i:Nat):Int).tdiv 32):=⟨by decide,by rw[h1];unfold br;omega⟩
 have h3:0≤((i:Nat):Int).tmod 32:=by rw[oD];omega
 have h:Spec 152 [C8 (ak a),.one (.i (i:Int))] (bV (decide (cn (ak a) (i/32) (i:Int)=1))):=by
  have hj:i/32<8:=by omega
  revert h1
  generalize i/32=j at hj
  intro h1
  match j,hj with
  |0,_=>exact af nx rfl (Vo (ak a) i) ⟨h1,h2,h3,trivial⟩ rfl rfl
  |1,_=>exact af nx rfl (UL (ak a) i) ⟨h1,h2,h3,trivial⟩ rfl rfl
  |2,_=>exact af nx rfl (Qp (ak a) i) ⟨h1,h2,h3,trivial⟩ rfl rfl
  |3,_=>exact af nx rfl (Qv (ak a) i) ⟨h1,h2,h3,trivial⟩ rfl rfl
  |4,_=>exact af nx rfl (Vp (ak a) i) ⟨h1,h2,h3,trivial⟩ rfl rfl
  |5,_=>exact af nx rfl (Vl (ak a) i) ⟨h1,h2,h3,trivial⟩ rfl rfl
  |6,_=>exact af nx rfl (Ss (ak a) i) ⟨h1,h2,h3,trivial⟩ rfl rfl
  |7,_=>exact af nx rfl (U9 (ak a) i) ⟨h1,h2,h3,trivial⟩ rfl rfl
  |n+8,h=>exact absurd h (by omega)
 rw[hb] at h
 exact h.congr (fun φ=>by simp only[List.map_cons,List.map_nil,c8]) (fun _=>rfl)
def NV (vs:List V1):Option (List Prop×AV):=
 match vs with
 |[x,.one (.i z)]=>match el 8 x with
  |some (o,a)=>some ((0≤z∧z<256)::o,bV (eY a z.toNat))
  |_=>none
 |_=>none
theorem AL {vs:List V1} {ob:List Prop} {r:AV} (h:NV vs=some (ob,r)) (ho:cL ob):Spec 152 vs r:=by
 unfold NV at h
 split at h
 ·rename_i x z
  split at h
  ·rename_i o a hx
   obtain ⟨rfl,rfl⟩:=sI h
   obtain ⟨h1,h2⟩:=ho
   obtain ⟨_,h4⟩:=aX hx h2
   obtain ⟨n,rfl⟩:∃n:Nat,z=(n:Int):=⟨z.toNat,by omega⟩
   exact (ZD a n (by omega)).congr (fun φ=>by simp only[List.map_cons,List.map_nil];rw[←h4 φ];rfl) (fun _=>rfl)
  ·simp at h
 ·simp at h
noncomputable def E81:Env:={E0 with
 fn:=fun f vs=>match f with
  |152=>NV vs
  |_=>none
 S:=fun f t=>match f with
  |150=>bf t [5,9,10,14]
  |_=>false}
theorem BJ:EnvOK E81:=by
 refine ⟨mixed,?_,fun _ _ _ _ _ h=>by simp[E81,E0] at h,fun _ _ _ h=>by simp[E81,E0] at h,fun _ _ _ _ _ _ h=>by simp[E81,E0] at h⟩
 intro f vs ob r h ho
 simp only[E81] at h
 split at h
 ·exact AL h ho
 ·simp at h
def lw (n:Int):List AV:=bt 16 [(1,pV 0),(3,iV n)]
theorem ae' (n:Int):cw 1 (lw n)=true:=by kernel_rfl
theorem BG (a:Nat) (n:Int):dl (lw n) [b8 a]=true:=cc (by simp[eN]) (ae' n)
theorem ac4 (a:Nat) (z:Int):aH E81 1000 (E81.S 150) (ah Tryz.prog 150 2) (lw z) [b8 a] [true,false] (lw (z-1)) 1=
  some ([decide (0<z)=true,br (z-1),eY a (z-1).toNat=false,0≤z-1∧z-1<256,a<4294967296^8,br (z-1)],.normal,lw (z-1),[b8 a]):=by kernel_rfl
theorem acZ (a:Nat) (z:Int):aH E81 1000 (E81.S 150) (ah Tryz.prog 150 2) (lw z) [b8 a] [true,true] (lw z) 1=
  some ([decide (0<z)=true,br (z-1),eY a (z-1).toNat=true,0≤z-1∧z-1<256,a<4294967296^8],.exit 0,lw z,[b8 a]):=by kernel_rfl
theorem abq (a:Nat) (z:Int):aH E81 1000 (E81.S 150) (ah Tryz.prog 150 2) (lw z) [b8 a] [false] (lw z) 1=
  some ([decide (0<z)=false],.exit 0,lw z,[b8 a]):=by kernel_rfl
def eP (a:Nat):Nat→Nat
 |0=>0
 |n+1=>match eY a n with|true=>n+1|false=>eP a n
theorem i2 (a:Nat):∀n,a<2^n→a<2^eP a n∧eP a n≤n
 |0,h=>⟨h,Nat.le_refl _⟩
 |n+1,h=>by
  rw[eP]
  cases hb:eY a n with
  |true=>exact ⟨h,Nat.le_refl _⟩
  |false=>
   have h0:dw a n≠1:=of_decide_eq_false hb
   have h1:=kY a n
   have h2:a/2^n%2=0:=by
    unfold dw at*
    generalize a/2^n=q at*
    omega
   have h3:a/2^n<2:=by
    rw[Nat.div_lt_iff_lt_mul (Nat.two_pow_pos n),Nat.mul_comm,←Nat.pow_succ];exact h
   have h4:a/2^n=0:=by
    generalize a/2^n=q at*
    omega
   have h5:a<2^n:=by
    rcases Nat.div_eq_zero_iff.1 h4 with h|h
    ·have:=Nat.two_pow_pos n;omega
    ·exact h
   obtain ⟨h6,h7⟩:=i2 a n h5
   show a<2^eP a n∧eP a n≤n+1
   exact ⟨h6,by omega⟩
theorem N1 {a:Nat} (ha:a<4294967296^8):∀n,n≤256→GoesN Tryz.prog (ah Tryz.prog 150 2) (n+1) (.exit 0) (lw (n:Int)) [b8 a] (lw (eP a n:Int)) [b8 a]
 |0,_=>GoesN.out (by simp) (Runs.goes BJ ⟨[false],_,abq a _,⟨by decide,trivial⟩,BG _ _⟩)
 |n+1,hn=>by
  have e1:((n+1:Nat):Int)-1=(n:Int):=by omega
  have e2:(((n+1:Nat):Int)-1).toNat=n:=by omega
  have hI:br (((n+1:Nat):Int)-1):=by unfold br;omega
  have h0:decide (0<((n+1:Nat):Int))=true:=decide_eq_true (by omega)
  have hr:0≤((n+1:Nat):Int)-1∧((n+1:Nat):Int)-1<256:=by omega
  cases hb:eY a n with
  |true=>
   have e:eP a (n+1)=n+1:=by rw[eP,hb]
   rw[e]
   exact GoesN.out (by simp) (Runs.goes BJ ⟨[true,true],_,acZ a _,⟨h0,hI,by rw[e2];exact hb,hr,ha,trivial⟩,BG _ _⟩)
  |false=>
   have e:eP a (n+1)=eP a n:=by rw[eP,hb]
   rw[e]
   have hs:Goes Tryz.prog (ah Tryz.prog 150 2) .normal (lw ((n+1:Nat):Int)) [b8 a] (lw (((n+1:Nat):Int)-1)) [b8 a]:=
    Runs.goes BJ ⟨[true,false],_,ac4 a _,⟨h0,hI,by rw[e2];exact hb,hr,ha,hI,trivial⟩,BG _ _⟩
   rw[e1] at hs
   exact GoesN.cons rfl hs (N1 ha n (by omega))
noncomputable def ajU (a:Nat):Env:={E81 with lp:=fun j=>match Nat.beq j 2 with
  |true=>some (ah Tryz.prog 150 2,fo (lw 256) [b8 a] (lw (eP a 256:Int)) [b8 a] (.exit 0))
  |false=>none}
theorem UG {a:Nat} (ha:a<4294967296^8):EnvOK (ajU a):=kj BJ (bz rfl (N1 ha 256 (Nat.le_refl _)).loop)
theorem ags (a:Nat):al (ajU a) 1000 150 [N8 a] []=some ([ah Tryz.prog 150 2=ah Tryz.prog 150 2,(lw 256,[b8 a])=(lw 256,[b8 a]),dl (lw 256) [b8 a]=true],iV (eP a 256:Int)):=by kernel_rfl
theorem Py (a:Nat) (ha:a<4294967296^8):Spec 150 [N8 a] (iV (eP a 256:Int)):=af (UG ha) rfl (ags a) ⟨rfl,rfl,BG _ _,trivial⟩ rfl rfl
noncomputable def E59:Env:={E0 with
 fn:=fun f vs=>match f with
  |100=>OS ap vs
  |150=>xA (fun a=>iV (eP a 256:Int)) vs
  |154=>KV aq vs
  |104=>Bu vs
  |152=>NV vs
  |_=>none
 S:=fun f t=>match f with
  |148=>bf t [14,16,18,25]
  |_=>false}
theorem At:EnvOK E59:=by
 refine ⟨mixed,?_,fun _ _ _ _ _ h=>by simp[E59,E0] at h,fun _ _ _ h=>by simp[E59,E0] at h,fun _ _ _ _ _ _ h=>by simp[E59,E0] at h⟩
 intro f vs ob r h ho
 simp only[E59] at h
 split at h
 ·exact ma Gg h ho
 ·exact ej (fun a ha=>Py a ha) h ho
 ·exact Al z0 h ho
 ·exact Bi h ho
 ·exact AL h ho
 ·simp at h
def bG (m q r:Nat):Blk:=⟨[.num 8 m,.a (.u .u32 q),.num 8 r],81,true,false,0⟩
def MP (m q r a n x:Nat):List Blk:=[bG m q r,b8 a,b8 n,z8,b8 x]
theorem Vb (m q r a n x:Nat) (i:Int):dl (TP i) (MP m q r a n x)=true:=cc (by
 intro b hb
 simp only[MP,List.mem_cons,List.not_mem_nil,or_false] at hb
 rcases hb with rfl|rfl|rfl|rfl|rfl
 ·exact fun _=>rfl
 ·exact eN _
 ·exact eN _
 ·exact iy _
 ·exact eN _) (tTP i)
def abP (m q r a b:Nat):List Prop:=[bg m q r,a<m,b<m,a<4294967296^8,b<4294967296^8]
theorem abO (m q r a n x j:Nat):aH E59 1000 (E59.S 148) (ah Tryz.prog 148 3) (TP (j:Int)) (MP m q r a n x) [true,true] (TP ((j:Int)-1)) 5=
  some ((decide (0≤(j:Int))=true)::(abP m q r x x++((eY n j=true)::(0≤(j:Int)∧(j:Int)<256)::(n<4294967296^8)::(abP m q r (ap m x x) a++[br ((j:Int)-1)]))),.normal,TP ((j:Int)-1),MP m q r a n (ap m (ap m x x) a)):=by kernel_rfl
theorem adz (m q r a n x j:Nat):aH E59 1000 (E59.S 148) (ah Tryz.prog 148 3) (TP (j:Int)) (MP m q r a n x) [true,false] (TP ((j:Int)-1)) 5=
  some ((decide (0≤(j:Int))=true)::(abP m q r x x++((eY n j=false)::(0≤(j:Int)∧(j:Int)<256)::(n<4294967296^8)::[br ((j:Int)-1)])),.normal,TP ((j:Int)-1),MP m q r a n (ap m x x)):=by kernel_rfl
theorem acy (m q r a n x:Nat):aH E59 1000 (E59.S 148) (ah Tryz.prog 148 3) (TP (-1)) (MP m q r a n x) [false] (TP (-1)) 5=
  some ([decide ((0:Int)≤-1)=false],.exit 0,TP (-1),MP m q r a n x):=by kernel_rfl
theorem ab_ {m q r a n:Nat} (hk:bg m q r) (ha:a<m) (hn:n<4294967296^8):
  Goes Tryz.prog (.loop (ah Tryz.prog 148 3)) (.exit 0) (TP ((eP n 256:Int)-1)) (MP m q r a n (aq m 1)) (TP (-1)) (MP m q r a n (am m a n)):=by
 obtain ⟨hl1,hl2⟩:=i2 n 256 hn
 obtain ⟨hR,hq,hrm,_⟩:=id hk
 have hm0:0<m:=by omega
 have p0:oP m a n (eP n 256) 0=aq m 1:=by
  unfold oP aq dY co
  rw[Nat.sub_zero,Nat.div_eq_of_lt hl1,Nat.pow_zero,Nat.zero_add,Nat.mul_comm]
 have p1:oP m a n (eP n 256) (eP n 256)=am m a n:=by
  unfold oP am
  rw[Nat.sub_self,Nat.pow_zero,Nat.div_one]
 generalize hL:eP n 256=L at*
 have:=bJ (P:=Tryz.prog) (y:=ah Tryz.prog 148 3) (ex:= .exit 0) (N:=L) (k:=5) (T:=fun k=>TP ((L:Int)-1-(k:Int))) (M:=fun k=>MP m q r a n (oP m a n L k)) (TF:=TP (-1)) (MF:=MP m q r a n (oP m a n L L))
  (by simp) (fun _ _=>by simp only[MP,List.length_cons,List.length_nil]) (fun k hkL=>by
   obtain ⟨s1,s2⟩:=Da (n:=n) hR hq ha hkL
   have hx:oP m a n L k<m:=Nat.mod_lt _ hm0
   have hmm:ap m (oP m a n L k) (oP m a n L k)<m:=Nat.mod_lt _ hm0
   have hI:((L-1-k:Nat):Int)=(L:Int)-1-(k:Int):=by omega
   have hI2:((L-1-k:Nat):Int)-1=(L:Int)-1-((k+1:Nat):Int):=by omega
   have o0:decide (0≤((L-1-k:Nat):Int))=true:=decide_eq_true (by omega)
   have o1:0≤((L-1-k:Nat):Int)∧((L-1-k:Nat):Int)<256:=by omega
   have o2:br (((L-1-k:Nat):Int)-1):=by unfold br;omega
   rw[←hI,←hI2]
   cases hb:eY n (L-1-k) with
   |true=>
    have hrun:=abO m q r a n (oP m a n L k) (L-1-k)
    rw[s1 hb] at hrun
    exact Runs.goes At ⟨_,_,hrun,⟨o0,hk,hx,hx,by omega,by omega,hb,o1,hn,hk,hmm,ha,by omega,by omega,o2,trivial⟩,Vb _ _ _ _ _ _ _⟩
   |false=>
    have hrun:=adz m q r a n (oP m a n L k) (L-1-k)
    rw[s2 hb] at hrun
    exact Runs.goes At ⟨_,_,hrun,⟨o0,hk,hx,hx,by omega,by omega,hb,o1,hn,o2,trivial⟩,Vb _ _ _ _ _ _ _⟩)
  (by
   rw[show (L:Int)-1-(L:Int)= -1 by omega]
   exact Runs.goes At ⟨[false],_,acy _ _ _ _ _ _,⟨by decide,trivial⟩,Vb _ _ _ _ _ _ _⟩)
 rw[p0,p1,show (L:Int)-1-((0:Nat):Int)=(L:Int)-1 by omega] at this
 exact this
noncomputable def aft (m q r a n:Nat):Env:={E59 with lp:=fun j=>match Nat.beq j 3 with
  |true=>some (ah Tryz.prog 148 3,fo (TP ((eP n 256:Int)-1)) (MP m q r a n (aq m 1)) (TP (-1)) (MP m q r a n (am m a n)) (.exit 0))
  |false=>none}
theorem QE {m q r a n:Nat} (hk:bg m q r) (ha:a<m) (hn:n<4294967296^8):EnvOK (aft m q r a n):=kj At (bz (by simp only[MP,List.length_cons]) (ab_ hk ha hn))
theorem ajr (m q r a n:Nat):al (aft m q r a n) 1000 148 [rg m q r,N8 a,N8 n] []=some ([1<4294967296,bg m q r,1<m,1<4294967296^8,n<4294967296^8,br ((eP n 256:Int)-1),
  ah Tryz.prog 148 3=ah Tryz.prog 148 3,(TP ((eP n 256:Int)-1),MP m q r a n (aq m 1))=(TP ((eP n 256:Int)-1),MP m q r a n (aq m 1)),dl (TP ((eP n 256:Int)-1)) (MP m q r a n (aq m 1))=true],.val (N8 (am m a n))):=by kernel_rfl
theorem Yn (m q r a n:Nat) (hk:bg m q r) (h1:1<m) (ha:a<m) (hn:n<4294967296^8):Spec 148 [rg m q r,N8 a,N8 n] (.val (N8 (am m a n))):=by
 have hl:=(i2 n 256 hn).2
 exact af (QE hk ha hn) rfl (ajr m q r a n) ⟨by decide,hk,h1,by decide,hn,by unfold br;omega,rfl,rfl,Vb _ _ _ _ _ _ _,trivial⟩ rfl rfl
noncomputable def aaF (vs:List V1):Option (List Prop×AV):=
 match vs with
 |[.agg [.num 8 m,.a (.u .u32 q),.num 8 r],x,y]=>match el 8 x,el 8 y with
  |some (o,a),some (o',n)=>some (bg m q r::(1<m)::(a<m)::(o++o'),.val (N8 (am m a n)))
  |_,_=>none
 |_=>none
theorem RY {vs:List V1} {ob:List Prop} {r:AV} (h:aaF vs=some (ob,r)) (ho:cL ob):Spec 148 vs r:=by
 unfold aaF at h
 split at h
 ·rename_i m q r x y
  split at h
  ·rename_i o a o' n hx hy
   obtain ⟨rfl,rfl⟩:=sI h
   obtain ⟨h0,h1,h2,h3⟩:=ho
   rw[aY] at h3
   obtain ⟨_,h4⟩:=aX hx h3.1
   obtain ⟨h6,h5⟩:=aX hy h3.2
   exact (Yn m q r a n h0 h1 h2 h6).congr (fun φ=>by simp only[List.map_cons,List.map_nil];rw[←h4 φ,←h5 φ];rfl) (fun _=>rfl)
  ·simp at h
 ·simp at h
end Go.Ev
