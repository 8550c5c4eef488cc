/- Keyed sums, nodes, and the law, of every input: SlipMasters holds of every argument -/
import Derived.Test.YtfcobjhnkghdjaaGreatPartU
import Derived.Test.YtfcobjhnkghdjaaGreatPartR
import Derived.Test.YtfcobjhnkghdjaaGreatPartO
import Derived.Test.YtfcobjhnkghdjaaGreatPartT
import Derived.JoinedOf
import Derived.SizedLaws
namespace Go.Ev.H5
open Go Go.Proofs Go.RowKit
set_option maxRecDepth 100000
structure PuF where
 e : ByteArray → ByteArray
 q : ByteArray → ByteArray
 b : Int → ByteArray → ByteArray → Bool
noncomputable def puF : PuF := ⟨fun s => Ed.pubB (Ed.exK s), pubS, mayB⟩
def fp26 (g : PuF) (vs : List V1) : Option (List Prop × AV) := match vs with | [.one (.i z), .agg [.a (.v (.string k)), .a (.v (.string c))]] => some ([], bV (g.b z k c)) | _ => none
def fp40 (g : PuF) (vs : List V1) : Option (List Prop × AV) := match vs with | [.one (.v (.string s))] => some ([s.size = 32], .tup [sS (g.e s), .one (.i 0)]) | _ => none
def fp41 (g : PuF) (vs : List V1) : Option (List Prop × AV) := match vs with | [.one (.v (.string s))] => some ([s.size = 32, gd (beS s) = true], .tup [sS (g.q s), .one (.i 0)]) | _ => none
def fp42 (g : PuF) (vs : List V1) : Option (List Prop × AV) := match vs with | [.one (.v (.string s))] => some ([s.size = 32], .val (sS (g.e s))) | _ => none
def fp30 (g : PuF) (vs : List V1) : Option (List Prop × AV) := match vs with | [.one (.v (.string s))] => some ([s.size = 32], .val (sS (g.q s))) | _ => none
structure PuOk (g : PuF) : Prop where
 c26 : CTok ⟨26, fp26 g⟩
 c40 : CTok ⟨40, fp40 g⟩
 c41 : CTok ⟨41, fp41 g⟩
 c42 : CTok ⟨42, fp42 g⟩
 c30 : CTok ⟨30, fp30 g⟩
 bb : ∀ z k c, g.b z k c = true → (z = 1 ∨ z = 2) ∧ k.size = 32 ∧ c.size = 32 ∧ (z = 1 ∨ gd (beS k) = true)
theorem may_all {z : Int} {k c : ByteArray} (h : mayB z k c = true) : (z = 1 ∨ z = 2) ∧ k.size = 32 ∧ c.size = 32 ∧ (z = 1 ∨ gd (beS k) = true) := by
 unfold mayB at h
 simp only [Bool.and_eq_true, Bool.or_eq_true, decide_eq_true_iff] at h
 exact h
theorem cp40 : CTok ⟨40, fp40 puF⟩ := by
 intro vs ob r h ho
 simp only [fp40] at h
 split at h
 ·rename_i s
  simp only [Option.some.injEq, Prod.mk.injEq] at h
  obtain ⟨rfl, rfl⟩ := h
  have h1 := Ed.spec10 s
  unfold Ed.pubZ Ed.expE at h1
  rw [decide_eq_true ho.1, cond_true, cond_true] at h1
  exact h1
 ·simp at h
theorem cp42 : CTok ⟨42, fp42 puF⟩ := by
 intro vs ob r h ho
 simp only [fp42] at h
 split at h
 ·rename_i s
  simp only [Option.some.injEq, Prod.mk.injEq] at h
  obtain ⟨rfl, rfl⟩ := h
  have hs : s.size = 32 := ho.1
  exact Ed.spec13 s (by omega)
 ·simp at h
theorem puOk : PuOk puF := ⟨ct26, cp40, ct41, cp42, ct30, fun _ _ _ h => may_all h⟩
noncomputable def LPu (g : PuF) : List CT := ⟨26, fp26 g⟩ :: ⟨40, fp40 g⟩ :: ⟨41, fp41 g⟩ :: ⟨42, fp42 g⟩ :: ⟨30, fp30 g⟩ :: []
theorem LPu_ok {g : PuF} (hg : PuOk g) : AllCT (LPu g) := ⟨hg.c26, hg.c40, hg.c41, hg.c42, hg.c30, trivial⟩
def SPu : FuncId → Nat → Bool := fun f t => match f with | 24 => memN t [10, 13] | 25 => memN t [6] | _ => false
noncomputable def EPu (g : PuF) : Env := mkE (LPu g) SPu
theorem r24n (g : PuF) (z : Int) (k c : ByteArray) : callR (EPu g) 1000 24 [.one (.i z), node k c] [true] = some ([(!g.b z k c) = true], .tup [sS e0, .one (.i 1)]) := by kernel_rfl
theorem r24e (g : PuF) (z : Int) (k c : ByteArray) : callR (EPu g) 1000 24 [.one (.i z), node k c] [false, true] = some ([(!g.b z k c) = false, decide (z = 1) = true, k.size = 32], .tup [sS (g.e k), .one (.i 0)]) := by kernel_rfl
theorem r24p (g : PuF) (z : Int) (k c : ByteArray) : callR (EPu g) 1000 24 [.one (.i z), node k c] [false, false] = some ([(!g.b z k c) = false, decide (z = 1) = false, k.size = 32, gd (beS k) = true], .tup [sS (g.q k), .one (.i 0)]) := by kernel_rfl
theorem r25e (g : PuF) (z : Int) (k c : ByteArray) : callR (EPu g) 1000 25 [.one (.i z), node k c] [true] = some ([decide (z = 1) = true, k.size = 32], .val (sS (g.e k))) := by kernel_rfl
theorem r25p (g : PuF) (z : Int) (k c : ByteArray) : callR (EPu g) 1000 25 [.one (.i z), node k c] [false] = some ([decide (z = 1) = false, k.size = 32], .val (sS (g.q k))) := by kernel_rfl
def puQ (g : PuF) (z : Int) (k : ByteArray) : ByteArray := bif decide (z = 1) then g.e k else g.q k
def puK (g : PuF) (z : Int) (k c : ByteArray) : ByteArray := bif g.b z k c then puQ g z k else e0
def puE (g : PuF) (z : Int) (k c : ByteArray) : Int := bif g.b z k c then 0 else 1
theorem nt_f {b : Bool} (h : b = true) : (!b) = false := by rw [h]; rfl
theorem nt_t {b : Bool} (h : b = false) : (!b) = true := by rw [h]; rfl
theorem spec24 {g : PuF} (hg : PuOk g) (z : Int) (k c : ByteArray) : Spec 24 [.one (.i z), node k c] (.tup [sS (puK g z k c), .one (.i (puE g z k c))]) := by
 have hV : EnvOK (EPu g) := envMk (LPu_ok hg) SPu
 unfold puK puE puQ
 cases hb : g.b z k c with
 | false => exact spec_run hV rfl (r24n g z k c) ⟨nt_t hb, trivial⟩ rfl rfl
 | true =>
  obtain ⟨h1, h2, h3, h4⟩ := hg.bb z k c hb
  by_cases hz : z = 1
  ·rw [decide_eq_true hz]
   exact spec_run hV rfl (r24e g z k c) ⟨nt_f hb, decide_eq_true hz, h2, trivial⟩ rfl rfl
  ·rw [decide_eq_false hz]
   exact spec_run hV rfl (r24p g z k c) ⟨nt_f hb, decide_eq_false hz, h2, h4.resolve_left hz, trivial⟩ rfl rfl
theorem spec25 {g : PuF} (hg : PuOk g) (z : Int) (k c : ByteArray) (hb : g.b z k c = true) : Spec 25 [.one (.i z), node k c] (.val (sS (puQ g z k))) := by
 have hV : EnvOK (EPu g) := envMk (LPu_ok hg) SPu
 obtain ⟨h1, h2, h3, h4⟩ := hg.bb z k c hb
 unfold puQ
 by_cases hz : z = 1
 ·rw [decide_eq_true hz]
  exact spec_run hV rfl (r25e g z k c) ⟨decide_eq_true hz, h2, trivial⟩ rfl rfl
 ·rw [decide_eq_false hz]
  exact spec_run hV rfl (r25p g z k c) ⟨decide_eq_false hz, h2, trivial⟩ rfl rfl
end Go.Ev.H5

namespace Go.Ev.H5
open Go Go.Proofs Go.RowKit
set_option maxRecDepth 100000
structure MuF where
 sk:Int→ByteArray→ByteArray
 sc:Int→ByteArray→ByteArray
 se:Int→ByteArray→Int
 ak:Int→ByteArray→ByteArray
 ac:Int→ByteArray→ByteArray
 ae:Int→ByteArray→Int
 cb:Int→Bool
 sb:ByteArray→Bool
 b:Int→ByteArray→ByteArray→Bool
 pk:Int→ByteArray→ByteArray→ByteArray
 pe:Int→ByteArray→ByteArray→Int
 qk:Int→ByteArray→ByteArray
def fu22 (g:MuF) (vs:List V1):Option (List Prop×AV):=match vs with|[.one (.i z),.one (.v (.string s))]=>some ([],res (g.sk z s) (g.sc z s) (g.se z s))|_=>none
def fu16 (g:MuF) (vs:List V1):Option (List Prop×AV):=match vs with|[.one (.i z),.one (.v (.string s))]=>some ([g.cb z=true,g.sb s=true],res (g.ak z s) (g.ac z s) (g.ae z s))|_=>none
def fu19 (g:MuF) (vs:List V1):Option (List Prop×AV):=match vs with|[.one (.i z)]=>some ([],bV (g.cb z))|_=>none
def fu20 (g:MuF) (vs:List V1):Option (List Prop×AV):=match vs with|[.one (.v (.string s))]=>some ([],bV (g.sb s))|_=>none
def fu24 (g:MuF) (vs:List V1):Option (List Prop×AV):=match vs with|[.one (.i z),.agg [.a (.v (.string k)),.a (.v (.string c))]]=>some ([],.tup [sS (g.pk z k c),.one (.i (g.pe z k c))])|_=>none
def fu11 (g:MuF) (vs:List V1):Option (List Prop×AV):=match vs with|[.one (.i z),.agg [.a (.v (.string k)),.a (.v (.string c))]]=>some ([],bV (g.b z k c))|_=>none
def fu25 (g:MuF) (vs:List V1):Option (List Prop×AV):=match vs with|[.one (.i z),.agg [.a (.v (.string k)),.a (.v (.string c))]]=>some ([g.b z k c=true],.val (sS (g.qk z k)))|_=>none
def LMu (g:MuF):List CT:=⟨22,fu22 g⟩::⟨16,fu16 g⟩::⟨19,fu19 g⟩::⟨20,fu20 g⟩::⟨24,fu24 g⟩::⟨11,fu11 g⟩::⟨25,fu25 g⟩::⟨14,cV (bV true)⟩::[]
def S8u:FuncId→Nat→Bool:=fun f t=>match f with
 |8=>memN t [14,18,21,24,26,28,33,41,45,48,54,63,67,73,82,85,89,96,100]|_=>false
noncomputable def EMu (g:MuF):Env:=mkE (LMu g) S8u
def TZ (len cap:Nat) (i z:Int):List AV:=slots 103 [(0,slN len cap),(3,iV i),(4,iV z)]
def TY (len cap:Nat) (i:Int):List AV:=slots 103 [(0,slN len cap),(3,iV i)]
def TYx (len cap:Nat):List AV:=slots 103 [(0,slN len cap)]
def inB (i m:Nat):Prop:=(0:Int)≤(i:Int)∧(i:Int)<(m:Int)
def zP (g:MuF) (z:Int) (s a b:ByteArray) (e:Int):List Prop:=[(!decide (g.se z s=e))=false,(!eqS (g.sk z s) (g.sc z s) a b)=false]
def zQ (g:MuF) (z:Int) (k c p:ByteArray) (e:Int):List Prop:=[(!decide (g.pe z k c=e))=false,(!((g.pk z k c).toList==p.toList))=false,inI (z+1)]
theorem tz000 (g:MuF) (c:Cells) (len cap:Nat) (z:Int) (xs:Nat→Atom) (p1 p2 p3 p4:List Piece):runTo (EMu g) 1000 ((EMu g).S 8) (bodyOf Tryz.prog 8 7) (TZ (len+1) cap 0 z) (MR c xs (len+1) p1 p2 p3 p4) [true,false,false,false,false,false,false] (TZ (len+1) cap 0 (z+1)) 5=
  some ([decide (z≤3)=true,inB 0 (len+1),g.cb z=false]++zP g z (sA c (0*5+1)) e0 e0 1++[inB 0 (len+1),inB 0 (len+1),g.b z (sA c (0*5+2)) (sA c (0*5+3))=false]++zQ g z (sA c (0*5+2)) (sA c (0*5+3)) e0 1,.normal,TZ (len+1) cap 0 (z+1),MR c xs (len+1) p1 p2 p3 p4):=by kernel_rfl
theorem tz001 (g:MuF) (c:Cells) (len cap:Nat) (z:Int) (xs:Nat→Atom) (p1 p2 p3 p4:List Piece):runTo (EMu g) 1000 ((EMu g).S 8) (bodyOf Tryz.prog 8 7) (TZ (len+1) cap 0 z) (MR c xs (len+1) p1 p2 p3 p4) [true,false,false,false,true,false,false] (TZ (len+1) cap 0 (z+1)) 5=
  some ([decide (z≤3)=true,inB 0 (len+1),g.cb z=false]++zP g z (sA c (0*5+1)) e0 e0 1++[inB 0 (len+1),inB 0 (len+1),g.b z (sA c (0*5+2)) (sA c (0*5+3))=true,inB 0 (len+1),g.b z (sA c (0*5+2)) (sA c (0*5+3))=true]++zQ g z (sA c (0*5+2)) (sA c (0*5+3)) (g.qk z (sA c (0*5+2))) 0,.normal,TZ (len+1) cap 0 (z+1),MR c xs (len+1) p1 p2 p3 p4):=by kernel_rfl
theorem tz010 (g:MuF) (c:Cells) (len cap:Nat) (z:Int) (xs:Nat→Atom) (p1 p2 p3 p4:List Piece):runTo (EMu g) 1000 ((EMu g).S 8) (bodyOf Tryz.prog 8 7) (TZ (len+1) cap 0 z) (MR c xs (len+1) p1 p2 p3 p4) [true,true,false,false,false,false,false,false] (TZ (len+1) cap 0 (z+1)) 5=
  some ([decide (z≤3)=true,inB 0 (len+1),g.cb z=true,inB 0 (len+1),g.sb (sA c (0*5+1))=false]++zP g z (sA c (0*5+1)) e0 e0 1++[inB 0 (len+1),inB 0 (len+1),g.b z (sA c (0*5+2)) (sA c (0*5+3))=false]++zQ g z (sA c (0*5+2)) (sA c (0*5+3)) e0 1,.normal,TZ (len+1) cap 0 (z+1),MR c xs (len+1) p1 p2 p3 p4):=by kernel_rfl
theorem tz011 (g:MuF) (c:Cells) (len cap:Nat) (z:Int) (xs:Nat→Atom) (p1 p2 p3 p4:List Piece):runTo (EMu g) 1000 ((EMu g).S 8) (bodyOf Tryz.prog 8 7) (TZ (len+1) cap 0 z) (MR c xs (len+1) p1 p2 p3 p4) [true,true,false,false,false,true,false,false] (TZ (len+1) cap 0 (z+1)) 5=
  some ([decide (z≤3)=true,inB 0 (len+1),g.cb z=true,inB 0 (len+1),g.sb (sA c (0*5+1))=false]++zP g z (sA c (0*5+1)) e0 e0 1++[inB 0 (len+1),inB 0 (len+1),g.b z (sA c (0*5+2)) (sA c (0*5+3))=true,inB 0 (len+1),g.b z (sA c (0*5+2)) (sA c (0*5+3))=true]++zQ g z (sA c (0*5+2)) (sA c (0*5+3)) (g.qk z (sA c (0*5+2))) 0,.normal,TZ (len+1) cap 0 (z+1),MR c xs (len+1) p1 p2 p3 p4):=by kernel_rfl
theorem tz020 (g:MuF) (c:Cells) (len cap:Nat) (z:Int) (xs:Nat→Atom) (p1 p2 p3 p4:List Piece):runTo (EMu g) 1000 ((EMu g).S 8) (bodyOf Tryz.prog 8 7) (TZ (len+1) cap 0 z) (MR c xs (len+1) p1 p2 p3 p4) [true,true,true,false,false,false,false,false] (TZ (len+1) cap 0 (z+1)) 5=
  some ([decide (z≤3)=true,inB 0 (len+1),g.cb z=true,inB 0 (len+1),g.sb (sA c (0*5+1))=true,inB 0 (len+1),g.cb z=true,g.sb (sA c (0*5+1))=true]++zP g z (sA c (0*5+1)) (g.ak z (sA c (0*5+1))) (g.ac z (sA c (0*5+1))) (g.ae z (sA c (0*5+1)))++[inB 0 (len+1),inB 0 (len+1),g.b z (sA c (0*5+2)) (sA c (0*5+3))=false]++zQ g z (sA c (0*5+2)) (sA c (0*5+3)) e0 1,.normal,TZ (len+1) cap 0 (z+1),MR c xs (len+1) p1 p2 p3 p4):=by kernel_rfl
theorem tz021 (g:MuF) (c:Cells) (len cap:Nat) (z:Int) (xs:Nat→Atom) (p1 p2 p3 p4:List Piece):runTo (EMu g) 1000 ((EMu g).S 8) (bodyOf Tryz.prog 8 7) (TZ (len+1) cap 0 z) (MR c xs (len+1) p1 p2 p3 p4) [true,true,true,false,false,true,false,false] (TZ (len+1) cap 0 (z+1)) 5=
  some ([decide (z≤3)=true,inB 0 (len+1),g.cb z=true,inB 0 (len+1),g.sb (sA c (0*5+1))=true,inB 0 (len+1),g.cb z=true,g.sb (sA c (0*5+1))=true]++zP g z (sA c (0*5+1)) (g.ak z (sA c (0*5+1))) (g.ac z (sA c (0*5+1))) (g.ae z (sA c (0*5+1)))++[inB 0 (len+1),inB 0 (len+1),g.b z (sA c (0*5+2)) (sA c (0*5+3))=true,inB 0 (len+1),g.b z (sA c (0*5+2)) (sA c (0*5+3))=true]++zQ g z (sA c (0*5+2)) (sA c (0*5+3)) (g.qk z (sA c (0*5+2))) 0,.normal,TZ (len+1) cap 0 (z+1),MR c xs (len+1) p1 p2 p3 p4):=by kernel_rfl
theorem tzx0 (g:MuF) (c:Cells) (len cap:Nat) (z:Int) (xs:Nat→Atom) (p1 p2 p3 p4:List Piece):runTo (EMu g) 1000 ((EMu g).S 8) (bodyOf Tryz.prog 8 7) (TZ (len+1) cap 0 z) (MR c xs (len+1) p1 p2 p3 p4) [false] (TY (len+1) cap 0) 5=
  some ([decide (z≤3)=false],.exit 2,TY (len+1) cap 0,MR c xs (len+1) p1 p2 p3 p4):=by kernel_rfl
theorem ty0 (g:MuF) (c:Cells) (len cap:Nat) (xs:Nat→Atom) (p1 p2 p3 p4:List Piece):runTo (addLp (EMu g) 7 (bodyOf Tryz.prog 8 7) (sumC (TZ (len+1) cap 0 0) (MR c xs (len+1) p1 p2 p3 p4) (TY (len+1) cap 0) (MR c xs (len+1) p1 p2 p3 p4) (.exit 2))) 1000 ((EMu g).S 8) (bodyOf Tryz.prog 8 4) (TY (len+1) cap 0) (MR c xs (len+1) p1 p2 p3 p4) [true,true] (TY (len+1) cap 1) 5=
  some ([decide ((0:Int)<(((len+1):Nat):Int))=true,decide ((0:Int)<2)=true,bodyOf Tryz.prog 8 7=bodyOf Tryz.prog 8 7,(TZ (len+1) cap 0 0,MR c xs (len+1) p1 p2 p3 p4)=(TZ (len+1) cap 0 0,MR c xs (len+1) p1 p2 p3 p4),wfS (TZ (len+1) cap 0 0) (MR c xs (len+1) p1 p2 p3 p4)=true,inI ((0:Int)+1)],.normal,TY (len+1) cap 1,MR c xs (len+1) p1 p2 p3 p4):=by kernel_rfl
theorem tz100 (g:MuF) (c:Cells) (len cap:Nat) (z:Int) (xs:Nat→Atom) (p1 p2 p3 p4:List Piece):runTo (EMu g) 1000 ((EMu g).S 8) (bodyOf Tryz.prog 8 7) (TZ (len+2) cap 1 z) (MR c xs (len+2) p1 p2 p3 p4) [true,false,false,false,false,false,false] (TZ (len+2) cap 1 (z+1)) 5=
  some ([decide (z≤3)=true,inB 1 (len+2),g.cb z=false]++zP g z (sA c (1*5+1)) e0 e0 1++[inB 1 (len+2),inB 1 (len+2),g.b z (sA c (1*5+2)) (sA c (1*5+3))=false]++zQ g z (sA c (1*5+2)) (sA c (1*5+3)) e0 1,.normal,TZ (len+2) cap 1 (z+1),MR c xs (len+2) p1 p2 p3 p4):=by kernel_rfl
theorem tz101 (g:MuF) (c:Cells) (len cap:Nat) (z:Int) (xs:Nat→Atom) (p1 p2 p3 p4:List Piece):runTo (EMu g) 1000 ((EMu g).S 8) (bodyOf Tryz.prog 8 7) (TZ (len+2) cap 1 z) (MR c xs (len+2) p1 p2 p3 p4) [true,false,false,false,true,false,false] (TZ (len+2) cap 1 (z+1)) 5=
  some ([decide (z≤3)=true,inB 1 (len+2),g.cb z=false]++zP g z (sA c (1*5+1)) e0 e0 1++[inB 1 (len+2),inB 1 (len+2),g.b z (sA c (1*5+2)) (sA c (1*5+3))=true,inB 1 (len+2),g.b z (sA c (1*5+2)) (sA c (1*5+3))=true]++zQ g z (sA c (1*5+2)) (sA c (1*5+3)) (g.qk z (sA c (1*5+2))) 0,.normal,TZ (len+2) cap 1 (z+1),MR c xs (len+2) p1 p2 p3 p4):=by kernel_rfl
theorem tz110 (g:MuF) (c:Cells) (len cap:Nat) (z:Int) (xs:Nat→Atom) (p1 p2 p3 p4:List Piece):runTo (EMu g) 1000 ((EMu g).S 8) (bodyOf Tryz.prog 8 7) (TZ (len+2) cap 1 z) (MR c xs (len+2) p1 p2 p3 p4) [true,true,false,false,false,false,false,false] (TZ (len+2) cap 1 (z+1)) 5=
  some ([decide (z≤3)=true,inB 1 (len+2),g.cb z=true,inB 1 (len+2),g.sb (sA c (1*5+1))=false]++zP g z (sA c (1*5+1)) e0 e0 1++[inB 1 (len+2),inB 1 (len+2),g.b z (sA c (1*5+2)) (sA c (1*5+3))=false]++zQ g z (sA c (1*5+2)) (sA c (1*5+3)) e0 1,.normal,TZ (len+2) cap 1 (z+1),MR c xs (len+2) p1 p2 p3 p4):=by kernel_rfl
theorem tz111 (g:MuF) (c:Cells) (len cap:Nat) (z:Int) (xs:Nat→Atom) (p1 p2 p3 p4:List Piece):runTo (EMu g) 1000 ((EMu g).S 8) (bodyOf Tryz.prog 8 7) (TZ (len+2) cap 1 z) (MR c xs (len+2) p1 p2 p3 p4) [true,true,false,false,false,true,false,false] (TZ (len+2) cap 1 (z+1)) 5=
  some ([decide (z≤3)=true,inB 1 (len+2),g.cb z=true,inB 1 (len+2),g.sb (sA c (1*5+1))=false]++zP g z (sA c (1*5+1)) e0 e0 1++[inB 1 (len+2),inB 1 (len+2),g.b z (sA c (1*5+2)) (sA c (1*5+3))=true,inB 1 (len+2),g.b z (sA c (1*5+2)) (sA c (1*5+3))=true]++zQ g z (sA c (1*5+2)) (sA c (1*5+3)) (g.qk z (sA c (1*5+2))) 0,.normal,TZ (len+2) cap 1 (z+1),MR c xs (len+2) p1 p2 p3 p4):=by kernel_rfl
theorem tz120 (g:MuF) (c:Cells) (len cap:Nat) (z:Int) (xs:Nat→Atom) (p1 p2 p3 p4:List Piece):runTo (EMu g) 1000 ((EMu g).S 8) (bodyOf Tryz.prog 8 7) (TZ (len+2) cap 1 z) (MR c xs (len+2) p1 p2 p3 p4) [true,true,true,false,false,false,false,false] (TZ (len+2) cap 1 (z+1)) 5=
  some ([decide (z≤3)=true,inB 1 (len+2),g.cb z=true,inB 1 (len+2),g.sb (sA c (1*5+1))=true,inB 1 (len+2),g.cb z=true,g.sb (sA c (1*5+1))=true]++zP g z (sA c (1*5+1)) (g.ak z (sA c (1*5+1))) (g.ac z (sA c (1*5+1))) (g.ae z (sA c (1*5+1)))++[inB 1 (len+2),inB 1 (len+2),g.b z (sA c (1*5+2)) (sA c (1*5+3))=false]++zQ g z (sA c (1*5+2)) (sA c (1*5+3)) e0 1,.normal,TZ (len+2) cap 1 (z+1),MR c xs (len+2) p1 p2 p3 p4):=by kernel_rfl
theorem tz121 (g:MuF) (c:Cells) (len cap:Nat) (z:Int) (xs:Nat→Atom) (p1 p2 p3 p4:List Piece):runTo (EMu g) 1000 ((EMu g).S 8) (bodyOf Tryz.prog 8 7) (TZ (len+2) cap 1 z) (MR c xs (len+2) p1 p2 p3 p4) [true,true,true,false,false,true,false,false] (TZ (len+2) cap 1 (z+1)) 5=
  some ([decide (z≤3)=true,inB 1 (len+2),g.cb z=true,inB 1 (len+2),g.sb (sA c (1*5+1))=true,inB 1 (len+2),g.cb z=true,g.sb (sA c (1*5+1))=true]++zP g z (sA c (1*5+1)) (g.ak z (sA c (1*5+1))) (g.ac z (sA c (1*5+1))) (g.ae z (sA c (1*5+1)))++[inB 1 (len+2),inB 1 (len+2),g.b z (sA c (1*5+2)) (sA c (1*5+3))=true,inB 1 (len+2),g.b z (sA c (1*5+2)) (sA c (1*5+3))=true]++zQ g z (sA c (1*5+2)) (sA c (1*5+3)) (g.qk z (sA c (1*5+2))) 0,.normal,TZ (len+2) cap 1 (z+1),MR c xs (len+2) p1 p2 p3 p4):=by kernel_rfl
theorem tzx1 (g:MuF) (c:Cells) (len cap:Nat) (z:Int) (xs:Nat→Atom) (p1 p2 p3 p4:List Piece):runTo (EMu g) 1000 ((EMu g).S 8) (bodyOf Tryz.prog 8 7) (TZ (len+2) cap 1 z) (MR c xs (len+2) p1 p2 p3 p4) [false] (TY (len+2) cap 1) 5=
  some ([decide (z≤3)=false],.exit 2,TY (len+2) cap 1,MR c xs (len+2) p1 p2 p3 p4):=by kernel_rfl
theorem ty1 (g:MuF) (c:Cells) (len cap:Nat) (xs:Nat→Atom) (p1 p2 p3 p4:List Piece):runTo (addLp (EMu g) 7 (bodyOf Tryz.prog 8 7) (sumC (TZ (len+2) cap 1 0) (MR c xs (len+2) p1 p2 p3 p4) (TY (len+2) cap 1) (MR c xs (len+2) p1 p2 p3 p4) (.exit 2))) 1000 ((EMu g).S 8) (bodyOf Tryz.prog 8 4) (TY (len+2) cap 1) (MR c xs (len+2) p1 p2 p3 p4) [true,true] (TY (len+2) cap 2) 5=
  some ([decide ((1:Int)<(((len+2):Nat):Int))=true,decide ((1:Int)<2)=true,bodyOf Tryz.prog 8 7=bodyOf Tryz.prog 8 7,(TZ (len+2) cap 1 0,MR c xs (len+2) p1 p2 p3 p4)=(TZ (len+2) cap 1 0,MR c xs (len+2) p1 p2 p3 p4),wfS (TZ (len+2) cap 1 0) (MR c xs (len+2) p1 p2 p3 p4)=true,inI ((1:Int)+1)],.normal,TY (len+2) cap 2,MR c xs (len+2) p1 p2 p3 p4):=by kernel_rfl
theorem txa (g:MuF) (c:Cells) (len cap:Nat) (i:Int) (xs:Nat→Atom) (p1 p2 p3 p4:List Piece):runTo (EMu g) 1000 ((EMu g).S 8) (bodyOf Tryz.prog 8 4) (TY len cap i) (MR c xs len p1 p2 p3 p4) [false] (TYx len cap) 5=
  some ([decide (i<(len:Int))=false],.exit 0,TYx len cap,MR c xs len p1 p2 p3 p4):=by kernel_rfl
theorem txb (g:MuF) (c:Cells) (len cap:Nat) (i:Int) (xs:Nat→Atom) (p1 p2 p3 p4:List Piece):runTo (EMu g) 1000 ((EMu g).S 8) (bodyOf Tryz.prog 8 4) (TY len cap i) (MR c xs len p1 p2 p3 p4) [true,false] (TYx len cap) 5=
  some ([decide (i<(len:Int))=true,decide (i<2)=false],.exit 0,TYx len cap,MR c xs len p1 p2 p3 p4):=by kernel_rfl
end Go.Ev.H5

namespace Go.Ev.H5
open Go Go.Proofs Go.RowKit
set_option maxRecDepth 100000
structure MuOk (g:MuF):Prop where
 c22:CTok ⟨22,fu22 g⟩
 c16:CTok ⟨16,fu16 g⟩
 c19:CTok ⟨19,fu19 g⟩
 c20:CTok ⟨20,fu20 g⟩
 c24:CTok ⟨24,fu24 g⟩
 c11:CTok ⟨11,fu11 g⟩
 c25:CTok ⟨25,fu25 g⟩
 w14:Spec 14 [] (bV true)
 mt:∀z s,g.cb z=true→g.sb s=true→g.se z s=g.ae z s∧g.sk z s=g.ak z s∧g.sc z s=g.ac z s
 mf:∀z s,g.cb z=false∨g.sb s=false→g.se z s=1∧g.sk z s=e0∧g.sc z s=e0
 pt:∀z k c,g.b z k c=true→g.pe z k c=0∧g.pk z k c=g.qk z k
 pf:∀z k c,g.b z k c=false→g.pe z k c=1∧g.pk z k c=e0
theorem LMu_ok {g:MuF} (hg:MuOk g):AllCT (LMu g):=⟨hg.c22,hg.c16,hg.c19,hg.c20,hg.c24,hg.c11,hg.c25,ctV hg.w14,trivial⟩
theorem envMu {g:MuF} (hg:MuOk g):EnvOK (EMu g):=envMk (LMu_ok hg) S8u
theorem inB_ok {i m:Nat} (h:i<m):inB i m:=by unfold inB;omega
theorem nq {z:Int}:(!decide (z=z))=false:=by simp
theorem nqs (s:ByteArray):(!(s.toList==s.toList))=false:=by simp
theorem zP_ok {g:MuF} {z:Int} {s a b:ByteArray} {e:Int} (h:g.se z s=e∧g.sk z s=a∧g.sc z s=b):All (zP g z s a b e):=by
 obtain ⟨h1,h2,h3⟩:=h
 subst h1 h2 h3
 exact ⟨nq,eqS_self _ _,trivial⟩
theorem zQ_ok {g:MuF} {z:Int} {k c p:ByteArray} {e:Int} (h:g.pe z k c=e∧g.pk z k c=p) (h0:0≤z) (h3:z≤3):All (zQ g z k c p e):=by
 obtain ⟨h1,h2⟩:=h
 subst h1 h2
 exact ⟨nq,nqs _,by unfold inI;omega,trivial⟩
theorem curves {y:Code} {N:Nat} {T:Int→List AV} {Tx:List AV} {M:List Blk} (step:∀z:Int,0≤z→z≤3→Goes Tryz.prog y .normal (T z) M (T (z+1)) M) (out:Goes Tryz.prog y (.exit N) (T 4) M Tx M):Goes Tryz.prog (.loop y) (.exit N) (T 0) M Tx M:=by
 have s0:Goes Tryz.prog y .normal (T 0) M (T 1) M:=step 0 (by omega) (by omega)
 have s1:Goes Tryz.prog y .normal (T 1) M (T 2) M:=step 1 (by omega) (by omega)
 have s2:Goes Tryz.prog y .normal (T 2) M (T 3) M:=step 2 (by omega) (by omega)
 have s3:Goes Tryz.prog y .normal (T 3) M (T 4) M:=step 3 (by omega) (by omega)
 exact (GoesN.cons rfl s0 (GoesN.cons rfl s1 (GoesN.cons rfl s2 (GoesN.cons rfl s3 (GoesN.out (n:=0) (by simp) out))))).loop
theorem wfM {n:Nat} {l:List (Nat×AV)} {c:Cells} {m:Nat} {xs:Nat→Atom} {p1 p2 p3 p4:List Piece} (hx:XsOk xs) (f1:Free (roB p1)) (f2:Free (roB p2)) (f3:Free (roB p3)) (f4:Free (roB p4)) (h:tmsWf 5 (slots n l)=true):wfS (slots n l) (MR c xs m p1 p2 p3 p4)=true:=wfR5 hx f1 f2 f3 f4 h
theorem zl0 {g:MuF} (hg:MuOk g) {c:Cells} {len cap:Nat} {xs:Nat→Atom} {p1 p2 p3 p4:List Piece} (hx:XsOk xs) (f1:Free (roB p1)) (f2:Free (roB p2)) (f3:Free (roB p3)) (f4:Free (roB p4)):Goes Tryz.prog (.loop (bodyOf Tryz.prog 8 7)) (.exit 2) (TZ (len+1) cap 0 0) (MR c xs (len+1) p1 p2 p3 p4) (TY (len+1) cap 0) (MR c xs (len+1) p1 p2 p3 p4):=by
 have hE:=envMu hg
 have hB:inB 0 (len+1):=inB_ok (by omega)
 refine curves (T:=fun z=>TZ (len+1) cap 0 z) (fun z h0 h3=> ?_) ?_
 ·have hz:decide (z≤3)=true:=decide_eq_true h3
  cases hb:g.b z (sA c (0*5+2)) (sA c (0*5+3)) with
  |true=>
   have hq:=zQ_ok (g:=g) (z:=z) (k:=(sA c (0*5+2))) (c:=(sA c (0*5+3))) (hg.pt _ _ _ hb) h0 h3
   cases hc:g.cb z with
   |false=>exact Runs.goes hE ⟨_,_,tz001 g c len cap z xs p1 p2 p3 p4,All_ap (All_ap (All_ap ⟨hz,hB,hc,trivial⟩ (zP_ok (hg.mf _ _ (.inl hc)))) ⟨hB,hB,hb,hB,hb,trivial⟩) hq,(wfM hx f1 f2 f3 f4 (by kernel_rfl))⟩
   |true=>
    cases hs:g.sb (sA c (0*5+1)) with
    |false=>exact Runs.goes hE ⟨_,_,tz011 g c len cap z xs p1 p2 p3 p4,All_ap (All_ap (All_ap ⟨hz,hB,hc,hB,hs,trivial⟩ (zP_ok (hg.mf _ _ (.inr hs)))) ⟨hB,hB,hb,hB,hb,trivial⟩) hq,(wfM hx f1 f2 f3 f4 (by kernel_rfl))⟩
    |true=>exact Runs.goes hE ⟨_,_,tz021 g c len cap z xs p1 p2 p3 p4,All_ap (All_ap (All_ap ⟨hz,hB,hc,hB,hs,hB,hc,hs,trivial⟩ (zP_ok (hg.mt _ _ hc hs))) ⟨hB,hB,hb,hB,hb,trivial⟩) hq,(wfM hx f1 f2 f3 f4 (by kernel_rfl))⟩
  |false=>
   have hq:=zQ_ok (g:=g) (z:=z) (k:=(sA c (0*5+2))) (c:=(sA c (0*5+3))) (hg.pf _ _ _ hb) h0 h3
   cases hc:g.cb z with
   |false=>exact Runs.goes hE ⟨_,_,tz000 g c len cap z xs p1 p2 p3 p4,All_ap (All_ap (All_ap ⟨hz,hB,hc,trivial⟩ (zP_ok (hg.mf _ _ (.inl hc)))) ⟨hB,hB,hb,trivial⟩) hq,(wfM hx f1 f2 f3 f4 (by kernel_rfl))⟩
   |true=>
    cases hs:g.sb (sA c (0*5+1)) with
    |false=>exact Runs.goes hE ⟨_,_,tz010 g c len cap z xs p1 p2 p3 p4,All_ap (All_ap (All_ap ⟨hz,hB,hc,hB,hs,trivial⟩ (zP_ok (hg.mf _ _ (.inr hs)))) ⟨hB,hB,hb,trivial⟩) hq,(wfM hx f1 f2 f3 f4 (by kernel_rfl))⟩
    |true=>exact Runs.goes hE ⟨_,_,tz020 g c len cap z xs p1 p2 p3 p4,All_ap (All_ap (All_ap ⟨hz,hB,hc,hB,hs,hB,hc,hs,trivial⟩ (zP_ok (hg.mt _ _ hc hs))) ⟨hB,hB,hb,trivial⟩) hq,(wfM hx f1 f2 f3 f4 (by kernel_rfl))⟩
 ·exact Runs.goes hE ⟨_,_,tzx0 g c len cap 4 xs p1 p2 p3 p4,⟨by decide,trivial⟩,(wfM hx f1 f2 f3 f4 (by kernel_rfl))⟩
theorem yl0 {g:MuF} (hg:MuOk g) {c:Cells} {len cap:Nat} {xs:Nat→Atom} {p1 p2 p3 p4:List Piece} (hx:XsOk xs) (f1:Free (roB p1)) (f2:Free (roB p2)) (f3:Free (roB p3)) (f4:Free (roB p4)):Goes Tryz.prog (bodyOf Tryz.prog 8 4) .normal (TY (len+1) cap 0) (MR c xs (len+1) p1 p2 p3 p4) (TY (len+1) cap 1) (MR c xs (len+1) p1 p2 p3 p4):=by
 have hE:EnvOK (addLp (EMu g) 7 (bodyOf Tryz.prog 8 7) (sumC (TZ (len+1) cap 0 0) (MR c xs (len+1) p1 p2 p3 p4) (TY (len+1) cap 0) (MR c xs (len+1) p1 p2 p3 p4) (.exit 2))):=envAddLp (envMu hg) (sumC_ok rfl (zl0 hg hx f1 f2 f3 f4))
 exact Runs.goes hE ⟨_,_,ty0 g c len cap xs p1 p2 p3 p4,⟨decide_eq_true (by omega),by decide,rfl,rfl,(wfM hx f1 f2 f3 f4 (by kernel_rfl)),by unfold inI;omega,trivial⟩,(wfM hx f1 f2 f3 f4 (by kernel_rfl))⟩
theorem zl1 {g:MuF} (hg:MuOk g) {c:Cells} {len cap:Nat} {xs:Nat→Atom} {p1 p2 p3 p4:List Piece} (hx:XsOk xs) (f1:Free (roB p1)) (f2:Free (roB p2)) (f3:Free (roB p3)) (f4:Free (roB p4)):Goes Tryz.prog (.loop (bodyOf Tryz.prog 8 7)) (.exit 2) (TZ (len+2) cap 1 0) (MR c xs (len+2) p1 p2 p3 p4) (TY (len+2) cap 1) (MR c xs (len+2) p1 p2 p3 p4):=by
 have hE:=envMu hg
 have hB:inB 1 (len+2):=inB_ok (by omega)
 refine curves (T:=fun z=>TZ (len+2) cap 1 z) (fun z h0 h3=> ?_) ?_
 ·have hz:decide (z≤3)=true:=decide_eq_true h3
  cases hb:g.b z (sA c (1*5+2)) (sA c (1*5+3)) with
  |true=>
   have hq:=zQ_ok (g:=g) (z:=z) (k:=(sA c (1*5+2))) (c:=(sA c (1*5+3))) (hg.pt _ _ _ hb) h0 h3
   cases hc:g.cb z with
   |false=>exact Runs.goes hE ⟨_,_,tz101 g c len cap z xs p1 p2 p3 p4,All_ap (All_ap (All_ap ⟨hz,hB,hc,trivial⟩ (zP_ok (hg.mf _ _ (.inl hc)))) ⟨hB,hB,hb,hB,hb,trivial⟩) hq,(wfM hx f1 f2 f3 f4 (by kernel_rfl))⟩
   |true=>
    cases hs:g.sb (sA c (1*5+1)) with
    |false=>exact Runs.goes hE ⟨_,_,tz111 g c len cap z xs p1 p2 p3 p4,All_ap (All_ap (All_ap ⟨hz,hB,hc,hB,hs,trivial⟩ (zP_ok (hg.mf _ _ (.inr hs)))) ⟨hB,hB,hb,hB,hb,trivial⟩) hq,(wfM hx f1 f2 f3 f4 (by kernel_rfl))⟩
    |true=>exact Runs.goes hE ⟨_,_,tz121 g c len cap z xs p1 p2 p3 p4,All_ap (All_ap (All_ap ⟨hz,hB,hc,hB,hs,hB,hc,hs,trivial⟩ (zP_ok (hg.mt _ _ hc hs))) ⟨hB,hB,hb,hB,hb,trivial⟩) hq,(wfM hx f1 f2 f3 f4 (by kernel_rfl))⟩
  |false=>
   have hq:=zQ_ok (g:=g) (z:=z) (k:=(sA c (1*5+2))) (c:=(sA c (1*5+3))) (hg.pf _ _ _ hb) h0 h3
   cases hc:g.cb z with
   |false=>exact Runs.goes hE ⟨_,_,tz100 g c len cap z xs p1 p2 p3 p4,All_ap (All_ap (All_ap ⟨hz,hB,hc,trivial⟩ (zP_ok (hg.mf _ _ (.inl hc)))) ⟨hB,hB,hb,trivial⟩) hq,(wfM hx f1 f2 f3 f4 (by kernel_rfl))⟩
   |true=>
    cases hs:g.sb (sA c (1*5+1)) with
    |false=>exact Runs.goes hE ⟨_,_,tz110 g c len cap z xs p1 p2 p3 p4,All_ap (All_ap (All_ap ⟨hz,hB,hc,hB,hs,trivial⟩ (zP_ok (hg.mf _ _ (.inr hs)))) ⟨hB,hB,hb,trivial⟩) hq,(wfM hx f1 f2 f3 f4 (by kernel_rfl))⟩
    |true=>exact Runs.goes hE ⟨_,_,tz120 g c len cap z xs p1 p2 p3 p4,All_ap (All_ap (All_ap ⟨hz,hB,hc,hB,hs,hB,hc,hs,trivial⟩ (zP_ok (hg.mt _ _ hc hs))) ⟨hB,hB,hb,trivial⟩) hq,(wfM hx f1 f2 f3 f4 (by kernel_rfl))⟩
 ·exact Runs.goes hE ⟨_,_,tzx1 g c len cap 4 xs p1 p2 p3 p4,⟨by decide,trivial⟩,(wfM hx f1 f2 f3 f4 (by kernel_rfl))⟩
theorem yl1 {g:MuF} (hg:MuOk g) {c:Cells} {len cap:Nat} {xs:Nat→Atom} {p1 p2 p3 p4:List Piece} (hx:XsOk xs) (f1:Free (roB p1)) (f2:Free (roB p2)) (f3:Free (roB p3)) (f4:Free (roB p4)):Goes Tryz.prog (bodyOf Tryz.prog 8 4) .normal (TY (len+2) cap 1) (MR c xs (len+2) p1 p2 p3 p4) (TY (len+2) cap 2) (MR c xs (len+2) p1 p2 p3 p4):=by
 have hE:EnvOK (addLp (EMu g) 7 (bodyOf Tryz.prog 8 7) (sumC (TZ (len+2) cap 1 0) (MR c xs (len+2) p1 p2 p3 p4) (TY (len+2) cap 1) (MR c xs (len+2) p1 p2 p3 p4) (.exit 2))):=envAddLp (envMu hg) (sumC_ok rfl (zl1 hg hx f1 f2 f3 f4))
 exact Runs.goes hE ⟨_,_,ty1 g c len cap xs p1 p2 p3 p4,⟨decide_eq_true (by omega),by decide,rfl,rfl,(wfM hx f1 f2 f3 f4 (by kernel_rfl)),by unfold inI;omega,trivial⟩,(wfM hx f1 f2 f3 f4 (by kernel_rfl))⟩
theorem wfY (c:Cells) (s:Sub) (m cap:Nat) (i:Int):wfS (TY m cap i) (MW c s m)=true:=wfR5 (xsS_ok s) (psS_free s 0) (psS_free s 1) (psS_free s 2) (psS_free s 3) (by kernel_rfl)
theorem wfYx (c:Cells) (s:Sub) (m cap:Nat):wfS (TYx m cap) (MW c s m)=true:=wfR5 (xsS_ok s) (psS_free s 0) (psS_free s 1) (psS_free s 2) (psS_free s 3) (by kernel_rfl)
theorem loopY {g:MuF} (hg:MuOk g) {c:Cells} {s:Sub} {m cap:Nat}:Goes Tryz.prog (.loop (bodyOf Tryz.prog 8 4)) (.exit 0) (TY m cap ((0:Nat):Int)) (MW c s m) (TYx m cap) (MW c s m):=by
 refine loop_goes (N:=min m 2) (k:=5) (T:=fun i=>TY m cap (i:Int)) (M:=fun _=>MW c s m) (by simp) (fun _ _=>rfl) (fun i hi=> ?_) ?_
 ·match i,hi with
  |0,hi=>
   obtain ⟨l,rfl⟩:∃l,m=l+1:=⟨m-1,by omega⟩
   exact yl0 hg (xsS_ok s) (psS_free s 0) (psS_free s 1) (psS_free s 2) (psS_free s 3)
  |1,hi=>
   obtain ⟨l,rfl⟩:∃l,m=l+2:=⟨m-2,by omega⟩
   exact yl1 hg (xsS_ok s) (psS_free s 0) (psS_free s 1) (psS_free s 2) (psS_free s 3)
  |i+2,hi=>omega
 ·by_cases h4:m≤2
  ·rw[show min m 2=m by omega]
   exact Runs.goes (envMu hg) ⟨_,_,txa g c m cap (m:Int) (xsS s) _ _ _ _,⟨decide_eq_false (by omega),trivial⟩,wfYx _ _ _ _⟩
  ·rw[show min m 2=2 by omega]
   exact Runs.goes (envMu hg) ⟨_,_,txb g c m cap 2 (xsS s) _ _ _ _,⟨decide_eq_true (by omega),by decide,trivial⟩,wfYx _ _ _ _⟩
noncomputable def EUy (g:MuF) (c:Cells) (s:Sub) (l:Lits) (m cap:Nat):Env:=addM' (addLp (EMu g) 4 (bodyOf Tryz.prog 8 4) (sumC (TY m cap 0) (MW c s m) (TYx m cap) (MW c s m) (.exit 0))) (fmW c (xsS s) l m)
theorem envUy {g:MuF} (hg:MuOk g) {c:Cells} {s:Sub} {l:Lits} {m cap:Nat}:EnvOK (EUy g c s l m cap):=envAddM' (envAddLp (envMu hg) (sumC_ok rfl (loopY hg))) (fmW_ok _ _ _ _)
theorem w8t (g:MuF) (c:Cells) (s:Sub) (l:Lits) (m cap:Nat):dropM (callBy (EUy g c s l m cap) (evalC (EUy g c s l m cap) 1000) 8 [.one (.sl 0 0 m cap)] (MW c s m) [true])=
  some ([decide (2000<hvX c l m 0 (m:Int))=true]++ob9 c s l m,bV true):=by kernel_rfl
theorem w8f (g:MuF) (c:Cells) (s:Sub) (l:Lits) (m cap:Nat):dropM (callBy (EUy g c s l m cap) (evalC (EUy g c s l m cap) 1000) 8 [.one (.sl 0 0 m cap)] (MW c s m) [false])=
  some ([decide (2000<hvX c l m 0 (m:Int))=false]++ob9 c s l m++[bodyOf Tryz.prog 8 4=bodyOf Tryz.prog 8 4,(TY m cap 0,MW c s m)=(TY m cap 0,MW c s m),wfS (TY m cap 0) (MW c s m)=true],bV true):=by kernel_rfl
noncomputable def EUn (g:MuF):Env:=mkE (⟨9,fnN9⟩::LMu g) S8u
theorem envUn {g:MuF} (hg:MuOk g):EnvOK (EUn g):=envMk (show AllCT (⟨9,fnN9⟩::LMu g) from ⟨ctN9,LMu_ok hg⟩) S8u
theorem w8n (g:MuF):dropM (callBy (EUn g) (evalC (EUn g) 1000) 8 [nilV] [] [false,false])=some ([false=false,decide ((0:Int)<((0:Nat):Int))=false],bV true):=by kernel_rfl
theorem law8G {g:MuF} (hg:MuOk g) {H:Type} {enc:TypeId×Value→H} {r:Reach} {W:World} {base:Nat} {v:Value} {d:DataW H} {ps:List MemPlace} (hval:Value.okWide Tryz.prog W r base 22 v) (h:DataW.Trod enc Tryz.prog W 0 (fun _=>true) true 22 v d ps) (hwt:∀n∈d.weights Tryz.prog 22,n≤BB):
  Calls Tryz.prog 8 #[v] W (Trues W):=by
 rcases rows_of (Nat.le_refl _) (ask_open u22 u28 rfl rfl rfl rfl cf0 cf1 cf2 cf3 c28 kf0 kf1 kf2 uf3 k32 c32 b32 b28 hval h hwt) with rfl|⟨c,s,l,m,cap,φ,hR,rfl⟩
 ·exact law_runMD (φ:=fun _=>(0,0,0)) (envUn hg) (w8n g) ⟨rfl,by decide,trivial⟩ ⟨Below.refl _ _,by simp,by simp,by simp,by simp,by simp⟩ rfl
 ·have hE:=envUy hg (c:=c) (s:=s) (m:=m) (l:=l) (cap:=cap)
  cases hv:decide (2000<hvX c l m 0 (m:Int)) with
  |true=>exact law_runMD hE (w8t g c s l m cap) (All_ap ⟨hv,trivial⟩ (ob9_ok hR)) hR.rel rfl
  |false=>exact law_runMD hE (w8f g c s l m cap) (All_ap (All_ap ⟨hv,trivial⟩ (ob9_ok hR)) ⟨rfl,rfl,wfY _ _ _ _ _,trivial⟩) hR.rel rfl
def cuB (z:Int):Bool:=decide (z=1)||decide (z=2)
def sbB (s:ByteArray):Bool:= !decide (s.size<16)&& !decide (64<s.size)
def SCu:FuncId→Nat→Bool:=fun f t=>match f with|19=>memN t [4,7]|20=>memN t [5,9]|_=>false
theorem r19a (z:Int):callR (mkE [] SCu) 1000 19 [.one (.i z)] [true]=some ([decide (z=1)=true],bV true):=by kernel_rfl
theorem r19b (z:Int):callR (mkE [] SCu) 1000 19 [.one (.i z)] [false,true]=some ([decide (z=1)=false,decide (z=2)=true],bV true):=by kernel_rfl
theorem r19c (z:Int):callR (mkE [] SCu) 1000 19 [.one (.i z)] [false,false]=some ([decide (z=1)=false,decide (z=2)=false],bV false):=by kernel_rfl
theorem r20a (s:ByteArray):callR (mkE [] SCu) 1000 20 [sS s] [false]=some ([decide ((16:Int)≤(s.size:Int))=false],bV false):=by kernel_rfl
theorem r20b (s:ByteArray):callR (mkE [] SCu) 1000 20 [sS s] [true,false]=some ([decide ((16:Int)≤(s.size:Int))=true,decide ((s.size:Int)≤64)=false],bV false):=by kernel_rfl
theorem r20c (s:ByteArray):callR (mkE [] SCu) 1000 20 [sS s] [true,true]=some ([decide ((16:Int)≤(s.size:Int))=true,decide ((s.size:Int)≤64)=true],bV true):=by kernel_rfl
theorem envCu:EnvOK (mkE [] SCu):=envMk (L:=[]) trivial SCu
theorem spec19 (z:Int):Spec 19 [.one (.i z)] (bV (cuB z)):=by
 unfold cuB
 by_cases h1:z=1
 ·rw[decide_eq_true h1]
  exact spec_run envCu rfl (r19a z) ⟨decide_eq_true h1,trivial⟩ rfl rfl
 ·rw[decide_eq_false h1]
  by_cases h2:z=2
  ·rw[decide_eq_true h2]
   exact spec_run envCu rfl (r19b z) ⟨decide_eq_false h1,decide_eq_true h2,trivial⟩ rfl rfl
  ·rw[decide_eq_false h2]
   exact spec_run envCu rfl (r19c z) ⟨decide_eq_false h1,decide_eq_false h2,trivial⟩ rfl rfl
theorem spec20 (s:ByteArray):Spec 20 [sS s] (bV (sbB s)):=by
 unfold sbB
 by_cases h1:s.size<16
 ·rw[decide_eq_true h1]
  exact spec_run envCu rfl (r20a s) ⟨decide_eq_false (by omega),trivial⟩ rfl rfl
 ·rw[decide_eq_false h1]
  by_cases h2:64<s.size
  ·rw[decide_eq_true h2]
   exact spec_run envCu rfl (r20b s) ⟨decide_eq_true (by omega),decide_eq_false (by omega),trivial⟩ rfl rfl
  ·rw[decide_eq_false h2]
   exact spec_run envCu rfl (r20c s) ⟨decide_eq_true (by omega),decide_eq_true (by omega),trivial⟩ rfl rfl
noncomputable def muF (p:PuF):MuF:=⟨fun z s=>bif sdB z s then msK z s else e0,fun z s=>bif sdB z s then msC z s else e0,fun z s=>bif sdB z s then msE z s else 1,msK,msC,msE,cuB,sbB,p.b,puK p,puE p,puQ p⟩
theorem sd_split (z:Int) (s:ByteArray):sdB z s=(cuB z&&sbB s):=rfl
theorem cu_z {z:Int} (h:cuB z=true):z=1∨z=2:=by
 unfold cuB at h
 rw[Bool.or_eq_true,decide_eq_true_iff,decide_eq_true_iff] at h
 exact h
theorem sb_size {s:ByteArray} (h:sbB s=true):s.size≤64:=by
 unfold sbB at h
 rw[Bool.and_eq_true,Bool.not_eq_true',Bool.not_eq_true',decide_eq_false_iff_not,decide_eq_false_iff_not] at h
 omega
theorem cu22 (p:PuF):CTok ⟨22,fu22 (muF p)⟩:=by
 intro vs ob r h ho
 simp only[fu22] at h
 split at h
 ·simp only[Option.some.injEq,Prod.mk.injEq] at h
  obtain ⟨rfl,rfl⟩:=h
  exact spec22 _ _
 ·simp at h
theorem cu16 (p:PuF):CTok ⟨16,fu16 (muF p)⟩:=by
 intro vs ob r h ho
 simp only[fu16] at h
 split at h
 ·rename_i z s
  simp only[Option.some.injEq,Prod.mk.injEq] at h
  obtain ⟨rfl,rfl⟩:=h
  obtain ⟨h1,h2,_⟩:=ho
  have h3:=sb_size h2
  exact spec16 z s (cu_z h1) (by omega)
 ·simp at h
theorem cu19 (p:PuF):CTok ⟨19,fu19 (muF p)⟩:=by
 intro vs ob r h ho
 simp only[fu19] at h
 split at h
 ·simp only[Option.some.injEq,Prod.mk.injEq] at h
  obtain ⟨rfl,rfl⟩:=h
  exact spec19 _
 ·simp at h
theorem cu20 (p:PuF):CTok ⟨20,fu20 (muF p)⟩:=by
 intro vs ob r h ho
 simp only[fu20] at h
 split at h
 ·simp only[Option.some.injEq,Prod.mk.injEq] at h
  obtain ⟨rfl,rfl⟩:=h
  exact spec20 _
 ·simp at h
theorem cu24 {p:PuF} (hp:PuOk p):CTok ⟨24,fu24 (muF p)⟩:=by
 intro vs ob r h ho
 simp only[fu24] at h
 split at h
 ·simp only[Option.some.injEq,Prod.mk.injEq] at h
  obtain ⟨rfl,rfl⟩:=h
  exact spec24 hp _ _ _
 ·simp at h
theorem cu25 {p:PuF} (hp:PuOk p):CTok ⟨25,fu25 (muF p)⟩:=by
 intro vs ob r h ho
 simp only[fu25] at h
 split at h
 ·simp only[Option.some.injEq,Prod.mk.injEq] at h
  obtain ⟨rfl,rfl⟩:=h
  exact spec25 hp _ _ _ ho.1
 ·simp at h
theorem muOk {p:PuF} (hp:PuOk p) (h11:CTok ⟨11,fp26 p⟩):MuOk (muF p):=by
 refine ⟨cu22 p,cu16 p,cu19 p,cu20 p,cu24 hp,h11,cu25 hp,wakes14,?_,?_,?_,?_⟩
 ·intro z s h1 h2
  have hs:sdB z s=true:=by rw[sd_split,show cuB z=true from h1,show sbB s=true from h2];rfl
  refine ⟨?_,?_,?_⟩
  ·show (bif sdB z s then msE z s else 1)=msE z s;rw[hs,cond_true]
  ·show (bif sdB z s then msK z s else e0)=msK z s;rw[hs,cond_true]
  ·show (bif sdB z s then msC z s else e0)=msC z s;rw[hs,cond_true]
 ·intro z s h1
  have hs:sdB z s=false:=by
   rw[sd_split]
   rcases h1 with h1|h1
   ·rw[show cuB z=false from h1];rfl
   ·rw[show sbB s=false from h1,Bool.and_false]
  refine ⟨?_,?_,?_⟩
  ·show (bif sdB z s then msE z s else 1)=1;rw[hs,cond_false]
  ·show (bif sdB z s then msK z s else e0)=e0;rw[hs,cond_false]
  ·show (bif sdB z s then msC z s else e0)=e0;rw[hs,cond_false]
 ·intro z k c h1
  refine ⟨?_,?_⟩
  ·show puE p z k c=0;unfold puE;rw[show p.b z k c=true from h1,cond_true]
  ·show puK p z k c=puQ p z k;unfold puK;rw[show p.b z k c=true from h1,cond_true]
 ·intro z k c h1
  refine ⟨?_,?_⟩
  ·show puE p z k c=1;unfold puE;rw[show p.b z k c=false from h1,cond_false]
  ·show puK p z k c=e0;unfold puK;rw[show p.b z k c=false from h1,cond_false]
theorem law8 {H:Type} {enc:TypeId×Value→H} {r:Reach} {W:World} {base:Nat} {v:Value} {d:DataW H} {ps:List MemPlace} (hval:Value.okWide Tryz.prog W r base 22 v) (h:DataW.Trod enc Tryz.prog W 0 (fun _=>true) true 22 v d ps) (hwt:∀n∈d.weights Tryz.prog 22,n≤BB):
  Calls Tryz.prog 8 #[v] W (Trues W):=law8G (muOk puOk ct11) hval h hwt
end Go.Ev.H5

namespace Go.Proofs.YtfcobjhnkghdjaaGreat.Laws
open Go Go.Ev Go.Ev.H5 Go.RowKit Go.ChangeShapes Go.WideShapes Go.ChangeAt

set_option maxRecDepth 100000 in
theorem lifted8 (os : Os) (started : os.Started) (H : Type) (enc : TypeId × Value → H) :
    ReturnsInHanded {} Tryz.checked os 8 .any (Rows.slipMastersSpec.pre6 enc Tryz.prog Tryz.f8 Rows.slipMastersRow.domain false) (Rows.slipMastersSpec.post enc Tryz.prog Tryz.f8 false true false false) := by
  refine returnsInHanded_of_change_sized (C := Tryz.checked) own started (by kernel_rfl) Tryz.func8
    (ChangeSpec.witness6 (enc := enc) (C := Tryz.checked) false ⟨#[], #[.slice none 0 0], []⟩ 8 (by kernel_rfl) (by kernel_rfl) (by kernel_rfl) (by kernel_rfl)) ?_
  intro W base args ds gs before hval0 hW _ hsz0 _
  have hsz : (DataW.weightsEach Tryz.prog (Tryz.f8.params.toList ++ Rows.slipMastersSpec.plain.varTypes Tryz.prog) (ds ++ gs)).all (· ≤ reachBytes) = true := hsz0
  clear hsz0
  have hval : ∀ (j : Nat) t v, Tryz.f8.params[j]? = some t → args[j]? = some v → Value.okWide Tryz.prog W .any base t v := hval0
  have hW' := hW
  obtain ⟨p, q, hA0, hV, hbef, hfz, hnd⟩ := hW
  have hp : Tryz.f8.params = #[22] := by kernel_rfl
  have hA : DataW.TrodAll enc Tryz.prog W 0 (fun _ => true) true Tryz.f8.params.toList args.toList ds p := hA0
  rw [hp] at hA hval
  obtain ⟨v0, d0, rfl, rfl, h0⟩ := trodAll_one hA
  obtain ⟨rfl, rfl⟩ := trodVars_none hV
  refine (law8 (hval 0 22 v0 rfl rfl) h0 (fun n hn => by simpa using List.all_eq_true.1 hsz n (DataW.weights_mem_each (j := 0) (t := 22) (by rw [hp]; rfl) rfl n hn))).mono ?_
  rintro e W' ⟨rfl, hb⟩
  exact ⟨_, rfl, post_true (tb := 4) rfl hp (by kernel_rfl) u4 laid rd22 row22 rfl rfl hW' hb⟩

theorem holds8 : Rows.SlipMastersSaid :=
  OpenClaim.holds_of_wide 8 Tryz.f8 rfl rfl rfl rfl rfl rfl rfl ⟨rfl, rfl, rfl, rfl, rfl⟩ rfl rfl rfl rfl rfl (by kernel_rfl) Tryz.func8 (by kernel_rfl)
    (of_decide_eq_true (by kernel_rfl)) (by unfold Func.isWrapper; first | (rw [if_pos (by decide +kernel)]; kernel_rfl) | (rw [if_neg (by decide +kernel)]; exact ⟨rfl, rfl⟩))
    (fun os started H enc _ => lifted8 os started H enc)

end Go.Proofs.YtfcobjhnkghdjaaGreat.Laws

namespace Go.Proofs.YtfcobjhnkghdjaaGreat
open Go
theorem slipMasters_holds : Rows.SlipMastersSaid := Laws.holds8
end Go.Proofs.YtfcobjhnkghdjaaGreat

