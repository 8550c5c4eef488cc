/- Roots, and points of the curve: what the functions on them come to; Bytes of numbers and of points; The points of the curve are a group; An evaluator of the model's code with values known in part, and its soundness -/
import Derived.Test.YtfcobjhnkghdjaaGreatPartK
import Derived.Test.YtfcobjhnkghdjaaGreatPartC
import Derived.SizedLaws
import Derived.Test.YtfcobjhnkghdjaaGreatPartA
namespace Go.Ev.H5.Ed
open Go Go.Proofs Go.RowKit
def dN : Nat := 37095705934669439343138083508754565189542113879843219016388785533085940283555
def bXN : Nat := 15112221349535400772501151409588531511454012693041857206046113283949847762202
def bYN : Nat := 46316835694926478169428394003475163141307993866256225615783033603165251855960
theorem dN_lt : dN < modN 0 := by decide +kernel
theorem bXN_lt : bXN < modN 0 := by decide +kernel
theorem bYN_lt : bYN < modN 0 := by decide +kernel
def cV (v : AV) : List V1 → Option (List Prop × AV) := fun vs => match vs with | [] => some ([], v) | _ => none
theorem ctV {f : FuncId} {v : AV} (h : Spec f [] v) : CTok ⟨f, cV v⟩ := by
 intro vs ob r hv ho
 simp only [cV] at hv
 split at hv
 ·simp only [Option.some.injEq, Prod.mk.injEq] at hv
  obtain ⟨rfl, rfl⟩ := hv
  exact h
 ·simp at hv
def P2 (x y : Nat) : V1 := .agg [.num 8 x, .num 8 y]
theorem ed101 : callR E0 1000 150 [] [] = some ([], .val (.agg [.a (.u .u32 324630691), .a (.u .u32 1978355146), .a (.u .u32 1094834347), .a (.u .u32 7342669), .a (.u .u32 2004478104), .a (.u .u32 2361868409), .a (.u .u32 728759923), .a (.u .u32 1375956206)])) := by kernel_rfl
theorem spec101d : Spec 150 [] (.val (N8 dN)) := (spec_run envE0 rfl ed101 trivial rfl rfl).congr (fun _ => rfl) (fun _ => by kernel_rfl)
theorem ed73 : callR E0 1000 137 [] [] = some ([], .val (.agg [.a (.u .u32 324630691), .a (.u .u32 1978355146), .a (.u .u32 1094834347), .a (.u .u32 7342669), .a (.u .u32 2004478104), .a (.u .u32 2361868409), .a (.u .u32 728759923), .a (.u .u32 1375956206)])) := by kernel_rfl
theorem spec73d : Spec 137 [] (.val (N8 dN)) := (spec_run envE0 rfl ed73 trivial rfl rfl).congr (fun _ => rfl) (fun _ => by kernel_rfl)
theorem ed34 : callR E0 1000 94 [] [] = some ([], .val (.agg [.a (.u .u32 2401621274), .a (.u .u32 3377868128), .a (.u .u32 2502272946), .a (.u .u32 1764542304), .a (.u .u32 4258716764), .a (.u .u32 3232031281), .a (.u .u32 3446559742), .a (.u .u32 560543443), .a (.u .u32 1717986904), .a (.u .u32 1717986918), .a (.u .u32 1717986918), .a (.u .u32 1717986918), .a (.u .u32 1717986918), .a (.u .u32 1717986918), .a (.u .u32 1717986918), .a (.u .u32 1717986918)])) := by kernel_rfl
theorem spec34b : Spec 94 [] (.val (P2 bXN bYN)) := (spec_run envE0 rfl ed34 trivial rfl rfl).congr (fun _ => rfl) (fun _ => by kernel_rfl)
theorem ed44 : callR E0 1000 70 [] [] = some ([], .val (.agg [.a (.u .u32 2401621274), .a (.u .u32 3377868128), .a (.u .u32 2502272946), .a (.u .u32 1764542304), .a (.u .u32 4258716764), .a (.u .u32 3232031281), .a (.u .u32 3446559742), .a (.u .u32 560543443), .a (.u .u32 1717986904), .a (.u .u32 1717986918), .a (.u .u32 1717986918), .a (.u .u32 1717986918), .a (.u .u32 1717986918), .a (.u .u32 1717986918), .a (.u .u32 1717986918), .a (.u .u32 1717986918)])) := by kernel_rfl
theorem spec44b : Spec 70 [] (.val (P2 bXN bYN)) := (spec_run envE0 rfl ed44 trivial rfl rfl).congr (fun _ => rfl) (fun _ => by kernel_rfl)
theorem ed37 : callR E0 1000 151 [] [] = some ([], .val (.agg [.a (.u .u32 0), .a (.u .u32 0), .a (.u .u32 0), .a (.u .u32 0), .a (.u .u32 0), .a (.u .u32 0), .a (.u .u32 0), .a (.u .u32 0), .a (.u .u32 1), .a (.u .u32 0), .a (.u .u32 0), .a (.u .u32 0), .a (.u .u32 0), .a (.u .u32 0), .a (.u .u32 0), .a (.u .u32 0)])) := by kernel_rfl
theorem spec37n : Spec 151 [] (.val (P2 0 1)) := (spec_run envE0 rfl ed37 trivial rfl rfl).congr (fun _ => rfl) (fun _ => by kernel_rfl)
theorem ed45 : callR (mkE L0 noS) 1000 135 [] [] = some ([1 < 4294967296], .val (.agg (.a (.u .u32 0) :: .a (.u .u32 0) :: .a (.u .u32 0) :: .a (.u .u32 0) :: .a (.u .u32 0) :: .a (.u .u32 0) :: .a (.u .u32 0) :: .a (.u .u32 0) :: [.num 8 1]))) := by kernel_rfl
theorem spec45n : Spec 135 [] (.val (P2 0 1)) := (spec_run (envMk L0_ok noS) rfl ed45 ⟨lit1, trivial⟩ rfl rfl).congr (fun _ => rfl) (fun _ => by kernel_rfl)
noncomputable def L8a : List CT := [⟨150, cV (.val (N8 dN))⟩, ⟨137, cV (.val (N8 dN))⟩, ⟨94, cV (.val (P2 bXN bYN))⟩, ⟨70, cV (.val (P2 bXN bYN))⟩, ⟨151, cV (.val (P2 0 1))⟩, ⟨135, cV (.val (P2 0 1))⟩] ++ L0
theorem L8a_ok : AllCT L8a := ⟨ctV spec101d, ctV spec73d, ctV spec34b, ctV spec44b, ctV spec37n, ctV spec45n, L0_ok⟩
structure E4 where
 x : Nat
 y : Nat
 z : Nat
 t : Nat
def E4.lt (p : E4) : Prop := p.x < modN 0 ∧ p.y < modN 0 ∧ p.z < modN 0 ∧ p.t < modN 0
def twE : Nat := addM (modN 0) (inN (modN 0) dN) (inN (modN 0) dN)
noncomputable def eA (p q : E4) : Nat := mmN (modN 0) (subM (modN 0) p.y p.x) (subM (modN 0) q.y q.x)
noncomputable def eB (p q : E4) : Nat := mmN (modN 0) (addM (modN 0) p.y p.x) (addM (modN 0) q.y q.x)
noncomputable def eC (p q : E4) : Nat := mmN (modN 0) (mmN (modN 0) p.t twE) q.t
noncomputable def eD (p q : E4) : Nat := mmN (modN 0) (addM (modN 0) p.z p.z) q.z
noncomputable def eE (p q : E4) : Nat := subM (modN 0) (eB p q) (eA p q)
noncomputable def eF (p q : E4) : Nat := subM (modN 0) (eD p q) (eC p q)
noncomputable def eG (p q : E4) : Nat := addM (modN 0) (eD p q) (eC p q)
noncomputable def eH (p q : E4) : Nat := addM (modN 0) (eB p q) (eA p q)
noncomputable def eAdd (p q : E4) : E4 := ⟨mmN (modN 0) (eE p q) (eF p q), mmN (modN 0) (eG p q) (eH p q), mmN (modN 0) (eF p q) (eG p q), mmN (modN 0) (eE p q) (eH p q)⟩
noncomputable def eLift (x y : Nat) : E4 := ⟨inN (modN 0) x, inN (modN 0) y, inN (modN 0) 1, mmN (modN 0) (inN (modN 0) x) (inN (modN 0) y)⟩
noncomputable def eDownX (p : E4) : Nat := outN (modN 0) (mmN (modN 0) p.x (minvN (modN 0) p.z))
noncomputable def eDownY (p : E4) : Nat := outN (modN 0) (mmN (modN 0) p.y (minvN (modN 0) p.z))
theorem twE_lt : twE < modN 0 := addM_lt (modN_pos 0)
theorem eAdd_lt (p q : E4) : (eAdd p q).lt := ⟨mmN_lt (modN_pos 0), mmN_lt (modN_pos 0), mmN_lt (modN_pos 0), mmN_lt (modN_pos 0)⟩
theorem eLift_lt (x y : Nat) : (eLift x y).lt := ⟨inN_lt (modN_pos 0), inN_lt (modN_pos 0), inN_lt (modN_pos 0), mmN_lt (modN_pos 0)⟩
noncomputable def eqE (x y : Nat) : Bool := decide (subM (modN 0) (mmN (modN 0) (inN (modN 0) y) (inN (modN 0) y)) (mmN (modN 0) (inN (modN 0) x) (inN (modN 0) x)) =
 addM (modN 0) (inN (modN 0) 1) (mmN (modN 0) (inN (modN 0) dN) (mmN (modN 0) (mmN (modN 0) (inN (modN 0) x) (inN (modN 0) x)) (mmN (modN 0) (inN (modN 0) y) (inN (modN 0) y)))))
def ltE (x y : Nat) : Bool := decide (x < modN 0) && decide (y < modN 0)
noncomputable def onE (x y : Nat) : Bool := ltE x y && eqE x y
theorem onE_lt {x y : Nat} (h : onE x y = true) : x < modN 0 ∧ y < modN 0 := by
 simp only [onE, ltE, Bool.and_eq_true, decide_eq_true_iff] at h
 exact h.1
noncomputable def L8b : List CT := ⟨105, fnS [.z, .s [.n8]] gFis⟩ :: L8a
theorem L8b_ok : AllCT L8b := ⟨ct85, L8a_ok⟩
end Go.Ev.H5.Ed

namespace Go.Ev.H5.Ed
open Go Go.Proofs Go.RowKit
noncomputable def L9a:List CT:=L8b
theorem L9a_ok:AllCT L9a:=L8b_ok
noncomputable def lawV:V1:= .agg [.num 8 (modN 0),.a (.u .u32 (facN 0)),.num 8 twE]
def e4V (p:E4):V1:= .agg [.num 8 p.x,.num 8 p.y,.num 8 p.z,.num 8 p.t]
def rg0:V1:=rgK 0
theorem ed68 (a:Nat):callR (mkE L9a noS) 1000 122 [] []=
  some ([(0:Int)≤(0:Int)∧(0:Int)<(4:Int),modN 0<4294967296^8,0<modN 0,dN<4294967296^8,modN 0<4294967296^8,inN (modN 0) dN<modN 0,inN (modN 0) dN<modN 0,inN (modN 0) dN<4294967296^8,inN (modN 0) dN<4294967296^8],.val lawV):=by kernel_rfl
theorem spec68e:Spec 122 [] (.val lawV):=spec_run (envMk L9a_ok noS) rfl (ed68 0) ⟨(by decide),(modN_lt _),(modN_pos _),(L8 dN_lt),(modN_lt _),(inN_lt (modN_pos _)),(inN_lt (modN_pos _)),(L8 (inN_lt (modN_pos _))),(L8 (inN_lt (modN_pos _))),trivial⟩ rfl rfl
theorem ed77 (a:Nat):callR (mkE L9a noS) 1000 102 [rg0] []=
  some ([okR (modN 0) (facR (limb (modN 0) 0)) (r2N (modN 0)),dN<modN 0,dN<4294967296^8,okR (modN 0) (facR (limb (modN 0) 0)) (r2N (modN 0)),inN (modN 0) dN<modN 0,inN (modN 0) dN<modN 0,inN (modN 0) dN<4294967296^8,inN (modN 0) dN<4294967296^8],.val (N8 twE)):=by kernel_rfl
theorem spec77e:Spec 102 [rg0] (.val (N8 twE)):=spec_run (envMk L9a_ok noS) rfl (ed77 0) ⟨(okR_K (by decide)),dN_lt,(L8 dN_lt),(okR_K (by decide)),(inN_lt (modN_pos _)),(inN_lt (modN_pos _)),(L8 (inN_lt (modN_pos _))),(L8 (inN_lt (modN_pos _))),trivial⟩ rfl rfl
theorem ed72 (x:Nat) (y:Nat):callR (mkE L9a noS) 1000 125 [lawV,P2 x y] []=
  some ([modN 0<4294967296^8,0<modN 0,x<4294967296^8,modN 0<4294967296^8,0<modN 0,y<4294967296^8,modN 0<4294967296^8,0<modN 0,1<4294967296,0<4294967296,0<4294967296,0<4294967296,0<4294967296,0<4294967296,0<4294967296,0<4294967296,modN 0<4294967296^8,inN (modN 0) x<modN 0,inN (modN 0) y<modN 0,goodF (modN 0) (facN 0),inN (modN 0) x<4294967296^8,inN (modN 0) y<4294967296^8],.val (e4V (eLift x y))):=by kernel_rfl
theorem spec72e (x y:Nat) (hx:x<modN 0) (hy:y<modN 0):Spec 125 [lawV,P2 x y] (.val (e4V (eLift x y))):=spec_run (envMk L9a_ok noS) rfl (ed72 x y) ⟨(modN_lt _),(modN_pos _),(by first|with_reducible assumption|with_reducible exact L8 (by with_reducible assumption)|exact decide_eq_true (by omega)|exact decide_eq_false (by omega)|omega),(modN_lt _),(modN_pos _),(by first|with_reducible assumption|with_reducible exact L8 (by with_reducible assumption)|exact decide_eq_true (by omega)|exact decide_eq_false (by omega)|omega),(modN_lt _),(modN_pos _),lit1,lit0,lit0,lit0,lit0,lit0,lit0,lit0,(modN_lt _),(inN_lt (modN_pos _)),(inN_lt (modN_pos _)),(good_fac (by decide)),(L8 (inN_lt (modN_pos _))),(L8 (inN_lt (modN_pos _))),trivial⟩ rfl rfl
theorem ed78 (x:Nat) (y:Nat):callR (mkE L9a noS) 1000 103 [rg0,P2 x y] []=
  some ([okR (modN 0) (facR (limb (modN 0) 0)) (r2N (modN 0)),x<modN 0,x<4294967296^8,okR (modN 0) (facR (limb (modN 0) 0)) (r2N (modN 0)),y<modN 0,y<4294967296^8,1<4294967296,okR (modN 0) (facR (limb (modN 0) 0)) (r2N (modN 0)),1<modN 0,1<4294967296^8,okR (modN 0) (facR (limb (modN 0) 0)) (r2N (modN 0)),inN (modN 0) x<modN 0,inN (modN 0) y<modN 0,inN (modN 0) x<4294967296^8,inN (modN 0) y<4294967296^8],.val (e4V (eLift x y))):=by kernel_rfl
theorem spec78e (x y:Nat) (hx:x<modN 0) (hy:y<modN 0):Spec 103 [rg0,P2 x y] (.val (e4V (eLift x y))):=spec_run (envMk L9a_ok noS) rfl (ed78 x y) ⟨(okR_K (by decide)),(by first|with_reducible assumption|with_reducible exact L8 (by with_reducible assumption)|exact decide_eq_true (by omega)|exact decide_eq_false (by omega)|omega),(by first|with_reducible assumption|with_reducible exact L8 (by with_reducible assumption)|exact decide_eq_true (by omega)|exact decide_eq_false (by omega)|omega),(okR_K (by decide)),(by first|with_reducible assumption|with_reducible exact L8 (by with_reducible assumption)|exact decide_eq_true (by omega)|exact decide_eq_false (by omega)|omega),(by first|with_reducible assumption|with_reducible exact L8 (by with_reducible assumption)|exact decide_eq_true (by omega)|exact decide_eq_false (by omega)|omega),lit1,(okR_K (by decide)),(modN_one _),lit1_8,(okR_K (by decide)),(inN_lt (modN_pos _)),(inN_lt (modN_pos _)),(L8 (inN_lt (modN_pos _))),(L8 (inN_lt (modN_pos _))),trivial⟩ rfl rfl
theorem ed70 (p:E4) (q:E4):callR (mkE L9a noS) 1000 152 [lawV,e4V p,e4V q] []=
  some ([modN 0<4294967296^8,p.2<modN 0,p.1<modN 0,p.2<4294967296^8,p.1<4294967296^8,modN 0<4294967296^8,q.2<modN 0,q.1<modN 0,q.2<4294967296^8,q.1<4294967296^8,modN 0<4294967296^8,subM (modN 0) p.2 p.1<modN 0,subM (modN 0) q.2 q.1<modN 0,goodF (modN 0) (facN 0),subM (modN 0) p.2 p.1<4294967296^8,subM (modN 0) q.2 q.1<4294967296^8,modN 0<4294967296^8,p.2<modN 0,p.1<modN 0,p.2<4294967296^8,p.1<4294967296^8,modN 0<4294967296^8,q.2<modN 0,q.1<modN 0,q.2<4294967296^8,q.1<4294967296^8,modN 0<4294967296^8,addM (modN 0) p.2 p.1<modN 0,addM (modN 0) q.2 q.1<modN 0,goodF (modN 0) (facN 0),addM (modN 0) p.2 p.1<4294967296^8,addM (modN 0) q.2 q.1<4294967296^8,modN 0<4294967296^8,p.4<modN 0,twE<modN 0,goodF (modN 0) (facN 0),p.4<4294967296^8,twE<4294967296^8,modN 0<4294967296^8,mmN (modN 0) p.4 twE<modN 0,q.4<modN 0,goodF (modN 0) (facN 0),mmN (modN 0) p.4 twE<4294967296^8,q.4<4294967296^8,modN 0<4294967296^8,p.3<modN 0,p.3<modN 0,p.3<4294967296^8,p.3<4294967296^8,modN 0<4294967296^8,addM (modN 0) p.3 p.3<modN 0,q.3<modN 0,goodF (modN 0) (facN 0),addM (modN 0) p.3 p.3<4294967296^8,q.3<4294967296^8,modN 0<4294967296^8,mmN (modN 0) (addM (modN 0) p.2 p.1) (addM (modN 0) q.2 q.1)<modN 0,mmN (modN 0) (subM (modN 0) p.2 p.1) (subM (modN 0) q.2 q.1)<modN 0,mmN (modN 0) (addM (modN 0) p.2 p.1) (addM (modN 0) q.2 q.1)<4294967296^8,mmN (modN 0) (subM (modN 0) p.2 p.1) (subM (modN 0) q.2 q.1)<4294967296^8,modN 0<4294967296^8,mmN (modN 0) (addM (modN 0) p.3 p.3) q.3<modN 0,mmN (modN 0) (mmN (modN 0) p.4 twE) q.4<modN 0,mmN (modN 0) (addM (modN 0) p.3 p.3) q.3<4294967296^8,mmN (modN 0) (mmN (modN 0) p.4 twE) q.4<4294967296^8,modN 0<4294967296^8,mmN (modN 0) (addM (modN 0) p.3 p.3) q.3<modN 0,mmN (modN 0) (mmN (modN 0) p.4 twE) q.4<modN 0,mmN (modN 0) (addM (modN 0) p.3 p.3) q.3<4294967296^8,mmN (modN 0) (mmN (modN 0) p.4 twE) q.4<4294967296^8,modN 0<4294967296^8,mmN (modN 0) (addM (modN 0) p.2 p.1) (addM (modN 0) q.2 q.1)<modN 0,mmN (modN 0) (subM (modN 0) p.2 p.1) (subM (modN 0) q.2 q.1)<modN 0,mmN (modN 0) (addM (modN 0) p.2 p.1) (addM (modN 0) q.2 q.1)<4294967296^8,mmN (modN 0) (subM (modN 0) p.2 p.1) (subM (modN 0) q.2 q.1)<4294967296^8,modN 0<4294967296^8,subM (modN 0) (mmN (modN 0) (addM (modN 0) p.2 p.1) (addM (modN 0) q.2 q.1)) (mmN (modN 0) (subM (modN 0) p.2 p.1) (subM (modN 0) q.2 q.1))<modN 0,subM (modN 0) (mmN (modN 0) (addM (modN 0) p.3 p.3) q.3) (mmN (modN 0) (mmN (modN 0) p.4 twE) q.4)<modN 0,goodF (modN 0) (facN 0),subM (modN 0) (mmN (modN 0) (addM (modN 0) p.2 p.1) (addM (modN 0) q.2 q.1)) (mmN (modN 0) (subM (modN 0) p.2 p.1) (subM (modN 0) q.2 q.1))<4294967296^8,subM (modN 0) (mmN (modN 0) (addM (modN 0) p.3 p.3) q.3) (mmN (modN 0) (mmN (modN 0) p.4 twE) q.4)<4294967296^8,modN 0<4294967296^8,addM (modN 0) (mmN (modN 0) (addM (modN 0) p.3 p.3) q.3) (mmN (modN 0) (mmN (modN 0) p.4 twE) q.4)<modN 0,addM (modN 0) (mmN (modN 0) (addM (modN 0) p.2 p.1) (addM (modN 0) q.2 q.1)) (mmN (modN 0) (subM (modN 0) p.2 p.1) (subM (modN 0) q.2 q.1))<modN 0,goodF (modN 0) (facN 0),addM (modN 0) (mmN (modN 0) (addM (modN 0) p.3 p.3) q.3) (mmN (modN 0) (mmN (modN 0) p.4 twE) q.4)<4294967296^8,addM (modN 0) (mmN (modN 0) (addM (modN 0) p.2 p.1) (addM (modN 0) q.2 q.1)) (mmN (modN 0) (subM (modN 0) p.2 p.1) (subM (modN 0) q.2 q.1))<4294967296^8,modN 0<4294967296^8,subM (modN 0) (mmN (modN 0) (addM (modN 0) p.3 p.3) q.3) (mmN (modN 0) (mmN (modN 0) p.4 twE) q.4)<modN 0,addM (modN 0) (mmN (modN 0) (addM (modN 0) p.3 p.3) q.3) (mmN (modN 0) (mmN (modN 0) p.4 twE) q.4)<modN 0,goodF (modN 0) (facN 0),subM (modN 0) (mmN (modN 0) (addM (modN 0) p.3 p.3) q.3) (mmN (modN 0) (mmN (modN 0) p.4 twE) q.4)<4294967296^8,addM (modN 0) (mmN (modN 0) (addM (modN 0) p.3 p.3) q.3) (mmN (modN 0) (mmN (modN 0) p.4 twE) q.4)<4294967296^8,modN 0<4294967296^8,subM (modN 0) (mmN (modN 0) (addM (modN 0) p.2 p.1) (addM (modN 0) q.2 q.1)) (mmN (modN 0) (subM (modN 0) p.2 p.1) (subM (modN 0) q.2 q.1))<modN 0,addM (modN 0) (mmN (modN 0) (addM (modN 0) p.2 p.1) (addM (modN 0) q.2 q.1)) (mmN (modN 0) (subM (modN 0) p.2 p.1) (subM (modN 0) q.2 q.1))<modN 0,goodF (modN 0) (facN 0),subM (modN 0) (mmN (modN 0) (addM (modN 0) p.2 p.1) (addM (modN 0) q.2 q.1)) (mmN (modN 0) (subM (modN 0) p.2 p.1) (subM (modN 0) q.2 q.1))<4294967296^8,addM (modN 0) (mmN (modN 0) (addM (modN 0) p.2 p.1) (addM (modN 0) q.2 q.1)) (mmN (modN 0) (subM (modN 0) p.2 p.1) (subM (modN 0) q.2 q.1))<4294967296^8],.val (e4V (eAdd p q))):=by kernel_rfl
theorem spec70e (p q:E4) (hp:p.lt) (hq:q.lt):Spec 152 [lawV,e4V p,e4V q] (.val (e4V (eAdd p q))):=by
 obtain ⟨h1,h2,h3,h4⟩:=hp
 obtain ⟨h5,h6,h7,h8⟩:=hq
 exact spec_run (envMk L9a_ok noS) rfl (ed70 p q) ⟨(modN_lt _),(by first|with_reducible assumption|with_reducible exact L8 (by with_reducible assumption)|exact decide_eq_true (by omega)|exact decide_eq_false (by omega)|omega),(by first|with_reducible assumption|with_reducible exact L8 (by with_reducible assumption)|exact decide_eq_true (by omega)|exact decide_eq_false (by omega)|omega),(by first|with_reducible assumption|with_reducible exact L8 (by with_reducible assumption)|exact decide_eq_true (by omega)|exact decide_eq_false (by omega)|omega),(by first|with_reducible assumption|with_reducible exact L8 (by with_reducible assumption)|exact decide_eq_true (by omega)|exact decide_eq_false (by omega)|omega),(modN_lt _),(by first|with_reducible assumption|with_reducible exact L8 (by with_reducible assumption)|exact decide_eq_true (by omega)|exact decide_eq_false (by omega)|omega),(by first|with_reducible assumption|with_reducible exact L8 (by with_reducible assumption)|exact decide_eq_true (by omega)|exact decide_eq_false (by omega)|omega),(by first|with_reducible assumption|with_reducible exact L8 (by with_reducible assumption)|exact decide_eq_true (by omega)|exact decide_eq_false (by omega)|omega),(by first|with_reducible assumption|with_reducible exact L8 (by with_reducible assumption)|exact decide_eq_true (by omega)|exact decide_eq_false (by omega)|omega),(modN_lt _),(subM_lt (modN_pos _)),(subM_lt (modN_pos _)),(good_fac (by decide)),(L8 (subM_lt (modN_pos _))),(L8 (subM_lt (modN_pos _))),(modN_lt _),(by first|with_reducible assumption|with_reducible exact L8 (by with_reducible assumption)|exact decide_eq_true (by omega)|exact decide_eq_false (by omega)|omega),(by first|with_reducible assumption|with_reducible exact L8 (by with_reducible assumption)|exact decide_eq_true (by omega)|exact decide_eq_false (by omega)|omega),(by first|with_reducible assumption|with_reducible exact L8 (by with_reducible assumption)|exact decide_eq_true (by omega)|exact decide_eq_false (by omega)|omega),(by first|with_reducible assumption|with_reducible exact L8 (by with_reducible assumption)|exact decide_eq_true (by omega)|exact decide_eq_false (by omega)|omega),(modN_lt _),(by first|with_reducible assumption|with_reducible exact L8 (by with_reducible assumption)|exact decide_eq_true (by omega)|exact decide_eq_false (by omega)|omega),(by first|with_reducible assumption|with_reducible exact L8 (by with_reducible assumption)|exact decide_eq_true (by omega)|exact decide_eq_false (by omega)|omega),(by first|with_reducible assumption|with_reducible exact L8 (by with_reducible assumption)|exact decide_eq_true (by omega)|exact decide_eq_false (by omega)|omega),(by first|with_reducible assumption|with_reducible exact L8 (by with_reducible assumption)|exact decide_eq_true (by omega)|exact decide_eq_false (by omega)|omega),(modN_lt _),(addM_lt (modN_pos _)),(addM_lt (modN_pos _)),(good_fac (by decide)),(L8 (addM_lt (modN_pos _))),(L8 (addM_lt (modN_pos _))),(modN_lt _),(by first|with_reducible assumption|with_reducible exact L8 (by with_reducible assumption)|exact decide_eq_true (by omega)|exact decide_eq_false (by omega)|omega),twE_lt,(good_fac (by decide)),(by first|with_reducible assumption|with_reducible exact L8 (by with_reducible assumption)|exact decide_eq_true (by omega)|exact decide_eq_false (by omega)|omega),(L8 twE_lt),(modN_lt _),(mmN_lt (modN_pos _)),(by first|with_reducible assumption|with_reducible exact L8 (by with_reducible assumption)|exact decide_eq_true (by omega)|exact decide_eq_false (by omega)|omega),(good_fac (by decide)),(L8 (mmN_lt (modN_pos _))),(by first|with_reducible assumption|with_reducible exact L8 (by with_reducible assumption)|exact decide_eq_true (by omega)|exact decide_eq_false (by omega)|omega),(modN_lt _),(by first|with_reducible assumption|with_reducible exact L8 (by with_reducible assumption)|exact decide_eq_true (by omega)|exact decide_eq_false (by omega)|omega),(by first|with_reducible assumption|with_reducible exact L8 (by with_reducible assumption)|exact decide_eq_true (by omega)|exact decide_eq_false (by omega)|omega),(by first|with_reducible assumption|with_reducible exact L8 (by with_reducible assumption)|exact decide_eq_true (by omega)|exact decide_eq_false (by omega)|omega),(by first|with_reducible assumption|with_reducible exact L8 (by with_reducible assumption)|exact decide_eq_true (by omega)|exact decide_eq_false (by omega)|omega),(modN_lt _),(addM_lt (modN_pos _)),(by first|with_reducible assumption|with_reducible exact L8 (by with_reducible assumption)|exact decide_eq_true (by omega)|exact decide_eq_false (by omega)|omega),(good_fac (by decide)),(L8 (addM_lt (modN_pos _))),(by first|with_reducible assumption|with_reducible exact L8 (by with_reducible assumption)|exact decide_eq_true (by omega)|exact decide_eq_false (by omega)|omega),(modN_lt _),(mmN_lt (modN_pos _)),(mmN_lt (modN_pos _)),(L8 (mmN_lt (modN_pos _))),(L8 (mmN_lt (modN_pos _))),(modN_lt _),(mmN_lt (modN_pos _)),(mmN_lt (modN_pos _)),(L8 (mmN_lt (modN_pos _))),(L8 (mmN_lt (modN_pos _))),(modN_lt _),(mmN_lt (modN_pos _)),(mmN_lt (modN_pos _)),(L8 (mmN_lt (modN_pos _))),(L8 (mmN_lt (modN_pos _))),(modN_lt _),(mmN_lt (modN_pos _)),(mmN_lt (modN_pos _)),(L8 (mmN_lt (modN_pos _))),(L8 (mmN_lt (modN_pos _))),(modN_lt _),(subM_lt (modN_pos _)),(subM_lt (modN_pos _)),(good_fac (by decide)),(L8 (subM_lt (modN_pos _))),(L8 (subM_lt (modN_pos _))),(modN_lt _),(addM_lt (modN_pos _)),(addM_lt (modN_pos _)),(good_fac (by decide)),(L8 (addM_lt (modN_pos _))),(L8 (addM_lt (modN_pos _))),(modN_lt _),(subM_lt (modN_pos _)),(addM_lt (modN_pos _)),(good_fac (by decide)),(L8 (subM_lt (modN_pos _))),(L8 (addM_lt (modN_pos _))),(modN_lt _),(subM_lt (modN_pos _)),(addM_lt (modN_pos _)),(good_fac (by decide)),(L8 (subM_lt (modN_pos _))),(L8 (addM_lt (modN_pos _))),trivial⟩ rfl rfl
theorem ed79 (p:E4) (q:E4):callR (mkE L9a noS) 1000 136 [rg0,N8 twE,e4V p,e4V q] []=
  some ([okR (modN 0) (facR (limb (modN 0) 0)) (r2N (modN 0)),p.2<modN 0,p.1<modN 0,p.2<4294967296^8,p.1<4294967296^8,okR (modN 0) (facR (limb (modN 0) 0)) (r2N (modN 0)),q.2<modN 0,q.1<modN 0,q.2<4294967296^8,q.1<4294967296^8,okR (modN 0) (facR (limb (modN 0) 0)) (r2N (modN 0)),subM (modN 0) p.2 p.1<modN 0,subM (modN 0) q.2 q.1<modN 0,subM (modN 0) p.2 p.1<4294967296^8,subM (modN 0) q.2 q.1<4294967296^8,okR (modN 0) (facR (limb (modN 0) 0)) (r2N (modN 0)),p.2<modN 0,p.1<modN 0,p.2<4294967296^8,p.1<4294967296^8,okR (modN 0) (facR (limb (modN 0) 0)) (r2N (modN 0)),q.2<modN 0,q.1<modN 0,q.2<4294967296^8,q.1<4294967296^8,okR (modN 0) (facR (limb (modN 0) 0)) (r2N (modN 0)),addM (modN 0) p.2 p.1<modN 0,addM (modN 0) q.2 q.1<modN 0,addM (modN 0) p.2 p.1<4294967296^8,addM (modN 0) q.2 q.1<4294967296^8,okR (modN 0) (facR (limb (modN 0) 0)) (r2N (modN 0)),p.4<modN 0,twE<modN 0,p.4<4294967296^8,twE<4294967296^8,okR (modN 0) (facR (limb (modN 0) 0)) (r2N (modN 0)),mmN (modN 0) p.4 twE<modN 0,q.4<modN 0,mmN (modN 0) p.4 twE<4294967296^8,q.4<4294967296^8,okR (modN 0) (facR (limb (modN 0) 0)) (r2N (modN 0)),p.3<modN 0,p.3<modN 0,p.3<4294967296^8,p.3<4294967296^8,okR (modN 0) (facR (limb (modN 0) 0)) (r2N (modN 0)),addM (modN 0) p.3 p.3<modN 0,q.3<modN 0,addM (modN 0) p.3 p.3<4294967296^8,q.3<4294967296^8,okR (modN 0) (facR (limb (modN 0) 0)) (r2N (modN 0)),mmN (modN 0) (addM (modN 0) p.2 p.1) (addM (modN 0) q.2 q.1)<modN 0,mmN (modN 0) (subM (modN 0) p.2 p.1) (subM (modN 0) q.2 q.1)<modN 0,mmN (modN 0) (addM (modN 0) p.2 p.1) (addM (modN 0) q.2 q.1)<4294967296^8,mmN (modN 0) (subM (modN 0) p.2 p.1) (subM (modN 0) q.2 q.1)<4294967296^8,okR (modN 0) (facR (limb (modN 0) 0)) (r2N (modN 0)),mmN (modN 0) (addM (modN 0) p.3 p.3) q.3<modN 0,mmN (modN 0) (mmN (modN 0) p.4 twE) q.4<modN 0,mmN (modN 0) (addM (modN 0) p.3 p.3) q.3<4294967296^8,mmN (modN 0) (mmN (modN 0) p.4 twE) q.4<4294967296^8,okR (modN 0) (facR (limb (modN 0) 0)) (r2N (modN 0)),mmN (modN 0) (addM (modN 0) p.3 p.3) q.3<modN 0,mmN (modN 0) (mmN (modN 0) p.4 twE) q.4<modN 0,mmN (modN 0) (addM (modN 0) p.3 p.3) q.3<4294967296^8,mmN (modN 0) (mmN (modN 0) p.4 twE) q.4<4294967296^8,okR (modN 0) (facR (limb (modN 0) 0)) (r2N (modN 0)),mmN (modN 0) (addM (modN 0) p.2 p.1) (addM (modN 0) q.2 q.1)<modN 0,mmN (modN 0) (subM (modN 0) p.2 p.1) (subM (modN 0) q.2 q.1)<modN 0,mmN (modN 0) (addM (modN 0) p.2 p.1) (addM (modN 0) q.2 q.1)<4294967296^8,mmN (modN 0) (subM (modN 0) p.2 p.1) (subM (modN 0) q.2 q.1)<4294967296^8,okR (modN 0) (facR (limb (modN 0) 0)) (r2N (modN 0)),subM (modN 0) (mmN (modN 0) (addM (modN 0) p.2 p.1) (addM (modN 0) q.2 q.1)) (mmN (modN 0) (subM (modN 0) p.2 p.1) (subM (modN 0) q.2 q.1))<modN 0,subM (modN 0) (mmN (modN 0) (addM (modN 0) p.3 p.3) q.3) (mmN (modN 0) (mmN (modN 0) p.4 twE) q.4)<modN 0,subM (modN 0) (mmN (modN 0) (addM (modN 0) p.2 p.1) (addM (modN 0) q.2 q.1)) (mmN (modN 0) (subM (modN 0) p.2 p.1) (subM (modN 0) q.2 q.1))<4294967296^8,subM (modN 0) (mmN (modN 0) (addM (modN 0) p.3 p.3) q.3) (mmN (modN 0) (mmN (modN 0) p.4 twE) q.4)<4294967296^8,okR (modN 0) (facR (limb (modN 0) 0)) (r2N (modN 0)),addM (modN 0) (mmN (modN 0) (addM (modN 0) p.3 p.3) q.3) (mmN (modN 0) (mmN (modN 0) p.4 twE) q.4)<modN 0,addM (modN 0) (mmN (modN 0) (addM (modN 0) p.2 p.1) (addM (modN 0) q.2 q.1)) (mmN (modN 0) (subM (modN 0) p.2 p.1) (subM (modN 0) q.2 q.1))<modN 0,addM (modN 0) (mmN (modN 0) (addM (modN 0) p.3 p.3) q.3) (mmN (modN 0) (mmN (modN 0) p.4 twE) q.4)<4294967296^8,addM (modN 0) (mmN (modN 0) (addM (modN 0) p.2 p.1) (addM (modN 0) q.2 q.1)) (mmN (modN 0) (subM (modN 0) p.2 p.1) (subM (modN 0) q.2 q.1))<4294967296^8,okR (modN 0) (facR (limb (modN 0) 0)) (r2N (modN 0)),subM (modN 0) (mmN (modN 0) (addM (modN 0) p.3 p.3) q.3) (mmN (modN 0) (mmN (modN 0) p.4 twE) q.4)<modN 0,addM (modN 0) (mmN (modN 0) (addM (modN 0) p.3 p.3) q.3) (mmN (modN 0) (mmN (modN 0) p.4 twE) q.4)<modN 0,subM (modN 0) (mmN (modN 0) (addM (modN 0) p.3 p.3) q.3) (mmN (modN 0) (mmN (modN 0) p.4 twE) q.4)<4294967296^8,addM (modN 0) (mmN (modN 0) (addM (modN 0) p.3 p.3) q.3) (mmN (modN 0) (mmN (modN 0) p.4 twE) q.4)<4294967296^8,okR (modN 0) (facR (limb (modN 0) 0)) (r2N (modN 0)),subM (modN 0) (mmN (modN 0) (addM (modN 0) p.2 p.1) (addM (modN 0) q.2 q.1)) (mmN (modN 0) (subM (modN 0) p.2 p.1) (subM (modN 0) q.2 q.1))<modN 0,addM (modN 0) (mmN (modN 0) (addM (modN 0) p.2 p.1) (addM (modN 0) q.2 q.1)) (mmN (modN 0) (subM (modN 0) p.2 p.1) (subM (modN 0) q.2 q.1))<modN 0,subM (modN 0) (mmN (modN 0) (addM (modN 0) p.2 p.1) (addM (modN 0) q.2 q.1)) (mmN (modN 0) (subM (modN 0) p.2 p.1) (subM (modN 0) q.2 q.1))<4294967296^8,addM (modN 0) (mmN (modN 0) (addM (modN 0) p.2 p.1) (addM (modN 0) q.2 q.1)) (mmN (modN 0) (subM (modN 0) p.2 p.1) (subM (modN 0) q.2 q.1))<4294967296^8],.val (e4V (eAdd p q))):=by kernel_rfl
theorem spec79e (p q:E4) (hp:p.lt) (hq:q.lt):Spec 136 [rg0,N8 twE,e4V p,e4V q] (.val (e4V (eAdd p q))):=by
 obtain ⟨h1,h2,h3,h4⟩:=hp
 obtain ⟨h5,h6,h7,h8⟩:=hq
 exact spec_run (envMk L9a_ok noS) rfl (ed79 p q) ⟨(okR_K (by decide)),(by first|with_reducible assumption|with_reducible exact L8 (by with_reducible assumption)|exact decide_eq_true (by omega)|exact decide_eq_false (by omega)|omega),(by first|with_reducible assumption|with_reducible exact L8 (by with_reducible assumption)|exact decide_eq_true (by omega)|exact decide_eq_false (by omega)|omega),(by first|with_reducible assumption|with_reducible exact L8 (by with_reducible assumption)|exact decide_eq_true (by omega)|exact decide_eq_false (by omega)|omega),(by first|with_reducible assumption|with_reducible exact L8 (by with_reducible assumption)|exact decide_eq_true (by omega)|exact decide_eq_false (by omega)|omega),(okR_K (by decide)),(by first|with_reducible assumption|with_reducible exact L8 (by with_reducible assumption)|exact decide_eq_true (by omega)|exact decide_eq_false (by omega)|omega),(by first|with_reducible assumption|with_reducible exact L8 (by with_reducible assumption)|exact decide_eq_true (by omega)|exact decide_eq_false (by omega)|omega),(by first|with_reducible assumption|with_reducible exact L8 (by with_reducible assumption)|exact decide_eq_true (by omega)|exact decide_eq_false (by omega)|omega),(by first|with_reducible assumption|with_reducible exact L8 (by with_reducible assumption)|exact decide_eq_true (by omega)|exact decide_eq_false (by omega)|omega),(okR_K (by decide)),(subM_lt (modN_pos _)),(subM_lt (modN_pos _)),(L8 (subM_lt (modN_pos _))),(L8 (subM_lt (modN_pos _))),(okR_K (by decide)),(by first|with_reducible assumption|with_reducible exact L8 (by with_reducible assumption)|exact decide_eq_true (by omega)|exact decide_eq_false (by omega)|omega),(by first|with_reducible assumption|with_reducible exact L8 (by with_reducible assumption)|exact decide_eq_true (by omega)|exact decide_eq_false (by omega)|omega),(by first|with_reducible assumption|with_reducible exact L8 (by with_reducible assumption)|exact decide_eq_true (by omega)|exact decide_eq_false (by omega)|omega),(by first|with_reducible assumption|with_reducible exact L8 (by with_reducible assumption)|exact decide_eq_true (by omega)|exact decide_eq_false (by omega)|omega),(okR_K (by decide)),(by first|with_reducible assumption|with_reducible exact L8 (by with_reducible assumption)|exact decide_eq_true (by omega)|exact decide_eq_false (by omega)|omega),(by first|with_reducible assumption|with_reducible exact L8 (by with_reducible assumption)|exact decide_eq_true (by omega)|exact decide_eq_false (by omega)|omega),(by first|with_reducible assumption|with_reducible exact L8 (by with_reducible assumption)|exact decide_eq_true (by omega)|exact decide_eq_false (by omega)|omega),(by first|with_reducible assumption|with_reducible exact L8 (by with_reducible assumption)|exact decide_eq_true (by omega)|exact decide_eq_false (by omega)|omega),(okR_K (by decide)),(addM_lt (modN_pos _)),(addM_lt (modN_pos _)),(L8 (addM_lt (modN_pos _))),(L8 (addM_lt (modN_pos _))),(okR_K (by decide)),(by first|with_reducible assumption|with_reducible exact L8 (by with_reducible assumption)|exact decide_eq_true (by omega)|exact decide_eq_false (by omega)|omega),twE_lt,(by first|with_reducible assumption|with_reducible exact L8 (by with_reducible assumption)|exact decide_eq_true (by omega)|exact decide_eq_false (by omega)|omega),(L8 twE_lt),(okR_K (by decide)),(mmN_lt (modN_pos _)),(by first|with_reducible assumption|with_reducible exact L8 (by with_reducible assumption)|exact decide_eq_true (by omega)|exact decide_eq_false (by omega)|omega),(L8 (mmN_lt (modN_pos _))),(by first|with_reducible assumption|with_reducible exact L8 (by with_reducible assumption)|exact decide_eq_true (by omega)|exact decide_eq_false (by omega)|omega),(okR_K (by decide)),(by first|with_reducible assumption|with_reducible exact L8 (by with_reducible assumption)|exact decide_eq_true (by omega)|exact decide_eq_false (by omega)|omega),(by first|with_reducible assumption|with_reducible exact L8 (by with_reducible assumption)|exact decide_eq_true (by omega)|exact decide_eq_false (by omega)|omega),(by first|with_reducible assumption|with_reducible exact L8 (by with_reducible assumption)|exact decide_eq_true (by omega)|exact decide_eq_false (by omega)|omega),(by first|with_reducible assumption|with_reducible exact L8 (by with_reducible assumption)|exact decide_eq_true (by omega)|exact decide_eq_false (by omega)|omega),(okR_K (by decide)),(addM_lt (modN_pos _)),(by first|with_reducible assumption|with_reducible exact L8 (by with_reducible assumption)|exact decide_eq_true (by omega)|exact decide_eq_false (by omega)|omega),(L8 (addM_lt (modN_pos _))),(by first|with_reducible assumption|with_reducible exact L8 (by with_reducible assumption)|exact decide_eq_true (by omega)|exact decide_eq_false (by omega)|omega),(okR_K (by decide)),(mmN_lt (modN_pos _)),(mmN_lt (modN_pos _)),(L8 (mmN_lt (modN_pos _))),(L8 (mmN_lt (modN_pos _))),(okR_K (by decide)),(mmN_lt (modN_pos _)),(mmN_lt (modN_pos _)),(L8 (mmN_lt (modN_pos _))),(L8 (mmN_lt (modN_pos _))),(okR_K (by decide)),(mmN_lt (modN_pos _)),(mmN_lt (modN_pos _)),(L8 (mmN_lt (modN_pos _))),(L8 (mmN_lt (modN_pos _))),(okR_K (by decide)),(mmN_lt (modN_pos _)),(mmN_lt (modN_pos _)),(L8 (mmN_lt (modN_pos _))),(L8 (mmN_lt (modN_pos _))),(okR_K (by decide)),(subM_lt (modN_pos _)),(subM_lt (modN_pos _)),(L8 (subM_lt (modN_pos _))),(L8 (subM_lt (modN_pos _))),(okR_K (by decide)),(addM_lt (modN_pos _)),(addM_lt (modN_pos _)),(L8 (addM_lt (modN_pos _))),(L8 (addM_lt (modN_pos _))),(okR_K (by decide)),(subM_lt (modN_pos _)),(addM_lt (modN_pos _)),(L8 (subM_lt (modN_pos _))),(L8 (addM_lt (modN_pos _))),(okR_K (by decide)),(subM_lt (modN_pos _)),(addM_lt (modN_pos _)),(L8 (subM_lt (modN_pos _))),(L8 (addM_lt (modN_pos _))),trivial⟩ rfl rfl
theorem ed69 (p:E4):callR (mkE L9a noS) 1000 123 [lawV,e4V p] []=
  some ([modN 0<4294967296^8,p.3<modN 0,goodF (modN 0) (facN 0),p.3<4294967296^8,modN 0<4294967296^8,p.1<modN 0,minvN (modN 0) p.3<modN 0,goodF (modN 0) (facN 0),p.1<4294967296^8,minvN (modN 0) p.3<4294967296^8,modN 0<4294967296^8,mmN (modN 0) p.1 (minvN (modN 0) p.3)<modN 0,goodF (modN 0) (facN 0),mmN (modN 0) p.1 (minvN (modN 0) p.3)<4294967296^8,modN 0<4294967296^8,p.2<modN 0,minvN (modN 0) p.3<modN 0,goodF (modN 0) (facN 0),p.2<4294967296^8,minvN (modN 0) p.3<4294967296^8,modN 0<4294967296^8,mmN (modN 0) p.2 (minvN (modN 0) p.3)<modN 0,goodF (modN 0) (facN 0),mmN (modN 0) p.2 (minvN (modN 0) p.3)<4294967296^8],.val (P2 (eDownX p) (eDownY p))):=by kernel_rfl
theorem spec69e (p:E4) (hp:p.lt):Spec 123 [lawV,e4V p] (.val (P2 (eDownX p) (eDownY p))):=by
 obtain ⟨h1,h2,h3,h4⟩:=hp
 exact spec_run (envMk L9a_ok noS) rfl (ed69 p) ⟨(modN_lt _),(by first|with_reducible assumption|with_reducible exact L8 (by with_reducible assumption)|exact decide_eq_true (by omega)|exact decide_eq_false (by omega)|omega),(good_fac (by decide)),(by first|with_reducible assumption|with_reducible exact L8 (by with_reducible assumption)|exact decide_eq_true (by omega)|exact decide_eq_false (by omega)|omega),(modN_lt _),(by first|with_reducible assumption|with_reducible exact L8 (by with_reducible assumption)|exact decide_eq_true (by omega)|exact decide_eq_false (by omega)|omega),(minvN_lt (modN_pos _)),(good_fac (by decide)),(by first|with_reducible assumption|with_reducible exact L8 (by with_reducible assumption)|exact decide_eq_true (by omega)|exact decide_eq_false (by omega)|omega),(L8 (minvN_lt (modN_pos _))),(modN_lt _),(mmN_lt (modN_pos _)),(good_fac (by decide)),(L8 (mmN_lt (modN_pos _))),(modN_lt _),(by first|with_reducible assumption|with_reducible exact L8 (by with_reducible assumption)|exact decide_eq_true (by omega)|exact decide_eq_false (by omega)|omega),(minvN_lt (modN_pos _)),(good_fac (by decide)),(by first|with_reducible assumption|with_reducible exact L8 (by with_reducible assumption)|exact decide_eq_true (by omega)|exact decide_eq_false (by omega)|omega),(L8 (minvN_lt (modN_pos _))),(modN_lt _),(mmN_lt (modN_pos _)),(good_fac (by decide)),(L8 (mmN_lt (modN_pos _))),trivial⟩ rfl rfl
theorem ed75 (p:E4):callR (mkE L9a noS) 1000 100 [rg0,e4V p] []=
  some ([2<4294967296,modN 0<4294967296^8,2<4294967296^8,okR (modN 0) (facR (limb (modN 0) 0)) (r2N (modN 0)),1<modN 0,p.3<modN 0,p.3<4294967296^8,subN (modN 0) (2)<4294967296^8,okR (modN 0) (facR (limb (modN 0) 0)) (r2N (modN 0)),p.1<modN 0,mpowN (modN 0) p.3 (subN (modN 0) (2))<modN 0,p.1<4294967296^8,mpowN (modN 0) p.3 (subN (modN 0) (2))<4294967296^8,okR (modN 0) (facR (limb (modN 0) 0)) (r2N (modN 0)),mmN (modN 0) p.1 (mpowN (modN 0) p.3 (subN (modN 0) (2)))<modN 0,mmN (modN 0) p.1 (mpowN (modN 0) p.3 (subN (modN 0) (2)))<4294967296^8,okR (modN 0) (facR (limb (modN 0) 0)) (r2N (modN 0)),p.2<modN 0,mpowN (modN 0) p.3 (subN (modN 0) (2))<modN 0,p.2<4294967296^8,mpowN (modN 0) p.3 (subN (modN 0) (2))<4294967296^8,okR (modN 0) (facR (limb (modN 0) 0)) (r2N (modN 0)),mmN (modN 0) p.2 (mpowN (modN 0) p.3 (subN (modN 0) (2)))<modN 0,mmN (modN 0) p.2 (mpowN (modN 0) p.3 (subN (modN 0) (2)))<4294967296^8],.val (P2 (eDownX p) (eDownY p))):=by kernel_rfl
theorem spec75e (p:E4) (hp:p.lt):Spec 100 [rg0,e4V p] (.val (P2 (eDownX p) (eDownY p))):=by
 obtain ⟨h1,h2,h3,h4⟩:=hp
 exact spec_run (envMk L9a_ok noS) rfl (ed75 p) ⟨lit2,(modN_lt _),lit2_8,(okR_K (by decide)),(modN_one _),(by first|with_reducible assumption|with_reducible exact L8 (by with_reducible assumption)|exact decide_eq_true (by omega)|exact decide_eq_false (by omega)|omega),(by first|with_reducible assumption|with_reducible exact L8 (by with_reducible assumption)|exact decide_eq_true (by omega)|exact decide_eq_false (by omega)|omega),(subN_lt _ _),(okR_K (by decide)),(by first|with_reducible assumption|with_reducible exact L8 (by with_reducible assumption)|exact decide_eq_true (by omega)|exact decide_eq_false (by omega)|omega),(mpowN_lt (modN_pos _)),(by first|with_reducible assumption|with_reducible exact L8 (by with_reducible assumption)|exact decide_eq_true (by omega)|exact decide_eq_false (by omega)|omega),(L8 (mpowN_lt (modN_pos _))),(okR_K (by decide)),(mmN_lt (modN_pos _)),(L8 (mmN_lt (modN_pos _))),(okR_K (by decide)),(by first|with_reducible assumption|with_reducible exact L8 (by with_reducible assumption)|exact decide_eq_true (by omega)|exact decide_eq_false (by omega)|omega),(mpowN_lt (modN_pos _)),(by first|with_reducible assumption|with_reducible exact L8 (by with_reducible assumption)|exact decide_eq_true (by omega)|exact decide_eq_false (by omega)|omega),(L8 (mpowN_lt (modN_pos _))),(okR_K (by decide)),(mmN_lt (modN_pos _)),(L8 (mmN_lt (modN_pos _))),trivial⟩ rfl rfl
end Go.Ev.H5.Ed

namespace Go.Ev.H5.Ed
open Go Go.Proofs Go.RowKit
noncomputable def gOf:List Val→Option (List Prop×AV)
 |[.n m,.n q,.n w,.n x,.n y]=>some ([m=modN 0,q=facN 0,w=twE,x<modN 0,y<modN 0],.val (e4V (eLift x y)))
 |_=>none
noncomputable def gOfR:List Val→Option (List Prop×AV)
 |[.n m,.n q,.n w,.n x,.n y]=>some ([m=modN 0,q=facR (limb (modN 0) 0),w=r2N (modN 0),x<modN 0,y<modN 0],.val (e4V (eLift x y)))
 |_=>none
noncomputable def gEAdd:List Val→Option (List Prop×AV)
 |[.n m,.n q,.n w,.n x1,.n y1,.n z1,.n t1,.n x2,.n y2,.n z2,.n t2]=>some ([m=modN 0,q=facN 0,w=twE,E4.lt ⟨x1,y1,z1,t1⟩,E4.lt ⟨x2,y2,z2,t2⟩],.val (e4V (eAdd ⟨x1,y1,z1,t1⟩ ⟨x2,y2,z2,t2⟩)))
 |_=>none
noncomputable def gEAddR:List Val→Option (List Prop×AV)
 |[.n m,.n q,.n w,.n d,.n x1,.n y1,.n z1,.n t1,.n x2,.n y2,.n z2,.n t2]=>some ([m=modN 0,q=facR (limb (modN 0) 0),w=r2N (modN 0),d=twE,E4.lt ⟨x1,y1,z1,t1⟩,E4.lt ⟨x2,y2,z2,t2⟩],.val (e4V (eAdd ⟨x1,y1,z1,t1⟩ ⟨x2,y2,z2,t2⟩)))
 |_=>none
noncomputable def gDown:List Val→Option (List Prop×AV)
 |[.n m,.n q,.n w,.n x1,.n y1,.n z1,.n t1]=>some ([m=modN 0,q=facN 0,w=twE,E4.lt ⟨x1,y1,z1,t1⟩],.val (P2 (eDownX ⟨x1,y1,z1,t1⟩) (eDownY ⟨x1,y1,z1,t1⟩)))
 |_=>none
noncomputable def gDownR:List Val→Option (List Prop×AV)
 |[.n m,.n q,.n w,.n x1,.n y1,.n z1,.n t1]=>some ([m=modN 0,q=facR (limb (modN 0) 0),w=r2N (modN 0),E4.lt ⟨x1,y1,z1,t1⟩],.val (P2 (eDownX ⟨x1,y1,z1,t1⟩) (eDownY ⟨x1,y1,z1,t1⟩)))
 |_=>none
def gTw:List Val→Option (List Prop×AV)
 |[.n m,.n q,.n w]=>some ([m=modN 0,q=facR (limb (modN 0) 0),w=r2N (modN 0)],.val (N8 twE))
 |_=>none
def aLaw:Arg:= .s [.n8,.u32,.n8]
def aE4:Arg:= .s [.n8,.n8,.n8,.n8]
def aPt:Arg:= .s [.n8,.n8]
def aN:Arg:= .s [.n8]
theorem ct72:CTok ⟨125,fnS [aLaw,aPt] gOf⟩:=ctS (by
 intro xs ob r hb h ho
 unfold gOf at h
 split at h
 ·rename_i m q w x y
  simp only[Option.some.injEq,Prod.mk.injEq] at h
  obtain ⟨rfl,rfl⟩:=h
  obtain ⟨e0,e1,e2,h1,h2,_⟩:=ho
  subst e0 e1 e2
  have hS:=spec72e x y h1 h2
  exact hS
 ·simp at h)
theorem ct78:CTok ⟨103,fnS [aLaw,aPt] gOfR⟩:=ctS (by
 intro xs ob r hb h ho
 unfold gOfR at h
 split at h
 ·rename_i m q w x y
  simp only[Option.some.injEq,Prod.mk.injEq] at h
  obtain ⟨rfl,rfl⟩:=h
  obtain ⟨e0,e1,e2,h1,h2,_⟩:=ho
  have hS:=spec78e x y h1 h2
  unfold rg0 rgK rg at hS
  rw[←e2,←e1,←e0] at hS
  exact hS
 ·simp at h)
theorem ct70:CTok ⟨152,fnS [aLaw,aE4,aE4] gEAdd⟩:=ctS (by
 intro xs ob r hb h ho
 unfold gEAdd at h
 split at h
 ·rename_i m q w x1 y1 z1 t1 x2 y2 z2 t2
  simp only[Option.some.injEq,Prod.mk.injEq] at h
  obtain ⟨rfl,rfl⟩:=h
  obtain ⟨e0,e1,e2,h1,h2,_⟩:=ho
  subst e0 e1 e2
  have hS:=spec70e ⟨x1,y1,z1,t1⟩ ⟨x2,y2,z2,t2⟩ h1 h2
  exact hS
 ·simp at h)
theorem ct79:CTok ⟨136,fnS [aLaw,aN,aE4,aE4] gEAddR⟩:=ctS (by
 intro xs ob r hb h ho
 unfold gEAddR at h
 split at h
 ·rename_i m q w d x1 y1 z1 t1 x2 y2 z2 t2
  simp only[Option.some.injEq,Prod.mk.injEq] at h
  obtain ⟨rfl,rfl⟩:=h
  obtain ⟨e0,e1,e2,e3,h1,h2,_⟩:=ho
  have hS:=spec79e ⟨x1,y1,z1,t1⟩ ⟨x2,y2,z2,t2⟩ h1 h2
  unfold rg0 rgK rg at hS
  rw[←e2,←e1,←e0] at hS
  subst e3
  exact hS
 ·simp at h)
theorem ct69:CTok ⟨123,fnS [aLaw,aE4] gDown⟩:=ctS (by
 intro xs ob r hb h ho
 unfold gDown at h
 split at h
 ·rename_i m q w x1 y1 z1 t1
  simp only[Option.some.injEq,Prod.mk.injEq] at h
  obtain ⟨rfl,rfl⟩:=h
  obtain ⟨e0,e1,e2,h1,_⟩:=ho
  subst e0 e1 e2
  have hS:=spec69e ⟨x1,y1,z1,t1⟩ h1
  exact hS
 ·simp at h)
theorem ct75:CTok ⟨100,fnS [aLaw,aE4] gDownR⟩:=ctS (by
 intro xs ob r hb h ho
 unfold gDownR at h
 split at h
 ·rename_i m q w x1 y1 z1 t1
  simp only[Option.some.injEq,Prod.mk.injEq] at h
  obtain ⟨rfl,rfl⟩:=h
  obtain ⟨e0,e1,e2,h1,_⟩:=ho
  have hS:=spec75e ⟨x1,y1,z1,t1⟩ h1
  unfold rg0 rgK rg at hS
  rw[←e2,←e1,←e0] at hS
  exact hS
 ·simp at h)
theorem ct77:CTok ⟨102,fnS [aLaw] gTw⟩:=ctS (by
 intro xs ob r hb h ho
 unfold gTw at h
 split at h
 ·rename_i m q w
  simp only[Option.some.injEq,Prod.mk.injEq] at h
  obtain ⟨rfl,rfl⟩:=h
  obtain ⟨e0,e1,e2,_⟩:=ho
  have hS:=spec77e
  unfold rg0 rgK rg at hS
  rw[←e2,←e1,←e0] at hS
  exact hS
 ·simp at h)
noncomputable def L10:List CT:=[⟨122,cV (.val lawV)⟩,⟨102,fnS [aLaw] gTw⟩,⟨125,fnS [aLaw,aPt] gOf⟩,⟨103,fnS [aLaw,aPt] gOfR⟩,⟨152,fnS [aLaw,aE4,aE4] gEAdd⟩,⟨136,fnS [aLaw,aN,aE4,aE4] gEAddR⟩,⟨123,fnS [aLaw,aE4] gDown⟩,⟨100,fnS [aLaw,aE4] gDownR⟩]++L9a
theorem L10_ok:AllCT L10:=⟨ctV spec68e,ct77,ct72,ct78,ct70,ct79,ct69,ct75,L9a_ok⟩
theorem facN_lt32 (k:Nat):facN k<4294967296:=by unfold facN facF;omega
theorem facR_lt32 (u:Nat):facR u<4294967296:=by unfold facR;omega
theorem r2N_lt {k:Nat} (hk:k<4):r2N (modN k)<modN k:=(okR_K hk).2.2.1
noncomputable def eStep (k:Nat) (p:E4) (j:Nat) (x:E4):E4:=bif bitB k j then eAdd (eAdd x x) p else eAdd x x
noncomputable def eTimesG (k:Nat) (p:E4):Nat→E4→E4
 |0,x=>x
 |j+1,x=>eTimesG k p j (eStep k p j x)
noncomputable def eTimes (k:Nat) (p:E4):E4:=eTimesG k p (lenN k) (eLift 0 1)
theorem eStep_lt (k:Nat) (p:E4) (j:Nat) (x:E4):(eStep k p j x).lt:=by
 unfold eStep;cases bitB k j<;>exact eAdd_lt _ _
theorem eTimesG_lt (k:Nat) (p:E4):∀j x,x.lt→(eTimesG k p j x).lt
 |0,_,h=>h
 |j+1,x,_=>eTimesG_lt k p j _ (eStep_lt k p j x)
theorem eTimes_lt (k:Nat) (p:E4):(eTimes k p).lt:=eTimesG_lt k p _ _ (eLift_lt 0 1)
def T71 (i:Int):List AV:=slots 31 [(3,pV 0),(4,pV 1),(5,pV 2),(6,pV 3),(7,pV 4),(8,iV i)]
noncomputable def M71 (k:Nat) (p x:E4):List Blk:=[⟨[.num 8 (modN 0),.a (.u .u32 (facN 0)),.num 8 twE],143,true,false,0⟩,⟨[.num 8 k],51,true,false,0⟩,⟨[.num 8 p.x,.num 8 p.y,.num 8 p.z,.num 8 p.t],147,true,false,0⟩,⟨cellsU 32 0 zF,147,true,false,0⟩,⟨[.num 8 x.x,.num 8 x.y,.num 8 x.z,.num 8 x.t],147,true,false,0⟩]
noncomputable def S71:FuncId→Nat→Bool:=fun f t=>match f with|124=>memN t [14,16,18,25]|_=>false
noncomputable def E71:Env:=mkE L10 S71
theorem envE71:EnvOK E71:=envMk L10_ok S71
theorem wfT71 (k:Nat) (p x:E4) (i:Int):wfS (T71 i) (M71 k p x)=true:=by
 unfold wfS
 rw[show tmsWf (M71 k p x).length (T71 i)=true by show tmsWf 5 _=true;kernel_rfl,Bool.true_and]
 kernel_rfl
theorem ed71t (k:Nat) (p:E4) (x:E4) (j:Nat):runTo E71 1000 (Env.S E71 124) (bodyOf Tryz.prog 124 3) (T71 (↑j:Int)) (M71 k p x) [true,true] (T71 ((↑j:Int)-(1:Int))) 5=
  some ([decide ((0:Int)≤(↑j:Int))=true,modN 0<4294967296^8,facN 0<4294967296,twE<4294967296^8,x.1<4294967296^8,x.2<4294967296^8,x.3<4294967296^8,x.4<4294967296^8,x.1<4294967296^8,x.2<4294967296^8,x.3<4294967296^8,x.4<4294967296^8,modN 0=modN 0,facN 0=facN 0,twE=twE,E4.lt x,E4.lt x,bitB k j=true,k<4294967296^8,(0:Int)≤(↑j:Int)∧(↑j:Int)<(256:Int),modN 0<4294967296^8,facN 0<4294967296,twE<4294967296^8,mmN (modN 0) (subM (modN 0) (mmN (modN 0) (addM (modN 0) x.2 x.1) (addM (modN 0) x.2 x.1)) (mmN (modN 0) (subM (modN 0) x.2 x.1) (subM (modN 0) x.2 x.1))) (subM (modN 0) (mmN (modN 0) (addM (modN 0) x.3 x.3) x.3) (mmN (modN 0) (mmN (modN 0) x.4 twE) x.4))<4294967296^8,mmN (modN 0) (addM (modN 0) (mmN (modN 0) (addM (modN 0) x.3 x.3) x.3) (mmN (modN 0) (mmN (modN 0) x.4 twE) x.4)) (addM (modN 0) (mmN (modN 0) (addM (modN 0) x.2 x.1) (addM (modN 0) x.2 x.1)) (mmN (modN 0) (subM (modN 0) x.2 x.1) (subM (modN 0) x.2 x.1)))<4294967296^8,mmN (modN 0) (subM (modN 0) (mmN (modN 0) (addM (modN 0) x.3 x.3) x.3) (mmN (modN 0) (mmN (modN 0) x.4 twE) x.4)) (addM (modN 0) (mmN (modN 0) (addM (modN 0) x.3 x.3) x.3) (mmN (modN 0) (mmN (modN 0) x.4 twE) x.4))<4294967296^8,mmN (modN 0) (subM (modN 0) (mmN (modN 0) (addM (modN 0) x.2 x.1) (addM (modN 0) x.2 x.1)) (mmN (modN 0) (subM (modN 0) x.2 x.1) (subM (modN 0) x.2 x.1))) (addM (modN 0) (mmN (modN 0) (addM (modN 0) x.2 x.1) (addM (modN 0) x.2 x.1)) (mmN (modN 0) (subM (modN 0) x.2 x.1) (subM (modN 0) x.2 x.1)))<4294967296^8,p.1<4294967296^8,p.2<4294967296^8,p.3<4294967296^8,p.4<4294967296^8,modN 0=modN 0,facN 0=facN 0,twE=twE,E4.lt (E4.mk (E4.x (eAdd (x) (x))) (E4.y (eAdd (x) (x))) (E4.z (eAdd (x) (x))) (E4.t (eAdd (x) (x)))),E4.lt p,inI ((↑j:Int)-(1:Int))],.normal,T71 ((j:Int)-1),M71 k p (eAdd (eAdd x x) p)):=by kernel_rfl
theorem ed71f (k:Nat) (p:E4) (x:E4) (j:Nat):runTo E71 1000 (Env.S E71 124) (bodyOf Tryz.prog 124 3) (T71 (↑j:Int)) (M71 k p x) [true,false] (T71 ((↑j:Int)-(1:Int))) 5=
  some ([decide ((0:Int)≤(↑j:Int))=true,modN 0<4294967296^8,facN 0<4294967296,twE<4294967296^8,x.1<4294967296^8,x.2<4294967296^8,x.3<4294967296^8,x.4<4294967296^8,x.1<4294967296^8,x.2<4294967296^8,x.3<4294967296^8,x.4<4294967296^8,modN 0=modN 0,facN 0=facN 0,twE=twE,E4.lt x,E4.lt x,bitB k j=false,k<4294967296^8,(0:Int)≤(↑j:Int)∧(↑j:Int)<(256:Int),inI ((↑j:Int)-(1:Int))],.normal,T71 ((j:Int)-1),M71 k p (eAdd x x)):=by kernel_rfl
theorem ed71x (k:Nat) (p:E4) (x:E4):runTo E71 1000 (Env.S E71 124) (bodyOf Tryz.prog 124 3) (T71 (-1:Int)) (M71 k p x) [false] (T71 (-1:Int)) 5=
  some ([decide ((0:Int)≤(-1:Int))=false],.exit 0,T71 (-1),M71 k p x):=by kernel_rfl
theorem loop71 {k:Nat} {p:E4} (hk:k<4294967296^8) (hp:p.lt):∀(j:Nat) (x:E4),j≤256→x.lt→GoesN Tryz.prog (bodyOf Tryz.prog 124 3) (j+1) (.exit 0) (T71 ((j:Int)-1)) (M71 k p x) (T71 (-1)) (M71 k p (eTimesG k p j x))
 |0,x,_,hx=>by
  obtain ⟨hx1,hx2,hx3,hx4⟩:=id hx
  obtain ⟨hp1,hp2,hp3,hp4⟩:=id hp
  exact GoesN.out (by simp) (Runs.goes envE71 ⟨[false],_,ed71x k p x,⟨(by first|with_reducible assumption|with_reducible exact L8 (by with_reducible assumption)|exact decide_eq_true (by omega)|exact decide_eq_false (by omega)|omega),trivial⟩,wfT71 _ _ _ _⟩)
 |j+1,x,hj,hx=>by
  have ih:=loop71 hk hp j (eStep k p j x) (by omega) (eStep_lt k p j x)
  have hxx:=eAdd_lt x x
  obtain ⟨hx1,hx2,hx3,hx4⟩:=id hx
  obtain ⟨hp1,hp2,hp3,hp4⟩:=id hp
  obtain ⟨hq1,hq2,hq3,hq4⟩:=id hxx
  have h0:decide (0≤(j:Int))=true:=decide_eq_true (by omega)
  have hr:0≤(j:Int)∧(j:Int)<256:=by omega
  have hI:inI ((j:Int)-1):=by unfold inI;omega
  rw[show ((j+1:Nat):Int)-1=(j:Int) by omega]
  have hs:Goes Tryz.prog (bodyOf Tryz.prog 124 3) .normal (T71 (j:Int)) (M71 k p x) (T71 ((j:Int)-1)) (M71 k p (eStep k p j x)):=by
   unfold eStep
   cases hb:bitB k j with
   |true=>exact Runs.goes envE71 ⟨_,_,ed71t k p x j,⟨(by first|with_reducible assumption|with_reducible exact L8 (by with_reducible assumption)|exact decide_eq_true (by omega)|exact decide_eq_false (by omega)|omega),(modN_lt _),(facN_lt32 0),(L8 twE_lt),(by first|with_reducible assumption|with_reducible exact L8 (by with_reducible assumption)|exact decide_eq_true (by omega)|exact decide_eq_false (by omega)|omega),(by first|with_reducible assumption|with_reducible exact L8 (by with_reducible assumption)|exact decide_eq_true (by omega)|exact decide_eq_false (by omega)|omega),(by first|with_reducible assumption|with_reducible exact L8 (by with_reducible assumption)|exact decide_eq_true (by omega)|exact decide_eq_false (by omega)|omega),(by first|with_reducible assumption|with_reducible exact L8 (by with_reducible assumption)|exact decide_eq_true (by omega)|exact decide_eq_false (by omega)|omega),(by first|with_reducible assumption|with_reducible exact L8 (by with_reducible assumption)|exact decide_eq_true (by omega)|exact decide_eq_false (by omega)|omega),(by first|with_reducible assumption|with_reducible exact L8 (by with_reducible assumption)|exact decide_eq_true (by omega)|exact decide_eq_false (by omega)|omega),(by first|with_reducible assumption|with_reducible exact L8 (by with_reducible assumption)|exact decide_eq_true (by omega)|exact decide_eq_false (by omega)|omega),(by first|with_reducible assumption|with_reducible exact L8 (by with_reducible assumption)|exact decide_eq_true (by omega)|exact decide_eq_false (by omega)|omega),rfl,rfl,rfl,(by first|with_reducible assumption|with_reducible exact L8 (by with_reducible assumption)|exact decide_eq_true (by omega)|exact decide_eq_false (by omega)|omega),(by first|with_reducible assumption|with_reducible exact L8 (by with_reducible assumption)|exact decide_eq_true (by omega)|exact decide_eq_false (by omega)|omega),(by first|with_reducible assumption|with_reducible exact L8 (by with_reducible assumption)|exact decide_eq_true (by omega)|exact decide_eq_false (by omega)|omega),(by first|with_reducible assumption|with_reducible exact L8 (by with_reducible assumption)|exact decide_eq_true (by omega)|exact decide_eq_false (by omega)|omega),(by first|with_reducible assumption|with_reducible exact L8 (by with_reducible assumption)|exact decide_eq_true (by omega)|exact decide_eq_false (by omega)|omega),(modN_lt _),(facN_lt32 0),(L8 twE_lt),(L8 (mmN_lt (modN_pos _))),(L8 (mmN_lt (modN_pos _))),(L8 (mmN_lt (modN_pos _))),(L8 (mmN_lt (modN_pos _))),(by first|with_reducible assumption|with_reducible exact L8 (by with_reducible assumption)|exact decide_eq_true (by omega)|exact decide_eq_false (by omega)|omega),(by first|with_reducible assumption|with_reducible exact L8 (by with_reducible assumption)|exact decide_eq_true (by omega)|exact decide_eq_false (by omega)|omega),(by first|with_reducible assumption|with_reducible exact L8 (by with_reducible assumption)|exact decide_eq_true (by omega)|exact decide_eq_false (by omega)|omega),(by first|with_reducible assumption|with_reducible exact L8 (by with_reducible assumption)|exact decide_eq_true (by omega)|exact decide_eq_false (by omega)|omega),rfl,rfl,rfl,(by first|with_reducible assumption|exact eAdd_lt _ _|exact eLift_lt _ _|exact hxx),(by first|with_reducible assumption|with_reducible exact L8 (by with_reducible assumption)|exact decide_eq_true (by omega)|exact decide_eq_false (by omega)|omega),(by first|with_reducible assumption|with_reducible exact L8 (by with_reducible assumption)|exact decide_eq_true (by omega)|exact decide_eq_false (by omega)|omega),trivial⟩,wfT71 _ _ _ _⟩
   |false=>exact Runs.goes envE71 ⟨_,_,ed71f k p x j,⟨(by first|with_reducible assumption|with_reducible exact L8 (by with_reducible assumption)|exact decide_eq_true (by omega)|exact decide_eq_false (by omega)|omega),(modN_lt _),(facN_lt32 0),(L8 twE_lt),(by first|with_reducible assumption|with_reducible exact L8 (by with_reducible assumption)|exact decide_eq_true (by omega)|exact decide_eq_false (by omega)|omega),(by first|with_reducible assumption|with_reducible exact L8 (by with_reducible assumption)|exact decide_eq_true (by omega)|exact decide_eq_false (by omega)|omega),(by first|with_reducible assumption|with_reducible exact L8 (by with_reducible assumption)|exact decide_eq_true (by omega)|exact decide_eq_false (by omega)|omega),(by first|with_reducible assumption|with_reducible exact L8 (by with_reducible assumption)|exact decide_eq_true (by omega)|exact decide_eq_false (by omega)|omega),(by first|with_reducible assumption|with_reducible exact L8 (by with_reducible assumption)|exact decide_eq_true (by omega)|exact decide_eq_false (by omega)|omega),(by first|with_reducible assumption|with_reducible exact L8 (by with_reducible assumption)|exact decide_eq_true (by omega)|exact decide_eq_false (by omega)|omega),(by first|with_reducible assumption|with_reducible exact L8 (by with_reducible assumption)|exact decide_eq_true (by omega)|exact decide_eq_false (by omega)|omega),(by first|with_reducible assumption|with_reducible exact L8 (by with_reducible assumption)|exact decide_eq_true (by omega)|exact decide_eq_false (by omega)|omega),rfl,rfl,rfl,(by first|with_reducible assumption|with_reducible exact L8 (by with_reducible assumption)|exact decide_eq_true (by omega)|exact decide_eq_false (by omega)|omega),(by first|with_reducible assumption|with_reducible exact L8 (by with_reducible assumption)|exact decide_eq_true (by omega)|exact decide_eq_false (by omega)|omega),(by first|with_reducible assumption|with_reducible exact L8 (by with_reducible assumption)|exact decide_eq_true (by omega)|exact decide_eq_false (by omega)|omega),(by first|with_reducible assumption|with_reducible exact L8 (by with_reducible assumption)|exact decide_eq_true (by omega)|exact decide_eq_false (by omega)|omega),(by first|with_reducible assumption|with_reducible exact L8 (by with_reducible assumption)|exact decide_eq_true (by omega)|exact decide_eq_false (by omega)|omega),(by first|with_reducible assumption|with_reducible exact L8 (by with_reducible assumption)|exact decide_eq_true (by omega)|exact decide_eq_false (by omega)|omega),trivial⟩,wfT71 _ _ _ _⟩
  exact GoesN.cons (M1:=M71 k p (eStep k p j x)) rfl hs ih
noncomputable def E71x (k:Nat) (p:E4):Env:=withL E71 3 (bodyOf Tryz.prog 124 3) (sumC (T71 ((lenN k:Int)-1)) (M71 k p (eLift 0 1)) (T71 (-1)) (M71 k p (eTimesG k p (lenN k) (eLift 0 1))) (.exit 0))
theorem envE71x {k:Nat} {p:E4} (hk:k<4294967296^8) (hp:p.lt):EnvOK (E71x k p):=envWithL envE71 (sumC_ok rfl (loop71 hk hp (lenN k) _ ((lenN_spec hk).2) (eLift_lt 0 1)).loop)
def T76 (i:Int):List AV:=slots 35 [(4,pV 0),(5,pV 1),(6,pV 2),(7,pV 3),(8,pV 4),(9,pV 5),(10,iV i)]
noncomputable def M76 (k:Nat) (p x:E4):List Blk:=[⟨[.num 8 (modN 0),.a (.u .u32 (facR (limb (modN 0) 0))),.num 8 (r2N (modN 0))],60,true,false,0⟩,⟨[.num 8 twE],51,true,false,0⟩,⟨[.num 8 k],51,true,false,0⟩,⟨[.num 8 p.x,.num 8 p.y,.num 8 p.z,.num 8 p.t],125,true,false,0⟩,⟨cellsU 32 0 zF,125,true,false,0⟩,⟨[.num 8 x.x,.num 8 x.y,.num 8 x.z,.num 8 x.t],125,true,false,0⟩]
noncomputable def S76:FuncId→Nat→Bool:=fun f t=>match f with|101=>memN t [16,18,20,28]|_=>false
noncomputable def E76:Env:=mkE L10 S76
theorem envE76:EnvOK E76:=envMk L10_ok S76
theorem wfT76 (k:Nat) (p x:E4) (i:Int):wfS (T76 i) (M76 k p x)=true:=by
 unfold wfS
 rw[show tmsWf (M76 k p x).length (T76 i)=true by show tmsWf 6 _=true;kernel_rfl,Bool.true_and]
 kernel_rfl
theorem ed76t (k:Nat) (p:E4) (x:E4) (j:Nat):runTo E76 1000 (Env.S E76 101) (bodyOf Tryz.prog 101 3) (T76 (↑j:Int)) (M76 k p x) [true,true] (T76 ((↑j:Int)-(1:Int))) 6=
  some ([decide ((0:Int)≤(↑j:Int))=true,modN 0<4294967296^8,facR (limb (modN 0) 0)<4294967296,r2N (modN 0)<4294967296^8,twE<4294967296^8,x.1<4294967296^8,x.2<4294967296^8,x.3<4294967296^8,x.4<4294967296^8,x.1<4294967296^8,x.2<4294967296^8,x.3<4294967296^8,x.4<4294967296^8,modN 0=modN 0,facR (limb (modN 0) 0)=facR (limb (modN 0) 0),r2N (modN 0)=r2N (modN 0),twE=twE,E4.lt x,E4.lt x,bitB k j=true,(0:Int)≤(↑j:Int)∧(↑j:Int)<(256:Int),k<4294967296^8,modN 0<4294967296^8,facR (limb (modN 0) 0)<4294967296,r2N (modN 0)<4294967296^8,twE<4294967296^8,mmN (modN 0) (subM (modN 0) (mmN (modN 0) (addM (modN 0) x.2 x.1) (addM (modN 0) x.2 x.1)) (mmN (modN 0) (subM (modN 0) x.2 x.1) (subM (modN 0) x.2 x.1))) (subM (modN 0) (mmN (modN 0) (addM (modN 0) x.3 x.3) x.3) (mmN (modN 0) (mmN (modN 0) x.4 twE) x.4))<4294967296^8,mmN (modN 0) (addM (modN 0) (mmN (modN 0) (addM (modN 0) x.3 x.3) x.3) (mmN (modN 0) (mmN (modN 0) x.4 twE) x.4)) (addM (modN 0) (mmN (modN 0) (addM (modN 0) x.2 x.1) (addM (modN 0) x.2 x.1)) (mmN (modN 0) (subM (modN 0) x.2 x.1) (subM (modN 0) x.2 x.1)))<4294967296^8,mmN (modN 0) (subM (modN 0) (mmN (modN 0) (addM (modN 0) x.3 x.3) x.3) (mmN (modN 0) (mmN (modN 0) x.4 twE) x.4)) (addM (modN 0) (mmN (modN 0) (addM (modN 0) x.3 x.3) x.3) (mmN (modN 0) (mmN (modN 0) x.4 twE) x.4))<4294967296^8,mmN (modN 0) (subM (modN 0) (mmN (modN 0) (addM (modN 0) x.2 x.1) (addM (modN 0) x.2 x.1)) (mmN (modN 0) (subM (modN 0) x.2 x.1) (subM (modN 0) x.2 x.1))) (addM (modN 0) (mmN (modN 0) (addM (modN 0) x.2 x.1) (addM (modN 0) x.2 x.1)) (mmN (modN 0) (subM (modN 0) x.2 x.1) (subM (modN 0) x.2 x.1)))<4294967296^8,p.1<4294967296^8,p.2<4294967296^8,p.3<4294967296^8,p.4<4294967296^8,modN 0=modN 0,facR (limb (modN 0) 0)=facR (limb (modN 0) 0),r2N (modN 0)=r2N (modN 0),twE=twE,E4.lt (E4.mk (E4.x (eAdd (x) (x))) (E4.y (eAdd (x) (x))) (E4.z (eAdd (x) (x))) (E4.t (eAdd (x) (x)))),E4.lt p,inI ((↑j:Int)-(1:Int))],.normal,T76 ((j:Int)-1),M76 k p (eAdd (eAdd x x) p)):=by kernel_rfl
theorem ed76f (k:Nat) (p:E4) (x:E4) (j:Nat):runTo E76 1000 (Env.S E76 101) (bodyOf Tryz.prog 101 3) (T76 (↑j:Int)) (M76 k p x) [true,false] (T76 ((↑j:Int)-(1:Int))) 6=
  some ([decide ((0:Int)≤(↑j:Int))=true,modN 0<4294967296^8,facR (limb (modN 0) 0)<4294967296,r2N (modN 0)<4294967296^8,twE<4294967296^8,x.1<4294967296^8,x.2<4294967296^8,x.3<4294967296^8,x.4<4294967296^8,x.1<4294967296^8,x.2<4294967296^8,x.3<4294967296^8,x.4<4294967296^8,modN 0=modN 0,facR (limb (modN 0) 0)=facR (limb (modN 0) 0),r2N (modN 0)=r2N (modN 0),twE=twE,E4.lt x,E4.lt x,bitB k j=false,(0:Int)≤(↑j:Int)∧(↑j:Int)<(256:Int),k<4294967296^8,inI ((↑j:Int)-(1:Int))],.normal,T76 ((j:Int)-1),M76 k p (eAdd x x)):=by kernel_rfl
theorem ed76x (k:Nat) (p:E4) (x:E4):runTo E76 1000 (Env.S E76 101) (bodyOf Tryz.prog 101 3) (T76 (-1:Int)) (M76 k p x) [false] (T76 (-1:Int)) 6=
  some ([decide ((0:Int)≤(-1:Int))=false],.exit 0,T76 (-1),M76 k p x):=by kernel_rfl
theorem loop76 {k:Nat} {p:E4} (hk:k<4294967296^8) (hp:p.lt):∀(j:Nat) (x:E4),j≤256→x.lt→GoesN Tryz.prog (bodyOf Tryz.prog 101 3) (j+1) (.exit 0) (T76 ((j:Int)-1)) (M76 k p x) (T76 (-1)) (M76 k p (eTimesG k p j x))
 |0,x,_,hx=>by
  obtain ⟨hx1,hx2,hx3,hx4⟩:=id hx
  obtain ⟨hp1,hp2,hp3,hp4⟩:=id hp
  exact GoesN.out (by simp) (Runs.goes envE76 ⟨[false],_,ed76x k p x,⟨(by first|with_reducible assumption|with_reducible exact L8 (by with_reducible assumption)|exact decide_eq_true (by omega)|exact decide_eq_false (by omega)|omega),trivial⟩,wfT76 _ _ _ _⟩)
 |j+1,x,hj,hx=>by
  have ih:=loop76 hk hp j (eStep k p j x) (by omega) (eStep_lt k p j x)
  have hxx:=eAdd_lt x x
  obtain ⟨hx1,hx2,hx3,hx4⟩:=id hx
  obtain ⟨hp1,hp2,hp3,hp4⟩:=id hp
  obtain ⟨hq1,hq2,hq3,hq4⟩:=id hxx
  have h0:decide (0≤(j:Int))=true:=decide_eq_true (by omega)
  have hr:0≤(j:Int)∧(j:Int)<256:=by omega
  have hI:inI ((j:Int)-1):=by unfold inI;omega
  rw[show ((j+1:Nat):Int)-1=(j:Int) by omega]
  have hs:Goes Tryz.prog (bodyOf Tryz.prog 101 3) .normal (T76 (j:Int)) (M76 k p x) (T76 ((j:Int)-1)) (M76 k p (eStep k p j x)):=by
   unfold eStep
   cases hb:bitB k j with
   |true=>exact Runs.goes envE76 ⟨_,_,ed76t k p x j,⟨(by first|with_reducible assumption|with_reducible exact L8 (by with_reducible assumption)|exact decide_eq_true (by omega)|exact decide_eq_false (by omega)|omega),(modN_lt _),(facR_lt32 _),(L8 (r2N_lt (by decide))),(L8 twE_lt),(by first|with_reducible assumption|with_reducible exact L8 (by with_reducible assumption)|exact decide_eq_true (by omega)|exact decide_eq_false (by omega)|omega),(by first|with_reducible assumption|with_reducible exact L8 (by with_reducible assumption)|exact decide_eq_true (by omega)|exact decide_eq_false (by omega)|omega),(by first|with_reducible assumption|with_reducible exact L8 (by with_reducible assumption)|exact decide_eq_true (by omega)|exact decide_eq_false (by omega)|omega),(by first|with_reducible assumption|with_reducible exact L8 (by with_reducible assumption)|exact decide_eq_true (by omega)|exact decide_eq_false (by omega)|omega),(by first|with_reducible assumption|with_reducible exact L8 (by with_reducible assumption)|exact decide_eq_true (by omega)|exact decide_eq_false (by omega)|omega),(by first|with_reducible assumption|with_reducible exact L8 (by with_reducible assumption)|exact decide_eq_true (by omega)|exact decide_eq_false (by omega)|omega),(by first|with_reducible assumption|with_reducible exact L8 (by with_reducible assumption)|exact decide_eq_true (by omega)|exact decide_eq_false (by omega)|omega),(by first|with_reducible assumption|with_reducible exact L8 (by with_reducible assumption)|exact decide_eq_true (by omega)|exact decide_eq_false (by omega)|omega),rfl,rfl,rfl,rfl,(by first|with_reducible assumption|with_reducible exact L8 (by with_reducible assumption)|exact decide_eq_true (by omega)|exact decide_eq_false (by omega)|omega),(by first|with_reducible assumption|with_reducible exact L8 (by with_reducible assumption)|exact decide_eq_true (by omega)|exact decide_eq_false (by omega)|omega),(by first|with_reducible assumption|with_reducible exact L8 (by with_reducible assumption)|exact decide_eq_true (by omega)|exact decide_eq_false (by omega)|omega),(by first|with_reducible assumption|with_reducible exact L8 (by with_reducible assumption)|exact decide_eq_true (by omega)|exact decide_eq_false (by omega)|omega),(by first|with_reducible assumption|with_reducible exact L8 (by with_reducible assumption)|exact decide_eq_true (by omega)|exact decide_eq_false (by omega)|omega),(modN_lt _),(facR_lt32 _),(L8 (r2N_lt (by decide))),(L8 twE_lt),(L8 (mmN_lt (modN_pos _))),(L8 (mmN_lt (modN_pos _))),(L8 (mmN_lt (modN_pos _))),(L8 (mmN_lt (modN_pos _))),(by first|with_reducible assumption|with_reducible exact L8 (by with_reducible assumption)|exact decide_eq_true (by omega)|exact decide_eq_false (by omega)|omega),(by first|with_reducible assumption|with_reducible exact L8 (by with_reducible assumption)|exact decide_eq_true (by omega)|exact decide_eq_false (by omega)|omega),(by first|with_reducible assumption|with_reducible exact L8 (by with_reducible assumption)|exact decide_eq_true (by omega)|exact decide_eq_false (by omega)|omega),(by first|with_reducible assumption|with_reducible exact L8 (by with_reducible assumption)|exact decide_eq_true (by omega)|exact decide_eq_false (by omega)|omega),rfl,rfl,rfl,rfl,(by first|with_reducible assumption|exact eAdd_lt _ _|exact eLift_lt _ _|exact hxx),(by first|with_reducible assumption|with_reducible exact L8 (by with_reducible assumption)|exact decide_eq_true (by omega)|exact decide_eq_false (by omega)|omega),(by first|with_reducible assumption|with_reducible exact L8 (by with_reducible assumption)|exact decide_eq_true (by omega)|exact decide_eq_false (by omega)|omega),trivial⟩,wfT76 _ _ _ _⟩
   |false=>exact Runs.goes envE76 ⟨_,_,ed76f k p x j,⟨(by first|with_reducible assumption|with_reducible exact L8 (by with_reducible assumption)|exact decide_eq_true (by omega)|exact decide_eq_false (by omega)|omega),(modN_lt _),(facR_lt32 _),(L8 (r2N_lt (by decide))),(L8 twE_lt),(by first|with_reducible assumption|with_reducible exact L8 (by with_reducible assumption)|exact decide_eq_true (by omega)|exact decide_eq_false (by omega)|omega),(by first|with_reducible assumption|with_reducible exact L8 (by with_reducible assumption)|exact decide_eq_true (by omega)|exact decide_eq_false (by omega)|omega),(by first|with_reducible assumption|with_reducible exact L8 (by with_reducible assumption)|exact decide_eq_true (by omega)|exact decide_eq_false (by omega)|omega),(by first|with_reducible assumption|with_reducible exact L8 (by with_reducible assumption)|exact decide_eq_true (by omega)|exact decide_eq_false (by omega)|omega),(by first|with_reducible assumption|with_reducible exact L8 (by with_reducible assumption)|exact decide_eq_true (by omega)|exact decide_eq_false (by omega)|omega),(by first|with_reducible assumption|with_reducible exact L8 (by with_reducible assumption)|exact decide_eq_true (by omega)|exact decide_eq_false (by omega)|omega),(by first|with_reducible assumption|with_reducible exact L8 (by with_reducible assumption)|exact decide_eq_true (by omega)|exact decide_eq_false (by omega)|omega),(by first|with_reducible assumption|with_reducible exact L8 (by with_reducible assumption)|exact decide_eq_true (by omega)|exact decide_eq_false (by omega)|omega),rfl,rfl,rfl,rfl,(by first|with_reducible assumption|with_reducible exact L8 (by with_reducible assumption)|exact decide_eq_true (by omega)|exact decide_eq_false (by omega)|omega),(by first|with_reducible assumption|with_reducible exact L8 (by with_reducible assumption)|exact decide_eq_true (by omega)|exact decide_eq_false (by omega)|omega),(by first|with_reducible assumption|with_reducible exact L8 (by with_reducible assumption)|exact decide_eq_true (by omega)|exact decide_eq_false (by omega)|omega),(by first|with_reducible assumption|with_reducible exact L8 (by with_reducible assumption)|exact decide_eq_true (by omega)|exact decide_eq_false (by omega)|omega),(by first|with_reducible assumption|with_reducible exact L8 (by with_reducible assumption)|exact decide_eq_true (by omega)|exact decide_eq_false (by omega)|omega),(by first|with_reducible assumption|with_reducible exact L8 (by with_reducible assumption)|exact decide_eq_true (by omega)|exact decide_eq_false (by omega)|omega),trivial⟩,wfT76 _ _ _ _⟩
  exact GoesN.cons (M1:=M76 k p (eStep k p j x)) rfl hs ih
noncomputable def E76x (k:Nat) (p:E4):Env:=withL E76 3 (bodyOf Tryz.prog 101 3) (sumC (T76 ((lenQ k 256:Int)-1)) (M76 k p (eLift 0 1)) (T76 (-1)) (M76 k p (eTimesG k p (lenQ k 256) (eLift 0 1))) (.exit 0))
theorem envE76x {k:Nat} {p:E4} (hk:k<4294967296^8) (hp:p.lt):EnvOK (E76x k p):=envWithL envE76 (sumC_ok rfl (loop76 hk hp (lenQ k 256) _ ((lenQ_spec k 256 hk).2) (eLift_lt 0 1)).loop)
theorem ed71 (k:Nat) (p:E4):callR (E71x k p) 1000 124 [lawV,N8 k,e4V p] []=
  some ([modN 0<4294967296^8,facN 0<4294967296,twE<4294967296^8,0<4294967296^8,1<4294967296^8,modN 0=modN 0,facN 0=facN 0,twE=twE,0<modN 0,1<modN 0,k<4294967296^8,inI ((↑(lenN k):Int)-(1:Int)),(bodyOf Tryz.prog 124 3)=(bodyOf Tryz.prog 124 3),(T71 ((lenN k:Int)-1),M71 k p (eLift 0 1))=(T71 ((lenN k:Int)-1),M71 k p (eLift 0 1)),wfS (T71 ((lenN k:Int)-1)) (M71 k p (eLift 0 1))=true],.val (e4V (eTimesG k p (lenN k) (eLift 0 1)))):=by kernel_rfl
theorem spec71t (k:Nat) (p:E4) (hk:k<4294967296^8) (hp:p.lt):Spec 124 [lawV,N8 k,e4V p] (.val (e4V (eTimes k p))):=by
 obtain ⟨hp1,hp2,hp3,hp4⟩:=id hp
 have hl:=(lenN_spec hk).2
 have hI:inI ((lenN k:Int)-1):=by unfold inI;omega
 have hw:=wfT71 k p (eLift 0 1) ((lenN k:Int)-1)
 have h:=spec_run (envE71x hk hp) rfl (ed71 k p) ⟨(modN_lt _),(facN_lt32 0),(L8 twE_lt),lit0_8,lit1_8,rfl,rfl,rfl,(modN_pos _),(modN_one _),(by first|with_reducible assumption|with_reducible exact L8 (by with_reducible assumption)|exact decide_eq_true (by omega)|exact decide_eq_false (by omega)|omega),(by first|with_reducible assumption|with_reducible exact L8 (by with_reducible assumption)|exact decide_eq_true (by omega)|exact decide_eq_false (by omega)|omega),rfl,rfl,(by assumption),trivial⟩ rfl rfl
 exact h
theorem ed76 (k:Nat) (p:E4):callR (E76x k p) 1000 101 [rg0,N8 twE,N8 k,e4V p] []=
  some ([modN 0<4294967296^8,facR (limb (modN 0) 0)<4294967296,r2N (modN 0)<4294967296^8,0<4294967296^8,1<4294967296^8,modN 0=modN 0,facR (limb (modN 0) 0)=facR (limb (modN 0) 0),r2N (modN 0)=r2N (modN 0),0<modN 0,1<modN 0,k<4294967296^8,inI ((↑(lenQ k 256):Int)-(1:Int)),(bodyOf Tryz.prog 101 3)=(bodyOf Tryz.prog 101 3),(T76 ((lenQ k 256:Int)-1),M76 k p (eLift 0 1))=(T76 ((lenQ k 256:Int)-1),M76 k p (eLift 0 1)),wfS (T76 ((lenQ k 256:Int)-1)) (M76 k p (eLift 0 1))=true],.val (e4V (eTimesG k p (lenQ k 256) (eLift 0 1)))):=by kernel_rfl
theorem spec76t (k:Nat) (p:E4) (hk:k<4294967296^8) (hp:p.lt):Spec 101 [rg0,N8 twE,N8 k,e4V p] (.val (e4V (eTimes k p))):=by
 obtain ⟨hp1,hp2,hp3,hp4⟩:=id hp
 have hl:=(lenQ_spec k 256 hk).2
 have hI:inI ((lenQ k 256:Int)-1):=by unfold inI;omega
 have hw:=wfT76 k p (eLift 0 1) ((lenQ k 256:Int)-1)
 have h:=spec_run (envE76x hk hp) rfl (ed76 k p) ⟨(modN_lt _),(facR_lt32 _),(L8 (r2N_lt (by decide))),lit0_8,lit1_8,rfl,rfl,rfl,(modN_pos _),(modN_one _),(by first|with_reducible assumption|with_reducible exact L8 (by with_reducible assumption)|exact decide_eq_true (by omega)|exact decide_eq_false (by omega)|omega),(by first|with_reducible assumption|with_reducible exact L8 (by with_reducible assumption)|exact decide_eq_true (by omega)|exact decide_eq_false (by omega)|omega),rfl,rfl,(by assumption),trivial⟩ rfl rfl
 rw[lenQ_N hk] at h
 exact h
end Go.Ev.H5.Ed

namespace Go.Ev.H5.Ed
open Go Go.Proofs Go.RowKit
theorem subM_add {m a b : Nat} (hb : b < m) : (subM m a b + b) % m = a % m := by
 unfold subM
 rw [Nat.mod_add_mod, Nat.sub_add_cancel (by omega), Nat.add_mod_right]
theorem add_inj {m r s y : Nat} (hr : r < m) (hs : s < m) (h : (r + y) % m = (s + y) % m) : r = s := by
 have h1 : ∀ {r s : Nat}, r < m → s < m → r ≤ s → (r + y) % m = (s + y) % m → r = s := by
  intro r s _ hs hle h
  have h2 : (s + y - (r + y)) % m = 0 := Nat.sub_mod_eq_zero_of_mod_eq h.symm
  rw [show s + y - (r + y) = s - r by omega, Nat.mod_eq_of_lt (by omega)] at h2
  omega
 rcases Nat.le_total r s with hle | hle
 ·exact h1 hr hs hle h
 ·exact (h1 hs hr hle h.symm).symm
theorem in_mod (m a : Nat) : inN m (a % m) = inN m a := by rw [in_eq, in_eq, Nat.mod_mul_mod]
theorem in_add {m : Nat} (a b : Nat) : addM m (inN m a) (inN m b) = inN m (addM m a b) := by
 unfold addM
 rw [in_mod, in_eq, in_eq, in_eq, ← Nat.add_mod, Nat.add_mul]
theorem in_sub {m : Nat} (hm : 0 < m) {a b : Nat} (hb : b < m) : subM m (inN m a) (inN m b) = inN m (subM m a b) := by
 refine add_inj (y := inN m b) (subM_lt hm) (inN_lt hm) ?_
 rw [subM_add (inN_lt hm)]
 have h := in_add (m := m) (subM m a b) b
 unfold addM at h
 rw [h, subM_add hb, in_mod, Nat.mod_eq_of_lt (inN_lt hm)]
theorem in_mul {k : Nat} (hk : k < 4) (x y : Nat) : mmN (modN k) (inN (modN k) x) (inN (modN k) y) = inN (modN k) (mulM (modN k) x y) := mm_in (modN_lt k) (good_fac hk)
def pTw : Nat := addM (modN 0) dN dN
def pA (p q : E4) : Nat := mulM (modN 0) (subM (modN 0) p.y p.x) (subM (modN 0) q.y q.x)
def pB (p q : E4) : Nat := mulM (modN 0) (addM (modN 0) p.y p.x) (addM (modN 0) q.y q.x)
def pC (p q : E4) : Nat := mulM (modN 0) (mulM (modN 0) p.t pTw) q.t
def pD (p q : E4) : Nat := mulM (modN 0) (addM (modN 0) p.z p.z) q.z
def pE (p q : E4) : Nat := subM (modN 0) (pB p q) (pA p q)
def pF (p q : E4) : Nat := subM (modN 0) (pD p q) (pC p q)
def pG (p q : E4) : Nat := addM (modN 0) (pD p q) (pC p q)
def pH (p q : E4) : Nat := addM (modN 0) (pB p q) (pA p q)
def pAdd (p q : E4) : E4 := ⟨mulM (modN 0) (pE p q) (pF p q), mulM (modN 0) (pG p q) (pH p q), mulM (modN 0) (pF p q) (pG p q), mulM (modN 0) (pE p q) (pH p q)⟩
def pLift (x y : Nat) : E4 := ⟨x, y, 1, mulM (modN 0) x y⟩
def inE (p : E4) : E4 := ⟨inN (modN 0) p.x, inN (modN 0) p.y, inN (modN 0) p.z, inN (modN 0) p.t⟩
def pStep (k : Nat) (p : E4) (j : Nat) (x : E4) : E4 := bif bitB k j then pAdd (pAdd x x) p else pAdd x x
def pTimesG (k : Nat) (p : E4) : Nat → E4 → E4
 | 0, x => x
 | j + 1, x => pTimesG k p j (pStep k p j x)
def pTimes (k : Nat) (p : E4) : E4 := pTimesG k p (lenN k) (pLift 0 1)
theorem pAdd_lt (p q : E4) : (pAdd p q).lt := ⟨mulM_lt (modN_pos 0), mulM_lt (modN_pos 0), mulM_lt (modN_pos 0), mulM_lt (modN_pos 0)⟩
theorem pLift_lt {x y : Nat} (hx : x < modN 0) (hy : y < modN 0) : (pLift x y).lt := ⟨hx, hy, modN_one 0, mulM_lt (modN_pos 0)⟩
theorem twE_in : twE = inN (modN 0) pTw := in_add dN dN
theorem eAdd_in {p q : E4} (hp : p.lt) (hq : q.lt) : eAdd (inE p) (inE q) = inE (pAdd p q) := by
 obtain ⟨h1, h2, h3, h4⟩ := hp
 obtain ⟨h5, h6, h7, h8⟩ := hq
 have hm := modN_pos 0
 have hA : eA (inE p) (inE q) = inN (modN 0) (pA p q) := by
  simp only [eA, inE, pA]; rw [in_sub hm h1, in_sub hm h5, in_mul (by decide)]
 have hB : eB (inE p) (inE q) = inN (modN 0) (pB p q) := by
  simp only [eB, inE, pB]; rw [in_add, in_add, in_mul (by decide)]
 have hC : eC (inE p) (inE q) = inN (modN 0) (pC p q) := by
  simp only [eC, inE, pC]; rw [twE_in, in_mul (by decide), in_mul (by decide)]
 have hD : eD (inE p) (inE q) = inN (modN 0) (pD p q) := by
  simp only [eD, inE, pD]; rw [in_add, in_mul (by decide)]
 have hE : eE (inE p) (inE q) = inN (modN 0) (pE p q) := by
  unfold eE pE; rw [hA, hB, in_sub hm (show pA p q < modN 0 from mulM_lt hm)]
 have hF : eF (inE p) (inE q) = inN (modN 0) (pF p q) := by
  unfold eF pF; rw [hC, hD, in_sub hm (show pC p q < modN 0 from mulM_lt hm)]
 have hG : eG (inE p) (inE q) = inN (modN 0) (pG p q) := by
  unfold eG pG; rw [hC, hD, in_add]
 have hH : eH (inE p) (inE q) = inN (modN 0) (pH p q) := by
  unfold eH pH; rw [hA, hB, in_add]
 unfold eAdd pAdd inE
 rw [← inE, ← inE, hE, hF, hG, hH, in_mul (by decide), in_mul (by decide), in_mul (by decide), in_mul (by decide)]
theorem eLift_in (x y : Nat) : eLift x y = inE (pLift x y) := by
 unfold eLift inE pLift
 rw [in_mul (by decide)]
theorem eStep_in {k j : Nat} {p x : E4} (hp : p.lt) (hx : x.lt) : eStep k (inE p) j (inE x) = inE (pStep k p j x) := by
 unfold eStep pStep
 rw [eAdd_in hx hx, eAdd_in (pAdd_lt x x) hp]
 cases bitB k j <;> rfl
theorem pStep_lt (k : Nat) (p : E4) (j : Nat) (x : E4) : (pStep k p j x).lt := by
 unfold pStep; cases bitB k j <;> exact pAdd_lt _ _
theorem eTimesG_in {k : Nat} {p : E4} (hp : p.lt) : ∀ (j : Nat) (x : E4), x.lt → eTimesG k (inE p) j (inE x) = inE (pTimesG k p j x)
 | 0, _, _ => rfl
 | j + 1, x, hx => by
  show eTimesG k (inE p) j (eStep k (inE p) j (inE x)) = inE (pTimesG k p j (pStep k p j x))
  rw [eStep_in hp hx]
  exact eTimesG_in hp j _ (pStep_lt k p j x)
theorem none_lt : (pLift 0 1).lt := pLift_lt (modN_pos 0) (modN_one 0)
theorem eTimes_in {k : Nat} {p : E4} (hp : p.lt) : eTimes k (inE p) = inE (pTimes k p) := by
 unfold eTimes pTimes
 rw [eLift_in]
 exact eTimesG_in hp _ _ none_lt
def pInv (z : Nat) : Nat := Go.NT.pwM (modN 0) z (subN (modN 0) 2)
def pDown (p : E4) (c : Nat) : Nat := mulM (modN 0) c (pInv p.z)
theorem down_in {p : E4} (hp : p.lt) (c : Nat) : outN (modN 0) (mmN (modN 0) (inN (modN 0) c) (minvN (modN 0) (inN (modN 0) p.z))) = pDown p c := by
 unfold minvN pDown pInv
 rw [mpow_in, out_in (modN_lt 0) (good_fac (by decide)) hp.2.2.1, in_mul (by decide), out_in (modN_lt 0) (good_fac (by decide)) (mulM_lt (modN_pos 0))]
theorem eDownX_in {p : E4} (hp : p.lt) : eDownX (inE p) = pDown p p.x := down_in hp p.x
theorem eDownY_in {p : E4} (hp : p.lt) : eDownY (inE p) = pDown p p.y := down_in hp p.y
def pOn (x y : Nat) : Bool := decide (subM (modN 0) (mulM (modN 0) y y) (mulM (modN 0) x x) = addM (modN 0) 1 (mulM (modN 0) dN (mulM (modN 0) (mulM (modN 0) x x) (mulM (modN 0) y y))))
theorem eqE_in {x y : Nat} : eqE x y = pOn x y := by
 have hm := modN_pos 0
 unfold eqE pOn
 rw [in_mul (by decide), in_mul (by decide), in_mul (by decide), in_mul (by decide), in_add, in_sub hm (mulM_lt hm), Bool.eq_iff_iff, decide_eq_true_iff, decide_eq_true_iff]
 exact ⟨fun h => in_inj (modN_lt 0) (good_fac (by decide)) (subM_lt hm) (addM_lt hm) h, fun h => by rw [h]⟩
theorem onE_base : onE bXN bYN = true := by
 unfold onE
 rw [eqE_in]
 decide +kernel
theorem onE_none : onE 0 1 = true := by
 unfold onE
 rw [eqE_in]
 decide +kernel
end Go.Ev.H5.Ed

namespace Go.Ev.H5.Ed
open Go Go.Proofs Go.RowKit
theorem E4.ltx {p : E4} (h : p.lt) : p.x < 4294967296 ^ 8 := L8 h.1
theorem E4.lty {p : E4} (h : p.lt) : p.y < 4294967296 ^ 8 := L8 h.2.1
theorem E4.ltz {p : E4} (h : p.lt) : p.z < 4294967296 ^ 8 := L8 h.2.2.1
theorem E4.ltt {p : E4} (h : p.lt) : p.t < 4294967296 ^ 8 := L8 h.2.2.2
noncomputable def gETimes : List Val → Option (List Prop × AV)
 | [.n m, .n q, .n w, .n k, .n x1, .n y1, .n z1, .n t1] => some ([m = modN 0, q = facN 0, w = twE, E4.lt ⟨x1, y1, z1, t1⟩], .val (e4V (eTimes k ⟨x1, y1, z1, t1⟩)))
 | _ => none
noncomputable def gETimesR : List Val → Option (List Prop × AV)
 | [.n m, .n q, .n w, .n d, .n k, .n x1, .n y1, .n z1, .n t1] => some ([m = modN 0, q = facR (limb (modN 0) 0), w = r2N (modN 0), d = twE, E4.lt ⟨x1, y1, z1, t1⟩], .val (e4V (eTimes k ⟨x1, y1, z1, t1⟩)))
 | _ => none
theorem ct71 : CTok ⟨124, fnS [aLaw, aN, aE4] gETimes⟩ := ctS (by
 intro xs ob r hb h ho
 unfold gETimes at h
 split at h
 ·rename_i m q w k x1 y1 z1 t1
  simp only [Option.some.injEq, Prod.mk.injEq] at h
  obtain ⟨rfl, rfl⟩ := h
  obtain ⟨e0, e1, e2, h1, _⟩ := ho
  obtain ⟨_, ⟨hk, _⟩, _⟩ := hb
  subst e0 e1 e2
  have hS := spec71t k ⟨x1, y1, z1, t1⟩ hk h1
  exact hS
 ·simp at h)
theorem ct76 : CTok ⟨101, fnS [aLaw, aN, aN, aE4] gETimesR⟩ := ctS (by
 intro xs ob r hb h ho
 unfold gETimesR at h
 split at h
 ·rename_i m q w d k x1 y1 z1 t1
  simp only [Option.some.injEq, Prod.mk.injEq] at h
  obtain ⟨rfl, rfl⟩ := h
  obtain ⟨e0, e1, e2, e3, h1, _⟩ := ho
  obtain ⟨_, _, ⟨hk, _⟩, _⟩ := hb
  have hS := spec76t k ⟨x1, y1, z1, t1⟩ hk h1
  unfold rg0 rgK rg at hS
  rw [← e2, ← e1, ← e0] at hS
  subst e3
  exact hS
 ·simp at h)
noncomputable def L12 : List CT := [⟨124, fnS [aLaw, aN, aE4] gETimes⟩, ⟨101, fnS [aLaw, aN, aN, aE4] gETimesR⟩] ++ L10
theorem L12_ok : AllCT L12 := ⟨ct71, ct76, L10_ok⟩
noncomputable def sumE (px py qx qy : Nat) : E4 := eAdd (eLift px py) (eLift qx qy)
noncomputable def timE (k px py : Nat) : E4 := eTimes k (eLift px py)
noncomputable def dwn (p : E4) : V1 := P2 (eDownX p) (eDownY p)
noncomputable def S12 : FuncId → Nat → Bool := fun f t => match f with | _ => false
noncomputable def E12 : Env := mkE L12 S12
theorem envE12 : EnvOK E12 := envMk L12_ok S12
theorem ed30 (k : Nat) (px : Nat) (py : Nat) : callR E12 1000 69 [N8 k, P2 px py] [] =
  some ([(0 : Int) ≤ (0 : Int) ∧ (0 : Int) < (4 : Int), modN 0 < 4294967296 ^ 8, facR (limb (modN 0) 0) < 4294967296, r2N (modN 0) < 4294967296 ^ 8, modN 0 = modN 0, facR (limb (modN 0) 0) = facR (limb (modN 0) 0), r2N (modN 0) = r2N (modN 0), modN 0 < 4294967296 ^ 8, facR (limb (modN 0) 0) < 4294967296, r2N (modN 0) < 4294967296 ^ 8, px < 4294967296 ^ 8, py < 4294967296 ^ 8, modN 0 = modN 0, facR (limb (modN 0) 0) = facR (limb (modN 0) 0), r2N (modN 0) = r2N (modN 0), px < modN 0, py < modN 0, modN 0 < 4294967296 ^ 8, facR (limb (modN 0) 0) < 4294967296, r2N (modN 0) < 4294967296 ^ 8, twE < 4294967296 ^ 8, k < 4294967296 ^ 8, inN (modN 0) px < 4294967296 ^ 8, inN (modN 0) py < 4294967296 ^ 8, inN (modN 0) 1 < 4294967296 ^ 8, mmN (modN 0) (inN (modN 0) px) (inN (modN 0) py) < 4294967296 ^ 8, modN 0 = modN 0, facR (limb (modN 0) 0) = facR (limb (modN 0) 0), r2N (modN 0) = r2N (modN 0), twE = twE, E4.lt (eLift px py), modN 0 < 4294967296 ^ 8, facR (limb (modN 0) 0) < 4294967296, r2N (modN 0) < 4294967296 ^ 8, (eTimes k (eLift px py)).1 < 4294967296 ^ 8, (eTimes k (eLift px py)).2 < 4294967296 ^ 8, (eTimes k (eLift px py)).3 < 4294967296 ^ 8, (eTimes k (eLift px py)).4 < 4294967296 ^ 8, modN 0 = modN 0, facR (limb (modN 0) 0) = facR (limb (modN 0) 0), r2N (modN 0) = r2N (modN 0), E4.lt (E4.mk (E4.x (eTimes k (eLift px py))) (E4.y (eTimes k (eLift px py))) (E4.z (eTimes k (eLift px py))) (E4.t (eTimes k (eLift px py))))], .val (dwn (timE k px py))) := by kernel_rfl
theorem spec30e {k px py : Nat} (hk : k < 4294967296 ^ 8) (hp : onE px py = true) : Spec 69 [N8 k, P2 px py] (.val (dwn (timE k px py))) := by
 obtain ⟨h1, h2⟩ := onE_lt hp
 exact spec_run envE12 rfl (ed30 k px py) ⟨(by decide), (modN_lt _), (facR_lt32 _), (L8 (r2N_lt (by decide))), rfl, rfl, rfl, (modN_lt _), (facR_lt32 _), (L8 (r2N_lt (by decide))), (by first | with_reducible assumption | with_reducible exact L8 (by with_reducible assumption) | exact decide_eq_true (by omega) | exact decide_eq_false (by omega) | omega), (by first | with_reducible assumption | with_reducible exact L8 (by with_reducible assumption) | exact decide_eq_true (by omega) | exact decide_eq_false (by omega) | omega), rfl, rfl, rfl, (by first | with_reducible assumption | with_reducible exact L8 (by with_reducible assumption) | exact decide_eq_true (by omega) | exact decide_eq_false (by omega) | omega), (by first | with_reducible assumption | with_reducible exact L8 (by with_reducible assumption) | exact decide_eq_true (by omega) | exact decide_eq_false (by omega) | omega), (modN_lt _), (facR_lt32 _), (L8 (r2N_lt (by decide))), (L8 twE_lt), (by first | with_reducible assumption | with_reducible exact L8 (by with_reducible assumption) | exact decide_eq_true (by omega) | exact decide_eq_false (by omega) | omega), (L8 (inN_lt (modN_pos _))), (L8 (inN_lt (modN_pos _))), (L8 (inN_lt (modN_pos _))), (L8 (mmN_lt (modN_pos _))), rfl, rfl, rfl, rfl, (by first | with_reducible assumption | exact eAdd_lt _ _ | exact eLift_lt _ _ | exact eTimes_lt _ _ | exact hxx), (modN_lt _), (facR_lt32 _), (L8 (r2N_lt (by decide))), (by first | with_reducible exact E4.ltx (eTimes_lt _ _) | with_reducible exact E4.lty (eTimes_lt _ _) | with_reducible exact E4.ltz (eTimes_lt _ _) | with_reducible exact E4.ltt (eTimes_lt _ _)), (by first | with_reducible exact E4.ltx (eTimes_lt _ _) | with_reducible exact E4.lty (eTimes_lt _ _) | with_reducible exact E4.ltz (eTimes_lt _ _) | with_reducible exact E4.ltt (eTimes_lt _ _)), (by first | with_reducible exact E4.ltx (eTimes_lt _ _) | with_reducible exact E4.lty (eTimes_lt _ _) | with_reducible exact E4.ltz (eTimes_lt _ _) | with_reducible exact E4.ltt (eTimes_lt _ _)), (by first | with_reducible exact E4.ltx (eTimes_lt _ _) | with_reducible exact E4.lty (eTimes_lt _ _) | with_reducible exact E4.ltz (eTimes_lt _ _) | with_reducible exact E4.ltt (eTimes_lt _ _)), rfl, rfl, rfl, (by first | with_reducible assumption | exact eAdd_lt _ _ | exact eLift_lt _ _ | exact eTimes_lt _ _ | exact hxx), trivial⟩ rfl rfl
end Go.Ev.H5.Ed

namespace Go.Ev.H5.Ed
open Go Go.Proofs Go.RowKit
def fLit : List V1 → Option (List Prop × AV) := fn1 fun a => .val (sS (strOf (leB 32 a)))
theorem ctLit110 : CTok ⟨108, fLit⟩ := fun _ _ _ h ho => fn1_ok (fun a _ => spec110s a) h ho
theorem ctLit83 : CTok ⟨99, fLit⟩ := fun _ _ _ h ho => fn1_ok (fun a _ => spec83s a) h ho
noncomputable def EOf : Env := mkE [⟨108, fLit⟩, ⟨99, fLit⟩] noS
theorem envEOf : EnvOK EOf := envMk (L := [⟨108, fLit⟩, ⟨99, fLit⟩]) ⟨ctLit110, ctLit83, trivial⟩ _
def put7 (y t : Nat) : Nat := (y % 4294967296 + 4294967296 * (y / 4294967296 % 4294967296 + 4294967296 * (y / 4294967296 / 4294967296 % 4294967296 + 4294967296 * (y / 4294967296 / 4294967296 / 4294967296 % 4294967296 + 4294967296 * (y / 4294967296 / 4294967296 / 4294967296 / 4294967296 % 4294967296 + 4294967296 * (y / 4294967296 / 4294967296 / 4294967296 / 4294967296 / 4294967296 % 4294967296 + 4294967296 * (y / 4294967296 / 4294967296 / 4294967296 / 4294967296 / 4294967296 / 4294967296 % 4294967296 + 4294967296 * (t + 4294967296 * 0))))))))
def top7 (y : Nat) : Nat := y / 4294967296 / 4294967296 / 4294967296 / 4294967296 / 4294967296 / 4294967296 / 4294967296 % 4294967296
theorem put7_eq (y t : Nat) : put7 y t = y % 26959946667150639794667015087019630673637144422540572481103610249216 + 26959946667150639794667015087019630673637144422540572481103610249216 * t := by
 have hv : valU 7 0 (limb y) = y % 26959946667150639794667015087019630673637144422540572481103610249216 := by
  rw [valU_limb, Nat.pow_zero, Nat.div_one]
 have e : put7 y t = valU 7 0 (limb y) + 26959946667150639794667015087019630673637144422540572481103610249216 * t := by
  unfold put7
  simp only [Nat.div_div_eq_div_mul, valU, limb, Nat.zero_add, Nat.reduceAdd, Nat.pow_zero, Nat.div_one, Nat.pow_one, Nat.reducePow, Nat.reduceMul]
  generalize y / 6277101735386680763835789423207666416102355444464034512896 % 4294967296 = d6
  generalize y / 1461501637330902918203684832716283019655932542976 % 4294967296 = d5
  generalize y / 340282366920938463463374607431768211456 % 4294967296 = d4
  generalize y / 79228162514264337593543950336 % 4294967296 = d3
  generalize y / 18446744073709551616 % 4294967296 = d2
  generalize y / 4294967296 % 4294967296 = d1
  generalize y % 4294967296 = d0
  omega
 rw [e, hv]
theorem top7_eq (y : Nat) (h : y < 4294967296 ^ 8) : top7 y = y / 26959946667150639794667015087019630673637144422540572481103610249216 ∧ y = y % 26959946667150639794667015087019630673637144422540572481103610249216 + 26959946667150639794667015087019630673637144422540572481103610249216 * top7 y := by
 have hq : y / 26959946667150639794667015087019630673637144422540572481103610249216 = y / 4294967296 / 4294967296 / 4294967296 / 4294967296 / 4294967296 / 4294967296 / 4294967296 := by simp only [Nat.div_div_eq_div_mul, Nat.reduceMul]
 have hm := Nat.div_add_mod y 26959946667150639794667015087019630673637144422540572481103610249216
 have hlt : y / 26959946667150639794667015087019630673637144422540572481103610249216 < 4294967296 := Nat.div_lt_of_lt_mul (by clear hq; omega)
 have : top7 y = y / 26959946667150639794667015087019630673637144422540572481103610249216 := by unfold top7; rw [← hq, Nat.mod_eq_of_lt hlt]
 clear hq
 exact ⟨this, by rw [this]; omega⟩
def tpk (x y : Nat) : Nat := top7 y % 4294967296 ||| (x % 4294967296 % 4294967296 &&& 1 % 4294967296) * 2 ^ 31 % 4294967296 % 4294967296
def packB (x y : Nat) : ByteArray := strOf (leB 32 (y + 57896044618658097711785492504343953926634992332820282019728792003956564819968 * (x % 2)))
theorem and1W (x : Nat) : x % 4294967296 % 4294967296 &&& 1 % 4294967296 = x % 2 := by
 rw [show (1 % 4294967296 : Nat) = 2 ^ 1 - 1 from rfl, Nat.and_two_pow_sub_one_eq_mod]; omega
theorem tpk_eq (x y : Nat) (h : y < 57896044618658097711785492504343953926634992332820282019728792003956564819968) : put7 y (tpk x y) = y + 57896044618658097711785492504343953926634992332820282019728792003956564819968 * (x % 2) := by
 obtain ⟨h1, h2⟩ := top7_eq y (by omega)
 have hlt : top7 y < 2 ^ 31 := by omega
 have hx : x % 2 < 2 := Nat.mod_lt _ (by decide)
 have : tpk x y = top7 y + x % 2 * 2 ^ 31 := by
  unfold tpk
  rw [and1W, Nat.mod_eq_of_lt (show top7 y < 4294967296 by omega), Nat.mod_eq_of_lt (show x % 2 * 2 ^ 31 < 4294967296 by omega), Nat.mod_eq_of_lt (show x % 2 * 2 ^ 31 < 4294967296 by omega)]
  exact orSh (k := 31) _ hlt
 rw [put7_eq, this]
 omega
theorem tpk_lt (x y : Nat) : tpk x y < 4294967296 := or_lt32 (Nat.mod_lt _ (by decide)) (Nat.mod_lt _ (by decide))
theorem mdW (x : Nat) : x % 4294967296 < 4294967296 := Nat.mod_lt _ (by decide)
theorem r82 (x : Nat) (y : Nat) : callR EOf 1000 92 [P2 x y] [] =
  some ([y % 4294967296 < 4294967296, y / 4294967296 % 4294967296 < 4294967296, y / 4294967296 / 4294967296 % 4294967296 < 4294967296, y / 4294967296 / 4294967296 / 4294967296 % 4294967296 < 4294967296, y / 4294967296 / 4294967296 / 4294967296 / 4294967296 % 4294967296 < 4294967296, y / 4294967296 / 4294967296 / 4294967296 / 4294967296 / 4294967296 % 4294967296 < 4294967296, y / 4294967296 / 4294967296 / 4294967296 / 4294967296 / 4294967296 / 4294967296 % 4294967296 < 4294967296, y / 4294967296 / 4294967296 / 4294967296 / 4294967296 / 4294967296 / 4294967296 / 4294967296 % 4294967296 % 4294967296 ||| (x % 4294967296 % 4294967296 &&& 1 % 4294967296) * 2147483648 % 4294967296 % 4294967296 < 4294967296], .val (sS (strOf (leB 32 (put7 y (tpk x y)))))) := by kernel_rfl
theorem spec82s (x y : Nat) (h : y < 57896044618658097711785492504343953926634992332820282019728792003956564819968) : Spec 92 [P2 x y] (.val (sS (packB x y))) := by
 have := spec_run envEOf rfl (r82 x y) ⟨mdW _, mdW _, mdW _, mdW _, mdW _, mdW _, mdW _, tpk_lt x y, trivial⟩ rfl rfl
 rw [tpk_eq x y h] at this
 exact this
def byU (n : Nat) : Nat := (UInt8.ofNat n).toNat
def pkL (x y : Nat) : List Nat := (List.range 31).map (fun j => byU (y / 256 ^ j % 256)) ++ [byU (y / 256 ^ 31 % 256) % 256 ||| (x % 4294967296 % 4294967296 &&& 1 % 4294967296) % 256 * 2 ^ 7 % 256 % 256]
theorem r48 (x y : Nat) : callR EOf 1000 68 [P2 x y] [] = some ([y < 4294967296 ^ 8], .val (sS (strOf (pkL x y)))) := by kernel_rfl
theorem byU_eq (n : Nat) : byU (n % 256) = n % 256 := by unfold byU; simp
theorem pkL_eq (x y : Nat) (h : y < 57896044618658097711785492504343953926634992332820282019728792003956564819968) : pkL x y = leB 32 (y + 57896044618658097711785492504343953926634992332820282019728792003956564819968 * (x % 2)) := by
 have hx : x % 2 < 2 := Nat.mod_lt _ (by decide)
 unfold pkL leB
 have e31 : List.range 32 = List.range 31 ++ [31] := rfl
 rw [e31, List.map_append]
 congr 1
 ·refine List.map_congr_left fun j hj => ?_
  have hj : j < 31 := by simpa using hj
  rw [byU_eq]
  have e : 57896044618658097711785492504343953926634992332820282019728792003956564819968 * (x % 2) = 256 ^ j * (256 * (256 ^ (30 - j) * (128 * (x % 2)))) := by
   rw [← Nat.mul_assoc, ← Nat.mul_assoc, ← Nat.pow_succ, ← Nat.pow_add, show j + 1 + (30 - j) = 31 by omega, ← Nat.mul_assoc]
  rw [e, Nat.add_mul_div_left _ _ (Nat.pow_pos (by decide))]
  omega
 ·simp only [List.map_cons, List.map_nil, List.cons.injEq, and_true]
  rw [byU_eq, and1W]
  have hz : y / 256 ^ 31 < 128 := Nat.div_lt_of_lt_mul (by omega)
  have e : 57896044618658097711785492504343953926634992332820282019728792003956564819968 * (x % 2) = 256 ^ 31 * (128 * (x % 2)) := by rw [← Nat.mul_assoc]
  rw [e, Nat.add_mul_div_left _ _ (by decide)]
  generalize y / 256 ^ 31 = z at *
  rw [Nat.mod_eq_of_lt (show z % 256 < 256 by omega), Nat.mod_eq_of_lt (show z < 256 by omega), Nat.mod_eq_of_lt (show x % 2 < 256 by omega), Nat.mod_eq_of_lt (show x % 2 * 2 ^ 7 < 256 by omega), Nat.mod_eq_of_lt (show x % 2 * 2 ^ 7 < 256 by omega)]
  rw [orSh (k := 7) (x % 2) (show z < 2 ^ 7 by omega)]
  omega
theorem spec48s (x y : Nat) (h : y < 57896044618658097711785492504343953926634992332820282019728792003956564819968) : Spec 68 [P2 x y] (.val (sS (packB x y))) := by
 have := spec_run envEOf rfl (r48 x y) ⟨by omega, trivial⟩ rfl rfl
 rw [pkL_eq x y h] at this
 exact this
end Go.Ev.H5.Ed

namespace Go.Ev.H5.Ed
open Go Go.Proofs Go.RowKit
end Go.Ev.H5.Ed

namespace Go.Ev.H5.Ed
open Go Go.Proofs Go.RowKit
def fn84y (vs : List V1) : Option (List Prop × AV) := match vs with | [.one (.v (.string s))] => some ([s.size = 32], .tup [N8 (leS s), .one (.i 0)]) | _ => none
def fn87s (vs : List V1) : Option (List Prop × AV) := match vs with | [.one (.v (.string s))] => some ([s.size = 32], .val (N8 (leS s))) | _ => none
theorem ct84y : CTok ⟨91, fn84y⟩ := by
 intro vs ob r h ho
 simp only [fn84y] at h
 split at h
 ·simp only [Option.some.injEq, Prod.mk.injEq] at h
  obtain ⟨rfl, rfl⟩ := h
  exact spec84s _ ho.1
 ·simp at h
theorem ct87s : CTok ⟨53, fn87s⟩ := by
 intro vs ob r h ho
 simp only [fn87s] at h
 split at h
 ·simp only [Option.some.injEq, Prod.mk.injEq] at h
  obtain ⟨rfl, rfl⟩ := h
  exact spec87s _ ho.1
 ·simp at h
end Go.Ev.H5.Ed

namespace Go.Ev.H5.Ed
open Go Go.Proofs Go.RowKit
end Go.Ev.H5.Ed

namespace Go.Ev.H5.Ed
open Go Go.Proofs Go.RowKit
end Go.Ev.H5.Ed

namespace Go.Ev.H5.Ed
open Go Go.Proofs Go.RowKit
end Go.Ev.H5.Ed

namespace Go.Ev.H5.Ed
open Go Go.Proofs Go.RowKit
end Go.Ev.H5.Ed

namespace Go.Ev.H5.Ed
open Go Go.Proofs Go.RowKit
noncomputable def gP82 : List Val → Option (List Prop × AV)
 | [.n x, .n y] => some ([onE x y = true], .val (sS (packB x y)))
 | _ => none
theorem mod0_lt : modN 0 < 57896044618658097711785492504343953926634992332820282019728792003956564819968 := by decide +kernel
theorem ct82p : CTok ⟨92, fnS [.s [.n8, .n8]] gP82⟩ := ctS (by
 intro xs ob r hb h ho
 unfold gP82 at h
 split at h
 ·simp only [Option.some.injEq, Prod.mk.injEq] at h
  obtain ⟨rfl, rfl⟩ := h
  exact spec82s _ _ (Nat.lt_trans (onE_lt ho.1).2 mod0_lt)
 ·simp at h)
theorem ct48p : CTok ⟨68, fnS [.s [.n8, .n8]] gP82⟩ := ctS (by
 intro xs ob r hb h ho
 unfold gP82 at h
 split at h
 ·simp only [Option.some.injEq, Prod.mk.injEq] at h
  obtain ⟨rfl, rfl⟩ := h
  exact spec48s _ _ (Nat.lt_trans (onE_lt ho.1).2 mod0_lt)
 ·simp at h)
noncomputable def LPk : List CT := ⟨68, fnS [.s [.n8, .n8]] gP82⟩ :: L9a
theorem LPk_ok : AllCT LPk := ⟨ct48p, L9a_ok⟩
end Go.Ev.H5.Ed

namespace Go.Ev
open Go Go.Proofs Go.RowKit
theorem subM_add {m a b : Nat} (hb : b < m) : (subM m a b + b) % m = a % m := by
 unfold subM
 rw [Nat.mod_add_mod, Nat.sub_add_cancel (by omega), Nat.add_mod_right]
theorem add_inj {m r s y : Nat} (hr : r < m) (hs : s < m) (h : (r + y) % m = (s + y) % m) : r = s := by
 have h1 : ∀ {r s : Nat}, r < m → s < m → r ≤ s → (r + y) % m = (s + y) % m → r = s := by
  intro r s _ hs hle h
  have h2 : (s + y - (r + y)) % m = 0 := Nat.sub_mod_eq_zero_of_mod_eq h.symm
  rw [show s + y - (r + y) = s - r by omega, Nat.mod_eq_of_lt (by omega)] at h2
  omega
 rcases Nat.le_total r s with hle | hle
 ·exact h1 hr hs hle h
 ·exact (h1 hs hr hle h.symm).symm
theorem in_mod (m a : Nat) : inN m (a % m) = inN m a := by rw [in_eq, in_eq, Nat.mod_mul_mod]
theorem in_add {m : Nat} (a b : Nat) : addM m (inN m a) (inN m b) = inN m (addM m a b) := by
 unfold addM
 rw [in_mod, in_eq, in_eq, in_eq, ← Nat.add_mod, Nat.add_mul]
theorem in_sub {m : Nat} (hm : 0 < m) {a b : Nat} (hb : b < m) : subM m (inN m a) (inN m b) = inN m (subM m a b) := by
 refine add_inj (y := inN m b) (subM_lt hm) (inN_lt hm) ?_
 rw [subM_add (inN_lt hm)]
 have h := in_add (m := m) (subM m a b) b
 unfold addM at h
 rw [h, subM_add hb, in_mod, Nat.mod_eq_of_lt (inN_lt hm)]
theorem in_mul {k : Nat} (hk : k < 4) (x y : Nat) : mmN (modN k) (inN (modN k) x) (inN (modN k) y) = inN (modN k) (mulM (modN k) x y) := mm_in (modN_lt k) (good_fac hk)
theorem facN_lt32 (k : Nat) : facN k < 4294967296 := by unfold facN facF; omega
theorem facR_lt32 (u : Nat) : facR u < 4294967296 := by unfold facR; omega
theorem r2N_lt {k : Nat} (hk : k < 4) : r2N (modN k) < modN k := (okR_K hk).2.2.1
def cV (v : AV) : List V1 → Option (List Prop × AV) := fun vs => match vs with | [] => some ([], v) | _ => none
theorem ctV {f : FuncId} {v : AV} (h : Spec f [] v) : CTok ⟨f, cV v⟩ := by
 intro vs ob r hv ho
 simp only [cV] at hv
 split at hv
 ·simp only [Option.some.injEq, Prod.mk.injEq] at hv
  obtain ⟨rfl, rfl⟩ := hv
  exact h
 ·simp at hv
def aN : Arg := .s [.n8]
def aLaw : Arg := .s [.n8, .u32, .n8]
end Go.Ev

namespace Go.Ev
open Go Go.Proofs Go.RowKit
def Cz (m : Nat) (a b : Int) : Prop := (m : Int) ∣ a - b
section
variable {m : Nat} {a b c d : Int}
theorem Cz.refl (m : Nat) (a : Int) : Cz m a a := by unfold Cz; rw [Int.sub_self]; exact Int.dvd_zero _
theorem Cz.of_eq (h : a = b) : Cz m a b := by subst h; exact Cz.refl m a
theorem Cz.lc1 {u v : Int} (h : Cz m u v) (k : Int) (e : a - b = k * (u - v)) : Cz m a b := by
 unfold Cz at *; rw [e]; exact Int.dvd_mul_of_dvd_right h
theorem Cz.lc2 {u v u' v' : Int} (h : Cz m u v) (h' : Cz m u' v') (k k' : Int) (e : a - b = k * (u - v) + k' * (u' - v')) : Cz m a b := by
 unfold Cz at *; rw [e]; exact Int.dvd_add (Int.dvd_mul_of_dvd_right h) (Int.dvd_mul_of_dvd_right h')
theorem Cz.lc3 {u v u' v' u2 v2 : Int} (h : Cz m u v) (h' : Cz m u' v') (h2 : Cz m u2 v2) (k k' k2 : Int) (e : a - b = k * (u - v) + k' * (u' - v') + k2 * (u2 - v2)) : Cz m a b := by
 unfold Cz at *; rw [e]; exact Int.dvd_add (Int.dvd_add (Int.dvd_mul_of_dvd_right h) (Int.dvd_mul_of_dvd_right h')) (Int.dvd_mul_of_dvd_right h2)
theorem Cz.lc4 {u v u' v' u2 v2 u3 v3 : Int} (h : Cz m u v) (h' : Cz m u' v') (h2 : Cz m u2 v2) (h3 : Cz m u3 v3) (k k' k2 k3 : Int) (e : a - b = k * (u - v) + k' * (u' - v') + k2 * (u2 - v2) + k3 * (u3 - v3)) : Cz m a b := by
 unfold Cz at *; rw [e]; exact Int.dvd_add (Int.dvd_add (Int.dvd_add (Int.dvd_mul_of_dvd_right h) (Int.dvd_mul_of_dvd_right h')) (Int.dvd_mul_of_dvd_right h2)) (Int.dvd_mul_of_dvd_right h3)
theorem Cz.symm (h : Cz m a b) : Cz m b a := h.lc1 (-1) (by omega)
theorem Cz.trans (h : Cz m a b) (h' : Cz m b c) : Cz m a c := h.lc2 h' 1 1 (by omega)
theorem Cz.add (h : Cz m a b) (h' : Cz m c d) : Cz m (a + c) (b + d) := h.lc2 h' 1 1 (by omega)
theorem Cz.sub (h : Cz m a b) (h' : Cz m c d) : Cz m (a - c) (b - d) := h.lc2 h' 1 (-1) (by omega)
theorem Cz.mul (h : Cz m a b) (h' : Cz m c d) : Cz m (a * c) (b * d) := h.lc2 h' c b (by grind)
theorem Cz.nat {x y : Nat} (hx : x < m) (hy : y < m) (h : Cz m x y) : x = y := by
 unfold Cz at h
 obtain ⟨k, hk⟩ := h
 rcases Int.lt_trichotomy k 0 with h0 | h0 | h0
 ·have : (m : Int) * k ≤ (m : Int) * (-1) := Int.mul_le_mul_of_nonneg_left (by omega) (by omega)
  omega
 ·subst h0; omega
 ·have : (m : Int) * 1 ≤ (m : Int) * k := Int.mul_le_mul_of_nonneg_left (by omega) (by omega)
  omega
theorem cz_mod (x : Nat) : Cz m ((x % m : Nat) : Int) x := by
 unfold Cz
 refine ⟨-((x / m : Nat) : Int), ?_⟩
 have := Nat.mod_add_div x m
 have h2 : ((x % m : Nat) : Int) + (m : Int) * ((x / m : Nat) : Int) = x := by exact_mod_cast this
 rw [Int.mul_neg]; omega
theorem cz_mul (x y : Nat) : Cz m (mulM m x y) ((x : Int) * y) := by
 have := cz_mod (m := m) (x * y)
 unfold mulM; rwa [Int.natCast_mul] at this
theorem cz_add (x y : Nat) : Cz m (addM m x y) ((x : Int) + y) := by
 have := cz_mod (m := m) (x + y)
 unfold addM; rwa [Int.natCast_add] at this
theorem cz_sub {x y : Nat} (hy : y < m) : Cz m (subM m x y) ((x : Int) - y) := by
 have := cz_mod (m := m) (x + m - y)
 unfold subM
 refine this.trans ⟨1, ?_⟩
 omega
theorem cz_zero_iff {x : Nat} : Cz m x 0 ↔ x % m = 0 := by
 unfold Cz
 rw [Int.sub_zero]
 constructor
 ·intro h; exact Nat.mod_eq_zero_of_dvd (by exact_mod_cast h)
 ·intro h; exact_mod_cast Nat.dvd_of_mod_eq_zero h
def czN (m : Nat) (z : Int) : Nat := (z % (m : Int)).toNat
theorem czN_cz (hm : 0 < m) (z : Int) : Cz m (czN m z) z := by
 unfold Cz czN
 rw [Int.toNat_of_nonneg (Int.emod_nonneg _ (by omega))]
 refine ⟨-(z / (m : Int)), ?_⟩
 have := Int.emod_add_mul_ediv z (m : Int)
 rw [Int.mul_neg]; omega
theorem cz_euclid (hp : Go.NT.Pr m) (h : Cz m (a * b) 0) : Cz m a 0 ∨ Cz m b 0 := by
 have hm : 0 < m := by have := hp.1; omega
 have ha := czN_cz hm a
 have hb := czN_cz hm b
 have h1 : Cz m ((czN m a : Int) * (czN m b : Int)) 0 := (ha.mul hb).trans h
 have h2 : (czN m a * czN m b) % m = 0 := cz_zero_iff.1 (by rwa [Int.natCast_mul])
 rcases Go.NT.zero_of_mul hp h2 with h3 | h3
 ·exact .inl (ha.symm.trans (cz_zero_iff.2 h3))
 ·exact .inr (hb.symm.trans (cz_zero_iff.2 h3))
theorem cz_cancel (hp : Go.NT.Pr m) (h : Cz m (a * b) (a * c)) (ha : ¬ Cz m a 0) : Cz m b c := by
 rcases cz_euclid hp (a := a) (b := b - c) (h.lc1 1 (by grind)) with h1 | h1
 ·exact absurd h1 ha
 ·exact h1.lc1 1 (by omega)
end
theorem prK {k : Nat} (hk : k < 4) : Go.NT.Pr (modN k) := by rw [modN_P]; exact Go.NT.primeK hk
def invP (k z : Nat) : Nat := Go.NT.pwM (modN k) z (subN (modN k) 2)
theorem subN_2 (k : Nat) : subN (modN k) 2 = modN k - 2 := by
 have := modN_two k
 have := modN_lt k
 unfold subN; omega
theorem inv_cz {k z : Nat} (hk : k < 4) (hz : z < modN k) (h0 : ¬ Cz (modN k) z 0) : Cz (modN k) ((z : Int) * invP k z) 1 := by
 have hz0 : 0 < z := by
  rcases Nat.eq_zero_or_pos z with h | h
  ·subst h; exact absurd (Cz.refl _ _) h0
  ·exact h
 have h1 := Go.NT.inv_mul hk hz0 (by rwa [modN_P] at hz)
 rw [← modN_P] at h1
 have h2 : (z * invP k z) % modN k = 1 % modN k := by
  unfold invP Go.NT.pwM
  rw [subN_2, Nat.mul_mod_mod, h1, Nat.mod_eq_of_lt (modN_one k)]
 have h3 := cz_mod (m := modN k) (z * invP k z)
 rw [h2] at h3
 have h4 := cz_mod (m := modN k) 1
 have := h3.symm.trans h4
 rwa [Int.natCast_mul] at this
end Go.Ev

namespace Go.Ev.H5.Ed
open Go Go.Proofs Go.RowKit
theorem rt_K {p e f a : Nat} (hp : p < 2 ^ 256) (he : e < p) (hf : f < p) : Go.NT.rt p e f a = if Go.NT.powK 256 a e p * Go.NT.powK 256 a e p % p = a then Go.NT.powK 256 a e p else Go.NT.powK 256 a e p * Go.NT.powK 256 2 f p % p := by
 unfold Go.NT.rt
 rw [pwM_K hp he, pwM_K hp hf]
def candK (p c : Nat) : Nat := if Go.NT.powK 256 c ((p + 3) / 8) p * Go.NT.powK 256 c ((p + 3) / 8) p % p = c then Go.NT.powK 256 c ((p + 3) / 8) p else Go.NT.powK 256 c ((p + 3) / 8) p * Go.NT.powK 256 2 (p / 4) p % p
theorem cand_K (c : Nat) : Go.NT.candN 0 c = candK (Go.NT.modP 0) c := by
 rw [Go.NT.candN_0]
 exact rt_K (by decide +kernel) (by decide +kernel) (by decide +kernel)
def sqK (p c : Nat) : Bool := decide (candK p c * candK p c % p = c)
theorem sq_K (c : Nat) : Go.NT.isSq 0 c = sqK (Go.NT.modP 0) c := by
 unfold Go.NT.isSq sqK
 rw [cand_K]
theorem notSq : Go.NT.isSq 0 (modN 0 - dN) = false := by
 rw [sq_K]
 decide +kernel
abbrev C0 (a b : Int) : Prop := Cz (modN 0) a b
theorem pr0 : Go.NT.Pr (modN 0) := prK (by decide)
theorem nsq {s t : Int} (h : C0 (t * t) (-(dN : Int) * (s * s))) : C0 s 0 := by
 have hm := modN_pos 0
 have hs := czN_cz hm s
 have ht := czN_cz hm t
 have hsl : czN (modN 0) s < modN 0 := by
  unfold czN
  have := Int.emod_lt_of_pos s (show (0 : Int) < (modN 0 : Int) by omega)
  have := Int.emod_nonneg s (show ((modN 0 : Nat) : Int) ≠ 0 by omega)
  omega
 generalize czN (modN 0) s = s' at *
 generalize czN (modN 0) t = t' at *
 rcases Nat.eq_zero_or_pos s' with h0 | h0
 ·subst h0; exact hs.symm
 ·exfalso
  have h1 : C0 ((t' * t' : Nat) : Int) (((modN 0 - dN) * (s' * s' % modN 0) : Nat) : Int) := by
   have e1 := cz_mod (m := modN 0) (s' * s')
   have e2 : ((modN 0 - dN : Nat) : Int) = (modN 0 : Int) - dN := by have := dN_lt; omega
   rw [Int.natCast_mul, Int.natCast_mul, e2]
   rw [Int.natCast_mul] at e1
   have a1 : C0 ((t' : Int) * t') (t * t) := ht.mul ht
   have a2 : C0 ((s' : Int) * s') (s * s) := hs.mul hs
   have a3 : C0 (modN 0 : Int) 0 := by unfold C0 Cz; exact ⟨1, by omega⟩
   have a4 : C0 (((modN 0 : Nat) : Int) - dN) (-(dN : Int)) := a3.lc1 1 (by omega)
   exact (a1.trans h).trans (a4.mul (e1.trans a2)).symm
  have h2 : t' * t' % modN 0 = (modN 0 - dN) * (s' * s' % modN 0) % modN 0 := by
   have b1 := cz_mod (m := modN 0) (t' * t')
   have b2 := cz_mod (m := modN 0) ((modN 0 - dN) * (s' * s' % modN 0))
   exact Cz.nat (Nat.mod_lt _ hm) (Nat.mod_lt _ hm) ((b1.trans h1).trans b2.symm)
  have h3 : Go.NT.isSq 0 ((modN 0 - dN) * (s' * s' % modN 0) % modN 0) = true := Go.NT.isSq_of (r := t') (by decide) (by rw [← modN_P]; exact h2)
  have hd : modN 0 - dN < modN 0 := by
   have : 0 < dN := by decide
   omega
  rw [modN_P] at hsl hd
  have h4 := Go.NT.isSq_mul (k := 0) (by decide) h0 hsl hd
  rw [modN_P] at h3
  rw [h4, ← modN_P, notSq] at h3
  exact absurd h3 (by decide)
def iN : Nat := Go.NT.powK 256 2 (Go.NT.modP 0 / 4) (Go.NT.modP 0)
theorem i_sq : C0 ((iN : Int) * iN) (-1) := by
 have h : iN * iN % modN 0 = modN 0 - 1 := by decide +kernel
 have h1 := cz_mod (m := modN 0) (iN * iN)
 rw [h, Int.natCast_mul] at h1
 refine h1.symm.trans ⟨1, ?_⟩
 have := modN_pos 0
 omega
def On (x y : Int) : Prop := C0 (y * y - x * x) (1 + (dN : Int) * (x * x) * (y * y))
theorem one_ne : ¬ C0 1 0 := by
 intro h
 have := Cz.nat (m := modN 0) (x := 1) (y := 0) (modN_one 0) (modN_pos 0) h
 exact absurd this (by decide)
theorem two_ne : ¬ C0 2 0 := by
 intro h
 have := Cz.nat (m := modN 0) (x := 2) (y := 0) (modN_two 0) (modN_pos 0) h
 exact absurd this (by decide)
theorem mul_ne {a b : Int} (ha : ¬ C0 a 0) (hb : ¬ C0 b 0) : ¬ C0 (a * b) 0 := fun h => by
 rcases cz_euclid pr0 h with h | h
 ·exact ha h
 ·exact hb h
theorem complete {x1 y1 x2 y2 : Int} (h1 : On x1 y1) (h2 : On x2 y2) (he : C0 ((dN : Int) * x1 * x2 * y1 * y2 * ((dN : Int) * x1 * x2 * y1 * y2)) 1) : False := by
 have hi := i_sq
 generalize (iN : Int) = i at *
 unfold On at h1 h2
 have hxy : ¬ C0 (x1 * y1) 0 := fun h => one_ne (he.symm.trans (h.lc1 (dN * x2 * y2 * (dN * x1 * x2 * y1 * y2)) (by grind)))
 have hy2 : ¬ C0 y2 0 := fun h => one_ne (he.symm.trans (h.lc1 (dN * x1 * x2 * y1 * (dN * x1 * x2 * y1 * y2)) (by grind)))
 have hi0 : ¬ C0 i 0 := fun h => one_ne ((hi.symm.lc1 1 (by omega) : C0 (-1) (i * i)).lc2 h (-1) (-i) (by grind))
 have key : ∀ s : Int, s = 1 ∨ s = -1 → C0 (i * (x1 * y1) * (i * x2 + s * y2)) 0 := by
  intro s hs
  have hss : s * s = 1 := by rcases hs with rfl | rfl <;> rfl
  refine nsq (t := i * x1 + s * ((dN : Int) * x1 * x2 * y1 * y2) * y1) ?_
  generalize (dN : Int) = D at *
  refine Cz.lc4 h1 h2 he hi 1 (-D * (x1 * x1) * (y1 * y1)) (y1 * y1 - 1) (x1 * x1 + D * (x1 * x1) * (y1 * y1) * ((i * x2 + s * y2) * (i * x2 + s * y2) - x2 * x2)) ?_
  rcases hs with rfl | rfl <;> grind
 have ha := key 1 (.inl rfl)
 have hb := key (-1) (.inr rfl)
 have hn := mul_ne hi0 hxy
 have ha' : C0 (i * x2 + 1 * y2) 0 := by
  rcases cz_euclid pr0 ha with h | h
  ·exact absurd h hn
  ·exact h
 have hb' : C0 (i * x2 + -1 * y2) 0 := by
  rcases cz_euclid pr0 hb with h | h
  ·exact absurd h hn
  ·exact h
 exact mul_ne two_ne hy2 (ha'.lc2 hb' 1 (-1) (by omega))
end Go.Ev.H5.Ed

namespace Go.Ev.H5.Ed
def cqx1 (d x1 y1 x2 y2 x3 y3 : Int) : Int := -(d*d)*x1*(x2*x2*x2*x2)*(x3*x3)*(y2*y2*y2)*y3 - (d*d)*x1*(x2*x2*x2)*x3*(y2*y2*y2*y2)*(y3*y3) + (d*d)*(x2*x2*x2*x2)*x3*y1*(y2*y2*y2)*(y3*y3) + (d*d)*(x2*x2*x2)*(x3*x3)*y1*(y2*y2*y2*y2)*y3 - d*x1*(x2*x2*x2*x2)*(x3*x3)*y2*y3 - d*x1*(x2*x2*x2)*(x3*x3*x3)*(y2*y2) - d*x1*(x2*x2*x2)*x3*(y2*y2) + d*x1*(x2*x2)*(y2*y2*y2)*(y3*y3*y3) - d*x1*(x2*x2)*(y2*y2*y2)*y3 + d*x1*x2*x3*(y2*y2*y2*y2)*(y3*y3) + d*(x2*x2*x2*x2)*x3*y1*y2*(y3*y3) + d*(x2*x2*x2)*y1*(y2*y2)*(y3*y3*y3) - d*(x2*x2*x2)*y1*(y2*y2)*y3 - d*(x2*x2)*(x3*x3*x3)*y1*(y2*y2*y2) - d*(x2*x2)*x3*y1*(y2*y2*y2) - d*x2*(x3*x3)*y1*(y2*y2*y2*y2)*y3
def cqx2 (d x1 y1 x2 y2 x3 y3 : Int) : Int := (d*d)*(x1*x1)*(x2*x2)*(x3*x3*x3)*y1*y2*(y3*y3) - (d*d)*(x1*x1)*x2*(x3*x3)*y1*(y2*y2)*(y3*y3*y3) - (d*d)*x1*(x2*x2)*(x3*x3)*(y1*y1)*y2*(y3*y3*y3) + (d*d)*x1*x2*(x3*x3*x3)*(y1*y1)*(y2*y2)*(y3*y3) + d*(x1*x1*x1)*(x2*x2)*(x3*x3)*y2*y3 + d*(x1*x1*x1)*x2*(x3*x3*x3)*(y3*y3) + d*(x1*x1*x1)*x2*x3*(y2*y2)*(y3*y3) + d*(x1*x1*x1)*(x3*x3)*y2*(y3*y3*y3) - d*(x1*x1)*(x2*x2)*x3*y1*y2*(y3*y3) - d*(x1*x1)*x2*(x3*x3)*y1*(y2*y2)*y3 + d*(x1*x1)*x2*(x3*x3)*y1*(y3*y3*y3) + d*(x1*x1)*(x3*x3*x3)*y1*y2*(y3*y3) - d*x1*(x2*x2)*(x3*x3)*(y1*y1)*y2*y3 + d*x1*(x2*x2)*(x3*x3)*y2*y3 - d*x1*x2*(x3*x3*x3)*(y1*y1)*(y3*y3) + d*x1*x2*(x3*x3*x3)*(y3*y3) - d*x1*x2*x3*(y1*y1)*(y2*y2)*(y3*y3) + d*x1*x2*x3*(y2*y2)*(y3*y3) - d*x1*(x3*x3)*(y1*y1)*y2*(y3*y3*y3) + d*x1*(x3*x3)*y2*(y3*y3*y3) + d*(x2*x2)*x3*(y1*y1*y1)*y2*(y3*y3) - d*(x2*x2)*x3*y1*y2*(y3*y3) + d*x2*(x3*x3)*(y1*y1*y1)*(y2*y2)*y3 - d*x2*(x3*x3)*(y1*y1*y1)*(y3*y3*y3) - d*x2*(x3*x3)*y1*(y2*y2)*y3 + d*x2*(x3*x3)*y1*(y3*y3*y3) - d*(x3*x3*x3)*(y1*y1*y1)*y2*(y3*y3) + d*(x3*x3*x3)*y1*y2*(y3*y3) + (x1*x1*x1)*x2*(x3*x3*x3) - (x1*x1*x1)*x2*x3*(y3*y3) + (x1*x1*x1)*x2*x3 + (x1*x1*x1)*(x3*x3)*y2*y3 - (x1*x1*x1)*y2*(y3*y3*y3) + (x1*x1*x1)*y2*y3 + (x1*x1)*x2*(x3*x3)*y1*y3 - (x1*x1)*x2*y1*(y3*y3*y3) + (x1*x1)*x2*y1*y3 + (x1*x1)*(x3*x3*x3)*y1*y2 - (x1*x1)*x3*y1*y2*(y3*y3) + (x1*x1)*x3*y1*y2 - x1*x2*(x3*x3*x3)*(y1*y1) + x1*x2*(x3*x3*x3) + x1*x2*x3*(y1*y1)*(y3*y3) - x1*x2*x3*(y1*y1) - x1*x2*x3*(y3*y3) + x1*x2*x3 - x1*(x3*x3)*(y1*y1)*y2*y3 + x1*(x3*x3)*y2*y3 + x1*(y1*y1)*y2*(y3*y3*y3) - x1*(y1*y1)*y2*y3 - x1*y2*(y3*y3*y3) + x1*y2*y3 - x2*(x3*x3)*(y1*y1*y1)*y3 + x2*(x3*x3)*y1*y3 + x2*(y1*y1*y1)*(y3*y3*y3) - x2*(y1*y1*y1)*y3 - x2*y1*(y3*y3*y3) + x2*y1*y3 - (x3*x3*x3)*(y1*y1*y1)*y2 + (x3*x3*x3)*y1*y2 + x3*(y1*y1*y1)*y2*(y3*y3) - x3*(y1*y1*y1)*y2 - x3*y1*y2*(y3*y3) + x3*y1*y2
def cqx3 (d x1 y1 x2 y2 x3 y3 : Int) : Int := -d*(x1*x1)*(x2*x2)*x3*y1*y2 + d*(x1*x1)*x2*y1*(y2*y2)*y3 + d*x1*(x2*x2)*(y1*y1)*y2*y3 - d*x1*x2*x3*(y1*y1)*(y2*y2) - (x1*x1*x1)*(x2*x2*x2)*x3 - (x1*x1*x1)*(x2*x2)*y2*y3 + (x1*x1*x1)*x2*x3*(y2*y2) - (x1*x1*x1)*x2*x3 + (x1*x1*x1)*(y2*y2*y2)*y3 - (x1*x1*x1)*y2*y3 - (x1*x1)*(x2*x2*x2)*y1*y3 - (x1*x1)*(x2*x2)*x3*y1*y2 + (x1*x1)*x2*y1*(y2*y2)*y3 - (x1*x1)*x2*y1*y3 + (x1*x1)*x3*y1*(y2*y2*y2) - (x1*x1)*x3*y1*y2 + x1*(x2*x2*x2)*x3*(y1*y1) - x1*(x2*x2*x2)*x3 + x1*(x2*x2)*(y1*y1)*y2*y3 - x1*(x2*x2)*y2*y3 - x1*x2*x3*(y1*y1)*(y2*y2) + x1*x2*x3*(y1*y1) + x1*x2*x3*(y2*y2) - x1*x2*x3 - x1*(y1*y1)*(y2*y2*y2)*y3 + x1*(y1*y1)*y2*y3 + x1*(y2*y2*y2)*y3 - x1*y2*y3 + (x2*x2*x2)*(y1*y1*y1)*y3 - (x2*x2*x2)*y1*y3 + (x2*x2)*x3*(y1*y1*y1)*y2 - (x2*x2)*x3*y1*y2 - x2*(y1*y1*y1)*(y2*y2)*y3 + x2*(y1*y1*y1)*y3 + x2*y1*(y2*y2)*y3 - x2*y1*y3 - x3*(y1*y1*y1)*(y2*y2*y2) + x3*(y1*y1*y1)*y2 + x3*y1*(y2*y2*y2) - x3*y1*y2
theorem cert_x (d x1 y1 x2 y2 x3 y3 : Int) : ((x1*y2+x2*y1)*(1-d*x1*x2*y1*y2)*y3+(y1*y2+x1*x2)*(1+d*x1*x2*y1*y2)*x3)*((1+d*x2*x3*y2*y3)*(1-d*x2*x3*y2*y3)+d*(x2*y3+x3*y2)*(y2*y3+x2*x3)*x1*y1)-(x1*(y2*y3+x2*x3)*(1+d*x2*x3*y2*y3)+y1*(x2*y3+x3*y2)*(1-d*x2*x3*y2*y3))*((1+d*x1*x2*y1*y2)*(1-d*x1*x2*y1*y2)+d*(x1*y2+x2*y1)*(y1*y2+x1*x2)*x3*y3) = cqx1 d x1 y1 x2 y2 x3 y3 * ((y1*y1 - x1*x1) - (1 + d*(x1*x1)*(y1*y1))) + cqx2 d x1 y1 x2 y2 x3 y3 * ((y2*y2 - x2*x2) - (1 + d*(x2*x2)*(y2*y2))) + cqx3 d x1 y1 x2 y2 x3 y3 * ((y3*y3 - x3*x3) - (1 + d*(x3*x3)*(y3*y3))) := by
 unfold cqx1 cqx2 cqx3
 grind
def cqy1 (d x1 y1 x2 y2 x3 y3 : Int) : Int := (d*d)*x1*(x2*x2*x2*x2)*x3*(y2*y2*y2)*(y3*y3) + (d*d)*x1*(x2*x2*x2)*(x3*x3)*(y2*y2*y2*y2)*y3 - (d*d)*(x2*x2*x2*x2)*(x3*x3)*y1*(y2*y2*y2)*y3 - (d*d)*(x2*x2*x2)*x3*y1*(y2*y2*y2*y2)*(y3*y3) + d*x1*(x2*x2*x2*x2)*x3*y2*(y3*y3) + d*x1*(x2*x2*x2)*(y2*y2)*(y3*y3*y3) - d*x1*(x2*x2*x2)*(y2*y2)*y3 - d*x1*(x2*x2)*(x3*x3*x3)*(y2*y2*y2) - d*x1*(x2*x2)*x3*(y2*y2*y2) - d*x1*x2*(x3*x3)*(y2*y2*y2*y2)*y3 - d*(x2*x2*x2*x2)*(x3*x3)*y1*y2*y3 - d*(x2*x2*x2)*(x3*x3*x3)*y1*(y2*y2) - d*(x2*x2*x2)*x3*y1*(y2*y2) + d*(x2*x2)*y1*(y2*y2*y2)*(y3*y3*y3) - d*(x2*x2)*y1*(y2*y2*y2)*y3 + d*x2*x3*y1*(y2*y2*y2*y2)*(y3*y3)
def cqy2 (d x1 y1 x2 y2 x3 y3 : Int) : Int := (d*d)*(x1*x1)*(x2*x2)*(x3*x3)*y1*y2*(y3*y3*y3) - (d*d)*(x1*x1)*x2*(x3*x3*x3)*y1*(y2*y2)*(y3*y3) - (d*d)*x1*(x2*x2)*(x3*x3*x3)*(y1*y1)*y2*(y3*y3) + (d*d)*x1*x2*(x3*x3)*(y1*y1)*(y2*y2)*(y3*y3*y3) - d*(x1*x1*x1)*(x2*x2)*x3*y2*(y3*y3) - d*(x1*x1*x1)*x2*(x3*x3)*(y2*y2)*y3 + d*(x1*x1*x1)*x2*(x3*x3)*(y3*y3*y3) + d*(x1*x1*x1)*(x3*x3*x3)*y2*(y3*y3) + d*(x1*x1)*(x2*x2)*(x3*x3)*y1*y2*y3 + d*(x1*x1)*x2*(x3*x3*x3)*y1*(y3*y3) + d*(x1*x1)*x2*x3*y1*(y2*y2)*(y3*y3) + d*(x1*x1)*(x3*x3)*y1*y2*(y3*y3*y3) + d*x1*(x2*x2)*x3*(y1*y1)*y2*(y3*y3) - d*x1*(x2*x2)*x3*y2*(y3*y3) + d*x1*x2*(x3*x3)*(y1*y1)*(y2*y2)*y3 - d*x1*x2*(x3*x3)*(y1*y1)*(y3*y3*y3) - d*x1*x2*(x3*x3)*(y2*y2)*y3 + d*x1*x2*(x3*x3)*(y3*y3*y3) - d*x1*(x3*x3*x3)*(y1*y1)*y2*(y3*y3) + d*x1*(x3*x3*x3)*y2*(y3*y3) - d*(x2*x2)*(x3*x3)*(y1*y1*y1)*y2*y3 + d*(x2*x2)*(x3*x3)*y1*y2*y3 - d*x2*(x3*x3*x3)*(y1*y1*y1)*(y3*y3) + d*x2*(x3*x3*x3)*y1*(y3*y3) - d*x2*x3*(y1*y1*y1)*(y2*y2)*(y3*y3) + d*x2*x3*y1*(y2*y2)*(y3*y3) - d*(x3*x3)*(y1*y1*y1)*y2*(y3*y3*y3) + d*(x3*x3)*y1*y2*(y3*y3*y3) + (x1*x1*x1)*x2*(x3*x3)*y3 - (x1*x1*x1)*x2*(y3*y3*y3) + (x1*x1*x1)*x2*y3 + (x1*x1*x1)*(x3*x3*x3)*y2 - (x1*x1*x1)*x3*y2*(y3*y3) + (x1*x1*x1)*x3*y2 + (x1*x1)*x2*(x3*x3*x3)*y1 - (x1*x1)*x2*x3*y1*(y3*y3) + (x1*x1)*x2*x3*y1 + (x1*x1)*(x3*x3)*y1*y2*y3 - (x1*x1)*y1*y2*(y3*y3*y3) + (x1*x1)*y1*y2*y3 - x1*x2*(x3*x3)*(y1*y1)*y3 + x1*x2*(x3*x3)*y3 + x1*x2*(y1*y1)*(y3*y3*y3) - x1*x2*(y1*y1)*y3 - x1*x2*(y3*y3*y3) + x1*x2*y3 - x1*(x3*x3*x3)*(y1*y1)*y2 + x1*(x3*x3*x3)*y2 + x1*x3*(y1*y1)*y2*(y3*y3) - x1*x3*(y1*y1)*y2 - x1*x3*y2*(y3*y3) + x1*x3*y2 - x2*(x3*x3*x3)*(y1*y1*y1) + x2*(x3*x3*x3)*y1 + x2*x3*(y1*y1*y1)*(y3*y3) - x2*x3*(y1*y1*y1) - x2*x3*y1*(y3*y3) + x2*x3*y1 - (x3*x3)*(y1*y1*y1)*y2*y3 + (x3*x3)*y1*y2*y3 + (y1*y1*y1)*y2*(y3*y3*y3) - (y1*y1*y1)*y2*y3 - y1*y2*(y3*y3*y3) + y1*y2*y3
def cqy3 (d x1 y1 x2 y2 x3 y3 : Int) : Int := -d*(x1*x1)*(x2*x2)*y1*y2*y3 + d*(x1*x1)*x2*x3*y1*(y2*y2) + d*x1*(x2*x2)*x3*(y1*y1)*y2 - d*x1*x2*(y1*y1)*(y2*y2)*y3 - (x1*x1*x1)*(x2*x2*x2)*y3 - (x1*x1*x1)*(x2*x2)*x3*y2 + (x1*x1*x1)*x2*(y2*y2)*y3 - (x1*x1*x1)*x2*y3 + (x1*x1*x1)*x3*(y2*y2*y2) - (x1*x1*x1)*x3*y2 - (x1*x1)*(x2*x2*x2)*x3*y1 - (x1*x1)*(x2*x2)*y1*y2*y3 + (x1*x1)*x2*x3*y1*(y2*y2) - (x1*x1)*x2*x3*y1 + (x1*x1)*y1*(y2*y2*y2)*y3 - (x1*x1)*y1*y2*y3 + x1*(x2*x2*x2)*(y1*y1)*y3 - x1*(x2*x2*x2)*y3 + x1*(x2*x2)*x3*(y1*y1)*y2 - x1*(x2*x2)*x3*y2 - x1*x2*(y1*y1)*(y2*y2)*y3 + x1*x2*(y1*y1)*y3 + x1*x2*(y2*y2)*y3 - x1*x2*y3 - x1*x3*(y1*y1)*(y2*y2*y2) + x1*x3*(y1*y1)*y2 + x1*x3*(y2*y2*y2) - x1*x3*y2 + (x2*x2*x2)*x3*(y1*y1*y1) - (x2*x2*x2)*x3*y1 + (x2*x2)*(y1*y1*y1)*y2*y3 - (x2*x2)*y1*y2*y3 - x2*x3*(y1*y1*y1)*(y2*y2) + x2*x3*(y1*y1*y1) + x2*x3*y1*(y2*y2) - x2*x3*y1 - (y1*y1*y1)*(y2*y2*y2)*y3 + (y1*y1*y1)*y2*y3 + y1*(y2*y2*y2)*y3 - y1*y2*y3
theorem cert_y (d x1 y1 x2 y2 x3 y3 : Int) : ((y1*y2+x1*x2)*(1+d*x1*x2*y1*y2)*y3+(x1*y2+x2*y1)*(1-d*x1*x2*y1*y2)*x3)*((1+d*x2*x3*y2*y3)*(1-d*x2*x3*y2*y3)-d*(x2*y3+x3*y2)*(y2*y3+x2*x3)*x1*y1)-(y1*(y2*y3+x2*x3)*(1+d*x2*x3*y2*y3)+x1*(x2*y3+x3*y2)*(1-d*x2*x3*y2*y3))*((1+d*x1*x2*y1*y2)*(1-d*x1*x2*y1*y2)-d*(x1*y2+x2*y1)*(y1*y2+x1*x2)*x3*y3) = cqy1 d x1 y1 x2 y2 x3 y3 * ((y1*y1 - x1*x1) - (1 + d*(x1*x1)*(y1*y1))) + cqy2 d x1 y1 x2 y2 x3 y3 * ((y2*y2 - x2*x2) - (1 + d*(x2*x2)*(y2*y2))) + cqy3 d x1 y1 x2 y2 x3 y3 * ((y3*y3 - x3*x3) - (1 + d*(x3*x3)*(y3*y3))) := by
 unfold cqy1 cqy2 cqy3
 grind
def cc1 (d x1 y1 x2 y2 : Int) : Int := (d*d*d)*(x1*x1)*(x2*x2*x2*x2)*(y1*y1)*(y2*y2*y2*y2) - (d*d)*(x1*x1)*(x2*x2*x2*x2)*(y2*y2*y2*y2) + (d*d)*(x2*x2*x2*x2)*(y1*y1)*(y2*y2*y2*y2) - (d*d)*(x2*x2*x2*x2)*(y2*y2*y2*y2) - d*(x1*x1)*(x2*x2*x2*x2)*(y2*y2) + d*(x1*x1)*(x2*x2)*(y2*y2*y2*y2) + d*(x2*x2*x2*x2)*(y1*y1)*(y2*y2) - 2*d*(x2*x2*x2*x2)*(y2*y2*y2*y2) - d*(x2*x2)*(y1*y1)*(y2*y2*y2*y2) - 2*d*(x2*x2)*(y2*y2) - 2*(x2*x2*x2*x2)*(y2*y2) + (x2*x2*x2*x2) + 2*(x2*x2)*(y2*y2*y2*y2) - 4*(x2*x2)*(y2*y2) + (y2*y2*y2*y2)
def cc2 (d x1 y1 x2 y2 : Int) : Int := d*(x1*x1*x1*x1)*(x2*x2)*(y2*y2) + 2*d*(x1*x1)*(x2*x2)*(y2*y2) + d*(x2*x2)*(y1*y1*y1*y1)*(y2*y2) - 2*d*(x2*x2)*(y1*y1)*(y2*y2) + d*(x2*x2)*(y2*y2) + 2*(x1*x1)*(x2*x2)*(y2*y2) - (x1*x1)*(x2*x2) + (x1*x1)*(y2*y2) - 2*(x2*x2)*(y1*y1)*(y2*y2) + (x2*x2)*(y1*y1) + 2*(x2*x2)*(y2*y2) - (x2*x2) - (y1*y1)*(y2*y2) + (y2*y2) + 1
theorem cert_c (d x1 y1 x2 y2 : Int) : ((y1*y2+x1*x2)*(1+d*x1*x2*y1*y2))*((y1*y2+x1*x2)*(1+d*x1*x2*y1*y2)) - ((x1*y2+x2*y1)*(1-d*x1*x2*y1*y2))*((x1*y2+x2*y1)*(1-d*x1*x2*y1*y2)) - (((1+d*x1*x2*y1*y2)*(1-d*x1*x2*y1*y2))*((1+d*x1*x2*y1*y2)*(1-d*x1*x2*y1*y2)) + d*((x1*y2+x2*y1)*(x1*y2+x2*y1))*((y1*y2+x1*x2)*(y1*y2+x1*x2))) = cc1 d x1 y1 x2 y2 * ((y1*y1 - x1*x1) - (1 + d*(x1*x1)*(y1*y1))) + cc2 d x1 y1 x2 y2 * ((y2*y2 - x2*x2) - (1 + d*(x2*x2)*(y2*y2))) := by
 unfold cc1 cc2
 grind
end Go.Ev.H5.Ed

namespace Go.Ev.H5.Ed
open Go Go.Proofs Go.RowKit
theorem cD : C0 pTw (2 * (dN : Int)) := (cz_add dN dN).trans (Cz.of_eq (by grind))
theorem cB (p q : E4) : C0 (pB p q) (((p.y : Int) + p.x) * ((q.y : Int) + q.x)) := (cz_mul _ _).trans ((cz_add _ _).mul (cz_add _ _))
theorem cC (p q : E4) : C0 (pC p q) (2 * (dN : Int) * p.t * q.t) := (cz_mul _ _).trans ((((cz_mul _ _).trans ((Cz.refl _ _).mul cD)).mul (Cz.refl _ _)).trans (Cz.of_eq (by grind)))
theorem cDD (p q : E4) : C0 (pD p q) (2 * (p.z : Int) * q.z) := (cz_mul _ _).trans (((cz_add _ _).mul (Cz.refl _ _)).trans (Cz.of_eq (by grind)))
theorem cF (p q : E4) : C0 (pF p q) (2 * ((p.z : Int) * q.z - dN * p.t * q.t)) := (cz_sub (show pC p q < modN 0 from mulM_lt (modN_pos 0))).trans (((cDD p q).sub (cC p q)).trans (Cz.of_eq (by grind)))
theorem cG (p q : E4) : C0 (pG p q) (2 * ((p.z : Int) * q.z + dN * p.t * q.t)) := (cz_add _ _).trans (((cDD p q).add (cC p q)).trans (Cz.of_eq (by grind)))
theorem c3z (p q : E4) : C0 (pAdd p q).z (2 * ((p.z : Int) * q.z - dN * p.t * q.t) * (2 * ((p.z : Int) * q.z + dN * p.t * q.t))) := (cz_mul _ _).trans ((cF p q).mul (cG p q))
section
variable {p q : E4} (hp : p.lt) (hq : q.lt)
include hp hq
theorem cA : C0 (pA p q) (((p.y : Int) - p.x) * ((q.y : Int) - q.x)) := (cz_mul _ _).trans ((cz_sub hp.1).mul (cz_sub hq.1))
theorem cE : C0 (pE p q) (2 * ((p.x : Int) * q.y + p.y * q.x)) := (cz_sub (show pA p q < modN 0 from mulM_lt (modN_pos 0))).trans (((cB p q).sub (cA hp hq)).trans (Cz.of_eq (by grind)))
theorem cH : C0 (pH p q) (2 * ((p.y : Int) * q.y + p.x * q.x)) := (cz_add _ _).trans (((cB p q).add (cA hp hq)).trans (Cz.of_eq (by grind)))
theorem c3x : C0 (pAdd p q).x (2 * ((p.x : Int) * q.y + p.y * q.x) * (2 * ((p.z : Int) * q.z - dN * p.t * q.t))) := (cz_mul _ _).trans ((cE hp hq).mul (cF p q))
theorem c3y : C0 (pAdd p q).y (2 * ((p.z : Int) * q.z + dN * p.t * q.t) * (2 * ((p.y : Int) * q.y + p.x * q.x))) := (cz_mul _ _).trans ((cG p q).mul (cH hp hq))
theorem c3t : C0 (pAdd p q).t (2 * ((p.x : Int) * q.y + p.y * q.x) * (2 * ((p.y : Int) * q.y + p.x * q.x))) := (cz_mul _ _).trans ((cE hp hq).mul (cH hp hq))
end
def Rep (P : E4) (x y : Int) : Prop := P.lt ∧ ¬ C0 P.z 0 ∧ C0 P.x (x * P.z) ∧ C0 P.y (y * P.z) ∧ C0 P.t (x * y * P.z)
def eI (x1 y1 x2 y2 : Int) : Int := (dN : Int) * x1 * x2 * y1 * y2
theorem plus_ne {x1 y1 x2 y2 : Int} (h1 : On x1 y1) (h2 : On x2 y2) : ¬ C0 (1 + eI x1 y1 x2 y2) 0 := fun h => complete h1 h2 (by
 unfold eI at h
 exact h.lc1 ((dN : Int) * x1 * x2 * y1 * y2 - 1) (by grind))
theorem minus_ne {x1 y1 x2 y2 : Int} (h1 : On x1 y1) (h2 : On x2 y2) : ¬ C0 (1 - eI x1 y1 x2 y2) 0 := fun h => complete h1 h2 (by
 unfold eI at h
 exact h.lc1 (-((dN : Int) * x1 * x2 * y1 * y2) - 1) (by grind))
def IsSum (x1 y1 x2 y2 x3 y3 : Int) : Prop := C0 (x3 * (1 + eI x1 y1 x2 y2)) (x1 * y2 + x2 * y1) ∧ C0 (y3 * (1 - eI x1 y1 x2 y2)) (y1 * y2 + x1 * x2)
theorem rep_add {p q : E4} {x1 y1 x2 y2 x3 y3 : Int} (hp : Rep p x1 y1) (hq : Rep q x2 y2) (h1 : On x1 y1) (h2 : On x2 y2) (hs : IsSum x1 y1 x2 y2 x3 y3) : Rep (pAdd p q) x3 y3 := by
 obtain ⟨pl, pz, px, py, pt⟩ := hp
 obtain ⟨ql, qz, qx, qy, qt⟩ := hq
 obtain ⟨s1, s2⟩ := hs
 have hplus := plus_ne h1 h2
 have hminus := minus_ne h1 h2
 have cx := c3x pl ql
 have cy := c3y pl ql
 have cz := c3z p q
 have ct := c3t pl ql
 have tt : C0 ((p.t : Int) * q.t) (x1 * y1 * p.z * (x2 * y2 * q.z)) := pt.mul qt
 have xy : C0 ((p.x : Int) * q.y + p.y * q.x) (x1 * p.z * (y2 * q.z) + y1 * p.z * (x2 * q.z)) := (px.mul qy).add (py.mul qx)
 have yy : C0 ((p.y : Int) * q.y + p.x * q.x) (y1 * p.z * (y2 * q.z) + x1 * p.z * (x2 * q.z)) := (py.mul qy).add (px.mul qx)
 have f : C0 ((p.z : Int) * q.z - dN * p.t * q.t) (p.z * q.z * (1 - eI x1 y1 x2 y2)) := tt.lc1 (-(dN : Int)) (by unfold eI; grind)
 have g : C0 ((p.z : Int) * q.z + dN * p.t * q.t) (p.z * q.z * (1 + eI x1 y1 x2 y2)) := tt.lc1 (dN : Int) (by unfold eI; grind)
 have hz : C0 ((pAdd p q).z : Int) (2 * (p.z * q.z * (1 - eI x1 y1 x2 y2)) * (2 * (p.z * q.z * (1 + eI x1 y1 x2 y2)))) := cz.trans (((Cz.refl _ 2).mul f).mul ((Cz.refl _ 2).mul g))
 have hx : C0 ((pAdd p q).x : Int) (2 * (x1 * p.z * (y2 * q.z) + y1 * p.z * (x2 * q.z)) * (2 * (p.z * q.z * (1 - eI x1 y1 x2 y2)))) := cx.trans (((Cz.refl _ 2).mul xy).mul ((Cz.refl _ 2).mul f))
 have hy : C0 ((pAdd p q).y : Int) (2 * (p.z * q.z * (1 + eI x1 y1 x2 y2)) * (2 * (y1 * p.z * (y2 * q.z) + x1 * p.z * (x2 * q.z)))) := cy.trans (((Cz.refl _ 2).mul g).mul ((Cz.refl _ 2).mul yy))
 have ht : C0 ((pAdd p q).t : Int) (2 * (x1 * p.z * (y2 * q.z) + y1 * p.z * (x2 * q.z)) * (2 * (y1 * p.z * (y2 * q.z) + x1 * p.z * (x2 * q.z)))) := ct.trans (((Cz.refl _ 2).mul xy).mul ((Cz.refl _ 2).mul yy))
 refine ⟨pAdd_lt p q, fun h => mul_ne (mul_ne two_ne (mul_ne (mul_ne pz qz) hminus)) (mul_ne two_ne (mul_ne (mul_ne pz qz) hplus)) (hz.symm.trans h), ?_, ?_, ?_⟩
 ·refine hx.trans (Cz.trans ?_ ((Cz.refl _ x3).mul hz).symm)
  exact s1.lc1 (-(4 * (p.z * q.z) * (p.z * q.z) * (1 - eI x1 y1 x2 y2))) (by generalize eI x1 y1 x2 y2 = e; grind)
 ·refine hy.trans (Cz.trans ?_ ((Cz.refl _ y3).mul hz).symm)
  exact s2.lc1 (-(4 * (p.z * q.z) * (p.z * q.z) * (1 + eI x1 y1 x2 y2))) (by generalize eI x1 y1 x2 y2 = e; grind)
 ·refine ht.trans (Cz.trans ?_ ((Cz.refl _ (x3 * y3)).mul hz).symm)
  exact s1.lc2 s2 (-(4 * (p.z * q.z) * (p.z * q.z) * (y1 * y2 + x1 * x2))) (-(4 * (p.z * q.z) * (p.z * q.z) * (x3 * (1 + eI x1 y1 x2 y2)))) (by generalize eI x1 y1 x2 y2 = e; grind)
theorem sum_uniq {x1 y1 x2 y2 x3 y3 x4 y4 : Int} (h1 : On x1 y1) (h2 : On x2 y2) (hs : IsSum x1 y1 x2 y2 x3 y3) (ht : IsSum x1 y1 x2 y2 x4 y4) : C0 x3 x4 ∧ C0 y3 y4 := by
 refine ⟨cz_cancel pr0 (a := 1 + eI x1 y1 x2 y2) ?_ (plus_ne h1 h2), cz_cancel pr0 (a := 1 - eI x1 y1 x2 y2) ?_ (minus_ne h1 h2)⟩
 ·exact hs.1.lc2 ht.1 1 (-1) (by grind)
 ·exact hs.2.lc2 ht.2 1 (-1) (by grind)
theorem sum_on {x1 y1 x2 y2 x3 y3 : Int} (h1 : On x1 y1) (h2 : On x2 y2) (hs : IsSum x1 y1 x2 y2 x3 y3) : On x3 y3 := by
 have hplus := plus_ne h1 h2
 have hminus := minus_ne h1 h2
 have hBD := mul_ne hplus hminus
 obtain ⟨s1, s2⟩ := hs
 have hc := cert_c (dN : Int) x1 y1 x2 y2
 unfold On at *
 refine cz_cancel pr0 (a := ((1 + eI x1 y1 x2 y2) * (1 - eI x1 y1 x2 y2)) * ((1 + eI x1 y1 x2 y2) * (1 - eI x1 y1 x2 y2))) ?_ (mul_ne hBD hBD)
 have a1 : C0 (x3 * (1 + eI x1 y1 x2 y2) * (x3 * (1 + eI x1 y1 x2 y2))) ((x1 * y2 + x2 * y1) * (x1 * y2 + x2 * y1)) := s1.mul s1
 have a2 : C0 (y3 * (1 - eI x1 y1 x2 y2) * (y3 * (1 - eI x1 y1 x2 y2))) ((y1 * y2 + x1 * x2) * (y1 * y2 + x1 * x2)) := s2.mul s2
 have a3 := a1.mul a2
 have key : C0 (((y1*y2+x1*x2)*(1+eI x1 y1 x2 y2))*((y1*y2+x1*x2)*(1+eI x1 y1 x2 y2)) - ((x1*y2+x2*y1)*(1-eI x1 y1 x2 y2))*((x1*y2+x2*y1)*(1-eI x1 y1 x2 y2))) (((1+eI x1 y1 x2 y2)*(1-eI x1 y1 x2 y2))*((1+eI x1 y1 x2 y2)*(1-eI x1 y1 x2 y2)) + dN*((x1*y2+x2*y1)*(x1*y2+x2*y1))*((y1*y2+x1*x2)*(y1*y2+x1*x2))) :=
  h1.lc2 h2 (cc1 dN x1 y1 x2 y2) (cc2 dN x1 y1 x2 y2) (by unfold eI; exact hc)
 generalize eI x1 y1 x2 y2 = e at *
 exact key.lc4 a1 a2 a3 1 (-((1 - e) * (1 - e))) ((1 + e) * (1 + e)) (-(dN : Int)) (by grind)
theorem half_x {m : Nat} {B D A C ax ay x3 y3 bx d : Int} (a1 : Cz m (ax * B) A) (a2 : Cz m (ay * D) C) (e1 : Cz m (bx * (1 + d * ax * x3 * ay * y3)) (ax * y3 + x3 * ay)) :
  Cz m (bx * (B * D + d * A * C * x3 * y3)) (A * D * y3 + C * B * x3) ∧ Cz m (B * D * (1 + d * ax * x3 * ay * y3)) (B * D + d * A * C * x3 * y3) := by
 have aa := a1.mul a2
 exact ⟨e1.lc4 aa a1 a2 (B * D) (-(bx * d * x3 * y3)) (D * y3) (x3 * B) (by grind), aa.lc1 (d * x3 * y3) (by grind)⟩
theorem half_y {m : Nat} {B D A C ax ay x3 y3 bx d : Int} (a1 : Cz m (ax * B) A) (a2 : Cz m (ay * D) C) (e1 : Cz m (bx * (1 - d * ax * x3 * ay * y3)) (ay * y3 + ax * x3)) :
  Cz m (bx * (B * D - d * A * C * x3 * y3)) (C * B * y3 + A * D * x3) ∧ Cz m (B * D * (1 - d * ax * x3 * ay * y3)) (B * D - d * A * C * x3 * y3) := by
 have aa := a1.mul a2
 exact ⟨e1.lc4 aa a1 a2 (B * D) (bx * d * x3 * y3) (D * x3) (y3 * B) (by grind), aa.lc1 (-(d * x3 * y3)) (by grind)⟩
theorem sum_assoc {x1 y1 x2 y2 x3 y3 ax ay bx bY cx cy dx dy : Int} (h1 : On x1 y1) (h2 : On x2 y2) (h3 : On x3 y3) (ha : IsSum x1 y1 x2 y2 ax ay) (hb : IsSum ax ay x3 y3 bx bY) (hc : IsSum x2 y2 x3 y3 cx cy) (hd : IsSum x1 y1 cx cy dx dy) : C0 bx dx ∧ C0 bY dy := by
 have oa := sum_on h1 h2 ha
 have oc := sum_on h2 h3 hc
 have k1 := cert_x (dN : Int) x1 y1 x2 y2 x3 y3
 have k2 := cert_y (dN : Int) x1 y1 x2 y2 x3 y3
 have n12 := mul_ne (plus_ne h1 h2) (minus_ne h1 h2)
 have n23 := mul_ne (plus_ne h2 h3) (minus_ne h2 h3)
 have ba3p := plus_ne oa h3
 have ba3m := minus_ne oa h3
 have b1cp := plus_ne h1 oc
 have b1cm := minus_ne h1 oc
 obtain ⟨a1, a2⟩ := ha
 obtain ⟨c1, c2⟩ := hc
 obtain ⟨e1, e2⟩ := hb
 obtain ⟨f1, f2⟩ := hd
 unfold eI at ba3p ba3m b1cp b1cm e1 e2 f1 f2
 obtain ⟨l1, l2⟩ := half_x a1 a2 e1
 obtain ⟨r1, r2⟩ := half_x (d := (dN : Int)) (x3 := x1) (y3 := y1) (bx := dx) c1 c2 (f1.lc1 1 (by grind))
 obtain ⟨l3, l4⟩ := half_y a1 a2 e2
 obtain ⟨r3, r4⟩ := half_y (d := (dN : Int)) (x3 := x1) (y3 := y1) (bx := dy) c1 c2 (f2.lc1 1 (by grind))
 have key1 := h1.lc3 h2 h3 _ _ _ k1
 have key2 := h1.lc3 h2 h3 _ _ _ k2
 have nl1 : ¬ C0 _ 0 := fun h => mul_ne n12 ba3p (l2.trans h)
 have nr1 : ¬ C0 _ 0 := fun h => mul_ne n23 b1cp ((Cz.of_eq (by grind)).trans (r2.trans h))
 have nl3 : ¬ C0 _ 0 := fun h => mul_ne n12 ba3m (l4.trans h)
 have nr3 : ¬ C0 _ 0 := fun h => mul_ne n23 b1cm ((Cz.of_eq (by grind)).trans (r4.trans h))
 unfold eI at l1 r1 l3 r3 nl1 nr1 nl3 nr3
 constructor
 ·refine cz_cancel pr0 ?_ (mul_ne nl1 nr1)
  generalize (1 + (dN : Int) * x1 * x2 * y1 * y2) = B at *
  generalize (1 - (dN : Int) * x1 * x2 * y1 * y2) = D at *
  generalize (1 + (dN : Int) * x2 * x3 * y2 * y3) = B' at *
  generalize (1 - (dN : Int) * x2 * x3 * y2 * y3) = D' at *
  generalize x1 * y2 + x2 * y1 = A at *
  generalize y1 * y2 + x1 * x2 = C at *
  generalize x2 * y3 + x3 * y2 = A' at *
  generalize y2 * y3 + x2 * x3 = C' at *
  exact key1.lc3 l1 r1 1 (B' * D' + dN * A' * C' * x1 * y1) (-(B * D + dN * A * C * x3 * y3)) (by grind)
 ·refine cz_cancel pr0 ?_ (mul_ne nl3 nr3)
  generalize (1 + (dN : Int) * x1 * x2 * y1 * y2) = B at *
  generalize (1 - (dN : Int) * x1 * x2 * y1 * y2) = D at *
  generalize (1 + (dN : Int) * x2 * x3 * y2 * y3) = B' at *
  generalize (1 - (dN : Int) * x2 * x3 * y2 * y3) = D' at *
  generalize x1 * y2 + x2 * y1 = A at *
  generalize y1 * y2 + x1 * x2 = C at *
  generalize x2 * y3 + x3 * y2 = A' at *
  generalize y2 * y3 + x2 * x3 = C' at *
  exact key2.lc3 l3 r3 1 (B' * D' - dN * A' * C' * x1 * y1) (-(B * D - dN * A * C * x3 * y3)) (by grind)
end Go.Ev.H5.Ed

namespace Go.Ev.H5.Ed
open Go Go.Proofs Go.RowKit
theorem onE_iff {x y : Nat} : onE x y = true ↔ x < modN 0 ∧ y < modN 0 ∧ On x y := by
 have hm := modN_pos 0
 have h1 : C0 (subM (modN 0) (mulM (modN 0) y y) (mulM (modN 0) x x)) ((y : Int) * y - x * x) := (cz_sub (mulM_lt hm)).trans ((cz_mul y y).sub (cz_mul x x))
 have h2 : C0 (addM (modN 0) 1 (mulM (modN 0) dN (mulM (modN 0) (mulM (modN 0) x x) (mulM (modN 0) y y)))) (1 + (dN : Int) * (x * x) * (y * y)) :=
  (cz_add _ _).trans (((Cz.refl _ 1).add ((cz_mul _ _).trans ((Cz.refl _ _).mul ((cz_mul _ _).trans ((cz_mul x x).mul (cz_mul y y)))))).trans (Cz.of_eq (by grind)))
 unfold onE ltE
 rw [eqE_in]
 unfold pOn
 simp only [Bool.and_eq_true, decide_eq_true_iff]
 constructor
 ·rintro ⟨⟨a, b⟩, c⟩
  exact ⟨a, b, h1.symm.trans ((Cz.of_eq (by rw [c])).trans h2)⟩
 ·rintro ⟨a, b, c⟩
  exact ⟨⟨a, b⟩, Cz.nat (subM_lt hm) (addM_lt hm) (h1.trans (Cz.trans c h2.symm))⟩
theorem down_rep {P : E4} {x y : Nat} (h : Rep P x y) (hx : x < modN 0) (hy : y < modN 0) : eDownX (inE P) = x ∧ eDownY (inE P) = y := by
 obtain ⟨hl, hz, h1, h2, _⟩ := h
 have hi := inv_cz (k := 0) (by decide) hl.2.2.1 hz
 have hm := modN_pos 0
 have key : ∀ (c v : Nat), v < modN 0 → C0 c ((v : Int) * P.z) → pDown P c = v := by
  intro c v hv hc
  refine Cz.nat (mulM_lt hm) hv ((cz_mul _ _).trans ?_)
  show C0 ((c : Int) * invP 0 P.z) v
  exact hc.lc2 hi (invP 0 P.z) v (by grind)
 rw [eDownX_in hl, eDownY_in hl]
 exact ⟨key _ _ hx h1, key _ _ hy h2⟩
theorem rep_lift {x y : Nat} (hx : x < modN 0) (hy : y < modN 0) : Rep (pLift x y) x y := by
 refine ⟨pLift_lt hx hy, one_ne, Cz.of_eq ?_, Cz.of_eq ?_, (cz_mul x y).trans (Cz.of_eq ?_)⟩
 ·show (x : Int) = x * ((1 : Nat) : Int); grind
 ·show (y : Int) = y * ((1 : Nat) : Int); grind
 ·show (x : Int) * y = x * y * ((1 : Nat) : Int); grind
theorem czN_lt {m : Nat} (hm : 0 < m) (z : Int) : czN m z < m := by
 unfold czN
 have := Int.emod_lt_of_pos z (show (0 : Int) < (m : Int) by omega)
 have := Int.emod_nonneg z (show (m : Int) ≠ 0 by omega)
 omega
theorem sum_ex {x1 y1 x2 y2 : Int} (h1 : On x1 y1) (h2 : On x2 y2) : ∃ x3 y3 : Nat, x3 < modN 0 ∧ y3 < modN 0 ∧ IsSum x1 y1 x2 y2 x3 y3 := by
 have hm := modN_pos 0
 have key : ∀ n d : Int, ¬ C0 d 0 → ∃ q : Nat, q < modN 0 ∧ C0 ((q : Int) * d) n := by
  intro n d hd
  have hc := czN_cz hm d
  have hi := inv_cz (k := 0) (by decide) (czN_lt hm d) (fun h => hd (hc.symm.trans h))
  refine ⟨czN (modN 0) (n * invP 0 (czN (modN 0) d)), czN_lt hm _, ?_⟩
  have hq := czN_cz hm (n * invP 0 (czN (modN 0) d))
  exact hq.lc3 hi hc d n (-(n * invP 0 (czN (modN 0) d))) (by grind)
 obtain ⟨x3, a1, a2⟩ := key (x1 * y2 + x2 * y1) _ (plus_ne h1 h2)
 obtain ⟨y3, b1, b2⟩ := key (y1 * y2 + x1 * x2) _ (minus_ne h1 h2)
 exact ⟨x3, y3, a1, b1, a2, b2⟩
abbrev Pt := Nat × Nat
def Pt.on (p : Pt) : Prop := p.1 < modN 0 ∧ p.2 < modN 0 ∧ On p.1 p.2
noncomputable def gadd (p q : Pt) : Pt := (eDownX (sumE p.1 p.2 q.1 q.2), eDownY (sumE p.1 p.2 q.1 q.2))
def gnone : Pt := (0, 1)
theorem on_of {x y : Nat} (h : onE x y = true) : Pt.on (x, y) := onE_iff.1 h
theorem Pt.on.e {p : Pt} (h : p.on) : onE p.1 p.2 = true := onE_iff.2 h
theorem rep_sum {P Q : E4} {p q : Pt} (hp : p.on) (hq : q.on) (hP : Rep P p.1 p.2) (hQ : Rep Q q.1 q.2) : (gadd p q).on ∧ Rep (pAdd P Q) (gadd p q).1 (gadd p q).2 ∧ IsSum p.1 p.2 q.1 q.2 (gadd p q).1 (gadd p q).2 := by
 obtain ⟨x3, y3, hx, hy, hs⟩ := sum_ex hp.2.2 hq.2.2
 have h1 := rep_add (rep_lift hp.1 hp.2.1) (rep_lift hq.1 hq.2.1) hp.2.2 hq.2.2 hs
 obtain ⟨d1, d2⟩ := down_rep h1 hx hy
 have e1 : (gadd p q).1 = x3 := by
  show eDownX (sumE p.1 p.2 q.1 q.2) = x3
  unfold sumE
  rw [eLift_in, eLift_in, eAdd_in (pLift_lt hp.1 hp.2.1) (pLift_lt hq.1 hq.2.1), d1]
 have e2 : (gadd p q).2 = y3 := by
  show eDownY (sumE p.1 p.2 q.1 q.2) = y3
  unfold sumE
  rw [eLift_in, eLift_in, eAdd_in (pLift_lt hp.1 hp.2.1) (pLift_lt hq.1 hq.2.1), d2]
 have hon := sum_on hp.2.2 hq.2.2 hs
 have hr := rep_add hP hQ hp.2.2 hq.2.2 hs
 unfold Pt.on
 rw [e1, e2]
 exact ⟨⟨hx, hy, hon⟩, hr, hs⟩
theorem gadd_on {p q : Pt} (hp : p.on) (hq : q.on) : (gadd p q).on := (rep_sum hp hq (rep_lift hp.1 hp.2.1) (rep_lift hq.1 hq.2.1)).1
theorem gadd_is {p q : Pt} (hp : p.on) (hq : q.on) : IsSum p.1 p.2 q.1 q.2 (gadd p q).1 (gadd p q).2 := (rep_sum hp hq (rep_lift hp.1 hp.2.1) (rep_lift hq.1 hq.2.1)).2.2
theorem gadd_eq {p q r : Pt} (hp : p.on) (hq : q.on) (h1 : r.1 < modN 0) (h2 : r.2 < modN 0) (h : IsSum p.1 p.2 q.1 q.2 r.1 r.2) : gadd p q = r := by
 obtain ⟨a, b⟩ := sum_uniq hp.2.2 hq.2.2 (gadd_is hp hq) h
 have hg := gadd_on hp hq
 exact Prod.ext (Cz.nat hg.1 h1 a) (Cz.nat hg.2.1 h2 b)
theorem gnone_on : gnone.on := onE_iff.1 onE_none
theorem gadd_assoc {p q r : Pt} (hp : p.on) (hq : q.on) (hr : r.on) : gadd (gadd p q) r = gadd p (gadd q r) := by
 have h1 := gadd_on hp hq
 have h2 := gadd_on hq hr
 have h3 := gadd_on h1 hr
 have h4 := gadd_on hp h2
 obtain ⟨a, b⟩ := sum_assoc hp.2.2 hq.2.2 hr.2.2 (gadd_is hp hq) (gadd_is h1 hr) (gadd_is hq hr) (gadd_is hp h2)
 exact Prod.ext (Cz.nat h3.1 h4.1 a) (Cz.nat h3.2.1 h4.2.1 b)
theorem gadd_none {p : Pt} (hp : p.on) : gadd p gnone = p := by
 refine gadd_eq hp gnone_on hp.1 hp.2.1 ⟨Cz.of_eq ?_, Cz.of_eq ?_⟩
 ·show (p.1 : Int) * (1 + eI p.1 p.2 ((0 : Nat) : Int) ((1 : Nat) : Int)) = p.1 * ((1 : Nat) : Int) + ((0 : Nat) : Int) * p.2
  unfold eI; grind
 ·show (p.2 : Int) * (1 - eI p.1 p.2 ((0 : Nat) : Int) ((1 : Nat) : Int)) = p.2 * ((1 : Nat) : Int) + p.1 * ((0 : Nat) : Int)
  unfold eI; grind
noncomputable def nmul (p : Pt) : Nat → Pt
 | 0 => gnone
 | k + 1 => gadd (nmul p k) p
theorem nmul_on {p : Pt} (hp : p.on) : ∀ k, (nmul p k).on
 | 0 => gnone_on
 | k + 1 => gadd_on (nmul_on hp k) hp
theorem nmul_add {p : Pt} (hp : p.on) (a : Nat) : ∀ b, nmul p (a + b) = gadd (nmul p a) (nmul p b)
 | 0 => (gadd_none (nmul_on hp a)).symm
 | b + 1 => by
  show gadd (nmul p (a + b)) p = gadd (nmul p a) (gadd (nmul p b) p)
  rw [nmul_add hp a b, gadd_assoc (nmul_on hp a) (nmul_on hp b) hp]
theorem rep_step {k j : Nat} {P X : E4} {p : Pt} {a : Nat} (hp : p.on) (hP : Rep P p.1 p.2) (hX : Rep X (nmul p a).1 (nmul p a).2) :
  Rep (pStep k P j X) (nmul p (2 * a + bitN k j)).1 (nmul p (2 * a + bitN k j)).2 := by
 have h1 := (rep_sum (nmul_on hp a) (nmul_on hp a) hX hX).2.1
 rw [← nmul_add hp a a, ← Nat.two_mul] at h1
 unfold pStep bitB
 have hb := bitN_le k j
 by_cases h : bitN k j = 1
 ·rw [decide_eq_true h, cond_true, h]
  exact (rep_sum (nmul_on hp (2 * a)) hp h1 hP).2.1
 ·rw [decide_eq_false h, cond_false, show bitN k j = 0 by omega]
  exact h1
theorem rep_timesG {k : Nat} {P : E4} {p : Pt} (hp : p.on) (hP : Rep P p.1 p.2) : ∀ (j : Nat) (X : E4) (a : Nat), Rep X (nmul p a).1 (nmul p a).2 → a = k / 2 ^ j → Rep (pTimesG k P j X) (nmul p k).1 (nmul p k).2
 | 0, X, a, hX, ha => by
  rw [Nat.pow_zero, Nat.div_one] at ha
  subst ha; exact hX
 | j + 1, X, a, hX, ha => by
  refine rep_timesG hp hP j (pStep k P j X) (2 * a + bitN k j) (rep_step hp hP hX) ?_
  subst ha
  unfold bitN
  rw [Nat.pow_succ, ← Nat.div_div_eq_div_mul]
  omega
theorem rep_times {k : Nat} (hk : k < 4294967296 ^ 8) {P : E4} {p : Pt} (hp : p.on) (hP : Rep P p.1 p.2) : Rep (pTimes k P) (nmul p k).1 (nmul p k).2 := by
 refine rep_timesG hp hP _ _ 0 ?_ ?_
 ·exact rep_lift (modN_pos 0) (modN_one 0)
 ·rw [Nat.div_eq_of_lt (lenN_spec hk).1]
theorem times_eq {k x y : Nat} (hk : k < 4294967296 ^ 8) (h : onE x y = true) : eDownX (timE k x y) = (nmul (x, y) k).1 ∧ eDownY (timE k x y) = (nmul (x, y) k).2 := by
 have hp := on_of h
 have hr := rep_times hk hp (rep_lift hp.1 hp.2.1)
 have hn := nmul_on hp k
 unfold timE
 rw [eLift_in, eTimes_in (pLift_lt hp.1 hp.2.1)]
 exact down_rep hr hn.1 hn.2.1
end Go.Ev.H5.Ed

namespace Go.Ev.H5.Ed
open Go Go.Proofs Go.RowKit
noncomputable def nmX (k px py : Nat) : Nat := (nmul (px, py) k).1
noncomputable def nmY (k px py : Nat) : Nat := (nmul (px, py) k).2
theorem nm_on {k px py : Nat} (h1 : onE px py = true) : onE (nmX k px py) (nmY k px py) = true := (nmul_on (on_of h1) k).e
theorem dN0 {x y : Nat} (h : onE x y = true) : x < 4294967296 ^ 8 ∧ y < 4294967296 ^ 8 := ⟨L8 (onE_lt h).1, L8 (onE_lt h).2⟩
end Go.Ev.H5.Ed

namespace Go.Ev
open Go Go.Proofs Go.RowKit
def sS (s : ByteArray) : V1 := .one (.v (.string s))
def ol (b : Nat → UInt8) (i : Nat) : Nat := ls (ls (ls (ls 0 (b (4 * i)).toNat 0) (b (4 * i + 1)).toNat 8) (b (4 * i + 2)).toNat 16) (b (4 * i + 3)).toNat 24
def lbt (u : Nat → Nat) (j : Nat) : Nat := u (j / 4) / 2 ^ (8 * (j % 4)) % 256
theorem run99a (b : Nat → UInt8) : callR E0 1000 91 [sS (strB 32 b)] [] = some ([], .tup [C8 (ol b), .one (.i 0)]) := by kernel_rfl
theorem run102a (b : Nat → UInt8) : callR E0 1000 53 [sS (strB 32 b)] [] = some ([], .val (C8 (ol b))) := by kernel_rfl
theorem run98a (u : Nat → Nat) : callR E0 1000 108 [C8 u] [] = some ([], .val (sS (strOf ((List.range 32).map (lbt u))))) := by kernel_rfl
theorem ol_eq (b : Nat → UInt8) (i : Nat) : ol b i = (b (4 * i)).toNat + 256 * (b (4 * i + 1)).toNat + 65536 * (b (4 * i + 2)).toNat + 16777216 * (b (4 * i + 3)).toNat ∧ ol b i < 4294967296 := by
 have h0 := UInt8.toNat_lt (b (4 * i))
 have h1 := UInt8.toNat_lt (b (4 * i + 1))
 have h2 := UInt8.toNat_lt (b (4 * i + 2))
 have h3 := UInt8.toNat_lt (b (4 * i + 3))
 unfold ol
 rw [(ls_eq (acc := 0) (k := 0) (by decide) h0 (by decide)).1, (ls_eq (k := 8) (by omega) h1 (by decide)).1, (ls_eq (k := 16) (by omega) h2 (by decide)).1, (ls_eq (k := 24) (by omega) h3 (by decide)).1]
 omega
theorem ol_val (s : ByteArray) (b : Nat → UInt8) (e : s = strB 32 b) : valU 8 0 (ol b) = leS s := by
 rw [e, leS, numsB_strB]
 have q := fun i => (ol_eq b i).1
 simp only [valU, q, Nat.zero_add, Nat.reduceAdd, Nat.reduceMul, show List.range 32 = [0, 1, 2, 3, 4, 5, 6, 7, 8, 9, 10, 11, 12, 13, 14, 15, 16, 17, 18, 19, 20, 21, 22, 23, 24, 25, 26, 27, 28, 29, 30, 31] from rfl, List.map_cons, List.map_nil, leN]
 omega
theorem spec99s (s : ByteArray) (h : s.size = 32) : Spec 91 [sS s] (.tup [N8 (leS s), .one (.i 0)]) := by
 have e := strB_of h
 generalize hb : (fun i => s.data.getD i 0) = b at e
 have h := spec_run envE0 rfl (run99a b) trivial rfl rfl
 refine h.congr (fun φ => by rw [e]) (fun φ => ?_)
 simp only [AV.conc, List.map_cons, List.map_nil]
 rw [conc_C8v φ (fun i _ => (ol_eq b i).2) (ol_val s b e)]
theorem spec102s (s : ByteArray) (h : s.size = 32) : Spec 53 [sS s] (.val (N8 (leS s))) := by
 have e := strB_of h
 generalize hb : (fun i => s.data.getD i 0) = b at e
 have h := spec_run envE0 rfl (run102a b) trivial rfl rfl
 refine h.congr (fun φ => by rw [e]) (fun φ => ?_)
 exact conc_C8v φ (fun i _ => (ol_eq b i).2) (ol_val s b e)
theorem limb_eqD (a : Nat) : ∀ i, limb a i = a / 4294967296 ^ i % 4294967296 := fun _ => rfl
theorem lb4 (x r : Nat) (h : r < 4) : x % 4294967296 / 2 ^ (8 * r) % 256 = x / 2 ^ (8 * r) % 256 := by
 match r, h with
 | 0, _ => simp only [Nat.reduceMul, Nat.reducePow]; omega
 | 1, _ => simp only [Nat.reduceMul, Nat.reducePow]; omega
 | 2, _ => simp only [Nat.reduceMul, Nat.reducePow]; omega
 | 3, _ => simp only [Nat.reduceMul, Nat.reducePow]; omega
theorem pow4 (j : Nat) : 256 ^ j = 4294967296 ^ (j / 4) * 2 ^ (8 * (j % 4)) := by
 have h1 : (4294967296 : Nat) ^ (j / 4) = 256 ^ (4 * (j / 4)) := by rw [Nat.pow_mul]
 have h2 : (2 : Nat) ^ (8 * (j % 4)) = 256 ^ (j % 4) := by rw [Nat.pow_mul]
 rw [h1, h2, ← Nat.pow_add, Nat.div_add_mod]
theorem lbt_eq (a j : Nat) : lbt (limb a) j = a / 256 ^ j % 256 := by
 unfold lbt
 rw [limb_eqD, lb4 _ _ (Nat.mod_lt _ (by decide)), pow4, ← Nat.div_div_eq_div_mul]
theorem lbt_leB (a : Nat) : (List.range 32).map (lbt (limb a)) = leB 32 a := by
 unfold leB
 exact List.map_congr_left fun j _ => lbt_eq a j
theorem spec98s (a : Nat) : Spec 108 [N8 a] (.val (sS (strOf (leB 32 a)))) := by
 have h := spec_run envE0 rfl (run98a (limb a)) trivial rfl rfl
 rw [lbt_leB] at h
 exact h.congr (fun φ => by simp only [List.map_cons, List.map_nil, conc_C8]) (fun φ => rfl)
end Go.Ev

namespace Go.Ev
open Go Go.RowKit
end Go.Ev

namespace Go.Ev
open Go Go.RowKit Go.ChangeShapes Go.WideShapes Go.ChangeAt
def SzV (B : Nat) (v : Value) : Prop := ∀ s, v = .string s → s.size ≤ B
section
variable {H : Type} {enc : TypeId × Value → H} {P : Program} {w : World} {base : Nat} {spare : Nat → Bool} {held : Bool} {B : Nat}
theorem weights_mem_all {e : TypeId} {d : DataW H} : ∀ {l : List (DataW H)}, d ∈ l → ∀ {n : Nat}, n ∈ d.weights P e → n ∈ DataW.weightsAll P e l
 | [], h, _, _ => by simp at h
 | x :: l, h, n, hn => by
  simp only [DataW.weightsAll, List.mem_append]
  rcases List.mem_cons.1 h with rfl | h
  ·exact .inl hn
  ·exact .inr (weights_mem_all h hn)
end
section
variable {P : Program} {B : Nat}
theorem rowsW {n0 : Nat} : ∀ (n : Nat) (cs : List Value), cs.length = n * n0 → (∀ i, i < n → ∀ v ∈ (cs.drop (i * n0)).take n0, SzV B v) → ∀ v ∈ cs, SzV B v
 | 0, cs, hl, _ => by
  rw [Nat.zero_mul] at hl
  rw [List.length_eq_zero_iff.1 hl]; simp
 | n + 1, cs, hl, h => by
  have h0 := h 0 (by omega)
  rw [Nat.zero_mul, List.drop_zero] at h0
  have := rowsW (n0 := n0) n (cs.drop n0) (by rw [List.length_drop, hl, Nat.succ_mul]; omega) (fun i hi => by
   rw [List.drop_drop, Nat.add_comm, ← Nat.succ_mul]
   exact h (i + 1) (by omega))
  intro v hv
  rw [← List.take_append_drop n0 cs] at hv
  rcases List.mem_append.1 hv with hv | hv
  ·exact h0 v hv
  ·exact this v hv
theorem fieldsW {g : TypeId → Option (List Nat)} {r : TypeId → List Value → Prop} (hg : ∀ t ks cs, g t = some ks → r t cs → cs.length = ks.length → ∀ v ∈ cs, SzV B v) : ∀ (fs : List Field) (off : Nat) (ks : List Nat) (cs : List Value),
  kindsF P g fs off = some ks → cs.length = off + ks.length → (∀ f ∈ fs, r f.type ((cs.drop f.offset).take (P.cellsOf f.type))) → ∀ v ∈ cs.drop off, SzV B v
 | [], off, ks, cs, hk, hl, _ => by
  simp only [kindsF, Option.some.injEq] at hk
  subst hk
  rw [List.drop_eq_nil_of_le (by simp at hl; omega)]; simp
 | f :: fs, off, ks, cs, hk, hl, h => by
  simp only [kindsF] at hk
  split at hk
  ·rename_i kf n hf hgf hn
   split at hk
   ·rename_i r' hlen hr
    simp only [Option.some.injEq] at hk
    subst hk
    simp only [Bool.and_eq_true, Nat.beq_eq] at hf hlen
    obtain ⟨_, hoff⟩ := hf
    rw [List.length_append] at hl
    have h1 := h f (by simp)
    rw [sizeA_cellsOf hn, hoff] at h1
    have h2 := hg _ _ _ hgf h1 (by rw [List.length_take, List.length_drop, hl]; omega)
    have h3 := fieldsW hg fs (off + n) r' cs hr (by omega) (fun f' hf' => h f' (by simp [hf']))
    intro v hv
    rw [← List.take_append_drop n (cs.drop off), List.drop_drop] at hv
    rcases List.mem_append.1 hv with hv | hv
    ·exact h2 v hv
    ·exact h3 v hv
   ·simp at hk
  ·simp at hk
end
section
variable {H : Type} {enc : TypeId × Value → H} {P : Program} {w : World} {base : Nat} {spare : Nat → Bool} {held : Bool} {B : Nat}
theorem trod_kindsW : ∀ (d : Nat) (t : TypeId) (ks : List Nat), kindsT P d t = some ks → ∀ (n : Nat) (cs : List Value) (x : DataW H × List MemPlace), DataW.trod enc P w base spare held n t cs = some x → cs.length = ks.length → (∀ m ∈ x.1.weights P t, m ≤ B) → ∀ v ∈ cs, SzV B v
 | 0, t, ks, h, _, _, _, _, _, _ => by simp [kindsT] at h
 | d + 1, t, ks, h, n, cs, x, hx, hl, hw => by
  simp only [kindsT] at h
  split at h
  ·rename_i k hk
   cases n with
   | zero => simp [DataW.trod] at hx
   | succ n =>
    unfold DataW.trod at hx
    rw [hk] at hx
    split at hx <;> simp_all
    intro s hs
    simp_all
  ·rename_i hk
   cases n with
   | zero => simp [DataW.trod] at hx
   | succ n =>
    unfold DataW.trod at hx
    rw [hk] at hx
    split at hx <;> simp_all
    intro s hs
    simp_all
  ·rename_i hk
   cases n with
   | zero => simp [DataW.trod] at hx
   | succ n =>
    unfold DataW.trod at hx
    rw [hk] at hx
    split at hx <;> simp_all
    obtain ⟨_, rfl⟩ := hx
    intro s hs
    simp only [Value.string.injEq] at hs
    subst hs
    simpa [DataW.weights] using hw
  ·rename_i len e hk
   split at h
   ·rename_i ke m hke hm
    split at h
    ·rename_i hkm
     simp only [Option.some.injEq] at h; subst h
     rw [Nat.beq_eq] at hkm
     obtain ⟨xs, m', _, rfl, _, hxl, hi⟩ := DataW.trod_array hk hx
     rw [repK_length] at hl
     refine rowsW len cs hl fun i hil => ?_
     have h1 := hi i hil
     rw [sizeA_cellsOf hm, ← hkm, List.getElem?_eq_getElem (by omega)] at h1
     refine trod_kindsW d e ke hke _ _ _ h1 ?_ ?_
     ·rw [List.length_take, List.length_drop, hl]
      have : (i + 1) * ke.length ≤ len * ke.length := Nat.mul_le_mul_right _ hil
      rw [Nat.succ_mul] at this
      omega
     ·intro q hq
      refine hw q ?_
      simp only [DataW.weights, hk]
      exact weights_mem_all (List.mem_map.2 ⟨_, List.getElem_mem _, rfl⟩) hq
    ·simp at h
   ·simp at h
  ·rename_i fs hk
   split at h
   ·obtain ⟨xs, m', _, rfl, _, hxl, hi⟩ := DataW.trod_struct hk hx
    have := fieldsW (P := P) (B := B) (g := kindsT P d) (r := fun t cs => ∃ y, DataW.trod enc P w base spare held m' t cs = some y ∧ ∀ q ∈ y.1.weights P t, q ≤ B) (fun t ks cs hks ⟨y, hy, hyw⟩ hl => trod_kindsW d t ks hks _ _ _ hy hl hyw) fs.toList 0 ks cs h (by omega)
     (fun f hf => by
      obtain ⟨i, hil, rfl⟩ := List.getElem_of_mem hf
      have h1 := hi i fs.toList[i] (by simp at hil ⊢)
      rw [List.getElem?_eq_getElem (by simp at hil; omega)] at h1
      refine ⟨_, h1, fun q hq => hw q ?_⟩
      simp only [DataW.weights, hk]
      refine DataW.weights_mem_each (j := i) (t := fs.toList[i].type) (d := (xs[i]'(by simp at hil; omega)).1) ?_ ?_ q hq
      ·rw [List.getElem?_map, List.getElem?_eq_getElem hil]; rfl
      ·rw [List.getElem?_map, List.getElem?_eq_getElem (by simp at hil; omega)]; rfl)
    simpa using this
   ·simp at h
  ·simp at h
end
section
variable {P : Program}
end
end Go.Ev

namespace Go.Ev
open Go Go.RowKit Go.ChangeShapes Go.WideShapes Go.ChangeAt
section
variable {P : Program}
theorem law_runM {E : Env} (hE : EnvOK E) {n : Nat} {f : FuncId} {v : V1} {M : List Blk} {c c' : List Bool} {ob : List Prop} {mem' : List Blk}
  (h : callBy E (evalC E n) f [v] M c = some (ob, c', .val (.one (.v (.bool true))), mem')) (ho : All ob) {w : World} {φ : Loc} (hm : MRel w φ M w) (hv : v.wf M.length = true) :
  Calls E.P f #[v.conc φ] w (Trues w) := by
 refine (callBy_ok hE (evalC_ok hE n) _ _ _ _ _ _ _ _ h ho w φ w hm (by simpa using hv)).mono ?_
 rintro e w' ⟨φ', rfl, _, _, hm', _⟩
 exact ⟨rfl, hm'.below⟩
end
end Go.Ev

namespace Go.Ev
open Go Go.RowKit
def GoesK (P : Program) (K : Nat) (y : Code) (ex : Ex) (T : List AV) (M : List Blk) (T' : List AV) (M' : List Blk) : Prop :=
 ∀ w0 φ a w, Rel w0 φ T M a w → ∀ Q : Exit → Act → World → Prop, (∀ φ' a' w', Agree K φ φ' → Rel w0 φ' T' M' a' w' → Q ex.to a' w') → y.wp P Q a w
theorem Goes.toK {P : Program} {y : Code} {ex : Ex} {T T' : List AV} {M M' : List Blk} (h : Goes P y ex T M T' M') {K : Nat} (hK : K ≤ M.length) : GoesK P K y ex T M T' M' :=
 fun w0 φ a w hr Q hQ => h w0 φ a w hr Q fun φ' a' w' hag hr' => hQ φ' a' w' (fun b hb => hag b (by omega)) hr'
theorem GoesK.goes {P : Program} {K : Nat} {y : Code} {ex : Ex} {T T' : List AV} {M M' : List Blk} (h : GoesK P K y ex T M T' M') (hK : M.length = K) : Goes P y ex T M T' M' :=
 fun w0 φ a w hr Q hQ => h w0 φ a w hr Q fun φ' a' w' hag hr' => hQ φ' a' w' (by rw [hK]; exact hag) hr'
def mvT (K b b' : Nat) : List AV → List AV → Prop
 | [], [] => True
 | x :: xs, y :: ys => (y = .junk ∨ (x = y ∧ y.okP (ltB K) = true) ∨ (∃ n, x = .val (.one (.sx b n)) ∧ y = .val (.one (.sx b' n)))) ∧ mvT K b b' xs ys
 | _, _ => False
theorem mvT_length {K b b' : Nat} : ∀ {T T' : List AV}, mvT K b b' T T' → T.length = T'.length
 | [], [], _ => rfl
 | [], _ :: _, h => h.elim
 | _ :: _, [], h => h.elim
 | x :: xs, y :: ys, h => by simp [mvT_length h.2]
theorem mvT_get {K b b' : Nat} : ∀ {T T' : List AV}, mvT K b b' T T' → ∀ (t : Nat) (y : AV), T'[t]? = some y → y ≠ .junk →
  ∃ x, T[t]? = some x ∧ x ≠ .junk ∧ ((x = y ∧ y.okP (ltB K) = true) ∨ (∃ n, x = .val (.one (.sx b n)) ∧ y = .val (.one (.sx b' n))))
 | [], [], _, t, y, h, _ => by simp at h
 | [], _ :: _, h, _, _, _, _ => h.elim
 | _ :: _, [], h, _, _, _, _ => h.elim
 | x :: xs, z :: zs, h, 0, y, hy, hj => by
  simp only [List.getElem?_cons_zero, Option.some.injEq] at hy; subst hy
  refine ⟨x, rfl, ?_, ?_⟩
  ·rcases h.1 with h1 | ⟨rfl, _⟩ | ⟨n, rfl, _⟩
   ·exact absurd h1 hj
   ·exact hj
   ·simp
  ·rcases h.1 with h1 | h1
   ·exact absurd h1 hj
   ·exact h1
 | x :: xs, z :: zs, h, t + 1, y, hy, hj => by
  simp only [List.getElem?_cons_succ] at hy ⊢
  exact mvT_get h.2 t y hy hj
theorem V1.conc_okL {K : Nat} {φ φ' : Loc} (h : ∀ b, b < K → φ' b = φ b) (x : V1) (hx : x.okP (ltB K) = true) : x.conc φ' = x.conc φ := by
 have h' : ∀ b, ltB K b = true → φ' b = φ b := fun b hb => h b (by simp only [ltB, Nat.blt, Nat.ble_eq] at hb; omega)
 rcases x with x | x
 ·cases x with
  | ptr b off => simp only [V1.okP] at hx; simp [V1.conc, Atom.conc, h' _ hx]
  | sl b off n c => simp only [V1.okP] at hx; simp [V1.conc, Atom.conc, h' _ hx]
  | sx b n => simp only [V1.okP] at hx; simp [V1.conc, Atom.conc, h' _ hx]
  | v x => rfl
  | u k x => rfl
  | i x => rfl
 ·simp only [V1.okP] at hx
  simp only [V1.conc, concs_okP h' x hx]
theorem AV.conc_okL {K : Nat} {φ φ' : Loc} (h : ∀ b, b < K → φ' b = φ b) (x : AV) (hx : x.okP (ltB K) = true) : x.conc φ' = x.conc φ := by
 cases x with
 | val x => rw [okP_val] at hx; exact V1.conc_okL h x hx
 | tup xs =>
  rw [okP_tup] at hx
  simp only [AV.conc]
  congr 2
  refine List.map_congr_left fun v hv => V1.conc_okL h v ?_
  exact List.all_eq_true.1 hx v hv
 | junk => rfl
theorem Rel.move {w0 w : World} {φ φ' : Loc} {T1 T' : List AV} {M1 M' : List Blk} {a : Act} (h : Rel w0 φ' T1 M1 a w) {K b b' : Nat} (hag : Agree K φ φ') (hT : mvT K b b' T1 T') (hb' : K ≤ b')
  (hM : ∀ i k, M'[i]? = some k → k.live = true → (∀ f, allPtr f k.ps = true) ∧ ((i < K ∧ M1[i]? = some k) ∨ (i = b' ∧ K ≤ b ∧ M1[b]? = some k)))
  (hw : wfS T' M' = true) : ∃ φ'' : Loc, (∀ i, i ≠ b' → φ'' i = φ i) ∧ Rel w0 φ'' T' M' a w := by
 simp only [wfS, Bool.and_eq_true] at hw
 let φ'' : Loc := fun i => if i = b' then φ' b else φ i
 have e1 : ∀ i, i < K → φ'' i = φ' i := by
  intro i hi
  have : i ≠ b' := by omega
  simp only [φ'', this, if_false]
  exact (hag i hi).symm
 have e2 : φ'' b' = φ' b := by simp [φ'']
 have hfr : ∀ k : Blk, (∀ f, allPtr f k.ps = true) → concs φ'' k.ps = concs φ' k.ps := fun k hk => concs_okP (f := fun _ => false) (fun _ h => by simp at h) _ (hk _)
 have hcase : ∀ i k, M'[i]? = some k → k.live = true → ∃ j, M1[j]? = some k ∧ φ'' i = φ' j ∧ concs φ'' k.ps = concs φ' k.ps ∧ ((i < K ∧ j = i) ∨ (i = b' ∧ j = b ∧ K ≤ b)) := by
  intro i k hk hl
  obtain ⟨hf, h1 | h1⟩ := hM i k hk hl
  ·exact ⟨i, h1.2, e1 i h1.1, hfr k hf, .inl ⟨h1.1, rfl⟩⟩
  ·obtain ⟨rfl, hKb, h2⟩ := h1
   exact ⟨b, h2, e2, hfr k hf, .inr ⟨rfl, rfl, hKb⟩⟩
 refine ⟨φ'', fun i hi => by simp [φ'', hi], ⟨?_, ?_⟩, h.defs, tmsWf_mem hw.1, ⟨h.mrel.below, ?_, ?_, ?_, ?_, fun i k hk => memWf_mem hw.2 i k hk⟩⟩
 ·rw [h.tmps.size, mvT_length hT]
 ·intro t y hy hj
  obtain ⟨x, hx, hxj, h1 | ⟨n, rfl, rfl⟩⟩ := mvT_get hT t y hy hj
  ·obtain ⟨rfl, hok⟩ := h1
   rw [AV.conc_okL e1 x hok]
   exact h.tmps.get t x hx hxj
  ·have := h.tmps.get t _ hx hxj
   rw [this]
   simp only [AV.conc, V1.conc, Atom.conc, e2]
 ·intro i j k k' hk hk' hl hl' hr hr' he
  obtain ⟨i1, q1, q2, _, q3⟩ := hcase i k hk hl
  obtain ⟨j1, r1, r2, _, r3⟩ := hcase j k' hk' hl'
  rw [q2, r2] at he
  have := h.mrel.inj i1 j1 k k' q1 r1 hl hl' hr hr' he
  omega
 ·intro i k hk hl hr
  obtain ⟨i1, q1, q2, _, _⟩ := hcase i k hk hl
  rw [q2]; exact h.mrel.own i1 k q1 hl hr
 ·intro i k hk hl hr
  obtain ⟨i1, q1, q2, q3, _⟩ := hcase i k hk hl
  rw [q2, q3]; exact h.mrel.old i1 k q1 hl hr
 ·intro i k hk hl hr
  obtain ⟨i1, q1, q2, q3, _⟩ := hcase i k hk hl
  rw [q2, q3]; exact h.mrel.blk i1 k q1 hl hr
theorem GoesK.move {P : Program} {K : Nat} {y : Code} {ex : Ex} {T T1 T' : List AV} {M M1 M' : List Blk} (h : GoesK P K y ex T M T1 M1) {K' b b' : Nat} (hT : mvT K b b' T1 T') (hK : K' ≤ b') (hKK : K ≤ K')
  (hM : ∀ i k, M'[i]? = some k → k.live = true → (∀ f, allPtr f k.ps = true) ∧ ((i < K ∧ M1[i]? = some k) ∨ (i = b' ∧ K ≤ b ∧ M1[b]? = some k)))
  (hw : wfS T' M' = true) : GoesK P K' y ex T M T' M' := by
 intro w0 φ a w hr Q hQ
 refine h w0 φ a w hr Q ?_
 intro φ' a' w' hag hr'
 obtain ⟨φ'', h1, h2⟩ := hr'.move hag hT (by omega) hM hw
 exact hQ φ'' a' w' (fun i hi => h1 i (by omega)) h2
theorem loop_goesK {P : Program} {K : Nat} {y : Code} {ex : Ex} (hex : ex ≠ .normal) {N : Nat} {T : Nat → List AV} {M : Nat → List Blk} {TF : List AV} {MF : List Blk}
  (hstep : ∀ j, j < N → GoesK P K y .normal (T j) (M j) (T (j + 1)) (M (j + 1))) (hlast : GoesK P K y ex (T N) (M N) TF MF) : GoesK P K (.loop y) ex (T 0) (M 0) TF MF := by
 intro w0 φ a w hr Q hQ
 refine wp_loop_rounds (N + 1) ?_
 have key : ∀ d j, j + d = N → ∀ φ1 a1 w1, Agree K φ φ1 → Rel w0 φ1 (T j) (M j) a1 w1 → Code.rounds P y Q (d + 1) a1 w1 := by
  intro d
  induction d with
  | zero =>
   intro j hj φ1 a1 w1 hag hr1
   obtain rfl : j = N := by omega
   refine hlast w0 φ1 a1 w1 hr1 _ ?_
   intro φ' a' w' hag' hr'
   have := hQ φ' a' w' (hag.trans (Nat.le_refl _) hag') hr'
   cases ex with
   | normal => exact absurd rfl hex
   | exit id => exact this
   | ret => exact this
  | succ d ih =>
   intro j hj φ1 a1 w1 hag hr1
   refine hstep j (by omega) w0 φ1 a1 w1 hr1 _ ?_
   intro φ' a' w' hag' hr'
   exact ih (j + 1) (by omega) φ' a' w' (hag.trans (Nat.le_refl _) hag') hr'
 exact key N 0 (by omega) φ a w (Agree.refl _ _) hr
end Go.Ev

