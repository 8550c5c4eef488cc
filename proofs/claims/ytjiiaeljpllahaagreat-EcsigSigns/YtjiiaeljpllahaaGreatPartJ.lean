/- Roots, and points of the curve: what the functions on them come to; Primes, and arithmetic modulo one -/
import Derived.Test.YtjiiaeljpllahaaGreatPartI
import Derived.Test.YtjiiaeljpllahaaGreatPartG
namespace Go.Ev
open Go Go.Proofs Go.RowKit

inductive Sh where | n8 | u32 | b
inductive Arg where | z | b | u | s (l : List Sh)
inductive Val where | n (x : Nat) | z (x : Int) | b (x : Bool)

def tkU : Nat → List Piece → Option (List Prop × Nat × List Piece)
  | 0, ps => some ([], 0, ps)
  | n + 1, .a (.u .u32 x) :: ps => match tkU n ps with
    | some (o, v, r) => some ((x < 4294967296) :: o, x + 4294967296 * v, r)
    | none => none
  | _ + 1, _ => none
def tkN (ps : List Piece) : Option (List Prop × Nat × List Piece) :=
  match ps with
  | .num k x :: r => match Nat.beq k 8 with | true => some ([x < 4294967296 ^ 8], x, r) | false => none
  | ps => tkU 8 ps
theorem tkU_spec : ∀ (n : Nat) (ps : List Piece) {o : List Prop} {v : Nat} {r : List Piece}, tkU n ps = some (o, v, r) → All o →
    v < 4294967296 ^ n ∧ ∀ φ, concs φ ps = limbs n v ++ concs φ r := by
  intro n
  induction n with
  | zero =>
    intro ps o v r h _
    simp only [tkU, Option.some.injEq, Prod.mk.injEq] at h
    obtain ⟨_, rfl, rfl⟩ := h
    exact ⟨by simp, fun φ => rfl⟩
  | succ n ih =>
    intro ps o v r h ho
    unfold tkU at h
    split at h
    · rename_i h0; omega
    · rename_i n' y ps' hn
      obtain rfl : n = n' := by omega
      split at h
      · rename_i o' v' r' hv
        simp only [Option.some.injEq, Prod.mk.injEq] at h
        obtain ⟨rfl, rfl, rfl⟩ := h
        obtain ⟨h1, h2⟩ := ih ps' hv ho.2
        have hy : y < 4294967296 := ho.1
        refine ⟨by rw [Nat.pow_succ]; omega, fun φ => ?_⟩
        simp only [concs, Piece.conc, Atom.conc, limbs, h2 φ]
        rw [show (y + 4294967296 * v') % 4294967296 = y by omega, show (y + 4294967296 * v') / 4294967296 = v' by omega]
        rfl
      · simp at h
    · simp at h
theorem tkN_spec {ps : List Piece} {o : List Prop} {v : Nat} {r : List Piece} (h : tkN ps = some (o, v, r)) (ho : All o) :
    v < 4294967296 ^ 8 ∧ ∀ φ, concs φ ps = limbs 8 v ++ concs φ r := by
  unfold tkN at h
  split at h
  · rename_i k x r'
    split at h
    · rename_i hk
      simp only [Option.some.injEq, Prod.mk.injEq] at h
      obtain ⟨rfl, rfl, rfl⟩ := h
      have hk := Nat.eq_of_beq_eq_true hk
      subst hk
      exact ⟨ho.1, fun φ => by simp only [concs, Piece.conc]⟩
    · simp at h
  · exact tkU_spec 8 ps h ho

def rdPs : List Sh → List Piece → Option (List Prop × List Val)
  | [], [] => some ([], [])
  | [], _ :: _ => none
  | .n8 :: s, ps => match tkN ps with
    | some (o, x, r) => match rdPs s r with
      | some (o', vs) => some (o ++ o', .n x :: vs)
      | none => none
    | none => none
  | .u32 :: s, ps => match ps with
    | .a (.u .u32 x) :: r => match rdPs s r with
      | some (o', vs) => some ((x < 4294967296) :: o', .n x :: vs)
      | none => none
    | _ => none
  | .b :: s, ps => match ps with
    | .a (.v (.bool x)) :: r => match rdPs s r with
      | some (o', vs) => some (o', .b x :: vs)
      | none => none
    | _ => none
def mkPs : List Sh → List Val → List Piece
  | .n8 :: s, .n x :: vs => .num 8 x :: mkPs s vs
  | .u32 :: s, .n x :: vs => .a (.u .u32 x) :: mkPs s vs
  | .b :: s, .b x :: vs => .a (.v (.bool x)) :: mkPs s vs
  | _, _ => []
def BnP : List Sh → List Val → Prop
  | [], [] => True
  | .n8 :: s, .n x :: vs => x < 4294967296 ^ 8 ∧ BnP s vs
  | .u32 :: s, .n x :: vs => x < 4294967296 ∧ BnP s vs
  | .b :: s, .b _ :: vs => BnP s vs
  | _, _ => False
theorem rdPs_spec : ∀ (s : List Sh) (ps : List Piece) {o : List Prop} {vs : List Val}, rdPs s ps = some (o, vs) → All o →
    vs.length = s.length ∧ BnP s vs ∧ ∀ φ, concs φ ps = concs φ (mkPs s vs)
  | [], [], o, vs, h, _ => by
    simp only [rdPs, Option.some.injEq, Prod.mk.injEq] at h
    obtain ⟨_, rfl⟩ := h
    exact ⟨rfl, trivial, fun φ => rfl⟩
  | [], _ :: _, o, vs, h, _ => by simp [rdPs] at h
  | .n8 :: s, ps, o, vs, h, ho => by
    simp only [rdPs] at h
    split at h
    · rename_i o1 x r hx
      split at h
      · rename_i o2 vs' hr
        simp only [Option.some.injEq, Prod.mk.injEq] at h
        obtain ⟨rfl, rfl⟩ := h
        rw [All_append] at ho
        obtain ⟨h1, h2⟩ := tkN_spec hx ho.1
        obtain ⟨h3, h4, h5⟩ := rdPs_spec s r hr ho.2
        exact ⟨by simp [h3], ⟨h1, h4⟩, fun φ => by rw [h2 φ, h5 φ]; rfl⟩
      · simp at h
    · simp at h
  | .u32 :: s, ps, o, vs, h, ho => by
    simp only [rdPs] at h
    split at h
    · rename_i x r
      split at h
      · rename_i o2 vs' hr
        simp only [Option.some.injEq, Prod.mk.injEq] at h
        obtain ⟨rfl, rfl⟩ := h
        obtain ⟨h3, h4, h5⟩ := rdPs_spec s r hr ho.2
        exact ⟨by simp [h3], ⟨ho.1, h4⟩, fun φ => by simp only [mkPs, concs, h5 φ]⟩
      · simp at h
    · simp at h
  | .b :: s, ps, o, vs, h, ho => by
    simp only [rdPs] at h
    split at h
    · rename_i x r
      split at h
      · rename_i o2 vs' hr
        simp only [Option.some.injEq, Prod.mk.injEq] at h
        obtain ⟨rfl, rfl⟩ := h
        obtain ⟨h3, h4, h5⟩ := rdPs_spec s r hr ho
        exact ⟨by simp [h3], h4, fun φ => by simp only [mkPs, concs, h5 φ]⟩
      · simp at h
    · simp at h

def rdA : Arg → V1 → Option (List Prop × List Val)
  | .z, .one (.i x) => some ([], [.z x])
  | .b, .one (.v (.bool x)) => some ([], [.b x])
  | .u, .one (.u .u32 x) => some ([x < 4294967296], [.n x])
  | .s l, .agg ps => rdPs l ps
  | _, _ => none
def rdAs : List Arg → List V1 → Option (List Prop × List Val)
  | [], [] => some ([], [])
  | a :: ar, v :: vs => match rdA a v with
    | some (o, xs) => match rdAs ar vs with
      | some (o', ys) => some (o ++ o', xs ++ ys)
      | none => none
    | none => none
  | _, _ => none
def arN : Arg → Nat
  | .s l => l.length
  | _ => 1
def mkA : Arg → List Val → V1
  | .z, .z x :: _ => .one (.i x)
  | .b, .b x :: _ => .one (.v (.bool x))
  | .u, .n x :: _ => .one (.u .u32 x)
  | .s l, vs => .agg (mkPs l vs)
  | _, _ => .agg []
def BnA : Arg → List Val → Prop
  | .z, [.z _] => True
  | .b, [.b _] => True
  | .u, [.n x] => x < 4294967296
  | .s l, vs => BnP l vs
  | _, _ => False
def mkAs : List Arg → List Val → List V1
  | [], _ => []
  | a :: ar, vs => mkA a (vs.take (arN a)) :: mkAs ar (vs.drop (arN a))
def BnAs : List Arg → List Val → Prop
  | [], vs => vs = []
  | a :: ar, vs => BnA a (vs.take (arN a)) ∧ BnAs ar (vs.drop (arN a))
theorem rdA_spec (a : Arg) (v : V1) {o : List Prop} {xs : List Val} (h : rdA a v = some (o, xs)) (ho : All o) :
    xs.length = arN a ∧ BnA a xs ∧ ∀ φ, v.conc φ = (mkA a xs).conc φ := by
  unfold rdA at h
  split at h
  · simp only [Option.some.injEq, Prod.mk.injEq] at h
    obtain ⟨_, rfl⟩ := h
    exact ⟨rfl, trivial, fun φ => rfl⟩
  · simp only [Option.some.injEq, Prod.mk.injEq] at h
    obtain ⟨_, rfl⟩ := h
    exact ⟨rfl, trivial, fun φ => rfl⟩
  · simp only [Option.some.injEq, Prod.mk.injEq] at h
    obtain ⟨rfl, rfl⟩ := h
    exact ⟨rfl, ho.1, fun φ => rfl⟩
  · rename_i l ps
    obtain ⟨h1, h2, h3⟩ := rdPs_spec l ps h ho
    refine ⟨h1, ?_, fun φ => ?_⟩
    · exact h2
    · simp only [mkA, V1.conc, h3 φ]
  · simp at h
theorem rdAs_spec : ∀ (ar : List Arg) (vs : List V1) {o : List Prop} {xs : List Val}, rdAs ar vs = some (o, xs) → All o →
    BnAs ar xs ∧ ∀ φ, vs.map (V1.conc φ) = (mkAs ar xs).map (V1.conc φ)
  | [], [], o, xs, h, _ => by
    simp only [rdAs, Option.some.injEq, Prod.mk.injEq] at h
    obtain ⟨_, rfl⟩ := h
    exact ⟨rfl, fun φ => rfl⟩
  | a :: ar, v :: vs, o, xs, h, ho => by
    simp only [rdAs] at h
    split at h
    · rename_i o1 x hx
      split at h
      · rename_i o2 ys hy
        simp only [Option.some.injEq, Prod.mk.injEq] at h
        obtain ⟨rfl, rfl⟩ := h
        rw [All_append] at ho
        obtain ⟨h1, h2, h3⟩ := rdA_spec a v hx ho.1
        obtain ⟨h4, h5⟩ := rdAs_spec ar vs hy ho.2
        simp only [BnAs, mkAs, List.take_left' h1, List.drop_left' h1, List.map_cons]
        exact ⟨⟨h2, h4⟩, fun φ => by rw [h3 φ, h5 φ]⟩
      · simp at h
    · simp at h
  | [], _ :: _, o, xs, h, _ => by simp [rdAs] at h
  | _ :: _, [], o, xs, h, _ => by simp [rdAs] at h

def fnS (ar : List Arg) (g : List Val → Option (List Prop × AV)) (vs : List V1) : Option (List Prop × AV) :=
  match rdAs ar vs with
  | some (o, xs) => match g xs with
    | some (o', r) => some (o ++ o', r)
    | none => none
  | none => none
structure CT where
  f : FuncId
  g : List V1 → Option (List Prop × AV)
def CTok (c : CT) : Prop := ∀ vs ob r, c.g vs = some (ob, r) → All ob → Spec c.f vs r
theorem ctS {f : FuncId} {ar : List Arg} {g : List Val → Option (List Prop × AV)} (hg : ∀ xs ob r, BnAs ar xs → g xs = some (ob, r) → All ob → Spec f (mkAs ar xs) r) : CTok ⟨f, fnS ar g⟩ := by
  intro vs ob r h ho
  simp only [fnS] at h
  split at h
  · rename_i o xs hx
    split at h
    · rename_i o' r' hr
      simp only [Option.some.injEq, Prod.mk.injEq] at h
      obtain ⟨rfl, rfl⟩ := h
      rw [All_append] at ho
      obtain ⟨h1, h2⟩ := rdAs_spec ar vs hx ho.1
      exact (hg xs _ _ h1 hr ho.2).congr (fun φ => (h2 φ).symm) (fun _ => rfl)
    · simp at h
  · simp at h
def lookC : List CT → FuncId → List V1 → Option (List Prop × AV)
  | [], _, _ => none
  | c :: r, f, vs => match Nat.beq c.f f with
    | true => c.g vs
    | false => lookC r f vs
def AllCT : List CT → Prop
  | [] => True
  | c :: r => CTok c ∧ AllCT r
theorem lookC_spec : ∀ {L : List CT}, AllCT L → ∀ {f : FuncId} {vs : List V1} {ob : List Prop} {r : AV}, lookC L f vs = some (ob, r) → All ob → Spec f vs r
  | [], _, f, vs, ob, r, h, _ => by simp [lookC] at h
  | c :: L, hL, f, vs, ob, r, h, ho => by
    simp only [lookC] at h
    split at h
    · rename_i hc
      have := Nat.eq_of_beq_eq_true hc
      rw [← this]
      exact hL.1 vs ob r h ho
    · exact lookC_spec hL.2 h ho
noncomputable def mkE (L : List CT) (S : FuncId → Nat → Bool) : Env := { E0 with fn := lookC L, S := S }
theorem envMk {L : List CT} (hL : AllCT L) (S : FuncId → Nat → Bool) : EnvOK (mkE L S) :=
  ⟨mixed, fun _ _ _ _ h ho => lookC_spec hL h ho, fun _ _ _ _ _ h => by simp [mkE, E0] at h, fun _ _ _ h => by simp [mkE, E0] at h, fun _ _ _ _ _ _ h => by simp [mkE, E0] at h⟩
end Go.Ev

namespace Go.Ev
open Go Go.Proofs Go.RowKit

def gMod : List Val → Option (List Prop × AV)
  | [.z z] => some ([], bV (modB z))
  | _ => none
def gModulus : List Val → Option (List Prop × AV)
  | [.z z] => some ([], .tup [N8 (bif modB z then modN z.toNat else 0), .one (.v (.bool (modB z)))])
  | _ => none
def gBit : List Val → Option (List Prop × AV)
  | [.n a, .z z] => some ([0 ≤ z ∧ z < 256], bV (bitB a z.toNat))
  | _ => none
theorem ct59 : CTok ⟨147, fnS [.z] gMod⟩ := ctS (by
  intro xs ob r hb h ho
  unfold gMod at h
  split at h
  · simp only [Option.some.injEq, Prod.mk.injEq] at h
    obtain ⟨rfl, rfl⟩ := h
    exact spec19 _
  · simp at h)
theorem ct105 : CTok ⟨135, fnS [.z] gModulus⟩ := ctS (by
  intro xs ob r hb h ho
  unfold gModulus at h
  split at h
  · rename_i z
    simp only [Option.some.injEq, Prod.mk.injEq] at h
    obtain ⟨rfl, rfl⟩ := h
    cases hz : modB z with
    | true =>
      obtain ⟨n, rfl⟩ : ∃ n : Nat, z = (n : Int) := ⟨z.toNat, by have := modB_t hz; omega⟩
      exact spec39 n (by have := modB_t hz; omega)
    | false => exact spec39b z hz
  · simp at h)
theorem ct104 : CTok ⟨129, fnS [.s [.n8], .z] gBit⟩ := ctS (by
  intro xs ob r hb h ho
  unfold gBit at h
  split at h
  · rename_i a z
    simp only [Option.some.injEq, Prod.mk.injEq] at h
    obtain ⟨rfl, rfl⟩ := h
    obtain ⟨h0, _⟩ := ho
    obtain ⟨n, rfl⟩ : ∃ n : Nat, z = (n : Int) := ⟨z.toNat, by omega⟩
    exact spec76 a n (by omega)
  · simp at h)
noncomputable def L0 : List CT := [⟨126, fnRf mmN⟩, ⟨84, fnR addM⟩, ⟨169, fnR subM⟩, ⟨100, fnG mmN⟩, ⟨51, fnG addM⟩, ⟨196, fnG subM⟩, ⟨81, fn55⟩, ⟨79, fnR1 outN⟩, ⟨154, fnG1 inN⟩, ⟨149, fnG1 outN⟩, ⟨50, fnG mulM⟩, ⟨78, fnK g52⟩, ⟨48, fnK (fun k => .val (rgK k))⟩, ⟨9, fnK g21⟩, ⟨135, fnS [.z] gModulus⟩, ⟨147, fnS [.z] gMod⟩, ⟨142, fnRp mpowN⟩, ⟨80, fnR1 minvN⟩, ⟨148, fn59⟩, ⟨138, fn2 gCmp⟩, ⟨141, fn2 gSub⟩, ⟨144, fn2 gAdd⟩, ⟨145, fn85⟩, ⟨162, fn2 gCmp⟩, ⟨101, fn2 gAdd⟩, ⟨103, fn2 gSub⟩, ⟨102, fn2 gLess⟩, ⟨98, fnKW (fun k V => .val (N8 (remN V (modN k))))⟩, ⟨99, fn2 (fun a b => .val (N16 (joinN a b)))⟩, ⟨104, fn62⟩, ⟨220, fn1 gHalf⟩, ⟨127, fn1 (fun a => iV (lenN a : Int))⟩, ⟨150, fn1 (fun a => iV (lenQ a 256 : Int))⟩, ⟨129, fnS [.s [.n8], .z] gBit⟩, ⟨152, fn82⟩]
theorem L0_ok : AllCT L0 :=
  ⟨fun _ _ _ h ho => fnRf_ok spec75 h ho, fun _ _ _ h ho => fnR_ok spec65 h ho, fun _ _ _ h ho => fnR_ok spec68 h ho, fun _ _ _ h ho => fnG_ok spec67 h ho, fun _ _ _ h ho => fnG_ok spec42 h ho, fun _ _ _ h ho => fnG_ok spec43 h ho, fun _ _ _ h ho => fn55_ok h ho, fun _ _ _ h ho => fnR1_ok spec53 h ho, fun _ _ _ h ho => fnG1_ok spec60 h ho, fun _ _ _ h ho => fnG1_ok spec58 h ho, fun _ _ _ h ho => fnG_ok spec44 h ho, fun _ _ _ h ho => fnK_ok spec52 h ho, fun _ _ _ h ho => fnK_ok spec41 h ho, fun _ _ _ h ho => fnK_ok spec21 h ho, ct105, ct59, fun _ _ _ h ho => fnRp_ok spec54 h ho, fun _ _ _ h ho => fnR1_ok spec56 h ho, fun _ _ _ h ho => fn59_ok h ho, fun _ _ _ h ho => fn2_ok spec70 h ho, fun _ _ _ h ho => fn2_ok spec78 h ho, fun _ _ _ h ho => fn2_ok spec84 h ho, fun _ _ _ h ho => fn85_ok h ho, fun _ _ _ h ho => fn2_ok spec79 h ho, fun _ _ _ h ho => fn2_ok spec50 h ho, fun _ _ _ h ho => fn2_ok spec61 h ho, fun _ _ _ h ho => fn2_ok spec57 h ho, fun _ _ _ h ho => fnKW_ok spec26 h ho, fun _ _ _ h ho => fn2_ok spec47 h ho, fun _ _ _ h ho => fn62_ok h ho, fun _ _ _ h ho => fn1_ok spec49 h ho, fun _ _ _ h ho => fn1_ok (fun a _ => spec74 a) h ho, fun _ _ _ h ho => fn1_ok spec81 h ho, ct104, fun _ _ _ h ho => fn82_ok h ho, trivial⟩
end Go.Ev

namespace Go.NT

theorem zero_of_mul {m a b : Nat} (hp : Pr m) (h : a * b % m = 0) : a % m = 0 ∨ b % m = 0 := by
  rcases euclid hp (Nat.dvd_of_mod_eq_zero h) with h | h
  · exact .inl (Nat.mod_eq_zero_of_dvd h)
  · exact .inr (Nat.mod_eq_zero_of_dvd h)
def pwM (p a e : Nat) : Nat := a ^ e % p
def rt (p e f a : Nat) : Nat :=
  if pwM p a e * pwM p a e % p = a then pwM p a e else pwM p a e * pwM p 2 f % p
def candN (k a : Nat) : Nat :=
  if k = 1 then pwM (modP 1) a ((modP 1 + 1) / 4) else rt (modP 0) ((modP 0 + 3) / 8) (modP 0 / 4) a
theorem candN_0 (a : Nat) : candN 0 a = rt (modP 0) ((modP 0 + 3) / 8) (modP 0 / 4) a := by unfold candN; exact if_neg (by decide)
theorem candN_1 (a : Nat) : candN 1 a = pwM (modP 1) a ((modP 1 + 1) / 4) := by unfold candN; exact if_pos rfl
theorem inv_mul {k a : Nat} (hk : k < 4) (h0 : 0 < a) (ha : a < modP k) : a * a ^ (modP k - 2) % modP k = 1 := by
  have h1 : 1 < modP k := (primeK hk).1
  rw [Nat.mul_comm, ← Nat.pow_succ, show (modP k - 2).succ = modP k - 1 by omega]
  exact fermatK hk h0 ha

end Go.NT

namespace Go.Ev
open Go Go.Proofs Go.RowKit

theorem run124 (a : Nat → Nat) : callR E0 1000 225 [C8 a] [] = some ([], .tup [C8 (hfD a), .one (.v (.bool (oddB a)))]) := by kernel_rfl
theorem spec124 (a : Nat) (ha : a < 4294967296 ^ 8) : Spec 225 [N8 a] (gHalf a) := by
  obtain ⟨h1, h2⟩ := half_sum (limb_lt a)
  rw [valU_num a 8 ha] at h1
  refine (spec_run envE0 rfl (run124 (limb a)) trivial rfl rfl).congr (fun φ => by simp only [List.map_cons, List.map_nil, conc_C8]) (fun φ => ?_)
  simp only [gHalf, AV.conc, List.map_cons, List.map_nil]
  rw [conc_C8v φ (fun i _ => h2 i) (show valU 8 0 (hfD (limb a)) = a / 2 by omega)]
noncomputable def L1 : List CT := ⟨225, fn1 gHalf⟩ :: L0
theorem L1_ok : AllCT L1 := ⟨fun _ _ _ h ho => fn1_ok spec124 h ho, L0_ok⟩

def noS : FuncId → Nat → Bool := fun _ _ => false
def part2 (m c : Nat) : Nat := addN m c / 2 / 2
def part3 (m c : Nat) : Nat := addN m c / 2 / 2 / 2
theorem modN_P (k : Nat) : modN k = Go.NT.modP k := by unfold modN Go.NT.modP; rfl
def gPart : List Val → Option (List Prop × AV)
  | [.n m, .n c, .z h] => match h.toNat with
    | 2 => some ([], .val (N8 (part2 m c)))
    | 3 => some ([], .val (N8 (part3 m c)))
    | _ => none
  | _ => none
theorem run115a (m : Nat) (c : Nat) : callR (mkE L1 noS) 1000 222 [N8 m, u32 c, zV 2] [] =
    some ([m < 4294967296 ^ 8, c < 4294967296, 0 < 4294967296, 0 < 4294967296, 0 < 4294967296, 0 < 4294967296, 0 < 4294967296, 0 < 4294967296, 0 < 4294967296, addN m c < 4294967296 ^ 8, addN m c / 2 < 4294967296 ^ 8], AV.val (V1.agg [Piece.num 8 (addN m c / 2 / 2)])) := by kernel_rfl
theorem run115b (m : Nat) (c : Nat) : callR (mkE L1 noS) 1000 222 [N8 m, u32 c, zV 3] [] =
    some ([m < 4294967296 ^ 8, c < 4294967296, 0 < 4294967296, 0 < 4294967296, 0 < 4294967296, 0 < 4294967296, 0 < 4294967296, 0 < 4294967296, 0 < 4294967296, addN m c < 4294967296 ^ 8, addN m c / 2 < 4294967296 ^ 8, addN m c / 2 / 2 < 4294967296 ^ 8], AV.val (V1.agg [Piece.num 8 (addN m c / 2 / 2 / 2)])) := by kernel_rfl
theorem half_lt {a : Nat} (h : a < 4294967296 ^ 8) : a / 2 < 4294967296 ^ 8 := Nat.lt_of_le_of_lt (Nat.div_le_self _ _) h
theorem ct115 : CTok ⟨222, fnS [.s [.n8], .u, .z] gPart⟩ := ctS (by
  intro xs ob r hb h ho
  unfold gPart at h
  split at h
  · rename_i m c z
    obtain ⟨⟨hm, _⟩, hc, _⟩ := hb
    have hc : c < 4294967296 := hc
    have h0 : (0 : Nat) < 4294967296 := by decide
    have ha := addN_lt m c
    split at h
    · rename_i hz
      simp only [Option.some.injEq, Prod.mk.injEq] at h
      obtain ⟨rfl, rfl⟩ := h
      obtain rfl : z = 2 := by omega
      exact spec_run (envMk L1_ok noS) rfl (run115a m c) ⟨hm, hc, h0, h0, h0, h0, h0, h0, h0, ha, half_lt ha, trivial⟩ rfl rfl
    · rename_i hz
      simp only [Option.some.injEq, Prod.mk.injEq] at h
      obtain ⟨rfl, rfl⟩ := h
      obtain rfl : z = 3 := by omega
      exact spec_run (envMk L1_ok noS) rfl (run115b m c) ⟨hm, hc, h0, h0, h0, h0, h0, h0, h0, ha, half_lt ha, half_lt (half_lt ha), trivial⟩ rfl rfl
    · simp at h
  · simp at h)
noncomputable def L2 : List CT := ⟨222, fnS [.s [.n8], .u, .z] gPart⟩ :: L1
theorem L2_ok : AllCT L2 := ⟨ct115, L1_ok⟩

noncomputable def S93 : FuncId → Nat → Bool := fun f t => match f with | 216 => memN t [28] | _ => false
theorem run93p (m : Nat) (q : Nat) (a : Nat) : callR (mkE L2 S93) 1000 216 [zV 1, rV0 m q, N8 a] [] =
    some ([m < 4294967296 ^ 8, 1 < 4294967296, m < 4294967296 ^ 8, a < m, goodF m q, a < 4294967296 ^ 8, part2 m 1 < 4294967296 ^ 8], AV.val (V1.agg [Piece.num 8 (mpowN m a (part2 m 1))])) := by kernel_rfl
theorem run93e (m : Nat) (q : Nat) (a : Nat) : callR (mkE L2 S93) 1000 216 [zV 0, rV0 m q, N8 a] [true] =
    some ([m < 4294967296 ^ 8, 3 < 4294967296, m < 4294967296 ^ 8, a < m, goodF m q, a < 4294967296 ^ 8, part3 m 3 < 4294967296 ^ 8, m < 4294967296 ^ 8, mpowN m a (part3 m 3) < m, mpowN m a (part3 m 3) < m, goodF m q, mpowN m a (part3 m 3) < 4294967296 ^ 8, mpowN m a (part3 m 3) < 4294967296 ^ 8, (decide (mmN m (mpowN m a (part3 m 3)) (mpowN m a (part3 m 3)) % 4294967296 ^ 8 = a % 4294967296 ^ 8) && true) = true], AV.val (V1.agg [Piece.num 8 (mpowN m a (part3 m 3))])) := by kernel_rfl
theorem run93n (m : Nat) (q : Nat) (a : Nat) : callR (mkE L2 S93) 1000 216 [zV 0, rV0 m q, N8 a] [false] =
    some ([m < 4294967296 ^ 8, 3 < 4294967296, m < 4294967296 ^ 8, a < m, goodF m q, a < 4294967296 ^ 8, part3 m 3 < 4294967296 ^ 8, m < 4294967296 ^ 8, mpowN m a (part3 m 3) < m, mpowN m a (part3 m 3) < m, goodF m q, mpowN m a (part3 m 3) < 4294967296 ^ 8, mpowN m a (part3 m 3) < 4294967296 ^ 8, (decide (mmN m (mpowN m a (part3 m 3)) (mpowN m a (part3 m 3)) % 4294967296 ^ 8 = a % 4294967296 ^ 8) && true) = false, m < 4294967296 ^ 8, 0 < m, 2 < 4294967296, 0 < 4294967296, 0 < 4294967296, 0 < 4294967296, 0 < 4294967296, 0 < 4294967296, 0 < 4294967296, 0 < 4294967296, m < 4294967296 ^ 8, 0 < 4294967296, m < 4294967296 ^ 8, inN m 2 < m, goodF m q, inN m 2 < 4294967296 ^ 8, part2 m 0 < 4294967296 ^ 8, m < 4294967296 ^ 8, mpowN m a (part3 m 3) < m, mpowN m (inN m 2) (part2 m 0) < m, goodF m q, mpowN m a (part3 m 3) < 4294967296 ^ 8, mpowN m (inN m 2) (part2 m 0) < 4294967296 ^ 8], AV.val (V1.agg [Piece.num 8 (mmN m (mpowN m a (part3 m 3)) (mpowN m (inN m 2) (part2 m 0)))])) := by kernel_rfl
open Go.NT in
theorem out_eq (m a : Nat) : outN m a = mredN a m := by unfold outN joinN; rw [Nat.mul_zero, Nat.add_zero]
theorem in_eq (m c : Nat) : inN m c = c * 4294967296 ^ 8 % m := by unfold inN remN joinN; rw [Nat.zero_add, Nat.mul_comm]
theorem mpow_in (m a n : Nat) : mpowN m a n = inN m (Go.NT.pwM m (outN m a) n) := by
  rw [in_eq, out_eq]; unfold mpowN Go.NT.pwM; rw [Nat.mod_mul_mod]
theorem mm_in {m q x y : Nat} (hR : m < 4294967296 ^ 8) (hq : goodF m q) : mmN m (inN m x) (inN m y) = inN m (x * y % m) := by
  rw [in_eq, in_eq, in_eq, mm_pow hR hq, Nat.mod_mul_mod]
theorem in_inj {m q x y : Nat} (hR : m < 4294967296 ^ 8) (hq : goodF m q) (hx : x < m) (hy : y < m) (h : inN m x = inN m y) : x = y := by
  have h1 := in_back (a := x) hR hq
  have h2 := in_back (a := y) hR hq
  rw [Nat.mod_eq_of_lt hx] at h1
  rw [Nat.mod_eq_of_lt hy] at h2
  rw [← h1, ← h2, h]
theorem in_out {m q a : Nat} (hR : m < 4294967296 ^ 8) (hq : goodF m q) (ha : a < m) : inN m (outN m a) = a := by
  rw [in_eq, out_eq, mred_back hR hq ha]
theorem out_in {m q x : Nat} (hR : m < 4294967296 ^ 8) (hq : goodF m q) (hx : x < m) : outN m (inN m x) = x := by
  rw [out_eq, in_back hR hq, Nat.mod_eq_of_lt hx]
theorem inN_lt {m c : Nat} (hm : 0 < m) : inN m c < m := Nat.mod_lt _ hm
theorem outN_lt {m c : Nat} (hm : 0 < m) : outN m c < m := Nat.mod_lt _ hm
theorem mmN_lt {m a b : Nat} (hm : 0 < m) : mmN m a b < m := Nat.mod_lt _ hm
theorem mpowN_lt {m a b : Nat} (hm : 0 < m) : mpowN m a b < m := Nat.mod_lt _ hm
theorem same_b {x y : Nat} (hx : x < 4294967296 ^ 8) (hy : y < 4294967296 ^ 8) : (decide (x % 4294967296 ^ 8 = y % 4294967296 ^ 8) && true) = decide (x = y) := by
  rw [Nat.mod_eq_of_lt hx, Nat.mod_eq_of_lt hy, Bool.and_true]
theorem part_1 : part2 (modN 1) 1 = (Go.NT.modP 1 + 1) / 4 := by decide +kernel
theorem part_0 : part2 (modN 0) 0 = Go.NT.modP 0 / 4 := by decide +kernel
theorem part_3 : part3 (modN 0) 3 = (Go.NT.modP 0 + 3) / 8 := by decide +kernel
theorem two_in : (2 : Nat) < modN 0 := modN_two 0
noncomputable def tryN (k a : Nat) : Nat := inN (modN k) (Go.NT.candN k (outN (modN k) a))
noncomputable def gTries : List Val → Option (List Prop × AV)
  | [.z k, .n m, .n q, .n a] => some ([0 ≤ k ∧ k < 2, m = modN k.toNat, q = facN k.toNat, a < modN k.toNat], .val (N8 (tryN k.toNat a)))
  | _ => none
theorem spec93_1 (a : Nat) (ha : a < modN 1) : Spec 216 [zV 1, rV0 (modN 1) (facN 1), N8 a] (.val (N8 (tryN 1 a))) := by
  have hR := modN_lt 1
  have hq := good_fac (k := 1) (by omega)
  have hp : part2 (modN 1) 1 < 4294967296 ^ 8 := half_lt (half_lt (addN_lt _ _))
  have h := spec_run (envMk L2_ok S93) rfl (run93p (modN 1) (facN 1) a) (by refine ⟨?_, ?_, ?_, ?_, ?_, ?_, ?_, trivial⟩ <;> first | with_reducible assumption | omega | exact addN_lt _ _ | exact subN_lt _ _ | exact Nat.mod_lt _ (by omega) | exact mulN_lt (by omega) (by omega)) rfl rfl
  rw [mpow_in, part_1] at h
  unfold tryN; rw [Go.NT.candN_1]
  exact h
theorem spec93_0 (a : Nat) (ha : a < modN 0) : Spec 216 [zV 0, rV0 (modN 0) (facN 0), N8 a] (.val (N8 (tryN 0 a))) := by
  have hR := modN_lt 0
  have h0 := modN_pos 0
  have hq := good_fac (k := 0) (by omega)
  have hp : part2 (modN 0) 0 < 4294967296 ^ 8 := half_lt (half_lt (addN_lt _ _))
  have hp3 : part3 (modN 0) 3 < 4294967296 ^ 8 := half_lt (half_lt (half_lt (addN_lt _ _)))
  have hx : mpowN (modN 0) a (part3 (modN 0) 3) < modN 0 := mpowN_lt h0
  have hy : mpowN (modN 0) (inN (modN 0) 2) (part2 (modN 0) 0) < modN 0 := mpowN_lt h0
  have h2 : inN (modN 0) 2 < modN 0 := inN_lt h0
  have hm : mmN (modN 0) (mpowN (modN 0) a (part3 (modN 0) 3)) (mpowN (modN 0) a (part3 (modN 0) 3)) < modN 0 := mmN_lt h0
  have hc := same_b (x := mmN (modN 0) (mpowN (modN 0) a (part3 (modN 0) 3)) (mpowN (modN 0) a (part3 (modN 0) 3))) (y := a) (by omega) (by omega)
  have key : (mmN (modN 0) (mpowN (modN 0) a (part3 (modN 0) 3)) (mpowN (modN 0) a (part3 (modN 0) 3)) = a) ↔
      Go.NT.pwM (modN 0) (outN (modN 0) a) ((Go.NT.modP 0 + 3) / 8) * Go.NT.pwM (modN 0) (outN (modN 0) a) ((Go.NT.modP 0 + 3) / 8) % modN 0 = outN (modN 0) a := by
    rw [mpow_in, mm_in hR hq, part_3]
    constructor
    · intro h
      refine in_inj hR hq (Nat.mod_lt _ h0) (outN_lt h0) ?_
      rw [h, in_out hR hq ha]
    · intro h
      rw [h, in_out hR hq ha]
  unfold tryN; rw [Go.NT.candN_0]
  unfold Go.NT.rt
  by_cases hk : mmN (modN 0) (mpowN (modN 0) a (part3 (modN 0) 3)) (mpowN (modN 0) a (part3 (modN 0) 3)) = a
  · rw [if_pos (by exact key.1 hk)]
    have hc : (decide (mmN (modN 0) (mpowN (modN 0) a (part3 (modN 0) 3)) (mpowN (modN 0) a (part3 (modN 0) 3)) % 4294967296 ^ 8 = a % 4294967296 ^ 8) && true) = true := by rw [hc]; exact decide_eq_true hk
    have h := spec_run (envMk L2_ok S93) rfl (run93e (modN 0) (facN 0) a) (by refine ⟨?_, ?_, ?_, ?_, ?_, ?_, ?_, ?_, ?_, ?_, ?_, ?_, ?_, ?_, trivial⟩ <;> first | with_reducible assumption | omega | exact addN_lt _ _ | exact subN_lt _ _ | exact Nat.mod_lt _ (by omega) | exact mulN_lt (by omega) (by omega)) rfl rfl
    rw [mpow_in, part_3] at h
    exact h
  · rw [if_neg (by exact fun h => hk (key.2 h))]
    have hc : (decide (mmN (modN 0) (mpowN (modN 0) a (part3 (modN 0) 3)) (mpowN (modN 0) a (part3 (modN 0) 3)) % 4294967296 ^ 8 = a % 4294967296 ^ 8) && true) = false := by rw [hc]; exact decide_eq_false hk
    have h := spec_run (envMk L2_ok S93) rfl (run93n (modN 0) (facN 0) a) (by refine ⟨?_, ?_, ?_, ?_, ?_, ?_, ?_, ?_, ?_, ?_, ?_, ?_, ?_, ?_, ?_, ?_, ?_, ?_, ?_, ?_, ?_, ?_, ?_, ?_, ?_, ?_, ?_, ?_, ?_, ?_, ?_, ?_, ?_, ?_, ?_, ?_, ?_, trivial⟩ <;> first | with_reducible assumption | omega | exact addN_lt _ _ | exact subN_lt _ _ | exact Nat.mod_lt _ (by omega) | exact mulN_lt (by omega) (by omega)) rfl rfl
    rw [mpow_in (modN 0) a, mpow_in (modN 0) (inN (modN 0) 2), mm_in hR hq, part_3, part_0, out_in hR hq two_in] at h
    exact h
theorem ct93 : CTok ⟨216, fnS [.z, .s [.n8, .u32], .s [.n8]] gTries⟩ := ctS (by
  intro xs ob r hb h ho
  unfold gTries at h
  split at h
  · rename_i z m q a
    simp only [Option.some.injEq, Prod.mk.injEq] at h
    obtain ⟨rfl, rfl⟩ := h
    obtain ⟨hz, rfl, rfl, ha, _⟩ := ho
    rcases (show z = 0 ∨ z = 1 by omega) with rfl | rfl
    · exact spec93_0 a ha
    · exact spec93_1 a ha
  · simp at h)
noncomputable def L3 : List CT := ⟨216, fnS [.z, .s [.n8, .u32], .s [.n8]] gTries⟩ :: L2
theorem L3_ok : AllCT L3 := ⟨ct93, L2_ok⟩
end Go.Ev

namespace Go.Ev
open Go Go.Proofs Go.RowKit

noncomputable def S85 : FuncId → Nat → Bool := fun f t => match f with | 77 => memN t [13] | _ => false
theorem run85x (z : Int) (a : Nat) : callR (mkE L3 S85) 1000 77 [zV z, N8 a] [true] =
    some ([modB z = true, a < 4294967296 ^ 8, (bif modB z then modN z.toNat else 0) < 4294967296 ^ 8], AV.val (V1.one (Atom.v (Value.bool (decide (cmpZN a (bif modB z then modN z.toNat else 0) < 0)))))) := by kernel_rfl
theorem run85y (z : Int) (a : Nat) : callR (mkE L3 S85) 1000 77 [zV z, N8 a] [false] =
    some ([modB z = false], AV.val (V1.one (Atom.v (Value.bool false)))) := by kernel_rfl
def gFis : List Val → Option (List Prop × AV)
  | [.z z, .n a] => some ([], bV (ok1 z a))
  | _ => none
theorem ct85 : CTok ⟨77, fnS [.z, .s [.n8]] gFis⟩ := ctS (by
  intro xs ob r hb h ho
  unfold gFis at h
  split at h
  · rename_i z a
    simp only [Option.some.injEq, Prod.mk.injEq] at h
    obtain ⟨rfl, rfl⟩ := h
    obtain ⟨_, ⟨ha, _⟩, _⟩ := hb
    have hR := modN_lt z.toNat
    cases hz : modB z with
    | true =>
      have hr := spec_run (envMk L3_ok S85) rfl (run85x z a) (by rw [hz]; exact ⟨rfl, ha, hR, trivial⟩) rfl rfl
      rw [hz, cond_true, cmpZN_neg] at hr
      rw [show ok1 z a = decide (a < modN z.toNat) by unfold ok1 lessB; rw [hz, Bool.true_and]]
      exact hr
    | false =>
      rw [show ok1 z a = false by unfold ok1; rw [hz, Bool.false_and]]
      exact spec_run (envMk L3_ok S85) rfl (run85y z a) ⟨hz, trivial⟩ rfl rfl
  · simp at h)
end Go.Ev

namespace Go.Ev
open Go Go.Proofs Go.RowKit

theorem L8 {k x : Nat} (h : x < modN k) : x < 4294967296 ^ 8 := Nat.lt_trans h (modN_lt k)
theorem modN_one (k : Nat) : 1 < modN k := Nat.lt_of_succ_lt (modN_two k)
theorem addM_lt {m a b : Nat} (hm : 0 < m) : addM m a b < m := Nat.mod_lt _ hm
theorem subM_lt {m a b : Nat} (hm : 0 < m) : subM m a b < m := Nat.mod_lt _ hm
theorem mulM_lt {m a b : Nat} (hm : 0 < m) : mulM m a b < m := Nat.mod_lt _ hm
theorem minvN_lt {m a : Nat} (hm : 0 < m) : minvN m a < m := Nat.mod_lt _ hm
theorem remN_lt {V m : Nat} (hm : 0 < m) : remN V m < m := Nat.mod_lt _ hm
end Go.Ev

