/- Roots, and points of the curve: what the functions on them come to; Primes, and arithmetic modulo one -/
import Derived.Test.YtfcobjhnkghdjaaGreatPartI
import Derived.Test.YtfcobjhnkghdjaaGreatPartG
namespace Go.Ev
open Go Go.Proofs Go.RowKit
inductive Sh where | n8 | u32 | b
inductive Arg where | z | b | u | s (l : List Sh)
inductive Val where | n (x : Nat) | z (x : Int) | b (x : Bool)
def tkU : Nat → List Piece → Option (List Prop × Nat × List Piece)
 | 0, ps => some ([], 0, ps)
 | n + 1, .a (.u .u32 x) :: ps => match tkU n ps with
  | some (o, v, r) => some ((x < 4294967296) :: o, x + 4294967296 * v, r)
  | none => none
 | _ + 1, _ => none
def tkN (ps : List Piece) : Option (List Prop × Nat × List Piece) :=
 match ps with
 | .num k x :: r => match Nat.beq k 8 with | true => some ([x < 4294967296 ^ 8], x, r) | false => none
 | ps => tkU 8 ps
theorem tkU_spec : ∀ (n : Nat) (ps : List Piece) {o : List Prop} {v : Nat} {r : List Piece}, tkU n ps = some (o, v, r) → All o →
  v < 4294967296 ^ n ∧ ∀ φ, concs φ ps = limbs n v ++ concs φ r := by
 intro n
 induction n with
 | zero =>
  intro ps o v r h _
  simp only [tkU, Option.some.injEq, Prod.mk.injEq] at h
  obtain ⟨_, rfl, rfl⟩ := h
  exact ⟨by simp, fun φ => rfl⟩
 | succ n ih =>
  intro ps o v r h ho
  unfold tkU at h
  split at h
  ·rename_i h0; omega
  ·rename_i n' y ps' hn
   obtain rfl : n = n' := by omega
   split at h
   ·rename_i o' v' r' hv
    simp only [Option.some.injEq, Prod.mk.injEq] at h
    obtain ⟨rfl, rfl, rfl⟩ := h
    obtain ⟨h1, h2⟩ := ih ps' hv ho.2
    have hy : y < 4294967296 := ho.1
    refine ⟨by rw [Nat.pow_succ]; omega, fun φ => ?_⟩
    simp only [concs, Piece.conc, Atom.conc, limbs, h2 φ]
    rw [show (y + 4294967296 * v') % 4294967296 = y by omega, show (y + 4294967296 * v') / 4294967296 = v' by omega]
    rfl
   ·simp at h
  ·simp at h
theorem tkN_spec {ps : List Piece} {o : List Prop} {v : Nat} {r : List Piece} (h : tkN ps = some (o, v, r)) (ho : All o) :
  v < 4294967296 ^ 8 ∧ ∀ φ, concs φ ps = limbs 8 v ++ concs φ r := by
 unfold tkN at h
 split at h
 ·rename_i k x r'
  split at h
  ·rename_i hk
   simp only [Option.some.injEq, Prod.mk.injEq] at h
   obtain ⟨rfl, rfl, rfl⟩ := h
   have hk := Nat.eq_of_beq_eq_true hk
   subst hk
   exact ⟨ho.1, fun φ => by simp only [concs, Piece.conc]⟩
  ·simp at h
 ·exact tkU_spec 8 ps h ho
def rdPs : List Sh → List Piece → Option (List Prop × List Val)
 | [], [] => some ([], [])
 | [], _ :: _ => none
 | .n8 :: s, ps => match tkN ps with
  | some (o, x, r) => match rdPs s r with
   | some (o', vs) => some (o ++ o', .n x :: vs)
   | none => none
  | none => none
 | .u32 :: s, ps => match ps with
  | .a (.u .u32 x) :: r => match rdPs s r with
   | some (o', vs) => some ((x < 4294967296) :: o', .n x :: vs)
   | none => none
  | _ => none
 | .b :: s, ps => match ps with
  | .a (.v (.bool x)) :: r => match rdPs s r with
   | some (o', vs) => some (o', .b x :: vs)
   | none => none
  | _ => none
def mkPs : List Sh → List Val → List Piece
 | .n8 :: s, .n x :: vs => .num 8 x :: mkPs s vs
 | .u32 :: s, .n x :: vs => .a (.u .u32 x) :: mkPs s vs
 | .b :: s, .b x :: vs => .a (.v (.bool x)) :: mkPs s vs
 | _, _ => []
def BnP : List Sh → List Val → Prop
 | [], [] => True
 | .n8 :: s, .n x :: vs => x < 4294967296 ^ 8 ∧ BnP s vs
 | .u32 :: s, .n x :: vs => x < 4294967296 ∧ BnP s vs
 | .b :: s, .b _ :: vs => BnP s vs
 | _, _ => False
theorem rdPs_spec : ∀ (s : List Sh) (ps : List Piece) {o : List Prop} {vs : List Val}, rdPs s ps = some (o, vs) → All o →
  vs.length = s.length ∧ BnP s vs ∧ ∀ φ, concs φ ps = concs φ (mkPs s vs)
 | [], [], o, vs, h, _ => by
  simp only [rdPs, Option.some.injEq, Prod.mk.injEq] at h
  obtain ⟨_, rfl⟩ := h
  exact ⟨rfl, trivial, fun φ => rfl⟩
 | [], _ :: _, o, vs, h, _ => by simp [rdPs] at h
 | .n8 :: s, ps, o, vs, h, ho => by
  simp only [rdPs] at h
  split at h
  ·rename_i o1 x r hx
   split at h
   ·rename_i o2 vs' hr
    simp only [Option.some.injEq, Prod.mk.injEq] at h
    obtain ⟨rfl, rfl⟩ := h
    rw [All_append] at ho
    obtain ⟨h1, h2⟩ := tkN_spec hx ho.1
    obtain ⟨h3, h4, h5⟩ := rdPs_spec s r hr ho.2
    exact ⟨by simp [h3], ⟨h1, h4⟩, fun φ => by rw [h2 φ, h5 φ]; rfl⟩
   ·simp at h
  ·simp at h
 | .u32 :: s, ps, o, vs, h, ho => by
  simp only [rdPs] at h
  split at h
  ·rename_i x r
   split at h
   ·rename_i o2 vs' hr
    simp only [Option.some.injEq, Prod.mk.injEq] at h
    obtain ⟨rfl, rfl⟩ := h
    obtain ⟨h3, h4, h5⟩ := rdPs_spec s r hr ho.2
    exact ⟨by simp [h3], ⟨ho.1, h4⟩, fun φ => by simp only [mkPs, concs, h5 φ]⟩
   ·simp at h
  ·simp at h
 | .b :: s, ps, o, vs, h, ho => by
  simp only [rdPs] at h
  split at h
  ·rename_i x r
   split at h
   ·rename_i o2 vs' hr
    simp only [Option.some.injEq, Prod.mk.injEq] at h
    obtain ⟨rfl, rfl⟩ := h
    obtain ⟨h3, h4, h5⟩ := rdPs_spec s r hr ho
    exact ⟨by simp [h3], h4, fun φ => by simp only [mkPs, concs, h5 φ]⟩
   ·simp at h
  ·simp at h
def rdA : Arg → V1 → Option (List Prop × List Val)
 | .z, .one (.i x) => some ([], [.z x])
 | .b, .one (.v (.bool x)) => some ([], [.b x])
 | .u, .one (.u .u32 x) => some ([x < 4294967296], [.n x])
 | .s l, .agg ps => rdPs l ps
 | _, _ => none
def rdAs : List Arg → List V1 → Option (List Prop × List Val)
 | [], [] => some ([], [])
 | a :: ar, v :: vs => match rdA a v with
  | some (o, xs) => match rdAs ar vs with
   | some (o', ys) => some (o ++ o', xs ++ ys)
   | none => none
  | none => none
 | _, _ => none
def arN : Arg → Nat
 | .s l => l.length
 | _ => 1
def mkA : Arg → List Val → V1
 | .z, .z x :: _ => .one (.i x)
 | .b, .b x :: _ => .one (.v (.bool x))
 | .u, .n x :: _ => .one (.u .u32 x)
 | .s l, vs => .agg (mkPs l vs)
 | _, _ => .agg []
def BnA : Arg → List Val → Prop
 | .z, [.z _] => True
 | .b, [.b _] => True
 | .u, [.n x] => x < 4294967296
 | .s l, vs => BnP l vs
 | _, _ => False
def mkAs : List Arg → List Val → List V1
 | [], _ => []
 | a :: ar, vs => mkA a (vs.take (arN a)) :: mkAs ar (vs.drop (arN a))
def BnAs : List Arg → List Val → Prop
 | [], vs => vs = []
 | a :: ar, vs => BnA a (vs.take (arN a)) ∧ BnAs ar (vs.drop (arN a))
theorem rdA_spec (a : Arg) (v : V1) {o : List Prop} {xs : List Val} (h : rdA a v = some (o, xs)) (ho : All o) :
  xs.length = arN a ∧ BnA a xs ∧ ∀ φ, v.conc φ = (mkA a xs).conc φ := by
 unfold rdA at h
 split at h
 ·simp only [Option.some.injEq, Prod.mk.injEq] at h
  obtain ⟨_, rfl⟩ := h
  exact ⟨rfl, trivial, fun φ => rfl⟩
 ·simp only [Option.some.injEq, Prod.mk.injEq] at h
  obtain ⟨_, rfl⟩ := h
  exact ⟨rfl, trivial, fun φ => rfl⟩
 ·simp only [Option.some.injEq, Prod.mk.injEq] at h
  obtain ⟨rfl, rfl⟩ := h
  exact ⟨rfl, ho.1, fun φ => rfl⟩
 ·rename_i l ps
  obtain ⟨h1, h2, h3⟩ := rdPs_spec l ps h ho
  refine ⟨h1, ?_, fun φ => ?_⟩
  ·exact h2
  ·simp only [mkA, V1.conc, h3 φ]
 ·simp at h
theorem rdAs_spec : ∀ (ar : List Arg) (vs : List V1) {o : List Prop} {xs : List Val}, rdAs ar vs = some (o, xs) → All o →
  BnAs ar xs ∧ ∀ φ, vs.map (V1.conc φ) = (mkAs ar xs).map (V1.conc φ)
 | [], [], o, xs, h, _ => by
  simp only [rdAs, Option.some.injEq, Prod.mk.injEq] at h
  obtain ⟨_, rfl⟩ := h
  exact ⟨rfl, fun φ => rfl⟩
 | a :: ar, v :: vs, o, xs, h, ho => by
  simp only [rdAs] at h
  split at h
  ·rename_i o1 x hx
   split at h
   ·rename_i o2 ys hy
    simp only [Option.some.injEq, Prod.mk.injEq] at h
    obtain ⟨rfl, rfl⟩ := h
    rw [All_append] at ho
    obtain ⟨h1, h2, h3⟩ := rdA_spec a v hx ho.1
    obtain ⟨h4, h5⟩ := rdAs_spec ar vs hy ho.2
    simp only [BnAs, mkAs, List.take_left' h1, List.drop_left' h1, List.map_cons]
    exact ⟨⟨h2, h4⟩, fun φ => by rw [h3 φ, h5 φ]⟩
   ·simp at h
  ·simp at h
 | [], _ :: _, o, xs, h, _ => by simp [rdAs] at h
 | _ :: _, [], o, xs, h, _ => by simp [rdAs] at h
def fnS (ar : List Arg) (g : List Val → Option (List Prop × AV)) (vs : List V1) : Option (List Prop × AV) :=
 match rdAs ar vs with
 | some (o, xs) => match g xs with
  | some (o', r) => some (o ++ o', r)
  | none => none
 | none => none
structure CT where
 f : FuncId
 g : List V1 → Option (List Prop × AV)
def CTok (c : CT) : Prop := ∀ vs ob r, c.g vs = some (ob, r) → All ob → Spec c.f vs r
theorem ctS {f : FuncId} {ar : List Arg} {g : List Val → Option (List Prop × AV)} (hg : ∀ xs ob r, BnAs ar xs → g xs = some (ob, r) → All ob → Spec f (mkAs ar xs) r) : CTok ⟨f, fnS ar g⟩ := by
 intro vs ob r h ho
 simp only [fnS] at h
 split at h
 ·rename_i o xs hx
  split at h
  ·rename_i o' r' hr
   simp only [Option.some.injEq, Prod.mk.injEq] at h
   obtain ⟨rfl, rfl⟩ := h
   rw [All_append] at ho
   obtain ⟨h1, h2⟩ := rdAs_spec ar vs hx ho.1
   exact (hg xs _ _ h1 hr ho.2).congr (fun φ => (h2 φ).symm) (fun _ => rfl)
  ·simp at h
 ·simp at h
def lookC : List CT → FuncId → List V1 → Option (List Prop × AV)
 | [], _, _ => none
 | c :: r, f, vs => match Nat.beq c.f f with
  | true => c.g vs
  | false => lookC r f vs
def AllCT : List CT → Prop
 | [] => True
 | c :: r => CTok c ∧ AllCT r
theorem lookC_spec : ∀ {L : List CT}, AllCT L → ∀ {f : FuncId} {vs : List V1} {ob : List Prop} {r : AV}, lookC L f vs = some (ob, r) → All ob → Spec f vs r
 | [], _, f, vs, ob, r, h, _ => by simp [lookC] at h
 | c :: L, hL, f, vs, ob, r, h, ho => by
  simp only [lookC] at h
  split at h
  ·rename_i hc
   have := Nat.eq_of_beq_eq_true hc
   rw [← this]
   exact hL.1 vs ob r h ho
  ·exact lookC_spec hL.2 h ho
noncomputable def mkE (L : List CT) (S : FuncId → Nat → Bool) : Env := { E0 with fn := lookC L, S := S }
theorem envMk {L : List CT} (hL : AllCT L) (S : FuncId → Nat → Bool) : EnvOK (mkE L S) :=
 ⟨mixed, fun _ _ _ _ h ho => lookC_spec hL h ho, fun _ _ _ _ _ h => by simp [mkE, E0] at h, fun _ _ _ h => by simp [mkE, E0] at h, fun _ _ _ _ _ _ h => by simp [mkE, E0] at h⟩
end Go.Ev

namespace Go.Ev
open Go Go.Proofs Go.RowKit
def gMod : List Val → Option (List Prop × AV)
 | [.z z] => some ([], bV (modB z))
 | _ => none
def gModulus : List Val → Option (List Prop × AV)
 | [.z z] => some ([], .tup [N8 (bif modB z then modN z.toNat else 0), .one (.v (.bool (modB z)))])
 | _ => none
def gBit : List Val → Option (List Prop × AV)
 | [.n a, .z z] => some ([0 ≤ z ∧ z < 256], bV (bitB a z.toNat))
 | _ => none
theorem ct59 : CTok ⟨54, fnS [.z] gMod⟩ := ctS (by
 intro xs ob r hb h ho
 unfold gMod at h
 split at h
 ·simp only [Option.some.injEq, Prod.mk.injEq] at h
  obtain ⟨rfl, rfl⟩ := h
  exact spec19 _
 ·simp at h)
theorem ct105 : CTok ⟨139, fnS [.z] gModulus⟩ := ctS (by
 intro xs ob r hb h ho
 unfold gModulus at h
 split at h
 ·rename_i z
  simp only [Option.some.injEq, Prod.mk.injEq] at h
  obtain ⟨rfl, rfl⟩ := h
  cases hz : modB z with
  | true =>
   obtain ⟨n, rfl⟩ : ∃ n : Nat, z = (n : Int) := ⟨z.toNat, by have := modB_t hz; omega⟩
   exact spec39 n (by have := modB_t hz; omega)
  | false => exact spec39b z hz
 ·simp at h)
theorem ct104 : CTok ⟨134, fnS [.s [.n8], .z] gBit⟩ := ctS (by
 intro xs ob r hb h ho
 unfold gBit at h
 split at h
 ·rename_i a z
  simp only [Option.some.injEq, Prod.mk.injEq] at h
  obtain ⟨rfl, rfl⟩ := h
  obtain ⟨h0, _⟩ := ho
  obtain ⟨n, rfl⟩ : ∃ n : Nat, z = (n : Int) := ⟨z.toNat, by omega⟩
  exact spec76 a n (by omega)
 ·simp at h)
noncomputable def L0 : List CT := [⟨131, fnRf mmN⟩, ⟨107, fnR addM⟩, ⟨163, fnR subM⟩, ⟨110, fnG mmN⟩, ⟨35, fnG addM⟩, ⟨147, fnG subM⟩, ⟨127, fn55⟩, ⟨130, fnR1 outN⟩, ⟨116, fnG1 inN⟩, ⟨111, fnG1 outN⟩, ⟨126, fnK g52⟩, ⟨34, fnK (fun k => .val (rgK k))⟩, ⟨56, fnK g21⟩, ⟨139, fnS [.z] gModulus⟩, ⟨54, fnS [.z] gMod⟩, ⟨156, fnRp mpowN⟩, ⟨129, fnR1 minvN⟩, ⟨109, fn59⟩, ⟨140, fn2 gCmp⟩, ⟨142, fn2 gSub⟩, ⟨141, fn2 gAdd⟩, ⟨143, fn85⟩, ⟨83, fn2 gCmp⟩, ⟨58, fn2 gAdd⟩, ⟨59, fn2 gSub⟩, ⟨55, fn2 gLess⟩, ⟨146, fn2 (fun a b => .val (N16 (joinN a b)))⟩, ⟨84, fn62⟩, ⟨132, fn1 (fun a => iV (lenN a : Int))⟩, ⟨112, fn1 (fun a => iV (lenQ a 256 : Int))⟩, ⟨134, fnS [.s [.n8], .z] gBit⟩, ⟨114, fn82⟩]
theorem L0_ok : AllCT L0 :=
 ⟨fun _ _ _ h ho => fnRf_ok spec75 h ho, fun _ _ _ h ho => fnR_ok spec65 h ho, fun _ _ _ h ho => fnR_ok spec68 h ho, fun _ _ _ h ho => fnG_ok spec67 h ho, fun _ _ _ h ho => fnG_ok spec42 h ho, fun _ _ _ h ho => fnG_ok spec43 h ho, fun _ _ _ h ho => fn55_ok h ho, fun _ _ _ h ho => fnR1_ok spec53 h ho, fun _ _ _ h ho => fnG1_ok spec60 h ho, fun _ _ _ h ho => fnG1_ok spec58 h ho, fun _ _ _ h ho => fnK_ok spec52 h ho, fun _ _ _ h ho => fnK_ok spec41 h ho, fun _ _ _ h ho => fnK_ok spec21 h ho, ct105, ct59, fun _ _ _ h ho => fnRp_ok spec54 h ho, fun _ _ _ h ho => fnR1_ok spec56 h ho, fun _ _ _ h ho => fn59_ok h ho, fun _ _ _ h ho => fn2_ok spec70 h ho, fun _ _ _ h ho => fn2_ok spec78 h ho, fun _ _ _ h ho => fn2_ok spec84 h ho, fun _ _ _ h ho => fn85_ok h ho, fun _ _ _ h ho => fn2_ok spec79 h ho, fun _ _ _ h ho => fn2_ok spec50 h ho, fun _ _ _ h ho => fn2_ok spec61 h ho, fun _ _ _ h ho => fn2_ok spec57 h ho, fun _ _ _ h ho => fn2_ok spec47 h ho, fun _ _ _ h ho => fn62_ok h ho, fun _ _ _ h ho => fn1_ok (fun a _ => spec74 a) h ho, fun _ _ _ h ho => fn1_ok spec81 h ho, ct104, fun _ _ _ h ho => fn82_ok h ho, trivial⟩
end Go.Ev

namespace Go.NT
theorem mmod {m a b c d : Nat} (h : a % m = b % m) (h' : c % m = d % m) : a * c % m = b * d % m := by
 rw [Nat.mul_mod, h, h', ← Nat.mul_mod]
theorem zero_of_mul {m a b : Nat} (hp : Pr m) (h : a * b % m = 0) : a % m = 0 ∨ b % m = 0 := by
 rcases euclid hp (Nat.dvd_of_mod_eq_zero h) with h | h
 ·exact .inl (Nat.mod_eq_zero_of_dvd h)
 ·exact .inr (Nat.mod_eq_zero_of_dvd h)
theorem cancel_add {m x c : Nat} (h : (x + c) % m = c % m) : x % m = 0 := by
 have h1 : (x + c - c) % m = 0 := Nat.sub_mod_eq_zero_of_mod_eq h
 rwa [Nat.add_sub_cancel] at h1
theorem sq_eq {m a b : Nat} (hp : Pr m) (ha : a < m) (hb : b < m) (h : a * a % m = b * b % m) : a = b ∨ (a + b) % m = 0 := by
 by_cases hab : a = b
 ·exact .inl hab
 ·right
  rcases Nat.lt_or_gt_of_ne hab with hl | hl
  ·have h1 : (b - a) * (a + b) % m = 0 := by
    have e : (b - a) * (a + b) + a * a = b * b := by
     obtain ⟨d, rfl⟩ : ∃ d, b = a + d := ⟨b - a, by omega⟩
     rw [show a + d - a = d by omega]
     simp only [Nat.mul_add, Nat.add_mul]
     have := Nat.mul_comm a d
     omega
    exact cancel_add (by rw [e, h])
   rcases zero_of_mul hp h1 with h2 | h2
   ·rw [Nat.mod_eq_of_lt (by omega)] at h2; omega
   ·exact h2
  ·have h1 : (a - b) * (a + b) % m = 0 := by
    have e : (a - b) * (a + b) + b * b = a * a := by
     obtain ⟨d, rfl⟩ : ∃ d, a = b + d := ⟨a - b, by omega⟩
     rw [show b + d - b = d by omega]
     simp only [Nat.mul_add, Nat.add_mul]
     have := Nat.mul_comm b d
     omega
    exact cancel_add (by rw [e, h])
   rcases zero_of_mul hp h1 with h2 | h2
   ·rw [Nat.mod_eq_of_lt (by omega)] at h2; omega
   ·exact h2
theorem neg_sq {m x : Nat} (h : x ≤ m) : (m - x) * (m - x) % m = x * x % m := by
 obtain ⟨d, rfl⟩ : ∃ d, m = x + d := ⟨m - x, by omega⟩
 rw [show x + d - x = d by omega]
 have e : d * d + (x + d) * x = x * x + (x + d) * d := by
  simp only [Nat.add_mul]; have := Nat.mul_comm x d; omega
 have h1 : (d * d + (x + d) * x) % (x + d) = (x * x + (x + d) * d) % (x + d) := by rw [e]
 rwa [Nat.add_mul_mod_self_left, Nat.add_mul_mod_self_left] at h1
theorem sq_one {m s : Nat} (hp : Pr m) (hs : s < m) (h : s * s % m = 1) : s = 1 ∨ s = m - 1 := by
 have h1 : 1 < m := hp.1
 rcases sq_eq hp hs h1 (by rw [h, Nat.mod_eq_of_lt (by omega)]) with h2 | h2
 ·exact .inl h2
 ·right
  rcases Nat.lt_or_ge (s + 1) m with h3 | h3
  ·rw [Nat.mod_eq_of_lt h3] at h2; omega
  ·omega
def pwM (p a e : Nat) : Nat := a ^ e % p
theorem pwM_lt {p : Nat} (hp : 0 < p) (a e : Nat) : pwM p a e < p := Nat.mod_lt _ hp
theorem sq_mod (m x : Nat) : x % m * (x % m) % m = x * x % m := (Nat.mul_mod x x m).symm
theorem pwM_sq (p a e : Nat) : pwM p (a * a % p) e * pwM p (a * a % p) e % p = pwM p a (2 * (e + e)) := by
 unfold pwM
 rw [sq_mod, ← Nat.pow_add, ← Nat.pow_mod, ← Nat.pow_two, ← Nat.pow_mul]
theorem pwM_add (p a e f : Nat) : pwM p a (e + f) = pwM p a e * pwM p a f % p := by
 unfold pwM
 rw [Nat.pow_add, Nat.mul_mod]
theorem pwM_two (p a : Nat) : pwM p a 2 = a * a % p := by unfold pwM; rw [Nat.pow_two]
theorem sq_root1 {p a e : Nat} (hf : 0 < a → pwM p a (p - 1) = 1) (he : 2 * (e + e) = p - 1 + 2) :
  pwM p (a * a % p) e * pwM p (a * a % p) e % p = a * a % p := by
 rw [pwM_sq, he, pwM_add, pwM_two]
 by_cases h0 : a = 0
 ·subst h0; simp
 ·rw [hf (by omega), Nat.one_mul, Nat.mod_mod]
def rt (p e f a : Nat) : Nat :=
 if pwM p a e * pwM p a e % p = a then pwM p a e else pwM p a e * pwM p 2 f % p
theorem sq_root0 {p a e f h : Nat} (hp : Pr p) (hf : 0 < a → pwM p a (p - 1) = 1) (he : 2 * (e + e) = h + 2) (hh : h + h = p - 1)
  (ht : pwM p 2 f * pwM p 2 f % p = p - 1) : rt p e f (a * a % p) * rt p e f (a * a % p) % p = a * a % p := by
 have h1 : 1 < p := hp.1
 unfold rt
 split
 ·assumption
 ·rename_i hn
  have hxx : pwM p (a * a % p) e * pwM p (a * a % p) e % p = pwM p a h * (a * a % p) % p := by
   rw [pwM_sq, he, pwM_add, pwM_two]
  generalize pwM p (a * a % p) e = x at *
  by_cases h0 : a = 0
  ·exfalso; apply hn
   rw [hxx, h0]; simp
  ·have hs : pwM p a h * pwM p a h % p = 1 := by rw [← pwM_add, hh]; exact hf (by omega)
   rcases sq_one hp (pwM_lt (by omega) a h) hs with h2 | h2
   ·exfalso; apply hn
    rw [hxx, h2, Nat.one_mul, Nat.mod_mod]
   ·rw [sq_mod]
    generalize pwM p 2 f = t at *
    rw [show x * t * (x * t) = x * x * (t * t) by simp only [Nat.mul_assoc, Nat.mul_left_comm], Nat.mul_mod, hxx, ht, h2]
    generalize a * a = c
    rw [Nat.mod_mul_mod, Nat.mul_assoc, Nat.mul_comm (c % p), ← Nat.mul_assoc, Nat.mul_mod, show (p - 1) * (p - 1) % p = 1 by
     have := neg_sq (m := p) (x := 1) (by omega)
     rw [this, Nat.one_mul]; exact Nat.mod_eq_of_lt h1, Nat.one_mul, Nat.mod_mod, Nat.mod_mod]
def candN (k a : Nat) : Nat :=
 if k = 1 then pwM (modP 1) a ((modP 1 + 1) / 4) else rt (modP 0) ((modP 0 + 3) / 8) (modP 0 / 4) a
theorem pw_sq {p a e c : Nat} (hp : p < 2 ^ 256) (he : e < p) (h : powK 256 a e p * powK 256 a e p % p = c) : pwM p a e * pwM p a e % p = c := by
 rw [powK_256 hp he] at h
 exact h
theorem two_sq : pwM (modP 0) 2 (modP 0 / 4) * pwM (modP 0) 2 (modP 0 / 4) % modP 0 = modP 0 - 1 :=
 pw_sq (by decide +kernel) (by decide +kernel) (by decide +kernel)
theorem fermatW {k a : Nat} (hk : k < 4) (ha : a < modP k) (h0 : 0 < a) : pwM (modP k) a (modP k - 1) = 1 := by unfold pwM; exact fermatK hk h0 ha
theorem candN_0 (a : Nat) : candN 0 a = rt (modP 0) ((modP 0 + 3) / 8) (modP 0 / 4) a := by unfold candN; exact if_neg (by decide)
theorem candN_1 (a : Nat) : candN 1 a = pwM (modP 1) a ((modP 1 + 1) / 4) := by unfold candN; exact if_pos rfl
theorem cand_sq {k a : Nat} (hk : k < 2) (ha : a < modP k) : candN k (a * a % modP k) * candN k (a * a % modP k) % modP k = a * a % modP k := by
 rcases (show k = 0 ∨ k = 1 by omega) with rfl | rfl
 ·rw [candN_0]; exact sq_root0 (h := (modP 0 - 1) / 2) (primeK (by decide)) (fermatW (by decide) ha) (by decide +kernel) (by decide +kernel) two_sq
 ·rw [candN_1]; exact sq_root1 (fermatW (by decide) ha) (by decide +kernel)
def isSq (k c : Nat) : Bool := decide (candN k c * candN k c % modP k = c)
theorem isSq_of {k r c : Nat} (hk : k < 2) (h : r * r % modP k = c) : isSq k c = true := by
 have h1 : 0 < modP k := by have := (primeK (k := k) (by omega)).1; omega
 have h2 := cand_sq hk (Nat.mod_lt r h1)
 rw [sq_mod, h] at h2
 simp [isSq, h2]
theorem isSq_ex {k c : Nat} (h : isSq k c = true) : ∃ r, r * r % modP k = c := ⟨candN k c, by simpa [isSq] using h⟩
theorem inv_mul {k a : Nat} (hk : k < 4) (h0 : 0 < a) (ha : a < modP k) : a * a ^ (modP k - 2) % modP k = 1 := by
 have h1 : 1 < modP k := (primeK hk).1
 rw [Nat.mul_comm, ← Nat.pow_succ, show (modP k - 2).succ = modP k - 1 by omega]
 exact fermatK hk h0 ha
theorem isSq_mul {k a b : Nat} (hk : k < 2) (h0 : 0 < a) (ha : a < modP k) (hb : b < modP k) : isSq k (b * (a * a % modP k) % modP k) = isSq k b := by
 rw [Bool.eq_iff_iff]
 constructor
 ·intro h
  obtain ⟨r, hr⟩ := isSq_ex h
  refine isSq_of (r := r * a ^ (modP k - 2)) hk ?_
  rw [show r * a ^ (modP k - 2) * (r * a ^ (modP k - 2)) = r * r * (a ^ (modP k - 2) * a ^ (modP k - 2)) by simp only [Nat.mul_assoc, Nat.mul_comm, Nat.mul_left_comm]]
  rw [Nat.mul_mod, hr, Nat.mod_mul_mod, Nat.mul_mod_mod, Nat.mul_assoc]
  have h3 : b * ((a * a) % modP k * (a ^ (modP k - 2) * a ^ (modP k - 2))) % modP k = b * ((a * a ^ (modP k - 2)) * (a * a ^ (modP k - 2))) % modP k := by
   refine mmod rfl ?_
   rw [Nat.mod_mul_mod]
   congr 1
   simp only [Nat.mul_assoc, Nat.mul_comm, Nat.mul_left_comm]
  rw [h3, Nat.mul_mod, Nat.mul_mod (a * _), inv_mul (by omega) h0 ha, Nat.mul_one]
  have h1 : 1 < modP k := (primeK (k := k) (by omega)).1
  rw [Nat.mod_eq_of_lt h1, Nat.mul_one, Nat.mod_mod, Nat.mod_eq_of_lt hb]
 ·intro h
  obtain ⟨r, hr⟩ := isSq_ex h
  refine isSq_of (r := r * a) hk ?_
  rw [show r * a * (r * a) = r * r * (a * a) by simp only [Nat.mul_comm, Nat.mul_left_comm]]
  exact mmod (by rw [hr, Nat.mod_eq_of_lt hb]) (Nat.mod_mod _ _).symm
end Go.NT

namespace Go.Ev
open Go Go.Proofs Go.RowKit
noncomputable def L1 : List CT := L0
theorem L1_ok : AllCT L1 := L0_ok
def noS : FuncId → Nat → Bool := fun _ _ => false
theorem modN_P (k : Nat) : modN k = Go.NT.modP k := by unfold modN Go.NT.modP; rfl
noncomputable def L2 : List CT := L1
theorem L2_ok : AllCT L2 := L1_ok
open Go.NT in
theorem out_eq (m a : Nat) : outN m a = mredN a m := by unfold outN joinN; rw [Nat.mul_zero, Nat.add_zero]
theorem in_eq (m c : Nat) : inN m c = c * 4294967296 ^ 8 % m := by unfold inN remN joinN; rw [Nat.zero_add, Nat.mul_comm]
theorem mpow_in (m a n : Nat) : mpowN m a n = inN m (Go.NT.pwM m (outN m a) n) := by
 rw [in_eq, out_eq]; unfold mpowN Go.NT.pwM; rw [Nat.mod_mul_mod]
theorem mm_in {m q x y : Nat} (hR : m < 4294967296 ^ 8) (hq : goodF m q) : mmN m (inN m x) (inN m y) = inN m (x * y % m) := by
 rw [in_eq, in_eq, in_eq, mm_pow hR hq, Nat.mod_mul_mod]
theorem in_inj {m q x y : Nat} (hR : m < 4294967296 ^ 8) (hq : goodF m q) (hx : x < m) (hy : y < m) (h : inN m x = inN m y) : x = y := by
 have h1 := in_back (a := x) hR hq
 have h2 := in_back (a := y) hR hq
 rw [Nat.mod_eq_of_lt hx] at h1
 rw [Nat.mod_eq_of_lt hy] at h2
 rw [← h1, ← h2, h]
theorem in_out {m q a : Nat} (hR : m < 4294967296 ^ 8) (hq : goodF m q) (ha : a < m) : inN m (outN m a) = a := by
 rw [in_eq, out_eq, mred_back hR hq ha]
theorem out_in {m q x : Nat} (hR : m < 4294967296 ^ 8) (hq : goodF m q) (hx : x < m) : outN m (inN m x) = x := by
 rw [out_eq, in_back hR hq, Nat.mod_eq_of_lt hx]
theorem inN_lt {m c : Nat} (hm : 0 < m) : inN m c < m := Nat.mod_lt _ hm
theorem outN_lt {m c : Nat} (hm : 0 < m) : outN m c < m := Nat.mod_lt _ hm
theorem mmN_lt {m a b : Nat} (hm : 0 < m) : mmN m a b < m := Nat.mod_lt _ hm
theorem mpowN_lt {m a b : Nat} (hm : 0 < m) : mpowN m a b < m := Nat.mod_lt _ hm
theorem same_b {x y : Nat} (hx : x < 4294967296 ^ 8) (hy : y < 4294967296 ^ 8) : (decide (x % 4294967296 ^ 8 = y % 4294967296 ^ 8) && true) = decide (x = y) := by
 rw [Nat.mod_eq_of_lt hx, Nat.mod_eq_of_lt hy, Bool.and_true]
noncomputable def L3 : List CT := L2
theorem L3_ok : AllCT L3 := L2_ok
end Go.Ev

namespace Go.Ev
open Go Go.Proofs Go.RowKit
noncomputable def S85 : FuncId → Nat → Bool := fun f t => match f with | 105 => memN t [13] | _ => false
theorem run85x (z : Int) (a : Nat) : callR (mkE L3 S85) 1000 105 [zV z, N8 a] [true] =
  some ([modB z = true, a < 4294967296 ^ 8, (bif modB z then modN z.toNat else 0) < 4294967296 ^ 8], AV.val (V1.one (Atom.v (Value.bool (decide (cmpZN a (bif modB z then modN z.toNat else 0) < 0)))))) := by kernel_rfl
theorem run85y (z : Int) (a : Nat) : callR (mkE L3 S85) 1000 105 [zV z, N8 a] [false] =
  some ([modB z = false], AV.val (V1.one (Atom.v (Value.bool false)))) := by kernel_rfl
def gFis : List Val → Option (List Prop × AV)
 | [.z z, .n a] => some ([], bV (ok1 z a))
 | _ => none
theorem ct85 : CTok ⟨105, fnS [.z, .s [.n8]] gFis⟩ := ctS (by
 intro xs ob r hb h ho
 unfold gFis at h
 split at h
 ·rename_i z a
  simp only [Option.some.injEq, Prod.mk.injEq] at h
  obtain ⟨rfl, rfl⟩ := h
  obtain ⟨_, ⟨ha, _⟩, _⟩ := hb
  have hR := modN_lt z.toNat
  cases hz : modB z with
  | true =>
   have hr := spec_run (envMk L3_ok S85) rfl (run85x z a) (by rw [hz]; exact ⟨rfl, ha, hR, trivial⟩) rfl rfl
   rw [hz, cond_true, cmpZN_neg] at hr
   rw [show ok1 z a = decide (a < modN z.toNat) by unfold ok1 lessB; rw [hz, Bool.true_and]]
   exact hr
  | false =>
   rw [show ok1 z a = false by unfold ok1; rw [hz, Bool.false_and]]
   exact spec_run (envMk L3_ok S85) rfl (run85y z a) ⟨hz, trivial⟩ rfl rfl
 ·simp at h)
end Go.Ev

namespace Go.Ev
open Go Go.Proofs Go.RowKit
theorem L8 {k x : Nat} (h : x < modN k) : x < 4294967296 ^ 8 := Nat.lt_trans h (modN_lt k)
theorem modN_one (k : Nat) : 1 < modN k := Nat.lt_of_succ_lt (modN_two k)
theorem addM_lt {m a b : Nat} (hm : 0 < m) : addM m a b < m := Nat.mod_lt _ hm
theorem subM_lt {m a b : Nat} (hm : 0 < m) : subM m a b < m := Nat.mod_lt _ hm
theorem mulM_lt {m a b : Nat} (hm : 0 < m) : mulM m a b < m := Nat.mod_lt _ hm
theorem minvN_lt {m a : Nat} (hm : 0 < m) : minvN m a < m := Nat.mod_lt _ hm
end Go.Ev

