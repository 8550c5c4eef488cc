/- Roots, and points of the curve: what the functions on them come to; Bytes of numbers and of points -/
import Derived.Test.YtfcobjhnkghdjaaGreatPartI
import Derived.Test.YtfcobjhnkghdjaaGreatPartC
namespace Go.Ev
open Go Go.Proofs Go.RowKit

inductive Sh where | n8 | u32 | b
inductive Arg where | z | b | u | s (l : List Sh)
inductive Val where | n (x : Nat) | z (x : Int) | b (x : Bool)

def tkU : Nat → List Piece → Option (List Prop × Nat × List Piece)
  | 0, ps => some ([], 0, ps)
  | n + 1, .a (.u .u32 x) :: ps => match tkU n ps with
    | some (o, v, r) => some ((x < 4294967296) :: o, x + 4294967296 * v, r)
    | none => none
  | _ + 1, _ => none
def tkN (ps : List Piece) : Option (List Prop × Nat × List Piece) :=
  match ps with
  | .num k x :: r => match Nat.beq k 8 with | true => some ([x < 4294967296 ^ 8], x, r) | false => none
  | ps => tkU 8 ps
theorem tkU_spec : ∀ (n : Nat) (ps : List Piece) {o : List Prop} {v : Nat} {r : List Piece}, tkU n ps = some (o, v, r) → All o →
    v < 4294967296 ^ n ∧ ∀ φ, concs φ ps = limbs n v ++ concs φ r := by
  intro n
  induction n with
  | zero =>
    intro ps o v r h _
    simp only [tkU, Option.some.injEq, Prod.mk.injEq] at h
    obtain ⟨_, rfl, rfl⟩ := h
    exact ⟨by simp, fun φ => rfl⟩
  | succ n ih =>
    intro ps o v r h ho
    unfold tkU at h
    split at h
    · rename_i h0; omega
    · rename_i n' y ps' hn
      obtain rfl : n = n' := by omega
      split at h
      · rename_i o' v' r' hv
        simp only [Option.some.injEq, Prod.mk.injEq] at h
        obtain ⟨rfl, rfl, rfl⟩ := h
        obtain ⟨h1, h2⟩ := ih ps' hv ho.2
        have hy : y < 4294967296 := ho.1
        refine ⟨by rw [Nat.pow_succ]; omega, fun φ => ?_⟩
        simp only [concs, Piece.conc, Atom.conc, limbs, h2 φ]
        rw [show (y + 4294967296 * v') % 4294967296 = y by omega, show (y + 4294967296 * v') / 4294967296 = v' by omega]
        rfl
      · simp at h
    · simp at h
theorem tkN_spec {ps : List Piece} {o : List Prop} {v : Nat} {r : List Piece} (h : tkN ps = some (o, v, r)) (ho : All o) :
    v < 4294967296 ^ 8 ∧ ∀ φ, concs φ ps = limbs 8 v ++ concs φ r := by
  unfold tkN at h
  split at h
  · rename_i k x r'
    split at h
    · rename_i hk
      simp only [Option.some.injEq, Prod.mk.injEq] at h
      obtain ⟨rfl, rfl, rfl⟩ := h
      have hk := Nat.eq_of_beq_eq_true hk
      subst hk
      exact ⟨ho.1, fun φ => by simp only [concs, Piece.conc]⟩
    · simp at h
  · exact tkU_spec 8 ps h ho

def rdPs : List Sh → List Piece → Option (List Prop × List Val)
  | [], [] => some ([], [])
  | [], _ :: _ => none
  | .n8 :: s, ps => match tkN ps with
    | some (o, x, r) => match rdPs s r with
      | some (o', vs) => some (o ++ o', .n x :: vs)
      | none => none
    | none => none
  | .u32 :: s, ps => match ps with
    | .a (.u .u32 x) :: r => match rdPs s r with
      | some (o', vs) => some ((x < 4294967296) :: o', .n x :: vs)
      | none => none
    | _ => none
  | .b :: s, ps => match ps with
    | .a (.v (.bool x)) :: r => match rdPs s r with
      | some (o', vs) => some (o', .b x :: vs)
      | none => none
    | _ => none
def mkPs : List Sh → List Val → List Piece
  | .n8 :: s, .n x :: vs => .num 8 x :: mkPs s vs
  | .u32 :: s, .n x :: vs => .a (.u .u32 x) :: mkPs s vs
  | .b :: s, .b x :: vs => .a (.v (.bool x)) :: mkPs s vs
  | _, _ => []
def BnP : List Sh → List Val → Prop
  | [], [] => True
  | .n8 :: s, .n x :: vs => x < 4294967296 ^ 8 ∧ BnP s vs
  | .u32 :: s, .n x :: vs => x < 4294967296 ∧ BnP s vs
  | .b :: s, .b _ :: vs => BnP s vs
  | _, _ => False
theorem rdPs_spec : ∀ (s : List Sh) (ps : List Piece) {o : List Prop} {vs : List Val}, rdPs s ps = some (o, vs) → All o →
    vs.length = s.length ∧ BnP s vs ∧ ∀ φ, concs φ ps = concs φ (mkPs s vs)
  | [], [], o, vs, h, _ => by
    simp only [rdPs, Option.some.injEq, Prod.mk.injEq] at h
    obtain ⟨_, rfl⟩ := h
    exact ⟨rfl, trivial, fun φ => rfl⟩
  | [], _ :: _, o, vs, h, _ => by simp [rdPs] at h
  | .n8 :: s, ps, o, vs, h, ho => by
    simp only [rdPs] at h
    split at h
    · rename_i o1 x r hx
      split at h
      · rename_i o2 vs' hr
        simp only [Option.some.injEq, Prod.mk.injEq] at h
        obtain ⟨rfl, rfl⟩ := h
        rw [All_append] at ho
        obtain ⟨h1, h2⟩ := tkN_spec hx ho.1
        obtain ⟨h3, h4, h5⟩ := rdPs_spec s r hr ho.2
        exact ⟨by simp [h3], ⟨h1, h4⟩, fun φ => by rw [h2 φ, h5 φ]; rfl⟩
      · simp at h
    · simp at h
  | .u32 :: s, ps, o, vs, h, ho => by
    simp only [rdPs] at h
    split at h
    · rename_i x r
      split at h
      · rename_i o2 vs' hr
        simp only [Option.some.injEq, Prod.mk.injEq] at h
        obtain ⟨rfl, rfl⟩ := h
        obtain ⟨h3, h4, h5⟩ := rdPs_spec s r hr ho.2
        exact ⟨by simp [h3], ⟨ho.1, h4⟩, fun φ => by simp only [mkPs, concs, h5 φ]⟩
      · simp at h
    · simp at h
  | .b :: s, ps, o, vs, h, ho => by
    simp only [rdPs] at h
    split at h
    · rename_i x r
      split at h
      · rename_i o2 vs' hr
        simp only [Option.some.injEq, Prod.mk.injEq] at h
        obtain ⟨rfl, rfl⟩ := h
        obtain ⟨h3, h4, h5⟩ := rdPs_spec s r hr ho
        exact ⟨by simp [h3], h4, fun φ => by simp only [mkPs, concs, h5 φ]⟩
      · simp at h
    · simp at h

def rdA : Arg → V1 → Option (List Prop × List Val)
  | .z, .one (.i x) => some ([], [.z x])
  | .b, .one (.v (.bool x)) => some ([], [.b x])
  | .u, .one (.u .u32 x) => some ([x < 4294967296], [.n x])
  | .s l, .agg ps => rdPs l ps
  | _, _ => none
def rdAs : List Arg → List V1 → Option (List Prop × List Val)
  | [], [] => some ([], [])
  | a :: ar, v :: vs => match rdA a v with
    | some (o, xs) => match rdAs ar vs with
      | some (o', ys) => some (o ++ o', xs ++ ys)
      | none => none
    | none => none
  | _, _ => none
def arN : Arg → Nat
  | .s l => l.length
  | _ => 1
def mkA : Arg → List Val → V1
  | .z, .z x :: _ => .one (.i x)
  | .b, .b x :: _ => .one (.v (.bool x))
  | .u, .n x :: _ => .one (.u .u32 x)
  | .s l, vs => .agg (mkPs l vs)
  | _, _ => .agg []
def BnA : Arg → List Val → Prop
  | .z, [.z _] => True
  | .b, [.b _] => True
  | .u, [.n x] => x < 4294967296
  | .s l, vs => BnP l vs
  | _, _ => False
def mkAs : List Arg → List Val → List V1
  | [], _ => []
  | a :: ar, vs => mkA a (vs.take (arN a)) :: mkAs ar (vs.drop (arN a))
def BnAs : List Arg → List Val → Prop
  | [], vs => vs = []
  | a :: ar, vs => BnA a (vs.take (arN a)) ∧ BnAs ar (vs.drop (arN a))
theorem rdA_spec (a : Arg) (v : V1) {o : List Prop} {xs : List Val} (h : rdA a v = some (o, xs)) (ho : All o) :
    xs.length = arN a ∧ BnA a xs ∧ ∀ φ, v.conc φ = (mkA a xs).conc φ := by
  unfold rdA at h
  split at h
  · simp only [Option.some.injEq, Prod.mk.injEq] at h
    obtain ⟨_, rfl⟩ := h
    exact ⟨rfl, trivial, fun φ => rfl⟩
  · simp only [Option.some.injEq, Prod.mk.injEq] at h
    obtain ⟨_, rfl⟩ := h
    exact ⟨rfl, trivial, fun φ => rfl⟩
  · simp only [Option.some.injEq, Prod.mk.injEq] at h
    obtain ⟨rfl, rfl⟩ := h
    exact ⟨rfl, ho.1, fun φ => rfl⟩
  · rename_i l ps
    obtain ⟨h1, h2, h3⟩ := rdPs_spec l ps h ho
    refine ⟨h1, ?_, fun φ => ?_⟩
    · exact h2
    · simp only [mkA, V1.conc, h3 φ]
  · simp at h
theorem rdAs_spec : ∀ (ar : List Arg) (vs : List V1) {o : List Prop} {xs : List Val}, rdAs ar vs = some (o, xs) → All o →
    BnAs ar xs ∧ ∀ φ, vs.map (V1.conc φ) = (mkAs ar xs).map (V1.conc φ)
  | [], [], o, xs, h, _ => by
    simp only [rdAs, Option.some.injEq, Prod.mk.injEq] at h
    obtain ⟨_, rfl⟩ := h
    exact ⟨rfl, fun φ => rfl⟩
  | a :: ar, v :: vs, o, xs, h, ho => by
    simp only [rdAs] at h
    split at h
    · rename_i o1 x hx
      split at h
      · rename_i o2 ys hy
        simp only [Option.some.injEq, Prod.mk.injEq] at h
        obtain ⟨rfl, rfl⟩ := h
        rw [All_append] at ho
        obtain ⟨h1, h2, h3⟩ := rdA_spec a v hx ho.1
        obtain ⟨h4, h5⟩ := rdAs_spec ar vs hy ho.2
        simp only [BnAs, mkAs, List.take_left' h1, List.drop_left' h1, List.map_cons]
        exact ⟨⟨h2, h4⟩, fun φ => by rw [h3 φ, h5 φ]⟩
      · simp at h
    · simp at h
  | [], _ :: _, o, xs, h, _ => by simp [rdAs] at h
  | _ :: _, [], o, xs, h, _ => by simp [rdAs] at h

def fnS (ar : List Arg) (g : List Val → Option (List Prop × AV)) (vs : List V1) : Option (List Prop × AV) :=
  match rdAs ar vs with
  | some (o, xs) => match g xs with
    | some (o', r) => some (o ++ o', r)
    | none => none
  | none => none
structure CT where
  f : FuncId
  g : List V1 → Option (List Prop × AV)
def CTok (c : CT) : Prop := ∀ vs ob r, c.g vs = some (ob, r) → All ob → Spec c.f vs r
theorem ctS {f : FuncId} {ar : List Arg} {g : List Val → Option (List Prop × AV)} (hg : ∀ xs ob r, BnAs ar xs → g xs = some (ob, r) → All ob → Spec f (mkAs ar xs) r) : CTok ⟨f, fnS ar g⟩ := by
  intro vs ob r h ho
  simp only [fnS] at h
  split at h
  · rename_i o xs hx
    split at h
    · rename_i o' r' hr
      simp only [Option.some.injEq, Prod.mk.injEq] at h
      obtain ⟨rfl, rfl⟩ := h
      rw [All_append] at ho
      obtain ⟨h1, h2⟩ := rdAs_spec ar vs hx ho.1
      exact (hg xs _ _ h1 hr ho.2).congr (fun φ => (h2 φ).symm) (fun _ => rfl)
    · simp at h
  · simp at h
def lookC : List CT → FuncId → List V1 → Option (List Prop × AV)
  | [], _, _ => none
  | c :: r, f, vs => match Nat.beq c.f f with
    | true => c.g vs
    | false => lookC r f vs
def AllCT : List CT → Prop
  | [] => True
  | c :: r => CTok c ∧ AllCT r
theorem lookC_spec : ∀ {L : List CT}, AllCT L → ∀ {f : FuncId} {vs : List V1} {ob : List Prop} {r : AV}, lookC L f vs = some (ob, r) → All ob → Spec f vs r
  | [], _, f, vs, ob, r, h, _ => by simp [lookC] at h
  | c :: L, hL, f, vs, ob, r, h, ho => by
    simp only [lookC] at h
    split at h
    · rename_i hc
      have := Nat.eq_of_beq_eq_true hc
      rw [← this]
      exact hL.1 vs ob r h ho
    · exact lookC_spec hL.2 h ho
noncomputable def mkE (L : List CT) (S : FuncId → Nat → Bool) : Env := { E0 with fn := lookC L, S := S }
theorem envMk {L : List CT} (hL : AllCT L) (S : FuncId → Nat → Bool) : EnvOK (mkE L S) :=
  ⟨mixed, fun _ _ _ _ h ho => lookC_spec hL h ho, fun _ _ _ _ _ h => by simp [mkE, E0] at h, fun _ _ _ h => by simp [mkE, E0] at h, fun _ _ _ _ _ _ h => by simp [mkE, E0] at h⟩
end Go.Ev

namespace Go.Ev
open Go Go.Proofs Go.RowKit

theorem numsB_length (s : ByteArray) : (numsB s).length = s.size := by simp [numsB]
def leN : List Nat → Nat
  | [] => 0
  | b :: bs => b + 256 * leN bs
def leS (s : ByteArray) : Nat := leN (numsB s)
def leB (n x : Nat) : List Nat := (List.range n).map fun j => x / 256 ^ j % 256
theorem leN_lt : ∀ l : List Nat, (∀ b ∈ l, b < 256) → leN l < 256 ^ l.length
  | [], _ => by simp [leN]
  | b :: l, h => by
    have h1 := leN_lt l (fun x hx => h x (by simp [hx]))
    have h2 := h b (by simp)
    simp only [leN, List.length_cons, Nat.pow_succ]; omega
theorem numsB_lt (s : ByteArray) : ∀ b ∈ numsB s, b < 256 := by
  intro b hb
  simp only [numsB, List.mem_map] at hb
  obtain ⟨x, _, rfl⟩ := hb
  exact UInt8.toNat_lt x
theorem leS_lt (s : ByteArray) : leS s < 256 ^ s.size := by
  have := leN_lt (numsB s) (numsB_lt s)
  rwa [numsB_length] at this
theorem numsB_strOf (l : List Nat) (h : ∀ b ∈ l, b < 256) : numsB (strOf l) = l := by
  unfold numsB strOf
  rw [List.map_map]
  conv => rhs; rw [← List.map_id l]
  apply List.map_congr_left
  intro b hb
  have := h b hb
  simp [Function.comp, UInt8.toNat_ofNat', Nat.mod_eq_of_lt this]
theorem strOf_size (l : List Nat) : (strOf l).size = l.length := by simp [strOf, ByteArray.size]
theorem strOf_numsB (s : ByteArray) : strOf (numsB s) = s := by
  unfold strOf numsB
  rw [List.map_map]
  have : ((fun n => UInt8.ofNat n) ∘ UInt8.toNat) = id := by funext x; simp [Function.comp]
  rw [this]; simp
theorem leB_length (n x : Nat) : (leB n x).length = n := by simp [leB]
theorem leB_lt (n x : Nat) : ∀ b ∈ leB n x, b < 256 := by
  intro b hb
  simp only [leB, List.mem_map] at hb
  obtain ⟨j, _, rfl⟩ := hb
  exact Nat.mod_lt _ (by decide)
theorem orSh {a k : Nat} (x : Nat) (ha : a < 2 ^ k) : a ||| x * 2 ^ k = a + x * 2 ^ k := by
  have := Nat.two_pow_add_eq_or_of_lt ha x
  rw [Nat.or_comm, Nat.mul_comm x, ← this, Nat.add_comm]
def ls (acc x k : Nat) : Nat := acc % 4294967296 ||| x % 4294967296 * 2 ^ k % 4294967296 % 4294967296
theorem ls_eq {acc x k : Nat} (ha : acc < 2 ^ k) (hx : x < 256) (hk : k ≤ 24) : ls acc x k = acc + x * 2 ^ k ∧ acc + x * 2 ^ k < 2 ^ (k + 8) := by
  have h1 : acc + x * 2 ^ k < 2 ^ (k + 8) := by
    have : x * 2 ^ k ≤ 255 * 2 ^ k := Nat.mul_le_mul_right _ (by omega)
    rw [Nat.pow_add]; omega
  have h2 : 2 ^ (k + 8) ≤ 4294967296 := Nat.pow_le_pow_right (n := 2) (j := 32) (by decide) (by omega)
  refine ⟨?_, h1⟩
  unfold ls
  rw [Nat.mod_eq_of_lt (show acc < 4294967296 by omega), Nat.mod_eq_of_lt (show x < 4294967296 by omega), Nat.mod_eq_of_lt (show x * 2 ^ k < 4294967296 by omega), Nat.mod_eq_of_lt (show x * 2 ^ k < 4294967296 by omega)]
  exact orSh x ha

def strB (n : Nat) (b : Nat → UInt8) : ByteArray := ⟨((List.range n).map b).toArray⟩
theorem strB_of {s : ByteArray} {n : Nat} (h : s.size = n) : s = strB n (fun i => s.data.getD i 0) := by
  subst h
  apply ByteArray.ext
  apply Array.ext
  · simp [strB]
  · intro i h1 h2
    simp only [strB, List.getElem_toArray, List.getElem_map, List.getElem_range]
    rw [Array.getD_eq_getD_getElem?, Array.getElem?_eq_getElem h1]; rfl
theorem numsB_strB (n : Nat) (b : Nat → UInt8) : numsB (strB n b) = (List.range n).map fun i => (b i).toNat := by
  simp [numsB, strB, List.map_map, Function.comp]
end Go.Ev

namespace Go.Ev
open Go Go.Proofs Go.RowKit
def sS (s : ByteArray) : V1 := .one (.v (.string s))
def ol (b : Nat → UInt8) (i : Nat) : Nat := ls (ls (ls (ls 0 (b (4 * i)).toNat 0) (b (4 * i + 1)).toNat 8) (b (4 * i + 2)).toNat 16) (b (4 * i + 3)).toNat 24
def lbt (u : Nat → Nat) (j : Nat) : Nat := u (j / 4) / 2 ^ (8 * (j % 4)) % 256
theorem run99a (b : Nat → UInt8) : callR E0 1000 91 [sS (strB 32 b)] [] = some ([], .tup [C8 (ol b), .one (.i 0)]) := by kernel_rfl
theorem run102a (b : Nat → UInt8) : callR E0 1000 53 [sS (strB 32 b)] [] = some ([], .val (C8 (ol b))) := by kernel_rfl
theorem run98a (u : Nat → Nat) : callR E0 1000 108 [C8 u] [] = some ([], .val (sS (strOf ((List.range 32).map (lbt u))))) := by kernel_rfl
theorem ol_eq (b : Nat → UInt8) (i : Nat) : ol b i = (b (4 * i)).toNat + 256 * (b (4 * i + 1)).toNat + 65536 * (b (4 * i + 2)).toNat + 16777216 * (b (4 * i + 3)).toNat ∧ ol b i < 4294967296 := by
  have h0 := UInt8.toNat_lt (b (4 * i))
  have h1 := UInt8.toNat_lt (b (4 * i + 1))
  have h2 := UInt8.toNat_lt (b (4 * i + 2))
  have h3 := UInt8.toNat_lt (b (4 * i + 3))
  unfold ol
  rw [(ls_eq (acc := 0) (k := 0) (by decide) h0 (by decide)).1, (ls_eq (k := 8) (by omega) h1 (by decide)).1, (ls_eq (k := 16) (by omega) h2 (by decide)).1, (ls_eq (k := 24) (by omega) h3 (by decide)).1]
  omega
theorem ol_val (s : ByteArray) (b : Nat → UInt8) (e : s = strB 32 b) : valU 8 0 (ol b) = leS s := by
  rw [e, leS, numsB_strB]
  have q := fun i => (ol_eq b i).1
  simp only [valU, q, Nat.zero_add, Nat.reduceAdd, Nat.reduceMul, show List.range 32 = [0, 1, 2, 3, 4, 5, 6, 7, 8, 9, 10, 11, 12, 13, 14, 15, 16, 17, 18, 19, 20, 21, 22, 23, 24, 25, 26, 27, 28, 29, 30, 31] from rfl, List.map_cons, List.map_nil, leN]
  omega
theorem spec99s (s : ByteArray) (h : s.size = 32) : Spec 91 [sS s] (.tup [N8 (leS s), .one (.i 0)]) := by
  have e := strB_of h
  generalize hb : (fun i => s.data.getD i 0) = b at e
  have h := spec_run envE0 rfl (run99a b) trivial rfl rfl
  refine h.congr (fun φ => by rw [e]) (fun φ => ?_)
  simp only [AV.conc, List.map_cons, List.map_nil]
  rw [conc_C8v φ (fun i _ => (ol_eq b i).2) (ol_val s b e)]
theorem spec102s (s : ByteArray) (h : s.size = 32) : Spec 53 [sS s] (.val (N8 (leS s))) := by
  have e := strB_of h
  generalize hb : (fun i => s.data.getD i 0) = b at e
  have h := spec_run envE0 rfl (run102a b) trivial rfl rfl
  refine h.congr (fun φ => by rw [e]) (fun φ => ?_)
  exact conc_C8v φ (fun i _ => (ol_eq b i).2) (ol_val s b e)
theorem limb_eqD (a : Nat) : ∀ i, limb a i = a / 4294967296 ^ i % 4294967296 := fun _ => rfl
theorem lb4 (x r : Nat) (h : r < 4) : x % 4294967296 / 2 ^ (8 * r) % 256 = x / 2 ^ (8 * r) % 256 := by
  match r, h with
  | 0, _ => simp only [Nat.reduceMul, Nat.reducePow]; omega
  | 1, _ => simp only [Nat.reduceMul, Nat.reducePow]; omega
  | 2, _ => simp only [Nat.reduceMul, Nat.reducePow]; omega
  | 3, _ => simp only [Nat.reduceMul, Nat.reducePow]; omega
theorem pow4 (j : Nat) : 256 ^ j = 4294967296 ^ (j / 4) * 2 ^ (8 * (j % 4)) := by
  have h1 : (4294967296 : Nat) ^ (j / 4) = 256 ^ (4 * (j / 4)) := by rw [Nat.pow_mul]
  have h2 : (2 : Nat) ^ (8 * (j % 4)) = 256 ^ (j % 4) := by rw [Nat.pow_mul]
  rw [h1, h2, ← Nat.pow_add, Nat.div_add_mod]
theorem lbt_eq (a j : Nat) : lbt (limb a) j = a / 256 ^ j % 256 := by
  unfold lbt
  rw [limb_eqD, lb4 _ _ (Nat.mod_lt _ (by decide)), pow4, ← Nat.div_div_eq_div_mul]
theorem lbt_leB (a : Nat) : (List.range 32).map (lbt (limb a)) = leB 32 a := by
  unfold leB
  exact List.map_congr_left fun j _ => lbt_eq a j
theorem spec98s (a : Nat) : Spec 108 [N8 a] (.val (sS (strOf (leB 32 a)))) := by
  have h := spec_run envE0 rfl (run98a (limb a)) trivial rfl rfl
  rw [lbt_leB] at h
  exact h.congr (fun φ => by simp only [List.map_cons, List.map_nil, conc_C8]) (fun φ => rfl)
end Go.Ev

