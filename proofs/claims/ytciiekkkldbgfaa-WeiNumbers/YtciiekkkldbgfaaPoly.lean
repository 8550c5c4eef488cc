/- Identities of polynomials, each by one great point -/
import Derived.KernelRfl
/- Polynomials in several variables: what is nothing at one great point is nothing everywhere. -/
namespace Go.NT

def PolyF : Nat → Type
  | 0 => Int
  | n + 1 => List (PolyF n)

def evH {α : Type} (f : α → Int) (t : Int) : List α → Int
  | [] => 0
  | a :: l => f a + t * evH f t l
def evP : (n : Nat) → PolyF n → (Nat → Int) → Int
  | 0, c, _ => c
  | n + 1, l, x => evH (fun a => evP n a x) (x n) l

def addL {α : Type} (f : α → α → α) : List α → List α → List α
  | [], m => m
  | a :: l, [] => a :: l
  | a :: l, b :: m => f a b :: addL f l m
def mapL {α : Type} (f : α → α) : List α → List α
  | [] => []
  | a :: l => f a :: mapL f l
def mulL {α : Type} (add : α → α → α) (zero : α) (mul : α → α → α) : List α → List α → List α
  | [], _ => []
  | a :: l, m => addL add (mapL (mul a) m) (zero :: mulL add zero mul l m)

def zeroP : (n : Nat) → PolyF n
  | 0 => (0 : Int)
  | _ + 1 => []
def addP : (n : Nat) → PolyF n → PolyF n → PolyF n
  | 0, a, b => (show Int from a) + (show Int from b)
  | n + 1, l, m => addL (addP n) l m
def negP : (n : Nat) → PolyF n → PolyF n
  | 0, a => - (show Int from a)
  | n + 1, l => mapL (negP n) l
def mulP : (n : Nat) → PolyF n → PolyF n → PolyF n
  | 0, a, b => (show Int from a) * (show Int from b)
  | n + 1, l, m => mulL (addP n) (zeroP n) (mulP n) l m
def cP : (n : Nat) → Int → PolyF n
  | 0, z => z
  | n + 1, z => [cP n z]
def vP : (n : Nat) → Nat → PolyF n
  | 0, _ => (0 : Int)
  | n + 1, i => if i = n then [zeroP n, cP n 1] else [vP n i]

theorem evH_add {α : Type} {f : α → Int} {g : α → α → α} (h : ∀ a b, f (g a b) = f a + f b) (t : Int) : ∀ l m : List α, evH f t (addL g l m) = evH f t l + evH f t m
  | [], m => by simp [addL, evH]
  | a :: l, [] => by simp [addL, evH]
  | a :: l, b :: m => by
    simp only [addL, evH, h, evH_add h t l m, Int.mul_add]
    omega
theorem evH_map {α : Type} {f : α → Int} {g : α → α} {c : Int} (h : ∀ a, f (g a) = c * f a) (t : Int) : ∀ l : List α, evH f t (mapL g l) = c * evH f t l
  | [] => by simp [mapL, evH]
  | a :: l => by
    simp only [mapL, evH, h, evH_map h t l, Int.mul_add]
    rw [← Int.mul_assoc, Int.mul_comm t c, Int.mul_assoc]
theorem evP_zero : ∀ (n : Nat) (x : Nat → Int), evP n (zeroP n) x = 0
  | 0, _ => rfl
  | _ + 1, _ => rfl
theorem evP_add : ∀ (n : Nat) (x : Nat → Int) (p q : PolyF n), evP n (addP n p q) x = evP n p x + evP n q x
  | 0, _, _, _ => rfl
  | n + 1, x, p, q => evH_add (fun a b => evP_add n x a b) (x n) p q
theorem evP_neg : ∀ (n : Nat) (x : Nat → Int) (p : PolyF n), evP n (negP n p) x = - evP n p x
  | 0, _, _ => rfl
  | n + 1, x, p => by
    have := evH_map (f := fun a => evP n a x) (g := negP n) (c := -1) (fun a => by rw [evP_neg n x a]; omega) (x n) p
    show evH _ _ (mapL _ p) = - evH _ _ p
    rw [this]; omega
theorem evH_mul {α : Type} {f : α → Int} {add mul : α → α → α} {zero : α} (ha : ∀ a b, f (add a b) = f a + f b) (h0 : f zero = 0) (hm : ∀ a b, f (mul a b) = f a * f b) (t : Int) :
    ∀ l m : List α, evH f t (mulL add zero mul l m) = evH f t l * evH f t m
  | [], m => by simp [mulL, evH]
  | a :: l, m => by
    simp only [mulL, evH_add ha, evH_map (fun b => hm a b), evH, h0, evH_mul ha h0 hm t l m, Int.add_mul, Int.zero_add, Int.mul_assoc]
theorem evP_mul : ∀ (n : Nat) (x : Nat → Int) (p q : PolyF n), evP n (mulP n p q) x = evP n p x * evP n q x
  | 0, _, _, _ => rfl
  | n + 1, x, p, q => evH_mul (fun a b => evP_add n x a b) (evP_zero n x) (fun a b => evP_mul n x a b) (x n) p q
theorem evP_c : ∀ (n : Nat) (x : Nat → Int) (z : Int), evP n (cP n z) x = z
  | 0, _, _ => rfl
  | n + 1, x, z => by
    show evP n (cP n z) x + x n * 0 = z
    rw [evP_c n x z]; omega
theorem evP_v : ∀ (n : Nat) (x : Nat → Int) (i : Nat), i < n → evP n (vP n i) x = x i
  | 0, _, _, h => absurd h (by omega)
  | n + 1, x, i, h => by
    show evH _ _ (if i = n then _ else _) = _
    split
    · rename_i hi
      subst hi
      simp only [evH, evP_zero, evP_c]; omega
    · rename_i hi
      simp only [evH, evP_v n x i (by omega)]; omega

/-! bounds: the sum of the coefficients' sizes, the lengths -/
def sumL {α : Type} (f : α → Nat) : List α → Nat
  | [] => 0
  | a :: l => f a + sumL f l
def nmP : (n : Nat) → PolyF n → Nat
  | 0, c => (show Int from c).natAbs
  | n + 1, l => sumL (nmP n) l
def dgP : (n : Nat) → PolyF n → (Nat → Nat) → Prop
  | 0, _, _ => True
  | n + 1, l, d => (show List (PolyF n) from l).length ≤ d n ∧ ∀ a ∈ (show List (PolyF n) from l), dgP n a d

theorem sumL_add {α : Type} {f : α → Nat} {g : α → α → α} (h : ∀ a b, f (g a b) ≤ f a + f b) : ∀ l m : List α, sumL f (addL g l m) ≤ sumL f l + sumL f m
  | [], m => by simp [addL, sumL]
  | a :: l, [] => by simp [addL, sumL]
  | a :: l, b :: m => by
    have := h a b
    have := sumL_add h l m
    simp only [addL, sumL]; omega
theorem sumL_map {α : Type} {f : α → Nat} {g : α → α} {c : Nat} (h : ∀ a, f (g a) ≤ c * f a) : ∀ l : List α, sumL f (mapL g l) ≤ c * sumL f l
  | [] => by simp [mapL, sumL]
  | a :: l => by
    have := h a
    have := sumL_map h l
    simp only [mapL, sumL, Nat.mul_add]; omega
theorem nmP_zero : ∀ n, nmP n (zeroP n) = 0
  | 0 => rfl
  | _ + 1 => rfl
theorem nmP_add : ∀ (n : Nat) (p q : PolyF n), nmP n (addP n p q) ≤ nmP n p + nmP n q
  | 0, a, b => Int.natAbs_add_le a b
  | n + 1, p, q => sumL_add (nmP_add n) p q
theorem nmP_neg : ∀ (n : Nat) (p : PolyF n), nmP n (negP n p) ≤ nmP n p
  | 0, a => Nat.le_of_eq (Int.natAbs_neg a)
  | n + 1, p => by
    have := sumL_map (f := nmP n) (g := negP n) (c := 1) (fun a => by rw [Nat.one_mul]; exact nmP_neg n a) p
    rw [Nat.one_mul] at this
    exact this
theorem sumL_mul {α : Type} {f : α → Nat} {add mul : α → α → α} {zero : α} (ha : ∀ a b, f (add a b) ≤ f a + f b) (h0 : f zero = 0) (hm : ∀ a b, f (mul a b) ≤ f a * f b) :
    ∀ l m : List α, sumL f (mulL add zero mul l m) ≤ sumL f l * sumL f m
  | [], m => by simp [mulL, sumL]
  | a :: l, m => by
    have h1 := sumL_add ha (mapL (mul a) m) (zero :: mulL add zero mul l m)
    have h2 := sumL_map (fun b => hm a b) m
    have h3 := sumL_mul ha h0 hm l m
    simp only [mulL, sumL, h0, Nat.add_mul] at *
    omega
theorem nmP_mul : ∀ (n : Nat) (p q : PolyF n), nmP n (mulP n p q) ≤ nmP n p * nmP n q
  | 0, a, b => Nat.le_of_eq (Int.natAbs_mul a b)
  | n + 1, p, q => sumL_mul (nmP_add n) (nmP_zero n) (nmP_mul n) p q
theorem nmP_c : ∀ (n : Nat) (z : Int), nmP n (cP n z) = z.natAbs
  | 0, _ => rfl
  | n + 1, z => by show nmP n (cP n z) + 0 = _; rw [nmP_c n z, Nat.add_zero]
theorem nmP_v : ∀ (n : Nat) (i : Nat), nmP n (vP n i) ≤ 1
  | 0, _ => Nat.zero_le _
  | n + 1, i => by
    show sumL _ (if i = n then _ else _) ≤ 1
    split
    · simp [sumL, nmP_zero, nmP_c]
    · have := nmP_v n i
      simp only [sumL]; omega

theorem addL_len {α : Type} (g : α → α → α) : ∀ l m : List α, (addL g l m).length ≤ max l.length m.length
  | [], m => by simp [addL]
  | a :: l, [] => by simp [addL]
  | a :: l, b :: m => by
    have := addL_len g l m
    simp only [addL, List.length_cons]; omega
theorem mapL_len {α : Type} (g : α → α) : ∀ l : List α, (mapL g l).length = l.length
  | [] => rfl
  | a :: l => by simp [mapL, mapL_len g l]
theorem mulL_len {α : Type} (add mul : α → α → α) (zero : α) : ∀ l m : List α, (mulL add zero mul l m).length ≤ l.length + m.length
  | [], m => by simp [mulL]
  | a :: l, m => by
    have h1 := mulL_len add mul zero l m
    have h2 := addL_len add (mapL (mul a) m) (zero :: mulL add zero mul l m)
    rw [mapL_len] at h2
    simp only [mulL, List.length_cons] at *; omega
theorem addL_all {α : Type} {P Q R : α → Prop} {g : α → α → α} (hP : ∀ a, P a → R a) (hQ : ∀ a, Q a → R a) (h : ∀ a b, P a → Q b → R (g a b)) : ∀ l m : List α, (∀ a ∈ l, P a) → (∀ a ∈ m, Q a) → ∀ a ∈ addL g l m, R a
  | [], m, _, h2, a, ha => hQ a (h2 a ha)
  | a :: l, [], h1, _, b, hb => hP b (h1 b hb)
  | a :: l, b :: m, h1, h2, c, hc => by
    simp only [addL, List.mem_cons] at hc
    rcases hc with rfl | hc
    · exact h a b (h1 a (by simp)) (h2 b (by simp))
    · exact addL_all hP hQ h l m (fun a ha => h1 a (by simp [ha])) (fun a ha => h2 a (by simp [ha])) c hc
theorem mapL_all {α : Type} {P Q : α → Prop} {g : α → α} (h : ∀ a, P a → Q (g a)) : ∀ l : List α, (∀ a ∈ l, P a) → ∀ a ∈ mapL g l, Q a
  | [], _, a, ha => by simp [mapL] at ha
  | a :: l, h1, b, hb => by
    simp only [mapL, List.mem_cons] at hb
    rcases hb with rfl | hb
    · exact h a (h1 a (by simp))
    · exact mapL_all h l (fun a ha => h1 a (by simp [ha])) b hb
theorem dgP_mono : ∀ (n : Nat) (p : PolyF n) {d e : Nat → Nat}, (∀ i, d i ≤ e i) → dgP n p d → dgP n p e
  | 0, _, _, _, _, _ => trivial
  | n + 1, _, _, _, h, hp => ⟨Nat.le_trans hp.1 (h n), fun a ha => dgP_mono n a h (hp.2 a ha)⟩
theorem dgP_zero : ∀ n d, dgP n (zeroP n) d
  | 0, _ => trivial
  | n + 1, d => ⟨Nat.zero_le _, fun a ha => by simp [zeroP] at ha⟩
theorem dgP_add : ∀ (n : Nat) (p q : PolyF n) {d e : Nat → Nat}, dgP n p d → dgP n q e → dgP n (addP n p q) (fun i => max (d i) (e i))
  | 0, _, _, _, _, _, _ => trivial
  | n + 1, p, q, d, e, hp, hq => by
    refine ⟨?_, ?_⟩
    · have := addL_len (addP n) p q
      have h1 := hp.1
      have h2 := hq.1
      show (addL (addP n) p q).length ≤ _
      simp only at *
      omega
    · exact addL_all (P := fun a => dgP n a d) (Q := fun a => dgP n a e) (fun a ha => dgP_mono n a (fun i => Nat.le_max_left _ _) ha) (fun a ha => dgP_mono n a (fun i => Nat.le_max_right _ _) ha)
        (fun a b ha hb => dgP_add n a b ha hb) p q hp.2 hq.2
theorem dgP_neg : ∀ (n : Nat) (p : PolyF n) {d : Nat → Nat}, dgP n p d → dgP n (negP n p) d
  | 0, _, _, _ => trivial
  | n + 1, p, d, hp => by
    refine ⟨?_, ?_⟩
    · exact Nat.le_trans (Nat.le_of_eq (mapL_len (negP n) p)) hp.1
    · exact mapL_all (P := fun a => dgP n a d) (fun a ha => dgP_neg n a ha) p hp.2
theorem dgP_mul : ∀ (n : Nat) (p q : PolyF n) {d e : Nat → Nat}, dgP n p d → dgP n q e → dgP n (mulP n p q) (fun i => d i + e i)
  | 0, _, _, _, _, _, _ => trivial
  | n + 1, p, q, d, e, hp, hq => by
    refine ⟨?_, ?_⟩
    · have := mulL_len (addP n) (mulP n) (zeroP n) p q
      have h1 := hp.1
      have h2 := hq.1
      show (mulL (addP n) (zeroP n) (mulP n) p q).length ≤ _
      simp only at *
      omega
    · have key : ∀ l : List (PolyF n), (∀ a ∈ l, dgP n a d) → ∀ a ∈ mulL (addP n) (zeroP n) (mulP n) l q, dgP n a (fun i => d i + e i) := by
        intro l
        induction l with
        | nil => intro _ a ha; simp [mulL] at ha
        | cons b l ih =>
          intro h1
          refine addL_all (P := fun a => dgP n a (fun i => d i + e i)) (Q := fun a => dgP n a (fun i => d i + e i)) (fun _ h => h) (fun _ h => h) ?_ _ _ ?_ ?_
          · intro a b ha hb
            exact dgP_mono n _ (fun i => Nat.le_of_eq (Nat.max_self _)) (dgP_add n a b ha hb)
          · exact mapL_all (P := fun a => dgP n a e) (fun a ha => dgP_mul n b a (h1 b (by simp)) ha) q hq.2
          · intro a ha
            simp only [List.mem_cons] at ha
            rcases ha with rfl | ha
            · exact dgP_zero n _
            · exact ih (fun a ha => h1 a (by simp [ha])) a ha
      exact key p hp.2
theorem dgP_c : ∀ (n : Nat) (z : Int), dgP n (cP n z) (fun _ => 1)
  | 0, _ => trivial
  | n + 1, z => ⟨Nat.le_refl 1, fun a ha => by
    simp only [cP, List.mem_singleton] at ha
    subst ha; exact dgP_c n z⟩
theorem dgP_v : ∀ (n : Nat) (i : Nat), dgP n (vP n i) (fun j => if j = i then 2 else 1)
  | 0, _ => trivial
  | n + 1, i => by
    by_cases h : i = n
    · have e : vP (n + 1) i = [zeroP n, cP n 1] := if_pos h
      rw [e]
      refine ⟨by show 2 ≤ (if n = i then 2 else 1); rw [if_pos h.symm]; exact Nat.le_refl 2, fun a ha => ?_⟩
      replace ha : a = zeroP n ∨ a = cP n 1 := by simpa using ha
      rcases ha with rfl | rfl
      · exact dgP_zero _ _
      · exact dgP_mono _ _ (fun j => by split <;> omega) (dgP_c n 1)
    · have e : vP (n + 1) i = [vP n i] := if_neg h
      rw [e]
      refine ⟨by show 1 ≤ (if n = i then 2 else 1); split <;> omega, fun a ha => ?_⟩
      replace ha : a = vP n i := by simpa using ha
      subst ha; exact dgP_v n i

/-- the product of the great numbers' powers. -/
def bigP (W : Nat → Nat) (d : Nat → Nat) : Nat → Nat
  | 0 => 1
  | n + 1 => bigP W d n * W n ^ d n
theorem evH_le {α : Type} {f : α → Int} {g : α → Nat} {W B : Nat} (hW : 1 ≤ W) : ∀ (l : List α) (k : Nat), l.length ≤ k → (∀ a ∈ l, (f a).natAbs ≤ g a * B) → (evH f W l).natAbs ≤ sumL g l * (B * W ^ k)
  | [], k, _, _ => by simp [evH]
  | a :: l, 0, h, _ => by simp at h
  | a :: l, k + 1, h, hf => by
    have ih := evH_le hW l k (by simpa using h) (fun b hb => hf b (by simp [hb]))
    have h0 := hf a (by simp)
    have h1 := Int.natAbs_add_le (f a) ((W : Int) * evH f W l)
    rw [Int.natAbs_mul, Int.natAbs_natCast] at h1
    have h2 : W * (evH f W l).natAbs ≤ W * (sumL g l * (B * W ^ k)) := Nat.mul_le_mul_left _ ih
    have h3 : g a * B ≤ g a * (B * W ^ (k + 1)) := Nat.mul_le_mul_left _ (Nat.le_mul_of_pos_right _ (Nat.pow_pos hW))
    have h4 : W * (sumL g l * (B * W ^ k)) = sumL g l * (B * W ^ (k + 1)) := by
      rw [Nat.pow_succ, ← Nat.mul_assoc B, Nat.mul_comm W, Nat.mul_assoc]
    simp only [evH, sumL, Nat.add_mul]
    omega
theorem evP_le {W : Nat → Nat} (hW : ∀ i, 1 ≤ W i) : ∀ (n : Nat) (p : PolyF n) {d : Nat → Nat}, dgP n p d → (evP n p (fun i => (W i : Int))).natAbs ≤ nmP n p * bigP W d n
  | 0, p, d, _ => by simp [evP, nmP, bigP]
  | n + 1, p, d, h => evH_le (hW n) p (d n) h.1 (fun a ha => evP_le hW n a (h.2 a ha))
/-- what is nothing at one great point is nothing. -/
theorem evP_point {W : Nat → Nat} (hW : ∀ i, 1 ≤ W i) : ∀ (n : Nat) (p : PolyF n) {d : Nat → Nat} {N : Nat}, dgP n p d → nmP n p ≤ N → (∀ i, i < n → N * bigP W d i < W i) → evP n p (fun i => (W i : Int)) = 0 → ∀ x, evP n p x = 0
  | 0, p, _, _, _, _, _, h, x => h
  | n + 1, p, d, N, hd, hN, hb, h, x => by
    have key : ∀ l : List (PolyF n), (∀ a ∈ l, dgP n a d) → sumL (nmP n) l ≤ N → evH (fun a => evP n a (fun i => (W i : Int))) (W n : Int) l = 0 → evH (fun a => evP n a x) (x n) l = 0 := by
      intro l
      induction l with
      | nil => intro _ _ _; rfl
      | cons a l ih =>
        intro h1 h2 h3
        simp only [sumL] at h2
        simp only [evH] at h3 ⊢
        have hle := evP_le hW n a (h1 a (by simp))
        have hlt : (evP n a (fun i => (W i : Int))).natAbs < W n := by
          refine Nat.lt_of_le_of_lt (Nat.le_trans hle (Nat.mul_le_mul_right _ ?_)) (hb n (by omega))
          omega
        generalize hc : evP n a (fun i => (W i : Int)) = c at *
        generalize he : evH (fun a => evP n a (fun i => (W i : Int))) (W n : Int) l = r at *
        have hc0 : c = 0 := by
          have hdv : (W n : Int) ∣ c := ⟨-r, by rw [Int.mul_neg]; omega⟩
          have := Int.natAbs_dvd_natAbs.2 hdv
          rw [Int.natAbs_natCast] at this
          rcases Nat.eq_zero_or_pos c.natAbs with h0 | h0
          · exact Int.natAbs_eq_zero.1 h0
          · exact absurd (Nat.le_of_dvd h0 this) (by omega)
        subst hc0
        have hr0 : r = 0 := by
          have hWn := hW n
          rcases Int.mul_eq_zero.1 (show (W n : Int) * r = 0 by omega) with h0 | h0
          · omega
          · exact h0
        rw [ih (fun b hb => h1 b (by simp [hb])) (by omega) (by first | exact hr0 | exact he.trans hr0), evP_point hW n a (h1 a (by simp)) (show nmP n a ≤ N by omega) (fun i hi => hb i (by omega)) hc x]
        omega
    exact key p hd.2 hN h
end Go.NT

/- Programs of sums and products, run over whatever ring: what is nothing at one great point, modulo three equations, is nothing. -/
namespace Go.NT

structure Ops (α : Type) where
  add : α → α → α
  sub : α → α → α
  mul : α → α → α
  c : Int → α
structure OpsRel {α β : Type} (R : α → β → Prop) (o : Ops α) (o' : Ops β) : Prop where
  add : ∀ a b a' b', R a a' → R b b' → R (o.add a b) (o'.add a' b')
  sub : ∀ a b a' b', R a a' → R b b' → R (o.sub a b) (o'.sub a' b')
  mul : ∀ a b a' b', R a a' → R b b' → R (o.mul a b) (o'.mul a' b')
  c : ∀ z, R (o.c z) (o'.c z)
def opsInt : Ops Int := ⟨fun a b => a + b, fun a b => a - b, fun a b => a * b, fun z => z⟩
/-- with a root of f more. -/
def opsQ {α : Type} (o : Ops α) (f : α) : Ops (α × α) :=
  ⟨fun a b => (o.add a.1 b.1, o.add a.2 b.2), fun a b => (o.sub a.1 b.1, o.sub a.2 b.2),
   fun a b => (o.add (o.mul a.1 b.1) (o.mul f (o.mul a.2 b.2)), o.add (o.mul a.1 b.2) (o.mul a.2 b.1)), fun z => (o.c z, o.c 0)⟩
def pairR {α β : Type} (R : α → β → Prop) (a : α × α) (b : β × β) : Prop := R a.1 b.1 ∧ R a.2 b.2
theorem relPair {α β : Type} {R : α → β → Prop} {o : Ops α} {o' : Ops β} (h : OpsRel R o o') {f : α} {f' : β} (hf : R f f') : OpsRel (pairR R) (opsQ o f) (opsQ o' f') :=
  ⟨fun _ _ _ _ h1 h2 => ⟨h.add _ _ _ _ h1.1 h2.1, h.add _ _ _ _ h1.2 h2.2⟩, fun _ _ _ _ h1 h2 => ⟨h.sub _ _ _ _ h1.1 h2.1, h.sub _ _ _ _ h1.2 h2.2⟩,
   fun _ _ _ _ h1 h2 => ⟨h.add _ _ _ _ (h.mul _ _ _ _ h1.1 h2.1) (h.mul _ _ _ _ hf (h.mul _ _ _ _ h1.2 h2.2)), h.add _ _ _ _ (h.mul _ _ _ _ h1.1 h2.2) (h.mul _ _ _ _ h1.2 h2.1)⟩,
   fun z => ⟨h.c z, h.c 0⟩⟩

/-! the same but for multiples of m -/
def Cg' (m : Nat) (a b : Int) : Prop := (m : Int) ∣ a - b
def rootR {α : Type} (m : Nat) (R : α → Int → Prop) (y : Int) (a : α × α) (z : Int) : Prop := ∃ u v, R a.1 u ∧ R a.2 v ∧ Cg' m z (u + y * v)
theorem relRoot {α : Type} {m : Nat} {R : α → Int → Prop} {o : Ops α} (h : OpsRel R o opsInt) {f : α} {F y : Int} (hf : R f F) (hy : Cg' m (y * y) F) : OpsRel (rootR m R y) (opsQ o f) opsInt := by
  refine ⟨?_, ?_, ?_, ?_⟩
  · rintro a b a' b' ⟨u, v, h1, h2, h3⟩ ⟨u', v', g1, g2, g3⟩
    refine ⟨_, _, h.add _ _ _ _ h1 g1, h.add _ _ _ _ h2 g2, ?_⟩
    obtain ⟨k, hk⟩ := h3
    obtain ⟨l, hl⟩ := g3
    exact ⟨k + l, by simp only [opsInt]; grind⟩
  · rintro a b a' b' ⟨u, v, h1, h2, h3⟩ ⟨u', v', g1, g2, g3⟩
    refine ⟨_, _, h.sub _ _ _ _ h1 g1, h.sub _ _ _ _ h2 g2, ?_⟩
    obtain ⟨k, hk⟩ := h3
    obtain ⟨l, hl⟩ := g3
    exact ⟨k - l, by simp only [opsInt]; grind⟩
  · rintro a b a' b' ⟨u, v, h1, h2, h3⟩ ⟨u', v', g1, g2, g3⟩
    refine ⟨_, _, h.add _ _ _ _ (h.mul _ _ _ _ h1 g1) (h.mul _ _ _ _ hf (h.mul _ _ _ _ h2 g2)), h.add _ _ _ _ (h.mul _ _ _ _ h1 g2) (h.mul _ _ _ _ h2 g1), ?_⟩
    obtain ⟨k, hk⟩ := h3
    obtain ⟨l, hl⟩ := g3
    obtain ⟨r, hr⟩ := hy
    refine ⟨k * b' + l * (u + y * v) + r * v * v', ?_⟩
    simp only [opsInt]
    have e1 : a' = m * k + (u + y * v) := by omega
    have e2 : b' = m * l + (u' + y * v') := by omega
    have e3 : y * y = m * r + F := by omega
    subst e1
    generalize (m : Int) = M at *
    subst e2
    grind
  · intro z
    exact ⟨_, _, h.c z, h.c 0, ⟨0, by simp only [opsInt]; grind⟩⟩

/-! polynomials -/
def addO (p q : Option (PolyF 4)) : Option (PolyF 4) := match p, q with
  | none, q => q
  | some p, none => some p
  | some p, some q => some (addP 4 p q)
def negO (p : Option (PolyF 4)) : Option (PolyF 4) := match p with
  | none => none
  | some p => some (negP 4 p)
def mulO (p q : Option (PolyF 4)) : Option (PolyF 4) := match p, q with
  | some p, some q => some (mulP 4 p q)
  | _, _ => none
def cO (z : Int) : Option (PolyF 4) := if z = 0 then none else some (cP 4 z)
def opsP : Ops (Option (PolyF 4)) := ⟨addO, fun p q => addO p (negO q), mulO, cO⟩
def evO (x : Nat → Int) (p : Option (PolyF 4)) : Int := match p with
  | none => 0
  | some p => evP 4 p x
def evR (x : Nat → Int) (p : Option (PolyF 4)) (z : Int) : Prop := evO x p = z
theorem evO_add (x : Nat → Int) (p q : Option (PolyF 4)) : evO x (addO p q) = evO x p + evO x q := by
  cases p <;> cases q <;> simp [addO, evO, evP_add]
theorem evO_neg (x : Nat → Int) (p : Option (PolyF 4)) : evO x (negO p) = - evO x p := by
  cases p <;> simp [negO, evO, evP_neg]
theorem relEv (x : Nat → Int) : OpsRel (evR x) opsP opsInt := by
  refine ⟨?_, ?_, ?_, ?_⟩
  · rintro a b _ _ rfl rfl; exact evO_add x a b
  · rintro a b _ _ rfl rfl
    show evO x (addO a (negO b)) = evO x a - evO x b
    rw [evO_add, evO_neg]; omega
  · rintro a b _ _ rfl rfl
    show evO x (mulO a b) = evO x a * evO x b
    cases a <;> cases b <;> simp [mulO, evO, evP_mul]
  · intro z
    show evO x (cO z) = z
    unfold cO
    split
    · rename_i h; subst h; rfl
    · exact evP_c 4 x z

/-! bounds -/
structure Bd where
  n : Nat
  d0 : Nat
  d1 : Nat
  d2 : Nat
  d3 : Nat
def Bd.d (b : Bd) (i : Nat) : Nat := match i with | 0 => b.d0 | 1 => b.d1 | 2 => b.d2 | _ => b.d3
def addB (p q : Option Bd) : Option Bd := match p, q with
  | none, q => q
  | some p, none => some p
  | some p, some q => some ⟨p.n + q.n, max p.d0 q.d0, max p.d1 q.d1, max p.d2 q.d2, max p.d3 q.d3⟩
def mulB (p q : Option Bd) : Option Bd := match p, q with
  | some p, some q => some ⟨p.n * q.n, p.d0 + q.d0, p.d1 + q.d1, p.d2 + q.d2, p.d3 + q.d3⟩
  | _, _ => none
def cB (z : Int) : Option Bd := if z = 0 then none else some ⟨z.natAbs, 0, 0, 0, 0⟩
def opsB : Ops (Option Bd) := ⟨addB, addB, mulB, cB⟩
def bdR (p : Option (PolyF 4)) (b : Option Bd) : Prop := match p, b with
  | none, _ => True
  | some p, some b => nmP 4 p ≤ b.n ∧ dgP 4 p (fun i => b.d i + 1)
  | some _, none => False
/-- a product's length, a little better. -/
theorem mulL_len2 {α : Type} (add mul : α → α → α) (zero : α) : ∀ (l m : List α) {d e : Nat}, l.length ≤ d + 1 → m.length ≤ e + 1 → (mulL add zero mul l m).length ≤ d + e + 1
  | [], m, d, e, _, _ => by simp [mulL]
  | a :: l, m, d, e, h1, h2 => by
    have h3 := addL_len add (mapL (mul a) m) (zero :: mulL add zero mul l m)
    rw [mapL_len] at h3
    cases d with
    | zero =>
      have hl : l = [] := by
        cases l with
        | nil => rfl
        | cons b l => simp at h1
      subst hl
      simp only [mulL, List.length_cons, List.length_nil] at *
      omega
    | succ d =>
      have h4 := mulL_len2 add mul zero l m (d := d) (e := e) (by simpa using h1) h2
      simp only [mulL, List.length_cons] at *
      omega
theorem dgP_mul2 : ∀ (n : Nat) (p q : PolyF n) {d e : Nat → Nat}, dgP n p (fun i => d i + 1) → dgP n q (fun i => e i + 1) → dgP n (mulP n p q) (fun i => d i + e i + 1)
  | 0, _, _, _, _, _, _ => trivial
  | n + 1, p, q, d, e, hp, hq => by
    refine ⟨mulL_len2 (addP n) (mulP n) (zeroP n) p q hp.1 hq.1, ?_⟩
    have key : ∀ l : List (PolyF n), (∀ a ∈ l, dgP n a (fun i => d i + 1)) → ∀ a ∈ mulL (addP n) (zeroP n) (mulP n) l q, dgP n a (fun i => d i + e i + 1) := by
      intro l
      induction l with
      | nil => intro _ a ha; simp [mulL] at ha
      | cons b l ih =>
        intro h1
        refine addL_all (P := fun a => dgP n a (fun i => d i + e i + 1)) (Q := fun a => dgP n a (fun i => d i + e i + 1)) (fun _ h => h) (fun _ h => h) ?_ _ _ ?_ ?_
        · intro a b ha hb
          exact dgP_mono n _ (fun i => Nat.le_of_eq (Nat.max_self _)) (dgP_add n a b ha hb)
        · exact mapL_all (P := fun a => dgP n a (fun i => e i + 1)) (fun a ha => dgP_mul2 n b a (h1 b (by simp)) ha) q hq.2
        · intro a ha
          simp only [List.mem_cons] at ha
          rcases ha with rfl | ha
          · exact dgP_zero n _
          · exact ih (fun a ha => h1 a (by simp [ha])) a ha
    exact key p hp.2
theorem bd_add {p q : Option (PolyF 4)} {b c : Option Bd} (h1 : bdR p b) (h2 : bdR q c) : bdR (addO p q) (addB b c) := by
  cases p with
  | none =>
    cases q with
    | none => trivial
    | some q =>
      cases c with
      | none => exact h2.elim
      | some c =>
        cases b with
        | none => exact h2
        | some b => exact ⟨Nat.le_trans h2.1 (Nat.le_add_left _ _), dgP_mono 4 q (fun i => by
            unfold Bd.d; split <;> simp only <;> omega) h2.2⟩
  | some p =>
    cases b with
    | none => exact h1.elim
    | some b =>
      cases q with
      | none =>
        cases c with
        | none => exact h1
        | some c => exact ⟨Nat.le_trans h1.1 (Nat.le_add_right _ _), dgP_mono 4 p (fun i => by
            unfold Bd.d; split <;> simp only <;> omega) h1.2⟩
      | some q =>
        cases c with
        | none => exact h2.elim
        | some c =>
          refine ⟨Nat.le_trans (nmP_add 4 p q) (Nat.add_le_add h1.1 h2.1), dgP_mono 4 _ (fun i => ?_) (dgP_add 4 p q h1.2 h2.2)⟩
          unfold Bd.d; split <;> simp only <;> omega
theorem bd_neg {p : Option (PolyF 4)} {b : Option Bd} (h : bdR p b) : bdR (negO p) b := by
  cases p with
  | none => trivial
  | some p =>
    cases b with
    | none => exact h.elim
    | some b => exact ⟨Nat.le_trans (nmP_neg 4 p) h.1, dgP_neg 4 p h.2⟩
theorem relBd : OpsRel bdR opsP opsB := by
  refine ⟨fun _ _ _ _ h1 h2 => bd_add h1 h2, fun _ _ _ _ h1 h2 => bd_add h1 (bd_neg h2), ?_, ?_⟩
  · intro p q b c h1 h2
    cases p with
    | none => trivial
    | some p =>
      cases q with
      | none => trivial
      | some q =>
        cases b with
        | none => exact h1.elim
        | some b =>
          cases c with
          | none => exact h2.elim
          | some c =>
            refine ⟨Nat.le_trans (nmP_mul 4 p q) (Nat.mul_le_mul h1.1 h2.1), dgP_mono 4 _ (fun i => ?_) (dgP_mul2 4 p q (d := b.d) (e := c.d) h1.2 h2.2)⟩
            unfold Bd.d; split <;> simp only <;> omega
  · intro z
    show bdR (cO z) (cB z)
    unfold cO cB
    split
    · trivial
    · refine ⟨Nat.le_of_eq (nmP_c 4 z), dgP_mono 4 _ (fun i => ?_) (dgP_c 4 z)⟩
      unfold Bd.d; split <;> simp
end Go.NT

namespace Go.NT

/-! straight programs -/
inductive SOp where
  | add (i j : Nat)
  | sub (i j : Nat)
  | mul (i j : Nat)
  | c (z : Int)
def getL {α : Type} (o : Ops α) : List α → Nat → α
  | [], _ => o.c 0
  | a :: _, 0 => a
  | _ :: l, i + 1 => getL o l i
def stepL {α : Type} (o : Ops α) (l : List α) : SOp → α
  | .add i j => o.add (getL o l i) (getL o l j)
  | .sub i j => o.sub (getL o l i) (getL o l j)
  | .mul i j => o.mul (getL o l i) (getL o l j)
  | .c z => o.c z
def runL {α : Type} (o : Ops α) : List SOp → List α → List α
  | [], l => l
  | p :: ps, l => runL o ps (stepL o l p :: l)
def relL {α β : Type} (R : α → β → Prop) : List α → List β → Prop
  | [], [] => True
  | a :: l, b :: m => R a b ∧ relL R l m
  | _, _ => False
section
variable {α β : Type} {R : α → β → Prop} {o : Ops α} {o' : Ops β} (h : OpsRel R o o')
include h
theorem get_rel : ∀ (l : List α) (m : List β) (i : Nat), relL R l m → R (getL o l i) (getL o' m i)
  | [], [], _, _ => h.c 0
  | [], _ :: _, _, hr => hr.elim
  | _ :: _, [], _, hr => hr.elim
  | _ :: _, _ :: _, 0, hr => hr.1
  | _ :: l, _ :: m, i + 1, hr => get_rel l m i hr.2
theorem step_rel {l : List α} {m : List β} (hr : relL R l m) (p : SOp) : R (stepL o l p) (stepL o' m p) := by
  cases p with
  | add i j => exact h.add _ _ _ _ (get_rel h l m i hr) (get_rel h l m j hr)
  | sub i j => exact h.sub _ _ _ _ (get_rel h l m i hr) (get_rel h l m j hr)
  | mul i j => exact h.mul _ _ _ _ (get_rel h l m i hr) (get_rel h l m j hr)
  | c z => exact h.c z
theorem run_rel : ∀ (ps : List SOp) {l : List α} {m : List β}, relL R l m → relL R (runL o ps l) (runL o' ps m)
  | [], _, _, hr => hr
  | p :: ps, _, _, hr => run_rel ps ⟨step_rel h hr p, hr⟩
theorem head_rel (ps : List SOp) {l : List α} {m : List β} (hr : relL R l m) (i : Nat) : R (getL o (runL o ps l) i) (getL o' (runL o' ps m) i) := get_rel h _ _ i (run_rel h ps hr)
end

/-! three roots -/
def cub {α : Type} (o : Ops α) (x b : α) : α := o.add (o.sub (o.mul (o.mul x x) x) (o.mul (o.c 3) x)) b
def lft {α : Type} (o : Ops α) (a : α) : α × α := (a, o.c 0)
def gen {α : Type} (o : Ops α) : α × α := (o.c 0, o.c 1)
abbrev T2 (α : Type) := (α × α) × (α × α)
abbrev T3 (α : Type) := T2 α × T2 α
structure V4 (α : Type) where
  x1 : α
  x2 : α
  x3 : α
  b : α
def o1 {α : Type} (o : Ops α) (v : V4 α) : Ops (α × α) := opsQ o (cub o v.x1 v.b)
def o2 {α : Type} (o : Ops α) (v : V4 α) : Ops (T2 α) := opsQ (o1 o v) (cub (o1 o v) (lft o v.x2) (lft o v.b))
def o3 {α : Type} (o : Ops α) (v : V4 α) : Ops (T3 α) := opsQ (o2 o v) (cub (o2 o v) (lft (o1 o v) (lft o v.x3)) (lft (o1 o v) (lft o v.b)))
def ins {α : Type} (o : Ops α) (v : V4 α) : List (T3 α) :=
  let L : α → T3 α := fun a => lft (o2 o v) (lft (o1 o v) (lft o a))
  [L v.x1, lft (o2 o v) (lft (o1 o v) (gen o)), L v.x2, lft (o2 o v) (gen (o1 o v)), L v.x3, gen (o2 o v), L v.b]
section
variable {α β : Type} {R : α → β → Prop} {o : Ops α} {o' : Ops β} (h : OpsRel R o o')
include h
theorem cub_rel {x b : α} {x' b' : β} (hx : R x x') (hb : R b b') : R (cub o x b) (cub o' x' b') :=
  h.add _ _ _ _ (h.sub _ _ _ _ (h.mul _ _ _ _ (h.mul _ _ _ _ hx hx) hx) (h.mul _ _ _ _ (h.c 3) hx)) hb
theorem lft_rel {a : α} {a' : β} (ha : R a a') : pairR R (lft o a) (lft o' a') := ⟨ha, h.c 0⟩
theorem gen_rel : pairR R (gen o) (gen o') := ⟨h.c 0, h.c 1⟩
variable {v : V4 α} {v' : V4 β} (h1 : R v.x1 v'.x1) (h2 : R v.x2 v'.x2) (h3 : R v.x3 v'.x3) (hb : R v.b v'.b)
include h1 hb
theorem o1_rel : OpsRel (pairR R) (o1 o v) (o1 o' v') := relPair h (cub_rel h h1 hb)
include h2
theorem o2_rel : OpsRel (pairR (pairR R)) (o2 o v) (o2 o' v') := relPair (o1_rel h h1 hb) (cub_rel (o1_rel h h1 hb) (lft_rel h h2) (lft_rel h hb))
include h3
theorem o3_rel : OpsRel (pairR (pairR (pairR R))) (o3 o v) (o3 o' v') :=
  relPair (o2_rel h h1 h2 hb) (cub_rel (o2_rel h h1 h2 hb) (lft_rel (o1_rel h h1 hb) (lft_rel h h3)) (lft_rel (o1_rel h h1 hb) (lft_rel h hb)))
theorem ins_rel : relL (pairR (pairR (pairR R))) (ins o v) (ins o' v') := by
  have k1 := o1_rel h h1 hb
  have k2 := o2_rel h h1 h2 hb
  have L : ∀ {a a'}, R a a' → pairR (pairR (pairR R)) (lft (o2 o v) (lft (o1 o v) (lft o a))) (lft (o2 o' v') (lft (o1 o' v') (lft o' a'))) := fun ha => lft_rel k2 (lft_rel k1 (lft_rel h ha))
  exact ⟨L h1, lft_rel k2 (lft_rel k1 (gen_rel h)), L h2, lft_rel k2 (gen_rel k1), L h3, gen_rel k2, L hb, trivial⟩
end
def all8 {α : Type} (P : α → Prop) (t : T3 α) : Prop := ((P t.1.1.1 ∧ P t.1.1.2) ∧ (P t.1.2.1 ∧ P t.1.2.2)) ∧ ((P t.2.1.1 ∧ P t.2.1.2) ∧ (P t.2.2.1 ∧ P t.2.2.2))
def all8b {α : Type} (P : α → Bool) (t : T3 α) : Bool := ((P t.1.1.1 && P t.1.1.2) && (P t.1.2.1 && P t.1.2.2)) && ((P t.2.1.1 && P t.2.1.2) && (P t.2.2.1 && P t.2.2.2))
theorem all8b_iff {α : Type} {P : α → Bool} {t : T3 α} : all8b P t = true ↔ all8 (fun a => P a = true) t := by
  simp only [all8b, all8, Bool.and_eq_true]
theorem all8_map {α β : Type} {R : α → β → Prop} {P : α → Prop} {Q : β → Prop} (h : ∀ a b, R a b → P a → Q b) {t : T3 α} {u : T3 β} (hr : pairR (pairR (pairR R)) t u) (ht : all8 P t) : all8 Q u := by
  obtain ⟨⟨⟨r1, r2⟩, ⟨r3, r4⟩⟩, ⟨⟨r5, r6⟩, ⟨r7, r8⟩⟩⟩ := hr
  obtain ⟨⟨⟨p1, p2⟩, ⟨p3, p4⟩⟩, ⟨⟨p5, p6⟩, ⟨p7, p8⟩⟩⟩ := ht
  exact ⟨⟨⟨h _ _ r1 p1, h _ _ r2 p2⟩, ⟨h _ _ r3 p3, h _ _ r4 p4⟩⟩, ⟨⟨h _ _ r5 p5, h _ _ r6 p6⟩, ⟨h _ _ r7 p7, h _ _ r8 p8⟩⟩⟩
theorem all8_map' {α β : Type} {R : α → β → Prop} {P : α → Prop} {Q : β → Prop} (h : ∀ a b, R a b → Q b → P a) {t : T3 α} {u : T3 β} (hr : pairR (pairR (pairR R)) t u) (hu : all8 Q u) : all8 P t := by
  obtain ⟨⟨⟨r1, r2⟩, ⟨r3, r4⟩⟩, ⟨⟨r5, r6⟩, ⟨r7, r8⟩⟩⟩ := hr
  obtain ⟨⟨⟨p1, p2⟩, ⟨p3, p4⟩⟩, ⟨⟨p5, p6⟩, ⟨p7, p8⟩⟩⟩ := hu
  exact ⟨⟨⟨h _ _ r1 p1, h _ _ r2 p2⟩, ⟨h _ _ r3 p3, h _ _ r4 p4⟩⟩, ⟨⟨h _ _ r5 p5, h _ _ r6 p6⟩, ⟨h _ _ r7 p7, h _ _ r8 p8⟩⟩⟩
theorem all8_and {α : Type} {P Q : α → Prop} {t : T3 α} (hp : all8 P t) (hq : all8 Q t) : all8 (fun a => P a ∧ Q a) t := by
  obtain ⟨⟨⟨a1, a2⟩, ⟨a3, a4⟩⟩, ⟨⟨a5, a6⟩, ⟨a7, a8⟩⟩⟩ := hp
  obtain ⟨⟨⟨b1, b2⟩, ⟨b3, b4⟩⟩, ⟨⟨b5, b6⟩, ⟨b7, b8⟩⟩⟩ := hq
  exact ⟨⟨⟨⟨a1, b1⟩, ⟨a2, b2⟩⟩, ⟨⟨a3, b3⟩, ⟨a4, b4⟩⟩⟩, ⟨⟨⟨a5, b5⟩, ⟨a6, b6⟩⟩, ⟨⟨a7, b7⟩, ⟨a8, b8⟩⟩⟩⟩
theorem all8_imp {α : Type} {P Q : α → Prop} (h : ∀ a, P a → Q a) {t : T3 α} (hp : all8 P t) : all8 Q t := by
  obtain ⟨⟨⟨a1, a2⟩, ⟨a3, a4⟩⟩, ⟨⟨a5, a6⟩, ⟨a7, a8⟩⟩⟩ := hp
  exact ⟨⟨⟨h _ a1, h _ a2⟩, ⟨h _ a3, h _ a4⟩⟩, ⟨⟨h _ a5, h _ a6⟩, ⟨h _ a7, h _ a8⟩⟩⟩

/-! the point -/
theorem dgP_trim : ∀ (n : Nat) (p : PolyF n) {d e : Nat → Nat}, (∀ i, i < n → d i ≤ e i) → dgP n p d → dgP n p e
  | 0, _, _, _, _, _ => trivial
  | n + 1, _, _, _, h, hp => ⟨Nat.le_trans hp.1 (h n (by omega)), fun a ha => dgP_trim n a (fun i hi => h i (by omega)) (hp.2 a ha)⟩
def vPt (x : Nat → Int) : V4 Int := ⟨x 0, x 1, x 2, x 3⟩
def vP4 : V4 (Option (PolyF 4)) := ⟨some (vP 4 0), some (vP 4 1), some (vP 4 2), some (vP 4 3)⟩
def vB4 : V4 (Option Bd) := ⟨some ⟨1, 1, 0, 0, 0⟩, some ⟨1, 0, 1, 0, 0⟩, some ⟨1, 0, 0, 1, 0⟩, some ⟨1, 0, 0, 0, 1⟩⟩
theorem evV (x : Nat → Int) : evR x vP4.x1 (vPt x).x1 ∧ evR x vP4.x2 (vPt x).x2 ∧ evR x vP4.x3 (vPt x).x3 ∧ evR x vP4.b (vPt x).b :=
  ⟨evP_v 4 x 0 (by omega), evP_v 4 x 1 (by omega), evP_v 4 x 2 (by omega), evP_v 4 x 3 (by omega)⟩
theorem bdV : bdR vP4.x1 vB4.x1 ∧ bdR vP4.x2 vB4.x2 ∧ bdR vP4.x3 vB4.x3 ∧ bdR vP4.b vB4.b := by
  refine ⟨⟨nmP_v 4 0, dgP_mono 4 _ (fun i => ?_) (dgP_v 4 0)⟩, ⟨nmP_v 4 1, dgP_mono 4 _ (fun i => ?_) (dgP_v 4 1)⟩, ⟨nmP_v 4 2, dgP_mono 4 _ (fun i => ?_) (dgP_v 4 2)⟩, ⟨nmP_v 4 3, ?_⟩⟩
  · unfold Bd.d; split <;> split <;> simp_all
  · unfold Bd.d; split <;> split <;> simp_all
  · unfold Bd.d; split <;> split <;> simp_all
  · refine dgP_trim 4 _ (fun i hi => ?_) (dgP_v 4 3)
    match i, hi with
    | 0, _ => exact by decide
    | 1, _ => exact by decide
    | 2, _ => exact by decide
    | 3, _ => exact by decide
    | i + 4, h => exact absurd h (by omega)
end Go.NT

namespace Go.NT

def chkB (W : Nat → Nat) (b : Option Bd) : Bool := match b with
  | none => true
  | some b => decide (b.n * bigP W (fun i => b.d i + 1) 0 < W 0) && (decide (b.n * bigP W (fun i => b.d i + 1) 1 < W 1) && (decide (b.n * bigP W (fun i => b.d i + 1) 2 < W 2) && decide (b.n * bigP W (fun i => b.d i + 1) 3 < W 3)))
theorem point_zero {W : Nat → Nat} (hW : ∀ i, 1 ≤ W i) {p : Option (PolyF 4)} {b : Option Bd} (hb : bdR p b) (hc : chkB W b = true) (h0 : evO (fun i => (W i : Int)) p = 0) (x : Nat → Int) : evO x p = 0 := by
  cases p with
  | none => rfl
  | some p =>
    cases b with
    | none => exact hb.elim
    | some b =>
      simp only [chkB, Bool.and_eq_true, decide_eq_true_iff] at hc
      obtain ⟨c0, c1, c2, c3⟩ := hc
      refine evP_point hW 4 p hb.2 hb.1 (fun i hi => ?_) h0 x
      match i, hi with
      | 0, _ => exact c0
      | 1, _ => exact c1
      | 2, _ => exact c2
      | 3, _ => exact c3
      | i + 4, h => exact absurd h (by omega)
def W4 (k0 k1 k2 k3 : Nat) (i : Nat) : Nat := 2 ^ (match i with | 0 => k0 | 1 => k1 | 2 => k2 | _ => k3)
theorem W4_pos (k0 k1 k2 k3 : Nat) (i : Nat) : 1 ≤ W4 k0 k1 k2 k3 i := Nat.two_pow_pos _
def zTest (W : Nat → Nat) (ps : List SOp) (i : Nat) : Bool :=
  all8b (fun z => decide (z = 0)) (getL (o3 opsInt (vPt fun i => (W i : Int))) (runL (o3 opsInt (vPt fun i => (W i : Int))) ps (ins opsInt (vPt fun i => (W i : Int)))) i)
def bTest (W : Nat → Nat) (ps : List SOp) (i : Nat) : Bool := all8b (chkB W) (getL (o3 opsB vB4) (runL (o3 opsB vB4) ps (ins opsB vB4)) i)
/-- what is nothing at the great point, modulo the three equations, is nothing of any numbers that satisfy these. -/
theorem slp_zero {W : Nat → Nat} (hW : ∀ i, 1 ≤ W i) {ps : List SOp} {i : Nat} (hz : zTest W ps i = true) (hb : bTest W ps i = true) {m : Nat} {x1 y1 x2 y2 x3 y3 b : Int}
    (h1 : Cg' m (y1 * y1) (x1 * x1 * x1 - 3 * x1 + b)) (h2 : Cg' m (y2 * y2) (x2 * x2 * x2 - 3 * x2 + b)) (h3 : Cg' m (y3 * y3) (x3 * x3 * x3 - 3 * x3 + b)) :
    Cg' m (getL opsInt (runL opsInt ps [x1, y1, x2, y2, x3, y3, b]) i) 0 := by
  -- all eight are nothing as polynomials
  have hf : all8 (fun p => ∀ x, evO x p = 0) (getL (o3 opsP vP4) (runL (o3 opsP vP4) ps (ins opsP vP4)) i) := by
    obtain ⟨e1, e2, e3, e4⟩ := evV (fun i => (W i : Int))
    obtain ⟨d1, d2, d3, d4⟩ := bdV
    have r1 := head_rel (o3_rel (relEv (fun i => (W i : Int))) e1 e2 e3 e4) ps (ins_rel (relEv (fun i => (W i : Int))) e1 e2 e3 e4) i
    have r2 := head_rel (o3_rel relBd d1 d2 d3 d4) ps (ins_rel relBd d1 d2 d3 d4) i
    have hz' := all8b_iff.1 hz
    have hb' := all8b_iff.1 hb
    have a1 := all8_map' (P := fun p => evO (fun i => (W i : Int)) p = 0) (fun p z hr (hq : decide (z = 0) = true) => by
      have := of_decide_eq_true hq
      unfold evR at hr
      rw [hr, this]) r1 hz'
    have a2 := all8_map' (P := fun p => ∃ b, bdR p b ∧ chkB W b = true) (fun p b hr hq => ⟨b, hr, hq⟩) r2 hb'
    exact all8_imp (fun p hp => by
      obtain ⟨c1, b, c2, c3⟩ := hp
      exact fun x => point_zero hW c2 c3 c1 x) (all8_and a1 a2)
  -- so they are nothing of these numbers
  let x : Nat → Int := fun i => match i with | 0 => x1 | 1 => x2 | 2 => x3 | _ => b
  obtain ⟨e1, e2, e3, e4⟩ := evV x
  have r3 := head_rel (o3_rel (relEv x) e1 e2 e3 e4) ps (ins_rel (relEv x) e1 e2 e3 e4) i
  have hx : all8 (fun z : Int => z = 0) (getL (o3 opsInt (vPt x)) (runL (o3 opsInt (vPt x)) ps (ins opsInt (vPt x))) i) :=
    all8_map (fun p z hr (hp : ∀ x, evO x p = 0) => by unfold evR at hr; rw [← hr]; exact hp x) r3 hf
  -- and they are what the numbers come to
  let R0 : Int → Int → Prop := fun a z => Cg' m z a
  have cr : ∀ a : Int, Cg' m a a := fun a => ⟨0, by omega⟩
  have k0 : OpsRel R0 opsInt opsInt := by
    refine ⟨?_, ?_, ?_, fun z => cr z⟩
    · rintro a b a' b' ⟨k, hk⟩ ⟨l, hl⟩; exact ⟨k + l, by simp only [opsInt]; grind⟩
    · rintro a b a' b' ⟨k, hk⟩ ⟨l, hl⟩; exact ⟨k - l, by simp only [opsInt]; grind⟩
    · rintro a b a' b' ⟨k, hk⟩ ⟨l, hl⟩
      refine ⟨k * b' + l * a, ?_⟩
      simp only [opsInt]
      have e1 : a' = m * k + a := by omega
      have e2 : b' = m * l + b := by omega
      subst e1; generalize (m : Int) = M at *; subst e2; grind
  have l0 : ∀ {α : Type} {R : α → Int → Prop} {o : Ops α} {y : Int} {a : α} {z : Int}, OpsRel R o opsInt → R a z → rootR m R y (lft o a) z := fun h ha => ⟨_, _, ha, h.c 0, ⟨0, by simp only [opsInt]; grind⟩⟩
  have g0 : ∀ {α : Type} {R : α → Int → Prop} {o : Ops α} {y : Int}, OpsRel R o opsInt → rootR m R y (gen o) y := fun h => ⟨_, _, h.c 0, h.c 1, ⟨0, by simp only [opsInt]; grind⟩⟩
  have k1 : OpsRel (rootR m R0 y1) (o1 opsInt (vPt x)) opsInt := relRoot k0 (cub_rel k0 (cr x1) (cr b)) h1
  have k2 : OpsRel (rootR m (rootR m R0 y1) y2) (o2 opsInt (vPt x)) opsInt := relRoot k1 (cub_rel k1 (l0 k0 (cr x2)) (l0 k0 (cr b))) h2
  have k3 : OpsRel (rootR m (rootR m (rootR m R0 y1) y2) y3) (o3 opsInt (vPt x)) opsInt := relRoot k2 (cub_rel k2 (l0 k1 (l0 k0 (cr x3))) (l0 k1 (l0 k0 (cr b)))) h3
  have hin : relL (rootR m (rootR m (rootR m R0 y1) y2) y3) (ins opsInt (vPt x)) [x1, y1, x2, y2, x3, y3, b] :=
    ⟨l0 k2 (l0 k1 (l0 k0 (cr x1))), l0 k2 (l0 k1 (g0 k0)), l0 k2 (l0 k1 (l0 k0 (cr x2))), l0 k2 (g0 k1), l0 k2 (l0 k1 (l0 k0 (cr x3))), g0 k2, l0 k2 (l0 k1 (l0 k0 (cr b))), trivial⟩
  have r4 := head_rel k3 ps hin i
  generalize getL (o3 opsInt (vPt x)) (runL (o3 opsInt (vPt x)) ps (ins opsInt (vPt x))) i = t at *
  generalize getL opsInt (runL opsInt ps [x1, y1, x2, y2, x3, y3, b]) i = z at *
  obtain ⟨u, v, ⟨u1, u2, ⟨u11, u12, p1, p2, p3⟩, ⟨u21, u22, p4, p5, p6⟩, p7⟩, ⟨v1, v2, ⟨v11, v12, q1, q2, q3⟩, ⟨v21, v22, q4, q5, q6⟩, q7⟩, hz1⟩ := r4
  obtain ⟨⟨⟨z1, z2⟩, ⟨z3, z4⟩⟩, ⟨⟨z5, z6⟩, ⟨z7, z8⟩⟩⟩ := hx
  simp only [R0] at p1 p2 p4 p5 q1 q2 q4 q5
  rw [z1] at p1; rw [z2] at p2; rw [z3] at p4; rw [z4] at p5; rw [z5] at q1; rw [z6] at q2; rw [z7] at q4; rw [z8] at q5
  have tr : ∀ {a b c y : Int}, Cg' m a (b + y * c) → Cg' m b 0 → Cg' m c 0 → Cg' m a 0 := by
    rintro a b c y ⟨k, hk⟩ ⟨l, hl⟩ ⟨r, hr⟩
    exact ⟨k + l + y * r, by grind⟩
  exact tr hz1 (tr p7 (tr p3 p1 p2) (tr p6 p4 p5)) (tr q7 (tr q3 q1 q2) (tr q6 q4 q5))
end Go.NT

namespace Go.NT
/-! the law of the Weierstrass curve, in three coordinates -/
def wxx (a _b _c d _e _g : Int) : Int := a * d
def wyy (_a b _c _d e _g : Int) : Int := b * e
def wzz (_a _b c _d _e g : Int) : Int := c * g
def wxy (a b _c d e _g : Int) : Int := a * e + b * d
def wyz (_a b c _d e g : Int) : Int := b * g + c * e
def wxz (a _b c d _e g : Int) : Int := a * g + c * d
def wsi (k a b c d e g : Int) : Int := 3 * (wxz a b c d e g - k * wzz a b c d e g)
def wle (k a b c d e g : Int) : Int := wyy a b c d e g - wsi k a b c d e g
def wri (k a b c d e g : Int) : Int := wyy a b c d e g + wsi k a b c d e g
def wz3 (a b c d e g : Int) : Int := 3 * wzz a b c d e g
def wmm (k a b c d e g : Int) : Int := 3 * (k * wxz a b c d e g - wz3 a b c d e g - wxx a b c d e g)
def wnn (a b c d e g : Int) : Int := 3 * wxx a b c d e g - wz3 a b c d e g
def wX (k a b c d e g : Int) : Int := wxy a b c d e g * wri k a b c d e g - wyz a b c d e g * wmm k a b c d e g
def wY (k a b c d e g : Int) : Int := wri k a b c d e g * wle k a b c d e g + wnn a b c d e g * wmm k a b c d e g
def wZ (k a b c d e g : Int) : Int := wyz a b c d e g * wle k a b c d e g + wxy a b c d e g * wnn a b c d e g
def psW : List SOp := [.c 1, .c 3, .mul 2 4, .mul 4 6, .mul 3 3, .mul 5 8, .mul 7 8, .add 1 0, .mul 9 7, .mul 8 12, .add 1 0, .mul 11 10, .mul 11 14, .add 1 0, .mul 20 9, .sub 1 0, .mul 14 0, .sub 13 0, .add 14 1, .mul 17 14, .mul 26 6, .sub 0 1, .sub 0 19, .mul 21 0, .mul 22 21, .sub 0 5, .mul 18 7, .mul 16 3, .sub 1 0, .mul 10 11, .mul 4 6, .add 1 0, .mul 21 14, .mul 25 7, .add 1 0, .mul 6 39, .mul 4 41, .mul 2 36, .mul 9 43, .mul 7 43, .add 1 0, .mul 9 40, .mul 7 47, .add 1 0, .mul 15 43, .mul 10 49, .add 1 0, .mul 53 9, .sub 1 0, .mul 47 0, .sub 13 0, .add 14 1, .mul 50 14, .mul 59 6, .sub 0 1, .sub 0 19, .mul 54 0, .mul 55 21, .sub 0 5, .mul 18 7, .mul 16 3, .sub 1 0, .mul 10 11, .mul 4 6, .add 1 0, .mul 21 14, .mul 25 7, .add 1 0, .mul 70 72, .mul 72 74, .mul 69 69, .mul 73 76, .mul 75 76, .add 1 0, .mul 77 73, .mul 74 80, .add 1 0, .mul 79 76, .mul 77 82, .add 1 0, .mul 86 9, .sub 1 0, .mul 80 0, .sub 13 0, .add 14 1, .mul 83 14, .mul 92 6, .sub 0 1, .sub 0 19, .mul 87 0, .mul 88 21, .sub 0 5, .mul 18 7, .mul 16 3, .sub 1 0, .mul 10 11, .mul 4 6, .add 1 0, .mul 21 14, .mul 25 7, .add 1 0, .mul 101 6, .mul 103 4, .mul 102 2, .mul 104 6, .mul 106 10, .add 1 0, .mul 108 6, .mul 107 10, .add 1 0, .mul 110 9, .mul 110 16, .add 1 0, .mul 119 9, .sub 1 0, .mul 113 0, .sub 13 0, .add 14 1, .mul 116 14, .mul 125 6, .sub 0 1, .sub 0 19, .mul 120 0, .mul 121 21, .sub 0 5, .mul 18 7, .mul 16 3, .sub 1 0, .mul 10 11, .mul 4 6, .add 1 0, .mul 21 14, .mul 25 7, .add 1 0, .mul 72 0, .mul 67 7, .sub 1 0, .mul 72 3, .mul 70 7, .sub 1 0]
def WW : Nat → Nat := W4 64 1024 16384 262144
theorem zW02 : zTest WW psW 3 = true := by decide +kernel
theorem zW12 : zTest WW psW 0 = true := by decide +kernel
theorem bW02 : bTest WW psW 3 = true := by decide +kernel
theorem bW12 : bTest WW psW 0 = true := by decide +kernel
end Go.NT

namespace Go.NT
def W2 : Nat → Nat := W4 128 4096 131072 2097152
def psC : List SOp := [.c 1, .c 3, .mul 2 4, .mul 4 6, .mul 3 3, .mul 5 8, .mul 7 8, .add 1 0, .mul 9 7, .mul 8 12, .add 1 0, .mul 11 10, .mul 11 14, .add 1 0, .mul 20 9, .sub 1 0, .mul 14 0, .sub 13 0, .add 14 1, .mul 17 14, .mul 26 6, .sub 0 1, .sub 0 19, .mul 21 0, .mul 22 21, .sub 0 5, .mul 18 7, .mul 16 3, .sub 1 0, .mul 10 11, .mul 4 6, .add 1 0, .mul 21 14, .mul 25 7, .add 1 0, .mul 3 3, .mul 0 1, .mul 8 8, .mul 0 9, .mul 37 10, .mul 5 5, .mul 1 0, .sub 3 0, .mul 8 8, .mul 0 9, .mul 51 0, .add 3 0, .sub 10 0]
theorem zC : zTest W2 psC 0 = true := by decide +kernel
theorem bC : bTest W2 psC 0 = true := by decide +kernel
theorem idC {m : Nat} {x1 y1 x2 y2 b : Int} (h1 : Cg' m (y1 * y1) (x1 * x1 * x1 - 3 * x1 + b)) (h2 : Cg' m (y2 * y2) (x2 * x2 * x2 - 3 * x2 + b)) :
    Cg' m ((wY b x1 y1 1 x2 y2 1) * (wY b x1 y1 1 x2 y2 1) * (wZ b x1 y1 1 x2 y2 1) - ((wX b x1 y1 1 x2 y2 1) * (wX b x1 y1 1 x2 y2 1) * (wX b x1 y1 1 x2 y2 1) - 3 * (wX b x1 y1 1 x2 y2 1) * ((wZ b x1 y1 1 x2 y2 1) * (wZ b x1 y1 1 x2 y2 1)) + b * ((wZ b x1 y1 1 x2 y2 1) * (wZ b x1 y1 1 x2 y2 1) * (wZ b x1 y1 1 x2 y2 1)))) 0 := slp_zero (W4_pos _ _ _ _) zC bC h1 h2 h1
def psZ : List SOp := [.c 1, .c 3, .mul 2 4, .mul 4 6, .mul 3 3, .mul 5 8, .mul 7 8, .add 1 0, .mul 9 7, .mul 8 12, .add 1 0, .mul 11 10, .mul 11 14, .add 1 0, .mul 20 9, .sub 1 0, .mul 14 0, .sub 13 0, .add 14 1, .mul 17 14, .mul 26 6, .sub 0 1, .sub 0 19, .mul 21 0, .mul 22 21, .sub 0 5, .mul 18 7, .mul 16 3, .sub 1 0, .mul 10 11, .mul 4 6, .add 1 0, .mul 21 14, .mul 25 7, .add 1 0, .sub 35 37, .add 37 39, .mul 1 1, .mul 1 1, .add 39 41, .mul 0 2, .sub 2 0, .mul 42 4, .sub 0 1, .mul 7 0, .mul 7 9, .mul 47 0, .sub 2 0, .add 13 0]
theorem zZ : zTest W2 psZ 0 = true := by decide +kernel
theorem bZ : bTest W2 psZ 0 = true := by decide +kernel
theorem idZ {m : Nat} {x1 y1 x2 y2 b : Int} (h1 : Cg' m (y1 * y1) (x1 * x1 * x1 - 3 * x1 + b)) (h2 : Cg' m (y2 * y2) (x2 * x2 * x2 - 3 * x2 + b)) :
    Cg' m ((wZ b x1 y1 1 x2 y2 1) + ((y1 + y2) * (x1 * ((x1 - x2) * (x1 - x2)) - ((y1 + y2) * (y1 + y2) - (x1 + x2) * ((x1 - x2) * (x1 - x2)))) - y1 * ((x1 - x2) * (x1 - x2) * (x1 - x2)))) 0 := slp_zero (W4_pos _ _ _ _) zZ bZ h1 h2 h1
def psN : List SOp := [.sub 0 2, .add 2 4, .mul 1 1, .mul 1 1, .add 4 6, .mul 0 2, .sub 2 0, .mul 7 4, .sub 0 1, .mul 7 0, .mul 7 9, .mul 12 0, .sub 2 0, .mul 10 10, .mul 1 1, .mul 8 8, .mul 0 9, .c 3, .mul 0 11, .mul 0 5, .sub 3 0, .mul 7 18, .mul 28 0, .add 2 0, .sub 9 0]
theorem zN : zTest W2 psN 0 = true := by decide +kernel
theorem bN : bTest W2 psN 0 = true := by decide +kernel
theorem idN {m : Nat} {x1 y1 x2 y2 b : Int} (h1 : Cg' m (y1 * y1) (x1 * x1 * x1 - 3 * x1 + b)) (h2 : Cg' m (y2 * y2) (x2 * x2 * x2 - 3 * x2 + b)) :
    Cg' m (((y1 + y2) * (x1 * ((x1 - x2) * (x1 - x2)) - ((y1 + y2) * (y1 + y2) - (x1 + x2) * ((x1 - x2) * (x1 - x2)))) - y1 * ((x1 - x2) * (x1 - x2) * (x1 - x2))) * ((y1 + y2) * (x1 * ((x1 - x2) * (x1 - x2)) - ((y1 + y2) * (y1 + y2) - (x1 + x2) * ((x1 - x2) * (x1 - x2)))) - y1 * ((x1 - x2) * (x1 - x2) * (x1 - x2))) - (((y1 + y2) * (y1 + y2) - (x1 + x2) * ((x1 - x2) * (x1 - x2))) * ((y1 + y2) * (y1 + y2) - (x1 + x2) * ((x1 - x2) * (x1 - x2))) * ((y1 + y2) * (y1 + y2) - (x1 + x2) * ((x1 - x2) * (x1 - x2))) - 3 * ((y1 + y2) * (y1 + y2) - (x1 + x2) * ((x1 - x2) * (x1 - x2))) * (((x1 - x2) * (x1 - x2)) * ((x1 - x2) * (x1 - x2))) + b * (((x1 - x2) * (x1 - x2)) * ((x1 - x2) * (x1 - x2)) * ((x1 - x2) * (x1 - x2))))) 0 := slp_zero (W4_pos _ _ _ _) zN bN h1 h2 h1
def psD : List SOp := [.c 1, .c 3, .mul 2 2, .mul 4 4, .mul 3 3, .mul 5 6, .mul 7 6, .add 1 0, .mul 9 7, .mul 8 10, .add 1 0, .mul 11 10, .mul 11 12, .add 1 0, .mul 20 9, .sub 1 0, .mul 14 0, .sub 13 0, .add 14 1, .mul 17 14, .mul 26 6, .sub 0 1, .sub 0 19, .mul 21 0, .mul 22 21, .sub 0 5, .mul 18 7, .mul 16 3, .sub 1 0, .mul 10 11, .mul 4 6, .add 1 0, .mul 21 14, .mul 25 7, .add 1 0, .c 8, .mul 37 37, .mul 0 38, .mul 2 0, .sub 4 0]
theorem zD : zTest W2 psD 0 = true := by decide +kernel
theorem bD : bTest W2 psD 0 = true := by decide +kernel
theorem idD {m : Nat} {x1 y1 x2 y2 b : Int} (h1 : Cg' m (y1 * y1) (x1 * x1 * x1 - 3 * x1 + b)) (h2 : Cg' m (y2 * y2) (x2 * x2 * x2 - 3 * x2 + b)) :
    Cg' m (wZ b x1 y1 1 x1 y1 1 - 8 * (y1 * y1 * y1)) 0 := slp_zero (W4_pos _ _ _ _) zD bD h1 h2 h1
def psO : List SOp := [.c 1, .c 0, .sub 0 3, .c 3, .mul 4 4, .mul 6 2, .mul 5 5, .mul 7 4, .mul 9 8, .add 1 0, .mul 11 9, .mul 10 8, .add 1 0, .mul 13 12, .mul 13 14, .add 1 0, .mul 22 9, .sub 1 0, .mul 14 0, .sub 13 0, .add 14 1, .mul 17 14, .mul 28 6, .sub 0 1, .sub 0 19, .mul 21 0, .mul 22 21, .sub 0 5, .mul 18 7, .mul 16 3, .sub 1 0, .mul 10 11, .mul 4 6, .add 1 0, .mul 21 14, .mul 25 7, .add 1 0, .mul 37 37, .mul 34 0, .sub 0 35, .c 2, .mul 0 42, .mul 0 0, .mul 3 3, .mul 3 44, .mul 0 2, .sub 2 0, .mul 47 4, .sub 0 1, .mul 9 0, .mul 7 8, .mul 52 0, .sub 2 0, .sub 19 0]
theorem zO : zTest W2 psO 0 = true := by decide +kernel
theorem bO : bTest W2 psO 0 = true := by decide +kernel
theorem idO {m : Nat} {x1 y1 x2 y2 b : Int} (h1 : Cg' m (y1 * y1) (x1 * x1 * x1 - 3 * x1 + b)) (h2 : Cg' m (y2 * y2) (x2 * x2 * x2 - 3 * x2 + b)) :
    Cg' m (wY b x1 y1 1 x1 (0 - y1) 1 - ((3 * (x1 * x1) - 3) * (x1 * (2 * y1 * (2 * y1)) - ((3 * (x1 * x1) - 3) * (3 * (x1 * x1) - 3) - 2 * x1 * (2 * y1 * (2 * y1)))) - y1 * ((2 * y1 * (2 * y1)) * (2 * y1)))) 0 := slp_zero (W4_pos _ _ _ _) zO bO h1 h2 h1
def psM : List SOp := [.c 3, .mul 1 1, .mul 1 0, .sub 0 2, .c 2, .mul 0 6, .mul 0 0, .mul 3 3, .mul 3 8, .mul 0 2, .sub 2 0, .mul 11 4, .sub 0 1, .mul 9 0, .mul 7 8, .mul 16 0, .sub 2 0, .mul 10 10, .mul 1 1, .mul 8 8, .mul 0 9, .mul 20 10, .mul 0 4, .sub 2 0, .mul 6 17, .mul 31 0, .add 2 0, .sub 8 0]
theorem zM : zTest W2 psM 0 = true := by decide +kernel
theorem bM : bTest W2 psM 0 = true := by decide +kernel
theorem idM {m : Nat} {x1 y1 x2 y2 b : Int} (h1 : Cg' m (y1 * y1) (x1 * x1 * x1 - 3 * x1 + b)) (h2 : Cg' m (y2 * y2) (x2 * x2 * x2 - 3 * x2 + b)) :
    Cg' m (((3 * (x1 * x1) - 3) * (x1 * (2 * y1 * (2 * y1)) - ((3 * (x1 * x1) - 3) * (3 * (x1 * x1) - 3) - 2 * x1 * (2 * y1 * (2 * y1)))) - y1 * ((2 * y1 * (2 * y1)) * (2 * y1))) * ((3 * (x1 * x1) - 3) * (x1 * (2 * y1 * (2 * y1)) - ((3 * (x1 * x1) - 3) * (3 * (x1 * x1) - 3) - 2 * x1 * (2 * y1 * (2 * y1)))) - y1 * ((2 * y1 * (2 * y1)) * (2 * y1))) - (((3 * (x1 * x1) - 3) * (3 * (x1 * x1) - 3) - 2 * x1 * (2 * y1 * (2 * y1))) * ((3 * (x1 * x1) - 3) * (3 * (x1 * x1) - 3) - 2 * x1 * (2 * y1 * (2 * y1))) * ((3 * (x1 * x1) - 3) * (3 * (x1 * x1) - 3) - 2 * x1 * (2 * y1 * (2 * y1))) - 3 * ((3 * (x1 * x1) - 3) * (3 * (x1 * x1) - 3) - 2 * x1 * (2 * y1 * (2 * y1))) * ((2 * y1 * (2 * y1)) * (2 * y1 * (2 * y1))) + b * ((2 * y1 * (2 * y1)) * (2 * y1 * (2 * y1)) * (2 * y1 * (2 * y1))))) 0 := slp_zero (W4_pos _ _ _ _) zM bM h1 h2 h1
theorem assoc_xz {m : Nat} {x1 y1 x2 y2 x3 y3 b : Int} (h1 : Cg' m (y1 * y1) (x1 * x1 * x1 - 3 * x1 + b)) (h2 : Cg' m (y2 * y2) (x2 * x2 * x2 - 3 * x2 + b)) (h3 : Cg' m (y3 * y3) (x3 * x3 * x3 - 3 * x3 + b)) :
    Cg' m ((wX b (wX b x1 y1 1 x2 y2 1) (wY b x1 y1 1 x2 y2 1) (wZ b x1 y1 1 x2 y2 1) x3 y3 1) * (wZ b x1 y1 1 (wX b x2 y2 1 x3 y3 1) (wY b x2 y2 1 x3 y3 1) (wZ b x2 y2 1 x3 y3 1)) - (wZ b (wX b x1 y1 1 x2 y2 1) (wY b x1 y1 1 x2 y2 1) (wZ b x1 y1 1 x2 y2 1) x3 y3 1) * (wX b x1 y1 1 (wX b x2 y2 1 x3 y3 1) (wY b x2 y2 1 x3 y3 1) (wZ b x2 y2 1 x3 y3 1))) 0 := slp_zero (W4_pos _ _ _ _) zW02 bW02 h1 h2 h3
theorem assoc_yz {m : Nat} {x1 y1 x2 y2 x3 y3 b : Int} (h1 : Cg' m (y1 * y1) (x1 * x1 * x1 - 3 * x1 + b)) (h2 : Cg' m (y2 * y2) (x2 * x2 * x2 - 3 * x2 + b)) (h3 : Cg' m (y3 * y3) (x3 * x3 * x3 - 3 * x3 + b)) :
    Cg' m ((wY b (wX b x1 y1 1 x2 y2 1) (wY b x1 y1 1 x2 y2 1) (wZ b x1 y1 1 x2 y2 1) x3 y3 1) * (wZ b x1 y1 1 (wX b x2 y2 1 x3 y3 1) (wY b x2 y2 1 x3 y3 1) (wZ b x2 y2 1 x3 y3 1)) - (wZ b (wX b x1 y1 1 x2 y2 1) (wY b x1 y1 1 x2 y2 1) (wZ b x1 y1 1 x2 y2 1) x3 y3 1) * (wY b x1 y1 1 (wX b x2 y2 1 x3 y3 1) (wY b x2 y2 1 x3 y3 1) (wZ b x2 y2 1 x3 y3 1))) 0 := slp_zero (W4_pos _ _ _ _) zW12 bW12 h1 h2 h3
end Go.NT

