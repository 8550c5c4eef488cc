/- The law FieldN holds of every argument, without a condition -/
import Derived.Test.YthlcdpdehoknbaaMont
import Derived.Test.YthlcdpdehoknbaaField
import Derived.JoinedOf
namespace Go.Ev
open Go Go.Proofs Go.RowKit

def eqC (x : Nat) (u : Nat → Nat) : Bool := match eqF [.num 8 x] (cellsU 8 0 u) with | some b => b | none => true
theorem eqC_eq {x n : Nat} (hx : x < 4294967296 ^ 8) (hn : n < 4294967296 ^ 8) : eqC x (limb n) = decide (x = n) := by
  have h1 : ∃ b, eqF [.num 8 x] (cellsU 8 0 (limb n)) = some b := ⟨_, rfl⟩
  obtain ⟨b, hb⟩ := h1
  have h2 := eqF_spec (φ := fun _ => (0, 0, 0)) _ _ hb
  have h3 : eqF [.num 8 x] [.num 8 n] = some (decide (x % 4294967296 ^ 8 = n % 4294967296 ^ 8) && true) := rfl
  have h4 := eqF_spec (φ := fun _ => (0, 0, 0)) _ _ h3
  rw [concs_num _ 8 n] at h4
  rw [h4] at h2
  unfold eqC
  rw [hb]
  simp only
  rw [← h2, Nat.mod_eq_of_lt hx, Nat.mod_eq_of_lt hn]
  simp
theorem same_ok {x y : Nat} (h : x = y) : (!(decide (x % 4294967296 ^ 8 = y % 4294967296 ^ 8) && true)) = false := by subst h; simp

noncomputable def EL : Env := { E0 with
  fn := fun f vs => match f with
    | 21 => fnK g21 vs
    | 23 => fnK1 (fun k a => .val (N8 (redN a k))) vs
    | 49 => fn1 gHalf vs
    | 50 => fn2 gAdd vs
    | 30 => fnFp powM vs
    | 31 => fn31 vs
    | 35 => fnF mulM vs
    | 38 => fnF addM vs
    | 45 => fnF subM vs
    | 27 => (match vs with | [] => some ([], bV true) | _ => none)
    | _ => none
  S := fun f t => match f with
    | 28 => memN t [26, 36, 43, 52, 118, 123, 32]
    | 29 => memN t [38, 48, 57, 64, 164, 169, 174, 178, 215, 220, 44]
    | _ => false }
theorem envEL : EnvOK EL := by
  refine ⟨mixed, ?_, fun _ _ _ h => by simp [EL, E0] at h⟩
  intro f vs ob r h ho
  simp only [EL] at h
  split at h
  · exact fnK_ok spec21 h ho
  · exact fnK1_ok spec23 h ho
  · exact fn1_ok spec49 h ho
  · exact fn2_ok spec50 h ho
  · exact fnFp_ok spec30 h ho
  · exact fn31_ok h ho
  · exact fnF_ok spec35 h ho
  · exact fnF_ok spec38 h ho
  · exact fnF_ok spec45 h ho
  · split at h
    · simp only [Option.some.injEq, Prod.mk.injEq] at h
      obtain ⟨rfl, rfl⟩ := h
      exact spec27
    · simp at h
  · simp at h

/-! powers -/
def TQ (k len cap : Nat) (i : Int) : List AV := slots 126 [(0, sV len cap), (1, mV (k : Int)), (4, bV false), (5, iV i)]
theorem tTQ (k len cap : Nat) (i : Int) : tmsWf 1 (TQ k len cap i) = true := by kernel_rfl
theorem wfTQ (s : Asks) (m k len cap : Nat) (i : Int) : wfS (TQ k len cap i) [askB s m] = true := wfS_of (by simp [askB_free]) (tTQ k len cap i)
def obK (k : Nat) : Prop := 0 ≤ (k : Int) ∧ (k : Int) < 4
def obPw (k a n : Nat) : List Prop := [obK k, a < modN k, a < 4294967296 ^ 8, n < 4294967296 ^ 8]
def obBi (k a b : Nat) : List Prop := [obK k, a < modN k, b < modN k, a < 4294967296 ^ 8, b < 4294967296 ^ 8]
theorem obPw_ok {k a n : Nat} (hk : k < 4) (ha : a < modN k) (hn : n < 4294967296 ^ 8) : All (obPw k a n) := by
  have := modN_lt k
  exact ⟨by unfold obK; omega, ha, by omega, hn, trivial⟩
theorem obBi_ok {k a b : Nat} (hk : k < 4) (ha : a < modN k) (hb : b < modN k) : All (obBi k a b) := by
  have := modN_lt k
  exact ⟨by unfold obK; omega, ha, hb, by omega, by omega, trivial⟩
def ix (len i : Nat) : Prop := 0 ≤ (i : Int) ∧ (i : Int) < (len : Int)
def obQ (s : Asks) (k len : Nat) : List Prop :=
  let A := redN (s.a 0) k
  let m := modN k
  let n := s.a 0 / 2
  let q := s.b 0 / 2
  (decide (((0 : Nat) : Int) < (len : Int)) = true) :: ix len 0 :: obK k :: (s.a 0 < 4294967296 ^ 8) :: ix len 0 :: (s.a 0 < 4294967296 ^ 8) :: ix len 0 :: (s.b 0 < 4294967296 ^ 8) :: (n < 4294967296 ^ 8) :: (q < 4294967296 ^ 8) ::
  (obPw k A n ++ (obPw k A q ++ (obPw k A (addN n q) ++ (obBi k (powM m A n) (powM m A q) ++ (obK k :: (obPw k A m ++
    [(!(decide (powM m A (addN n q) % 4294967296 ^ 8 = mulM m (powM m A n) (powM m A q) % 4294967296 ^ 8) && true)) = false, (!(decide (powM m A m % 4294967296 ^ 8 = A % 4294967296 ^ 8) && true)) = false, inI (((0 : Nat) : Int) + 1)]))))))
theorem fermat_self {k a : Nat} (hk : k < 4) (ha : a < modN k) : a ^ modN k % modN k = a := by
  have h0 := modN_pos k
  by_cases h : a = 0
  · subst h; rw [Nat.zero_pow h0, Nat.zero_mod]
  · have hf := fermatN hk (by omega) ha
    rw [show modN k = (modN k - 1) + 1 by omega, Nat.pow_succ, show modN k - 1 + 1 = modN k by omega, Nat.mul_mod, hf, Nat.one_mul, Nat.mod_mod, Nat.mod_eq_of_lt ha]
theorem obQ_ok {s : Asks} {k len : Nat} (hk : k < 4) (hi : 0 < len) (hs : s.ok 1) : All (obQ s k len) := by
  have hK : obK k := by unfold obK; omega
  have hI : ix len 0 := by unfold ix; omega
  obtain ⟨ha, hb⟩ := hs 0 (by omega)
  have hmp := modN_pos k
  have hml := modN_lt k
  have hA : redN (s.a 0) k < modN k := Nat.mod_lt _ hmp
  have hp : ∀ x n, powM (modN k) x n < modN k := fun x n => Nat.mod_lt _ hmp
  unfold obQ
  simp only [All, All_append]
  refine ⟨decide_eq_true (by omega), hI, hK, ha, hI, ha, hI, hb, by omega, by omega, obPw_ok hk hA (by omega), obPw_ok hk hA (by omega), obPw_ok hk hA (addN_lt _ _), obBi_ok hk (hp _ _) (hp _ _), hK, obPw_ok hk hA hml, same_ok ?_, same_ok ?_, ?_, trivial⟩
  · have : addN (s.a 0 / 2) (s.b 0 / 2) = s.a 0 / 2 + s.b 0 / 2 := Nat.mod_eq_of_lt (by omega)
    rw [this]
    unfold powM mulM
    rw [Nat.pow_add, Nat.mul_mod]
  · exact fermat_self hk hA
  · unfold inI; omega
theorem run28_0 (s : Asks) (k len cap : Nat) : runTo EL 1000 (EL.S 28) (bodyOf Try.prog 28 2) (TQ k len cap ((0 : Nat) : Int)) [askB s 1] [true, false, false] (TQ k len cap ((0 + 1 : Nat) : Int)) 1 =
    some (obQ s k len, .normal, TQ k len cap ((0 + 1 : Nat) : Int), [askB s 1]) := by kernel_rfl
theorem run28x (B : Blk) (k len cap m : Nat) : runTo EL 1000 (EL.S 28) (bodyOf Try.prog 28 2) (TQ k len cap (m : Int)) [B] [false] (TQ k len cap (m : Int)) 1 =
    some ([decide ((m : Int) < (len : Int)) = false], .exit 0, TQ k len cap (m : Int), [B]) := by kernel_rfl
theorem run28y (B : Blk) (k len cap : Nat) : runTo EL 1000 (EL.S 28) (bodyOf Try.prog 28 2) (TQ k len cap ((1 : Nat) : Int)) [B] [true] (TQ k len cap ((1 : Nat) : Int)) 1 =
    some ([decide (((1 : Nat) : Int) < (len : Int)) = true], .exit 0, TQ k len cap ((1 : Nat) : Int), [B]) := by kernel_rfl
theorem loop28 (s : Asks) {k m len cap : Nat} (hk : k < 4) (hm : m = min len 1) (hs : s.ok m) : Goes Try.prog (.loop (bodyOf Try.prog 28 2)) (.exit 0) (TQ k len cap ((0 : Nat) : Int)) [askB s m] (TQ k len cap (m : Int)) [askB s m] := by
  refine loop_goes (N := m) (k := 1) (T := fun i => TQ k len cap (i : Int)) (M := fun _ => [askB s m]) (by simp) (fun _ _ => rfl) (fun i hi => ?_) ?_
  · obtain rfl : m = 1 := by omega
    obtain rfl : i = 0 := by omega
    exact Runs.goes envEL ⟨[true, false, false], _, run28_0 s k len cap, obQ_ok hk (by omega) hs, wfTQ _ _ _ _ _ _⟩
  · by_cases h : m < len
    · obtain rfl : m = 1 := by omega
      exact Runs.goes envEL ⟨[true], _, run28y _ k len cap, ⟨decide_eq_true (by omega), trivial⟩, wfTQ _ _ _ _ _ _⟩
    · exact Runs.goes envEL ⟨[false], _, run28x _ k len cap m, ⟨decide_eq_false (by omega), trivial⟩, wfTQ _ _ _ _ _ _⟩
noncomputable def EQX (s : Asks) (k m len cap : Nat) : Env := { EL with lp := fun j => match Nat.beq j 2 with | true => some (bodyOf Try.prog 28 2, sumC (TQ k len cap ((0 : Nat) : Int)) [askB s m] (TQ k len cap (m : Int)) [askB s m] (.exit 0)) | false => none }
theorem envEQX (s : Asks) {k m len cap : Nat} (hk : k < 4) (hm : m = min len 1) (hs : s.ok m) : EnvOK (EQX s k m len cap) := envEL1 envEL (sumC_ok (by simp only [List.length_cons]) (loop28 s hk hm hs))

/-! rings -/
def TG (k len cap : Nat) (i : Int) : List AV := slots 223 [(0, sV len cap), (1, mV (k : Int)), (4, bV false), (5, iV i)]
theorem tTG (k len cap : Nat) (i : Int) : tmsWf 1 (TG k len cap i) = true := by kernel_rfl
theorem wfTG (s : Asks) (m k len cap : Nat) (i : Int) : wfS (TG k len cap i) [askB s m] = true := wfS_of (by simp [askB_free]) (tTG k len cap i)
structure RV where
  m : Nat
  A : Nat
  B : Nat
  C : Nat
def rvOf (s : Asks) (k i : Nat) : RV := ⟨modN k, redN (s.a i) k, redN (s.b i) k, redN (s.a i / 2) k⟩
def obG (s : Asks) (k len i : Nat) : List Prop :=
  let v := rvOf s k i
  let ab := mulM v.m v.A v.B
  let bc := mulM v.m v.B v.C
  let ac := mulM v.m v.A v.C
  let l := mulM v.m ab v.C
  let r := mulM v.m v.A bc
  let t := addM v.m v.B v.C
  let at' := mulM v.m v.A t
  let u := addM v.m ab ac
  let d := subM v.m t v.C
  (decide ((i : Int) < (len : Int)) = true) :: ix len i :: (s.a i < 4294967296 ^ 8) :: ix len i :: obK k :: (s.a i < 4294967296 ^ 8) :: ix len i :: obK k :: (s.b i < 4294967296 ^ 8) :: obK k :: (s.a i / 2 < 4294967296 ^ 8) ::
  (obBi k v.A v.B ++ (obBi k v.B v.C ++ (obBi k v.A v.C ++ (obBi k ab v.C ++ (obBi k v.A bc ++ (obBi k v.B v.C ++ (obBi k v.A t ++ (obBi k ab ac ++ (obBi k t v.C ++
    [(!(decide (l % 4294967296 ^ 8 = r % 4294967296 ^ 8) && true)) = false, (!(decide (at' % 4294967296 ^ 8 = u % 4294967296 ^ 8) && true)) = false, (!(decide (d % 4294967296 ^ 8 = v.B % 4294967296 ^ 8) && true)) = false])))))))))
def obGz (s : Asks) (k len i : Nat) : List Prop := obG s k len i ++ [isZ (redN (s.a i) k) = true, inI ((i : Int) + 1)]
def obGn (s : Asks) (k len i : Nat) : List Prop :=
  let v := rvOf s k i
  let ab := mulM v.m v.A v.B
  let iv := invM v.m v.A
  obG s k len i ++ ((isZ v.A = false) :: obK k :: (v.A < v.m) :: (0 < v.A) :: (v.A < 4294967296 ^ 8) :: (obBi k v.A iv ++ (obBi k ab iv ++ [(!eqC (mulM v.m v.A iv) (limb 1)) = false, (!(decide (mulM v.m ab iv % 4294967296 ^ 8 = v.B % 4294967296 ^ 8) && true)) = false, inI ((i : Int) + 1)])))
theorem mul_assocM (m A B C : Nat) : mulM m (mulM m A B) C = mulM m A (mulM m B C) := by
  unfold mulM
  rw [Nat.mod_mul_mod, Nat.mul_mod A, Nat.mod_mod, ← Nat.mul_mod, Nat.mul_assoc]
theorem mul_addM (m A B C : Nat) : mulM m A (addM m B C) = addM m (mulM m A B) (mulM m A C) := by
  unfold mulM addM
  rw [← Nat.add_mod, ← Nat.mul_add, Nat.mul_mod A, Nat.mod_mod, ← Nat.mul_mod]
theorem sub_addM {m B C : Nat} (hB : B < m) (hC : C < m) : subM m (addM m B C) C = B := by
  unfold subM addM
  by_cases h : B + C < m
  · rw [Nat.mod_eq_of_lt h, show B + C + m - C = B + m by omega, Nat.add_mod_right, Nat.mod_eq_of_lt hB]
  · rw [Nat.mod_eq_sub_mod (show B + C ≥ m by omega), Nat.mod_eq_of_lt (show B + C - m < m by omega), show B + C - m + m - C = B by omega, Nat.mod_eq_of_lt hB]
theorem inv_one {k A : Nat} (hk : k < 4) (h0 : 0 < A) (hA : A < modN k) : mulM (modN k) A (invM (modN k) A) = 1 := by
  have hf := fermatN hk h0 hA
  have h2 := modN_two k
  unfold mulM invM
  rw [Nat.mul_mod, Nat.mod_mod, ← Nat.mul_mod, Nat.mul_comm, ← Nat.pow_succ, show (modN k - 2).succ = modN k - 1 by omega, hf]
theorem obG_ok {s : Asks} {k len i m : Nat} (hk : k < 4) (hi : i < len) (hm : i < m) (hs : s.ok m) : All (obG s k len i) := by
  have hK : obK k := by unfold obK; omega
  have hI : ix len i := by unfold ix; omega
  obtain ⟨ha, hb⟩ := hs i hm
  have hmp := modN_pos k
  have hA : redN (s.a i) k < modN k := Nat.mod_lt _ hmp
  have hB : redN (s.b i) k < modN k := Nat.mod_lt _ hmp
  have hC : redN (s.a i / 2) k < modN k := Nat.mod_lt _ hmp
  have hM : ∀ x y, mulM (modN k) x y < modN k := fun x y => Nat.mod_lt _ hmp
  have hD : ∀ x y, addM (modN k) x y < modN k := fun x y => Nat.mod_lt _ hmp
  unfold obG rvOf
  simp only [All, All_append]
  exact ⟨decide_eq_true hI.2, hI, ha, hI, hK, ha, hI, hK, hb, hK, by omega, obBi_ok hk hA hB, obBi_ok hk hB hC, obBi_ok hk hA hC, obBi_ok hk (hM _ _) hC, obBi_ok hk hA (hM _ _), obBi_ok hk hB hC, obBi_ok hk hA (hD _ _), obBi_ok hk (hM _ _) (hM _ _), obBi_ok hk (hD _ _) hC,
    same_ok (mul_assocM _ _ _ _), same_ok (mul_addM _ _ _ _), same_ok (sub_addM hB hC), trivial⟩
theorem obGz_ok {s : Asks} {k len i m : Nat} (hk : k < 4) (hi : i < len) (hm : i < m) (hm4 : m ≤ 3) (hs : s.ok m) (hz : redN (s.a i) k = 0) : All (obGz s k len i) := by
  unfold obGz
  rw [All_append]
  exact ⟨obG_ok hk hi hm hs, by rw [hz]; rfl, by unfold inI; omega, trivial⟩
theorem obGn_ok {s : Asks} {k len i m : Nat} (hk : k < 4) (hi : i < len) (hm : i < m) (hm4 : m ≤ 3) (hs : s.ok m) (hz : 0 < redN (s.a i) k) : All (obGn s k len i) := by
  have hg := obG_ok (len := len) hk hi hm hs
  have hK : obK k := by unfold obK; omega
  have hmp := modN_pos k
  have hml := modN_lt k
  have hA : redN (s.a i) k < modN k := Nat.mod_lt _ hmp
  have hB : redN (s.b i) k < modN k := Nat.mod_lt _ hmp
  have hM : ∀ x y, mulM (modN k) x y < modN k := fun x y => Nat.mod_lt _ hmp
  have hV : invM (modN k) (redN (s.a i) k) < modN k := Nat.mod_lt _ hmp
  have h1 := inv_one hk hz hA
  unfold obGn rvOf
  simp only [All, All_append]
  refine ⟨hg, by rw [isZ_eq (by omega)]; exact decide_eq_false (by omega), hK, hA, hz, by omega, obBi_ok hk hA hV, obBi_ok hk (hM _ _) hV, ?_, same_ok ?_, by unfold inI; omega, trivial⟩
  · rw [h1, eqC_eq (by decide) (by decide)]; rfl
  · rw [show mulM (modN k) (redN (s.a i) k) (redN (s.b i) k) = mulM (modN k) (redN (s.b i) k) (redN (s.a i) k) by unfold mulM; rw [Nat.mul_comm], mul_assocM, h1]
    unfold mulM
    rw [Nat.mul_one, Nat.mod_eq_of_lt hB]

theorem run29z_1_0 (s : Asks) (k len cap : Nat) : runTo EL 1000 (EL.S 29) (bodyOf Try.prog 29 2) (TG k len cap ((0 : Nat) : Int)) [askB s 1] [true, false, false, false, true] (TG k len cap ((0 + 1 : Nat) : Int)) 1 =
    some (obGz s k len 0, .normal, TG k len cap ((0 + 1 : Nat) : Int), [askB s 1]) := by kernel_rfl
theorem run29n_1_0 (s : Asks) (k len cap : Nat) : runTo EL 1000 (EL.S 29) (bodyOf Try.prog 29 2) (TG k len cap ((0 : Nat) : Int)) [askB s 1] [true, false, false, false, false, false, false] (TG k len cap ((0 + 1 : Nat) : Int)) 1 =
    some (obGn s k len 0, .normal, TG k len cap ((0 + 1 : Nat) : Int), [askB s 1]) := by kernel_rfl
theorem run29z_2_0 (s : Asks) (k len cap : Nat) : runTo EL 1000 (EL.S 29) (bodyOf Try.prog 29 2) (TG k len cap ((0 : Nat) : Int)) [askB s 2] [true, false, false, false, true] (TG k len cap ((0 + 1 : Nat) : Int)) 1 =
    some (obGz s k len 0, .normal, TG k len cap ((0 + 1 : Nat) : Int), [askB s 2]) := by kernel_rfl
theorem run29n_2_0 (s : Asks) (k len cap : Nat) : runTo EL 1000 (EL.S 29) (bodyOf Try.prog 29 2) (TG k len cap ((0 : Nat) : Int)) [askB s 2] [true, false, false, false, false, false, false] (TG k len cap ((0 + 1 : Nat) : Int)) 1 =
    some (obGn s k len 0, .normal, TG k len cap ((0 + 1 : Nat) : Int), [askB s 2]) := by kernel_rfl
theorem run29z_2_1 (s : Asks) (k len cap : Nat) : runTo EL 1000 (EL.S 29) (bodyOf Try.prog 29 2) (TG k len cap ((1 : Nat) : Int)) [askB s 2] [true, false, false, false, true] (TG k len cap ((1 + 1 : Nat) : Int)) 1 =
    some (obGz s k len 1, .normal, TG k len cap ((1 + 1 : Nat) : Int), [askB s 2]) := by kernel_rfl
theorem run29n_2_1 (s : Asks) (k len cap : Nat) : runTo EL 1000 (EL.S 29) (bodyOf Try.prog 29 2) (TG k len cap ((1 : Nat) : Int)) [askB s 2] [true, false, false, false, false, false, false] (TG k len cap ((1 + 1 : Nat) : Int)) 1 =
    some (obGn s k len 1, .normal, TG k len cap ((1 + 1 : Nat) : Int), [askB s 2]) := by kernel_rfl
theorem run29z_3_0 (s : Asks) (k len cap : Nat) : runTo EL 1000 (EL.S 29) (bodyOf Try.prog 29 2) (TG k len cap ((0 : Nat) : Int)) [askB s 3] [true, false, false, false, true] (TG k len cap ((0 + 1 : Nat) : Int)) 1 =
    some (obGz s k len 0, .normal, TG k len cap ((0 + 1 : Nat) : Int), [askB s 3]) := by kernel_rfl
theorem run29n_3_0 (s : Asks) (k len cap : Nat) : runTo EL 1000 (EL.S 29) (bodyOf Try.prog 29 2) (TG k len cap ((0 : Nat) : Int)) [askB s 3] [true, false, false, false, false, false, false] (TG k len cap ((0 + 1 : Nat) : Int)) 1 =
    some (obGn s k len 0, .normal, TG k len cap ((0 + 1 : Nat) : Int), [askB s 3]) := by kernel_rfl
theorem run29z_3_1 (s : Asks) (k len cap : Nat) : runTo EL 1000 (EL.S 29) (bodyOf Try.prog 29 2) (TG k len cap ((1 : Nat) : Int)) [askB s 3] [true, false, false, false, true] (TG k len cap ((1 + 1 : Nat) : Int)) 1 =
    some (obGz s k len 1, .normal, TG k len cap ((1 + 1 : Nat) : Int), [askB s 3]) := by kernel_rfl
theorem run29n_3_1 (s : Asks) (k len cap : Nat) : runTo EL 1000 (EL.S 29) (bodyOf Try.prog 29 2) (TG k len cap ((1 : Nat) : Int)) [askB s 3] [true, false, false, false, false, false, false] (TG k len cap ((1 + 1 : Nat) : Int)) 1 =
    some (obGn s k len 1, .normal, TG k len cap ((1 + 1 : Nat) : Int), [askB s 3]) := by kernel_rfl
theorem run29z_3_2 (s : Asks) (k len cap : Nat) : runTo EL 1000 (EL.S 29) (bodyOf Try.prog 29 2) (TG k len cap ((2 : Nat) : Int)) [askB s 3] [true, false, false, false, true] (TG k len cap ((2 + 1 : Nat) : Int)) 1 =
    some (obGz s k len 2, .normal, TG k len cap ((2 + 1 : Nat) : Int), [askB s 3]) := by kernel_rfl
theorem run29n_3_2 (s : Asks) (k len cap : Nat) : runTo EL 1000 (EL.S 29) (bodyOf Try.prog 29 2) (TG k len cap ((2 : Nat) : Int)) [askB s 3] [true, false, false, false, false, false, false] (TG k len cap ((2 + 1 : Nat) : Int)) 1 =
    some (obGn s k len 2, .normal, TG k len cap ((2 + 1 : Nat) : Int), [askB s 3]) := by kernel_rfl
theorem run29x (B : Blk) (k len cap m : Nat) : runTo EL 1000 (EL.S 29) (bodyOf Try.prog 29 2) (TG k len cap (m : Int)) [B] [false] (TG k len cap (m : Int)) 1 =
    some ([decide ((m : Int) < (len : Int)) = false], .exit 0, TG k len cap (m : Int), [B]) := by kernel_rfl
theorem run29y (B : Blk) (k len cap : Nat) : runTo EL 1000 (EL.S 29) (bodyOf Try.prog 29 2) (TG k len cap ((3 : Nat) : Int)) [B] [true] (TG k len cap ((3 : Nat) : Int)) 1 =
    some ([decide (((3 : Nat) : Int) < (len : Int)) = true], .exit 0, TG k len cap ((3 : Nat) : Int), [B]) := by kernel_rfl
theorem step29 (s : Asks) {k m len cap i : Nat} (hk : k < 4) (hi : i < m) (hm : m ≤ 3) (hl : i < len) (hs : s.ok m) : Runs EL 1000 (EL.S 29) (bodyOf Try.prog 29 2) .normal (TG k len cap (i : Int)) [askB s m] (TG k len cap ((i + 1 : Nat) : Int)) [askB s m] := by
  have hwf := wfTG s m k len cap ((i + 1 : Nat) : Int)
  by_cases hz : redN (s.a i) k = 0
  · have hob := obGz_ok (len := len) hk hl hi hm hs hz
    match m, i, hi, hm with
    | 1, 0, _, _ => exact ⟨[true, false, false, false, true], _, run29z_1_0 s k len cap, hob, hwf⟩
    | 2, 0, _, _ => exact ⟨[true, false, false, false, true], _, run29z_2_0 s k len cap, hob, hwf⟩
    | 2, 1, _, _ => exact ⟨[true, false, false, false, true], _, run29z_2_1 s k len cap, hob, hwf⟩
    | 3, 0, _, _ => exact ⟨[true, false, false, false, true], _, run29z_3_0 s k len cap, hob, hwf⟩
    | 3, 1, _, _ => exact ⟨[true, false, false, false, true], _, run29z_3_1 s k len cap, hob, hwf⟩
    | 3, 2, _, _ => exact ⟨[true, false, false, false, true], _, run29z_3_2 s k len cap, hob, hwf⟩
    | 1, i + 1, h, _ => exact absurd h (by omega)
    | 2, i + 2, h, _ => exact absurd h (by omega)
    | 3, i + 3, h, _ => exact absurd h (by omega)
    | n + 4, _, _, h => exact absurd h (by omega)
  · have hob := obGn_ok (len := len) hk hl hi hm hs (by omega)
    match m, i, hi, hm with
    | 1, 0, _, _ => exact ⟨[true, false, false, false, false, false, false], _, run29n_1_0 s k len cap, hob, hwf⟩
    | 2, 0, _, _ => exact ⟨[true, false, false, false, false, false, false], _, run29n_2_0 s k len cap, hob, hwf⟩
    | 2, 1, _, _ => exact ⟨[true, false, false, false, false, false, false], _, run29n_2_1 s k len cap, hob, hwf⟩
    | 3, 0, _, _ => exact ⟨[true, false, false, false, false, false, false], _, run29n_3_0 s k len cap, hob, hwf⟩
    | 3, 1, _, _ => exact ⟨[true, false, false, false, false, false, false], _, run29n_3_1 s k len cap, hob, hwf⟩
    | 3, 2, _, _ => exact ⟨[true, false, false, false, false, false, false], _, run29n_3_2 s k len cap, hob, hwf⟩
    | 1, i + 1, h, _ => exact absurd h (by omega)
    | 2, i + 2, h, _ => exact absurd h (by omega)
    | 3, i + 3, h, _ => exact absurd h (by omega)
    | n + 4, _, _, h => exact absurd h (by omega)
theorem loop29 (s : Asks) {k m len cap : Nat} (hk : k < 4) (hm : m = min len 3) (hs : s.ok m) : Goes Try.prog (.loop (bodyOf Try.prog 29 2)) (.exit 0) (TG k len cap ((0 : Nat) : Int)) [askB s m] (TG k len cap (m : Int)) [askB s m] := by
  refine loop_goes (N := m) (k := 1) (T := fun i => TG k len cap (i : Int)) (M := fun _ => [askB s m]) (by simp) (fun _ _ => rfl) (fun i hi => ?_) ?_
  · exact (step29 s hk hi (by omega) (by omega) hs).goes envEL
  · by_cases h : m < len
    · obtain rfl : m = 3 := by omega
      exact Runs.goes envEL ⟨[true], _, run29y _ k len cap, ⟨decide_eq_true (by omega), trivial⟩, wfTG _ _ _ _ _ _⟩
    · exact Runs.goes envEL ⟨[false], _, run29x _ k len cap m, ⟨decide_eq_false (by omega), trivial⟩, wfTG _ _ _ _ _ _⟩
noncomputable def EGX (s : Asks) (k m len cap : Nat) : Env := { EL with lp := fun j => match Nat.beq j 2 with | true => some (bodyOf Try.prog 29 2, sumC (TG k len cap ((0 : Nat) : Int)) [askB s m] (TG k len cap (m : Int)) [askB s m] (.exit 0)) | false => none }
theorem envEGX (s : Asks) {k m len cap : Nat} (hk : k < 4) (hm : m = min len 3) (hs : s.ok m) : EnvOK (EGX s k m len cap) := envEL1 envEL (sumC_ok (by simp only [List.length_cons]) (loop29 s hk hm hs))

theorem run8 (s : Asks) (m len cap : Nat) : callBy (EQX s 0 m len cap) (evalC (EQX s 0 m len cap) 1000) 8 [.one (.sl 0 0 len cap)] [askB s m] [] =
    some ([bodyOf Try.prog 28 2 = bodyOf Try.prog 28 2, (TQ 0 len cap ((0 : Nat) : Int), [askB s m]) = (TQ 0 len cap ((0 : Nat) : Int), [askB s m]), wfS (TQ 0 len cap ((0 : Nat) : Int)) [askB s m] = true], [], .val (.one (.v (.bool true))), [askB s m]) := by kernel_rfl
theorem run8nil : callBy EL (evalC EL 1000) 8 [.one (.v (.slice none 0 0))] [] [false] = some ([decide (((0 : Nat) : Int) < ((0 : Nat) : Int)) = false], [], .val (.one (.v (.bool true))), []) := by kernel_rfl
theorem law8 {H : Type} {enc : TypeId × Value → H} {r : Reach} {W : World} {base : Nat} {v : Value} {d : DataW H} {ps : List MemPlace} (hval : Value.okWide Try.prog W r base 22 v) (h : DataW.Trod enc Try.prog W 0 (fun _ => true) true 22 v d ps) :
    Calls Try.prog 8 #[v] W (Trues W) := by
  refine asks_calls (K := 1) (Q := Trues) (fun w => law_run_nil (E := EL) envEL run8nil ⟨by decide, trivial⟩ w) ?_ hval h
  intro s m len cap hm _ _ hs w φ hmr
  exact law_run (envEQX s (k := 0) (by decide) hm hs) (run8 s m len cap) ⟨rfl, rfl, wfTQ _ _ _ _ _ _, trivial⟩ hmr

theorem run9 (s : Asks) (m len cap : Nat) : callBy (EQX s 1 m len cap) (evalC (EQX s 1 m len cap) 1000) 9 [.one (.sl 0 0 len cap)] [askB s m] [] =
    some ([bodyOf Try.prog 28 2 = bodyOf Try.prog 28 2, (TQ 1 len cap ((0 : Nat) : Int), [askB s m]) = (TQ 1 len cap ((0 : Nat) : Int), [askB s m]), wfS (TQ 1 len cap ((0 : Nat) : Int)) [askB s m] = true], [], .val (.one (.v (.bool true))), [askB s m]) := by kernel_rfl
theorem run9nil : callBy EL (evalC EL 1000) 9 [.one (.v (.slice none 0 0))] [] [false] = some ([decide (((0 : Nat) : Int) < ((0 : Nat) : Int)) = false], [], .val (.one (.v (.bool true))), []) := by kernel_rfl
theorem law9 {H : Type} {enc : TypeId × Value → H} {r : Reach} {W : World} {base : Nat} {v : Value} {d : DataW H} {ps : List MemPlace} (hval : Value.okWide Try.prog W r base 22 v) (h : DataW.Trod enc Try.prog W 0 (fun _ => true) true 22 v d ps) :
    Calls Try.prog 9 #[v] W (Trues W) := by
  refine asks_calls (K := 1) (Q := Trues) (fun w => law_run_nil (E := EL) envEL run9nil ⟨by decide, trivial⟩ w) ?_ hval h
  intro s m len cap hm _ _ hs w φ hmr
  exact law_run (envEQX s (k := 1) (by decide) hm hs) (run9 s m len cap) ⟨rfl, rfl, wfTQ _ _ _ _ _ _, trivial⟩ hmr

theorem run10 (s : Asks) (m len cap : Nat) : callBy (EQX s 2 m len cap) (evalC (EQX s 2 m len cap) 1000) 10 [.one (.sl 0 0 len cap)] [askB s m] [] =
    some ([bodyOf Try.prog 28 2 = bodyOf Try.prog 28 2, (TQ 2 len cap ((0 : Nat) : Int), [askB s m]) = (TQ 2 len cap ((0 : Nat) : Int), [askB s m]), wfS (TQ 2 len cap ((0 : Nat) : Int)) [askB s m] = true], [], .val (.one (.v (.bool true))), [askB s m]) := by kernel_rfl
theorem run10nil : callBy EL (evalC EL 1000) 10 [.one (.v (.slice none 0 0))] [] [false] = some ([decide (((0 : Nat) : Int) < ((0 : Nat) : Int)) = false], [], .val (.one (.v (.bool true))), []) := by kernel_rfl
theorem law10 {H : Type} {enc : TypeId × Value → H} {r : Reach} {W : World} {base : Nat} {v : Value} {d : DataW H} {ps : List MemPlace} (hval : Value.okWide Try.prog W r base 22 v) (h : DataW.Trod enc Try.prog W 0 (fun _ => true) true 22 v d ps) :
    Calls Try.prog 10 #[v] W (Trues W) := by
  refine asks_calls (K := 1) (Q := Trues) (fun w => law_run_nil (E := EL) envEL run10nil ⟨by decide, trivial⟩ w) ?_ hval h
  intro s m len cap hm _ _ hs w φ hmr
  exact law_run (envEQX s (k := 2) (by decide) hm hs) (run10 s m len cap) ⟨rfl, rfl, wfTQ _ _ _ _ _ _, trivial⟩ hmr

theorem run11 (s : Asks) (m len cap : Nat) : callBy (EQX s 3 m len cap) (evalC (EQX s 3 m len cap) 1000) 11 [.one (.sl 0 0 len cap)] [askB s m] [] =
    some ([bodyOf Try.prog 28 2 = bodyOf Try.prog 28 2, (TQ 3 len cap ((0 : Nat) : Int), [askB s m]) = (TQ 3 len cap ((0 : Nat) : Int), [askB s m]), wfS (TQ 3 len cap ((0 : Nat) : Int)) [askB s m] = true], [], .val (.one (.v (.bool true))), [askB s m]) := by kernel_rfl
theorem run11nil : callBy EL (evalC EL 1000) 11 [.one (.v (.slice none 0 0))] [] [false] = some ([decide (((0 : Nat) : Int) < ((0 : Nat) : Int)) = false], [], .val (.one (.v (.bool true))), []) := by kernel_rfl
theorem law11 {H : Type} {enc : TypeId × Value → H} {r : Reach} {W : World} {base : Nat} {v : Value} {d : DataW H} {ps : List MemPlace} (hval : Value.okWide Try.prog W r base 22 v) (h : DataW.Trod enc Try.prog W 0 (fun _ => true) true 22 v d ps) :
    Calls Try.prog 11 #[v] W (Trues W) := by
  refine asks_calls (K := 1) (Q := Trues) (fun w => law_run_nil (E := EL) envEL run11nil ⟨by decide, trivial⟩ w) ?_ hval h
  intro s m len cap hm _ _ hs w φ hmr
  exact law_run (envEQX s (k := 3) (by decide) hm hs) (run11 s m len cap) ⟨rfl, rfl, wfTQ _ _ _ _ _ _, trivial⟩ hmr

theorem run12 (s : Asks) (m len cap : Nat) : callBy (EGX s 0 m len cap) (evalC (EGX s 0 m len cap) 1000) 12 [.one (.sl 0 0 len cap)] [askB s m] [] =
    some ([bodyOf Try.prog 29 2 = bodyOf Try.prog 29 2, (TG 0 len cap ((0 : Nat) : Int), [askB s m]) = (TG 0 len cap ((0 : Nat) : Int), [askB s m]), wfS (TG 0 len cap ((0 : Nat) : Int)) [askB s m] = true], [], .val (.one (.v (.bool true))), [askB s m]) := by kernel_rfl
theorem run12nil : callBy EL (evalC EL 1000) 12 [.one (.v (.slice none 0 0))] [] [false] = some ([decide (((0 : Nat) : Int) < ((0 : Nat) : Int)) = false], [], .val (.one (.v (.bool true))), []) := by kernel_rfl
theorem law12 {H : Type} {enc : TypeId × Value → H} {r : Reach} {W : World} {base : Nat} {v : Value} {d : DataW H} {ps : List MemPlace} (hval : Value.okWide Try.prog W r base 22 v) (h : DataW.Trod enc Try.prog W 0 (fun _ => true) true 22 v d ps) :
    Calls Try.prog 12 #[v] W (Trues W) := by
  refine asks_calls (K := 3) (Q := Trues) (fun w => law_run_nil (E := EL) envEL run12nil ⟨by decide, trivial⟩ w) ?_ hval h
  intro s m len cap hm _ _ hs w φ hmr
  exact law_run (envEGX s (k := 0) (by decide) hm hs) (run12 s m len cap) ⟨rfl, rfl, wfTG _ _ _ _ _ _, trivial⟩ hmr

theorem run13 (s : Asks) (m len cap : Nat) : callBy (EGX s 1 m len cap) (evalC (EGX s 1 m len cap) 1000) 13 [.one (.sl 0 0 len cap)] [askB s m] [] =
    some ([bodyOf Try.prog 29 2 = bodyOf Try.prog 29 2, (TG 1 len cap ((0 : Nat) : Int), [askB s m]) = (TG 1 len cap ((0 : Nat) : Int), [askB s m]), wfS (TG 1 len cap ((0 : Nat) : Int)) [askB s m] = true], [], .val (.one (.v (.bool true))), [askB s m]) := by kernel_rfl
theorem run13nil : callBy EL (evalC EL 1000) 13 [.one (.v (.slice none 0 0))] [] [false] = some ([decide (((0 : Nat) : Int) < ((0 : Nat) : Int)) = false], [], .val (.one (.v (.bool true))), []) := by kernel_rfl
theorem law13 {H : Type} {enc : TypeId × Value → H} {r : Reach} {W : World} {base : Nat} {v : Value} {d : DataW H} {ps : List MemPlace} (hval : Value.okWide Try.prog W r base 22 v) (h : DataW.Trod enc Try.prog W 0 (fun _ => true) true 22 v d ps) :
    Calls Try.prog 13 #[v] W (Trues W) := by
  refine asks_calls (K := 3) (Q := Trues) (fun w => law_run_nil (E := EL) envEL run13nil ⟨by decide, trivial⟩ w) ?_ hval h
  intro s m len cap hm _ _ hs w φ hmr
  exact law_run (envEGX s (k := 1) (by decide) hm hs) (run13 s m len cap) ⟨rfl, rfl, wfTG _ _ _ _ _ _, trivial⟩ hmr

theorem run14 (s : Asks) (m len cap : Nat) : callBy (EGX s 2 m len cap) (evalC (EGX s 2 m len cap) 1000) 14 [.one (.sl 0 0 len cap)] [askB s m] [] =
    some ([bodyOf Try.prog 29 2 = bodyOf Try.prog 29 2, (TG 2 len cap ((0 : Nat) : Int), [askB s m]) = (TG 2 len cap ((0 : Nat) : Int), [askB s m]), wfS (TG 2 len cap ((0 : Nat) : Int)) [askB s m] = true], [], .val (.one (.v (.bool true))), [askB s m]) := by kernel_rfl
theorem run14nil : callBy EL (evalC EL 1000) 14 [.one (.v (.slice none 0 0))] [] [false] = some ([decide (((0 : Nat) : Int) < ((0 : Nat) : Int)) = false], [], .val (.one (.v (.bool true))), []) := by kernel_rfl
theorem law14 {H : Type} {enc : TypeId × Value → H} {r : Reach} {W : World} {base : Nat} {v : Value} {d : DataW H} {ps : List MemPlace} (hval : Value.okWide Try.prog W r base 22 v) (h : DataW.Trod enc Try.prog W 0 (fun _ => true) true 22 v d ps) :
    Calls Try.prog 14 #[v] W (Trues W) := by
  refine asks_calls (K := 3) (Q := Trues) (fun w => law_run_nil (E := EL) envEL run14nil ⟨by decide, trivial⟩ w) ?_ hval h
  intro s m len cap hm _ _ hs w φ hmr
  exact law_run (envEGX s (k := 2) (by decide) hm hs) (run14 s m len cap) ⟨rfl, rfl, wfTG _ _ _ _ _ _, trivial⟩ hmr

theorem run15 (s : Asks) (m len cap : Nat) : callBy (EGX s 3 m len cap) (evalC (EGX s 3 m len cap) 1000) 15 [.one (.sl 0 0 len cap)] [askB s m] [] =
    some ([bodyOf Try.prog 29 2 = bodyOf Try.prog 29 2, (TG 3 len cap ((0 : Nat) : Int), [askB s m]) = (TG 3 len cap ((0 : Nat) : Int), [askB s m]), wfS (TG 3 len cap ((0 : Nat) : Int)) [askB s m] = true], [], .val (.one (.v (.bool true))), [askB s m]) := by kernel_rfl
theorem run15nil : callBy EL (evalC EL 1000) 15 [.one (.v (.slice none 0 0))] [] [false] = some ([decide (((0 : Nat) : Int) < ((0 : Nat) : Int)) = false], [], .val (.one (.v (.bool true))), []) := by kernel_rfl
theorem law15 {H : Type} {enc : TypeId × Value → H} {r : Reach} {W : World} {base : Nat} {v : Value} {d : DataW H} {ps : List MemPlace} (hval : Value.okWide Try.prog W r base 22 v) (h : DataW.Trod enc Try.prog W 0 (fun _ => true) true 22 v d ps) :
    Calls Try.prog 15 #[v] W (Trues W) := by
  refine asks_calls (K := 3) (Q := Trues) (fun w => law_run_nil (E := EL) envEL run15nil ⟨by decide, trivial⟩ w) ?_ hval h
  intro s m len cap hm _ _ hs w φ hmr
  exact law_run (envEGX s (k := 3) (by decide) hm hs) (run15 s m len cap) ⟨rfl, rfl, wfTG _ _ _ _ _ _, trivial⟩ hmr

end Go.Ev
namespace Go.Proofs.Ythlcdpdehoknbaa.Laws
open Go Go.Ev Go.RowKit Go.ChangeShapes Go.WideShapes Go.ChangeAt

set_option maxRecDepth 100000 in
theorem lifted15 (os : Os) (started : os.Started) (H : Type) (enc : TypeId × Value → H) :
    ReturnsInHanded {} Try.checked os 15 .any (Rows.fieldNSpec.pre6 enc Try.prog Try.f15 Rows.fieldNRow.domain false) (Rows.fieldNSpec.post enc Try.prog Try.f15 false true false false) := by
  refine returnsInHanded_of_change (C := Try.checked) own started (by kernel_rfl) Try.func15
    (ChangeSpec.witness6 (enc := enc) (C := Try.checked) false ⟨#[], #[.slice none 0 0], []⟩ 8 (by kernel_rfl) (by kernel_rfl) (by kernel_rfl) (by kernel_rfl)) ?_
  intro W base args ds gs before hval0 hW _ _
  have hval : ∀ (j : Nat) t v, Try.f15.params[j]? = some t → args[j]? = some v → Value.okWide Try.prog W .any base t v := hval0
  have hW' := hW
  obtain ⟨p, q, hA0, hV, hbef, hfz, hnd⟩ := hW
  have hp : Try.f15.params = #[22] := by kernel_rfl
  have hA : DataW.TrodAll enc Try.prog W 0 (fun _ => true) true Try.f15.params.toList args.toList ds p := hA0
  rw [hp] at hA hval
  obtain ⟨v0, d0, rfl, rfl, h0⟩ := trodAll_one hA
  obtain ⟨rfl, rfl⟩ := trodVars_none hV
  refine (law15 (hval 0 22 v0 rfl rfl) h0).mono ?_
  rintro e W' ⟨rfl, hb⟩
  exact ⟨_, rfl, post_true (tb := 4) rfl hp (by kernel_rfl) u4 laid rd22 row22 rfl rfl hW' hb⟩

theorem holds15 : Rows.FieldNSaid :=
  OpenClaim.holds_of_wide 15 Try.f15 rfl rfl rfl rfl rfl rfl rfl ⟨rfl, rfl, rfl, rfl, rfl⟩ rfl rfl rfl rfl rfl (by kernel_rfl) Try.func15 (by kernel_rfl)
    (of_decide_eq_true (by kernel_rfl)) (by unfold Func.isWrapper; first | (rw [if_pos (by decide +kernel)]; kernel_rfl) | (rw [if_neg (by decide +kernel)]; exact ⟨rfl, rfl⟩))
    (fun os started H enc _ => lifted15 os started H enc)

end Go.Proofs.Ythlcdpdehoknbaa.Laws

namespace Go.Proofs.Ythlcdpdehoknbaa
open Go
theorem fieldN_holds : Rows.FieldNSaid := Laws.holds15
end Go.Proofs.Ythlcdpdehoknbaa

