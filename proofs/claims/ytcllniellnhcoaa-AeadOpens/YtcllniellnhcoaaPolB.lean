/- The page's limbs, its tag, and that it is the program's -/
import Derived.Test.YtcllniellnhcoaaPolA
namespace Go.Ev
open Go Go.Proofs Go.RowKit
/-! five limbs of 26 bits -/
def c5 (u : Nat → Nat) : List Piece := [.a (.u .u64 (u 0)), .a (.u .u64 (u 1)), .a (.u .u64 (u 2)), .a (.u .u64 (u 3)), .a (.u .u64 (u 4))]
def C5 (u : Nat → Nat) : V1 := .agg (c5 u)
def b5 (u : Nat → Nat) : Blk := ⟨c5 u, 82, true, false, 0⟩
theorem b5_free (u : Nat → Nat) : Free (b5 u) := fun _ => rfl
def five (a b c d e : Nat) : Nat → Nat
  | 0 => a
  | 1 => b
  | 2 => c
  | 3 => d
  | _ => e
def fn5 (g : (Nat → Nat) → (Nat → Nat)) (vs : List V1) : Option (List Prop × AV) :=
  match vs with
  | [.agg [.a (.u .u64 a), .a (.u .u64 b), .a (.u .u64 c), .a (.u .u64 d), .a (.u .u64 e)]] => some ([], .val (C5 (g (five a b c d e))))
  | _ => none
theorem fn5_ok {f : FuncId} {g : (Nat → Nat) → (Nat → Nat)} (hg : ∀ u, Spec f [C5 u] (.val (C5 (g u)))) : CTok ⟨f, fn5 g⟩ := by
  intro vs ob r h ho
  simp only [fn5] at h
  split at h
  · rename_i a b c d e
    simp only [Option.some.injEq, Prod.mk.injEq] at h
    obtain ⟨rfl, rfl⟩ := h
    exact hg (five a b c d e)
  · simp at h
def sgT (d : Nat → Nat) : Nat → Nat
  | 0 => d 0
  | i + 1 => (d (i + 1) + sgT d i / 2 ^ 26) % 18446744073709551616
def m26 (x : Nat) : Nat := x % 18446744073709551616 &&& 67108863 % 18446744073709551616
def sg (d : Nat → Nat) : Nat → Nat := five (m26 (sgT d 0)) (m26 (sgT d 1)) (m26 (sgT d 2)) (m26 (sgT d 3)) (sgT d 4)
theorem run60a (d : Nat → Nat) : callR E0 1000 60 [C5 d] [] = some ([], .val (C5 (sg d))) := by kernel_rfl
theorem ct60 : CTok ⟨60, fn5 sg⟩ := fn5_ok fun u => spec_run envE0 rfl (run60a u) trivial rfl rfl
def cr0 (e : Nat → Nat) : Nat := (e 0 + 5 * (e 4 / 2 ^ 26) % 18446744073709551616) % 18446744073709551616
def crE (e : Nat → Nat) : Nat → Nat := five (m26 (cr0 e)) ((e 1 + cr0 e / 2 ^ 26) % 18446744073709551616) (e 2) (e 3) (m26 (e 4))
def cr (d : Nat → Nat) : Nat → Nat := crE (sg d)
theorem run59a (d : Nat → Nat) : callR (mkE [⟨60, fn5 sg⟩] (fun _ _ => false)) 1000 59 [C5 d] [] = some ([], .val (C5 (cr d))) := by kernel_rfl
theorem ct59 : CTok ⟨59, fn5 cr⟩ := fn5_ok fun u => spec_run (envMk (L := [⟨60, fn5 sg⟩]) ⟨ct60, trivial⟩ _) rfl (run59a u) trivial rfl rfl
/-! bits into limbs -/
noncomputable def E58 : Env := mkE [] (fun g t => match g with | 58 => memN t [8, 9, 14, 15, 18, 20, 22, 1000022, 24, 1000024, 29, 11] | _ => false)
theorem envE58 : EnvOK E58 := envMk (L := []) trivial _
def T58 (s : ByteArray) (i : Int) : List AV := slots 33 [(0, .val (sS s)), (2, pV 0), (3, pV 1), (4, iV i)]
def bitS (s : ByteArray) (i : Nat) : Nat := (s.data.getD (i / 8) 0).toNat / 2 ^ (min (i % 8) 8) % 256 &&& 1 % 256
def orB (x m : Nat) : Nat := x % 18446744073709551616 ||| 1 * 2 ^ (min m 64) % 18446744073709551616 % 18446744073709551616
def upd (u : Nat → Nat) (q x : Nat) : Nat → Nat := fun j => bif Nat.beq j q then x else u j
theorem l58n (s : ByteArray) (i : Nat) (u : Nat → Nat) : runTo E58 1000 (E58.S 58) (bodyOf Try.prog 58 3) (T58 s (i : Int)) [b5 zF, b5 u] [true, false] (T58 s ((i : Int) + 1)) 2 =
  some ([inI (8 * (s.size : Int)), decide ((i : Int) < 8 * (s.size : Int)) = true, (8 : Int) ≠ 0 ∧ inI ((i / 8 : Nat) : Int), (0 : Int) ≤ ((i / 8 : Nat) : Int) ∧ ((i / 8 : Nat) : Int) < (s.size : Int), (0 : Int) ≤ ((i % 8 : Nat) : Int), decide (bitS s i = 1) = false, inI ((i : Int) + 1)], .normal, T58 s ((i : Int) + 1), [b5 zF, b5 u]) := by kernel_rfl
theorem l58y0 (s : ByteArray) (i : Nat) (u : Nat → Nat) : runTo E58 1000 (E58.S 58) (bodyOf Try.prog 58 3) (T58 s (i : Int)) [b5 zF, b5 u] [true, true, false, false] (T58 s ((i : Int) + 1)) 2 =
  some ([inI (8 * (s.size : Int)), decide ((i : Int) < 8 * (s.size : Int)) = true, (8 : Int) ≠ 0 ∧ inI ((i / 8 : Nat) : Int), (0 : Int) ≤ ((i / 8 : Nat) : Int) ∧ ((i / 8 : Nat) : Int) < (s.size : Int), (0 : Int) ≤ ((i % 8 : Nat) : Int), decide (bitS s i = 1) = true,
    ((i / 26 : Nat) : Int) = ((0 : Nat) : Int), (26 : Int) ≠ 0 ∧ inI ((i / 26 : Nat) : Int), ((i / 26 : Nat) : Int) = ((0 : Nat) : Int), (26 : Int) ≠ 0 ∧ inI ((i / 26 : Nat) : Int), (0 : Int) ≤ ((i % 26 : Nat) : Int), inI ((i : Int) + 1)], .normal, T58 s ((i : Int) + 1), [b5 zF, b5 (upd u 0 (orB (u 0) (i % 26)))]) := by kernel_rfl
theorem l58y1 (s : ByteArray) (i : Nat) (u : Nat → Nat) : runTo E58 1000 (E58.S 58) (bodyOf Try.prog 58 3) (T58 s (i : Int)) [b5 zF, b5 u] [true, true, true, false, true, false] (T58 s ((i : Int) + 1)) 2 =
  some ([inI (8 * (s.size : Int)), decide ((i : Int) < 8 * (s.size : Int)) = true, (8 : Int) ≠ 0 ∧ inI ((i / 8 : Nat) : Int), (0 : Int) ≤ ((i / 8 : Nat) : Int) ∧ ((i / 8 : Nat) : Int) < (s.size : Int), (0 : Int) ≤ ((i % 8 : Nat) : Int), decide (bitS s i = 1) = true,
    ((i / 26 : Nat) : Int) = ((1 : Nat) : Int), (26 : Int) ≠ 0 ∧ inI ((i / 26 : Nat) : Int), ((i / 26 : Nat) : Int) = ((1 : Nat) : Int), (26 : Int) ≠ 0 ∧ inI ((i / 26 : Nat) : Int), (0 : Int) ≤ ((i % 26 : Nat) : Int), inI ((i : Int) + 1)], .normal, T58 s ((i : Int) + 1), [b5 zF, b5 (upd u 1 (orB (u 1) (i % 26)))]) := by kernel_rfl
theorem l58y2 (s : ByteArray) (i : Nat) (u : Nat → Nat) : runTo E58 1000 (E58.S 58) (bodyOf Try.prog 58 3) (T58 s (i : Int)) [b5 zF, b5 u] [true, true, true, true, false, true, true, false] (T58 s ((i : Int) + 1)) 2 =
  some ([inI (8 * (s.size : Int)), decide ((i : Int) < 8 * (s.size : Int)) = true, (8 : Int) ≠ 0 ∧ inI ((i / 8 : Nat) : Int), (0 : Int) ≤ ((i / 8 : Nat) : Int) ∧ ((i / 8 : Nat) : Int) < (s.size : Int), (0 : Int) ≤ ((i % 8 : Nat) : Int), decide (bitS s i = 1) = true,
    ((i / 26 : Nat) : Int) = ((2 : Nat) : Int), (26 : Int) ≠ 0 ∧ inI ((i / 26 : Nat) : Int), ((i / 26 : Nat) : Int) = ((2 : Nat) : Int), (26 : Int) ≠ 0 ∧ inI ((i / 26 : Nat) : Int), (0 : Int) ≤ ((i % 26 : Nat) : Int), inI ((i : Int) + 1)], .normal, T58 s ((i : Int) + 1), [b5 zF, b5 (upd u 2 (orB (u 2) (i % 26)))]) := by kernel_rfl
theorem l58y3 (s : ByteArray) (i : Nat) (u : Nat → Nat) : runTo E58 1000 (E58.S 58) (bodyOf Try.prog 58 3) (T58 s (i : Int)) [b5 zF, b5 u] [true, true, true, true, true, false, true, true, true, false] (T58 s ((i : Int) + 1)) 2 =
  some ([inI (8 * (s.size : Int)), decide ((i : Int) < 8 * (s.size : Int)) = true, (8 : Int) ≠ 0 ∧ inI ((i / 8 : Nat) : Int), (0 : Int) ≤ ((i / 8 : Nat) : Int) ∧ ((i / 8 : Nat) : Int) < (s.size : Int), (0 : Int) ≤ ((i % 8 : Nat) : Int), decide (bitS s i = 1) = true,
    ((i / 26 : Nat) : Int) = ((3 : Nat) : Int), (26 : Int) ≠ 0 ∧ inI ((i / 26 : Nat) : Int), ((i / 26 : Nat) : Int) = ((3 : Nat) : Int), (26 : Int) ≠ 0 ∧ inI ((i / 26 : Nat) : Int), (0 : Int) ≤ ((i % 26 : Nat) : Int), inI ((i : Int) + 1)], .normal, T58 s ((i : Int) + 1), [b5 zF, b5 (upd u 3 (orB (u 3) (i % 26)))]) := by kernel_rfl
theorem l58y4 (s : ByteArray) (i : Nat) (u : Nat → Nat) : runTo E58 1000 (E58.S 58) (bodyOf Try.prog 58 3) (T58 s (i : Int)) [b5 zF, b5 u] [true, true, true, true, true, true, false, true, true, true, true, false] (T58 s ((i : Int) + 1)) 2 =
  some ([inI (8 * (s.size : Int)), decide ((i : Int) < 8 * (s.size : Int)) = true, (8 : Int) ≠ 0 ∧ inI ((i / 8 : Nat) : Int), (0 : Int) ≤ ((i / 8 : Nat) : Int) ∧ ((i / 8 : Nat) : Int) < (s.size : Int), (0 : Int) ≤ ((i % 8 : Nat) : Int), decide (bitS s i = 1) = true,
    ((i / 26 : Nat) : Int) = ((4 : Nat) : Int), (26 : Int) ≠ 0 ∧ inI ((i / 26 : Nat) : Int), ((i / 26 : Nat) : Int) = ((4 : Nat) : Int), (26 : Int) ≠ 0 ∧ inI ((i / 26 : Nat) : Int), (0 : Int) ≤ ((i % 26 : Nat) : Int), inI ((i : Int) + 1)], .normal, T58 s ((i : Int) + 1), [b5 zF, b5 (upd u 4 (orB (u 4) (i % 26)))]) := by kernel_rfl
theorem l58x (s : ByteArray) (i : Nat) (u : Nat → Nat) : runTo E58 1000 (E58.S 58) (bodyOf Try.prog 58 3) (T58 s (i : Int)) [b5 zF, b5 u] [false] (T58 s (i : Int)) 2 =
  some ([inI (8 * (s.size : Int)), decide ((i : Int) < 8 * (s.size : Int)) = false], .exit 0, T58 s (i : Int), [b5 zF, b5 u]) := by kernel_rfl
theorem tT58 (s : ByteArray) (i : Int) : tmsWf 2 (T58 s i) = true := by kernel_rfl
theorem wfT58 (s : ByteArray) (i : Int) (u v : Nat → Nat) : wfS (T58 s i) [b5 u, b5 v] = true := wfS_of (by simp [b5_free]) (tT58 s i)
/-! what the limbs are -/
def l26 (x : Nat) (j : Nat) : Nat := x / 67108864 ^ j % 67108864
theorem b5_congr {u v : Nat → Nat} (h : ∀ j, j < 5 → u j = v j) : b5 u = b5 v := by
  unfold b5 c5
  rw [h 0 (by decide), h 1 (by decide), h 2 (by decide), h 3 (by decide), h 4 (by decide)]
theorem leN_byte : ∀ (l : List Nat) (j : Nat), (∀ b ∈ l, b < 256) → leN l / 256 ^ j % 256 = l.getD j 0
  | [], j, _ => by simp [leN]
  | b :: l, 0, h => by
    have := h b (by simp)
    simp only [leN, Nat.pow_zero, Nat.div_one, List.getD_cons_zero]; omega
  | b :: l, j + 1, h => by
    have hb := h b (by simp)
    have ih := leN_byte l j (fun x hx => h x (by simp [hx]))
    simp only [leN, List.getD_cons_succ]
    rw [← ih, Nat.pow_succ, Nat.mul_comm (256 ^ j), ← Nat.div_div_eq_div_mul]
    rw [show (b + 256 * leN l) / 256 = leN l by omega]
theorem leS_byte (s : ByteArray) (j : Nat) : (s.data.getD j 0).toNat = leS s / 256 ^ j % 256 := by
  unfold leS
  rw [leN_byte _ _ (numsB_lt s), List.getD_eq_getElem?_getD, numsB, List.getElem?_map]
  rw [Array.getD_eq_getD_getElem?, ← Array.getElem?_toList]
  cases s.data.toList[j]? <;> rfl
theorem and1 (x : Nat) : x % 256 &&& 1 % 256 = x % 2 := by
  rw [show (1 % 256 : Nat) = 2 ^ 1 - 1 from rfl, Nat.and_two_pow_sub_one_eq_mod]; omega
theorem bitS_eq (s : ByteArray) (i : Nat) : bitS s i = leS s / 2 ^ i % 2 := by
  unfold bitS
  rw [and1, leS_byte, Nat.min_eq_left (by omega : i % 8 ≤ 8)]
  have hp : (2 : Nat) ^ i = 256 ^ (i / 8) * 2 ^ (i % 8) := by
    rw [show (256 : Nat) = 2 ^ 8 from rfl, ← Nat.pow_mul, ← Nat.pow_add, Nat.div_add_mod]
  rw [hp, ← Nat.div_div_eq_div_mul]
  generalize leS s / 256 ^ (i / 8) = x
  have hm : i % 8 < 8 := Nat.mod_lt _ (by decide)
  generalize i % 8 = m at *
  match m, hm with
  | 0, _ => simp only [Nat.reducePow]; omega
  | 1, _ => simp only [Nat.reducePow]; omega
  | 2, _ => simp only [Nat.reducePow]; omega
  | 3, _ => simp only [Nat.reducePow]; omega
  | 4, _ => simp only [Nat.reducePow]; omega
  | 5, _ => simp only [Nat.reducePow]; omega
  | 6, _ => simp only [Nat.reducePow]; omega
  | 7, _ => simp only [Nat.reducePow]; omega
theorem mod_next (x i : Nat) : x % 2 ^ (i + 1) = x % 2 ^ i + 2 ^ i * (x / 2 ^ i % 2) := by rw [Nat.pow_succ, Nat.mod_mul]
theorem orB_eq (x m : Nat) (hx : x < 2 ^ m) (hm : m < 26) : orB x m = x + 2 ^ m := by
  have h2 : 2 ^ m ≤ 2 ^ 25 := Nat.pow_le_pow_right (by decide) (by omega)
  unfold orB
  rw [Nat.min_eq_left (by omega), Nat.mod_eq_of_lt (show x < 18446744073709551616 by omega), Nat.one_mul, Nat.mod_eq_of_lt (show 2 ^ m < 18446744073709551616 by omega), Nat.mod_eq_of_lt (show 2 ^ m < 18446744073709551616 by omega)]
  have := orSh (k := m) 1 hx
  rwa [Nat.one_mul] at this
theorem upd_l26_0 (y m : Nat) (hm : m < 26) (hy : y < 2 ^ (0 + m)) : b5 (upd (l26 y) 0 (orB (l26 y 0) m)) = b5 (l26 (y + 2 ^ (0 + m))) := by
  have h2 : 2 ^ m ≤ 2 ^ 25 := Nat.pow_le_pow_right (by decide) (by omega)
  have h1 : 0 < 2 ^ m := Nat.pow_pos (by decide)
  rw [Nat.pow_add] at hy ⊢
  have ho : orB (l26 y 0) m = l26 y 0 + 2 ^ m := orB_eq _ _ (by
    unfold l26
    simp only [Nat.reducePow] at hy ⊢
    omega) hm
  generalize 2 ^ m = w at *
  refine b5_congr fun j hj => ?_
  unfold upd
  rw [ho]
  unfold l26
  match j, hj with
  | 0, _ =>
    simp only [Nat.beq_refl, cond_true, Nat.reducePow] at hy ⊢
    omega
  | 1, _ =>
    simp only [show Nat.beq 1 0 = false from rfl, cond_false, Nat.reducePow] at hy ⊢
    omega
  | 2, _ =>
    simp only [show Nat.beq 2 0 = false from rfl, cond_false, Nat.reducePow] at hy ⊢
    omega
  | 3, _ =>
    simp only [show Nat.beq 3 0 = false from rfl, cond_false, Nat.reducePow] at hy ⊢
    omega
  | 4, _ =>
    simp only [show Nat.beq 4 0 = false from rfl, cond_false, Nat.reducePow] at hy ⊢
    omega
theorem upd_l26_1 (y m : Nat) (hm : m < 26) (hy : y < 2 ^ (26 + m)) : b5 (upd (l26 y) 1 (orB (l26 y 1) m)) = b5 (l26 (y + 2 ^ (26 + m))) := by
  have h2 : 2 ^ m ≤ 2 ^ 25 := Nat.pow_le_pow_right (by decide) (by omega)
  have h1 : 0 < 2 ^ m := Nat.pow_pos (by decide)
  rw [Nat.pow_add] at hy ⊢
  have ho : orB (l26 y 1) m = l26 y 1 + 2 ^ m := orB_eq _ _ (by
    unfold l26
    simp only [Nat.reducePow] at hy ⊢
    omega) hm
  generalize 2 ^ m = w at *
  refine b5_congr fun j hj => ?_
  unfold upd
  rw [ho]
  unfold l26
  match j, hj with
  | 0, _ =>
    simp only [show Nat.beq 0 1 = false from rfl, cond_false, Nat.reducePow] at hy ⊢
    omega
  | 1, _ =>
    simp only [Nat.beq_refl, cond_true, Nat.reducePow] at hy ⊢
    omega
  | 2, _ =>
    simp only [show Nat.beq 2 1 = false from rfl, cond_false, Nat.reducePow] at hy ⊢
    omega
  | 3, _ =>
    simp only [show Nat.beq 3 1 = false from rfl, cond_false, Nat.reducePow] at hy ⊢
    omega
  | 4, _ =>
    simp only [show Nat.beq 4 1 = false from rfl, cond_false, Nat.reducePow] at hy ⊢
    omega
theorem upd_l26_2 (y m : Nat) (hm : m < 26) (hy : y < 2 ^ (52 + m)) : b5 (upd (l26 y) 2 (orB (l26 y 2) m)) = b5 (l26 (y + 2 ^ (52 + m))) := by
  have h2 : 2 ^ m ≤ 2 ^ 25 := Nat.pow_le_pow_right (by decide) (by omega)
  have h1 : 0 < 2 ^ m := Nat.pow_pos (by decide)
  rw [Nat.pow_add] at hy ⊢
  have ho : orB (l26 y 2) m = l26 y 2 + 2 ^ m := orB_eq _ _ (by
    unfold l26
    simp only [Nat.reducePow] at hy ⊢
    omega) hm
  generalize 2 ^ m = w at *
  refine b5_congr fun j hj => ?_
  unfold upd
  rw [ho]
  unfold l26
  match j, hj with
  | 0, _ =>
    simp only [show Nat.beq 0 2 = false from rfl, cond_false, Nat.reducePow] at hy ⊢
    omega
  | 1, _ =>
    simp only [show Nat.beq 1 2 = false from rfl, cond_false, Nat.reducePow] at hy ⊢
    omega
  | 2, _ =>
    simp only [Nat.beq_refl, cond_true, Nat.reducePow] at hy ⊢
    omega
  | 3, _ =>
    simp only [show Nat.beq 3 2 = false from rfl, cond_false, Nat.reducePow] at hy ⊢
    omega
  | 4, _ =>
    simp only [show Nat.beq 4 2 = false from rfl, cond_false, Nat.reducePow] at hy ⊢
    omega
theorem upd_l26_3 (y m : Nat) (hm : m < 26) (hy : y < 2 ^ (78 + m)) : b5 (upd (l26 y) 3 (orB (l26 y 3) m)) = b5 (l26 (y + 2 ^ (78 + m))) := by
  have h2 : 2 ^ m ≤ 2 ^ 25 := Nat.pow_le_pow_right (by decide) (by omega)
  have h1 : 0 < 2 ^ m := Nat.pow_pos (by decide)
  rw [Nat.pow_add] at hy ⊢
  have ho : orB (l26 y 3) m = l26 y 3 + 2 ^ m := orB_eq _ _ (by
    unfold l26
    simp only [Nat.reducePow] at hy ⊢
    omega) hm
  generalize 2 ^ m = w at *
  refine b5_congr fun j hj => ?_
  unfold upd
  rw [ho]
  unfold l26
  match j, hj with
  | 0, _ =>
    simp only [show Nat.beq 0 3 = false from rfl, cond_false, Nat.reducePow] at hy ⊢
    omega
  | 1, _ =>
    simp only [show Nat.beq 1 3 = false from rfl, cond_false, Nat.reducePow] at hy ⊢
    omega
  | 2, _ =>
    simp only [show Nat.beq 2 3 = false from rfl, cond_false, Nat.reducePow] at hy ⊢
    omega
  | 3, _ =>
    simp only [Nat.beq_refl, cond_true, Nat.reducePow] at hy ⊢
    omega
  | 4, _ =>
    simp only [show Nat.beq 4 3 = false from rfl, cond_false, Nat.reducePow] at hy ⊢
    omega
theorem upd_l26_4 (y m : Nat) (hm : m < 26) (hy : y < 2 ^ (104 + m)) : b5 (upd (l26 y) 4 (orB (l26 y 4) m)) = b5 (l26 (y + 2 ^ (104 + m))) := by
  have h2 : 2 ^ m ≤ 2 ^ 25 := Nat.pow_le_pow_right (by decide) (by omega)
  have h1 : 0 < 2 ^ m := Nat.pow_pos (by decide)
  rw [Nat.pow_add] at hy ⊢
  have ho : orB (l26 y 4) m = l26 y 4 + 2 ^ m := orB_eq _ _ (by
    unfold l26
    simp only [Nat.reducePow] at hy ⊢
    omega) hm
  generalize 2 ^ m = w at *
  refine b5_congr fun j hj => ?_
  unfold upd
  rw [ho]
  unfold l26
  match j, hj with
  | 0, _ =>
    simp only [show Nat.beq 0 4 = false from rfl, cond_false, Nat.reducePow] at hy ⊢
    omega
  | 1, _ =>
    simp only [show Nat.beq 1 4 = false from rfl, cond_false, Nat.reducePow] at hy ⊢
    omega
  | 2, _ =>
    simp only [show Nat.beq 2 4 = false from rfl, cond_false, Nat.reducePow] at hy ⊢
    omega
  | 3, _ =>
    simp only [show Nat.beq 3 4 = false from rfl, cond_false, Nat.reducePow] at hy ⊢
    omega
  | 4, _ =>
    simp only [Nat.beq_refl, cond_true, Nat.reducePow] at hy ⊢
    omega
theorem loop58 (s : ByteArray) (hs : s.size ≤ 17) (hx : leS s < 1361129467683753853853498429727072845824) : Goes Try.prog (.loop (bodyOf Try.prog 58 3)) (.exit 0) (T58 s ((0 : Nat) : Int)) [b5 zF, b5 (l26 0)] (T58 s ((8 * s.size : Nat) : Int)) [b5 zF, b5 (l26 (leS s))] := by
  have e0 : leS s % 2 ^ 0 = 0 := by rw [Nat.pow_zero, Nat.mod_one]
  have eN : leS s % 2 ^ (8 * s.size) = leS s := by
    have := leS_lt s
    rw [show (256 : Nat) = 2 ^ 8 from rfl, ← Nat.pow_mul] at this
    exact Nat.mod_eq_of_lt this
  have key : Goes Try.prog (.loop (bodyOf Try.prog 58 3)) (.exit 0) (T58 s ((0 : Nat) : Int)) [b5 zF, b5 (l26 (leS s % 2 ^ 0))] (T58 s ((8 * s.size : Nat) : Int)) [b5 zF, b5 (l26 (leS s % 2 ^ (8 * s.size)))] := by
    refine loop_goes (N := 8 * s.size) (k := 2) (T := fun i => T58 s (i : Int)) (M := fun i => [b5 zF, b5 (l26 (leS s % 2 ^ i))]) (by simp) (fun _ _ => rfl) (fun i hi => ?_) ?_
    · have o1 : inI (8 * (s.size : Int)) := by unfold inI; omega
      have o2 : decide ((i : Int) < 8 * (s.size : Int)) = true := decide_eq_true (by omega)
      have o3 : (8 : Int) ≠ 0 ∧ inI ((i / 8 : Nat) : Int) := ⟨by decide, by unfold inI; omega⟩
      have o4 : (0 : Int) ≤ ((i / 8 : Nat) : Int) ∧ ((i / 8 : Nat) : Int) < (s.size : Int) := by omega
      have o5 : (0 : Int) ≤ ((i % 8 : Nat) : Int) := by omega
      have o6 : inI ((i : Int) + 1) := by unfold inI; omega
      have o7 : (26 : Int) ≠ 0 ∧ inI ((i / 26 : Nat) : Int) := ⟨by decide, by unfold inI; omega⟩
      have o8 : (0 : Int) ≤ ((i % 26 : Nat) : Int) := by omega
      have hn := mod_next (leS s) i
      have hb := bitS_eq s i
      have hlt : leS s % 2 ^ i < 2 ^ i := Nat.mod_lt _ (Nat.pow_pos (by decide))
      have hm : i % 26 < 26 := Nat.mod_lt _ (by decide)
      by_cases h1 : bitS s i = 1
      · rw [← hb, h1, Nat.mul_one] at hn
        have hdm := Nat.div_add_mod i 26
        have hq : i / 26 < 5 := by
          rcases Nat.lt_or_ge (i / 26) 5 with h | h
          · exact h
          · exfalso
            have hz : leS s / 2 ^ i = 0 := Nat.div_eq_of_lt (Nat.lt_of_lt_of_le hx (Nat.pow_le_pow_right (n := 2) (i := 130) (by decide) (by omega)))
            rw [hz] at hb
            omega
        have h9 : decide (bitS s i = 1) = true := decide_eq_true h1
        have hQ : ∀ q : Nat, i / 26 = q → ((i / 26 : Nat) : Int) = (q : Int) := fun q h => by rw [h]
        generalize hqq : i / 26 = q at hq
        have step : ∀ q : Nat, i / 26 = q → (b5 (upd (l26 (leS s % 2 ^ i)) q (orB (l26 (leS s % 2 ^ i) q) (i % 26))) = b5 (l26 (leS s % 2 ^ i + 2 ^ (26 * q + i % 26)))) → b5 (upd (l26 (leS s % 2 ^ i)) q (orB (l26 (leS s % 2 ^ i) q) (i % 26))) = b5 (l26 (leS s % 2 ^ (i + 1))) := by
          intro q h e
          rw [e, hn, ← h, hdm]
        have hy : leS s % 2 ^ i < 2 ^ (26 * q + i % 26) := by rw [← hqq, hdm]; exact hlt
        match q, hq with
        | 0, _ =>
          have e := step 0 hqq (upd_l26_0 _ _ hm hy)
          have : Goes Try.prog (bodyOf Try.prog 58 3) .normal (T58 s (i : Int)) [b5 zF, b5 (l26 (leS s % 2 ^ i))] (T58 s ((i : Int) + 1)) [b5 zF, b5 (upd (l26 (leS s % 2 ^ i)) 0 (orB (l26 (leS s % 2 ^ i) 0) (i % 26)))] := Runs.goes envE58 ⟨_, _, l58y0 s i _, ⟨o1, o2, o3, o4, o5, h9, hQ 0 hqq, o7, hQ 0 hqq, o7, o8, o6, trivial⟩, wfT58 _ _ _ _⟩
          rw [e] at this
          exact this
        | 1, _ =>
          have e := step 1 hqq (upd_l26_1 _ _ hm hy)
          have : Goes Try.prog (bodyOf Try.prog 58 3) .normal (T58 s (i : Int)) [b5 zF, b5 (l26 (leS s % 2 ^ i))] (T58 s ((i : Int) + 1)) [b5 zF, b5 (upd (l26 (leS s % 2 ^ i)) 1 (orB (l26 (leS s % 2 ^ i) 1) (i % 26)))] := Runs.goes envE58 ⟨_, _, l58y1 s i _, ⟨o1, o2, o3, o4, o5, h9, hQ 1 hqq, o7, hQ 1 hqq, o7, o8, o6, trivial⟩, wfT58 _ _ _ _⟩
          rw [e] at this
          exact this
        | 2, _ =>
          have e := step 2 hqq (upd_l26_2 _ _ hm hy)
          have : Goes Try.prog (bodyOf Try.prog 58 3) .normal (T58 s (i : Int)) [b5 zF, b5 (l26 (leS s % 2 ^ i))] (T58 s ((i : Int) + 1)) [b5 zF, b5 (upd (l26 (leS s % 2 ^ i)) 2 (orB (l26 (leS s % 2 ^ i) 2) (i % 26)))] := Runs.goes envE58 ⟨_, _, l58y2 s i _, ⟨o1, o2, o3, o4, o5, h9, hQ 2 hqq, o7, hQ 2 hqq, o7, o8, o6, trivial⟩, wfT58 _ _ _ _⟩
          rw [e] at this
          exact this
        | 3, _ =>
          have e := step 3 hqq (upd_l26_3 _ _ hm hy)
          have : Goes Try.prog (bodyOf Try.prog 58 3) .normal (T58 s (i : Int)) [b5 zF, b5 (l26 (leS s % 2 ^ i))] (T58 s ((i : Int) + 1)) [b5 zF, b5 (upd (l26 (leS s % 2 ^ i)) 3 (orB (l26 (leS s % 2 ^ i) 3) (i % 26)))] := Runs.goes envE58 ⟨_, _, l58y3 s i _, ⟨o1, o2, o3, o4, o5, h9, hQ 3 hqq, o7, hQ 3 hqq, o7, o8, o6, trivial⟩, wfT58 _ _ _ _⟩
          rw [e] at this
          exact this
        | 4, _ =>
          have e := step 4 hqq (upd_l26_4 _ _ hm hy)
          have : Goes Try.prog (bodyOf Try.prog 58 3) .normal (T58 s (i : Int)) [b5 zF, b5 (l26 (leS s % 2 ^ i))] (T58 s ((i : Int) + 1)) [b5 zF, b5 (upd (l26 (leS s % 2 ^ i)) 4 (orB (l26 (leS s % 2 ^ i) 4) (i % 26)))] := Runs.goes envE58 ⟨_, _, l58y4 s i _, ⟨o1, o2, o3, o4, o5, h9, hQ 4 hqq, o7, hQ 4 hqq, o7, o8, o6, trivial⟩, wfT58 _ _ _ _⟩
          rw [e] at this
          exact this
      · have h0 : leS s / 2 ^ i % 2 = 0 := by omega
        rw [h0, Nat.mul_zero, Nat.add_zero] at hn
        rw [hn]
        exact Runs.goes envE58 ⟨_, _, l58n s i _, ⟨o1, o2, o3, o4, o5, decide_eq_false h1, o6, trivial⟩, wfT58 _ _ _ _⟩
    · exact Runs.goes envE58 ⟨_, _, l58x s _ _, ⟨by unfold inI; omega, decide_eq_false (by omega), trivial⟩, wfT58 _ _ _ _⟩
  rw [e0, eN] at key
  exact key
theorem b5_zero : b5 (l26 0) = b5 zF := b5_congr fun j _ => by unfold l26 zF; simp
noncomputable def EU58 (s : ByteArray) (n : Nat) (u : Nat → Nat) : Env := EL1 E0 3 (bodyOf Try.prog 58 3) (sumC (T58 s ((0 : Nat) : Int)) [b5 zF, b5 zF] (T58 s (n : Int)) [b5 zF, b5 u] (.exit 0))
theorem run58a (s : ByteArray) (n : Nat) (u : Nat → Nat) : callR (EU58 s n u) 1000 58 [sS s] [] = some ([bodyOf Try.prog 58 3 = bodyOf Try.prog 58 3, (T58 s ((0 : Nat) : Int), [b5 zF, b5 zF]) = (T58 s ((0 : Nat) : Int), [b5 zF, b5 zF]), wfS (T58 s ((0 : Nat) : Int)) [b5 zF, b5 zF] = true], .val (C5 u)) := by kernel_rfl
theorem spec58 (s : ByteArray) (hs : s.size ≤ 17) (hx : leS s < 1361129467683753853853498429727072845824) : Spec 58 [sS s] (.val (C5 (l26 (leS s)))) := by
  have hL := loop58 s hs hx
  rw [b5_zero] at hL
  exact spec_run (E := EU58 s (8 * s.size) (l26 (leS s))) (envEL1 envE0 (sumC_ok (by simp only [List.length_cons]) hL)) rfl (run58a s _ _) ⟨rfl, rfl, wfT58 _ _ _ _, trivial⟩ rfl rfl
theorem ct58 : CTok ⟨58, fnS1 (fun s => [s.size ≤ 17, leS s < 1361129467683753853853498429727072845824]) fun s => .val (C5 (l26 (leS s)))⟩ := fnS1_ok fun s h => spec58 s h.1 h.2.1
end Go.Ev

namespace Go.Ev
open Go Go.Proofs Go.RowKit
def ctsR : List CT := [⟨33, fnS1 (fun s => [s.size = 16]) fun s => .val (sS (clampB s))⟩, ⟨58, fnS1 (fun s => [s.size ≤ 17, leS s < 1361129467683753853853498429727072845824]) fun s => .val (C5 (l26 (leS s)))⟩, ⟨59, fn5 cr⟩, ⟨60, fn5 sg⟩]
theorem ctsR_ok : AllCT ctsR := ⟨ct33, ct58, ct59, ct60, trivial⟩
noncomputable def ETr : Env := mkE ctsR (fun g t => match g with | 30 => memN t [19, 24, 30, 31, 35, 113, 120, 2000137, 139, 144, 147, 148, 2000149, 151, 1000151, 156, 161, 163, 4000163, 141, 2000165] | _ => false)
theorem envETr : EnvOK ETr := envMk ctsR_ok _
def TPg (k s : ByteArray) : List AV := slots 166 [(0, .val (sS k)), (1, .val (sS s)), (4, .val (sS .empty)), (5, pV 0), (6, pV 1)]
theorem tTPg (k s : ByteArray) : tmsWf 2 (TPg k s) = true := by kernel_rfl
/-! the page's product -/
def pl (a r : Nat → Nat) (i k : Nat) : Nat := a i * r k % 18446744073709551616
def p5 (a r : Nat → Nat) (i k : Nat) : Nat := 5 * a i % 18446744073709551616 * r k % 18446744073709551616
def ac (x y : Nat) : Nat := (x + y) % 18446744073709551616
def dd (a r : Nat → Nat) : Nat → Nat := five
  (ac (ac (ac (ac (ac 0 (pl a r 0 0)) (p5 a r 1 4)) (p5 a r 2 3)) (p5 a r 3 2)) (p5 a r 4 1))
  (ac (ac (ac (ac (ac 0 (pl a r 0 1)) (pl a r 1 0)) (p5 a r 2 4)) (p5 a r 3 3)) (p5 a r 4 2))
  (ac (ac (ac (ac (ac 0 (pl a r 0 2)) (pl a r 1 1)) (pl a r 2 0)) (p5 a r 3 4)) (p5 a r 4 3))
  (ac (ac (ac (ac (ac 0 (pl a r 0 3)) (pl a r 1 2)) (pl a r 2 1)) (pl a r 3 0)) (p5 a r 4 4))
  (ac (ac (ac (ac (ac 0 (pl a r 0 4)) (pl a r 1 3)) (pl a r 2 2)) (pl a r 3 1)) (pl a r 4 0))
def adm (a m : Nat → Nat) : Nat → Nat := five (ac (a 0) (m 0)) (ac (a 1) (m 1)) (ac (a 2) (m 2)) (ac (a 3) (m 3)) (ac (a 4) (m 4))
def stepR (r a : Nat → Nat) (y : ByteArray) : Nat → Nat := cr (cr (dd (adm a (l26 (leS (chunk1 y)))) r))
theorem l30a (k s : ByteArray) (r a : Nat → Nat) : runTo ETr 1000 (ETr.S 30) (bodyOf Try.prog 30 3) (TPg k s) [b5 r, b5 a] [true] (TPg k (tail16 s)) 2 =
  some ([decide ((0 : Int) < (s.size : Int)) = true, (0 : Int) ≤ nnE s ∧ nnE s ≤ (s.size : Int), (s.extract 0 (nnE s).toNat).size + 1 ≤ 9223372036854775807, (chunk1 s).size ≤ 17, leS (chunk1 s) < 1361129467683753853853498429727072845824, (0 : Int) ≤ nnE s ∧ nnE s ≤ (s.size : Int)], .normal, TPg k (tail16 s), [b5 r, b5 (stepR r a s)]) := by kernel_rfl
theorem l30x (k s : ByteArray) (r a : Nat → Nat) : runTo ETr 1000 (ETr.S 30) (bodyOf Try.prog 30 3) (TPg k s) [b5 r, b5 a] [false] (TPg k s) 2 =
  some ([decide ((0 : Int) < (s.size : Int)) = false], .exit 0, TPg k s, [b5 r, b5 a]) := by kernel_rfl
end Go.Ev

namespace Go.Ev
open Go Go.Proofs Go.RowKit
def gg (c : Nat → Nat) : Nat → Nat := sg (five (ac (c 0) 5) (c 1) (c 2) (c 3) (c 4))
def wT (c : Nat → Nat) : Nat → Nat := five (gg c 0) (gg c 1) (gg c 2) (gg c 3) (m26 (gg c 4))
/-! bits out of limbs -/
def bRw (l : List Nat) : Blk := ⟨[.arr .u8 l], 5, true, false, 0⟩
theorem bRw_free (l : List Nat) : Free (bRw l) := fun _ => rfl
def TBt (i : Int) : List AV := slots 166 [(6, pV 1), (16, .val (.one (.sl 4 0 16 16))), (17, iV i)]
theorem tTBt (i : Int) : tmsWf 5 (TBt i) = true := by kernel_rfl
def bitU (x m : Nat) : Nat := (x / 2 ^ (min m 64) % 18446744073709551616 &&& 1 % 18446744073709551616) % 256
def bst (l : List Nat) (i x : Nat) : List Nat := l.set (0 + i / 8 * 1) (l.getD (0 + i / 8 * 1) 0 % 256 ||| bitU x (i % 26) * 2 ^ (min (i % 8) 8) % 256 % 256)
theorem l37y0 (i : Nat) (l : List Nat) (r u g p : Nat → Nat) : runTo ETr 1000 (ETr.S 30) (bodyOf Try.prog 30 37) (TBt (i : Int)) [b5 r, b5 u, b5 g, b5 p, bRw l] [true, false] (TBt ((i : Int) + 1)) 5 =
  some ([decide ((i : Int) < 128) = true, (8 : Int) ≠ 0 ∧ inI ((i / 8 : Nat) : Int), (8 : Int) ≠ 0 ∧ inI ((i / 8 : Nat) : Int), (0 : Int) ≤ ((i / 8 : Nat) : Int) ∧ ((i / 8 : Nat) : Int) < ((16 : Nat) : Int), 0 + (i / 8) * 1 < l.length, ((i / 26 : Nat) : Int) = ((0 : Nat) : Int), (26 : Int) ≠ 0 ∧ inI ((i / 26 : Nat) : Int), (0 : Int) ≤ ((i % 26 : Nat) : Int), (0 : Int) ≤ ((i % 8 : Nat) : Int),
    (0 : Int) ≤ ((i / 8 : Nat) : Int) ∧ ((i / 8 : Nat) : Int) < ((16 : Nat) : Int), 0 + (i / 8) * 1 < l.length, inI ((i : Int) + 1)], .normal, TBt ((i : Int) + 1), [b5 r, b5 u, b5 g, b5 p, bRw (bst l i (u 0))]) := by kernel_rfl
theorem l37y1 (i : Nat) (l : List Nat) (r u g p : Nat → Nat) : runTo ETr 1000 (ETr.S 30) (bodyOf Try.prog 30 37) (TBt (i : Int)) [b5 r, b5 u, b5 g, b5 p, bRw l] [true, true, false] (TBt ((i : Int) + 1)) 5 =
  some ([decide ((i : Int) < 128) = true, (8 : Int) ≠ 0 ∧ inI ((i / 8 : Nat) : Int), (8 : Int) ≠ 0 ∧ inI ((i / 8 : Nat) : Int), (0 : Int) ≤ ((i / 8 : Nat) : Int) ∧ ((i / 8 : Nat) : Int) < ((16 : Nat) : Int), 0 + (i / 8) * 1 < l.length, ((i / 26 : Nat) : Int) = ((1 : Nat) : Int), (26 : Int) ≠ 0 ∧ inI ((i / 26 : Nat) : Int), (0 : Int) ≤ ((i % 26 : Nat) : Int), (0 : Int) ≤ ((i % 8 : Nat) : Int),
    (0 : Int) ≤ ((i / 8 : Nat) : Int) ∧ ((i / 8 : Nat) : Int) < ((16 : Nat) : Int), 0 + (i / 8) * 1 < l.length, inI ((i : Int) + 1)], .normal, TBt ((i : Int) + 1), [b5 r, b5 u, b5 g, b5 p, bRw (bst l i (u 1))]) := by kernel_rfl
theorem l37y2 (i : Nat) (l : List Nat) (r u g p : Nat → Nat) : runTo ETr 1000 (ETr.S 30) (bodyOf Try.prog 30 37) (TBt (i : Int)) [b5 r, b5 u, b5 g, b5 p, bRw l] [true, true, true, false] (TBt ((i : Int) + 1)) 5 =
  some ([decide ((i : Int) < 128) = true, (8 : Int) ≠ 0 ∧ inI ((i / 8 : Nat) : Int), (8 : Int) ≠ 0 ∧ inI ((i / 8 : Nat) : Int), (0 : Int) ≤ ((i / 8 : Nat) : Int) ∧ ((i / 8 : Nat) : Int) < ((16 : Nat) : Int), 0 + (i / 8) * 1 < l.length, ((i / 26 : Nat) : Int) = ((2 : Nat) : Int), (26 : Int) ≠ 0 ∧ inI ((i / 26 : Nat) : Int), (0 : Int) ≤ ((i % 26 : Nat) : Int), (0 : Int) ≤ ((i % 8 : Nat) : Int),
    (0 : Int) ≤ ((i / 8 : Nat) : Int) ∧ ((i / 8 : Nat) : Int) < ((16 : Nat) : Int), 0 + (i / 8) * 1 < l.length, inI ((i : Int) + 1)], .normal, TBt ((i : Int) + 1), [b5 r, b5 u, b5 g, b5 p, bRw (bst l i (u 2))]) := by kernel_rfl
theorem l37y3 (i : Nat) (l : List Nat) (r u g p : Nat → Nat) : runTo ETr 1000 (ETr.S 30) (bodyOf Try.prog 30 37) (TBt (i : Int)) [b5 r, b5 u, b5 g, b5 p, bRw l] [true, true, true, true, false] (TBt ((i : Int) + 1)) 5 =
  some ([decide ((i : Int) < 128) = true, (8 : Int) ≠ 0 ∧ inI ((i / 8 : Nat) : Int), (8 : Int) ≠ 0 ∧ inI ((i / 8 : Nat) : Int), (0 : Int) ≤ ((i / 8 : Nat) : Int) ∧ ((i / 8 : Nat) : Int) < ((16 : Nat) : Int), 0 + (i / 8) * 1 < l.length, ((i / 26 : Nat) : Int) = ((3 : Nat) : Int), (26 : Int) ≠ 0 ∧ inI ((i / 26 : Nat) : Int), (0 : Int) ≤ ((i % 26 : Nat) : Int), (0 : Int) ≤ ((i % 8 : Nat) : Int),
    (0 : Int) ≤ ((i / 8 : Nat) : Int) ∧ ((i / 8 : Nat) : Int) < ((16 : Nat) : Int), 0 + (i / 8) * 1 < l.length, inI ((i : Int) + 1)], .normal, TBt ((i : Int) + 1), [b5 r, b5 u, b5 g, b5 p, bRw (bst l i (u 3))]) := by kernel_rfl
theorem l37y4 (i : Nat) (l : List Nat) (r u g p : Nat → Nat) : runTo ETr 1000 (ETr.S 30) (bodyOf Try.prog 30 37) (TBt (i : Int)) [b5 r, b5 u, b5 g, b5 p, bRw l] [true, true, true, true, true, false] (TBt ((i : Int) + 1)) 5 =
  some ([decide ((i : Int) < 128) = true, (8 : Int) ≠ 0 ∧ inI ((i / 8 : Nat) : Int), (8 : Int) ≠ 0 ∧ inI ((i / 8 : Nat) : Int), (0 : Int) ≤ ((i / 8 : Nat) : Int) ∧ ((i / 8 : Nat) : Int) < ((16 : Nat) : Int), 0 + (i / 8) * 1 < l.length, ((i / 26 : Nat) : Int) = ((4 : Nat) : Int), (26 : Int) ≠ 0 ∧ inI ((i / 26 : Nat) : Int), (0 : Int) ≤ ((i % 26 : Nat) : Int), (0 : Int) ≤ ((i % 8 : Nat) : Int),
    (0 : Int) ≤ ((i / 8 : Nat) : Int) ∧ ((i / 8 : Nat) : Int) < ((16 : Nat) : Int), 0 + (i / 8) * 1 < l.length, inI ((i : Int) + 1)], .normal, TBt ((i : Int) + 1), [b5 r, b5 u, b5 g, b5 p, bRw (bst l i (u 4))]) := by kernel_rfl
theorem l37x (i : Nat) (l : List Nat) (r u g p : Nat → Nat) : runTo ETr 1000 (ETr.S 30) (bodyOf Try.prog 30 37) (TBt (i : Int)) [b5 r, b5 u, b5 g, b5 p, bRw l] [false] (TBt (i : Int)) 5 =
  some ([decide ((i : Int) < 128) = false], .exit 10, TBt (i : Int), [b5 r, b5 u, b5 g, b5 p, bRw l]) := by kernel_rfl
theorem wfTBt (i : Int) (l : List Nat) (r u g p : Nat → Nat) : wfS (TBt i) [b5 r, b5 u, b5 g, b5 p, bRw l] = true := wfS_of (by simp [b5_free, bRw_free]) (tTBt i)
def V5 (u : Nat → Nat) : Nat := u 0 + 67108864 * (u 1 + 67108864 * (u 2 + 67108864 * (u 3 + 67108864 * u 4)))
theorem bitU_eq (x m : Nat) (hm : m < 26) : bitU x m = x / 2 ^ m % 2 := by
  unfold bitU
  rw [Nat.min_eq_left (by omega), show (1 % 18446744073709551616 : Nat) = 2 ^ 1 - 1 from rfl, Nat.and_two_pow_sub_one_eq_mod]
  generalize x / 2 ^ m = y
  omega
theorem bit_low (x z m : Nat) (hm : m < 26) : (x + 67108864 * z) / 2 ^ m % 2 = x / 2 ^ m % 2 := by
  have h : (67108864 : Nat) = 2 ^ m * (2 * 2 ^ (25 - m)) := by
    rw [← Nat.mul_assoc, ← Nat.pow_succ, ← Nat.pow_add, show m + 1 + (25 - m) = 26 by omega]
  rw [h, Nat.mul_assoc, Nat.add_mul_div_left _ _ (Nat.pow_pos (by decide)), Nat.mul_assoc]
  omega
theorem pow26 (q m : Nat) : (2 : Nat) ^ (26 * q + m) = 67108864 ^ q * 2 ^ m := by
  rw [Nat.pow_add, Nat.pow_mul]
theorem bit26 (u : Nat → Nat) (h0 : u 0 < 67108864) (h1 : u 1 < 67108864) (h2 : u 2 < 67108864) (h3 : u 3 < 67108864) (q m : Nat) (hq : q < 5) (hm : m < 26) : V5 u / 2 ^ (26 * q + m) % 2 = u q / 2 ^ m % 2 := by
  rw [pow26, ← Nat.div_div_eq_div_mul]
  unfold V5
  match q, hq with
  | 0, _ => rw [Nat.pow_zero, Nat.div_one, bit_low _ _ _ hm]
  | 1, _ => rw [show (u 0 + 67108864 * (u 1 + 67108864 * (u 2 + 67108864 * (u 3 + 67108864 * u 4)))) / 67108864 ^ 1 = u 1 + 67108864 * (u 2 + 67108864 * (u 3 + 67108864 * u 4)) by omega, bit_low _ _ _ hm]
  | 2, _ => rw [show (u 0 + 67108864 * (u 1 + 67108864 * (u 2 + 67108864 * (u 3 + 67108864 * u 4)))) / 67108864 ^ 2 = u 2 + 67108864 * (u 3 + 67108864 * u 4) by omega, bit_low _ _ _ hm]
  | 3, _ => rw [show (u 0 + 67108864 * (u 1 + 67108864 * (u 2 + 67108864 * (u 3 + 67108864 * u 4)))) / 67108864 ^ 3 = u 3 + 67108864 * u 4 by omega, bit_low _ _ _ hm]
  | 4, _ => rw [show (u 0 + 67108864 * (u 1 + 67108864 * (u 2 + 67108864 * (u 3 + 67108864 * u 4)))) / 67108864 ^ 4 = u 4 by omega]
theorem leB_get (n x k : Nat) (h : k < (leB n x).length) : (leB n x)[k] = x / 256 ^ k % 256 := by simp [leB]
theorem pow8 (i : Nat) : (2 : Nat) ^ i = 256 ^ (i / 8) * 2 ^ (i % 8) := by
  have h : (256 : Nat) ^ (i / 8) = 2 ^ (8 * (i / 8)) := by rw [Nat.pow_mul]
  rw [h, ← Nat.pow_add, Nat.div_add_mod]
theorem row_step (y i b x : Nat) (hy : y < 2 ^ i) (hi : i < 128) (hb : b ≤ 1) (hx : bitU x (i % 26) = b) : bst (leB 16 y) i x = leB 16 (y + 2 ^ i * b) := by
  unfold bst
  rw [hx, show 0 + i / 8 * 1 = i / 8 by omega]
  have h8 : i % 8 < 8 := Nat.mod_lt _ (by decide)
  have hk : i / 8 < 16 := by omega
  have hlen : i / 8 < (leB 16 y).length := by rw [leB_length]; exact hk
  rw [List.getD_eq_getElem?_getD, List.getElem?_eq_getElem hlen, Option.getD_some, leB_get, Nat.min_eq_left (by omega)]
  have hp := pow8 i
  refine List.ext_getElem (by rw [List.length_set, leB_length, leB_length]) fun k h1 h2 => ?_
  rw [List.getElem_set, leB_get, leB_get]
  by_cases he : i / 8 = k
  · rw [if_pos he]
    subst he
    rw [hp, Nat.mul_assoc, Nat.add_mul_div_left _ _ (Nat.pow_pos (by decide))]
    have hz : y / 256 ^ (i / 8) < 2 ^ (i % 8) := Nat.div_lt_of_lt_mul (by rw [← hp]; exact hy)
    generalize y / 256 ^ (i / 8) = z at *
    have hw : 2 ^ (i % 8) ≤ 2 ^ 7 := Nat.pow_le_pow_right (by decide) (by omega)
    have ho := orSh (k := i % 8) b hz
    have hbw : b * 2 ^ (i % 8) ≤ 1 * 2 ^ (i % 8) := Nat.mul_le_mul_right _ hb
    rw [Nat.mul_comm (2 ^ (i % 8)) b]
    generalize 2 ^ (i % 8) = w at *
    generalize b * w = v at *
    rw [Nat.mod_mod, Nat.mod_eq_of_lt (show z < 256 by omega), Nat.mod_eq_of_lt (show v < 256 by omega), Nat.mod_eq_of_lt (show v < 256 by omega), Nat.mod_eq_of_lt (show z + v < 256 by omega), ho]
  · rw [if_neg he]
    rcases Nat.lt_or_gt_of_ne he with h | h
    · have hle : (2 : Nat) ^ (i + 1) ≤ 256 ^ k := by
        rw [show (256 : Nat) = 2 ^ 8 from rfl, ← Nat.pow_mul]
        exact Nat.pow_le_pow_right (by decide) (by omega)
      have h2i : (2 : Nat) ^ (i + 1) = 2 ^ i * 2 := Nat.pow_succ ..
      have hbw : 2 ^ i * b ≤ 2 ^ i * 1 := Nat.mul_le_mul_left _ hb
      rw [Nat.div_eq_of_lt (show y < 256 ^ k by omega), Nat.div_eq_of_lt (show y + 2 ^ i * b < 256 ^ k by omega)]
    · have e : (2 : Nat) ^ i * b = 256 ^ k * (256 * (2 ^ (i - 8 * k - 8) * b)) := by
        rw [← Nat.mul_assoc, ← Nat.mul_assoc, ← Nat.pow_succ, show (256 : Nat) = 2 ^ 8 from rfl, ← Nat.pow_mul, ← Nat.pow_add, show 8 * (k + 1) + (i - 8 * k - 8) = i by omega]
      rw [e, Nat.add_mul_div_left _ _ (Nat.pow_pos (by decide))]
      omega
theorem loop37 (r u g p : Nat → Nat) (h0 : u 0 < 67108864) (h1 : u 1 < 67108864) (h2 : u 2 < 67108864) (h3 : u 3 < 67108864) :
    Goes Try.prog (.loop (bodyOf Try.prog 30 37)) (.exit 10) (TBt ((0 : Nat) : Int)) [b5 r, b5 u, b5 g, b5 p, bRw (List.replicate 16 0)] (TBt ((128 : Nat) : Int)) [b5 r, b5 u, b5 g, b5 p, bRw (leB 16 (V5 u))] := by
  have key : Goes Try.prog (.loop (bodyOf Try.prog 30 37)) (.exit 10) (TBt ((0 : Nat) : Int)) [b5 r, b5 u, b5 g, b5 p, bRw (leB 16 (V5 u % 2 ^ 0))] (TBt ((128 : Nat) : Int)) [b5 r, b5 u, b5 g, b5 p, bRw (leB 16 (V5 u % 2 ^ 128))] := by
    refine loop_goes (N := 128) (k := 5) (T := fun i => TBt (i : Int)) (M := fun i => [b5 r, b5 u, b5 g, b5 p, bRw (leB 16 (V5 u % 2 ^ i))]) (by simp) (fun _ _ => rfl) (fun i hi => ?_) ?_
    · have o1 : decide ((i : Int) < 128) = true := decide_eq_true (by omega)
      have o2 : (8 : Int) ≠ 0 ∧ inI ((i / 8 : Nat) : Int) := ⟨by decide, by unfold inI; omega⟩
      have o3 : (0 : Int) ≤ ((i / 8 : Nat) : Int) ∧ ((i / 8 : Nat) : Int) < ((16 : Nat) : Int) := by omega
      have o4 : 0 + (i / 8) * 1 < (leB 16 (V5 u % 2 ^ i)).length := by rw [leB_length]; omega
      have o5 : (26 : Int) ≠ 0 ∧ inI ((i / 26 : Nat) : Int) := ⟨by decide, by unfold inI; omega⟩
      have o6 : (0 : Int) ≤ ((i % 26 : Nat) : Int) := by omega
      have o7 : (0 : Int) ≤ ((i % 8 : Nat) : Int) := by omega
      have o8 : inI ((i : Int) + 1) := by unfold inI; omega
      have hm : i % 26 < 26 := Nat.mod_lt _ (by decide)
      have hq : i / 26 < 5 := by omega
      have hlt : V5 u % 2 ^ i < 2 ^ i := Nat.mod_lt _ (Nat.pow_pos (by decide))
      have hdm := Nat.div_add_mod i 26
      have hs : bst (leB 16 (V5 u % 2 ^ i)) i (u (i / 26)) = leB 16 (V5 u % 2 ^ (i + 1)) := by
        have hbit := bit26 u h0 h1 h2 h3 (i / 26) (i % 26) hq hm
        rw [hdm] at hbit
        rw [row_step _ i (V5 u / 2 ^ i % 2) _ hlt hi (by omega) (by rw [bitU_eq _ _ hm, hbit]), mod_next]
      have hQ : ∀ q : Nat, i / 26 = q → ((i / 26 : Nat) : Int) = (q : Int) := fun q h => by rw [h]
      generalize hqq : i / 26 = q at hq hs
      match q, hq with
      | 0, _ =>
        have : Goes Try.prog (bodyOf Try.prog 30 37) .normal (TBt (i : Int)) [b5 r, b5 u, b5 g, b5 p, bRw (leB 16 (V5 u % 2 ^ i))] (TBt ((i : Int) + 1)) [b5 r, b5 u, b5 g, b5 p, bRw (bst (leB 16 (V5 u % 2 ^ i)) i (u 0))] := Runs.goes envETr ⟨_, _, l37y0 i _ r u g p, ⟨o1, o2, o2, o3, o4, hQ 0 hqq, o5, o6, o7, o3, o4, o8, trivial⟩, wfTBt _ _ _ _ _ _⟩
        rw [hs] at this
        exact this
      | 1, _ =>
        have : Goes Try.prog (bodyOf Try.prog 30 37) .normal (TBt (i : Int)) [b5 r, b5 u, b5 g, b5 p, bRw (leB 16 (V5 u % 2 ^ i))] (TBt ((i : Int) + 1)) [b5 r, b5 u, b5 g, b5 p, bRw (bst (leB 16 (V5 u % 2 ^ i)) i (u 1))] := Runs.goes envETr ⟨_, _, l37y1 i _ r u g p, ⟨o1, o2, o2, o3, o4, hQ 1 hqq, o5, o6, o7, o3, o4, o8, trivial⟩, wfTBt _ _ _ _ _ _⟩
        rw [hs] at this
        exact this
      | 2, _ =>
        have : Goes Try.prog (bodyOf Try.prog 30 37) .normal (TBt (i : Int)) [b5 r, b5 u, b5 g, b5 p, bRw (leB 16 (V5 u % 2 ^ i))] (TBt ((i : Int) + 1)) [b5 r, b5 u, b5 g, b5 p, bRw (bst (leB 16 (V5 u % 2 ^ i)) i (u 2))] := Runs.goes envETr ⟨_, _, l37y2 i _ r u g p, ⟨o1, o2, o2, o3, o4, hQ 2 hqq, o5, o6, o7, o3, o4, o8, trivial⟩, wfTBt _ _ _ _ _ _⟩
        rw [hs] at this
        exact this
      | 3, _ =>
        have : Goes Try.prog (bodyOf Try.prog 30 37) .normal (TBt (i : Int)) [b5 r, b5 u, b5 g, b5 p, bRw (leB 16 (V5 u % 2 ^ i))] (TBt ((i : Int) + 1)) [b5 r, b5 u, b5 g, b5 p, bRw (bst (leB 16 (V5 u % 2 ^ i)) i (u 3))] := Runs.goes envETr ⟨_, _, l37y3 i _ r u g p, ⟨o1, o2, o2, o3, o4, hQ 3 hqq, o5, o6, o7, o3, o4, o8, trivial⟩, wfTBt _ _ _ _ _ _⟩
        rw [hs] at this
        exact this
      | 4, _ =>
        have : Goes Try.prog (bodyOf Try.prog 30 37) .normal (TBt (i : Int)) [b5 r, b5 u, b5 g, b5 p, bRw (leB 16 (V5 u % 2 ^ i))] (TBt ((i : Int) + 1)) [b5 r, b5 u, b5 g, b5 p, bRw (bst (leB 16 (V5 u % 2 ^ i)) i (u 4))] := Runs.goes envETr ⟨_, _, l37y4 i _ r u g p, ⟨o1, o2, o2, o3, o4, hQ 4 hqq, o5, o6, o7, o3, o4, o8, trivial⟩, wfTBt _ _ _ _ _ _⟩
        rw [hs] at this
        exact this
    · exact Runs.goes envETr ⟨_, _, l37x _ _ r u g p, ⟨decide_eq_false (by omega), trivial⟩, wfTBt _ _ _ _ _ _⟩
  rw [Nat.pow_zero, Nat.mod_one] at key
  have e : leB 16 (V5 u % 2 ^ 128) = leB 16 (V5 u) := leB_mod _ _ (by rw [show (2 : Nat) ^ 128 = 340282366920938463463374607431768211456 from rfl, Nat.mod_mod])
  rw [e] at key
  exact key
end Go.Ev

namespace Go.Ev
open Go Go.Proofs Go.RowKit
theorem m26_eq (x : Nat) : m26 x = x % 67108864 := by
  unfold m26
  rw [show (67108863 % 18446744073709551616 : Nat) = 2 ^ 26 - 1 from rfl, Nat.and_two_pow_sub_one_eq_mod]
  omega
theorem sg_spec (d : Nat → Nat) (h0 : d 0 < 4611686018427387904) (h1 : d 1 < 4611686018427387904) (h2 : d 2 < 4611686018427387904) (h3 : d 3 < 4611686018427387904) (h4 : d 4 < 4611686018427387904) :
    ∃ t1 t2 t3, t1 = d 1 + d 0 / 67108864 ∧ t2 = d 2 + t1 / 67108864 ∧ t3 = d 3 + t2 / 67108864 ∧ sg d 0 = d 0 % 67108864 ∧ sg d 1 = t1 % 67108864 ∧ sg d 2 = t2 % 67108864 ∧ sg d 3 = t3 % 67108864 ∧ sg d 4 = d 4 + t3 / 67108864 := by
  refine ⟨_, _, _, rfl, rfl, rfl, ?_⟩
  have e1 : sgT d 1 = d 1 + d 0 / 67108864 := by show (d 1 + d 0 / 2 ^ 26) % 18446744073709551616 = _; omega
  have e2 : sgT d 2 = d 2 + (d 1 + d 0 / 67108864) / 67108864 := by show (d 2 + sgT d 1 / 2 ^ 26) % 18446744073709551616 = _; rw [e1]; omega
  have e3 : sgT d 3 = d 3 + (d 2 + (d 1 + d 0 / 67108864) / 67108864) / 67108864 := by show (d 3 + sgT d 2 / 2 ^ 26) % 18446744073709551616 = _; rw [e2]; omega
  have e4 : sgT d 4 = d 4 + (d 3 + (d 2 + (d 1 + d 0 / 67108864) / 67108864) / 67108864) / 67108864 := by show (d 4 + sgT d 3 / 2 ^ 26) % 18446744073709551616 = _; rw [e3]; omega
  refine ⟨m26_eq _, ?_, ?_, ?_, e4⟩
  · show m26 (sgT d 1) = _; rw [m26_eq, e1]
  · show m26 (sgT d 2) = _; rw [m26_eq, e2]
  · show m26 (sgT d 3) = _; rw [m26_eq, e3]
theorem sg_val (d : Nat → Nat) (h0 : d 0 < 4611686018427387904) (h1 : d 1 < 4611686018427387904) (h2 : d 2 < 4611686018427387904) (h3 : d 3 < 4611686018427387904) (h4 : d 4 < 4611686018427387904) :
    V5 (sg d) = V5 d ∧ sg d 0 < 67108864 ∧ sg d 1 < 67108864 ∧ sg d 2 < 67108864 ∧ sg d 3 < 67108864 := by
  obtain ⟨t1, t2, t3, e1, e2, e3, f0, f1, f2, f3, f4⟩ := sg_spec d h0 h1 h2 h3 h4
  unfold V5
  rw [f0, f1, f2, f3, f4]
  omega
/-- what comes back. -/
def crC (d : Nat → Nat) : Nat := sg d 4 / 67108864
theorem cr_spec (d : Nat → Nat) (h0 : d 0 < 1152921504606846976) (h1 : d 1 < 1152921504606846976) (h2 : d 2 < 1152921504606846976) (h3 : d 3 < 1152921504606846976) (h4 : d 4 < 1152921504606846976) :
    cr d 0 = (sg d 0 + 5 * crC d) % 67108864 ∧ cr d 1 = sg d 1 + (sg d 0 + 5 * crC d) / 67108864 ∧ cr d 2 = sg d 2 ∧ cr d 3 = sg d 3 ∧ cr d 4 = sg d 4 % 67108864 ∧ V5 (cr d) + P0 * crC d = V5 d := by
  obtain ⟨hv, g0, g1, g2, g3⟩ := sg_val d (by omega) (by omega) (by omega) (by omega) (by omega)
  obtain ⟨t1, t2, t3, e1, e2, e3, f0, f1, f2, f3, f4⟩ := sg_spec d (by omega) (by omega) (by omega) (by omega) (by omega)
  have hg4 : sg d 4 < 1152921504606846976 + 68719476736 := by omega
  have hc : crC d = sg d 4 / 67108864 := rfl
  have hcr0 : cr0 (sg d) = sg d 0 + 5 * crC d := by
    show (sg d 0 + 5 * (sg d 4 / 2 ^ 26) % 18446744073709551616) % 18446744073709551616 = _
    rw [hc]; omega
  have c0 : cr d 0 = (sg d 0 + 5 * crC d) % 67108864 := by show m26 (cr0 (sg d)) = _; rw [m26_eq, hcr0]
  have c1 : cr d 1 = sg d 1 + (sg d 0 + 5 * crC d) / 67108864 := by
    show (sg d 1 + cr0 (sg d) / 2 ^ 26) % 18446744073709551616 = _
    rw [hcr0]; omega
  have c4 : cr d 4 = sg d 4 % 67108864 := m26_eq _
  refine ⟨c0, c1, rfl, rfl, c4, ?_⟩
  rw [← hv]
  have c2 : cr d 2 = sg d 2 := rfl
  have c3 : cr d 3 = sg d 3 := rfl
  unfold V5
  rw [c0, c1, c2, c3, c4, hc]
  generalize sg d 0 = x0 at *
  generalize sg d 1 = x1 at *
  generalize sg d 2 = x2 at *
  generalize sg d 3 = x3 at *
  generalize sg d 4 = x4 at *
  unfold P0
  omega
/-- limbs no greater than they may be. -/
def Ok5 (u : Nat → Nat) : Prop := u 0 ≤ 67108864 ∧ u 1 ≤ 67108864 ∧ u 2 ≤ 67108864 ∧ u 3 ≤ 67108864 ∧ u 4 ≤ 67108864
theorem cr_ok (d : Nat → Nat) (h0 : d 0 < 67108864 + 16384) (h1 : d 1 < 67108864 + 16384) (h2 : d 2 < 67108864 + 16384) (h3 : d 3 < 67108864 + 16384) (h4 : d 4 < 67108864 + 16384) :
    cr d 0 < 67108864 ∧ cr d 1 ≤ 67108864 ∧ cr d 2 < 67108864 ∧ cr d 3 < 67108864 ∧ cr d 4 < 67108864 := by
  obtain ⟨c0, c1, c2, c3, c4, _⟩ := cr_spec d (by omega) (by omega) (by omega) (by omega) (by omega)
  obtain ⟨t1, t2, t3, e1, e2, e3, f0, f1, f2, f3, f4⟩ := sg_spec d (by omega) (by omega) (by omega) (by omega) (by omega)
  have hc : crC d = sg d 4 / 67108864 := rfl
  omega
theorem cr_big (d : Nat → Nat) (h0 : d 0 < 1152921504606846976) (h1 : d 1 < 1152921504606846976) (h2 : d 2 < 1152921504606846976) (h3 : d 3 < 1152921504606846976) (h4 : d 4 < 1152921504606846976) :
    cr d 0 < 67108864 + 16384 ∧ cr d 1 < 67108864 + 16384 ∧ cr d 2 < 67108864 + 16384 ∧ cr d 3 < 67108864 + 16384 ∧ cr d 4 < 67108864 + 16384 := by
  obtain ⟨c0, c1, c2, c3, c4, _⟩ := cr_spec d h0 h1 h2 h3 h4
  obtain ⟨t1, t2, t3, e1, e2, e3, f0, f1, f2, f3, f4⟩ := sg_spec d (by omega) (by omega) (by omega) (by omega) (by omega)
  have hc : crC d = sg d 4 / 67108864 := rfl
  omega
theorem pl_eq {x y : Nat} (hx : x ≤ 134217728) (hy : y < 67108864) : x * y % 18446744073709551616 = x * y ∧ 5 * x % 18446744073709551616 * y % 18446744073709551616 = 5 * (x * y) ∧ x * y ≤ 9007199254740992 := by
  have h : x * y ≤ 134217728 * 67108864 := Nat.mul_le_mul hx (by omega)
  have e : 5 * x * y = 5 * (x * y) := Nat.mul_assoc 5 x y
  rw [Nat.mod_eq_of_lt (show 5 * x < 18446744073709551616 by omega), e]
  omega
theorem V5_mul (x : Nat) (r : Nat → Nat) : x * V5 r = x * r 0 + 67108864 * (x * r 1 + 67108864 * (x * r 2 + 67108864 * (x * r 3 + 67108864 * (x * r 4)))) := by
  unfold V5
  simp only [Nat.mul_add, Nat.mul_left_comm x 67108864]
set_option maxHeartbeats 1000000 in
theorem prod_id (z00 z01 z02 z03 z04 z10 z11 z12 z13 z14 z20 z21 z22 z23 z24 z30 z31 z32 z33 z34 z40 z41 z42 z43 z44 : Nat) : (z00 + 67108864 * (z01 + 67108864 * (z02 + 67108864 * (z03 + 67108864 * z04)))) + 67108864 * ((z10 + 67108864 * (z11 + 67108864 * (z12 + 67108864 * (z13 + 67108864 * z14)))) + 67108864 * ((z20 + 67108864 * (z21 + 67108864 * (z22 + 67108864 * (z23 + 67108864 * z24)))) + 67108864 * ((z30 + 67108864 * (z31 + 67108864 * (z32 + 67108864 * (z33 + 67108864 * z34)))) + 67108864 * (z40 + 67108864 * (z41 + 67108864 * (z42 + 67108864 * (z43 + 67108864 * z44))))))) = (z00 + 5 * z14 + 5 * z23 + 5 * z32 + 5 * z41) + 67108864 * ((z01 + z10 + 5 * z24 + 5 * z33 + 5 * z42) + 67108864 * ((z02 + z11 + z20 + 5 * z34 + 5 * z43) + 67108864 * ((z03 + z12 + z21 + z30 + 5 * z44) + 67108864 * (z04 + z13 + z22 + z31 + z40)))) + 1361129467683753853853498429727072845819 * ((z14 + z23 + z32 + z41) + 67108864 * ((z24 + z33 + z42) + 67108864 * ((z34 + z43) + 67108864 * z44))) := by
  omega
theorem dd_spec (a r : Nat → Nat) (ha : ∀ j, j < 5 → a j ≤ 134217728) (hr : ∀ j, j < 5 → r j < 67108864) :
    V5 (dd a r) % P0 = V5 a * V5 r % P0 ∧ dd a r 0 < 1152921504606846976 ∧ dd a r 1 < 1152921504606846976 ∧ dd a r 2 < 1152921504606846976 ∧ dd a r 3 < 1152921504606846976 ∧ dd a r 4 < 1152921504606846976 := by
  have key : ∀ i k, i < 5 → k < 5 → pl a r i k = a i * r k ∧ p5 a r i k = 5 * (a i * r k) ∧ a i * r k ≤ 9007199254740992 := fun i k hi hk => pl_eq (ha i hi) (hr k hk)
  have q00 := key 0 0 (by decide) (by decide)
  have q01 := key 0 1 (by decide) (by decide)
  have q02 := key 0 2 (by decide) (by decide)
  have q03 := key 0 3 (by decide) (by decide)
  have q04 := key 0 4 (by decide) (by decide)
  have q10 := key 1 0 (by decide) (by decide)
  have q11 := key 1 1 (by decide) (by decide)
  have q12 := key 1 2 (by decide) (by decide)
  have q13 := key 1 3 (by decide) (by decide)
  have q14 := key 1 4 (by decide) (by decide)
  have q20 := key 2 0 (by decide) (by decide)
  have q21 := key 2 1 (by decide) (by decide)
  have q22 := key 2 2 (by decide) (by decide)
  have q23 := key 2 3 (by decide) (by decide)
  have q24 := key 2 4 (by decide) (by decide)
  have q30 := key 3 0 (by decide) (by decide)
  have q31 := key 3 1 (by decide) (by decide)
  have q32 := key 3 2 (by decide) (by decide)
  have q33 := key 3 3 (by decide) (by decide)
  have q34 := key 3 4 (by decide) (by decide)
  have q40 := key 4 0 (by decide) (by decide)
  have q41 := key 4 1 (by decide) (by decide)
  have q42 := key 4 2 (by decide) (by decide)
  have q43 := key 4 3 (by decide) (by decide)
  have q44 := key 4 4 (by decide) (by decide)
  have d0 : dd a r 0 = a 0 * r 0 + 5 * (a 1 * r 4) + 5 * (a 2 * r 3) + 5 * (a 3 * r 2) + 5 * (a 4 * r 1) := by
    show ac (ac (ac (ac (ac 0 (pl a r 0 0)) (p5 a r 1 4)) (p5 a r 2 3)) (p5 a r 3 2)) (p5 a r 4 1) = _
    rw [q00.1, q14.2.1, q23.2.1, q32.2.1, q41.2.1]; unfold ac; omega
  have d1 : dd a r 1 = a 0 * r 1 + a 1 * r 0 + 5 * (a 2 * r 4) + 5 * (a 3 * r 3) + 5 * (a 4 * r 2) := by
    show ac (ac (ac (ac (ac 0 (pl a r 0 1)) (pl a r 1 0)) (p5 a r 2 4)) (p5 a r 3 3)) (p5 a r 4 2) = _
    rw [q01.1, q10.1, q24.2.1, q33.2.1, q42.2.1]; unfold ac; omega
  have d2 : dd a r 2 = a 0 * r 2 + a 1 * r 1 + a 2 * r 0 + 5 * (a 3 * r 4) + 5 * (a 4 * r 3) := by
    show ac (ac (ac (ac (ac 0 (pl a r 0 2)) (pl a r 1 1)) (pl a r 2 0)) (p5 a r 3 4)) (p5 a r 4 3) = _
    rw [q02.1, q11.1, q20.1, q34.2.1, q43.2.1]; unfold ac; omega
  have d3 : dd a r 3 = a 0 * r 3 + a 1 * r 2 + a 2 * r 1 + a 3 * r 0 + 5 * (a 4 * r 4) := by
    show ac (ac (ac (ac (ac 0 (pl a r 0 3)) (pl a r 1 2)) (pl a r 2 1)) (pl a r 3 0)) (p5 a r 4 4) = _
    rw [q03.1, q12.1, q21.1, q30.1, q44.2.1]; unfold ac; omega
  have d4 : dd a r 4 = a 0 * r 4 + a 1 * r 3 + a 2 * r 2 + a 3 * r 1 + a 4 * r 0 := by
    show ac (ac (ac (ac (ac 0 (pl a r 0 4)) (pl a r 1 3)) (pl a r 2 2)) (pl a r 3 1)) (pl a r 4 0) = _
    rw [q04.1, q13.1, q22.1, q31.1, q40.1]; unfold ac; omega
  refine ⟨?_, by omega, by omega, by omega, by omega, by omega⟩
  have hm : V5 a * V5 r = a 0 * V5 r + 67108864 * (a 1 * V5 r + 67108864 * (a 2 * V5 r + 67108864 * (a 3 * V5 r + 67108864 * (a 4 * V5 r)))) := by
    conv => lhs; rw [V5]
    simp only [Nat.add_mul, Nat.mul_assoc]
  have he : V5 a * V5 r = V5 (dd a r) + P0 * ((a 1 * r 4 + a 2 * r 3 + a 3 * r 2 + a 4 * r 1) + 67108864 * ((a 2 * r 4 + a 3 * r 3 + a 4 * r 2) + 67108864 * ((a 3 * r 4 + a 4 * r 3) + 67108864 * (a 4 * r 4)))) := by
    rw [hm, V5_mul (a 0), V5_mul (a 1), V5_mul (a 2), V5_mul (a 3), V5_mul (a 4)]
    unfold V5
    rw [d0, d1, d2, d3, d4]
    exact prod_id (a 0 * r 0) (a 0 * r 1) (a 0 * r 2) (a 0 * r 3) (a 0 * r 4) (a 1 * r 0) (a 1 * r 1) (a 1 * r 2) (a 1 * r 3) (a 1 * r 4) (a 2 * r 0) (a 2 * r 1) (a 2 * r 2) (a 2 * r 3) (a 2 * r 4) (a 3 * r 0) (a 3 * r 1) (a 3 * r 2) (a 3 * r 3) (a 3 * r 4) (a 4 * r 0) (a 4 * r 1) (a 4 * r 2) (a 4 * r 3) (a 4 * r 4)
  rw [he, Nat.add_mul_mod_self_left]
end Go.Ev

namespace Go.Ev
open Go Go.Proofs Go.RowKit
theorem l26_lt (x j : Nat) : l26 x j < 67108864 := Nat.mod_lt _ (by decide)
theorem l26_val (x : Nat) (h : x < 1361129467683753853853498429727072845824) : V5 (l26 x) = x := by
  have e0 : x / 67108864 ^ 0 = x := by rw [Nat.pow_zero, Nat.div_one]
  have e1 : x / 67108864 ^ 1 = x / 67108864 := by rw [Nat.pow_one]
  have e2 : x / 67108864 ^ 2 = x / 67108864 / 67108864 := by rw [Nat.pow_succ, Nat.pow_one, Nat.div_div_eq_div_mul]
  have e3 : x / 67108864 ^ 3 = x / 67108864 / 67108864 / 67108864 := by rw [Nat.div_div_eq_div_mul, Nat.div_div_eq_div_mul]
  have e4 : x / 67108864 ^ 4 = x / 67108864 / 67108864 / 67108864 / 67108864 := by rw [Nat.div_div_eq_div_mul, Nat.div_div_eq_div_mul, Nat.div_div_eq_div_mul]
  have hq : x / 67108864 / 67108864 / 67108864 / 67108864 < 67108864 := by rw [← e4]; exact Nat.div_lt_of_lt_mul (by omega)
  unfold V5 l26
  rw [e0, e1, e2, e3, e4]
  omega
theorem ac_eq {x y : Nat} (h : x + y < 18446744073709551616) : ac x y = x + y := Nat.mod_eq_of_lt h
theorem adm_val (a m : Nat → Nat) (ha : ∀ j, j < 5 → a j + m j < 18446744073709551616) : V5 (adm a m) = V5 a + V5 m ∧ ∀ j, j < 5 → adm a m j = a j + m j := by
  have h : ∀ j, j < 5 → adm a m j = a j + m j := by
    intro j hj
    match j, hj with
    | 0, h => exact ac_eq (ha 0 h)
    | 1, h => exact ac_eq (ha 1 h)
    | 2, h => exact ac_eq (ha 2 h)
    | 3, h => exact ac_eq (ha 3 h)
    | 4, h => exact ac_eq (ha 4 h)
  refine ⟨?_, h⟩
  unfold V5
  rw [h 0 (by decide), h 1 (by decide), h 2 (by decide), h 3 (by decide), h 4 (by decide)]
  omega
theorem Ok5.le {u : Nat → Nat} (h : Ok5 u) : ∀ j, j < 5 → u j ≤ 67108864 := by
  obtain ⟨h0, h1, h2, h3, h4⟩ := h
  intro j hj
  match j, hj with
  | 0, _ => exact h0
  | 1, _ => exact h1
  | 2, _ => exact h2
  | 3, _ => exact h3
  | 4, _ => exact h4
theorem cr_mod (d : Nat → Nat) (h0 : d 0 < 1152921504606846976) (h1 : d 1 < 1152921504606846976) (h2 : d 2 < 1152921504606846976) (h3 : d 3 < 1152921504606846976) (h4 : d 4 < 1152921504606846976) : V5 (cr d) % P0 = V5 d % P0 := by
  obtain ⟨_, _, _, _, _, e⟩ := cr_spec d h0 h1 h2 h3 h4
  rw [← e, Nat.add_mul_mod_self_left]
theorem stepR_spec (r a : Nat → Nat) (y : ByteArray) (ha : Ok5 a) (hr : ∀ j, j < 5 → r j < 67108864) : Ok5 (stepR r a y) ∧ V5 (stepR r a y) % P0 = (V5 a + leS (chunk1 y)) * V5 r % P0 := by
  have hm := leS_chunk1 y
  have hle := ha.le
  obtain ⟨hv, hj⟩ := adm_val a (l26 (leS (chunk1 y))) (fun j hj => by have := hle j hj; have := l26_lt (leS (chunk1 y)) j; omega)
  rw [l26_val _ (by omega)] at hv
  obtain ⟨hd, b0, b1, b2, b3, b4⟩ := dd_spec (adm a (l26 (leS (chunk1 y)))) r (fun j h => by rw [hj j h]; have := hle j h; have := l26_lt (leS (chunk1 y)) j; omega) hr
  obtain ⟨c0, c1, c2, c3, c4⟩ := cr_big _ b0 b1 b2 b3 b4
  obtain ⟨f0, f1, f2, f3, f4⟩ := cr_ok _ c0 c1 c2 c3 c4
  refine ⟨⟨Nat.le_of_lt f0, f1, Nat.le_of_lt f2, Nat.le_of_lt f3, Nat.le_of_lt f4⟩, ?_⟩
  unfold stepR
  rw [cr_mod _ (by omega) (by omega) (by omega) (by omega) (by omega), cr_mod _ b0 b1 b2 b3 b4, hd, hv]
def accR (r : Nat → Nat) (s : ByteArray) : Nat → (Nat → Nat)
  | 0 => zF
  | i + 1 => stepR r (accR r s i) (tails s i)
theorem accR_ok (x : Nat) (s : ByteArray) (hx : x < 1361129467683753853853498429727072845824) : ∀ i, Ok5 (accR (l26 x) s i) ∧ V5 (accR (l26 x) s i) % P0 = hor x s i % P0
  | 0 => ⟨⟨Nat.zero_le _, Nat.zero_le _, Nat.zero_le _, Nat.zero_le _, Nat.zero_le _⟩, rfl⟩
  | i + 1 => by
    obtain ⟨h1, h2⟩ := accR_ok x s hx i
    obtain ⟨h3, h4⟩ := stepR_spec (l26 x) _ (tails s i) h1 (fun j _ => l26_lt x j)
    refine ⟨h3, ?_⟩
    rw [l26_val x hx] at h4
    simp only [accR, hor]
    rw [h4, Nat.mod_mod, Nat.mul_mod, Nat.add_mod, h2, ← Nat.add_mod, ← Nat.mul_mod]
theorem wfTPg (k s : ByteArray) (u v : Nat → Nat) : wfS (TPg k s) [b5 u, b5 v] = true := wfS_of (by simp [b5_free]) (tTPg k s)
theorem loop30 (k s : ByteArray) (x : Nat) : Goes Try.prog (.loop (bodyOf Try.prog 30 3)) (.exit 0) (TPg k s) [b5 (l26 x), b5 zF] (TPg k (tails s (turns s))) [b5 (l26 x), b5 (accR (l26 x) s (turns s))] := by
  refine loop_goes (N := turns s) (k := 2) (T := fun i => TPg k (tails s i)) (M := fun i => [b5 (l26 x), b5 (accR (l26 x) s i)]) (by simp) (fun _ _ => rfl) (fun i hi => ?_) ?_
  · have hp := turns_in s hi
    have hm := leS_chunk1 (tails s i)
    have hc := chunk1_size (tails s i)
    have hc0 := chunk0_size (tails s i)
    exact Runs.goes envETr ⟨_, _, l30a k _ _ _, ⟨decide_eq_true (by omega), nnE_ob _, by omega, by omega, by omega, nnE_ob _, trivial⟩, wfTPg _ _ _ _⟩
  · have ho := turns_out s
    exact Runs.goes envETr ⟨_, _, l30x k _ _ _, ⟨decide_eq_false (by omega), trivial⟩, wfTPg _ _ _ _⟩
/-! behind the text -/
theorem fin_spec (d : Nat → Nat) (h : Nat) (hd : Ok5 d) (hh : h < P0) (hm : V5 d % P0 = h % P0) :
    (gg (cr d) 4 / 2 ^ 26 = 1 → V5 (wT (cr d)) = h ∧ ∀ j, j < 5 → wT (cr d) j ≤ 67108864) ∧ (gg (cr d) 4 / 2 ^ 26 ≠ 1 → V5 (cr d) = h ∧ ∀ j, j < 5 → cr d j ≤ 67108864) := by
  obtain ⟨o0, o1, o2, o3, o4⟩ := hd
  obtain ⟨c0, c1, c2, c3, c4⟩ := cr_ok d (by omega) (by omega) (by omega) (by omega) (by omega)
  have hc := cr_mod d (by omega) (by omega) (by omega) (by omega) (by omega)
  rw [hm] at hc
  have hok : Ok5 (cr d) := ⟨by omega, c1, by omega, by omega, by omega⟩
  generalize cr d = c at *
  have hac : ac (c 0) 5 = c 0 + 5 := ac_eq (by omega)
  have e : gg c = sg (five (c 0 + 5) (c 1) (c 2) (c 3) (c 4)) := by unfold gg; rw [hac]
  obtain ⟨hv, g0, g1, g2, g3⟩ := sg_val (five (c 0 + 5) (c 1) (c 2) (c 3) (c 4)) (show c 0 + 5 < _ by omega) (show c 1 < _ by omega) (show c 2 < _ by omega) (show c 3 < _ by omega) (show c 4 < _ by omega)
  rw [← e] at hv g0 g1 g2 g3
  have hv2 : V5 (gg c) = V5 c + 5 := by
    rw [hv]
    show c 0 + 5 + 67108864 * (c 1 + 67108864 * (c 2 + 67108864 * (c 3 + 67108864 * c 4))) = c 0 + 67108864 * (c 1 + 67108864 * (c 2 + 67108864 * (c 3 + 67108864 * c 4))) + 5
    omega
  have hw4 : wT c 4 = gg c 4 % 67108864 := m26_eq _
  have hvw : V5 (wT c) = gg c 0 + 67108864 * (gg c 1 + 67108864 * (gg c 2 + 67108864 * (gg c 3 + 67108864 * (gg c 4 % 67108864)))) := by
    show gg c 0 + 67108864 * (gg c 1 + 67108864 * (gg c 2 + 67108864 * (gg c 3 + 67108864 * wT c 4))) = _
    rw [hw4]
  have hgv : V5 (gg c) = gg c 0 + 67108864 * (gg c 1 + 67108864 * (gg c 2 + 67108864 * (gg c 3 + 67108864 * gg c 4))) := rfl
  have hcv : V5 c = c 0 + 67108864 * (c 1 + 67108864 * (c 2 + 67108864 * (c 3 + 67108864 * c 4))) := rfl
  have hbig : V5 c < 1361129467683753853853498429727072845824 + 67108864 := by rw [hcv]; omega
  rw [Nat.mod_eq_of_lt hh] at hc
  refine ⟨fun hg => ⟨?_, ?_⟩, fun hg => ⟨?_, hok.le⟩⟩
  · have hg' : gg c 4 / 67108864 = 1 := hg
    rw [hvw]
    clear hv e hac hm hok
    unfold P0 at *
    omega
  · intro j hj
    match j, hj with
    | 0, _ => show gg c 0 ≤ _; omega
    | 1, _ => show gg c 1 ≤ _; omega
    | 2, _ => show gg c 2 ≤ _; omega
    | 3, _ => show gg c 3 ≤ _; omega
    | 4, _ => rw [hw4]; omega
  · have hg' : gg c 4 / 67108864 ≠ 1 := hg
    clear hv e hac hm hok hvw hw4
    unfold P0 at *
    omega
end Go.Ev

namespace Go.Ev
open Go Go.Proofs Go.RowKit
noncomputable def EU30 (k s : ByteArray) (r : Nat → Nat) (s' : ByteArray) (a u g p : Nat → Nat) (l : List Nat) : Env := addL (EL1 ETr 3 (bodyOf Try.prog 30 3) (sumC (TPg k s) [b5 r, b5 zF] (TPg k s') [b5 r, b5 a] (.exit 0)))
  37 (bodyOf Try.prog 30 37) (sumC (TBt ((0 : Nat) : Int)) [b5 r, b5 u, b5 g, b5 p, bRw (List.replicate 16 0)] (TBt ((128 : Nat) : Int)) [b5 r, b5 u, b5 g, b5 p, bRw l] (.exit 10))
def fW (w : Nat → Nat) (k : ByteArray) : Nat → Nat := sg (adm w (l26 (leS (k.extract 16 32))))
theorem r30t (k s s' : ByteArray) (a : Nat → Nat) (l : List Nat) : callR (EU30 k s (l26 (leS (clampB (k.extract 0 16)))) s' a (fW (wT (cr a)) k) (wT (cr a)) (l26 (leS (k.extract 16 32))) l) 1000 30 [sS k, sS s] [true] =
  some ([(0 : Int) ≤ 16 ∧ (16 : Int) ≤ (k.size : Int), (k.extract 0 16).size = 16, (clampB (k.extract 0 16)).size ≤ 17, leS (clampB (k.extract 0 16)) < 1361129467683753853853498429727072845824,
    bodyOf Try.prog 30 3 = bodyOf Try.prog 30 3, (TPg k s, [b5 (l26 (leS (clampB (k.extract 0 16)))), b5 zF]) = (TPg k s, [b5 (l26 (leS (clampB (k.extract 0 16)))), b5 zF]), wfS (TPg k s) [b5 (l26 (leS (clampB (k.extract 0 16)))), b5 zF] = true,
    decide (gg (cr a) 4 / 2 ^ 26 = 1) = true, (0 : Int) ≤ 32 ∧ (32 : Int) ≤ (k.size : Int), (0 : Int) ≤ 16 ∧ (16 : Int) ≤ ((32 : Nat) : Int), (k.extract 16 32).size ≤ 17, leS (k.extract 16 32) < 1361129467683753853853498429727072845824, (0 : Int) ≤ 16 ∧ (16 : Int) = 16 ∧ (16 : Int) ≤ 140737488355328,
    bodyOf Try.prog 30 37 = bodyOf Try.prog 30 37, (TBt ((0 : Nat) : Int), [b5 (l26 (leS (clampB (k.extract 0 16)))), b5 (fW (wT (cr a)) k), b5 (wT (cr a)), b5 (l26 (leS (k.extract 16 32))), bRw (List.replicate 16 0)]) = (TBt ((0 : Nat) : Int), [b5 (l26 (leS (clampB (k.extract 0 16)))), b5 (fW (wT (cr a)) k), b5 (wT (cr a)), b5 (l26 (leS (k.extract 16 32))), bRw (List.replicate 16 0)]), wfS (TBt ((0 : Nat) : Int)) [b5 (l26 (leS (clampB (k.extract 0 16)))), b5 (fW (wT (cr a)) k), b5 (wT (cr a)), b5 (l26 (leS (k.extract 16 32))), bRw (List.replicate 16 0)] = true, 0 = 0 ∧ 16 = l.length], .val (sS (strOf l))) := by kernel_rfl
theorem r30f (k s s' : ByteArray) (a : Nat → Nat) (l : List Nat) : callR (EU30 k s (l26 (leS (clampB (k.extract 0 16)))) s' a (fW (cr a) k) (gg (cr a)) (l26 (leS (k.extract 16 32))) l) 1000 30 [sS k, sS s] [false] =
  some ([(0 : Int) ≤ 16 ∧ (16 : Int) ≤ (k.size : Int), (k.extract 0 16).size = 16, (clampB (k.extract 0 16)).size ≤ 17, leS (clampB (k.extract 0 16)) < 1361129467683753853853498429727072845824,
    bodyOf Try.prog 30 3 = bodyOf Try.prog 30 3, (TPg k s, [b5 (l26 (leS (clampB (k.extract 0 16)))), b5 zF]) = (TPg k s, [b5 (l26 (leS (clampB (k.extract 0 16)))), b5 zF]), wfS (TPg k s) [b5 (l26 (leS (clampB (k.extract 0 16)))), b5 zF] = true,
    decide (gg (cr a) 4 / 2 ^ 26 = 1) = false, (0 : Int) ≤ 32 ∧ (32 : Int) ≤ (k.size : Int), (0 : Int) ≤ 16 ∧ (16 : Int) ≤ ((32 : Nat) : Int), (k.extract 16 32).size ≤ 17, leS (k.extract 16 32) < 1361129467683753853853498429727072845824, (0 : Int) ≤ 16 ∧ (16 : Int) = 16 ∧ (16 : Int) ≤ 140737488355328,
    bodyOf Try.prog 30 37 = bodyOf Try.prog 30 37, (TBt ((0 : Nat) : Int), [b5 (l26 (leS (clampB (k.extract 0 16)))), b5 (fW (cr a) k), b5 (gg (cr a)), b5 (l26 (leS (k.extract 16 32))), bRw (List.replicate 16 0)]) = (TBt ((0 : Nat) : Int), [b5 (l26 (leS (clampB (k.extract 0 16)))), b5 (fW (cr a) k), b5 (gg (cr a)), b5 (l26 (leS (k.extract 16 32))), bRw (List.replicate 16 0)]), wfS (TBt ((0 : Nat) : Int)) [b5 (l26 (leS (clampB (k.extract 0 16)))), b5 (fW (cr a) k), b5 (gg (cr a)), b5 (l26 (leS (k.extract 16 32))), bRw (List.replicate 16 0)] = true, 0 = 0 ∧ 16 = l.length], .val (sS (strOf l))) := by kernel_rfl
theorem spec30 (k s : ByteArray) (hk : k.size = 32) : Spec 30 [sS k, sS s] (.val (sS (tagB k s))) := by
  have hr := leS_clampB (k.extract 0 16)
  have o1 : (0 : Int) ≤ 16 ∧ (16 : Int) ≤ (k.size : Int) := by omega
  have o2 : (k.extract 0 16).size = 16 := by rw [ByteArray.size_extract]; omega
  have hc := clampB_size (k.extract 0 16)
  have o3 : (clampB (k.extract 0 16)).size ≤ 17 := by omega
  have o4 : leS (clampB (k.extract 0 16)) < 1361129467683753853853498429727072845824 := by omega
  have o5 : (0 : Int) ≤ 32 ∧ (32 : Int) ≤ (k.size : Int) := by omega
  have o6 : (0 : Int) ≤ 16 ∧ (16 : Int) ≤ ((32 : Nat) : Int) := by omega
  have hk2 : (k.extract 16 32).size = 16 := by rw [ByteArray.size_extract]; omega
  have o7 : (k.extract 16 32).size ≤ 17 := by omega
  have hk3 := leS_lt (k.extract 16 32)
  rw [hk2] at hk3
  have o8 : leS (k.extract 16 32) < 1361129467683753853853498429727072845824 := by omega
  have o9 : (0 : Int) ≤ 16 ∧ (16 : Int) = 16 ∧ (16 : Int) ≤ 140737488355328 := by decide
  have hL := loop30 k s (leS (clampB (k.extract 0 16)))
  obtain ⟨hok, hmod⟩ := accR_ok (leS (clampB (k.extract 0 16))) s o4 (turns s)
  have hh := hor_lt (leS (clampB (k.extract 0 16))) s (turns s)
  obtain ⟨hT, hF⟩ := fin_spec (accR (l26 (leS (clampB (k.extract 0 16)))) s (turns s)) _ hok hh (by rw [hmod])
  by_cases h1 : gg (cr (accR (l26 (leS (clampB (k.extract 0 16)))) s (turns s))) 4 / 2 ^ 26 = 1
  · have hw := hT h1
    have hg : decide (gg (cr (accR (l26 (leS (clampB (k.extract 0 16)))) s (turns s))) 4 / 2 ^ 26 = 1) = true := decide_eq_true h1
    have hfw := adm_val (wT (cr (accR (l26 (leS (clampB (k.extract 0 16)))) s (turns s)))) (l26 (leS (k.extract 16 32))) (fun j hj => by have := hw.2 j hj; have := l26_lt (leS (k.extract 16 32)) j; omega)
    have hb : ∀ j, j < 5 → adm (wT (cr (accR (l26 (leS (clampB (k.extract 0 16)))) s (turns s)))) (l26 (leS (k.extract 16 32))) j < 4611686018427387904 := fun j hj => by rw [hfw.2 j hj]; have := hw.2 j hj; have := l26_lt (leS (k.extract 16 32)) j; omega
    obtain ⟨hv, g0, g1, g2, g3⟩ := sg_val (adm (wT (cr (accR (l26 (leS (clampB (k.extract 0 16)))) s (turns s)))) (l26 (leS (k.extract 16 32)))) (hb 0 (by decide)) (hb 1 (by decide)) (hb 2 (by decide)) (hb 3 (by decide)) (hb 4 (by decide))
    have hvv : V5 (fW (wT (cr (accR (l26 (leS (clampB (k.extract 0 16)))) s (turns s)))) k) = hor (leS (clampB (k.extract 0 16))) s (turns s) + leS (k.extract 16 32) := by
      show V5 (sg (adm (wT (cr (accR (l26 (leS (clampB (k.extract 0 16)))) s (turns s)))) (l26 (leS (k.extract 16 32))))) = _
      rw [hv, hfw.1, hw.1, l26_val _ o8]
    have hL2 := loop37 (l26 (leS (clampB (k.extract 0 16)))) (fW (wT (cr (accR (l26 (leS (clampB (k.extract 0 16)))) s (turns s)))) k) (wT (cr (accR (l26 (leS (clampB (k.extract 0 16)))) s (turns s)))) (l26 (leS (k.extract 16 32))) g0 g1 g2 g3
    rw [hvv] at hL2
    have hE : EnvOK (EU30 k s (l26 (leS (clampB (k.extract 0 16)))) (tails s (turns s)) (accR (l26 (leS (clampB (k.extract 0 16)))) s (turns s)) (fW (wT (cr (accR (l26 (leS (clampB (k.extract 0 16)))) s (turns s)))) k) (wT (cr (accR (l26 (leS (clampB (k.extract 0 16)))) s (turns s)))) (l26 (leS (k.extract 16 32))) (leB 16 (hor (leS (clampB (k.extract 0 16))) s (turns s) + leS (k.extract 16 32)))) :=
      envAddL (envEL1 envETr (sumC_ok (by simp only [List.length_cons]) hL)) (sumC_ok (by simp only [List.length_cons]) hL2)
    exact spec_run hE rfl (r30t k s _ _ _) ⟨o1, o2, o3, o4, rfl, rfl, wfTPg _ _ _ _, hg, o5, o6, o7, o8, o9, rfl, rfl, wfTBt _ _ _ _ _ _, ⟨rfl, (leB_length _ _).symm⟩, trivial⟩ rfl rfl
  · have hw := hF h1
    have hg : decide (gg (cr (accR (l26 (leS (clampB (k.extract 0 16)))) s (turns s))) 4 / 2 ^ 26 = 1) = false := decide_eq_false h1
    have hfw := adm_val (cr (accR (l26 (leS (clampB (k.extract 0 16)))) s (turns s))) (l26 (leS (k.extract 16 32))) (fun j hj => by have := hw.2 j hj; have := l26_lt (leS (k.extract 16 32)) j; omega)
    have hb : ∀ j, j < 5 → adm (cr (accR (l26 (leS (clampB (k.extract 0 16)))) s (turns s))) (l26 (leS (k.extract 16 32))) j < 4611686018427387904 := fun j hj => by rw [hfw.2 j hj]; have := hw.2 j hj; have := l26_lt (leS (k.extract 16 32)) j; omega
    obtain ⟨hv, g0, g1, g2, g3⟩ := sg_val (adm (cr (accR (l26 (leS (clampB (k.extract 0 16)))) s (turns s))) (l26 (leS (k.extract 16 32)))) (hb 0 (by decide)) (hb 1 (by decide)) (hb 2 (by decide)) (hb 3 (by decide)) (hb 4 (by decide))
    have hvv : V5 (fW (cr (accR (l26 (leS (clampB (k.extract 0 16)))) s (turns s))) k) = hor (leS (clampB (k.extract 0 16))) s (turns s) + leS (k.extract 16 32) := by
      show V5 (sg (adm (cr (accR (l26 (leS (clampB (k.extract 0 16)))) s (turns s))) (l26 (leS (k.extract 16 32))))) = _
      rw [hv, hfw.1, hw.1, l26_val _ o8]
    have hL2 := loop37 (l26 (leS (clampB (k.extract 0 16)))) (fW (cr (accR (l26 (leS (clampB (k.extract 0 16)))) s (turns s))) k) (gg (cr (accR (l26 (leS (clampB (k.extract 0 16)))) s (turns s)))) (l26 (leS (k.extract 16 32))) g0 g1 g2 g3
    rw [hvv] at hL2
    have hE : EnvOK (EU30 k s (l26 (leS (clampB (k.extract 0 16)))) (tails s (turns s)) (accR (l26 (leS (clampB (k.extract 0 16)))) s (turns s)) (fW (cr (accR (l26 (leS (clampB (k.extract 0 16)))) s (turns s))) k) (gg (cr (accR (l26 (leS (clampB (k.extract 0 16)))) s (turns s)))) (l26 (leS (k.extract 16 32))) (leB 16 (hor (leS (clampB (k.extract 0 16))) s (turns s) + leS (k.extract 16 32)))) :=
      envAddL (envEL1 envETr (sumC_ok (by simp only [List.length_cons]) hL)) (sumC_ok (by simp only [List.length_cons]) hL2)
    exact spec_run hE rfl (r30f k s _ _ _) ⟨o1, o2, o3, o4, rfl, rfl, wfTPg _ _ _ _, hg, o5, o6, o7, o8, o9, rfl, rfl, wfTBt _ _ _ _ _ _, ⟨rfl, (leB_length _ _).symm⟩, trivial⟩ rfl rfl
theorem tagB_size (k s : ByteArray) : (tagB k s).size = 16 := by unfold tagB; rw [strOf_size, leB_length]
end Go.Ev

namespace Go.Ev
open Go Go.Proofs Go.RowKit
/-! the tag's contracts, all told; and the laws' small ones -/
def tgB (k s : ByteArray) : ByteArray := bif decide (k.size = 32) then (bif decide (s.size ≤ 8256) then tagB k s else ⟨#[]⟩) else ⟨#[]⟩
def tgE (k s : ByteArray) : Int := bif decide (k.size = 32) then (bif decide (s.size ≤ 8256) then 0 else 2) else 1
def fn28 (vs : List V1) : Option (List Prop × AV) :=
  match vs with
  | [.one (.v (.string k)), .one (.v (.string s))] => some ([], .tup [strV (tgB k s), .one (.i (tgE k s))])
  | _ => none
theorem ct28 : CTok ⟨28, fn28⟩ := by
  intro vs ob r h ho
  simp only [fn28] at h
  split at h
  · rename_i k s
    simp only [Option.some.injEq, Prod.mk.injEq] at h
    obtain ⟨rfl, rfl⟩ := h
    unfold tgB tgE
    by_cases hk : k.size = 32
    · rw [decide_eq_true hk, cond_true, cond_true]
      by_cases hs : s.size ≤ 8256
      · rw [decide_eq_true hs, cond_true, cond_true]; exact spec28 k s hk hs
      · rw [decide_eq_false hs, cond_false, cond_false]; exact spec28l k s hk (by omega)
    · rw [decide_eq_false hk, cond_false, cond_false]; exact spec28f k s hk
  · simp at h
def fn30 (vs : List V1) : Option (List Prop × AV) :=
  match vs with
  | [.one (.v (.string k)), .one (.v (.string s))] => some ([k.size = 32], .val (strV (tagB k s)))
  | _ => none
theorem ct30 : CTok ⟨30, fn30⟩ := by
  intro vs ob r h ho
  simp only [fn30] at h
  split at h
  · rename_i k s
    simp only [Option.some.injEq, Prod.mk.injEq] at h
    obtain ⟨rfl, rfl⟩ := h
    exact spec30 k s ho.1
  · simp at h
theorem run29 (z : Int) : callR E0 1000 29 [.one (.i z)] [] = some ([], .val (.one (.i z))) := by kernel_rfl
theorem ct29 : CTok ⟨29, fnNum⟩ := by
  intro vs ob r h ho
  simp only [fnNum] at h
  split at h
  · simp only [Option.some.injEq, Prod.mk.injEq] at h
    obtain ⟨rfl, rfl⟩ := h
    exact spec_run envE0 rfl (run29 _) trivial rfl rfl
  · simp at h
theorem tg_e {k s : ByteArray} (hk : k.size = 32) (hs : s.size ≤ 8256) : (!decide (tgE k s = 0)) = false := by unfold tgE; rw [decide_eq_true hk, decide_eq_true hs]; rfl
theorem tg_b {k s : ByteArray} (hk : k.size = 32) (hs : s.size ≤ 8256) : (!((tgB k s).toList == (tagB k s).toList)) = false := by unfold tgB; rw [decide_eq_true hk, decide_eq_true hs, cond_true, cond_true]; simp
/-! the program is the one that is asked for -/
def half2 : ByteArray := ⟨#[48, 49, 50, 51, 52, 53, 54, 55, 56, 57, 97, 98, 99, 100, 101, 102]⟩
def any8 : ByteArray := ⟨#[97, 110, 121, 116, 104, 105, 110, 103]⟩
noncomputable def EWp : Env := mkE [⟨27, fn27n⟩, ⟨28, fn28⟩, ⟨29, fnNum⟩] (fun g t => match g with | 31 => memN t [5, 11, 14] | _ => false)
theorem envEWp : EnvOK EWp := envMk (L := [⟨27, fn27n⟩, ⟨28, fn28⟩, ⟨29, fnNum⟩]) ⟨ct27n, ct28, ct29, trivial⟩ _
theorem run31 : callR EWp 1000 31 [] [true, true] = some ([16 ≤ 1000000, (zs 16).size + half2.size ≤ 9223372036854775807, decide (tgE (zs 16 ++ half2) any8 = 0) = true, ((tgB (zs 16 ++ half2) any8).toList == half2.toList) = true], bV true) := by kernel_rfl
theorem hor_zero (s : ByteArray) : ∀ i, hor 0 s i = 0
  | 0 => rfl
  | i + 1 => by simp only [hor, Nat.mul_zero, Nat.zero_mod]
theorem wk_size : (zs 16 ++ half2).size = 32 := by rw [ByteArray.size_append, zs_size]; rfl
theorem wk_1 : leS (clampB ((zs 16 ++ half2).extract 0 16)) = 0 := by kernel_rfl
theorem wk_2 : strOf (leB 16 (0 + leS ((zs 16 ++ half2).extract 16 32))) = half2 := by kernel_rfl
theorem wk_tag : tagB (zs 16 ++ half2) any8 = half2 := by
  unfold tagB
  rw [wk_1, hor_zero]
  exact wk_2
theorem spec31 : Spec 31 [] (bV true) := spec_run envEWp rfl run31 ⟨by decide, by rw [zs_size]; decide, by
    unfold tgE; rw [decide_eq_true wk_size]; rfl, by
    unfold tgB; rw [decide_eq_true wk_size, decide_eq_true (show any8.size ≤ 8256 by decide), cond_true, cond_true, wk_tag]; simp, trivial⟩ rfl rfl
end Go.Ev

