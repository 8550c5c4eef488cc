/- The law FieldAdds holds of every argument, without a condition -/
import Derived.Test.YthlcdpdehoknbaaRing
import Derived.Test.YthlcdpdehoknbaaField
import Derived.JoinedOf
namespace Go.Ev
open Go Go.Proofs Go.RowKit

noncomputable def E7 (g : Bool) : Env := { E0 with
  fn := fun f vs => match f with
    | 18 => fnZ g (fun k => ok0 (modN k)) bad vs
    | 19 => fn19 g vs
    | 20 => fn20 vs
    | 21 => fnK g21 vs
    | 22 => fn22 vs
    | 23 => fnK1 (fun k a => .val (N8 (redN a k))) vs
    | 24 => fn2 gMul vs
    | 25 => fn25 g vs
    | 26 => fnKW (fun k V => .val (N8 (remN V (modN k)))) vs
    | 27 => (match vs with | [] => some ([], bV true) | _ => none)
    | _ => none
  S := fun f t => match f with
    | 7 => memN t [15, 21, 23, 25, 44, 51, 56, 69, 76, 88, 98, 103, 126]
    | _ => false }
theorem envE7 (g : Bool) : EnvOK (E7 g) := by
  refine ⟨mixed, ?_, fun _ _ _ _ _ h => by simp [E7, E0] at h, fun _ _ _ h => by simp [E7, E0] at h⟩
  intro f vs ob r h ho
  simp only [E7] at h
  split at h
  · exact fnZ_ok spec18 spec18b h ho
  · exact fn19_ok h ho
  · exact fn20_ok h ho
  · exact fnK_ok spec21 h ho
  · exact fn22_ok h ho
  · exact fnK1_ok spec23 h ho
  · exact fn2_ok (fun a b ha hb => spec24 a b ha hb) h ho
  · exact fn25_ok h ho
  · exact fnKW_ok spec26 h ho
  · split at h
    · simp only [Option.some.injEq, Prod.mk.injEq] at h
      obtain ⟨rfl, rfl⟩ := h
      exact spec27
    · simp at h
  · simp at h
def TA (len cap : Nat) (i : Int) : List AV := slots 129 [(0, sV len cap), (2, bV false), (3, iV i)]
def TI7 (len cap : Nat) (i z : Int) : List AV := slots 129 [(0, sV len cap), (2, bV false), (3, iV i), (4, iV z)]
end Go.Ev

namespace Go.Ev
open Go Go.Proofs Go.RowKit

def ix7 (len i : Nat) : Prop := 0 ≤ (i : Int) ∧ (i : Int) < (len : Int)
def obA (s : Asks) (len i : Nat) (z : Int) : List Prop :=
  let I := ix7 len i
  let Z := 0 ≤ z ∧ z < 4
  let a := s.a i < 4294967296 ^ 8
  let b := s.b i < 4294967296 ^ 8
  let g := modB z = true
  [decide (z ≤ 4) = true, g, g, g, Z, (!(decide (modN z.toNat % 4294967296 ^ 8 = modN z.toNat % 4294967296 ^ 8) && true)) = false, I, I, a, b, g, I, Z, a, I, Z, b, redN (s.a i) z.toNat < 4294967296 ^ 8, redN (s.b i) z.toNat < 4294967296 ^ 8,
    I, Z, a, modN z.toNat < 4294967296 ^ 8, redN (s.a i) z.toNat < 4294967296 ^ 8, I, I, a, b, g, mulN (s.a i) (s.b i) < 4294967296 ^ 16, g, Z, mulN (s.a i) (s.b i) < 4294967296 ^ 16,
    (!(decide (remN (mulN (s.a i) (s.b i)) (modN z.toNat) % 4294967296 ^ 8 = remN (mulN (s.a i) (s.b i)) (modN z.toNat) % 4294967296 ^ 8) && true)) = false, inI (z + 1)]
def obN (s : Asks) (len i : Nat) (z : Int) : List Prop :=
  let I := ix7 len i
  let a := s.a i < 4294967296 ^ 8
  let b := s.b i < 4294967296 ^ 8
  let g := modB z = false
  [decide (z ≤ 4) = true, g, g, g, I, I, a, b, g, I, I, a, b, g, mulN (s.a i) (s.b i) < 4294967296 ^ 16, g, (!isZ 0) = false, inI (z + 1)]
theorem obA_ok {s : Asks} {len i m : Nat} {z : Int} (hz : modB z = true) (hi : i < len) (hm : i < m) (hs : s.ok m) : All (obA s len i z) := by
  have hZ := modB_t hz
  have hI : ix7 len i := by unfold ix7; omega
  obtain ⟨ha, hb⟩ := hs i hm
  have hr : ∀ x, redN x z.toNat < 4294967296 ^ 8 := fun x => Nat.lt_trans (Nat.mod_lt _ (modN_pos _)) (modN_lt _)
  have hM := mulN_lt ha hb
  exact ⟨decide_eq_true (by omega), hz, hz, hz, hZ, same_refl' _, hI, hI, ha, hb, hz, hI, hZ, ha, hI, hZ, hb, hr _, hr _, hI, hZ, ha, modN_lt _, hr _, hI, hI, ha, hb, hz, hM, hz, hZ, hM, same_refl' _, by unfold inI; omega, trivial⟩
theorem obN_ok {s : Asks} {len i m : Nat} {z : Int} (hz : modB z = false) (hz1 : -1 ≤ z) (hz2 : z ≤ 4) (hi : i < len) (hm : i < m) (hs : s.ok m) : All (obN s len i z) := by
  have hI : ix7 len i := by unfold ix7; omega
  obtain ⟨ha, hb⟩ := hs i hm
  have hM := mulN_lt ha hb
  exact ⟨decide_eq_true (by omega), hz, hz, hz, hI, hI, ha, hb, hz, hI, hI, ha, hb, hz, hM, hz, rfl, by unfold inI; omega, trivial⟩
theorem tTI7 (len cap : Nat) (i z : Int) : tmsWf 1 (TI7 len cap i z) = true := by kernel_rfl
theorem tTA (len cap : Nat) (i : Int) : tmsWf 1 (TA len cap i) = true := by kernel_rfl
theorem wfTI7 (s : Asks) (m len cap : Nat) (i z : Int) : wfS (TI7 len cap i z) [askB s m] = true := wfS_of (by simp [askB_free]) (tTI7 len cap i z)
theorem wfTA (s : Asks) (m len cap : Nat) (i : Int) : wfS (TA len cap i) [askB s m] = true := wfS_of (by simp [askB_free]) (tTA len cap i)

theorem run7a_1_0 (s : Asks) (len cap : Nat) (z : Int) : runTo (E7 true) 1000 ((E7 true).S 7) (bodyOf Try.prog 7 5) (TI7 len cap ((0 : Nat) : Int) z) [askB s 1] [true, false, false] (TI7 len cap ((0 : Nat) : Int) (z + 1)) 1 =
    some (obA s len 0 z, .normal, TI7 len cap ((0 : Nat) : Int) (z + 1), [askB s 1]) := by kernel_rfl
theorem run7n_1_0 (s : Asks) (len cap : Nat) (z : Int) : runTo (E7 false) 1000 ((E7 false).S 7) (bodyOf Try.prog 7 5) (TI7 len cap ((0 : Nat) : Int) z) [askB s 1] [true, false] (TI7 len cap ((0 : Nat) : Int) (z + 1)) 1 =
    some (obN s len 0 z, .normal, TI7 len cap ((0 : Nat) : Int) (z + 1), [askB s 1]) := by kernel_rfl
theorem run7a_2_0 (s : Asks) (len cap : Nat) (z : Int) : runTo (E7 true) 1000 ((E7 true).S 7) (bodyOf Try.prog 7 5) (TI7 len cap ((0 : Nat) : Int) z) [askB s 2] [true, false, false] (TI7 len cap ((0 : Nat) : Int) (z + 1)) 1 =
    some (obA s len 0 z, .normal, TI7 len cap ((0 : Nat) : Int) (z + 1), [askB s 2]) := by kernel_rfl
theorem run7n_2_0 (s : Asks) (len cap : Nat) (z : Int) : runTo (E7 false) 1000 ((E7 false).S 7) (bodyOf Try.prog 7 5) (TI7 len cap ((0 : Nat) : Int) z) [askB s 2] [true, false] (TI7 len cap ((0 : Nat) : Int) (z + 1)) 1 =
    some (obN s len 0 z, .normal, TI7 len cap ((0 : Nat) : Int) (z + 1), [askB s 2]) := by kernel_rfl
theorem run7a_2_1 (s : Asks) (len cap : Nat) (z : Int) : runTo (E7 true) 1000 ((E7 true).S 7) (bodyOf Try.prog 7 5) (TI7 len cap ((1 : Nat) : Int) z) [askB s 2] [true, false, false] (TI7 len cap ((1 : Nat) : Int) (z + 1)) 1 =
    some (obA s len 1 z, .normal, TI7 len cap ((1 : Nat) : Int) (z + 1), [askB s 2]) := by kernel_rfl
theorem run7n_2_1 (s : Asks) (len cap : Nat) (z : Int) : runTo (E7 false) 1000 ((E7 false).S 7) (bodyOf Try.prog 7 5) (TI7 len cap ((1 : Nat) : Int) z) [askB s 2] [true, false] (TI7 len cap ((1 : Nat) : Int) (z + 1)) 1 =
    some (obN s len 1 z, .normal, TI7 len cap ((1 : Nat) : Int) (z + 1), [askB s 2]) := by kernel_rfl
theorem run7a_3_0 (s : Asks) (len cap : Nat) (z : Int) : runTo (E7 true) 1000 ((E7 true).S 7) (bodyOf Try.prog 7 5) (TI7 len cap ((0 : Nat) : Int) z) [askB s 3] [true, false, false] (TI7 len cap ((0 : Nat) : Int) (z + 1)) 1 =
    some (obA s len 0 z, .normal, TI7 len cap ((0 : Nat) : Int) (z + 1), [askB s 3]) := by kernel_rfl
theorem run7n_3_0 (s : Asks) (len cap : Nat) (z : Int) : runTo (E7 false) 1000 ((E7 false).S 7) (bodyOf Try.prog 7 5) (TI7 len cap ((0 : Nat) : Int) z) [askB s 3] [true, false] (TI7 len cap ((0 : Nat) : Int) (z + 1)) 1 =
    some (obN s len 0 z, .normal, TI7 len cap ((0 : Nat) : Int) (z + 1), [askB s 3]) := by kernel_rfl
theorem run7a_3_1 (s : Asks) (len cap : Nat) (z : Int) : runTo (E7 true) 1000 ((E7 true).S 7) (bodyOf Try.prog 7 5) (TI7 len cap ((1 : Nat) : Int) z) [askB s 3] [true, false, false] (TI7 len cap ((1 : Nat) : Int) (z + 1)) 1 =
    some (obA s len 1 z, .normal, TI7 len cap ((1 : Nat) : Int) (z + 1), [askB s 3]) := by kernel_rfl
theorem run7n_3_1 (s : Asks) (len cap : Nat) (z : Int) : runTo (E7 false) 1000 ((E7 false).S 7) (bodyOf Try.prog 7 5) (TI7 len cap ((1 : Nat) : Int) z) [askB s 3] [true, false] (TI7 len cap ((1 : Nat) : Int) (z + 1)) 1 =
    some (obN s len 1 z, .normal, TI7 len cap ((1 : Nat) : Int) (z + 1), [askB s 3]) := by kernel_rfl
theorem run7a_3_2 (s : Asks) (len cap : Nat) (z : Int) : runTo (E7 true) 1000 ((E7 true).S 7) (bodyOf Try.prog 7 5) (TI7 len cap ((2 : Nat) : Int) z) [askB s 3] [true, false, false] (TI7 len cap ((2 : Nat) : Int) (z + 1)) 1 =
    some (obA s len 2 z, .normal, TI7 len cap ((2 : Nat) : Int) (z + 1), [askB s 3]) := by kernel_rfl
theorem run7n_3_2 (s : Asks) (len cap : Nat) (z : Int) : runTo (E7 false) 1000 ((E7 false).S 7) (bodyOf Try.prog 7 5) (TI7 len cap ((2 : Nat) : Int) z) [askB s 3] [true, false] (TI7 len cap ((2 : Nat) : Int) (z + 1)) 1 =
    some (obN s len 2 z, .normal, TI7 len cap ((2 : Nat) : Int) (z + 1), [askB s 3]) := by kernel_rfl
theorem run7a_4_0 (s : Asks) (len cap : Nat) (z : Int) : runTo (E7 true) 1000 ((E7 true).S 7) (bodyOf Try.prog 7 5) (TI7 len cap ((0 : Nat) : Int) z) [askB s 4] [true, false, false] (TI7 len cap ((0 : Nat) : Int) (z + 1)) 1 =
    some (obA s len 0 z, .normal, TI7 len cap ((0 : Nat) : Int) (z + 1), [askB s 4]) := by kernel_rfl
theorem run7n_4_0 (s : Asks) (len cap : Nat) (z : Int) : runTo (E7 false) 1000 ((E7 false).S 7) (bodyOf Try.prog 7 5) (TI7 len cap ((0 : Nat) : Int) z) [askB s 4] [true, false] (TI7 len cap ((0 : Nat) : Int) (z + 1)) 1 =
    some (obN s len 0 z, .normal, TI7 len cap ((0 : Nat) : Int) (z + 1), [askB s 4]) := by kernel_rfl
theorem run7a_4_1 (s : Asks) (len cap : Nat) (z : Int) : runTo (E7 true) 1000 ((E7 true).S 7) (bodyOf Try.prog 7 5) (TI7 len cap ((1 : Nat) : Int) z) [askB s 4] [true, false, false] (TI7 len cap ((1 : Nat) : Int) (z + 1)) 1 =
    some (obA s len 1 z, .normal, TI7 len cap ((1 : Nat) : Int) (z + 1), [askB s 4]) := by kernel_rfl
theorem run7n_4_1 (s : Asks) (len cap : Nat) (z : Int) : runTo (E7 false) 1000 ((E7 false).S 7) (bodyOf Try.prog 7 5) (TI7 len cap ((1 : Nat) : Int) z) [askB s 4] [true, false] (TI7 len cap ((1 : Nat) : Int) (z + 1)) 1 =
    some (obN s len 1 z, .normal, TI7 len cap ((1 : Nat) : Int) (z + 1), [askB s 4]) := by kernel_rfl
theorem run7a_4_2 (s : Asks) (len cap : Nat) (z : Int) : runTo (E7 true) 1000 ((E7 true).S 7) (bodyOf Try.prog 7 5) (TI7 len cap ((2 : Nat) : Int) z) [askB s 4] [true, false, false] (TI7 len cap ((2 : Nat) : Int) (z + 1)) 1 =
    some (obA s len 2 z, .normal, TI7 len cap ((2 : Nat) : Int) (z + 1), [askB s 4]) := by kernel_rfl
theorem run7n_4_2 (s : Asks) (len cap : Nat) (z : Int) : runTo (E7 false) 1000 ((E7 false).S 7) (bodyOf Try.prog 7 5) (TI7 len cap ((2 : Nat) : Int) z) [askB s 4] [true, false] (TI7 len cap ((2 : Nat) : Int) (z + 1)) 1 =
    some (obN s len 2 z, .normal, TI7 len cap ((2 : Nat) : Int) (z + 1), [askB s 4]) := by kernel_rfl
theorem run7a_4_3 (s : Asks) (len cap : Nat) (z : Int) : runTo (E7 true) 1000 ((E7 true).S 7) (bodyOf Try.prog 7 5) (TI7 len cap ((3 : Nat) : Int) z) [askB s 4] [true, false, false] (TI7 len cap ((3 : Nat) : Int) (z + 1)) 1 =
    some (obA s len 3 z, .normal, TI7 len cap ((3 : Nat) : Int) (z + 1), [askB s 4]) := by kernel_rfl
theorem run7n_4_3 (s : Asks) (len cap : Nat) (z : Int) : runTo (E7 false) 1000 ((E7 false).S 7) (bodyOf Try.prog 7 5) (TI7 len cap ((3 : Nat) : Int) z) [askB s 4] [true, false] (TI7 len cap ((3 : Nat) : Int) (z + 1)) 1 =
    some (obN s len 3 z, .normal, TI7 len cap ((3 : Nat) : Int) (z + 1), [askB s 4]) := by kernel_rfl
theorem run7x (B : Blk) (len cap : Nat) (i : Int) : runTo (E7 true) 1000 ((E7 true).S 7) (bodyOf Try.prog 7 5) (TI7 len cap i 5) [B] [false] (TA len cap i) 1 =
    some ([decide ((5 : Int) ≤ 4) = false], .exit 2, TA len cap i, [B]) := by kernel_rfl
theorem step7 (s : Asks) {m len cap i : Nat} (hi : i < m) (hm : m ≤ 4) (hl : i < len) (hs : s.ok m) (z : Int) (hz1 : -1 ≤ z) (hz2 : z ≤ 4) : Goes Try.prog (bodyOf Try.prog 7 5) .normal (TI7 len cap (i : Int) z) [askB s m] (TI7 len cap (i : Int) (z + 1)) [askB s m] := by
  have hwf := wfTI7 s m len cap (i : Int) (z + 1)
  cases hz : modB z with
  | true =>
    have hob := obA_ok hz hl hi hs
    have : Runs (E7 true) 1000 ((E7 true).S 7) (bodyOf Try.prog 7 5) .normal (TI7 len cap (i : Int) z) [askB s m] (TI7 len cap (i : Int) (z + 1)) [askB s m] := by
      match m, i, hi, hm with
      | 1, 0, _, _ => exact ⟨[true, false, false], _, run7a_1_0 s len cap z, hob, hwf⟩
      | 2, 0, _, _ => exact ⟨[true, false, false], _, run7a_2_0 s len cap z, hob, hwf⟩
      | 2, 1, _, _ => exact ⟨[true, false, false], _, run7a_2_1 s len cap z, hob, hwf⟩
      | 3, 0, _, _ => exact ⟨[true, false, false], _, run7a_3_0 s len cap z, hob, hwf⟩
      | 3, 1, _, _ => exact ⟨[true, false, false], _, run7a_3_1 s len cap z, hob, hwf⟩
      | 3, 2, _, _ => exact ⟨[true, false, false], _, run7a_3_2 s len cap z, hob, hwf⟩
      | 4, 0, _, _ => exact ⟨[true, false, false], _, run7a_4_0 s len cap z, hob, hwf⟩
      | 4, 1, _, _ => exact ⟨[true, false, false], _, run7a_4_1 s len cap z, hob, hwf⟩
      | 4, 2, _, _ => exact ⟨[true, false, false], _, run7a_4_2 s len cap z, hob, hwf⟩
      | 4, 3, _, _ => exact ⟨[true, false, false], _, run7a_4_3 s len cap z, hob, hwf⟩
      | 1, i + 1, h, _ => exact absurd h (by omega)
      | 2, i + 2, h, _ => exact absurd h (by omega)
      | 3, i + 3, h, _ => exact absurd h (by omega)
      | 4, i + 4, h, _ => exact absurd h (by omega)
      | n + 5, _, _, h => exact absurd h (by omega)
    exact this.goes (envE7 true)
  | false =>
    have hob := obN_ok hz hz1 hz2 hl hi hs
    have : Runs (E7 false) 1000 ((E7 false).S 7) (bodyOf Try.prog 7 5) .normal (TI7 len cap (i : Int) z) [askB s m] (TI7 len cap (i : Int) (z + 1)) [askB s m] := by
      match m, i, hi, hm with
      | 1, 0, _, _ => exact ⟨[true, false], _, run7n_1_0 s len cap z, hob, hwf⟩
      | 2, 0, _, _ => exact ⟨[true, false], _, run7n_2_0 s len cap z, hob, hwf⟩
      | 2, 1, _, _ => exact ⟨[true, false], _, run7n_2_1 s len cap z, hob, hwf⟩
      | 3, 0, _, _ => exact ⟨[true, false], _, run7n_3_0 s len cap z, hob, hwf⟩
      | 3, 1, _, _ => exact ⟨[true, false], _, run7n_3_1 s len cap z, hob, hwf⟩
      | 3, 2, _, _ => exact ⟨[true, false], _, run7n_3_2 s len cap z, hob, hwf⟩
      | 4, 0, _, _ => exact ⟨[true, false], _, run7n_4_0 s len cap z, hob, hwf⟩
      | 4, 1, _, _ => exact ⟨[true, false], _, run7n_4_1 s len cap z, hob, hwf⟩
      | 4, 2, _, _ => exact ⟨[true, false], _, run7n_4_2 s len cap z, hob, hwf⟩
      | 4, 3, _, _ => exact ⟨[true, false], _, run7n_4_3 s len cap z, hob, hwf⟩
      | 1, i + 1, h, _ => exact absurd h (by omega)
      | 2, i + 2, h, _ => exact absurd h (by omega)
      | 3, i + 3, h, _ => exact absurd h (by omega)
      | 4, i + 4, h, _ => exact absurd h (by omega)
      | n + 5, _, _, h => exact absurd h (by omega)
    exact this.goes (envE7 false)
theorem loopI7 (s : Asks) {m len cap i : Nat} (hi : i < m) (hm : m ≤ 4) (hl : i < len) (hs : s.ok m) : Goes Try.prog (.loop (bodyOf Try.prog 7 5)) (.exit 2) (TI7 len cap (i : Int) (-1)) [askB s m] (TA len cap (i : Int)) [askB s m] := by
  have := loop_goes (P := Try.prog) (y := bodyOf Try.prog 7 5) (ex := .exit 2) (N := 6) (k := 1) (T := fun k => TI7 len cap (i : Int) ((k : Int) - 1)) (M := fun _ => [askB s m]) (TF := TA len cap (i : Int)) (MF := [askB s m]) (by simp) (fun _ _ => rfl)
    (fun k hk => by
      have := step7 (cap := cap) s hi hm hl hs ((k : Int) - 1) (by omega) (by omega)
      rwa [show (k : Int) - 1 + 1 = ((k + 1 : Nat) : Int) - 1 by omega] at this)
    (by
      show Goes Try.prog (bodyOf Try.prog 7 5) (.exit 2) (TI7 len cap (i : Int) 5) [askB s m] (TA len cap (i : Int)) [askB s m]
      exact Runs.goes (envE7 true) ⟨[false], _, run7x (askB s m) len cap (i : Int), ⟨by decide, trivial⟩, wfTA _ _ _ _ _⟩)
  exact this
noncomputable def E7i (s : Asks) (m len cap i : Nat) : Env := { E7 true with lp := fun j => match Nat.beq j 5 with
    | true => some (bodyOf Try.prog 7 5, sumC (TI7 len cap (i : Int) (-1)) [askB s m] (TA len cap (i : Int)) [askB s m] (.exit 2))
    | false => none }
theorem envE7i (s : Asks) {m len cap i : Nat} (hi : i < m) (hm : m ≤ 4) (hl : i < len) (hs : s.ok m) : EnvOK (E7i s m len cap i) := envEL1 (envE7 true) (sumC_ok (by simp only [List.length_cons]) (loopI7 s hi hm hl hs))
def obO (s : Asks) (m len cap i : Nat) : List Prop := [decide ((i : Int) < (len : Int)) = true, bodyOf Try.prog 7 5 = bodyOf Try.prog 7 5, (TI7 len cap (i : Int) (-1), [askB s m]) = (TI7 len cap (i : Int) (-1), [askB s m]), wfS (TI7 len cap (i : Int) (-1)) [askB s m] = true, inI ((i : Int) + 1)]

theorem run7o_0 (s : Asks) (m len cap : Nat) : runTo (E7i s m len cap 0) 1000 ((E7 true).S 7) (bodyOf Try.prog 7 2) (TA len cap ((0 : Nat) : Int)) [askB s m] [true] (TA len cap ((0 + 1 : Nat) : Int)) 1 =
    some (obO s m len cap 0, .normal, TA len cap ((0 + 1 : Nat) : Int), [askB s m]) := by kernel_rfl
theorem run7o_1 (s : Asks) (m len cap : Nat) : runTo (E7i s m len cap 1) 1000 ((E7 true).S 7) (bodyOf Try.prog 7 2) (TA len cap ((1 : Nat) : Int)) [askB s m] [true] (TA len cap ((1 + 1 : Nat) : Int)) 1 =
    some (obO s m len cap 1, .normal, TA len cap ((1 + 1 : Nat) : Int), [askB s m]) := by kernel_rfl
theorem run7o_2 (s : Asks) (m len cap : Nat) : runTo (E7i s m len cap 2) 1000 ((E7 true).S 7) (bodyOf Try.prog 7 2) (TA len cap ((2 : Nat) : Int)) [askB s m] [true] (TA len cap ((2 + 1 : Nat) : Int)) 1 =
    some (obO s m len cap 2, .normal, TA len cap ((2 + 1 : Nat) : Int), [askB s m]) := by kernel_rfl
theorem run7o_3 (s : Asks) (m len cap : Nat) : runTo (E7i s m len cap 3) 1000 ((E7 true).S 7) (bodyOf Try.prog 7 2) (TA len cap ((3 : Nat) : Int)) [askB s m] [true] (TA len cap ((3 + 1 : Nat) : Int)) 1 =
    some (obO s m len cap 3, .normal, TA len cap ((3 + 1 : Nat) : Int), [askB s m]) := by kernel_rfl
theorem run7p (B : Blk) (len cap m : Nat) : runTo (E7 true) 1000 ((E7 true).S 7) (bodyOf Try.prog 7 2) (TA len cap (m : Int)) [B] [false] (TA len cap (m : Int)) 1 =
    some ([decide ((m : Int) < (len : Int)) = false], .exit 0, TA len cap (m : Int), [B]) := by kernel_rfl
theorem run7q (B : Blk) (len cap : Nat) : runTo (E7 true) 1000 ((E7 true).S 7) (bodyOf Try.prog 7 2) (TA len cap ((4 : Nat) : Int)) [B] [true] (TA len cap ((4 : Nat) : Int)) 1 =
    some ([decide (((4 : Nat) : Int) < (len : Int)) = true], .exit 0, TA len cap ((4 : Nat) : Int), [B]) := by kernel_rfl
theorem loop7 (s : Asks) {m len cap : Nat} (hm : m = min len 4) (hs : s.ok m) : Goes Try.prog (.loop (bodyOf Try.prog 7 2)) (.exit 0) (TA len cap ((0 : Nat) : Int)) [askB s m] (TA len cap (m : Int)) [askB s m] := by
  refine loop_goes (N := m) (k := 1) (T := fun i => TA len cap (i : Int)) (M := fun _ => [askB s m]) (by simp) (fun _ _ => rfl) (fun i hi => ?_) ?_
  · have hE := envE7i (cap := cap) s hi (by omega) (show i < len by omega) hs
    have hob : All (obO s m len cap i) := ⟨decide_eq_true (by omega), rfl, rfl, wfTI7 _ _ _ _ _ _, by unfold inI; omega, trivial⟩
    have hwf := wfTA s m len cap ((i + 1 : Nat) : Int)
    have h4 : i = 0 ∨ i = 1 ∨ i = 2 ∨ i = 3 := by omega
    rcases h4 with rfl | rfl | rfl | rfl
    · exact Runs.goes hE ⟨[true], _, run7o_0 s m len cap, hob, hwf⟩
    · exact Runs.goes hE ⟨[true], _, run7o_1 s m len cap, hob, hwf⟩
    · exact Runs.goes hE ⟨[true], _, run7o_2 s m len cap, hob, hwf⟩
    · exact Runs.goes hE ⟨[true], _, run7o_3 s m len cap, hob, hwf⟩
  · by_cases h : m < len
    · obtain rfl : m = 4 := by omega
      exact Runs.goes (envE7 true) ⟨[true], _, run7q _ len cap, ⟨decide_eq_true (by omega), trivial⟩, wfTA _ _ _ _ _⟩
    · exact Runs.goes (envE7 true) ⟨[false], _, run7p _ len cap m, ⟨decide_eq_false (by omega), trivial⟩, wfTA _ _ _ _ _⟩
noncomputable def E7X (s : Asks) (m len cap : Nat) : Env := { E7 true with lp := fun j => match Nat.beq j 2 with | true => some (bodyOf Try.prog 7 2, sumC (TA len cap ((0 : Nat) : Int)) [askB s m] (TA len cap (m : Int)) [askB s m] (.exit 0)) | false => none }
theorem envE7X (s : Asks) {m len cap : Nat} (hm : m = min len 4) (hs : s.ok m) : EnvOK (E7X s m len cap) := envEL1 (envE7 true) (sumC_ok (by simp only [List.length_cons]) (loop7 s hm hs))
theorem run7 (s : Asks) (m len cap : Nat) : callBy (E7X s m len cap) (evalC (E7X s m len cap) 1000) 7 [.one (.sl 0 0 len cap)] [askB s m] [] =
    some ([bodyOf Try.prog 7 2 = bodyOf Try.prog 7 2, (TA len cap ((0 : Nat) : Int), [askB s m]) = (TA len cap ((0 : Nat) : Int), [askB s m]), wfS (TA len cap ((0 : Nat) : Int)) [askB s m] = true], [], .val (.one (.v (.bool true))), [askB s m]) := by kernel_rfl
theorem run7nil : callBy (E7 true) (evalC (E7 true) 1000) 7 [.one (.v (.slice none 0 0))] [] [false] = some ([decide (((0 : Nat) : Int) < ((0 : Nat) : Int)) = false], [], .val (.one (.v (.bool true))), []) := by kernel_rfl
theorem law7 {H : Type} {enc : TypeId × Value → H} {r : Reach} {W : World} {base : Nat} {v : Value} {d : DataW H} {ps : List MemPlace} (hval : Value.okWide Try.prog W r base 22 v) (h : DataW.Trod enc Try.prog W 0 (fun _ => true) true 22 v d ps) :
    Calls Try.prog 7 #[v] W (Trues W) := by
  refine asks_calls (K := 4) (Q := Trues) (fun w => law_run_nil (E := E7 true) (envE7 true) run7nil ⟨by decide, trivial⟩ w) ?_ hval h
  intro s m len cap hm _ _ hs w φ hmr
  exact law_run (envE7X s hm hs) (run7 s m len cap) ⟨rfl, rfl, wfTA _ _ _ _ _, trivial⟩ hmr
end Go.Ev
namespace Go.Proofs.Ythlcdpdehoknbaa.Laws
open Go Go.Ev Go.RowKit Go.ChangeShapes Go.WideShapes Go.ChangeAt

set_option maxRecDepth 100000 in
theorem lifted7 (os : Os) (started : os.Started) (H : Type) (enc : TypeId × Value → H) :
    ReturnsInHanded {} Try.checked os 7 .any (Rows.fieldAddsSpec.pre6 enc Try.prog Try.f7 Rows.fieldAddsRow.domain false) (Rows.fieldAddsSpec.post enc Try.prog Try.f7 false true false false) := by
  refine returnsInHanded_of_change (C := Try.checked) own started (by kernel_rfl) Try.func7
    (ChangeSpec.witness6 (enc := enc) (C := Try.checked) false ⟨#[], #[.slice none 0 0], []⟩ 8 (by kernel_rfl) (by kernel_rfl) (by kernel_rfl) (by kernel_rfl)) ?_
  intro W base args ds gs before hval0 hW _ _
  have hval : ∀ (j : Nat) t v, Try.f7.params[j]? = some t → args[j]? = some v → Value.okWide Try.prog W .any base t v := hval0
  have hW' := hW
  obtain ⟨p, q, hA0, hV, hbef, hfz, hnd⟩ := hW
  have hp : Try.f7.params = #[22] := by kernel_rfl
  have hA : DataW.TrodAll enc Try.prog W 0 (fun _ => true) true Try.f7.params.toList args.toList ds p := hA0
  rw [hp] at hA hval
  obtain ⟨v0, d0, rfl, rfl, h0⟩ := trodAll_one hA
  obtain ⟨rfl, rfl⟩ := trodVars_none hV
  refine (law7 (hval 0 22 v0 rfl rfl) h0).mono ?_
  rintro e W' ⟨rfl, hb⟩
  exact ⟨_, rfl, post_true (tb := 4) rfl hp (by kernel_rfl) u4 laid rd22 row22 rfl rfl hW' hb⟩

theorem holds7 : Rows.FieldAddsSaid :=
  OpenClaim.holds_of_wide 7 Try.f7 rfl rfl rfl rfl rfl rfl rfl ⟨rfl, rfl, rfl, rfl, rfl⟩ rfl rfl rfl rfl rfl (by kernel_rfl) Try.func7 (by kernel_rfl)
    (of_decide_eq_true (by kernel_rfl)) (by unfold Func.isWrapper; first | (rw [if_pos (by decide +kernel)]; kernel_rfl) | (rw [if_neg (by decide +kernel)]; exact ⟨rfl, rfl⟩))
    (fun os started H enc _ => lifted7 os started H enc)

end Go.Proofs.Ythlcdpdehoknbaa.Laws

namespace Go.Proofs.Ythlcdpdehoknbaa
open Go
theorem fieldAdds_holds : Rows.FieldAddsSaid := Laws.holds7
end Go.Proofs.Ythlcdpdehoknbaa

