/- Numbers of limbs: what the functions on them come to -/
import Derived.Test.YtfcobjhnkghdjaaGreatPartE
namespace Go.Ev
open Go Go.Proofs Go.RowKit
theorem run77 (a b : Nat → Nat) : callR E0 1000 155 [C8 a, C8 b] [] = some ([], .val (C16 (joinU a b))) := by kernel_rfl
def highU (w : Nat → Nat) (i : Nat) : Nat := w (i + 8)
theorem spec77 (a b : Nat) (ha : a < 4294967296 ^ 8) (hb : b < 4294967296 ^ 8) : Spec 155 [N8 a, N8 b] (.val (N16 (joinN a b))) := by
 have h := spec_run envE0 rfl (run77 (limb a) (limb b)) trivial rfl rfl
 refine h.congr (fun φ => by simp only [List.map_cons, List.map_nil, conc_C8]) (fun φ => ?_)
 exact joinU_conc φ a b ha hb
def tabL : List Nat := [0, 1, 2, 2, 3, 3, 3, 3, 4, 4, 4, 4, 4, 4, 4, 4, 5, 5, 5, 5, 5, 5, 5, 5, 5, 5, 5, 5, 5, 5, 5, 5, 6, 6, 6, 6, 6, 6, 6, 6, 6, 6, 6, 6, 6, 6, 6, 6, 6, 6, 6, 6, 6, 6, 6, 6, 6, 6, 6, 6, 6, 6, 6, 6, 7, 7, 7, 7, 7, 7, 7, 7, 7, 7, 7, 7, 7, 7, 7, 7, 7, 7, 7, 7, 7, 7, 7, 7, 7, 7, 7, 7, 7, 7, 7, 7, 7, 7, 7, 7, 7, 7, 7, 7, 7, 7, 7, 7, 7, 7, 7, 7, 7, 7, 7, 7, 7, 7, 7, 7, 7, 7, 7, 7, 7, 7, 7, 7, 8, 8, 8, 8, 8, 8, 8, 8, 8, 8, 8, 8, 8, 8, 8, 8, 8, 8, 8, 8, 8, 8, 8, 8, 8, 8, 8, 8, 8, 8, 8, 8, 8, 8, 8, 8, 8, 8, 8, 8, 8, 8, 8, 8, 8, 8, 8, 8, 8, 8, 8, 8, 8, 8, 8, 8, 8, 8, 8, 8, 8, 8, 8, 8, 8, 8, 8, 8, 8, 8, 8, 8, 8, 8, 8, 8, 8, 8, 8, 8, 8, 8, 8, 8, 8, 8, 8, 8, 8, 8, 8, 8, 8, 8, 8, 8, 8, 8, 8, 8, 8, 8, 8, 8, 8, 8, 8, 8, 8, 8, 8, 8, 8, 8, 8, 8, 8, 8, 8, 8, 8, 8, 8, 8, 8, 8, 8, 8]
def tabB : ByteArray := ⟨(tabL.map UInt8.ofNat).toArray⟩
def tb (n : Nat) : Nat := (tabB.data.getD n 0).toNat
theorem tb_spec : ∀ n, n < 256 → n < 2 ^ tb n ∧ tb n ≤ 8 := by decide +kernel
theorem tb_size : tabB.size = 256 := by kernel_rfl
noncomputable def E91 : Env := { E0 with
 S := fun f t => match f with
  | 160 => memN t [4, 8, 12, 16, 18]
  | _ => false }
theorem envE91 : EnvOK E91 := ⟨mixed, fun _ _ _ _ h => by simp [E91, E0] at h, fun _ _ _ _ _ h => by simp [E91, E0] at h, fun _ _ _ h => by simp [E91, E0] at h, fun _ _ _ _ _ _ h => by simp [E91, E0] at h⟩
theorem run91a (x : Nat) : callR E91 1000 160 [u32 x] [true, true] = some ([decide (65536 ≤ x) = true, decide (256 ≤ x / 2 ^ min 16 IntKind.u32.bits) = true, inI (16 + 8), x / 2 ^ min 16 IntKind.u32.bits / 2 ^ min 8 IntKind.u32.bits % 256 < tabB.size, inI (24 + IntKind.i64.wrap ((tb (x / 2 ^ min 16 IntKind.u32.bits / 2 ^ min 8 IntKind.u32.bits % 256) : Nat) : Int))], iV (24 + IntKind.i64.wrap ((tb (x / 2 ^ min 16 IntKind.u32.bits / 2 ^ min 8 IntKind.u32.bits % 256) : Nat) : Int))) := by kernel_rfl
theorem run91b (x : Nat) : callR E91 1000 160 [u32 x] [true, false] = some ([decide (65536 ≤ x) = true, decide (256 ≤ x / 2 ^ min 16 IntKind.u32.bits) = false, x / 2 ^ min 16 IntKind.u32.bits % 256 < tabB.size, inI (16 + IntKind.i64.wrap ((tb (x / 2 ^ min 16 IntKind.u32.bits % 256) : Nat) : Int))], iV (16 + IntKind.i64.wrap ((tb (x / 2 ^ min 16 IntKind.u32.bits % 256) : Nat) : Int))) := by kernel_rfl
theorem run91c (x : Nat) : callR E91 1000 160 [u32 x] [false, true] = some ([decide (65536 ≤ x) = false, decide (256 ≤ x) = true, inI (0 + 8), x / 2 ^ min 8 IntKind.u32.bits % 256 < tabB.size, inI (8 + IntKind.i64.wrap ((tb (x / 2 ^ min 8 IntKind.u32.bits % 256) : Nat) : Int))], iV (8 + IntKind.i64.wrap ((tb (x / 2 ^ min 8 IntKind.u32.bits % 256) : Nat) : Int))) := by kernel_rfl
theorem run91d (x : Nat) : callR E91 1000 160 [u32 x] [false, false] = some ([decide (65536 ≤ x) = false, decide (256 ≤ x) = false, x % 256 < tabB.size, inI (0 + IntKind.i64.wrap ((tb (x % 256) : Nat) : Int))], iV (0 + IntKind.i64.wrap ((tb (x % 256) : Nat) : Int))) := by kernel_rfl
def len32 (x : Nat) : Nat :=
 bif decide (65536 ≤ x) then (bif decide (256 ≤ x / 65536) then 24 + tb (x / 65536 / 256 % 256) else 16 + tb (x / 65536 % 256)) else (bif decide (256 ≤ x) then 8 + tb (x / 256 % 256) else tb (x % 256))
theorem wrap_small {n : Nat} (h : n ≤ 8) : IntKind.i64.wrap (n : Int) = (n : Int) := wrap64_inI ⟨by omega, by omega⟩
theorem spec91 (x : Nat) (hx : x < 4294967296) : Spec 160 [u32 x] (iV (len32 x : Int)) ∧ x < 2 ^ len32 x ∧ len32 x ≤ 32 := by
 have p16 : (2 : Nat) ^ min 16 IntKind.u32.bits = 65536 := rfl
 have p8 : (2 : Nat) ^ min 8 IntKind.u32.bits = 256 := rfl
 by_cases h1 : 65536 ≤ x
 ·by_cases h2 : 256 ≤ x / 65536
  ·have hl : len32 x = 24 + tb (x / 65536 / 256 % 256) := by simp only [len32, decide_eq_true h1, decide_eq_true h2, cond_true]
   have hr := run91a x
   rw [p16, p8] at hr
   have hn : x / 65536 / 256 % 256 < 256 := by omega
   obtain ⟨t1, t2⟩ := tb_spec _ hn
   rw [wrap_small t2] at hr
   refine ⟨?_, ?_, by omega⟩
   ·rw [hl]
    exact spec_run envE91 rfl hr ⟨decide_eq_true h1, decide_eq_true h2, by decide, by rw [tb_size]; omega, by unfold inI; omega, trivial⟩ rfl rfl
   ·rw [hl, Nat.pow_add]; omega
  ·have hl : len32 x = 16 + tb (x / 65536 % 256) := by simp only [len32, decide_eq_true h1, decide_eq_false h2, cond_true, cond_false]
   have hr := run91b x
   rw [p16] at hr
   have hn : x / 65536 % 256 < 256 := by omega
   obtain ⟨t1, t2⟩ := tb_spec _ hn
   rw [wrap_small t2] at hr
   refine ⟨?_, ?_, by omega⟩
   ·rw [hl]
    exact spec_run envE91 rfl hr ⟨decide_eq_true h1, decide_eq_false h2, by rw [tb_size]; omega, by unfold inI; omega, trivial⟩ rfl rfl
   ·rw [hl, Nat.pow_add]; omega
 ·by_cases h2 : 256 ≤ x
  ·have hl : len32 x = 8 + tb (x / 256 % 256) := by simp only [len32, decide_eq_false h1, decide_eq_true h2, cond_true, cond_false]
   have hr := run91c x
   rw [p8] at hr
   have hn : x / 256 % 256 < 256 := by omega
   obtain ⟨t1, t2⟩ := tb_spec _ hn
   rw [wrap_small t2] at hr
   refine ⟨?_, ?_, by omega⟩
   ·rw [hl]
    exact spec_run envE91 rfl hr ⟨decide_eq_false h1, decide_eq_true h2, by decide, by rw [tb_size]; omega, by unfold inI; omega, trivial⟩ rfl rfl
   ·rw [hl, Nat.pow_add]; omega
  ·have hl : len32 x = tb (x % 256) := by simp only [len32, decide_eq_false h1, decide_eq_false h2, cond_false]
   have hr := run91d x
   have hn : x % 256 < 256 := by omega
   obtain ⟨t1, t2⟩ := tb_spec _ hn
   rw [wrap_small t2, Int.zero_add] at hr
   refine ⟨?_, ?_, by omega⟩
   ·rw [hl]
    exact spec_run envE91 rfl hr ⟨decide_eq_false h1, decide_eq_false h2, by rw [tb_size]; omega, by unfold inI; omega, trivial⟩ rfl rfl
   ·rw [hl]; omega
noncomputable def E74 : Env := { E0 with
 fn := fun f vs => match f with
  | 160 => (match vs with | [.one (.u .u32 x)] => some ([x < 4294967296], iV (len32 x : Int)) | _ => none)
  | _ => none
 S := fun f t => match f with
  | 132 => memN t [11, 18]
  | 134 => memN t [6, 11, 1000006]
  | _ => false }
theorem envE74 : EnvOK E74 := by
 refine ⟨mixed, ?_, fun _ _ _ _ _ h => by simp [E74, E0] at h, fun _ _ _ h => by simp [E74, E0] at h, fun _ _ _ _ _ _ h => by simp [E74, E0] at h⟩
 intro f vs ob r h ho
 simp only [E74] at h
 split at h
 ·split at h
  ·simp only [Option.some.injEq, Prod.mk.injEq] at h
   obtain ⟨rfl, rfl⟩ := h
   exact (spec91 _ ho.1).1
  ·simp at h
 ·simp at h
def lenU (a : Nat → Nat) : Nat → Nat
 | 0 => 0
 | j + 1 => match decide (a j = 0) with | true => lenU a j | false => 32 * j + len32 (a j)
theorem lenU_spec {a : Nat → Nat} (ha : ∀ i, a i < 4294967296) : ∀ n, valU n 0 a < 2 ^ lenU a n ∧ lenU a n ≤ 32 * n
 | 0 => by simp [valU, lenU]
 | j + 1 => by
  obtain ⟨h1, h2⟩ := lenU_spec ha j
  simp only [lenU]
  rw [valU_snoc, Nat.zero_add]
  split
  ·rename_i h; have := of_decide_eq_true h; rw [this, Nat.mul_zero, Nat.add_zero]; exact ⟨h1, by omega⟩
  ·obtain ⟨_, h3, h4⟩ := spec91 (a j) (ha j)
   refine ⟨?_, by omega⟩
   have h5 := valU_lt a j 0 (fun i _ _ => ha i)
   rw [Nat.pow_add, two_pow_mul]
   have h6 : 4294967296 ^ j * (a j + 1) ≤ 4294967296 ^ j * 2 ^ len32 (a j) := Nat.mul_le_mul_left _ h3
   rw [Nat.mul_succ] at h6
   omega
theorem run74_0 (a : Nat → Nat) : callR E74 1000 132 [C8 a] [false, false, false, false, false, false, false, true] = some ([(!decide (a 7 = 0)) = false, (!decide (a 6 = 0)) = false, (!decide (a 5 = 0)) = false, (!decide (a 4 = 0)) = false, (!decide (a 3 = 0)) = false, (!decide (a 2 = 0)) = false, (!decide (a 1 = 0)) = false, (!decide (a 0 = 0)) = true, a 0 < 4294967296, inI (0 + (len32 (a 0) : Int))], iV (0 + (len32 (a 0) : Int))) := by kernel_rfl
theorem run74_1 (a : Nat → Nat) : callR E74 1000 132 [C8 a] [false, false, false, false, false, false, true] = some ([(!decide (a 7 = 0)) = false, (!decide (a 6 = 0)) = false, (!decide (a 5 = 0)) = false, (!decide (a 4 = 0)) = false, (!decide (a 3 = 0)) = false, (!decide (a 2 = 0)) = false, (!decide (a 1 = 0)) = true, a 1 < 4294967296, inI (32 + (len32 (a 1) : Int))], iV (32 + (len32 (a 1) : Int))) := by kernel_rfl
theorem run74_2 (a : Nat → Nat) : callR E74 1000 132 [C8 a] [false, false, false, false, false, true] = some ([(!decide (a 7 = 0)) = false, (!decide (a 6 = 0)) = false, (!decide (a 5 = 0)) = false, (!decide (a 4 = 0)) = false, (!decide (a 3 = 0)) = false, (!decide (a 2 = 0)) = true, a 2 < 4294967296, inI (64 + (len32 (a 2) : Int))], iV (64 + (len32 (a 2) : Int))) := by kernel_rfl
theorem run74_3 (a : Nat → Nat) : callR E74 1000 132 [C8 a] [false, false, false, false, true] = some ([(!decide (a 7 = 0)) = false, (!decide (a 6 = 0)) = false, (!decide (a 5 = 0)) = false, (!decide (a 4 = 0)) = false, (!decide (a 3 = 0)) = true, a 3 < 4294967296, inI (96 + (len32 (a 3) : Int))], iV (96 + (len32 (a 3) : Int))) := by kernel_rfl
theorem run74_4 (a : Nat → Nat) : callR E74 1000 132 [C8 a] [false, false, false, true] = some ([(!decide (a 7 = 0)) = false, (!decide (a 6 = 0)) = false, (!decide (a 5 = 0)) = false, (!decide (a 4 = 0)) = true, a 4 < 4294967296, inI (128 + (len32 (a 4) : Int))], iV (128 + (len32 (a 4) : Int))) := by kernel_rfl
theorem run74_5 (a : Nat → Nat) : callR E74 1000 132 [C8 a] [false, false, true] = some ([(!decide (a 7 = 0)) = false, (!decide (a 6 = 0)) = false, (!decide (a 5 = 0)) = true, a 5 < 4294967296, inI (160 + (len32 (a 5) : Int))], iV (160 + (len32 (a 5) : Int))) := by kernel_rfl
theorem run74_6 (a : Nat → Nat) : callR E74 1000 132 [C8 a] [false, true] = some ([(!decide (a 7 = 0)) = false, (!decide (a 6 = 0)) = true, a 6 < 4294967296, inI (192 + (len32 (a 6) : Int))], iV (192 + (len32 (a 6) : Int))) := by kernel_rfl
theorem run74_7 (a : Nat → Nat) : callR E74 1000 132 [C8 a] [true] = some ([(!decide (a 7 = 0)) = true, a 7 < 4294967296, inI (224 + (len32 (a 7) : Int))], iV (224 + (len32 (a 7) : Int))) := by kernel_rfl
theorem run74_e (a : Nat → Nat) : callR E74 1000 132 [C8 a] [false, false, false, false, false, false, false, false] = some ([(!decide (a 7 = 0)) = false, (!decide (a 6 = 0)) = false, (!decide (a 5 = 0)) = false, (!decide (a 4 = 0)) = false, (!decide (a 3 = 0)) = false, (!decide (a 2 = 0)) = false, (!decide (a 1 = 0)) = false, (!decide (a 0 = 0)) = false], iV 0) := by kernel_rfl
theorem len_spec (a : Nat → Nat) (ha : ∀ i, a i < 4294967296) : Spec 132 [C8 a] (iV (lenU a 8 : Int)) := by
 by_cases h7 : a 7 = 0
 ·skip
  by_cases h6 : a 6 = 0
  ·skip
   by_cases h5 : a 5 = 0
   ·skip
    by_cases h4 : a 4 = 0
    ·skip
     by_cases h3 : a 3 = 0
     ·skip
      by_cases h2 : a 2 = 0
      ·skip
       by_cases h1 : a 1 = 0
       ·skip
        by_cases h0 : a 0 = 0
        ·skip
         have e : lenU a 8 = 0 := by simp [lenU, h0, h1, h2, h3, h4, h5, h6, h7]
         rw [e]
         exact spec_run envE74 rfl (run74_e a) ⟨by simp [h7], by simp [h6], by simp [h5], by simp [h4], by simp [h3], by simp [h2], by simp [h1], by simp [h0], trivial⟩ rfl rfl
        ·have e : lenU a 8 = 0 + len32 (a 0) := by simp [lenU, h0, h1, h2, h3, h4, h5, h6, h7]
         have hl := (spec91 (a 0) (ha 0)).2.2
         have hr := run74_0 a
         rw [e, show ((0 + len32 (a 0) : Nat) : Int) = 0 + (len32 (a 0) : Int) by omega]
         exact spec_run envE74 rfl hr ⟨by simp [h7], by simp [h6], by simp [h5], by simp [h4], by simp [h3], by simp [h2], by simp [h1], by simp [h0], ha 0, by unfold inI; omega, trivial⟩ rfl rfl
       ·have e : lenU a 8 = 32 + len32 (a 1) := by simp [lenU, h1, h2, h3, h4, h5, h6, h7]
        have hl := (spec91 (a 1) (ha 1)).2.2
        have hr := run74_1 a
        rw [e, show ((32 + len32 (a 1) : Nat) : Int) = 32 + (len32 (a 1) : Int) by omega]
        exact spec_run envE74 rfl hr ⟨by simp [h7], by simp [h6], by simp [h5], by simp [h4], by simp [h3], by simp [h2], by simp [h1], ha 1, by unfold inI; omega, trivial⟩ rfl rfl
      ·have e : lenU a 8 = 64 + len32 (a 2) := by simp [lenU, h2, h3, h4, h5, h6, h7]
       have hl := (spec91 (a 2) (ha 2)).2.2
       have hr := run74_2 a
       rw [e, show ((64 + len32 (a 2) : Nat) : Int) = 64 + (len32 (a 2) : Int) by omega]
       exact spec_run envE74 rfl hr ⟨by simp [h7], by simp [h6], by simp [h5], by simp [h4], by simp [h3], by simp [h2], ha 2, by unfold inI; omega, trivial⟩ rfl rfl
     ·have e : lenU a 8 = 96 + len32 (a 3) := by simp [lenU, h3, h4, h5, h6, h7]
      have hl := (spec91 (a 3) (ha 3)).2.2
      have hr := run74_3 a
      rw [e, show ((96 + len32 (a 3) : Nat) : Int) = 96 + (len32 (a 3) : Int) by omega]
      exact spec_run envE74 rfl hr ⟨by simp [h7], by simp [h6], by simp [h5], by simp [h4], by simp [h3], ha 3, by unfold inI; omega, trivial⟩ rfl rfl
    ·have e : lenU a 8 = 128 + len32 (a 4) := by simp [lenU, h4, h5, h6, h7]
     have hl := (spec91 (a 4) (ha 4)).2.2
     have hr := run74_4 a
     rw [e, show ((128 + len32 (a 4) : Nat) : Int) = 128 + (len32 (a 4) : Int) by omega]
     exact spec_run envE74 rfl hr ⟨by simp [h7], by simp [h6], by simp [h5], by simp [h4], ha 4, by unfold inI; omega, trivial⟩ rfl rfl
   ·have e : lenU a 8 = 160 + len32 (a 5) := by simp [lenU, h5, h6, h7]
    have hl := (spec91 (a 5) (ha 5)).2.2
    have hr := run74_5 a
    rw [e, show ((160 + len32 (a 5) : Nat) : Int) = 160 + (len32 (a 5) : Int) by omega]
    exact spec_run envE74 rfl hr ⟨by simp [h7], by simp [h6], by simp [h5], ha 5, by unfold inI; omega, trivial⟩ rfl rfl
  ·have e : lenU a 8 = 192 + len32 (a 6) := by simp [lenU, h6, h7]
   have hl := (spec91 (a 6) (ha 6)).2.2
   have hr := run74_6 a
   rw [e, show ((192 + len32 (a 6) : Nat) : Int) = 192 + (len32 (a 6) : Int) by omega]
   exact spec_run envE74 rfl hr ⟨by simp [h7], by simp [h6], ha 6, by unfold inI; omega, trivial⟩ rfl rfl
 ·have e : lenU a 8 = 224 + len32 (a 7) := by simp [lenU, h7]
  have hl := (spec91 (a 7) (ha 7)).2.2
  have hr := run74_7 a
  rw [e, show ((224 + len32 (a 7) : Nat) : Int) = 224 + (len32 (a 7) : Int) by omega]
  exact spec_run envE74 rfl hr ⟨by simp [h7], ha 7, by unfold inI; omega, trivial⟩ rfl rfl
def lenN (a : Nat) : Nat := lenU (limb a) 8
theorem lenN_spec {a : Nat} (ha : a < 4294967296 ^ 8) : a < 2 ^ lenN a ∧ lenN a ≤ 256 := by
 have := lenU_spec (limb_lt a) 8
 rw [valU_num a 8 ha] at this
 exact this
theorem spec74 (a : Nat) : Spec 132 [N8 a] (iV (lenN a : Int)) :=
 (len_spec (limb a) (limb_lt a)).congr (fun φ => by simp only [List.map_cons, List.map_nil, conc_C8]) (fun _ => rfl)
theorem run76_0 (a : Nat → Nat) (i : Int) : callR E74 1000 134 [C8 a, .one (.i i)] [false] = some ([i.tdiv 32 = ((0 : Nat) : Int), (32 : Int) ≠ 0 ∧ inI (i.tdiv 32), 0 ≤ i.tmod 32], bV (decide (bitE a 0 i = 1))) := by kernel_rfl
theorem run76_1 (a : Nat → Nat) (i : Int) : callR E74 1000 134 [C8 a, .one (.i i)] [true, false] = some ([i.tdiv 32 = ((1 : Nat) : Int), (32 : Int) ≠ 0 ∧ inI (i.tdiv 32), 0 ≤ i.tmod 32], bV (decide (bitE a 1 i = 1))) := by kernel_rfl
theorem run76_2 (a : Nat → Nat) (i : Int) : callR E74 1000 134 [C8 a, .one (.i i)] [true, true, false] = some ([i.tdiv 32 = ((2 : Nat) : Int), (32 : Int) ≠ 0 ∧ inI (i.tdiv 32), 0 ≤ i.tmod 32], bV (decide (bitE a 2 i = 1))) := by kernel_rfl
theorem run76_3 (a : Nat → Nat) (i : Int) : callR E74 1000 134 [C8 a, .one (.i i)] [true, true, true, false] = some ([i.tdiv 32 = ((3 : Nat) : Int), (32 : Int) ≠ 0 ∧ inI (i.tdiv 32), 0 ≤ i.tmod 32], bV (decide (bitE a 3 i = 1))) := by kernel_rfl
theorem run76_4 (a : Nat → Nat) (i : Int) : callR E74 1000 134 [C8 a, .one (.i i)] [true, true, true, true, false] = some ([i.tdiv 32 = ((4 : Nat) : Int), (32 : Int) ≠ 0 ∧ inI (i.tdiv 32), 0 ≤ i.tmod 32], bV (decide (bitE a 4 i = 1))) := by kernel_rfl
theorem run76_5 (a : Nat → Nat) (i : Int) : callR E74 1000 134 [C8 a, .one (.i i)] [true, true, true, true, true, false] = some ([i.tdiv 32 = ((5 : Nat) : Int), (32 : Int) ≠ 0 ∧ inI (i.tdiv 32), 0 ≤ i.tmod 32], bV (decide (bitE a 5 i = 1))) := by kernel_rfl
theorem run76_6 (a : Nat → Nat) (i : Int) : callR E74 1000 134 [C8 a, .one (.i i)] [true, true, true, true, true, true, false] = some ([i.tdiv 32 = ((6 : Nat) : Int), (32 : Int) ≠ 0 ∧ inI (i.tdiv 32), 0 ≤ i.tmod 32], bV (decide (bitE a 6 i = 1))) := by kernel_rfl
theorem run76_7 (a : Nat → Nat) (i : Int) : callR E74 1000 134 [C8 a, .one (.i i)] [true, true, true, true, true, true, true, false] = some ([i.tdiv 32 = ((7 : Nat) : Int), (32 : Int) ≠ 0 ∧ inI (i.tdiv 32), 0 ≤ i.tmod 32], bV (decide (bitE a 7 i = 1))) := by kernel_rfl
def bitB (a i : Nat) : Bool := decide (bitN a i = 1)
theorem spec76 (a i : Nat) (hi : i < 256) : Spec 134 [N8 a, .one (.i (i : Int))] (bV (bitB a i)) := by
 have hb : bitE (limb a) (i / 32) (i : Int) = bitN a i := by
  have := bitE_eq a (i / 32) (i % 32) (by omega)
  rwa [Nat.div_add_mod] at this
 have h1 : ((i : Nat) : Int).tdiv 32 = ((i / 32 : Nat) : Int) := tdiv_cast i
 have h2 : (32 : Int) ≠ 0 ∧ inI (((i : Nat) : Int).tdiv 32) := ⟨by decide, by rw [h1]; unfold inI; omega⟩
 have h3 : 0 ≤ ((i : Nat) : Int).tmod 32 := by rw [tmod_cast]; omega
 have h : Spec 134 [C8 (limb a), .one (.i (i : Int))] (bV (decide (bitE (limb a) (i / 32) (i : Int) = 1))) := by
  have hj : i / 32 < 8 := by omega
  revert h1
  generalize i / 32 = j at hj
  intro h1
  match j, hj with
  | 0, _ => exact spec_run envE74 rfl (run76_0 (limb a) i) ⟨h1, h2, h3, trivial⟩ rfl rfl
  | 1, _ => exact spec_run envE74 rfl (run76_1 (limb a) i) ⟨h1, h2, h3, trivial⟩ rfl rfl
  | 2, _ => exact spec_run envE74 rfl (run76_2 (limb a) i) ⟨h1, h2, h3, trivial⟩ rfl rfl
  | 3, _ => exact spec_run envE74 rfl (run76_3 (limb a) i) ⟨h1, h2, h3, trivial⟩ rfl rfl
  | 4, _ => exact spec_run envE74 rfl (run76_4 (limb a) i) ⟨h1, h2, h3, trivial⟩ rfl rfl
  | 5, _ => exact spec_run envE74 rfl (run76_5 (limb a) i) ⟨h1, h2, h3, trivial⟩ rfl rfl
  | 6, _ => exact spec_run envE74 rfl (run76_6 (limb a) i) ⟨h1, h2, h3, trivial⟩ rfl rfl
  | 7, _ => exact spec_run envE74 rfl (run76_7 (limb a) i) ⟨h1, h2, h3, trivial⟩ rfl rfl
  | n + 8, h => exact absurd h (by omega)
 rw [hb] at h
 exact h.congr (fun φ => by simp only [List.map_cons, List.map_nil, conc_C8]) (fun _ => rfl)
end Go.Ev

namespace Go.Ev
open Go Go.Proofs Go.RowKit
def T72 (q : Nat) (b w : Nat → Nat) (i c k : Nat) : Nat := (c + (q * (b k % 18446744073709551616) % 18446744073709551616 + w (i + k) % 18446744073709551616) % 18446744073709551616) % 18446744073709551616
def rdT (w m : Nat → Nat) (f i : Nat) : Nat → Nat → Nat := T72 (w i * f % 4294967296 % 18446744073709551616) m w i
def rdE (w m : Nat → Nat) (f i o : Nat) : Nat := (rowC (rdT w m f i) 8 + (w (i + 8) % 18446744073709551616 + o) % 18446744073709551616) % 18446744073709551616
def rdW (w m : Nat → Nat) (f i o j : Nat) : Nat :=
 match Nat.blt j i with
 | true => w j
 | false => match Nat.blt j (i + 8) with
  | true => rdT w m f i (rowC (rdT w m f i) (j - i)) (j - i) % 4294967296
  | false => match Nat.beq j (i + 8) with
   | true => rdE w m f i o % 4294967296
   | false => w j
def rdO (w m : Nat → Nat) (f i o : Nat) : Nat := rdE w m f i o / 4294967296
def u64V (n : Nat) : AV := .val (.one (.u .u64 n))
def TR (f o : Nat) (i : Int) : List AV := slots 90 [(2, .val (u32 f)), (3, pV 0), (4, pV 1), (6, pV 2), (7, u64V o), (17, iV i)]
theorem tTR (f o : Nat) (i : Int) : tmsWf 3 (TR f o i) = true := by kernel_rfl
theorem wfTR (w m : Nat → Nat) (f o : Nat) (i : Int) : wfS (TR f o i) [bW w, bN m, z8] = true := wfS_of (by simp [bN_free, bW_free, z8]) (tTR f o i)
theorem run72_0 (w m : Nat → Nat) (f o : Nat) : runTo E0 1000 (E0.S 157) (bodyOf Tryz.prog 157 3) (TR f o ((0 : Nat) : Int)) [bW w, bN m, z8] [] (TR f (rdO w m f 0 o) ((0 + 1 : Nat) : Int)) 3 =
  some ([], .normal, TR f (rdO w m f 0 o) ((0 + 1 : Nat) : Int), [bW (rdW w m f 0 o), bN m, z8]) := by kernel_rfl
theorem run72_1 (w m : Nat → Nat) (f o : Nat) : runTo E0 1000 (E0.S 157) (bodyOf Tryz.prog 157 3) (TR f o ((1 : Nat) : Int)) [bW w, bN m, z8] [] (TR f (rdO w m f 1 o) ((1 + 1 : Nat) : Int)) 3 =
  some ([], .normal, TR f (rdO w m f 1 o) ((1 + 1 : Nat) : Int), [bW (rdW w m f 1 o), bN m, z8]) := by kernel_rfl
theorem run72_2 (w m : Nat → Nat) (f o : Nat) : runTo E0 1000 (E0.S 157) (bodyOf Tryz.prog 157 3) (TR f o ((2 : Nat) : Int)) [bW w, bN m, z8] [] (TR f (rdO w m f 2 o) ((2 + 1 : Nat) : Int)) 3 =
  some ([], .normal, TR f (rdO w m f 2 o) ((2 + 1 : Nat) : Int), [bW (rdW w m f 2 o), bN m, z8]) := by kernel_rfl
theorem run72_3 (w m : Nat → Nat) (f o : Nat) : runTo E0 1000 (E0.S 157) (bodyOf Tryz.prog 157 3) (TR f o ((3 : Nat) : Int)) [bW w, bN m, z8] [] (TR f (rdO w m f 3 o) ((3 + 1 : Nat) : Int)) 3 =
  some ([], .normal, TR f (rdO w m f 3 o) ((3 + 1 : Nat) : Int), [bW (rdW w m f 3 o), bN m, z8]) := by kernel_rfl
theorem run72_4 (w m : Nat → Nat) (f o : Nat) : runTo E0 1000 (E0.S 157) (bodyOf Tryz.prog 157 3) (TR f o ((4 : Nat) : Int)) [bW w, bN m, z8] [] (TR f (rdO w m f 4 o) ((4 + 1 : Nat) : Int)) 3 =
  some ([], .normal, TR f (rdO w m f 4 o) ((4 + 1 : Nat) : Int), [bW (rdW w m f 4 o), bN m, z8]) := by kernel_rfl
theorem run72_5 (w m : Nat → Nat) (f o : Nat) : runTo E0 1000 (E0.S 157) (bodyOf Tryz.prog 157 3) (TR f o ((5 : Nat) : Int)) [bW w, bN m, z8] [] (TR f (rdO w m f 5 o) ((5 + 1 : Nat) : Int)) 3 =
  some ([], .normal, TR f (rdO w m f 5 o) ((5 + 1 : Nat) : Int), [bW (rdW w m f 5 o), bN m, z8]) := by kernel_rfl
theorem run72_6 (w m : Nat → Nat) (f o : Nat) : runTo E0 1000 (E0.S 157) (bodyOf Tryz.prog 157 3) (TR f o ((6 : Nat) : Int)) [bW w, bN m, z8] [] (TR f (rdO w m f 6 o) ((6 + 1 : Nat) : Int)) 3 =
  some ([], .normal, TR f (rdO w m f 6 o) ((6 + 1 : Nat) : Int), [bW (rdW w m f 6 o), bN m, z8]) := by kernel_rfl
theorem run72_7 (w m : Nat → Nat) (f o : Nat) : runTo E0 1000 (E0.S 157) (bodyOf Tryz.prog 157 3) (TR f o ((7 : Nat) : Int)) [bW w, bN m, z8] [] (TR f (rdO w m f 7 o) ((7 + 1 : Nat) : Int)) 3 =
  some ([], .normal, TR f (rdO w m f 7 o) ((7 + 1 : Nat) : Int), [bW (rdW w m f 7 o), bN m, z8]) := by kernel_rfl
theorem run72_8 (w m : Nat → Nat) (f o : Nat) : runTo E0 1000 (E0.S 157) (bodyOf Tryz.prog 157 3) (TR f o ((8 : Nat) : Int)) [bW w, bN m, z8] [] (TR f o ((8 : Nat) : Int)) 3 =
  some ([], .exit 0, TR f o ((8 : Nat) : Int), [bW w, bN m, z8]) := by kernel_rfl
structure RS where
 w : Nat → Nat
 o : Nat
def rdS (w m : Nat → Nat) (f : Nat) : Nat → RS
 | 0 => ⟨w, 0⟩
 | i + 1 => ⟨rdW (rdS w m f i).w m f i (rdS w m f i).o, rdO (rdS w m f i).w m f i (rdS w m f i).o⟩
theorem loop72 (w m : Nat → Nat) (f : Nat) : Goes Tryz.prog (.loop (bodyOf Tryz.prog 157 3)) (.exit 0) (TR f 0 ((0 : Nat) : Int)) [bW w, bN m, z8] (TR f (rdS w m f 8).o ((8 : Nat) : Int)) [bW (rdS w m f 8).w, bN m, z8] := by
 refine loop_goes (N := 8) (k := 3) (T := fun k => TR f (rdS w m f k).o (k : Int)) (M := fun k => [bW (rdS w m f k).w, bN m, z8]) (by simp) (fun _ _ => rfl) (fun k hk => ?_) ?_
 ·have : Runs E0 1000 (E0.S 157) (bodyOf Tryz.prog 157 3) .normal (TR f (rdS w m f k).o (k : Int)) [bW (rdS w m f k).w, bN m, z8] (TR f (rdO (rdS w m f k).w m f k (rdS w m f k).o) ((k + 1 : Nat) : Int)) [bW (rdW (rdS w m f k).w m f k (rdS w m f k).o), bN m, z8] := by
   match k, hk with
   | 0, _ => exact ⟨[], _, run72_0 _ m f _, trivial, wfTR _ _ _ _ _⟩
   | 1, _ => exact ⟨[], _, run72_1 _ m f _, trivial, wfTR _ _ _ _ _⟩
   | 2, _ => exact ⟨[], _, run72_2 _ m f _, trivial, wfTR _ _ _ _ _⟩
   | 3, _ => exact ⟨[], _, run72_3 _ m f _, trivial, wfTR _ _ _ _ _⟩
   | 4, _ => exact ⟨[], _, run72_4 _ m f _, trivial, wfTR _ _ _ _ _⟩
   | 5, _ => exact ⟨[], _, run72_5 _ m f _, trivial, wfTR _ _ _ _ _⟩
   | 6, _ => exact ⟨[], _, run72_6 _ m f _, trivial, wfTR _ _ _ _ _⟩
   | 7, _ => exact ⟨[], _, run72_7 _ m f _, trivial, wfTR _ _ _ _ _⟩
  exact this.goes envE0
 ·exact Runs.goes envE0 ⟨[], _, run72_8 _ m f _, trivial, wfTR _ _ _ _ _⟩
theorem rdT_eq {w m : Nat → Nat} {f i : Nat} (hw : ∀ k, w k < 4294967296) (hm : ∀ k, m k < 4294967296) (c k : Nat) (hc : c < 4294967296) : rdT w m f i c k = c + (w i * f % 4294967296) * m k + w (i + k) := by
 have hq : w i * f % 4294967296 < 4294967296 := Nat.mod_lt _ (by decide)
 have h := (T_eq hq (hm k) (hw (i + k)) hc).1
 rw [← h]
 unfold rdT T72
 rfl
theorem rdC_lt {w m : Nat → Nat} {f i : Nat} (hw : ∀ k, w k < 4294967296) (hm : ∀ k, m k < 4294967296) (k : Nat) : rowC (rdT w m f i) k < 4294967296 :=
 rowC_lt (x := w i * f % 4294967296) (Nat.mod_lt _ (by decide)) hm hw (fun c k hc => rdT_eq hw hm c k hc) k
theorem rdE_eq {w m : Nat → Nat} {f i o : Nat} (hw : ∀ k, w k < 4294967296) (hm : ∀ k, m k < 4294967296) (ho : o ≤ 1) : rdE w m f i o = rowC (rdT w m f i) 8 + w (i + 8) + o ∧ rdO w m f i o ≤ 1 := by
 have h1 := rdC_lt (f := f) (i := i) hw hm 8
 have h2 := hw (i + 8)
 unfold rdO rdE
 generalize rowC (rdT w m f i) 8 = c at *
 omega
theorem rdW_lt {w m : Nat → Nat} {f i o : Nat} (hw : ∀ k, w k < 4294967296) (j : Nat) : rdW w m f i o j < 4294967296 := by
 unfold rdW
 split
 ·exact hw j
 ·split
  ·exact Nat.mod_lt _ (by decide)
  ·split
   ·exact Nat.mod_lt _ (by decide)
   ·exact hw j
theorem rd_sum {u w b d : Nat → Nat} {x c e o i : Nat} (n : Nat) (h1 : ∀ j, j < i → u j = w j) (h2 : ∀ k, k < n → u (k + i) = d k) (h3 : u (i + n) = e % 4294967296) (he : e = c + w (i + n) + o)
  (hs : valU n 0 d + 4294967296 ^ n * c = x * valU n 0 b + valU n i w) : valU (i + (n + 1)) 0 u + 4294967296 ^ (i + (n + 1)) * (e / 4294967296) = valU (i + (n + 1)) 0 w + 4294967296 ^ (i + n) * o + 4294967296 ^ i * (x * valU n 0 b) := by
 have e1 : valU i 0 u = valU i 0 w := valU_congr i 0 (fun j _ hj => h1 j (by omega))
 have e2 : valU n i u = valU n 0 d := by
  have := valU_shift u i n 0
  rw [Nat.zero_add] at this
  rw [← this]
  exact valU_congr n 0 (fun k _ hk => h2 k (by omega))
 rw [valU_split u i (n + 1) 0, valU_split w i (n + 1) 0, Nat.zero_add, valU_snoc, valU_snoc, e1, e2, h3]
 have e3 : 4294967296 ^ n * (e % 4294967296) + 4294967296 ^ n * (4294967296 * (e / 4294967296)) = 4294967296 ^ n * c + 4294967296 ^ n * w (i + n) + 4294967296 ^ n * o := by
  rw [← Nat.mul_add, Nat.mod_add_div, he, Nat.mul_add, Nat.mul_add]
 have e4 : valU n 0 d + 4294967296 ^ n * (e % 4294967296) + 4294967296 ^ n * (4294967296 * (e / 4294967296)) = x * valU n 0 b + valU n i w + 4294967296 ^ n * w (i + n) + 4294967296 ^ n * o := by omega
 have e5 := congrArg (4294967296 ^ i * ·) e4
 simp only [Nat.mul_add] at e5
 rw [show i + (n + 1) = i + n + 1 by omega, Nat.pow_succ, Nat.pow_add, Nat.mul_assoc, Nat.mul_assoc, Nat.mul_assoc, Nat.mul_add, Nat.mul_add]
 omega
theorem rd_row {w m : Nat → Nat} {f i o : Nat} (hw : ∀ k, w k < 4294967296) (hm : ∀ k, m k < 4294967296) (ho : o ≤ 1) :
  valU (i + (8 + 1)) 0 (rdW w m f i o) + 4294967296 ^ (i + (8 + 1)) * rdO w m f i o = valU (i + (8 + 1)) 0 w + 4294967296 ^ (i + 8) * o + 4294967296 ^ i * ((w i * f % 4294967296) * valU 8 0 m) := by
 have hT := fun c k hc => rdT_eq (f := f) (i := i) hw hm c k hc
 refine rd_sum (d := fun k => rdT w m f i (rowC (rdT w m f i) k) k % 4294967296) (c := rowC (rdT w m f i) 8) 8 ?_ ?_ ?_ (rdE_eq hw hm ho).1 (rowC_sum (Nat.mod_lt _ (by decide)) hm hw hT 8)
 ·intro j hj
  unfold rdW
  rw [blt_t hj]
 ·intro k hk
  unfold rdW
  rw [blt_f (show ¬ k + i < i by omega), blt_t (show k + i < i + 8 by omega), Nat.add_sub_cancel]
 ·unfold rdW
  rw [blt_f (show ¬ i + 8 < i by omega), blt_f (show ¬ i + 8 < i + 8 by omega), show Nat.beq (i + 8) (i + 8) = true from Nat.beq_refl _]
theorem rdW_hi {w m : Nat → Nat} {f i o j : Nat} (h : i + 8 < j) : rdW w m f i o j = w j := by
 unfold rdW
 rw [blt_f (show ¬ j < i by omega), blt_f (show ¬ j < i + 8 by omega), show Nat.beq j (i + 8) = false from by rw [Bool.eq_false_iff]; intro h'; have := Nat.eq_of_beq_eq_true h'; omega]
theorem rdW_lo {w m : Nat → Nat} {f i o j : Nat} (h : j < i) : rdW w m f i o j = w j := by
 unfold rdW
 rw [blt_t h]
theorem rdW_at {w m : Nat → Nat} {f i o : Nat} (hw : ∀ k, w k < 4294967296) (hm : ∀ k, m k < 4294967296) (hf : (m 0 * f + 1) % 4294967296 = 0) : rdW w m f i o i = 0 := by
 unfold rdW
 rw [blt_f (show ¬ i < i by omega), blt_t (show i < i + 8 by omega), Nat.sub_self]
 simp only
 rw [rdT_eq hw hm _ _ (by simp [rowC])]
 simp only [rowC, Nat.zero_add, Nat.add_zero]
 have h1 : (w i * f % 4294967296 * m 0 + w i) % 4294967296 = (w i * (m 0 * f + 1)) % 4294967296 := by
  rw [Nat.add_mod, Nat.mod_mul_mod, ← Nat.add_mod, Nat.mul_add, Nat.mul_one, Nat.mul_assoc, Nat.mul_comm f (m 0)]
 rw [h1, Nat.mul_mod, hf, Nat.mul_zero, Nat.zero_mod]
theorem rdS_spec {w m : Nat → Nat} {f : Nat} (hw : ∀ k, w k < 4294967296) (hm : ∀ k, m k < 4294967296) (hf : (m 0 * f + 1) % 4294967296 = 0) : ∀ i, i ≤ 8 →
  (∀ k, (rdS w m f i).w k < 4294967296) ∧ (rdS w m f i).o ≤ 1 ∧ (∀ j, j < i → (rdS w m f i).w j = 0) ∧
  ∃ Q, Q < 4294967296 ^ i ∧ valU 16 0 (rdS w m f i).w + 4294967296 ^ (i + 8) * (rdS w m f i).o = valU 16 0 w + Q * valU 8 0 m
 | 0, _ => ⟨hw, by simp [rdS], fun j hj => by omega, 0, by simp, by simp [rdS]⟩
 | i + 1, hi => by
  obtain ⟨h1, h2, h3, Q, h4, h5⟩ := rdS_spec hw hm hf i (by omega)
  have e : rdS w m f (i + 1) = ⟨rdW (rdS w m f i).w m f i (rdS w m f i).o, rdO (rdS w m f i).w m f i (rdS w m f i).o⟩ := rfl
  rw [e]
  generalize (rdS w m f i).w = u at *
  generalize (rdS w m f i).o = p at *
  refine ⟨fun k => rdW_lt h1 k, (rdE_eq h1 hm h2).2, ?_, Q + 4294967296 ^ i * (u i * f % 4294967296), ?_, ?_⟩
  ·intro j hj
   simp only
   by_cases hji : j = i
   ·subst hji; exact rdW_at h1 hm hf
   ·rw [rdW_lo (by omega)]; exact h3 j (by omega)
  ·have : u i * f % 4294967296 < 4294967296 := Nat.mod_lt _ (by decide)
   have h6 : 4294967296 ^ i * (u i * f % 4294967296 + 1) ≤ 4294967296 ^ i * 4294967296 := Nat.mul_le_mul_left _ this
   rw [Nat.mul_succ] at h6
   rw [Nat.pow_succ]
   omega
  ·simp only
   have hr := rd_row (f := f) (i := i) h1 hm h2
   have s1 := valU_split (rdW u m f i p) (i + (8 + 1)) (7 - i) 0
   have s2 := valU_split u (i + (8 + 1)) (7 - i) 0
   rw [show i + (8 + 1) + (7 - i) = 16 by omega, Nat.zero_add] at s1 s2
   have s3 : valU (7 - i) (i + (8 + 1)) (rdW u m f i p) = valU (7 - i) (i + (8 + 1)) u := valU_congr _ _ (fun j hj _ => rdW_hi (by omega))
   rw [s3] at s1
   rw [Nat.add_mul, Nat.mul_assoc, show i + 1 + 8 = i + (8 + 1) by omega]
   generalize 4294967296 ^ (i + (8 + 1)) * valU (7 - i) (i + (8 + 1)) u = X at *
   omega
theorem redc_math {V m f : Nat} (hV : V < 4294967296 ^ 16) (hm : m < 4294967296 ^ 8) (hf : (limb m 0 * f + 1) % 4294967296 = 0) :
  (∀ k, highU (rdS (limb V) (limb m) f 8).w k < 4294967296) ∧ (rdS (limb V) (limb m) f 8).o ≤ 1 ∧
  ∃ Q, Q < 4294967296 ^ 8 ∧ 4294967296 ^ 8 * (valU 8 0 (highU (rdS (limb V) (limb m) f 8).w) + 4294967296 ^ 8 * (rdS (limb V) (limb m) f 8).o) = V + Q * m := by
 obtain ⟨h1, h2, h3, Q, h4, h5⟩ := rdS_spec (limb_lt V) (limb_lt m) hf 8 (Nat.le_refl _)
 generalize (rdS (limb V) (limb m) f 8).w = u at *
 generalize (rdS (limb V) (limb m) f 8).o = p at *
 refine ⟨fun k => h1 (k + 8), h2, Q, h4, ?_⟩
 have s := valU_split u 8 8 0
 have z : valU 8 0 u = 0 := by
  rw [valU_congr (v := fun _ => 0) 8 0 (fun j _ hj => h3 j (by omega)), valU_zero]
 have hh : valU 8 0 (highU u) = valU 8 8 u := by
  have := valU_shift u 8 8 0
  exact this
 rw [Nat.zero_add, z, Nat.zero_add, ← hh] at s
 rw [show 8 + 8 = 16 from rfl] at s
 rw [valU_num V 16 hV, valU_num m 8 hm, s, show 8 + 8 = 8 + 8 from rfl, Nat.pow_add, Nat.mul_assoc, ← Nat.mul_add] at h5
 exact h5
end Go.Ev

namespace Go.Ev
open Go Go.Proofs Go.RowKit
def Cg (m a b : Nat) : Prop := a % m = b % m
theorem Cg.refl (m a : Nat) : Cg m a a := rfl
theorem Cg.symm {m a b : Nat} (h : Cg m a b) : Cg m b a := Eq.symm h
theorem Cg.trans {m a b c : Nat} (h : Cg m a b) (h' : Cg m b c) : Cg m a c := Eq.trans h h'
theorem Cg.mul {m a b c d : Nat} (h : Cg m a b) (h' : Cg m c d) : Cg m (a * c) (b * d) := by
 unfold Cg at *
 rw [Nat.mul_mod, h, h', ← Nat.mul_mod]
theorem Cg.mod (m a : Nat) : Cg m (a % m) a := Nat.mod_mod _ _
theorem Cg.of_eq {m a b : Nat} (h : a = b) : Cg m a b := by rw [h]; exact Cg.refl _ _
open Classical in
noncomputable def rinv (m : Nat) : Nat := if h : ∃ r, Cg m (4294967296 ^ 8 * r) 1 then Classical.choose h else 0
def goodF (m f : Nat) : Prop := (limb m 0 * f + 1) % 4294967296 = 0
theorem rinv_spec {m f : Nat} (hR : m < 4294967296 ^ 8) (hf : goodF m f) : Cg m (4294967296 ^ 8 * rinv m) 1 := by
 have h : ∃ r, Cg m (4294967296 ^ 8 * r) 1 := by
  obtain ⟨_, _, Q, _, h⟩ := redc_math (V := 1) (by decide) hR hf
  refine ⟨valU 8 0 (highU (rdS (limb 1) (limb m) f 8).w) + 4294967296 ^ 8 * (rdS (limb 1) (limb m) f 8).o, ?_⟩
  unfold Cg
  rw [h, Nat.add_mul_mod_self_right]
 unfold rinv
 rw [dif_pos h]
 exact Classical.choose_spec h
noncomputable def mredN (V m : Nat) : Nat := V * rinv m % m
theorem mred_eq {V m f r : Nat} (hR : m < 4294967296 ^ 8) (hf : goodF m f) (hr : r < m) (h : Cg m (4294967296 ^ 8 * r) V) : r = mredN V m := by
 have h1 := (h.mul (Cg.refl m (rinv m))).symm
 have h2 : Cg m (4294967296 ^ 8 * r * rinv m) (r * 1) := by
  refine Cg.trans (Cg.of_eq ?_) ((Cg.refl m r).mul (rinv_spec hR hf))
  rw [Nat.mul_comm (4294967296 ^ 8) r, Nat.mul_assoc]
 have h3 := h1.trans h2
 unfold mredN
 rw [show V * rinv m % m = r * 1 % m from h3, Nat.mul_one, Nat.mod_eq_of_lt hr]
noncomputable def ERD (w m : Nat → Nat) (f : Nat) : Env := { E0 with
 fn := fun g vs => match g with
  | 142 => fn2 gSub vs
  | 143 => fn85 vs
  | _ => none
 S := fun g t => match g with
  | 157 => memN t [84, 87]
  | _ => false
 lp := fun j => match Nat.beq j 3 with
  | true => some (bodyOf Tryz.prog 157 3, sumC (TR f 0 ((0 : Nat) : Int)) [bW w, bN m, z8] (TR f (rdS w m f 8).o ((8 : Nat) : Int)) [bW (rdS w m f 8).w, bN m, z8] (.exit 0))
  | false => none }
theorem envERD (w m : Nat → Nat) (f : Nat) : EnvOK (ERD w m f) := by
 refine ⟨mixed, ?_, fun _ _ _ _ _ h => by simp [ERD, E0] at h, ?_, fun _ _ _ _ _ _ h => by simp [ERD, E0] at h⟩
 ·intro g vs ob r h ho
  simp only [ERD] at h
  split at h
  ·exact fn2_ok spec78 h ho
  ·exact fn85_ok h ho
  ·simp at h
 ·intro j y f' h
  simp only [ERD] at h
  split at h
  ·simp only [Option.some.injEq, Prod.mk.injEq] at h
   obtain ⟨rfl, rfl⟩ := h
   exact sumC_ok rfl (loop72 w m f)
  ·simp at h
def obL (w m : Nat → Nat) (f : Nat) : List Prop := [bodyOf Tryz.prog 157 3 = bodyOf Tryz.prog 157 3, (TR f 0 ((0 : Nat) : Int), [bW w, bN m, z8]) = (TR f 0 ((0 : Nat) : Int), [bW w, bN m, z8]), wfS (TR f 0 ((0 : Nat) : Int)) [bW w, bN m, z8] = true]
def lt8 (u : Nat → Nat) : List Prop := [u 0 < 4294967296, u 1 < 4294967296, u 2 < 4294967296, u 3 < 4294967296, u 4 < 4294967296, u 5 < 4294967296, u 6 < 4294967296, u 7 < 4294967296]
theorem lt8_ok {u : Nat → Nat} (h : ∀ k, u k < 4294967296) : All (lt8 u) := ⟨h 0, h 1, h 2, h 3, h 4, h 5, h 6, h 7, trivial⟩
def H72 (w m : Nat → Nat) (f : Nat) : Nat := valU 8 0 (highU (rdS w m f 8).w)
def M72 (m : Nat → Nat) : Nat := valU 8 0 m
theorem run72a (w m : Nat → Nat) (f : Nat) : callR (ERD w m f) 1000 157 [C16 w, C8 m, u32 f] [true] = some (obL w m f ++ (lt8 (highU (rdS w m f 8).w) ++ (lt8 m ++ (decide ((rdS w m f 8).o = 1) = true) :: (lt8 (highU (rdS w m f 8).w) ++ [subN (H72 w m f) (M72 m) < 4294967296 ^ 8]))), .val (N8 (subN (H72 w m f) (M72 m)))) := by kernel_rfl
theorem run72b (w m : Nat → Nat) (f : Nat) : callR (ERD w m f) 1000 157 [C16 w, C8 m, u32 f] [false, true] = some (obL w m f ++ (lt8 (highU (rdS w m f 8).w) ++ (lt8 m ++ (decide ((rdS w m f 8).o = 1) = false) :: (decide (subK (H72 w m f) (M72 m) = 0) = true) :: (lt8 (highU (rdS w m f 8).w) ++ [subN (H72 w m f) (M72 m) < 4294967296 ^ 8]))), .val (N8 (subN (H72 w m f) (M72 m)))) := by kernel_rfl
theorem run72n (w m : Nat → Nat) (f : Nat) : callR (ERD w m f) 1000 157 [C16 w, C8 m, u32 f] [false, false] = some (obL w m f ++ (lt8 (highU (rdS w m f 8).w) ++ (lt8 m ++ (decide ((rdS w m f 8).o = 1) = false) :: (decide (subK (H72 w m f) (M72 m) = 0) = false) :: (lt8 (highU (rdS w m f 8).w) ++ [subN (H72 w m f) (M72 m) < 4294967296 ^ 8]))), .val (N8 (H72 w m f))) := by kernel_rfl
theorem obL_ok (w m : Nat → Nat) (f : Nat) : All (obL w m f) := ⟨rfl, rfl, wfTR _ _ _ _ _, trivial⟩
theorem spec72 (V m f : Nat) (hV : V < 4294967296 ^ 16) (hR : m < 4294967296 ^ 8) (hm : 0 < m) (hf : goodF m f) (hVm : V < m * 4294967296 ^ 8) : Spec 157 [N16 V, N8 m, u32 f] (.val (N8 (mredN V m))) := by
 obtain ⟨h1, h2, Q, h3, h4⟩ := redc_math hV hR hf
 have hM : M72 (limb m) = m := valU_num m 8 hR
 have hH : H72 (limb V) (limb m) f < 4294967296 ^ 8 := valU_lt _ 8 0 (fun i _ _ => h1 i)
 have hob := obL_ok (limb V) (limb m) f
 have hl1 := lt8_ok h1
 have hl2 := lt8_ok (limb_lt m)
 have hS := subN_lt (H72 (limb V) (limb m) f) (M72 (limb m))
 have hQm : Q * m ≤ 4294967296 ^ 8 * m := Nat.mul_le_mul_right _ (Nat.le_of_lt h3)
 rw [show valU 8 0 (highU (rdS (limb V) (limb m) f 8).w) = H72 (limb V) (limb m) f from rfl] at h4
 have ht : H72 (limb V) (limb m) f + 4294967296 ^ 8 * (rdS (limb V) (limb m) f 8).o < 2 * m := by
  rw [Nat.mul_comm m] at hVm
  omega
 have hcg : Cg m (4294967296 ^ 8 * (H72 (limb V) (limb m) f + 4294967296 ^ 8 * (rdS (limb V) (limb m) f 8).o)) V := by
  unfold Cg; rw [h4, Nat.add_mul_mod_self_right]
 have conv : ∀ r, Spec 157 [C16 (limb V), C8 (limb m), u32 f] (.val (N8 r)) → r = mredN V m → Spec 157 [N16 V, N8 m, u32 f] (.val (N8 (mredN V m))) := by
  intro r hr e
  rw [← e]
  exact hr.congr (fun φ => by simp only [List.map_cons, List.map_nil, conc_C8, conc_C16]) (fun _ => rfl)
 have sub : ∀ t, t < 2 * m → m ≤ t → Cg m (4294967296 ^ 8 * t) V → t - m = mredN V m := by
  intro t ht hmt hc
  refine mred_eq hR hf (by omega) (Cg.trans ?_ hc)
  unfold Cg
  rw [show t = (t - m) + m by omega, Nat.mul_add, Nat.add_sub_cancel, Nat.add_mul_mod_self_right]
 by_cases hk : (rdS (limb V) (limb m) f 8).o = 1
 ·refine conv _ (spec_run (envERD _ _ _) rfl (run72a _ _ _) ?_ rfl rfl) ?_
  ·simp only [All_append, All]
   exact ⟨hob, hl1, hl2, decide_eq_true hk, hl1, hS, trivial⟩
  ·rw [← sub _ ht (by rw [hk]; omega) hcg, hM, hk]
   unfold subN
   omega
 ·have hk0 : (rdS (limb V) (limb m) f 8).o = 0 := by omega
  rw [hk0, Nat.mul_zero, Nat.add_zero] at ht hcg
  by_cases hc : H72 (limb V) (limb m) f < m
  ·have hK : ¬ subK (H72 (limb V) (limb m) f) (M72 (limb m)) = 0 := by rw [hM]; unfold subK; rw [if_pos hc]; omega
   refine conv _ (spec_run (envERD _ _ _) rfl (run72n _ _ _) ?_ rfl rfl) ?_
   ·simp only [All_append, All]
    exact ⟨hob, hl1, hl2, decide_eq_false hk, decide_eq_false hK, hl1, hS, trivial⟩
   ·exact mred_eq hR hf hc hcg
  ·have hK : subK (H72 (limb V) (limb m) f) (M72 (limb m)) = 0 := by rw [hM]; unfold subK; rw [if_neg hc]
   refine conv _ (spec_run (envERD _ _ _) rfl (run72b _ _ _) ?_ rfl rfl) ?_
   ·simp only [All_append, All]
    exact ⟨hob, hl1, hl2, decide_eq_false hk, decide_eq_true hK, hl1, hS, trivial⟩
   ·rw [← sub _ ht (by omega) hcg, hM]
    unfold subN
    omega
noncomputable def fn72 (vs : List V1) : Option (List Prop × AV) :=
 match vs with
 | [x, y, .one (.u .u32 f)] => match numP 16 x, numP 8 y with
  | some (o, V), some (o', m) => some ((0 < m) :: goodF m f :: (V < m * 4294967296 ^ 8) :: (o ++ o'), .val (N8 (mredN V m)))
  | _, _ => none
 | _ => none
theorem fn72_ok {vs : List V1} {ob : List Prop} {r : AV} (h : fn72 vs = some (ob, r)) (ho : All ob) : Spec 157 vs r := by
 unfold fn72 at h
 split at h
 ·rename_i x y f
  split at h
  ·rename_i o V o' m hx hy
   simp only [Option.some.injEq, Prod.mk.injEq] at h
   obtain ⟨rfl, rfl⟩ := h
   obtain ⟨g1, g2, g3, g4⟩ := ho
   rw [All_append] at g4
   obtain ⟨h1, h2⟩ := numP_spec hx g4.1
   obtain ⟨h3, h4⟩ := numP_spec hy g4.2
   exact (spec72 V m f h1 h3 g1 g2 g3).congr (fun φ => by simp only [List.map_cons, List.map_nil]; rw [← h2 φ, ← h4 φ]; rfl) (fun _ => rfl)
  ·simp at h
 ·simp at h
end Go.Ev

namespace Go.Ev
open Go Go.Proofs Go.RowKit
noncomputable def mmN (m a b : Nat) : Nat := mredN (mulN a b) m
noncomputable def outN (m a : Nat) : Nat := mredN (joinN a 0) m
def inN (m a : Nat) : Nat := remN (joinN 0 a) m
def SpecRf (f : FuncId) (g : Nat → Nat → Nat → Nat) : Prop := ∀ m q a b, m < 4294967296 ^ 8 → a < m → b < m → goodF m q → Spec f [rV0 m q, N8 a, N8 b] (.val (N8 (g m a b)))
def fnRf (g : Nat → Nat → Nat → Nat) (vs : List V1) : Option (List Prop × AV) :=
 match vs with
 | [.agg [.num 8 m, .a (.u .u32 q)], x, y] => match numP 8 x, numP 8 y with
  | some (o, a), some (o', b) => some ((m < 4294967296 ^ 8) :: (a < m) :: (b < m) :: goodF m q :: (o ++ o'), .val (N8 (g m a b)))
  | _, _ => none
 | _ => none
theorem fnRf_ok {f : FuncId} {g : Nat → Nat → Nat → Nat} (hg : SpecRf f g) {vs : List V1} {ob : List Prop} {r : AV} (h : fnRf g vs = some (ob, r)) (ho : All ob) : Spec f vs r := by
 unfold fnRf at h
 split at h
 ·rename_i m q x y
  split at h
  ·rename_i o a o' b hx hy
   simp only [Option.some.injEq, Prod.mk.injEq] at h
   obtain ⟨rfl, rfl⟩ := h
   obtain ⟨h0, h1, h2, hq, h3⟩ := ho
   rw [All_append] at h3
   obtain ⟨_, h4⟩ := numP_spec hx h3.1
   obtain ⟨_, h5⟩ := numP_spec hy h3.2
   exact (hg m q a b h0 h1 h2 hq).congr (fun φ => by simp only [List.map_cons, List.map_nil]; rw [← h4 φ, ← h5 φ]; rfl) (fun _ => rfl)
  ·simp at h
 ·simp at h
def SpecRp (f : FuncId) (g : Nat → Nat → Nat → Nat) : Prop := ∀ m q a b, m < 4294967296 ^ 8 → a < m → b < 4294967296 ^ 8 → goodF m q → Spec f [rV0 m q, N8 a, N8 b] (.val (N8 (g m a b)))
def fnRp (g : Nat → Nat → Nat → Nat) (vs : List V1) : Option (List Prop × AV) :=
 match vs with
 | [.agg [.num 8 m, .a (.u .u32 q)], x, y] => match numP 8 x, numP 8 y with
  | some (o, a), some (o', b) => some ((m < 4294967296 ^ 8) :: (a < m) :: goodF m q :: (o ++ o'), .val (N8 (g m a b)))
  | _, _ => none
 | _ => none
theorem fnRp_ok {f : FuncId} {g : Nat → Nat → Nat → Nat} (hg : SpecRp f g) {vs : List V1} {ob : List Prop} {r : AV} (h : fnRp g vs = some (ob, r)) (ho : All ob) : Spec f vs r := by
 unfold fnRp at h
 split at h
 ·rename_i m q x y
  split at h
  ·rename_i o a o' b hx hy
   simp only [Option.some.injEq, Prod.mk.injEq] at h
   obtain ⟨rfl, rfl⟩ := h
   obtain ⟨h0, h1, hq, h3⟩ := ho
   rw [All_append] at h3
   obtain ⟨_, h4⟩ := numP_spec hx h3.1
   obtain ⟨h6, h5⟩ := numP_spec hy h3.2
   exact (hg m q a b h0 h1 h6 hq).congr (fun φ => by simp only [List.map_cons, List.map_nil]; rw [← h4 φ, ← h5 φ]; rfl) (fun _ => rfl)
  ·simp at h
 ·simp at h
def SpecR1 (f : FuncId) (g : Nat → Nat → Nat) : Prop := ∀ m q a, m < 4294967296 ^ 8 → a < m → goodF m q → Spec f [rV0 m q, N8 a] (.val (N8 (g m a)))
def fnR1 (g : Nat → Nat → Nat) (vs : List V1) : Option (List Prop × AV) :=
 match vs with
 | [.agg [.num 8 m, .a (.u .u32 q)], x] => match numP 8 x with
  | some (o, a) => some ((m < 4294967296 ^ 8) :: (a < m) :: goodF m q :: o, .val (N8 (g m a)))
  | _ => none
 | _ => none
theorem fnR1_ok {f : FuncId} {g : Nat → Nat → Nat} (hg : SpecR1 f g) {vs : List V1} {ob : List Prop} {r : AV} (h : fnR1 g vs = some (ob, r)) (ho : All ob) : Spec f vs r := by
 unfold fnR1 at h
 split at h
 ·rename_i m q x
  split at h
  ·rename_i o a hx
   simp only [Option.some.injEq, Prod.mk.injEq] at h
   obtain ⟨rfl, rfl⟩ := h
   obtain ⟨h0, h1, hq, h3⟩ := ho
   obtain ⟨_, h4⟩ := numP_spec hx h3
   exact (hg m q a h0 h1 hq).congr (fun φ => by simp only [List.map_cons, List.map_nil]; rw [← h4 φ]; rfl) (fun _ => rfl)
  ·simp at h
 ·simp at h
noncomputable def EO1 : Env := { E0 with
 fn := fun f vs => match f with
  | 159 => fn2 gMul vs
  | 157 => fn72 vs
  | 155 => fn2 (fun a b => .val (N16 (joinN a b))) vs
  | 154 => fnDiv (fun V m => .tup [N8 (remN V m), .one (.i 0)]) vs
  | _ => none }
theorem envEO1 : EnvOK EO1 := by
 refine ⟨mixed, ?_, fun _ _ _ _ _ h => by simp [EO1, E0] at h, fun _ _ _ h => by simp [EO1, E0] at h, fun _ _ _ _ _ _ h => by simp [EO1, E0] at h⟩
 intro f vs ob r h ho
 simp only [EO1] at h
 split at h
 ·exact fn2_ok (fun a b ha hb => spec92 a b ha hb) h ho
 ·exact fn72_ok h ho
 ·exact fn2_ok spec77 h ho
 ·exact fnDiv_ok spec48 h ho
 ·simp at h
theorem run75 (m q a b : Nat) : callR EO1 1000 131 [rV0 m q, N8 a, N8 b] [] = some ([a < 4294967296 ^ 8, b < 4294967296 ^ 8, 0 < m, goodF m q, mulN a b < m * 4294967296 ^ 8, mulN a b < 4294967296 ^ 16, m < 4294967296 ^ 8], .val (N8 (mmN m a b))) := by kernel_rfl
theorem spec75 : SpecRf 131 mmN := by
 intro m q a b hm ha hb hq
 have h1 : mulN a b < m * 4294967296 ^ 8 := by
  unfold mulN
  have h2 : a * b ≤ a * 4294967296 ^ 8 := Nat.mul_le_mul_left _ (by omega)
  have h3 : a * 4294967296 ^ 8 < m * 4294967296 ^ 8 := Nat.mul_lt_mul_of_pos_right ha (by decide)
  omega
 exact spec_run envEO1 rfl (run75 m q a b) ⟨by omega, by omega, by omega, hq, h1, mulN_lt (by omega) (by omega), hm, trivial⟩ rfl rfl
theorem run73 (a : Nat) : callR EO1 1000 158 [N8 a] [] = some ([a < 4294967296 ^ 8, 0 < 4294967296, 0 < 4294967296, 0 < 4294967296, 0 < 4294967296, 0 < 4294967296, 0 < 4294967296, 0 < 4294967296, 0 < 4294967296], .val (N16 (joinN a 0))) := by kernel_rfl
def fn1 (g : Nat → AV) (vs : List V1) : Option (List Prop × AV) :=
 match vs with
 | [x] => match numP 8 x with
  | some (o, a) => some (o, g a)
  | _ => none
 | _ => none
theorem fn1_ok {f : FuncId} {g : Nat → AV} (hg : ∀ a, a < 4294967296 ^ 8 → Spec f [N8 a] (g a)) {vs : List V1} {ob : List Prop} {r : AV} (h : fn1 g vs = some (ob, r)) (ho : All ob) : Spec f vs r := by
 unfold fn1 at h
 split at h
 ·rename_i x
  split at h
  ·rename_i o a hx
   simp only [Option.some.injEq, Prod.mk.injEq] at h
   obtain ⟨rfl, rfl⟩ := h
   obtain ⟨h1, h2⟩ := numP_spec hx ho
   exact (hg a h1).congr (fun φ => by simp only [List.map_cons, List.map_nil]; rw [← h2 φ]; rfl) (fun _ => rfl)
  ·simp at h
 ·simp at h
theorem spec73 (a : Nat) (ha : a < 4294967296 ^ 8) : Spec 158 [N8 a] (.val (N16 (joinN a 0))) := by
 have h0 : (0 : Nat) < 4294967296 := by decide
 exact spec_run envEO1 rfl (run73 a) ⟨ha, h0, h0, h0, h0, h0, h0, h0, h0, trivial⟩ rfl rfl
noncomputable def EO2 : Env := { E0 with
 fn := fun f vs => match f with
  | 158 => fn1 (fun a => .val (N16 (joinN a 0))) vs
  | 157 => fn72 vs
  | _ => none }
theorem envEO2 : EnvOK EO2 := by
 refine ⟨mixed, ?_, fun _ _ _ _ _ h => by simp [EO2, E0] at h, fun _ _ _ h => by simp [EO2, E0] at h, fun _ _ _ _ _ _ h => by simp [EO2, E0] at h⟩
 intro f vs ob r h ho
 simp only [EO2] at h
 split at h
 ·exact fn1_ok spec73 h ho
 ·exact fn72_ok h ho
 ·simp at h
theorem run53 (m q a : Nat) : callR EO2 1000 130 [rV0 m q, N8 a] [] = some ([a < 4294967296 ^ 8, 0 < m, goodF m q, joinN a 0 < m * 4294967296 ^ 8, joinN a 0 < 4294967296 ^ 16, m < 4294967296 ^ 8], .val (N8 (outN m a))) := by kernel_rfl
theorem spec53 : SpecR1 130 outN := by
 intro m q a hm ha hq
 have h1 : joinN a 0 < m * 4294967296 ^ 8 := by unfold joinN; omega
 exact spec_run envEO2 rfl (run53 m q a) ⟨by omega, by omega, hq, h1, by unfold joinN; omega, hm, trivial⟩ rfl rfl
theorem run55 (m q a : Nat) : callR EO1 1000 127 [rV0 m q, N8 a] [] = some ([0 < 4294967296, 0 < 4294967296, 0 < 4294967296, 0 < 4294967296, 0 < 4294967296, 0 < 4294967296, 0 < 4294967296, 0 < 4294967296, a < 4294967296 ^ 8, joinN 0 a < 4294967296 ^ 16, 0 < m, m < 4294967296 ^ 8], .val (N8 (inN m a))) := by kernel_rfl
theorem spec55 (m q a : Nat) (hm : m < 4294967296 ^ 8) (h0 : 0 < m) (ha : a < 4294967296 ^ 8) : Spec 127 [rV0 m q, N8 a] (.val (N8 (inN m a))) := by
 have hz : (0 : Nat) < 4294967296 := by decide
 exact spec_run envEO1 rfl (run55 m q a) ⟨hz, hz, hz, hz, hz, hz, hz, hz, ha, by unfold joinN; omega, h0, hm, trivial⟩ rfl rfl
def fn55 (vs : List V1) : Option (List Prop × AV) :=
 match vs with
 | [.agg [.num 8 m, .a (.u .u32 _)], x] => match numP 8 x with
  | some (o, a) => some ((m < 4294967296 ^ 8) :: (0 < m) :: o, .val (N8 (inN m a)))
  | _ => none
 | _ => none
theorem fn55_ok {vs : List V1} {ob : List Prop} {r : AV} (h : fn55 vs = some (ob, r)) (ho : All ob) : Spec 127 vs r := by
 unfold fn55 at h
 split at h
 ·rename_i m q x
  split at h
  ·rename_i o a hx
   simp only [Option.some.injEq, Prod.mk.injEq] at h
   obtain ⟨rfl, rfl⟩ := h
   obtain ⟨h0, h1, h3⟩ := ho
   obtain ⟨h5, h4⟩ := numP_spec hx h3
   exact (spec55 m q a h0 h1 h5).congr (fun φ => by simp only [List.map_cons, List.map_nil]; rw [← h4 φ]; rfl) (fun _ => rfl)
  ·simp at h
 ·simp at h
noncomputable def mpowN (m a n : Nat) : Nat := mredN a m ^ n * 4294967296 ^ 8 % m
theorem mm_pow {m q x y : Nat} (hR : m < 4294967296 ^ 8) (hq : goodF m q) : mmN m (x * 4294967296 ^ 8 % m) (y * 4294967296 ^ 8 % m) = x * y * 4294967296 ^ 8 % m := by
 unfold mmN mredN mulN
 have h1 : Cg m (x * 4294967296 ^ 8 % m * (y * 4294967296 ^ 8 % m) * rinv m) (x * 4294967296 ^ 8 * (y * 4294967296 ^ 8) * rinv m) := ((Cg.mod m _).mul (Cg.mod m _)).mul (Cg.refl _ _)
 have h2 : x * 4294967296 ^ 8 * (y * 4294967296 ^ 8) * rinv m = x * y * 4294967296 ^ 8 * (4294967296 ^ 8 * rinv m) := by
  generalize (4294967296 : Nat) ^ 8 = R
  ac_rfl
 have h3 : Cg m (x * y * 4294967296 ^ 8 * (4294967296 ^ 8 * rinv m)) (x * y * 4294967296 ^ 8 * 1) := (Cg.refl _ _).mul (rinv_spec hR hq)
 rw [Nat.mul_one] at h3
 exact h1.trans ((Cg.of_eq h2).trans h3)
theorem mred_back {m q a : Nat} (hR : m < 4294967296 ^ 8) (hq : goodF m q) (ha : a < m) : mredN a m * 4294967296 ^ 8 % m = a := by
 unfold mredN
 have h1 : Cg m (a * rinv m % m * 4294967296 ^ 8) (a * rinv m * 4294967296 ^ 8) := (Cg.mod m _).mul (Cg.refl _ _)
 have h2 : a * rinv m * 4294967296 ^ 8 = a * (4294967296 ^ 8 * rinv m) := by
  generalize (4294967296 : Nat) ^ 8 = R
  ac_rfl
 have h3 : Cg m (a * (4294967296 ^ 8 * rinv m)) (a * 1) := (Cg.refl _ _).mul (rinv_spec hR hq)
 rw [Nat.mul_one] at h3
 have := h1.trans ((Cg.of_eq h2).trans h3)
 rw [show a * rinv m % m * 4294967296 ^ 8 % m = a % m from this, Nat.mod_eq_of_lt ha]
noncomputable def EPw : Env := { E0 with
 fn := fun f vs => match f with
  | 131 => fnRf mmN vs
  | 132 => fn1 (fun a => iV (lenN a : Int)) vs
  | 127 => fn55 vs
  | 134 => (match vs with | [x, .one (.i z)] => (match numP 8 x with | some (o, a) => some ((0 ≤ z ∧ z < 256) :: o, bV (bitB a z.toNat)) | _ => none) | _ => none)
  | _ => none
 S := fun f t => match f with
  | 156 => memN t [14, 16, 18, 25]
  | _ => false }
theorem envEPw : EnvOK EPw := by
 refine ⟨mixed, ?_, fun _ _ _ _ _ h => by simp [EPw, E0] at h, fun _ _ _ h => by simp [EPw, E0] at h, fun _ _ _ _ _ _ h => by simp [EPw, E0] at h⟩
 intro f vs ob r h ho
 simp only [EPw] at h
 split at h
 ·exact fnRf_ok spec75 h ho
 ·exact fn1_ok (fun a _ => spec74 a) h ho
 ·exact fn55_ok h ho
 ·split at h
  ·rename_i x z
   split at h
   ·rename_i o a hx
    simp only [Option.some.injEq, Prod.mk.injEq] at h
    obtain ⟨rfl, rfl⟩ := h
    obtain ⟨h1, h2⟩ := ho
    obtain ⟨_, h4⟩ := numP_spec hx h2
    obtain ⟨n, rfl⟩ : ∃ n : Nat, z = (n : Int) := ⟨z.toNat, by omega⟩
    exact (spec76 a n (by omega)).congr (fun φ => by simp only [List.map_cons, List.map_nil]; rw [← h4 φ]; rfl) (fun _ => rfl)
   ·simp at h
  ·simp at h
 ·simp at h
def bR (m q : Nat) : Blk := ⟨[.num 8 m, .a (.u .u32 q)], 114, true, false, 0⟩
def TP (i : Int) : List AV := slots 31 [(3, pV 0), (4, pV 1), (5, pV 2), (6, pV 3), (7, pV 4), (8, iV i)]
theorem tTP (i : Int) : tmsWf 5 (TP i) = true := by kernel_rfl
theorem wfTP (m q a n x : Nat) (i : Int) : wfS (TP i) [bR m q, b8 a, b8 n, z8, b8 x] = true := wfS_of (by
 intro b hb
 simp only [List.mem_cons, List.not_mem_nil, or_false] at hb
 rcases hb with rfl | rfl | rfl | rfl | rfl
 ·exact fun _ => rfl
 ·exact b8_free _
 ·exact b8_free _
 ·exact bN_free _
 ·exact b8_free _) (tTP i)
def obMM (m q a b : Nat) : List Prop := [m < 4294967296 ^ 8, a < m, b < m, goodF m q, a < 4294967296 ^ 8, b < 4294967296 ^ 8]
theorem run54t (m q a n x j : Nat) : runTo EPw 1000 (EPw.S 156) (bodyOf Tryz.prog 156 3) (TP (j : Int)) [bR m q, b8 a, b8 n, z8, b8 x] [true, true] (TP ((j : Int) - 1)) 5 =
  some ((decide (0 ≤ (j : Int)) = true) :: (obMM m q x x ++ ((bitB n j = true) :: (0 ≤ (j : Int) ∧ (j : Int) < 256) :: (n < 4294967296 ^ 8) :: (obMM m q (mmN m x x) a ++ [inI ((j : Int) - 1)]))), .normal, TP ((j : Int) - 1), [bR m q, b8 a, b8 n, z8, b8 (mmN m (mmN m x x) a)]) := by kernel_rfl
theorem run54f (m q a n x j : Nat) : runTo EPw 1000 (EPw.S 156) (bodyOf Tryz.prog 156 3) (TP (j : Int)) [bR m q, b8 a, b8 n, z8, b8 x] [true, false] (TP ((j : Int) - 1)) 5 =
  some ((decide (0 ≤ (j : Int)) = true) :: (obMM m q x x ++ ((bitB n j = false) :: (0 ≤ (j : Int) ∧ (j : Int) < 256) :: (n < 4294967296 ^ 8) :: [inI ((j : Int) - 1)])), .normal, TP ((j : Int) - 1), [bR m q, b8 a, b8 n, z8, b8 (mmN m x x)]) := by kernel_rfl
theorem run54x (m q a n x : Nat) : runTo EPw 1000 (EPw.S 156) (bodyOf Tryz.prog 156 3) (TP (-1)) [bR m q, b8 a, b8 n, z8, b8 x] [false] (TP (-1)) 5 =
  some ([decide ((0 : Int) ≤ -1) = false], .exit 0, TP (-1), [bR m q, b8 a, b8 n, z8, b8 x]) := by kernel_rfl
noncomputable def pwN (m a n L k : Nat) : Nat := mredN a m ^ (n / 2 ^ (L - k)) * 4294967296 ^ 8 % m
theorem pwN_step {m q a n L k : Nat} (hR : m < 4294967296 ^ 8) (hq : goodF m q) (ha : a < m) (hk : k < L) :
  (bitB n (L - 1 - k) = true → mmN m (mmN m (pwN m a n L k) (pwN m a n L k)) a = pwN m a n L (k + 1)) ∧ (bitB n (L - 1 - k) = false → mmN m (pwN m a n L k) (pwN m a n L k) = pwN m a n L (k + 1)) := by
 have e : n / 2 ^ (L - (k + 1)) = n / 2 ^ (L - k) + n / 2 ^ (L - k) + bitN n (L - 1 - k) := by
  unfold bitN
  rw [show L - k = (L - 1 - k) + 1 by omega, show L - (k + 1) = L - 1 - k by omega, Nat.pow_succ, ← Nat.div_div_eq_div_mul]
  omega
 have sq : mmN m (pwN m a n L k) (pwN m a n L k) = mredN a m ^ (n / 2 ^ (L - k) + n / 2 ^ (L - k)) * 4294967296 ^ 8 % m := by
  unfold pwN
  rw [mm_pow hR hq, ← Nat.pow_add]
 constructor
 ·intro hb
  have hb : bitN n (L - 1 - k) = 1 := of_decide_eq_true hb
  rw [sq]
  have := mm_pow (x := mredN a m ^ (n / 2 ^ (L - k) + n / 2 ^ (L - k))) (y := mredN a m) hR hq
  rw [mred_back hR hq ha] at this
  rw [this, ← Nat.pow_succ]
  unfold pwN
  rw [e, hb]
 ·intro hb
  have hb : bitN n (L - 1 - k) ≠ 1 := of_decide_eq_false hb
  have : bitN n (L - 1 - k) = 0 := by have := bitN_le n (L - 1 - k); omega
  rw [sq]
  unfold pwN
  rw [e, this, Nat.add_zero]
theorem loop54 {m q a n : Nat} (hR : m < 4294967296 ^ 8) (hq : goodF m q) (ha : a < m) (hn : n < 4294967296 ^ 8) :
  Goes Tryz.prog (.loop (bodyOf Tryz.prog 156 3)) (.exit 0) (TP ((lenN n : Int) - 1)) [bR m q, b8 a, b8 n, z8, b8 (inN m 1)] (TP (-1)) [bR m q, b8 a, b8 n, z8, b8 (mpowN m a n)] := by
 obtain ⟨hl1, hl2⟩ := lenN_spec hn
 have hm0 : 0 < m := by omega
 have p0 : pwN m a n (lenN n) 0 = inN m 1 := by
  unfold pwN inN remN joinN
  rw [Nat.sub_zero, Nat.div_eq_of_lt hl1, Nat.pow_zero, Nat.zero_add, Nat.mul_comm]
 have p1 : pwN m a n (lenN n) (lenN n) = mpowN m a n := by
  unfold pwN mpowN
  rw [Nat.sub_self, Nat.pow_zero, Nat.div_one]
 have := loop_goes (P := Tryz.prog) (y := bodyOf Tryz.prog 156 3) (ex := .exit 0) (N := lenN n) (k := 5) (T := fun k => TP ((lenN n : Int) - 1 - (k : Int))) (M := fun k => [bR m q, b8 a, b8 n, z8, b8 (pwN m a n (lenN n) k)]) (TF := TP (-1)) (MF := [bR m q, b8 a, b8 n, z8, b8 (pwN m a n (lenN n) (lenN n))])
  (by simp) (fun _ _ => rfl) (fun k hk => by
   obtain ⟨s1, s2⟩ := pwN_step (n := n) hR hq ha hk
   have hx : pwN m a n (lenN n) k < m := Nat.mod_lt _ hm0
   have hmm : mmN m (pwN m a n (lenN n) k) (pwN m a n (lenN n) k) < m := Nat.mod_lt _ hm0
   have hI : ((lenN n - 1 - k : Nat) : Int) = (lenN n : Int) - 1 - (k : Int) := by omega
   have hI2 : ((lenN n - 1 - k : Nat) : Int) - 1 = (lenN n : Int) - 1 - ((k + 1 : Nat) : Int) := by omega
   have o0 : decide (0 ≤ ((lenN n - 1 - k : Nat) : Int)) = true := decide_eq_true (by omega)
   have o1 : 0 ≤ ((lenN n - 1 - k : Nat) : Int) ∧ ((lenN n - 1 - k : Nat) : Int) < 256 := by omega
   have o2 : inI (((lenN n - 1 - k : Nat) : Int) - 1) := by unfold inI; omega
   rw [← hI, ← hI2]
   cases hb : bitB n (lenN n - 1 - k) with
   | true =>
    have hrun := run54t m q a n (pwN m a n (lenN n) k) (lenN n - 1 - k)
    rw [s1 hb] at hrun
    exact Runs.goes envEPw ⟨_, _, hrun, ⟨o0, hR, hx, hx, hq, by omega, by omega, hb, o1, hn, hR, hmm, ha, hq, by omega, by omega, o2, trivial⟩, wfTP _ _ _ _ _ _⟩
   | false =>
    have hrun := run54f m q a n (pwN m a n (lenN n) k) (lenN n - 1 - k)
    rw [s2 hb] at hrun
    exact Runs.goes envEPw ⟨_, _, hrun, ⟨o0, hR, hx, hx, hq, by omega, by omega, hb, o1, hn, o2, trivial⟩, wfTP _ _ _ _ _ _⟩)
  (by
   rw [show (lenN n : Int) - 1 - (lenN n : Int) = -1 by omega]
   exact Runs.goes envEPw ⟨[false], _, run54x _ _ _ _ _, ⟨by decide, trivial⟩, wfTP _ _ _ _ _ _⟩)
 rw [p0, p1, show (lenN n : Int) - 1 - ((0 : Nat) : Int) = (lenN n : Int) - 1 by omega] at this
 exact this
noncomputable def EPx (m q a n : Nat) : Env := { EPw with lp := fun j => match Nat.beq j 3 with
  | true => some (bodyOf Tryz.prog 156 3, sumC (TP ((lenN n : Int) - 1)) [bR m q, b8 a, b8 n, z8, b8 (inN m 1)] (TP (-1)) [bR m q, b8 a, b8 n, z8, b8 (mpowN m a n)] (.exit 0))
  | false => none }
theorem envEPx {m q a n : Nat} (hR : m < 4294967296 ^ 8) (hq : goodF m q) (ha : a < m) (hn : n < 4294967296 ^ 8) : EnvOK (EPx m q a n) := envEL1 envEPw (sumC_ok (by simp only [List.length_cons]) (loop54 hR hq ha hn))
theorem run54 (m q a n : Nat) : callR (EPx m q a n) 1000 156 [rV0 m q, N8 a, N8 n] [] = some ([m < 4294967296 ^ 8, 0 < m, 1 < 4294967296, 0 < 4294967296, 0 < 4294967296, 0 < 4294967296, 0 < 4294967296, 0 < 4294967296, 0 < 4294967296, 0 < 4294967296, n < 4294967296 ^ 8, inI ((lenN n : Int) - 1),
  bodyOf Tryz.prog 156 3 = bodyOf Tryz.prog 156 3, (TP ((lenN n : Int) - 1), [bR m q, b8 a, b8 n, z8, b8 (inN m 1)]) = (TP ((lenN n : Int) - 1), [bR m q, b8 a, b8 n, z8, b8 (inN m 1)]), wfS (TP ((lenN n : Int) - 1)) [bR m q, b8 a, b8 n, z8, b8 (inN m 1)] = true], .val (N8 (mpowN m a n))) := by kernel_rfl
theorem spec54 : SpecRp 156 mpowN := by
 intro m q a n hR ha hn hq
 have h0 : (0 : Nat) < 4294967296 := by decide
 have h1 : (1 : Nat) < 4294967296 := by decide
 have hl := (lenN_spec hn).2
 exact spec_run (envEPx hR hq ha hn) rfl (run54 m q a n) ⟨hR, by omega, h1, h0, h0, h0, h0, h0, h0, h0, hn, by unfold inI; omega, rfl, rfl, wfTP _ _ _ _ _ _, trivial⟩ rfl rfl
end Go.Ev

