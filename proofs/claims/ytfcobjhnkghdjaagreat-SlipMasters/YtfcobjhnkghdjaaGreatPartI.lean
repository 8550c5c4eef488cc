/- Numbers of limbs: what the functions on them come to -/
import Derived.Test.YtfcobjhnkghdjaaGreatPartH
namespace Go.Ev
open Go Go.Proofs Go.RowKit
def GoesN (P : Program) (y : Code) (n : Nat) (ex : Ex) (T : List AV) (M : List Blk) (T' : List AV) (M' : List Blk) : Prop :=
 ∀ w0 φ a w, Rel w0 φ T M a w → ∀ Q : Exit → Act → World → Prop, (∀ φ' a' w', Agree M.length φ φ' → Rel w0 φ' T' M' a' w' → Q ex.to a' w') → Code.rounds P y Q n a w
theorem GoesN.loop {P : Program} {y : Code} {n : Nat} {ex : Ex} {T T' : List AV} {M M' : List Blk} (h : GoesN P y n ex T M T' M') : Goes P (.loop y) ex T M T' M' :=
 fun w0 φ a w hr Q hQ => wp_loop_rounds n (h w0 φ a w hr Q hQ)
theorem GoesN.out {P : Program} {y : Code} {n : Nat} {ex : Ex} (hex : ex ≠ .normal) {T T' : List AV} {M M' : List Blk} (h : Goes P y ex T M T' M') : GoesN P y (n + 1) ex T M T' M' := by
 intro w0 φ a w hr Q hQ
 refine h w0 φ a w hr _ ?_
 intro φ' a' w' hag hr'
 have := hQ φ' a' w' hag hr'
 cases ex with
 | normal => exact absurd rfl hex
 | exit id => exact this
 | ret => exact this
theorem GoesN.cons {P : Program} {y : Code} {n : Nat} {ex : Ex} {T T1 T' : List AV} {M M1 M' : List Blk} (hl : M.length = M1.length) (h1 : Goes P y .normal T M T1 M1) (h : GoesN P y n ex T1 M1 T' M') : GoesN P y (n + 1) ex T M T' M' := by
 intro w0 φ a w hr Q hQ
 refine h1 w0 φ a w hr _ ?_
 intro φ' a' w' hag hr'
 refine h w0 φ' a' w' hr' Q ?_
 intro φ'' a'' w'' hag' hr''
 exact hQ φ'' a'' w'' (hag.trans (Nat.le_refl _) (by rw [hl]; exact hag')) hr''
def b17 (u : Nat → Nat) : Blk := ⟨cellsU 17 0 u, 170, true, false, 0⟩
theorem b17_free (u : Nat → Nat) : Free (b17 u) := fun f => cellsU_free u f 17 0
noncomputable def E80 : Env := { E0 with
 fn := fun f vs => match f with
  | 55 => fn2 gLess vs
  | 59 => fn2 gSub vs
  | _ => none
 S := fun f t => match f with
  | 144 => memN t [68, 96, 100]
  | _ => false }
theorem envE80 : EnvOK E80 := by
 refine ⟨mixed, ?_, fun _ _ _ _ _ h => by simp [E80, E0] at h, fun _ _ _ h => by simp [E80, E0] at h, fun _ _ _ _ _ _ h => by simp [E80, E0] at h⟩
 intro f vs ob r h ho
 simp only [E80] at h
 split at h
 ·exact fn2_ok spec57 h ho
 ·exact fn2_ok spec61 h ho
 ·simp at h
def updN (t : Nat → Nat) (k v j : Nat) : Nat := match Nat.beq j k with | true => v | false => t j
def prE (t : Nat → Nat) (c k : Nat) : Nat := (c + t k % 18446744073709551616) % 18446744073709551616
def prop (t : Nat → Nat) (c k : Nat) : Nat → Nat → Nat
 | 0 => t
 | n + 1 => match decide (0 < c) with
  | false => t
  | true => prop (updN t k (prE t c k % 4294967296)) (prE t c k / 4294967296) (k + 1) n
def TC (f i c : Nat) (k : Int) : List AV := slots 110 [(2, .val (u32 f)), (3, pV 0), (4, pV 1), (6, pV 2), (7, pV 3), (9, iV (i : Int)), (11, u64V c), (13, iV k)]
def TD80 (f : Nat) (i : Int) : List AV := slots 110 [(2, .val (u32 f)), (3, pV 0), (4, pV 1), (6, pV 2), (7, pV 3), (9, iV i)]
theorem tTC (f i c : Nat) (k : Int) : tmsWf 4 (TC f i c k) = true := by kernel_rfl
theorem tTD80 (f : Nat) (i : Int) : tmsWf 4 (TD80 f i) = true := by kernel_rfl
def M80 (w m t : Nat → Nat) : List Blk := [bW w, bN m, z8, b17 t]
theorem M80_free (w m t : Nat → Nat) : ∀ b ∈ M80 w m t, Free b := by
 intro b hb
 simp only [M80, List.mem_cons, List.not_mem_nil, or_false] at hb
 rcases hb with rfl | rfl | rfl | rfl
 ·exact bW_free _
 ·exact bN_free _
 ·exact bN_free _
 ·exact b17_free _
theorem wfTC (w m t : Nat → Nat) (f i c : Nat) (k : Int) : wfS (TC f i c k) (M80 w m t) = true := wfS_of (M80_free w m t) (tTC f i c k)
theorem wfTD80 (w m t : Nat → Nat) (f : Nat) (i : Int) : wfS (TD80 f i) (M80 w m t) = true := wfS_of (M80_free w m t) (tTD80 f i)
theorem runC_8 (w m t : Nat → Nat) (f i c : Nat) : runTo E80 1000 (E80.S 144) (bodyOf Tryz.prog 144 18) (TC f i c ((8 : Nat) : Int)) (M80 w m t) [true] (TC f i (prE t c 8 / 4294967296) ((8 + 1 : Nat) : Int)) 4 =
  some ([decide (0 < c) = true], .normal, TC f i (prE t c 8 / 4294967296) ((8 + 1 : Nat) : Int), M80 w m (updN t 8 (prE t c 8 % 4294967296))) := by kernel_rfl
theorem runCx_8 (w m t : Nat → Nat) (f i c : Nat) : runTo E80 1000 (E80.S 144) (bodyOf Tryz.prog 144 18) (TC f i c ((8 : Nat) : Int)) (M80 w m t) [false] (TD80 f (i : Int)) 4 =
  some ([decide (0 < c) = false], .exit 6, TD80 f (i : Int), M80 w m t) := by kernel_rfl
theorem runC_9 (w m t : Nat → Nat) (f i c : Nat) : runTo E80 1000 (E80.S 144) (bodyOf Tryz.prog 144 18) (TC f i c ((9 : Nat) : Int)) (M80 w m t) [true] (TC f i (prE t c 9 / 4294967296) ((9 + 1 : Nat) : Int)) 4 =
  some ([decide (0 < c) = true], .normal, TC f i (prE t c 9 / 4294967296) ((9 + 1 : Nat) : Int), M80 w m (updN t 9 (prE t c 9 % 4294967296))) := by kernel_rfl
theorem runCx_9 (w m t : Nat → Nat) (f i c : Nat) : runTo E80 1000 (E80.S 144) (bodyOf Tryz.prog 144 18) (TC f i c ((9 : Nat) : Int)) (M80 w m t) [false] (TD80 f (i : Int)) 4 =
  some ([decide (0 < c) = false], .exit 6, TD80 f (i : Int), M80 w m t) := by kernel_rfl
theorem runC_10 (w m t : Nat → Nat) (f i c : Nat) : runTo E80 1000 (E80.S 144) (bodyOf Tryz.prog 144 18) (TC f i c ((10 : Nat) : Int)) (M80 w m t) [true] (TC f i (prE t c 10 / 4294967296) ((10 + 1 : Nat) : Int)) 4 =
  some ([decide (0 < c) = true], .normal, TC f i (prE t c 10 / 4294967296) ((10 + 1 : Nat) : Int), M80 w m (updN t 10 (prE t c 10 % 4294967296))) := by kernel_rfl
theorem runCx_10 (w m t : Nat → Nat) (f i c : Nat) : runTo E80 1000 (E80.S 144) (bodyOf Tryz.prog 144 18) (TC f i c ((10 : Nat) : Int)) (M80 w m t) [false] (TD80 f (i : Int)) 4 =
  some ([decide (0 < c) = false], .exit 6, TD80 f (i : Int), M80 w m t) := by kernel_rfl
theorem runC_11 (w m t : Nat → Nat) (f i c : Nat) : runTo E80 1000 (E80.S 144) (bodyOf Tryz.prog 144 18) (TC f i c ((11 : Nat) : Int)) (M80 w m t) [true] (TC f i (prE t c 11 / 4294967296) ((11 + 1 : Nat) : Int)) 4 =
  some ([decide (0 < c) = true], .normal, TC f i (prE t c 11 / 4294967296) ((11 + 1 : Nat) : Int), M80 w m (updN t 11 (prE t c 11 % 4294967296))) := by kernel_rfl
theorem runCx_11 (w m t : Nat → Nat) (f i c : Nat) : runTo E80 1000 (E80.S 144) (bodyOf Tryz.prog 144 18) (TC f i c ((11 : Nat) : Int)) (M80 w m t) [false] (TD80 f (i : Int)) 4 =
  some ([decide (0 < c) = false], .exit 6, TD80 f (i : Int), M80 w m t) := by kernel_rfl
theorem runC_12 (w m t : Nat → Nat) (f i c : Nat) : runTo E80 1000 (E80.S 144) (bodyOf Tryz.prog 144 18) (TC f i c ((12 : Nat) : Int)) (M80 w m t) [true] (TC f i (prE t c 12 / 4294967296) ((12 + 1 : Nat) : Int)) 4 =
  some ([decide (0 < c) = true], .normal, TC f i (prE t c 12 / 4294967296) ((12 + 1 : Nat) : Int), M80 w m (updN t 12 (prE t c 12 % 4294967296))) := by kernel_rfl
theorem runCx_12 (w m t : Nat → Nat) (f i c : Nat) : runTo E80 1000 (E80.S 144) (bodyOf Tryz.prog 144 18) (TC f i c ((12 : Nat) : Int)) (M80 w m t) [false] (TD80 f (i : Int)) 4 =
  some ([decide (0 < c) = false], .exit 6, TD80 f (i : Int), M80 w m t) := by kernel_rfl
theorem runC_13 (w m t : Nat → Nat) (f i c : Nat) : runTo E80 1000 (E80.S 144) (bodyOf Tryz.prog 144 18) (TC f i c ((13 : Nat) : Int)) (M80 w m t) [true] (TC f i (prE t c 13 / 4294967296) ((13 + 1 : Nat) : Int)) 4 =
  some ([decide (0 < c) = true], .normal, TC f i (prE t c 13 / 4294967296) ((13 + 1 : Nat) : Int), M80 w m (updN t 13 (prE t c 13 % 4294967296))) := by kernel_rfl
theorem runCx_13 (w m t : Nat → Nat) (f i c : Nat) : runTo E80 1000 (E80.S 144) (bodyOf Tryz.prog 144 18) (TC f i c ((13 : Nat) : Int)) (M80 w m t) [false] (TD80 f (i : Int)) 4 =
  some ([decide (0 < c) = false], .exit 6, TD80 f (i : Int), M80 w m t) := by kernel_rfl
theorem runC_14 (w m t : Nat → Nat) (f i c : Nat) : runTo E80 1000 (E80.S 144) (bodyOf Tryz.prog 144 18) (TC f i c ((14 : Nat) : Int)) (M80 w m t) [true] (TC f i (prE t c 14 / 4294967296) ((14 + 1 : Nat) : Int)) 4 =
  some ([decide (0 < c) = true], .normal, TC f i (prE t c 14 / 4294967296) ((14 + 1 : Nat) : Int), M80 w m (updN t 14 (prE t c 14 % 4294967296))) := by kernel_rfl
theorem runCx_14 (w m t : Nat → Nat) (f i c : Nat) : runTo E80 1000 (E80.S 144) (bodyOf Tryz.prog 144 18) (TC f i c ((14 : Nat) : Int)) (M80 w m t) [false] (TD80 f (i : Int)) 4 =
  some ([decide (0 < c) = false], .exit 6, TD80 f (i : Int), M80 w m t) := by kernel_rfl
theorem runC_15 (w m t : Nat → Nat) (f i c : Nat) : runTo E80 1000 (E80.S 144) (bodyOf Tryz.prog 144 18) (TC f i c ((15 : Nat) : Int)) (M80 w m t) [true] (TC f i (prE t c 15 / 4294967296) ((15 + 1 : Nat) : Int)) 4 =
  some ([decide (0 < c) = true], .normal, TC f i (prE t c 15 / 4294967296) ((15 + 1 : Nat) : Int), M80 w m (updN t 15 (prE t c 15 % 4294967296))) := by kernel_rfl
theorem runCx_15 (w m t : Nat → Nat) (f i c : Nat) : runTo E80 1000 (E80.S 144) (bodyOf Tryz.prog 144 18) (TC f i c ((15 : Nat) : Int)) (M80 w m t) [false] (TD80 f (i : Int)) 4 =
  some ([decide (0 < c) = false], .exit 6, TD80 f (i : Int), M80 w m t) := by kernel_rfl
theorem runC_16 (w m t : Nat → Nat) (f i c : Nat) : runTo E80 1000 (E80.S 144) (bodyOf Tryz.prog 144 18) (TC f i c ((16 : Nat) : Int)) (M80 w m t) [true] (TC f i (prE t c 16 / 4294967296) ((16 + 1 : Nat) : Int)) 4 =
  some ([decide (0 < c) = true], .normal, TC f i (prE t c 16 / 4294967296) ((16 + 1 : Nat) : Int), M80 w m (updN t 16 (prE t c 16 % 4294967296))) := by kernel_rfl
theorem runCx_16 (w m t : Nat → Nat) (f i c : Nat) : runTo E80 1000 (E80.S 144) (bodyOf Tryz.prog 144 18) (TC f i c ((16 : Nat) : Int)) (M80 w m t) [false] (TD80 f (i : Int)) 4 =
  some ([decide (0 < c) = false], .exit 6, TD80 f (i : Int), M80 w m t) := by kernel_rfl
theorem runC_17 (w m t : Nat → Nat) (f i c : Nat) : runTo E80 1000 (E80.S 144) (bodyOf Tryz.prog 144 18) (TC f i c ((17 : Nat) : Int)) (M80 w m t) [] (TD80 f (i : Int)) 4 =
  some ([], .exit 6, TD80 f (i : Int), M80 w m t) := by kernel_rfl
theorem stepC (w m t : Nat → Nat) (f i c k : Nat) (hk : 8 ≤ k) (hk2 : k < 17) (hc : 0 < c) : Goes Tryz.prog (bodyOf Tryz.prog 144 18) .normal (TC f i c (k : Int)) (M80 w m t) (TC f i (prE t c k / 4294967296) ((k + 1 : Nat) : Int)) (M80 w m (updN t k (prE t c k % 4294967296))) := by
 have hd : All [decide (0 < c) = true] := ⟨decide_eq_true hc, trivial⟩
 have hw := wfTC w m (updN t k (prE t c k % 4294967296)) f i (prE t c k / 4294967296) ((k + 1 : Nat) : Int)
 have : Runs E80 1000 (E80.S 144) (bodyOf Tryz.prog 144 18) .normal (TC f i c (k : Int)) (M80 w m t) (TC f i (prE t c k / 4294967296) ((k + 1 : Nat) : Int)) (M80 w m (updN t k (prE t c k % 4294967296))) := by
  have h9 : k = 8 ∨ k = 9 ∨ k = 10 ∨ k = 11 ∨ k = 12 ∨ k = 13 ∨ k = 14 ∨ k = 15 ∨ k = 16 := by omega
  rcases h9 with rfl | rfl | rfl | rfl | rfl | rfl | rfl | rfl | rfl
  ·exact ⟨[true], _, runC_8 w m t f i c, hd, hw⟩
  ·exact ⟨[true], _, runC_9 w m t f i c, hd, hw⟩
  ·exact ⟨[true], _, runC_10 w m t f i c, hd, hw⟩
  ·exact ⟨[true], _, runC_11 w m t f i c, hd, hw⟩
  ·exact ⟨[true], _, runC_12 w m t f i c, hd, hw⟩
  ·exact ⟨[true], _, runC_13 w m t f i c, hd, hw⟩
  ·exact ⟨[true], _, runC_14 w m t f i c, hd, hw⟩
  ·exact ⟨[true], _, runC_15 w m t f i c, hd, hw⟩
  ·exact ⟨[true], _, runC_16 w m t f i c, hd, hw⟩
 exact this.goes envE80
theorem outC (w m t : Nat → Nat) (f i c k : Nat) (hk : 8 ≤ k) (hk2 : k < 17) (hc : ¬ 0 < c) : Goes Tryz.prog (bodyOf Tryz.prog 144 18) (.exit 6) (TC f i c (k : Int)) (M80 w m t) (TD80 f (i : Int)) (M80 w m t) := by
 have hd : All [decide (0 < c) = false] := ⟨decide_eq_false hc, trivial⟩
 have hw := wfTD80 w m t f (i : Int)
 have : Runs E80 1000 (E80.S 144) (bodyOf Tryz.prog 144 18) (.exit 6) (TC f i c (k : Int)) (M80 w m t) (TD80 f (i : Int)) (M80 w m t) := by
  have h9 : k = 8 ∨ k = 9 ∨ k = 10 ∨ k = 11 ∨ k = 12 ∨ k = 13 ∨ k = 14 ∨ k = 15 ∨ k = 16 := by omega
  rcases h9 with rfl | rfl | rfl | rfl | rfl | rfl | rfl | rfl | rfl
  ·exact ⟨[false], _, runCx_8 w m t f i c, hd, hw⟩
  ·exact ⟨[false], _, runCx_9 w m t f i c, hd, hw⟩
  ·exact ⟨[false], _, runCx_10 w m t f i c, hd, hw⟩
  ·exact ⟨[false], _, runCx_11 w m t f i c, hd, hw⟩
  ·exact ⟨[false], _, runCx_12 w m t f i c, hd, hw⟩
  ·exact ⟨[false], _, runCx_13 w m t f i c, hd, hw⟩
  ·exact ⟨[false], _, runCx_14 w m t f i c, hd, hw⟩
  ·exact ⟨[false], _, runCx_15 w m t f i c, hd, hw⟩
  ·exact ⟨[false], _, runCx_16 w m t f i c, hd, hw⟩
 exact this.goes envE80
theorem loopC (w m : Nat → Nat) (f i : Nat) : ∀ (n : Nat) (t : Nat → Nat) (c k : Nat), 8 ≤ k → k + n = 17 → GoesN Tryz.prog (bodyOf Tryz.prog 144 18) (n + 1) (.exit 6) (TC f i c (k : Int)) (M80 w m t) (TD80 f (i : Int)) (M80 w m (prop t c k n))
 | 0, t, c, k, _, hn => by
  obtain rfl : k = 17 := by omega
  exact GoesN.out (by simp) (Runs.goes envE80 ⟨[], _, runC_17 w m t f i c, trivial, wfTD80 _ _ _ _ _⟩)
 | n + 1, t, c, k, hk, hn => by
  by_cases hc : 0 < c
  ·have e : prop t c k (n + 1) = prop (updN t k (prE t c k % 4294967296)) (prE t c k / 4294967296) (k + 1) n := by
    rw [prop, decide_eq_true hc]
   rw [e]
   have hs := stepC w m t f i c k hk (by omega) hc
   exact GoesN.cons (by simp only [M80, List.length_cons]) hs (loopC w m f i n _ _ (k + 1) (by omega) (by omega))
  ·have e : prop t c k (n + 1) = t := by
    rw [prop, decide_eq_false hc]
   rw [e]
   exact GoesN.out (by simp) (outC w m t f i c k hk (by omega) hc)
def T80 (q : Nat) (b w : Nat → Nat) (i c k : Nat) : Nat := ((c + q * (b k % 18446744073709551616) % 18446744073709551616) % 18446744073709551616 + w (i + k) % 18446744073709551616) % 18446744073709551616
def rgT (t m : Nat → Nat) (f i : Nat) : Nat → Nat → Nat := T80 (t i * f % 4294967296 % 18446744073709551616) m t i
def rgW (t m : Nat → Nat) (f i j : Nat) : Nat :=
 match Nat.blt j i with
 | true => t j
 | false => match Nat.blt j (i + 8) with
  | true => rgT t m f i (rowC (rgT t m f i) (j - i)) (j - i) % 4294967296
  | false => t j
def rgN (t m : Nat → Nat) (f i : Nat) : Nat → Nat := prop (rgW t m f i) (rowC (rgT t m f i) 8) (i + 8) (9 - i)
noncomputable def ER80 (w m t : Nat → Nat) (f i : Nat) : Env := { E80 with lp := fun j => match Nat.beq j 18 with
  | true => some (bodyOf Tryz.prog 144 18, sumC (TC f i (rowC (rgT t m f i) 8) ((i + 8 : Nat) : Int)) (M80 w m (rgW t m f i)) (TD80 f (i : Int)) (M80 w m (rgN t m f i)) (.exit 6))
  | false => none }
theorem envER80 (w m t : Nat → Nat) (f i : Nat) (hi : i ≤ 8) : EnvOK (ER80 w m t f i) := envEL1 envE80 (sumC_ok (by simp only [M80, List.length_cons]) (GoesN.loop (loopC w m f i (9 - i) (rgW t m f i) (rowC (rgT t m f i) 8) (i + 8) (by omega) (by omega))))
theorem run80_0 (w m t : Nat → Nat) (f : Nat) : runTo (ER80 w m t f 0) 1000 (E80.S 144) (bodyOf Tryz.prog 144 7) (TD80 f ((0 : Nat) : Int)) (M80 w m t) [] (TD80 f ((0 + 1 : Nat) : Int)) 4 =
  some ([bodyOf Tryz.prog 144 18 = bodyOf Tryz.prog 144 18, (TC f 0 (rowC (rgT t m f 0) 8) ((0 + 8 : Nat) : Int), M80 w m (rgW t m f 0)) = (TC f 0 (rowC (rgT t m f 0) 8) ((0 + 8 : Nat) : Int), M80 w m (rgW t m f 0)), wfS (TC f 0 (rowC (rgT t m f 0) 8) ((0 + 8 : Nat) : Int)) (M80 w m (rgW t m f 0)) = true], .normal, TD80 f ((0 + 1 : Nat) : Int), M80 w m (rgN t m f 0)) := by kernel_rfl
theorem run80_1 (w m t : Nat → Nat) (f : Nat) : runTo (ER80 w m t f 1) 1000 (E80.S 144) (bodyOf Tryz.prog 144 7) (TD80 f ((1 : Nat) : Int)) (M80 w m t) [] (TD80 f ((1 + 1 : Nat) : Int)) 4 =
  some ([bodyOf Tryz.prog 144 18 = bodyOf Tryz.prog 144 18, (TC f 1 (rowC (rgT t m f 1) 8) ((1 + 8 : Nat) : Int), M80 w m (rgW t m f 1)) = (TC f 1 (rowC (rgT t m f 1) 8) ((1 + 8 : Nat) : Int), M80 w m (rgW t m f 1)), wfS (TC f 1 (rowC (rgT t m f 1) 8) ((1 + 8 : Nat) : Int)) (M80 w m (rgW t m f 1)) = true], .normal, TD80 f ((1 + 1 : Nat) : Int), M80 w m (rgN t m f 1)) := by kernel_rfl
theorem run80_2 (w m t : Nat → Nat) (f : Nat) : runTo (ER80 w m t f 2) 1000 (E80.S 144) (bodyOf Tryz.prog 144 7) (TD80 f ((2 : Nat) : Int)) (M80 w m t) [] (TD80 f ((2 + 1 : Nat) : Int)) 4 =
  some ([bodyOf Tryz.prog 144 18 = bodyOf Tryz.prog 144 18, (TC f 2 (rowC (rgT t m f 2) 8) ((2 + 8 : Nat) : Int), M80 w m (rgW t m f 2)) = (TC f 2 (rowC (rgT t m f 2) 8) ((2 + 8 : Nat) : Int), M80 w m (rgW t m f 2)), wfS (TC f 2 (rowC (rgT t m f 2) 8) ((2 + 8 : Nat) : Int)) (M80 w m (rgW t m f 2)) = true], .normal, TD80 f ((2 + 1 : Nat) : Int), M80 w m (rgN t m f 2)) := by kernel_rfl
theorem run80_3 (w m t : Nat → Nat) (f : Nat) : runTo (ER80 w m t f 3) 1000 (E80.S 144) (bodyOf Tryz.prog 144 7) (TD80 f ((3 : Nat) : Int)) (M80 w m t) [] (TD80 f ((3 + 1 : Nat) : Int)) 4 =
  some ([bodyOf Tryz.prog 144 18 = bodyOf Tryz.prog 144 18, (TC f 3 (rowC (rgT t m f 3) 8) ((3 + 8 : Nat) : Int), M80 w m (rgW t m f 3)) = (TC f 3 (rowC (rgT t m f 3) 8) ((3 + 8 : Nat) : Int), M80 w m (rgW t m f 3)), wfS (TC f 3 (rowC (rgT t m f 3) 8) ((3 + 8 : Nat) : Int)) (M80 w m (rgW t m f 3)) = true], .normal, TD80 f ((3 + 1 : Nat) : Int), M80 w m (rgN t m f 3)) := by kernel_rfl
theorem run80_4 (w m t : Nat → Nat) (f : Nat) : runTo (ER80 w m t f 4) 1000 (E80.S 144) (bodyOf Tryz.prog 144 7) (TD80 f ((4 : Nat) : Int)) (M80 w m t) [] (TD80 f ((4 + 1 : Nat) : Int)) 4 =
  some ([bodyOf Tryz.prog 144 18 = bodyOf Tryz.prog 144 18, (TC f 4 (rowC (rgT t m f 4) 8) ((4 + 8 : Nat) : Int), M80 w m (rgW t m f 4)) = (TC f 4 (rowC (rgT t m f 4) 8) ((4 + 8 : Nat) : Int), M80 w m (rgW t m f 4)), wfS (TC f 4 (rowC (rgT t m f 4) 8) ((4 + 8 : Nat) : Int)) (M80 w m (rgW t m f 4)) = true], .normal, TD80 f ((4 + 1 : Nat) : Int), M80 w m (rgN t m f 4)) := by kernel_rfl
theorem run80_5 (w m t : Nat → Nat) (f : Nat) : runTo (ER80 w m t f 5) 1000 (E80.S 144) (bodyOf Tryz.prog 144 7) (TD80 f ((5 : Nat) : Int)) (M80 w m t) [] (TD80 f ((5 + 1 : Nat) : Int)) 4 =
  some ([bodyOf Tryz.prog 144 18 = bodyOf Tryz.prog 144 18, (TC f 5 (rowC (rgT t m f 5) 8) ((5 + 8 : Nat) : Int), M80 w m (rgW t m f 5)) = (TC f 5 (rowC (rgT t m f 5) 8) ((5 + 8 : Nat) : Int), M80 w m (rgW t m f 5)), wfS (TC f 5 (rowC (rgT t m f 5) 8) ((5 + 8 : Nat) : Int)) (M80 w m (rgW t m f 5)) = true], .normal, TD80 f ((5 + 1 : Nat) : Int), M80 w m (rgN t m f 5)) := by kernel_rfl
theorem run80_6 (w m t : Nat → Nat) (f : Nat) : runTo (ER80 w m t f 6) 1000 (E80.S 144) (bodyOf Tryz.prog 144 7) (TD80 f ((6 : Nat) : Int)) (M80 w m t) [] (TD80 f ((6 + 1 : Nat) : Int)) 4 =
  some ([bodyOf Tryz.prog 144 18 = bodyOf Tryz.prog 144 18, (TC f 6 (rowC (rgT t m f 6) 8) ((6 + 8 : Nat) : Int), M80 w m (rgW t m f 6)) = (TC f 6 (rowC (rgT t m f 6) 8) ((6 + 8 : Nat) : Int), M80 w m (rgW t m f 6)), wfS (TC f 6 (rowC (rgT t m f 6) 8) ((6 + 8 : Nat) : Int)) (M80 w m (rgW t m f 6)) = true], .normal, TD80 f ((6 + 1 : Nat) : Int), M80 w m (rgN t m f 6)) := by kernel_rfl
theorem run80_7 (w m t : Nat → Nat) (f : Nat) : runTo (ER80 w m t f 7) 1000 (E80.S 144) (bodyOf Tryz.prog 144 7) (TD80 f ((7 : Nat) : Int)) (M80 w m t) [] (TD80 f ((7 + 1 : Nat) : Int)) 4 =
  some ([bodyOf Tryz.prog 144 18 = bodyOf Tryz.prog 144 18, (TC f 7 (rowC (rgT t m f 7) 8) ((7 + 8 : Nat) : Int), M80 w m (rgW t m f 7)) = (TC f 7 (rowC (rgT t m f 7) 8) ((7 + 8 : Nat) : Int), M80 w m (rgW t m f 7)), wfS (TC f 7 (rowC (rgT t m f 7) 8) ((7 + 8 : Nat) : Int)) (M80 w m (rgW t m f 7)) = true], .normal, TD80 f ((7 + 1 : Nat) : Int), M80 w m (rgN t m f 7)) := by kernel_rfl
theorem run80_8 (w m t : Nat → Nat) (f : Nat) : runTo E80 1000 (E80.S 144) (bodyOf Tryz.prog 144 7) (TD80 f ((8 : Nat) : Int)) (M80 w m t) [] (TD80 f ((8 : Nat) : Int)) 4 =
  some ([], .exit 2, TD80 f ((8 : Nat) : Int), M80 w m t) := by kernel_rfl
end Go.Ev

namespace Go.Ev
open Go Go.Proofs Go.RowKit
def cpU (w : Nat → Nat) (j : Nat) : Nat := match Nat.blt j 16 with | true => w j | false => 0
def rgS (w m : Nat → Nat) (f : Nat) : Nat → Nat → Nat
 | 0 => cpU w
 | i + 1 => rgN (rgS w m f i) m f i
theorem loop80 (w m : Nat → Nat) (f : Nat) : Goes Tryz.prog (.loop (bodyOf Tryz.prog 144 7)) (.exit 2) (TD80 f ((0 : Nat) : Int)) (M80 w m (cpU w)) (TD80 f ((8 : Nat) : Int)) (M80 w m (rgS w m f 8)) := by
 refine loop_goes (N := 8) (k := 4) (T := fun k => TD80 f (k : Int)) (M := fun k => M80 w m (rgS w m f k)) (by simp) (fun _ _ => by simp only [M80, List.length_cons, List.length_nil]) (fun k hk => ?_) ?_
 ·have : Goes Tryz.prog (bodyOf Tryz.prog 144 7) .normal (TD80 f (k : Int)) (M80 w m (rgS w m f k)) (TD80 f ((k + 1 : Nat) : Int)) (M80 w m (rgN (rgS w m f k) m f k)) := by
   have hw1 := wfTC w m (rgW (rgS w m f k) m f k) f k (rowC (rgT (rgS w m f k) m f k) 8) ((k + 8 : Nat) : Int)
   have hw2 := wfTD80 w m (rgN (rgS w m f k) m f k) f ((k + 1 : Nat) : Int)
   have hE := envER80 w m (rgS w m f k) f k (by omega)
   generalize rgS w m f k = t at *
   have h8 : k = 0 ∨ k = 1 ∨ k = 2 ∨ k = 3 ∨ k = 4 ∨ k = 5 ∨ k = 6 ∨ k = 7 := by omega
   rcases h8 with rfl | rfl | rfl | rfl | rfl | rfl | rfl | rfl
   ·exact Runs.goes hE ⟨[], _, run80_0 w m t f, ⟨rfl, rfl, hw1, trivial⟩, hw2⟩
   ·exact Runs.goes hE ⟨[], _, run80_1 w m t f, ⟨rfl, rfl, hw1, trivial⟩, hw2⟩
   ·exact Runs.goes hE ⟨[], _, run80_2 w m t f, ⟨rfl, rfl, hw1, trivial⟩, hw2⟩
   ·exact Runs.goes hE ⟨[], _, run80_3 w m t f, ⟨rfl, rfl, hw1, trivial⟩, hw2⟩
   ·exact Runs.goes hE ⟨[], _, run80_4 w m t f, ⟨rfl, rfl, hw1, trivial⟩, hw2⟩
   ·exact Runs.goes hE ⟨[], _, run80_5 w m t f, ⟨rfl, rfl, hw1, trivial⟩, hw2⟩
   ·exact Runs.goes hE ⟨[], _, run80_6 w m t f, ⟨rfl, rfl, hw1, trivial⟩, hw2⟩
   ·exact Runs.goes hE ⟨[], _, run80_7 w m t f, ⟨rfl, rfl, hw1, trivial⟩, hw2⟩
  exact this
 ·exact Runs.goes envE80 ⟨[], _, run80_8 w m _ f, trivial, wfTD80 _ _ _ _ _⟩
theorem rg_sum {u w b d : Nat → Nat} {x c i : Nat} (n : Nat) (h1 : ∀ j, j < i → u j = w j) (h2 : ∀ k, k < n → u (k + i) = d k)
  (hs : valU n 0 d + 4294967296 ^ n * c = x * valU n 0 b + valU n i w) : valU (i + n) 0 u + 4294967296 ^ (i + n) * c = valU (i + n) 0 w + 4294967296 ^ i * (x * valU n 0 b) := by
 have e1 : valU i 0 u = valU i 0 w := valU_congr i 0 (fun j _ hj => h1 j (by omega))
 have e2 : valU n i u = valU n 0 d := by
  have := valU_shift u i n 0
  rw [Nat.zero_add] at this
  rw [← this]
  exact valU_congr n 0 (fun k _ hk => h2 k (by omega))
 rw [valU_split u i n 0, valU_split w i n 0, Nat.zero_add, e1, e2, Nat.pow_add, Nat.mul_assoc, Nat.add_assoc, ← Nat.mul_add, hs, Nat.mul_add]
 omega
theorem rgT_eq {t m : Nat → Nat} {f i : Nat} (ht : ∀ k, t k < 4294967296) (hm : ∀ k, m k < 4294967296) (c k : Nat) (hc : c < 4294967296) : rgT t m f i c k = c + (t i * f % 4294967296) * m k + t (i + k) := by
 have hq : t i * f % 4294967296 < 4294967296 := Nat.mod_lt _ (by decide)
 have h := (T_eq hq (hm k) (ht (i + k)) hc).2.1
 rw [← h]
 unfold rgT T80
 rfl
theorem rgC_lt {t m : Nat → Nat} {f i : Nat} (ht : ∀ k, t k < 4294967296) (hm : ∀ k, m k < 4294967296) (k : Nat) : rowC (rgT t m f i) k < 4294967296 :=
 rowC_lt (x := t i * f % 4294967296) (Nat.mod_lt _ (by decide)) hm ht (fun c k hc => rgT_eq ht hm c k hc) k
theorem rgW_lt {t m : Nat → Nat} {f i : Nat} (ht : ∀ k, t k < 4294967296) (j : Nat) : rgW t m f i j < 4294967296 := by
 unfold rgW
 split
 ·exact ht j
 ·split
  ·exact Nat.mod_lt _ (by decide)
  ·exact ht j
theorem rg_row {t m : Nat → Nat} {f i : Nat} (ht : ∀ k, t k < 4294967296) (hm : ∀ k, m k < 4294967296) (hi : i ≤ 8) :
  valU 17 0 (rgW t m f i) + 4294967296 ^ (i + 8) * rowC (rgT t m f i) 8 = valU 17 0 t + 4294967296 ^ i * ((t i * f % 4294967296) * valU 8 0 m) := by
 have hr := rg_sum (u := rgW t m f i) (w := t) (b := m) (d := fun k => rgT t m f i (rowC (rgT t m f i) k) k % 4294967296) (c := rowC (rgT t m f i) 8) (i := i) 8
  (fun j hj => by unfold rgW; rw [blt_t hj])
  (fun k hk => by
   unfold rgW
   rw [blt_f (show ¬ k + i < i by omega), blt_t (show k + i < i + 8 by omega), Nat.add_sub_cancel])
  (rowC_sum (Nat.mod_lt _ (by decide)) hm ht (fun c k hc => rgT_eq ht hm c k hc) 8)
 have s1 := valU_split (rgW t m f i) (i + 8) (9 - i) 0
 have s2 := valU_split t (i + 8) (9 - i) 0
 rw [show i + 8 + (9 - i) = 17 by omega, Nat.zero_add] at s1 s2
 have s3 : valU (9 - i) (i + 8) (rgW t m f i) = valU (9 - i) (i + 8) t := valU_congr _ _ (fun j hj _ => by
  unfold rgW
  rw [blt_f (show ¬ j < i by omega), blt_f (show ¬ j < i + 8 by omega)])
 rw [s3] at s1
 omega
theorem valU_upd (t : Nat → Nat) (v : Nat) : ∀ N k, k < N → valU N 0 (updN t k v) + 4294967296 ^ k * t k = valU N 0 t + 4294967296 ^ k * v
 | 0, k, h => by omega
 | N + 1, k, h => by
  rw [valU_snoc, valU_snoc, Nat.zero_add]
  by_cases hk : k = N
  ·subst hk
   have e1 : valU k 0 (updN t k v) = valU k 0 t := valU_congr k 0 (fun j _ hj => by
    unfold updN
    rw [show Nat.beq j k = false from by rw [Bool.eq_false_iff]; intro h'; have := Nat.eq_of_beq_eq_true h'; omega])
   have e2 : updN t k v k = v := by unfold updN; rw [Nat.beq_refl]
   rw [e1, e2]; omega
  ·have ih := valU_upd t v N k (by omega)
   have e2 : updN t k v N = t N := by
    unfold updN
    rw [show Nat.beq N k = false from by rw [Bool.eq_false_iff]; intro h'; have := Nat.eq_of_beq_eq_true h'; omega]
   rw [e2]; omega
theorem prop_spec (N : Nat) : ∀ (n : Nat) (t : Nat → Nat) (c k : Nat), (∀ j, t j < 4294967296) → c < 4294967296 → k + n = N → valU N 0 t + 4294967296 ^ k * c < 4294967296 ^ N →
  valU N 0 (prop t c k n) = valU N 0 t + 4294967296 ^ k * c ∧ (∀ j, prop t c k n j < 4294967296) ∧ ∀ j, j < k → prop t c k n j = t j := by
 intro n
 induction n with
 | zero =>
  intro t c k ht _ hk hb
  obtain rfl : k = N := by omega
  have hc0 : c = 0 := by
   rcases c with _ | c
   ·rfl
   ·rw [Nat.mul_succ] at hb; omega
  rw [hc0, Nat.mul_zero, Nat.add_zero]
  exact ⟨rfl, ht, fun _ _ => rfl⟩
 | succ n ih =>
  intro t c k ht hc hk hb
  by_cases h0 : 0 < c
  ·have e : prop t c k (n + 1) = prop (updN t k (prE t c k % 4294967296)) (prE t c k / 4294967296) (k + 1) n := by
    rw [prop, decide_eq_true h0]
   have htk := ht k
   have hE : prE t c k = c + t k := by unfold prE; omega
   rw [e, hE]
   have hu := valU_upd t ((c + t k) % 4294967296) N k (by omega)
   have hpk : 4294967296 ^ k * ((c + t k) % 4294967296) + 4294967296 ^ (k + 1) * ((c + t k) / 4294967296) = 4294967296 ^ k * c + 4294967296 ^ k * t k := by
    rw [Nat.pow_succ, Nat.mul_assoc, ← Nat.mul_add, Nat.mod_add_div, Nat.mul_add]
   have hv : valU N 0 (updN t k ((c + t k) % 4294967296)) + 4294967296 ^ (k + 1) * ((c + t k) / 4294967296) = valU N 0 t + 4294967296 ^ k * c := by omega
   have hd : ∀ j, updN t k ((c + t k) % 4294967296) j < 4294967296 := fun j => by
    unfold updN
    split
    ·exact Nat.mod_lt _ (by decide)
    ·exact ht j
   obtain ⟨h1, h2, h3⟩ := ih (updN t k ((c + t k) % 4294967296)) ((c + t k) / 4294967296) (k + 1) hd (by omega) (by omega) (by rw [hv]; exact hb)
   refine ⟨by rw [h1, hv], h2, fun j hj => ?_⟩
   rw [h3 j (by omega)]
   unfold updN
   rw [show Nat.beq j k = false from by rw [Bool.eq_false_iff]; intro h'; have := Nat.eq_of_beq_eq_true h'; omega]
  ·have e : prop t c k (n + 1) = t := by
    rw [prop, decide_eq_false h0]
   have hc0 : c = 0 := by omega
   rw [e, hc0, Nat.mul_zero, Nat.add_zero]
   exact ⟨rfl, ht, fun _ _ => rfl⟩
theorem rgS_spec {V m f : Nat} (hV : V < 4294967296 ^ 16) (hm : m < 4294967296 ^ 8) (hf : goodF m f) : ∀ i, i ≤ 8 →
  (∀ k, rgS (limb V) (limb m) f i k < 4294967296) ∧ (∀ j, j < i → rgS (limb V) (limb m) f i j = 0) ∧ ∃ Q, Q < 4294967296 ^ i ∧ valU 17 0 (rgS (limb V) (limb m) f i) = V + Q * m
 | 0, _ => by
  refine ⟨fun k => ?_, fun j hj => by omega, 0, by simp, ?_⟩
  ·show cpU (limb V) k < 4294967296
   unfold cpU; split
   ·exact limb_lt _ _
   ·decide
  ·show valU 17 0 (cpU (limb V)) = V + 0 * m
   rw [valU_snoc, show cpU (limb V) (0 + 16) = 0 from rfl, Nat.mul_zero, Nat.add_zero, valU_congr (v := limb V) 16 0 (fun i _ hi => by unfold cpU; rw [blt_t (by omega)]), valU_num V 16 hV]
   omega
 | i + 1, hi => by
  obtain ⟨h1, h2, Q, h3, h4⟩ := rgS_spec hV hm hf i (by omega)
  rw [show rgS (limb V) (limb m) f (i + 1) = rgN (rgS (limb V) (limb m) f i) (limb m) f i from rfl]
  generalize rgS (limb V) (limb m) f i = t at *
  have hr := rg_row (f := f) (i := i) h1 (limb_lt m) (by omega)
  rw [valU_num m 8 hm, h4] at hr
  have hq : t i * f % 4294967296 < 4294967296 := Nat.mod_lt _ (by decide)
  have h6 : 4294967296 ^ i * (t i * f % 4294967296 + 1) ≤ 4294967296 ^ i * 4294967296 := Nat.mul_le_mul_left _ hq
  rw [Nat.mul_succ] at h6
  have hQ : Q + 4294967296 ^ i * (t i * f % 4294967296) < 4294967296 ^ (i + 1) := by rw [Nat.pow_succ]; omega
  have htot : V + Q * m + 4294967296 ^ i * (t i * f % 4294967296 * m) = V + (Q + 4294967296 ^ i * (t i * f % 4294967296)) * m := by rw [Nat.add_mul, Nat.mul_assoc]; omega
  rw [htot] at hr
  have hle : 4294967296 ^ (i + 1) ≤ 4294967296 ^ 8 := Nat.pow_le_pow_right (by decide) hi
  have hQm : (Q + 4294967296 ^ i * (t i * f % 4294967296)) * m ≤ 4294967296 ^ 8 * 4294967296 ^ 8 := Nat.mul_le_mul (by omega) (by omega)
  obtain ⟨p1, p2, p3⟩ := prop_spec 17 (9 - i) (rgW t (limb m) f i) (rowC (rgT t (limb m) f i) 8) (i + 8) (rgW_lt h1) (rgC_lt h1 (limb_lt m) 8) (by omega) (by rw [hr]; omega)
  refine ⟨p2, ?_, Q + 4294967296 ^ i * (t i * f % 4294967296), hQ, ?_⟩
  ·intro j hj
   unfold rgN
   rw [p3 j (by omega)]
   unfold rgW
   by_cases hji : j = i
   ·subst hji
    rw [blt_f (show ¬ j < j by omega), blt_t (show j < j + 8 by omega), Nat.sub_self]
    simp only
    rw [rgT_eq h1 (limb_lt m) _ _ (by simp [rowC])]
    simp only [rowC, Nat.zero_add, Nat.add_zero]
    have h7 : (t j * f % 4294967296 * limb m 0 + t j) % 4294967296 = (t j * (limb m 0 * f + 1)) % 4294967296 := by
     rw [Nat.add_mod, Nat.mod_mul_mod, ← Nat.add_mod, Nat.mul_add, Nat.mul_one, Nat.mul_assoc, Nat.mul_comm f (limb m 0)]
    rw [h7, Nat.mul_mod, show (limb m 0 * f + 1) % 4294967296 = 0 from hf, Nat.mul_zero, Nat.zero_mod]
   ·rw [blt_t (show j < i by omega)]
    exact h2 j (by omega)
  ·show valU 17 0 (prop _ _ _ _) = _
   rw [p1, hr]
def highT (t : Nat → Nat) (i : Nat) : Nat := t (i + 8)
noncomputable def ED80 (w m : Nat → Nat) (f : Nat) : Env := { E80 with lp := fun j => match Nat.beq j 7 with
  | true => some (bodyOf Tryz.prog 144 7, sumC (TD80 f ((0 : Nat) : Int)) (M80 w m (cpU w)) (TD80 f ((8 : Nat) : Int)) (M80 w m (rgS w m f 8)) (.exit 2))
  | false => none }
theorem envED80 (w m : Nat → Nat) (f : Nat) : EnvOK (ED80 w m f) := envEL1 envE80 (sumC_ok (by simp only [M80, List.length_cons]) (loop80 w m f))
def obT (w m : Nat → Nat) (f : Nat) : List Prop := [bodyOf Tryz.prog 144 7 = bodyOf Tryz.prog 144 7, (TD80 f ((0 : Nat) : Int), M80 w m (cpU w)) = (TD80 f ((0 : Nat) : Int), M80 w m (cpU w)), wfS (TD80 f ((0 : Nat) : Int)) (M80 w m (cpU w)) = true]
def H80 (w m : Nat → Nat) (f : Nat) : Nat := valU 8 0 (highT (rgS w m f 8))
theorem run80a (w m : Nat → Nat) (f : Nat) : callR (ED80 w m f) 1000 144 [C16 w, C8 m, u32 f] [true] = some (obT w m f ++ ((decide (rgS w m f 8 16 = 1) = true) :: (lt8 (highT (rgS w m f 8)) ++ lt8 m)), .val (N8 (subN (H80 w m f) (M72 m)))) := by kernel_rfl
theorem run80b (w m : Nat → Nat) (f : Nat) : callR (ED80 w m f) 1000 144 [C16 w, C8 m, u32 f] [false, false] = some (obT w m f ++ ((decide (rgS w m f 8 16 = 1) = false) :: (decide (H80 w m f < M72 m) = false) :: (lt8 (highT (rgS w m f 8)) ++ (lt8 m ++ (lt8 (highT (rgS w m f 8)) ++ lt8 m)))), .val (N8 (subN (H80 w m f) (M72 m)))) := by kernel_rfl
theorem run80n (w m : Nat → Nat) (f : Nat) : callR (ED80 w m f) 1000 144 [C16 w, C8 m, u32 f] [false, true] = some (obT w m f ++ ((decide (rgS w m f 8 16 = 1) = false) :: (decide (H80 w m f < M72 m) = true) :: (lt8 (highT (rgS w m f 8)) ++ lt8 m)), .val (C8 (highT (rgS w m f 8)))) := by kernel_rfl
theorem spec80 (V m f : Nat) (hV : V < 4294967296 ^ 16) (hR : m < 4294967296 ^ 8) (hm : 0 < m) (hf : goodF m f) (hVm : V < m * 4294967296 ^ 8) : Spec 144 [N16 V, N8 m, u32 f] (.val (N8 (mredN V m))) := by
 obtain ⟨h1, h2, Q, h3, h4⟩ := rgS_spec hV hR hf 8 (Nat.le_refl _)
 have hM : M72 (limb m) = m := valU_num m 8 hR
 have hH : H80 (limb V) (limb m) f < 4294967296 ^ 8 := valU_lt _ 8 0 (fun i _ _ => h1 _)
 have hob : All (obT (limb V) (limb m) f) := ⟨rfl, rfl, wfTD80 _ _ _ _ _, trivial⟩
 have hl1 : All (lt8 (highT (rgS (limb V) (limb m) f 8))) := lt8_ok (fun k => h1 _)
 have hl2 := lt8_ok (limb_lt m)
 have hQm : Q * m ≤ 4294967296 ^ 8 * m := Nat.mul_le_mul_right _ (Nat.le_of_lt h3)
 have h5 : 4294967296 ^ 8 * (H80 (limb V) (limb m) f + 4294967296 ^ 8 * rgS (limb V) (limb m) f 8 16) = V + Q * m := by
  rw [← h4]
  have s := valU_split (rgS (limb V) (limb m) f 8) 8 9 0
  rw [show 8 + 9 = 17 from rfl, Nat.zero_add, valU_congr (v := fun _ => 0) 8 0 (fun j _ hj => h2 j (by omega)), valU_zero, Nat.zero_add] at s
  rw [s, valU_snoc, show 8 + 8 = 16 from rfl]
  have hh := valU_shift (rgS (limb V) (limb m) f 8) 8 8 0
  rw [Nat.zero_add] at hh
  rw [← hh]
  rfl
 rw [Nat.mul_comm m] at hVm
 have ht : H80 (limb V) (limb m) f + 4294967296 ^ 8 * rgS (limb V) (limb m) f 8 16 < 2 * m := by omega
 have ho : rgS (limb V) (limb m) f 8 16 ≤ 1 := by omega
 have hcg : Cg m (4294967296 ^ 8 * (H80 (limb V) (limb m) f + 4294967296 ^ 8 * rgS (limb V) (limb m) f 8 16)) V := by
  unfold Cg; rw [h5, Nat.add_mul_mod_self_right]
 have conv : ∀ r, Spec 144 [C16 (limb V), C8 (limb m), u32 f] (.val (N8 r)) → r = mredN V m → Spec 144 [N16 V, N8 m, u32 f] (.val (N8 (mredN V m))) := by
  intro r hr e
  rw [← e]
  exact hr.congr (fun φ => by simp only [List.map_cons, List.map_nil, conc_C8, conc_C16]) (fun _ => rfl)
 have sub : ∀ t, t < 2 * m → m ≤ t → Cg m (4294967296 ^ 8 * t) V → t - m = mredN V m := by
  intro t ht hmt hc
  refine mred_eq hR hf (by omega) (Cg.trans ?_ hc)
  unfold Cg
  rw [show t = (t - m) + m by omega, Nat.mul_add, Nat.add_sub_cancel, Nat.add_mul_mod_self_right]
 by_cases hk : rgS (limb V) (limb m) f 8 16 = 1
 ·refine conv _ (spec_run (envED80 _ _ _) rfl (run80a _ _ _) ?_ rfl rfl) ?_
  ·simp only [All_append, All]
   exact ⟨hob, decide_eq_true hk, hl1, hl2⟩
  ·rw [← sub _ ht (by rw [hk]; omega) hcg, hM, hk]
   unfold subN
   omega
 ·have hk0 : rgS (limb V) (limb m) f 8 16 = 0 := by omega
  rw [hk0, Nat.mul_zero, Nat.add_zero] at ht hcg
  by_cases hc : H80 (limb V) (limb m) f < m
  ·have hs := spec_run (envED80 _ _ _) rfl (run80n (limb V) (limb m) f) (by
    simp only [All_append, All]
    exact ⟨hob, decide_eq_false hk, decide_eq_true (by rw [hM]; exact hc), hl1, hl2⟩) rfl rfl
   refine conv _ (hs.congr (fun _ => rfl) (fun φ => ?_)) (mred_eq hR hf hc hcg)
   exact conc_C8v φ (fun i _ => h1 _) rfl
  ·refine conv _ (spec_run (envED80 _ _ _) rfl (run80b _ _ _) ?_ rfl rfl) ?_
   ·simp only [All_append, All]
    exact ⟨hob, decide_eq_false hk, decide_eq_false (by rw [hM]; exact hc), hl1, hl2, hl1, hl2⟩
   ·rw [← sub _ ht (by omega) hcg, hM]
    unfold subN
    omega
noncomputable def fn80 (vs : List V1) : Option (List Prop × AV) :=
 match vs with
 | [x, y, .one (.u .u32 f)] => match numP 16 x, numP 8 y with
  | some (o, V), some (o', m) => some ((0 < m) :: goodF m f :: (V < m * 4294967296 ^ 8) :: (o ++ o'), .val (N8 (mredN V m)))
  | _, _ => none
 | _ => none
theorem fn80_ok {vs : List V1} {ob : List Prop} {r : AV} (h : fn80 vs = some (ob, r)) (ho : All ob) : Spec 144 vs r := by
 unfold fn80 at h
 split at h
 ·rename_i x y f
  split at h
  ·rename_i o V o' m hx hy
   simp only [Option.some.injEq, Prod.mk.injEq] at h
   obtain ⟨rfl, rfl⟩ := h
   obtain ⟨g1, g2, g3, g4⟩ := ho
   rw [All_append] at g4
   obtain ⟨h1, h2⟩ := numP_spec hx g4.1
   obtain ⟨h3, h4⟩ := numP_spec hy g4.2
   exact (spec80 V m f h1 h3 g1 g2 g3).congr (fun φ => by simp only [List.map_cons, List.map_nil]; rw [← h2 φ, ← h4 φ]; rfl) (fun _ => rfl)
  ·simp at h
 ·simp at h
end Go.Ev

namespace Go.Ev
open Go Go.Proofs Go.RowKit
def facQ (low : Nat) : Nat → Nat
 | 0 => 1
 | k + 1 => facQ low k * ((2 + (4294967296 - low * facQ low k % 4294967296 % 4294967296)) % 4294967296) % 4294967296
def facR (low : Nat) : Nat := (4294967296 - facQ low 5 % 4294967296) % 4294967296
theorem run86 (m : Nat → Nat) : callR E0 1000 85 [C8 m] [] = some ([], .val (u32 (facR (m 0)))) := by kernel_rfl
theorem spec86 (m : Nat) : Spec 85 [N8 m] (.val (u32 (facR (limb m 0)))) :=
 (spec_run envE0 rfl (run86 (limb m)) trivial rfl rfl).congr (fun φ => by simp only [List.map_cons, List.map_nil, conc_C8]) (fun _ => rfl)
theorem good_facR {k : Nat} (hk : k < 4) : goodF (modN k) (facR (limb (modN k) 0)) := by
 match k, hk with
 | 0, _ => unfold goodF; decide +kernel
 | 1, _ => unfold goodF; decide +kernel
 | 2, _ => unfold goodF; decide +kernel
 | 3, _ => unfold goodF; decide +kernel
 | n + 4, h => exact absurd h (by omega)
def smU (n i : Nat) : Nat := match Nat.beq i 0 with | true => n | false => 0
theorem run62 (n : Nat) : callR E0 1000 84 [u32 n] [] = some ([], .val (C8 (smU n))) := by kernel_rfl
theorem spec62 (n : Nat) (hn : n < 4294967296) : Spec 84 [u32 n] (.val (N8 n)) :=
 (spec_run envE0 rfl (run62 n) trivial rfl rfl).congr (fun _ => rfl) (fun φ => conc_C8v φ (fun i _ => by
  unfold smU; split
  ·exact hn
  ·decide) (by simp [valU, smU]))
def fn62 (vs : List V1) : Option (List Prop × AV) :=
 match vs with
 | [.one (.u .u32 n)] => some ([n < 4294967296], .val (N8 n))
 | _ => none
theorem fn62_ok {vs : List V1} {ob : List Prop} {r : AV} (h : fn62 vs = some (ob, r)) (ho : All ob) : Spec 84 vs r := by
 unfold fn62 at h
 split at h
 ·simp only [Option.some.injEq, Prod.mk.injEq] at h
  obtain ⟨rfl, rfl⟩ := h
  exact spec62 _ ho.1
 ·simp at h
def d2 (m : Nat) : Nat → Nat
 | 0 => 1
 | j + 1 => 2 * d2 m j % m
theorem d2_cg (m : Nat) : ∀ j, Cg m (d2 m j) (2 ^ j)
 | 0 => Cg.refl _ _
 | j + 1 => by
  have ih := d2_cg m j
  rw [Nat.pow_succ, Nat.mul_comm]
  exact (Cg.mod m _).trans ((Cg.refl m 2).mul ih)
theorem d2_lt {m : Nat} (hm : 1 < m) : ∀ j, d2 m j < m
 | 0 => hm
 | j + 1 => Nat.mod_lt _ (by omega)
def r2N (m : Nat) : Nat := d2 m 512
theorem r2_cg (m : Nat) : Cg m (r2N m) (4294967296 ^ 8 * 4294967296 ^ 8) := by
 have h := d2_cg m (32 * 16)
 rw [two_pow_mul 16, show (4294967296 : Nat) ^ 16 = 4294967296 ^ 8 * 4294967296 ^ 8 from Nat.pow_add 4294967296 8 8] at h
 exact h
noncomputable def E66 : Env := { E0 with
 fn := fun f vs => match f with
  | 58 => fn2 gAdd vs
  | 55 => fn2 gLess vs
  | 59 => fn2 gSub vs
  | 85 => fn1 (fun m => .val (u32 (facR (limb m 0)))) vs
  | 84 => fn62 vs
  | _ => none
 S := fun f t => match f with
  | 57 => memN t [9, 11, 19, 23]
  | _ => false }
theorem envE66 : EnvOK E66 := by
 refine ⟨mixed, ?_, fun _ _ _ _ _ h => by simp [E66, E0] at h, fun _ _ _ h => by simp [E66, E0] at h, fun _ _ _ _ _ _ h => by simp [E66, E0] at h⟩
 intro f vs ob r h ho
 simp only [E66] at h
 split at h
 ·exact fn2_ok spec50 h ho
 ·exact fn2_ok spec57 h ho
 ·exact fn2_ok spec61 h ho
 ·exact fn1_ok (fun a _ => spec86 a) h ho
 ·exact fn62_ok h ho
 ·simp at h
def bZ55 : Blk := ⟨cellsU 17 0 zF, 60, true, false, 0⟩
def TN (j : Int) : List AV := slots 38 [(1, pV 0), (2, pV 1), (3, pV 2), (4, iV j)]
theorem tTN (j : Int) : tmsWf 3 (TN j) = true := by kernel_rfl
def MN (m : Nat) (B : Blk) : List Blk := [b8 m, bZ55, B]
theorem wfTN (m : Nat) {B : Blk} (hB : Free B) (j : Int) : wfS (TN j) (MN m B) = true := wfS_of (by
 intro b hb
 simp only [MN, List.mem_cons, List.not_mem_nil, or_false] at hb
 rcases hb with rfl | rfl | rfl
 ·exact b8_free _
 ·exact fun f => cellsU_free _ f 17 0
 ·exact hB) (tTN j)
theorem run66a (m x j : Nat) : runTo E66 1000 (E66.S 57) (bodyOf Tryz.prog 57 3) (TN (j : Int)) (MN m (b8 x)) [true, true] (TN ((j + 1 : Nat) : Int)) 3 =
  some ([decide ((j : Int) < 512) = true, x < 4294967296 ^ 8, x < 4294967296 ^ 8, decide (addK x x = 1) = true, addN x x < 4294967296 ^ 8, m < 4294967296 ^ 8, inI ((j : Int) + 1)], .normal, TN ((j + 1 : Nat) : Int), MN m (b8 (subN (addN x x) m))) := by kernel_rfl
theorem run66b (m x j : Nat) : runTo E66 1000 (E66.S 57) (bodyOf Tryz.prog 57 3) (TN (j : Int)) (MN m (b8 x)) [true, false, false] (TN ((j + 1 : Nat) : Int)) 3 =
  some ([decide ((j : Int) < 512) = true, x < 4294967296 ^ 8, x < 4294967296 ^ 8, decide (addK x x = 1) = false, decide (addN x x < m) = false, addN x x < 4294967296 ^ 8, m < 4294967296 ^ 8, addN x x < 4294967296 ^ 8, m < 4294967296 ^ 8, inI ((j : Int) + 1)], .normal, TN ((j + 1 : Nat) : Int), MN m (b8 (subN (addN x x) m))) := by kernel_rfl
theorem run66n (m x j : Nat) : runTo E66 1000 (E66.S 57) (bodyOf Tryz.prog 57 3) (TN (j : Int)) (MN m (b8 x)) [true, false, true] (TN ((j + 1 : Nat) : Int)) 3 =
  some ([decide ((j : Int) < 512) = true, x < 4294967296 ^ 8, x < 4294967296 ^ 8, decide (addK x x = 1) = false, decide (addN x x < m) = true, addN x x < 4294967296 ^ 8, m < 4294967296 ^ 8, inI ((j : Int) + 1)], .normal, TN ((j + 1 : Nat) : Int), MN m (b8 (addN x x))) := by kernel_rfl
theorem run66x (m x : Nat) : runTo E66 1000 (E66.S 57) (bodyOf Tryz.prog 57 3) (TN ((512 : Nat) : Int)) (MN m (b8 x)) [false] (TN ((512 : Nat) : Int)) 3 =
  some ([decide (((512 : Nat) : Int) < 512) = false], .exit 0, TN ((512 : Nat) : Int), MN m (b8 x)) := by kernel_rfl
theorem step66 {m j : Nat} (hR : m < 4294967296 ^ 8) (hm : 1 < m) (hj : j < 512) : Goes Tryz.prog (bodyOf Tryz.prog 57 3) .normal (TN (j : Int)) (MN m (b8 (d2 m j))) (TN ((j + 1 : Nat) : Int)) (MN m (b8 (d2 m (j + 1)))) := by
 have hx := d2_lt hm j
 have e : d2 m (j + 1) = 2 * d2 m j % m := rfl
 rw [e]
 generalize d2 m j = x at *
 have o0 : decide ((j : Int) < 512) = true := decide_eq_true (by omega)
 have o1 : inI ((j : Int) + 1) := by unfold inI; omega
 have hx2 : x < 4294967296 ^ 8 := by omega
 by_cases hK : addK x x = 1
 ·have e : subN (addN x x) m = 2 * x % m := by
   unfold addK at hK
   unfold subN addN
   rw [Nat.mod_eq_sub_mod (show 2 * x ≥ m by omega), Nat.mod_eq_of_lt (show 2 * x - m < m by omega)]
   omega
  have hr := run66a m x j
  rw [e] at hr
  exact Runs.goes envE66 ⟨_, _, hr, ⟨o0, hx2, hx2, decide_eq_true hK, addN_lt _ _, hR, o1, trivial⟩, wfTN m (b8_free _) _⟩
 ·have hs : x + x < 4294967296 ^ 8 := by unfold addK at hK; omega
  have ha2 : addN x x = x + x := Nat.mod_eq_of_lt hs
  by_cases hc : x + x < m
  ·have e : addN x x = 2 * x % m := by rw [ha2, Nat.mod_eq_of_lt (show 2 * x < m by omega)]; omega
   have hr := run66n m x j
   have hc' : decide (addN x x < m) = true := by rw [ha2]; exact decide_eq_true hc
   have hl := addN_lt x x
   rw [← e]
   exact Runs.goes envE66 ⟨_, _, hr, ⟨o0, hx2, hx2, decide_eq_false hK, hc', hl, hR, o1, trivial⟩, wfTN m (b8_free _) _⟩
  ·have e : subN (addN x x) m = 2 * x % m := by
    rw [ha2, Nat.mod_eq_sub_mod (show 2 * x ≥ m by omega), Nat.mod_eq_of_lt (show 2 * x - m < m by omega)]
    unfold subN; omega
   have hr := run66b m x j
   rw [e] at hr
   have hc' : decide (addN x x < m) = false := by rw [ha2]; exact decide_eq_false hc
   exact Runs.goes envE66 ⟨_, _, hr, ⟨o0, hx2, hx2, decide_eq_false hK, hc', addN_lt _ _, hR, addN_lt _ _, hR, o1, trivial⟩, wfTN m (b8_free _) _⟩
theorem loop66 {m : Nat} (hR : m < 4294967296 ^ 8) (hm : 1 < m) : Goes Tryz.prog (.loop (bodyOf Tryz.prog 57 3)) (.exit 0) (TN ((0 : Nat) : Int)) (MN m (b8 1)) (TN ((512 : Nat) : Int)) (MN m (b8 (r2N m))) := by
 have := loop_goes (P := Tryz.prog) (y := bodyOf Tryz.prog 57 3) (ex := .exit 0) (N := 512) (k := 3) (T := fun j => TN (j : Int)) (M := fun j => MN m (b8 (d2 m j))) (TF := TN ((512 : Nat) : Int)) (MF := MN m (b8 (d2 m 512))) (by simp) (fun _ _ => by simp only [MN, List.length_cons, List.length_nil])
  (fun j hj => step66 hR hm hj) (Runs.goes envE66 ⟨[false], _, run66x m _, ⟨by decide, trivial⟩, wfTN m (b8_free _) _⟩)
 exact this
noncomputable def E66x (m : Nat) : Env := { E66 with lp := fun j => match Nat.beq j 3 with
  | true => some (bodyOf Tryz.prog 57 3, sumC (TN ((0 : Nat) : Int)) (MN m (b8 1)) (TN ((512 : Nat) : Int)) (MN m (b8 (r2N m))) (.exit 0))
  | false => none }
theorem envE66x {m : Nat} (hR : m < 4294967296 ^ 8) (hm : 1 < m) : EnvOK (E66x m) := envEL1 envE66 (sumC_ok (by simp only [MN, List.length_cons]) (loop66 hR hm))
def rg (m q r : Nat) : V1 := .agg [.num 8 m, .a (.u .u32 q), .num 8 r]
theorem run66 (m : Nat) : callR (E66x m) 1000 57 [N8 m] [] = some ([1 < 4294967296, bodyOf Tryz.prog 57 3 = bodyOf Tryz.prog 57 3, (TN ((0 : Nat) : Int), MN m (b8 1)) = (TN ((0 : Nat) : Int), MN m (b8 1)), wfS (TN ((0 : Nat) : Int)) (MN m (b8 1)) = true, m < 4294967296 ^ 8], .val (rg m (facR (limb m 0)) (r2N m))) := by kernel_rfl
theorem spec66 (m : Nat) (hR : m < 4294967296 ^ 8) (hm : 1 < m) : Spec 57 [N8 m] (.val (rg m (facR (limb m 0)) (r2N m))) :=
 spec_run (envE66x hR hm) rfl (run66 m) ⟨by decide, rfl, rfl, wfTN m (b8_free _) _, hR, trivial⟩ rfl rfl
def okR (m q r : Nat) : Prop := m < 4294967296 ^ 8 ∧ goodF m q ∧ r < m ∧ Cg m r (4294967296 ^ 8 * 4294967296 ^ 8)
def SpecG (f : FuncId) (g : Nat → Nat → Nat → Nat) : Prop := ∀ m q r a b, okR m q r → a < m → b < m → Spec f [rg m q r, N8 a, N8 b] (.val (N8 (g m a b)))
def fnG (g : Nat → Nat → Nat → Nat) (vs : List V1) : Option (List Prop × AV) :=
 match vs with
 | [.agg [.num 8 m, .a (.u .u32 q), .num 8 r], x, y] => match numP 8 x, numP 8 y with
  | some (o, a), some (o', b) => some (okR m q r :: (a < m) :: (b < m) :: (o ++ o'), .val (N8 (g m a b)))
  | _, _ => none
 | _ => none
theorem fnG_ok {f : FuncId} {g : Nat → Nat → Nat → Nat} (hg : SpecG f g) {vs : List V1} {ob : List Prop} {r : AV} (h : fnG g vs = some (ob, r)) (ho : All ob) : Spec f vs r := by
 unfold fnG at h
 split at h
 ·rename_i m q r x y
  split at h
  ·rename_i o a o' b hx hy
   simp only [Option.some.injEq, Prod.mk.injEq] at h
   obtain ⟨rfl, rfl⟩ := h
   obtain ⟨h0, h1, h2, h3⟩ := ho
   rw [All_append] at h3
   obtain ⟨_, h4⟩ := numP_spec hx h3.1
   obtain ⟨_, h5⟩ := numP_spec hy h3.2
   exact (hg m q r a b h0 h1 h2).congr (fun φ => by simp only [List.map_cons, List.map_nil]; rw [← h4 φ, ← h5 φ]; rfl) (fun _ => rfl)
  ·simp at h
 ·simp at h
def SpecG1 (f : FuncId) (g : Nat → Nat → Nat) : Prop := ∀ m q r a, okR m q r → a < m → Spec f [rg m q r, N8 a] (.val (N8 (g m a)))
def fnG1 (g : Nat → Nat → Nat) (vs : List V1) : Option (List Prop × AV) :=
 match vs with
 | [.agg [.num 8 m, .a (.u .u32 q), .num 8 r], x] => match numP 8 x with
  | some (o, a) => some (okR m q r :: (a < m) :: o, .val (N8 (g m a)))
  | _ => none
 | _ => none
theorem fnG1_ok {f : FuncId} {g : Nat → Nat → Nat} (hg : SpecG1 f g) {vs : List V1} {ob : List Prop} {r : AV} (h : fnG1 g vs = some (ob, r)) (ho : All ob) : Spec f vs r := by
 unfold fnG1 at h
 split at h
 ·rename_i m q r x
  split at h
  ·rename_i o a hx
   simp only [Option.some.injEq, Prod.mk.injEq] at h
   obtain ⟨rfl, rfl⟩ := h
   obtain ⟨h0, h1, h3⟩ := ho
   obtain ⟨_, h4⟩ := numP_spec hx h3
   exact (hg m q r a h0 h1).congr (fun φ => by simp only [List.map_cons, List.map_nil]; rw [← h4 φ]; rfl) (fun _ => rfl)
  ·simp at h
 ·simp at h
noncomputable def EG1 : Env := { E0 with
 fn := fun f vs => match f with
  | 145 => fn2 gMul vs
  | 144 => fn80 vs
  | 146 => fn2 (fun a b => .val (N16 (joinN a b))) vs
  | 58 => fn2 gAdd vs
  | 55 => fn2 gLess vs
  | 59 => fn2 gSub vs
  | _ => none
 S := fun f t => match f with
  | 35 => memN t [16, 21]
  | 147 => memN t [16]
  | _ => false }
theorem envEG1 : EnvOK EG1 := by
 refine ⟨mixed, ?_, fun _ _ _ _ _ h => by simp [EG1, E0] at h, fun _ _ _ h => by simp [EG1, E0] at h, fun _ _ _ _ _ _ h => by simp [EG1, E0] at h⟩
 intro f vs ob r h ho
 simp only [EG1] at h
 split at h
 ·exact fn2_ok (fun a b ha hb => spec24 a b ha hb) h ho
 ·exact fn80_ok h ho
 ·exact fn2_ok spec47 h ho
 ·exact fn2_ok spec50 h ho
 ·exact fn2_ok spec57 h ho
 ·exact fn2_ok spec61 h ho
 ·simp at h
theorem run67 (m q r a b : Nat) : callR EG1 1000 110 [rg m q r, N8 a, N8 b] [] = some ([a < 4294967296 ^ 8, b < 4294967296 ^ 8, 0 < m, goodF m q, mulN a b < m * 4294967296 ^ 8, mulN a b < 4294967296 ^ 16, m < 4294967296 ^ 8], .val (N8 (mmN m a b))) := by kernel_rfl
theorem spec67 : SpecG 110 mmN := by
 intro m q r a b ⟨hm, hq, _, _⟩ ha hb
 have h1 : mulN a b < m * 4294967296 ^ 8 := by
  unfold mulN
  have h2 : a * b ≤ a * 4294967296 ^ 8 := Nat.mul_le_mul_left _ (by omega)
  have h3 : a * 4294967296 ^ 8 < m * 4294967296 ^ 8 := Nat.mul_lt_mul_of_pos_right ha (by decide)
  omega
 exact spec_run envEG1 rfl (run67 m q r a b) ⟨by omega, by omega, by omega, hq, h1, mulN_lt (by omega) (by omega), hm, trivial⟩ rfl rfl
theorem run58 (m q r a : Nat) : callR EG1 1000 111 [rg m q r, N8 a] [] = some ([a < 4294967296 ^ 8, 0 < 4294967296, 0 < 4294967296, 0 < 4294967296, 0 < 4294967296, 0 < 4294967296, 0 < 4294967296, 0 < 4294967296, 0 < 4294967296, 0 < m, goodF m q, joinN a 0 < m * 4294967296 ^ 8, joinN a 0 < 4294967296 ^ 16, m < 4294967296 ^ 8], .val (N8 (outN m a))) := by kernel_rfl
theorem spec58 : SpecG1 111 outN := by
 intro m q r a ⟨hm, hq, _, _⟩ ha
 have h0 : (0 : Nat) < 4294967296 := by decide
 have h1 : joinN a 0 < m * 4294967296 ^ 8 := by unfold joinN; omega
 exact spec_run envEG1 rfl (run58 m q r a) ⟨by omega, h0, h0, h0, h0, h0, h0, h0, h0, by omega, hq, h1, by unfold joinN; omega, hm, trivial⟩ rfl rfl
theorem run42a (m q r a b : Nat) : callR EG1 1000 35 [rg m q r, N8 a, N8 b] [true] = some ([a < 4294967296 ^ 8, b < 4294967296 ^ 8, decide (addK a b = 1) = true, addN a b < 4294967296 ^ 8, m < 4294967296 ^ 8], .val (N8 (subN (addN a b) m))) := by kernel_rfl
theorem run42b (m q r a b : Nat) : callR EG1 1000 35 [rg m q r, N8 a, N8 b] [false, false] = some ([a < 4294967296 ^ 8, b < 4294967296 ^ 8, decide (addK a b = 1) = false, decide (addN a b < m) = false, addN a b < 4294967296 ^ 8, m < 4294967296 ^ 8, addN a b < 4294967296 ^ 8, m < 4294967296 ^ 8], .val (N8 (subN (addN a b) m))) := by kernel_rfl
theorem run42n (m q r a b : Nat) : callR EG1 1000 35 [rg m q r, N8 a, N8 b] [false, true] = some ([a < 4294967296 ^ 8, b < 4294967296 ^ 8, decide (addK a b = 1) = false, decide (addN a b < m) = true, addN a b < 4294967296 ^ 8, m < 4294967296 ^ 8], .val (N8 (addN a b))) := by kernel_rfl
theorem run43a (m q r a b : Nat) : callR EG1 1000 147 [rg m q r, N8 a, N8 b] [true] = some ([a < 4294967296 ^ 8, b < 4294967296 ^ 8, decide (subK a b = 1) = true, subN a b < 4294967296 ^ 8, m < 4294967296 ^ 8], .val (N8 (addN (subN a b) m))) := by kernel_rfl
theorem run43n (m q r a b : Nat) : callR EG1 1000 147 [rg m q r, N8 a, N8 b] [false] = some ([a < 4294967296 ^ 8, b < 4294967296 ^ 8, decide (subK a b = 1) = false], .val (N8 (subN a b))) := by kernel_rfl
theorem spec42 : SpecG 35 addM := by
 intro m q r a b ⟨hm, _, _, _⟩ ha hb
 have h1 : a < 4294967296 ^ 8 := by omega
 have h2 : b < 4294967296 ^ 8 := by omega
 by_cases hK : addK a b = 1
 ·have e : subN (addN a b) m = addM m a b := by
   unfold addK at hK
   unfold subN addN addM
   rw [Nat.mod_eq_sub_mod (show a + b ≥ m by omega), Nat.mod_eq_of_lt (show a + b - m < m by omega)]
   omega
  have := spec_run envEG1 rfl (run42a m q r a b) ⟨h1, h2, decide_eq_true hK, addN_lt _ _, hm, trivial⟩ rfl rfl
  rwa [e] at this
 ·have hs : a + b < 4294967296 ^ 8 := by unfold addK at hK; omega
  have ha2 : addN a b = a + b := Nat.mod_eq_of_lt hs
  by_cases hc : a + b < m
  ·have e : addN a b = addM m a b := by unfold addM; rw [ha2, Nat.mod_eq_of_lt hc]
   have := spec_run envEG1 rfl (run42n m q r a b) ⟨h1, h2, decide_eq_false hK, by rw [ha2]; exact decide_eq_true hc, addN_lt _ _, hm, trivial⟩ rfl rfl
   rwa [e] at this
  ·have e : subN (addN a b) m = addM m a b := by
    unfold addM
    rw [ha2, Nat.mod_eq_sub_mod (show a + b ≥ m by omega), Nat.mod_eq_of_lt (show a + b - m < m by omega)]
    unfold subN; omega
   have := spec_run envEG1 rfl (run42b m q r a b) ⟨h1, h2, decide_eq_false hK, by rw [ha2]; exact decide_eq_false hc, addN_lt _ _, hm, addN_lt _ _, hm, trivial⟩ rfl rfl
   rwa [e] at this
theorem spec43 : SpecG 147 subM := by
 intro m q r a b ⟨hm, _, _, _⟩ ha hb
 have h1 : a < 4294967296 ^ 8 := by omega
 have h2 : b < 4294967296 ^ 8 := by omega
 by_cases hc : a < b
 ·have e : addN (subN a b) m = subM m a b := by
   unfold addN subN subM
   rw [Nat.mod_eq_of_lt (show a + m - b < m by omega)]; omega
  have hk : subK a b = 1 := by unfold subK; rw [if_pos hc]
  have := spec_run envEG1 rfl (run43a m q r a b) ⟨h1, h2, decide_eq_true hk, subN_lt _ _, hm, trivial⟩ rfl rfl
  rwa [e] at this
 ·have e : subN a b = subM m a b := by
   unfold subN subM
   rw [Nat.mod_eq_sub_mod (show a + m - b ≥ m by omega), Nat.mod_eq_of_lt (show a + m - b - m < m by omega)]; omega
  have hk : ¬ subK a b = 1 := by unfold subK; rw [if_neg hc]; omega
  have := spec_run envEG1 rfl (run43n m q r a b) ⟨h1, h2, decide_eq_false hk, trivial⟩ rfl rfl
  rwa [e] at this
noncomputable def EG2 : Env := { E0 with
 fn := fun f vs => match f with
  | 110 => fnG mmN vs
  | _ => none }
theorem envEG2 : EnvOK EG2 := by
 refine ⟨mixed, ?_, fun _ _ _ _ _ h => by simp [EG2, E0] at h, fun _ _ _ h => by simp [EG2, E0] at h, fun _ _ _ _ _ _ h => by simp [EG2, E0] at h⟩
 intro f vs ob r h ho
 simp only [EG2] at h
 split at h
 ·exact fnG_ok spec67 h ho
 ·simp at h
theorem run60 (m q r a : Nat) : callR EG2 1000 116 [rg m q r, N8 a] [] = some ([okR m q r, a < m, r < m, a < 4294967296 ^ 8, r < 4294967296 ^ 8], .val (N8 (mmN m a r))) := by kernel_rfl
theorem mm_r2 {m q r a : Nat} (h : okR m q r) : mmN m a r = inN m a := by
 obtain ⟨hR, hq, _, hr⟩ := h
 unfold mmN mredN mulN inN remN joinN
 rw [Nat.zero_add]
 have h1 : Cg m (a * r * rinv m) (a * (4294967296 ^ 8 * 4294967296 ^ 8) * rinv m) := ((Cg.refl m a).mul hr).mul (Cg.refl _ _)
 have h2 : a * (4294967296 ^ 8 * 4294967296 ^ 8) * rinv m = 4294967296 ^ 8 * a * (4294967296 ^ 8 * rinv m) := by
  generalize (4294967296 : Nat) ^ 8 = R
  ac_rfl
 have h3 : Cg m (4294967296 ^ 8 * a * (4294967296 ^ 8 * rinv m)) (4294967296 ^ 8 * a * 1) := (Cg.refl _ _).mul (rinv_spec hR hq)
 rw [Nat.mul_one] at h3
 exact h1.trans ((Cg.of_eq h2).trans h3)
theorem spec60 : SpecG1 116 inN := by
 intro m q r a h ha
 have hs := spec_run envEG2 rfl (run60 m q r a) ⟨h, ha, h.2.2.1, by have := h.1; omega, by have := h.1; have := h.2.2.1; omega, trivial⟩ rfl rfl
 rwa [mm_r2 h] at hs
def rgK (k : Nat) : V1 := rg (modN k) (facR (limb (modN k) 0)) (r2N (modN k))
theorem okR_K {k : Nat} (hk : k < 4) : okR (modN k) (facR (limb (modN k) 0)) (r2N (modN k)) :=
 ⟨modN_lt k, good_facR hk, d2_lt (by have := modN_two k; omega) 512, r2_cg _⟩
noncomputable def E41 : Env := { E0 with
 fn := fun f vs => match f with
  | 56 => fnK g21 vs
  | 57 => (match vs with | [x] => (match numP 8 x with | some (o, m) => some ((1 < m) :: o, .val (rg m (facR (limb m 0)) (r2N m))) | _ => none) | _ => none)
  | _ => none }
theorem envE41 : EnvOK E41 := by
 refine ⟨mixed, ?_, fun _ _ _ _ _ h => by simp [E41, E0] at h, fun _ _ _ h => by simp [E41, E0] at h, fun _ _ _ _ _ _ h => by simp [E41, E0] at h⟩
 intro f vs ob r h ho
 simp only [E41] at h
 split at h
 ·exact fnK_ok spec21 h ho
 ·split at h
  ·rename_i x
   split at h
   ·rename_i o m hx
    simp only [Option.some.injEq, Prod.mk.injEq] at h
    obtain ⟨rfl, rfl⟩ := h
    obtain ⟨h1, h2⟩ := numP_spec hx ho.2
    exact (spec66 m h1 ho.1).congr (fun φ => by simp only [List.map_cons, List.map_nil]; rw [← h2 φ]; rfl) (fun _ => rfl)
   ·simp at h
  ·simp at h
 ·simp at h
theorem run41 (k : Nat) : callR E41 1000 34 [kV k] [] = some ([0 ≤ (k : Int) ∧ (k : Int) < 4, 1 < modN k, modN k < 4294967296 ^ 8], .val (rgK k)) := by kernel_rfl
theorem spec41 (k : Nat) (hk : k < 4) : Spec 34 [.one (.i (k : Int))] (.val (rgK k)) :=
 spec_run envE41 rfl (run41 k) ⟨by omega, by have := modN_two k; omega, modN_lt k, trivial⟩ rfl rfl
end Go.Ev

namespace Go.Ev
open Go Go.Proofs Go.RowKit
def modB (z : Int) : Bool := decide (0 ≤ z) && decide (z < 4)
theorem modB_t {z : Int} (h : modB z = true) : 0 ≤ z ∧ z < 4 := by simpa [modB] using h
theorem modB_f {z : Int} (h : modB z = false) : ¬ (0 ≤ z ∧ z < 4) := by
 intro h'; simp [modB, h'.1, h'.2] at h
def lessB (z : Int) (a : Nat) : Bool := decide (a < modN z.toNat)
def ok1 (z : Int) (a : Nat) : Bool := modB z && lessB z a
def zV (z : Int) : V1 := .one (.i z)
noncomputable def E39 : Env := { E0 with
 S := fun f t => match f with
  | 139 => memN t [6, 9, 12, 15]
  | 82 => memN t [6, 10]
  | _ => false }
theorem envE39 : EnvOK E39 := ⟨mixed, fun _ _ _ _ h => by simp [E39, E0] at h, fun _ _ _ _ _ h => by simp [E39, E0] at h, fun _ _ _ h => by simp [E39, E0] at h, fun _ _ _ _ _ _ h => by simp [E39, E0] at h⟩
theorem run39b (z : Int) : callR E39 1000 139 [zV z] [false, false, false, false] = some ([decide (z = 0) = false, decide (z = 1) = false, decide (z = 2) = false, decide (z = 3) = false], .tup [C8 zF, .one (.v (.bool false))]) := by kernel_rfl
def g39b : AV := .tup [N8 0, .one (.v (.bool false))]
theorem conc_zF (φ : Loc) : (C8 zF).conc φ = (N8 0).conc φ := by rw [← limb_zero, conc_C8]
theorem spec39b (z : Int) (h : modB z = false) : Spec 139 [zV z] g39b := by
 have := modB_f h
 refine (spec_run envE39 rfl (run39b z) ⟨decide_eq_false (by omega), decide_eq_false (by omega), decide_eq_false (by omega), decide_eq_false (by omega), trivial⟩ rfl rfl).congr (fun _ => rfl) (fun φ => ?_)
 simp only [g39b, AV.conc, List.map_cons, List.map_nil, conc_zF]
theorem run40a (z : Int) : callR E39 1000 82 [zV z, zV 3] [true, true] = some ([decide (0 ≤ z) = true, decide (z ≤ 3) = true], bV true) := by kernel_rfl
theorem run40b (z : Int) : callR E39 1000 82 [zV z, zV 3] [false] = some ([decide (0 ≤ z) = false], bV false) := by kernel_rfl
theorem run40c (z : Int) : callR E39 1000 82 [zV z, zV 3] [true, false] = some ([decide (0 ≤ z) = true, decide (z ≤ 3) = false], bV false) := by kernel_rfl
theorem spec40 (z : Int) : Spec 82 [zV z, zV 3] (bV (modB z)) := by
 by_cases h1 : 0 ≤ z
 ·by_cases h2 : z ≤ 3
  ·have : modB z = true := by simp [modB]; omega
   rw [this]
   exact spec_run envE39 rfl (run40a z) ⟨decide_eq_true h1, decide_eq_true h2, trivial⟩ rfl rfl
  ·have : modB z = false := by simp [modB]; omega
   rw [this]
   exact spec_run envE39 rfl (run40c z) ⟨decide_eq_true h1, decide_eq_false h2, trivial⟩ rfl rfl
 ·have : modB z = false := by simp [modB]; omega
  rw [this]
  exact spec_run envE39 rfl (run40b z) ⟨decide_eq_false h1, trivial⟩ rfl rfl
noncomputable def E19 : Env := { E0 with
 fn := fun f vs => match f with
  | 82 => (match vs with | [.one (.i z), .one (.i y)] => some ([y = 3], bV (modB z)) | _ => none)
  | _ => none }
theorem envE19 : EnvOK E19 := by
 refine ⟨mixed, ?_, fun _ _ _ _ _ h => by simp [E19, E0] at h, fun _ _ _ h => by simp [E19, E0] at h, fun _ _ _ _ _ _ h => by simp [E19, E0] at h⟩
 intro f vs ob r h ho
 simp only [E19] at h
 split at h
 ·split at h
  ·simp only [Option.some.injEq, Prod.mk.injEq] at h
   obtain ⟨rfl, rfl⟩ := h
   obtain ⟨rfl, _⟩ := ho
   exact spec40 _
  ·simp at h
 ·simp at h
theorem run19 (z : Int) : callR E19 1000 54 [zV z] [] = some ([(3 : Int) = 3], bV (modB z)) := by kernel_rfl
theorem spec19 (z : Int) : Spec 54 [zV z] (bV (modB z)) := spec_run envE19 rfl (run19 z) ⟨rfl, trivial⟩ rfl rfl
theorem MRel.window {w0 w : World} {φ : Loc} {mem : List Blk} (h : MRel w0 φ mem w) {b : Nat} {k : Blk} (hk : mem[b]? = some k) (hl : k.live = true) (hf : Free k) : MRel w (fun _ => φ b) [⟨k.ps, k.elem, true, true, 0⟩] w := by
 have hc : ∀ j v, (concs (fun _ => φ b) k.ps)[j]? = some v → w.cell? ⟨(φ b).1, (φ b).2.1 + j, none⟩ = some v := by
  intro j v hv
  rw [concs_agree (n := 0) (φ := φ) (fun b hb => by omega) k.ps (hf _)] at hv
  exact h.cell hk hl hv
 have one : ∀ (i : Nat) (x : Blk), ([⟨k.ps, k.elem, true, true, 0⟩] : List Blk)[i]? = some x → x = ⟨k.ps, k.elem, true, true, 0⟩ := by
  intro i x hx
  cases i with
  | zero => simpa using hx.symm
  | succ i => simp at hx
 refine ⟨Below.refl _ _, ?_, ?_, ?_, ?_, ?_⟩
 ·intro i j x x' hx _ _ _ hr
  rw [one i x hx] at hr; cases hr
 ·intro i x hx _ hr
  rw [one i x hx] at hr; cases hr
 ·intro i x hx _ _
  rw [one i x hx]
  exact ⟨h.lt hk hl, hc⟩
 ·intro i x hx _ hr
  rw [one i x hx] at hr; cases hr
 ·intro i x hx
  rw [one i x hx]
  exact hf _
theorem calls_of_run {E : Env} (hE : EnvOK E) (hP : E.P = Tryz.prog) {n : Nat} {f : FuncId} {vs : List V1} {M : List Blk} {ob : List Prop} {c c' : List Bool} {r : AV} {mem' : List Blk}
  (h : callBy E (evalC E n) f vs M c = some (ob, c', r, mem')) (ho : All ob) (hr : r.wf 0 = true) {w : World} {φ : Loc} (hm : MRel w φ M w) (hv : ∀ v ∈ vs, v.wf M.length = true) :
  Calls Tryz.prog f (vs.map (V1.conc φ)).toArray w fun e w' => e = .returned (r.conc φ) ∧ Below w.heap.size w w' := by
 have := callBy_ok hE (evalC_ok hE n) _ _ _ _ _ _ _ _ h ho w φ w hm hv
 rw [hP] at this
 refine this.mono ?_
 rintro e w' ⟨φ', rfl, _, _, hm', _⟩
 exact ⟨by rw [AV.conc_agree (n := 0) (fun b hb => by omega) r hr], hm'.below⟩
end Go.Ev

namespace Go.Ev
open Go Go.Proofs Go.RowKit
noncomputable def E82 : Env := { E0 with
 S := fun f t => match f with
  | 114 => memN t [6, 11, 1000006]
  | _ => false }
theorem envE82 : EnvOK E82 := ⟨mixed, fun _ _ _ _ h => by simp [E82, E0] at h, fun _ _ _ _ _ h => by simp [E82, E0] at h, fun _ _ _ h => by simp [E82, E0] at h, fun _ _ _ _ _ _ h => by simp [E82, E0] at h⟩
theorem run82_0 (a : Nat → Nat) (i : Int) : callR E82 1000 114 [C8 a, .one (.i i)] [false] = some ([i.tdiv 32 = ((0 : Nat) : Int), (32 : Int) ≠ 0 ∧ inI (i.tdiv 32), 0 ≤ i.tmod 32], bV (decide (bitE a 0 i = 1))) := by kernel_rfl
theorem run82_1 (a : Nat → Nat) (i : Int) : callR E82 1000 114 [C8 a, .one (.i i)] [true, false] = some ([i.tdiv 32 = ((1 : Nat) : Int), (32 : Int) ≠ 0 ∧ inI (i.tdiv 32), 0 ≤ i.tmod 32], bV (decide (bitE a 1 i = 1))) := by kernel_rfl
theorem run82_2 (a : Nat → Nat) (i : Int) : callR E82 1000 114 [C8 a, .one (.i i)] [true, true, false] = some ([i.tdiv 32 = ((2 : Nat) : Int), (32 : Int) ≠ 0 ∧ inI (i.tdiv 32), 0 ≤ i.tmod 32], bV (decide (bitE a 2 i = 1))) := by kernel_rfl
theorem run82_3 (a : Nat → Nat) (i : Int) : callR E82 1000 114 [C8 a, .one (.i i)] [true, true, true, false] = some ([i.tdiv 32 = ((3 : Nat) : Int), (32 : Int) ≠ 0 ∧ inI (i.tdiv 32), 0 ≤ i.tmod 32], bV (decide (bitE a 3 i = 1))) := by kernel_rfl
theorem run82_4 (a : Nat → Nat) (i : Int) : callR E82 1000 114 [C8 a, .one (.i i)] [true, true, true, true, false] = some ([i.tdiv 32 = ((4 : Nat) : Int), (32 : Int) ≠ 0 ∧ inI (i.tdiv 32), 0 ≤ i.tmod 32], bV (decide (bitE a 4 i = 1))) := by kernel_rfl
theorem run82_5 (a : Nat → Nat) (i : Int) : callR E82 1000 114 [C8 a, .one (.i i)] [true, true, true, true, true, false] = some ([i.tdiv 32 = ((5 : Nat) : Int), (32 : Int) ≠ 0 ∧ inI (i.tdiv 32), 0 ≤ i.tmod 32], bV (decide (bitE a 5 i = 1))) := by kernel_rfl
theorem run82_6 (a : Nat → Nat) (i : Int) : callR E82 1000 114 [C8 a, .one (.i i)] [true, true, true, true, true, true, false] = some ([i.tdiv 32 = ((6 : Nat) : Int), (32 : Int) ≠ 0 ∧ inI (i.tdiv 32), 0 ≤ i.tmod 32], bV (decide (bitE a 6 i = 1))) := by kernel_rfl
theorem run82_7 (a : Nat → Nat) (i : Int) : callR E82 1000 114 [C8 a, .one (.i i)] [true, true, true, true, true, true, true, false] = some ([i.tdiv 32 = ((7 : Nat) : Int), (32 : Int) ≠ 0 ∧ inI (i.tdiv 32), 0 ≤ i.tmod 32], bV (decide (bitE a 7 i = 1))) := by kernel_rfl
theorem spec82 (a i : Nat) (hi : i < 256) : Spec 114 [N8 a, .one (.i (i : Int))] (bV (bitB a i)) := by
 have hb : bitE (limb a) (i / 32) (i : Int) = bitN a i := by
  have := bitE_eq a (i / 32) (i % 32) (by omega)
  rwa [Nat.div_add_mod] at this
 have h1 : ((i : Nat) : Int).tdiv 32 = ((i / 32 : Nat) : Int) := tdiv_cast i
 have h2 : (32 : Int) ≠ 0 ∧ inI (((i : Nat) : Int).tdiv 32) := ⟨by decide, by rw [h1]; unfold inI; omega⟩
 have h3 : 0 ≤ ((i : Nat) : Int).tmod 32 := by rw [tmod_cast]; omega
 have h : Spec 114 [C8 (limb a), .one (.i (i : Int))] (bV (decide (bitE (limb a) (i / 32) (i : Int) = 1))) := by
  have hj : i / 32 < 8 := by omega
  revert h1
  generalize i / 32 = j at hj
  intro h1
  match j, hj with
  | 0, _ => exact spec_run envE82 rfl (run82_0 (limb a) i) ⟨h1, h2, h3, trivial⟩ rfl rfl
  | 1, _ => exact spec_run envE82 rfl (run82_1 (limb a) i) ⟨h1, h2, h3, trivial⟩ rfl rfl
  | 2, _ => exact spec_run envE82 rfl (run82_2 (limb a) i) ⟨h1, h2, h3, trivial⟩ rfl rfl
  | 3, _ => exact spec_run envE82 rfl (run82_3 (limb a) i) ⟨h1, h2, h3, trivial⟩ rfl rfl
  | 4, _ => exact spec_run envE82 rfl (run82_4 (limb a) i) ⟨h1, h2, h3, trivial⟩ rfl rfl
  | 5, _ => exact spec_run envE82 rfl (run82_5 (limb a) i) ⟨h1, h2, h3, trivial⟩ rfl rfl
  | 6, _ => exact spec_run envE82 rfl (run82_6 (limb a) i) ⟨h1, h2, h3, trivial⟩ rfl rfl
  | 7, _ => exact spec_run envE82 rfl (run82_7 (limb a) i) ⟨h1, h2, h3, trivial⟩ rfl rfl
  | n + 8, h => exact absurd h (by omega)
 rw [hb] at h
 exact h.congr (fun φ => by simp only [List.map_cons, List.map_nil, conc_C8]) (fun _ => rfl)
def fn82 (vs : List V1) : Option (List Prop × AV) :=
 match vs with
 | [x, .one (.i z)] => match numP 8 x with
  | some (o, a) => some ((0 ≤ z ∧ z < 256) :: o, bV (bitB a z.toNat))
  | _ => none
 | _ => none
theorem fn82_ok {vs : List V1} {ob : List Prop} {r : AV} (h : fn82 vs = some (ob, r)) (ho : All ob) : Spec 114 vs r := by
 unfold fn82 at h
 split at h
 ·rename_i x z
  split at h
  ·rename_i o a hx
   simp only [Option.some.injEq, Prod.mk.injEq] at h
   obtain ⟨rfl, rfl⟩ := h
   obtain ⟨h1, h2⟩ := ho
   obtain ⟨_, h4⟩ := numP_spec hx h2
   obtain ⟨n, rfl⟩ : ∃ n : Nat, z = (n : Int) := ⟨z.toNat, by omega⟩
   exact (spec82 a n (by omega)).congr (fun φ => by simp only [List.map_cons, List.map_nil]; rw [← h4 φ]; rfl) (fun _ => rfl)
  ·simp at h
 ·simp at h
noncomputable def E81 : Env := { E0 with
 fn := fun f vs => match f with
  | 114 => fn82 vs
  | _ => none
 S := fun f t => match f with
  | 112 => memN t [5, 9, 10, 14]
  | _ => false }
theorem envE81 : EnvOK E81 := by
 refine ⟨mixed, ?_, fun _ _ _ _ _ h => by simp [E81, E0] at h, fun _ _ _ h => by simp [E81, E0] at h, fun _ _ _ _ _ _ h => by simp [E81, E0] at h⟩
 intro f vs ob r h ho
 simp only [E81] at h
 split at h
 ·exact fn82_ok h ho
 ·simp at h
def TL81 (n : Int) : List AV := slots 16 [(1, pV 0), (3, iV n)]
theorem tTL81 (n : Int) : tmsWf 1 (TL81 n) = true := by kernel_rfl
theorem wfTL81 (a : Nat) (n : Int) : wfS (TL81 n) [b8 a] = true := wfS_of (by simp [b8_free]) (tTL81 n)
theorem run81a (a : Nat) (z : Int) : runTo E81 1000 (E81.S 112) (bodyOf Tryz.prog 112 2) (TL81 z) [b8 a] [true, false] (TL81 (z - 1)) 1 =
  some ([decide (0 < z) = true, inI (z - 1), bitB a (z - 1).toNat = false, 0 ≤ z - 1 ∧ z - 1 < 256, a < 4294967296 ^ 8, inI (z - 1)], .normal, TL81 (z - 1), [b8 a]) := by kernel_rfl
theorem run81b (a : Nat) (z : Int) : runTo E81 1000 (E81.S 112) (bodyOf Tryz.prog 112 2) (TL81 z) [b8 a] [true, true] (TL81 z) 1 =
  some ([decide (0 < z) = true, inI (z - 1), bitB a (z - 1).toNat = true, 0 ≤ z - 1 ∧ z - 1 < 256, a < 4294967296 ^ 8], .exit 0, TL81 z, [b8 a]) := by kernel_rfl
theorem run81c (a : Nat) (z : Int) : runTo E81 1000 (E81.S 112) (bodyOf Tryz.prog 112 2) (TL81 z) [b8 a] [false] (TL81 z) 1 =
  some ([decide (0 < z) = false], .exit 0, TL81 z, [b8 a]) := by kernel_rfl
def lenQ (a : Nat) : Nat → Nat
 | 0 => 0
 | n + 1 => match bitB a n with | true => n + 1 | false => lenQ a n
theorem lenQ_spec (a : Nat) : ∀ n, a < 2 ^ n → a < 2 ^ lenQ a n ∧ lenQ a n ≤ n
 | 0, h => ⟨h, Nat.le_refl _⟩
 | n + 1, h => by
  rw [lenQ]
  cases hb : bitB a n with
  | true => exact ⟨h, Nat.le_refl _⟩
  | false =>
   have h0 : bitN a n ≠ 1 := of_decide_eq_false hb
   have h1 := bitN_le a n
   have h2 : a / 2 ^ n % 2 = 0 := by
    unfold bitN at *
    generalize a / 2 ^ n = q at *
    omega
   have h3 : a / 2 ^ n < 2 := by
    rw [Nat.div_lt_iff_lt_mul (Nat.two_pow_pos n), Nat.mul_comm, ← Nat.pow_succ]; exact h
   have h4 : a / 2 ^ n = 0 := by
    generalize a / 2 ^ n = q at *
    omega
   have h5 : a < 2 ^ n := by
    rcases Nat.div_eq_zero_iff.1 h4 with h | h
    ·have := Nat.two_pow_pos n; omega
    ·exact h
   obtain ⟨h6, h7⟩ := lenQ_spec a n h5
   show a < 2 ^ lenQ a n ∧ lenQ a n ≤ n + 1
   exact ⟨h6, by omega⟩
theorem loop81 {a : Nat} (ha : a < 4294967296 ^ 8) : ∀ n, n ≤ 256 → GoesN Tryz.prog (bodyOf Tryz.prog 112 2) (n + 1) (.exit 0) (TL81 (n : Int)) [b8 a] (TL81 (lenQ a n : Int)) [b8 a]
 | 0, _ => GoesN.out (by simp) (Runs.goes envE81 ⟨[false], _, run81c a _, ⟨by decide, trivial⟩, wfTL81 _ _⟩)
 | n + 1, hn => by
  have e1 : ((n + 1 : Nat) : Int) - 1 = (n : Int) := by omega
  have e2 : (((n + 1 : Nat) : Int) - 1).toNat = n := by omega
  have hI : inI (((n + 1 : Nat) : Int) - 1) := by unfold inI; omega
  have h0 : decide (0 < ((n + 1 : Nat) : Int)) = true := decide_eq_true (by omega)
  have hr : 0 ≤ ((n + 1 : Nat) : Int) - 1 ∧ ((n + 1 : Nat) : Int) - 1 < 256 := by omega
  cases hb : bitB a n with
  | true =>
   have e : lenQ a (n + 1) = n + 1 := by rw [lenQ, hb]
   rw [e]
   exact GoesN.out (by simp) (Runs.goes envE81 ⟨[true, true], _, run81b a _, ⟨h0, hI, by rw [e2]; exact hb, hr, ha, trivial⟩, wfTL81 _ _⟩)
  | false =>
   have e : lenQ a (n + 1) = lenQ a n := by rw [lenQ, hb]
   rw [e]
   have hs : Goes Tryz.prog (bodyOf Tryz.prog 112 2) .normal (TL81 ((n + 1 : Nat) : Int)) [b8 a] (TL81 (((n + 1 : Nat) : Int) - 1)) [b8 a] :=
    Runs.goes envE81 ⟨[true, false], _, run81a a _, ⟨h0, hI, by rw [e2]; exact hb, hr, ha, hI, trivial⟩, wfTL81 _ _⟩
   rw [e1] at hs
   exact GoesN.cons rfl hs (loop81 ha n (by omega))
noncomputable def E81x (a : Nat) : Env := { E81 with lp := fun j => match Nat.beq j 2 with
  | true => some (bodyOf Tryz.prog 112 2, sumC (TL81 256) [b8 a] (TL81 (lenQ a 256 : Int)) [b8 a] (.exit 0))
  | false => none }
theorem envE81x {a : Nat} (ha : a < 4294967296 ^ 8) : EnvOK (E81x a) := envEL1 envE81 (sumC_ok rfl (loop81 ha 256 (Nat.le_refl _)).loop)
theorem run81 (a : Nat) : callR (E81x a) 1000 112 [N8 a] [] = some ([bodyOf Tryz.prog 112 2 = bodyOf Tryz.prog 112 2, (TL81 256, [b8 a]) = (TL81 256, [b8 a]), wfS (TL81 256) [b8 a] = true], iV (lenQ a 256 : Int)) := by kernel_rfl
theorem spec81 (a : Nat) (ha : a < 4294967296 ^ 8) : Spec 112 [N8 a] (iV (lenQ a 256 : Int)) := spec_run (envE81x ha) rfl (run81 a) ⟨rfl, rfl, wfTL81 _ _, trivial⟩ rfl rfl
noncomputable def E59 : Env := { E0 with
 fn := fun f vs => match f with
  | 110 => fnG mmN vs
  | 112 => fn1 (fun a => iV (lenQ a 256 : Int)) vs
  | 116 => fnG1 inN vs
  | 84 => fn62 vs
  | 114 => fn82 vs
  | _ => none
 S := fun f t => match f with
  | 109 => memN t [14, 16, 18, 25]
  | _ => false }
theorem envE59 : EnvOK E59 := by
 refine ⟨mixed, ?_, fun _ _ _ _ _ h => by simp [E59, E0] at h, fun _ _ _ h => by simp [E59, E0] at h, fun _ _ _ _ _ _ h => by simp [E59, E0] at h⟩
 intro f vs ob r h ho
 simp only [E59] at h
 split at h
 ·exact fnG_ok spec67 h ho
 ·exact fn1_ok (fun a ha => spec81 a ha) h ho
 ·exact fnG1_ok spec60 h ho
 ·exact fn62_ok h ho
 ·exact fn82_ok h ho
 ·simp at h
def bG (m q r : Nat) : Blk := ⟨[.num 8 m, .a (.u .u32 q), .num 8 r], 60, true, false, 0⟩
def MP (m q r a n x : Nat) : List Blk := [bG m q r, b8 a, b8 n, z8, b8 x]
theorem wfMP (m q r a n x : Nat) (i : Int) : wfS (TP i) (MP m q r a n x) = true := wfS_of (by
 intro b hb
 simp only [MP, List.mem_cons, List.not_mem_nil, or_false] at hb
 rcases hb with rfl | rfl | rfl | rfl | rfl
 ·exact fun _ => rfl
 ·exact b8_free _
 ·exact b8_free _
 ·exact bN_free _
 ·exact b8_free _) (tTP i)
def obG2 (m q r a b : Nat) : List Prop := [okR m q r, a < m, b < m, a < 4294967296 ^ 8, b < 4294967296 ^ 8]
theorem run59t (m q r a n x j : Nat) : runTo E59 1000 (E59.S 109) (bodyOf Tryz.prog 109 3) (TP (j : Int)) (MP m q r a n x) [true, true] (TP ((j : Int) - 1)) 5 =
  some ((decide (0 ≤ (j : Int)) = true) :: (obG2 m q r x x ++ ((bitB n j = true) :: (0 ≤ (j : Int) ∧ (j : Int) < 256) :: (n < 4294967296 ^ 8) :: (obG2 m q r (mmN m x x) a ++ [inI ((j : Int) - 1)]))), .normal, TP ((j : Int) - 1), MP m q r a n (mmN m (mmN m x x) a)) := by kernel_rfl
theorem run59f (m q r a n x j : Nat) : runTo E59 1000 (E59.S 109) (bodyOf Tryz.prog 109 3) (TP (j : Int)) (MP m q r a n x) [true, false] (TP ((j : Int) - 1)) 5 =
  some ((decide (0 ≤ (j : Int)) = true) :: (obG2 m q r x x ++ ((bitB n j = false) :: (0 ≤ (j : Int) ∧ (j : Int) < 256) :: (n < 4294967296 ^ 8) :: [inI ((j : Int) - 1)])), .normal, TP ((j : Int) - 1), MP m q r a n (mmN m x x)) := by kernel_rfl
theorem run59x (m q r a n x : Nat) : runTo E59 1000 (E59.S 109) (bodyOf Tryz.prog 109 3) (TP (-1)) (MP m q r a n x) [false] (TP (-1)) 5 =
  some ([decide ((0 : Int) ≤ -1) = false], .exit 0, TP (-1), MP m q r a n x) := by kernel_rfl
theorem loop59 {m q r a n : Nat} (hk : okR m q r) (ha : a < m) (hn : n < 4294967296 ^ 8) :
  Goes Tryz.prog (.loop (bodyOf Tryz.prog 109 3)) (.exit 0) (TP ((lenQ n 256 : Int) - 1)) (MP m q r a n (inN m 1)) (TP (-1)) (MP m q r a n (mpowN m a n)) := by
 obtain ⟨hl1, hl2⟩ := lenQ_spec n 256 hn
 obtain ⟨hR, hq, hrm, _⟩ := id hk
 have hm0 : 0 < m := by omega
 have p0 : pwN m a n (lenQ n 256) 0 = inN m 1 := by
  unfold pwN inN remN joinN
  rw [Nat.sub_zero, Nat.div_eq_of_lt hl1, Nat.pow_zero, Nat.zero_add, Nat.mul_comm]
 have p1 : pwN m a n (lenQ n 256) (lenQ n 256) = mpowN m a n := by
  unfold pwN mpowN
  rw [Nat.sub_self, Nat.pow_zero, Nat.div_one]
 generalize hL : lenQ n 256 = L at *
 have := loop_goes (P := Tryz.prog) (y := bodyOf Tryz.prog 109 3) (ex := .exit 0) (N := L) (k := 5) (T := fun k => TP ((L : Int) - 1 - (k : Int))) (M := fun k => MP m q r a n (pwN m a n L k)) (TF := TP (-1)) (MF := MP m q r a n (pwN m a n L L))
  (by simp) (fun _ _ => by simp only [MP, List.length_cons, List.length_nil]) (fun k hkL => by
   obtain ⟨s1, s2⟩ := pwN_step (n := n) hR hq ha hkL
   have hx : pwN m a n L k < m := Nat.mod_lt _ hm0
   have hmm : mmN m (pwN m a n L k) (pwN m a n L k) < m := Nat.mod_lt _ hm0
   have hI : ((L - 1 - k : Nat) : Int) = (L : Int) - 1 - (k : Int) := by omega
   have hI2 : ((L - 1 - k : Nat) : Int) - 1 = (L : Int) - 1 - ((k + 1 : Nat) : Int) := by omega
   have o0 : decide (0 ≤ ((L - 1 - k : Nat) : Int)) = true := decide_eq_true (by omega)
   have o1 : 0 ≤ ((L - 1 - k : Nat) : Int) ∧ ((L - 1 - k : Nat) : Int) < 256 := by omega
   have o2 : inI (((L - 1 - k : Nat) : Int) - 1) := by unfold inI; omega
   rw [← hI, ← hI2]
   cases hb : bitB n (L - 1 - k) with
   | true =>
    have hrun := run59t m q r a n (pwN m a n L k) (L - 1 - k)
    rw [s1 hb] at hrun
    exact Runs.goes envE59 ⟨_, _, hrun, ⟨o0, hk, hx, hx, by omega, by omega, hb, o1, hn, hk, hmm, ha, by omega, by omega, o2, trivial⟩, wfMP _ _ _ _ _ _ _⟩
   | false =>
    have hrun := run59f m q r a n (pwN m a n L k) (L - 1 - k)
    rw [s2 hb] at hrun
    exact Runs.goes envE59 ⟨_, _, hrun, ⟨o0, hk, hx, hx, by omega, by omega, hb, o1, hn, o2, trivial⟩, wfMP _ _ _ _ _ _ _⟩)
  (by
   rw [show (L : Int) - 1 - (L : Int) = -1 by omega]
   exact Runs.goes envE59 ⟨[false], _, run59x _ _ _ _ _ _, ⟨by decide, trivial⟩, wfMP _ _ _ _ _ _ _⟩)
 rw [p0, p1, show (L : Int) - 1 - ((0 : Nat) : Int) = (L : Int) - 1 by omega] at this
 exact this
noncomputable def E59x (m q r a n : Nat) : Env := { E59 with lp := fun j => match Nat.beq j 3 with
  | true => some (bodyOf Tryz.prog 109 3, sumC (TP ((lenQ n 256 : Int) - 1)) (MP m q r a n (inN m 1)) (TP (-1)) (MP m q r a n (mpowN m a n)) (.exit 0))
  | false => none }
theorem envE59x {m q r a n : Nat} (hk : okR m q r) (ha : a < m) (hn : n < 4294967296 ^ 8) : EnvOK (E59x m q r a n) := envEL1 envE59 (sumC_ok (by simp only [MP, List.length_cons]) (loop59 hk ha hn))
theorem run59 (m q r a n : Nat) : callR (E59x m q r a n) 1000 109 [rg m q r, N8 a, N8 n] [] = some ([1 < 4294967296, okR m q r, 1 < m, 1 < 4294967296 ^ 8, n < 4294967296 ^ 8, inI ((lenQ n 256 : Int) - 1),
  bodyOf Tryz.prog 109 3 = bodyOf Tryz.prog 109 3, (TP ((lenQ n 256 : Int) - 1), MP m q r a n (inN m 1)) = (TP ((lenQ n 256 : Int) - 1), MP m q r a n (inN m 1)), wfS (TP ((lenQ n 256 : Int) - 1)) (MP m q r a n (inN m 1)) = true], .val (N8 (mpowN m a n))) := by kernel_rfl
theorem spec59 (m q r a n : Nat) (hk : okR m q r) (h1 : 1 < m) (ha : a < m) (hn : n < 4294967296 ^ 8) : Spec 109 [rg m q r, N8 a, N8 n] (.val (N8 (mpowN m a n))) := by
 have hl := (lenQ_spec n 256 hn).2
 exact spec_run (envE59x hk ha hn) rfl (run59 m q r a n) ⟨by decide, hk, h1, by decide, hn, by unfold inI; omega, rfl, rfl, wfMP _ _ _ _ _ _ _, trivial⟩ rfl rfl
noncomputable def fn59 (vs : List V1) : Option (List Prop × AV) :=
 match vs with
 | [.agg [.num 8 m, .a (.u .u32 q), .num 8 r], x, y] => match numP 8 x, numP 8 y with
  | some (o, a), some (o', n) => some (okR m q r :: (1 < m) :: (a < m) :: (o ++ o'), .val (N8 (mpowN m a n)))
  | _, _ => none
 | _ => none
theorem fn59_ok {vs : List V1} {ob : List Prop} {r : AV} (h : fn59 vs = some (ob, r)) (ho : All ob) : Spec 109 vs r := by
 unfold fn59 at h
 split at h
 ·rename_i m q r x y
  split at h
  ·rename_i o a o' n hx hy
   simp only [Option.some.injEq, Prod.mk.injEq] at h
   obtain ⟨rfl, rfl⟩ := h
   obtain ⟨h0, h1, h2, h3⟩ := ho
   rw [All_append] at h3
   obtain ⟨_, h4⟩ := numP_spec hx h3.1
   obtain ⟨h6, h5⟩ := numP_spec hy h3.2
   exact (spec59 m q r a n h0 h1 h2 h6).congr (fun φ => by simp only [List.map_cons, List.map_nil]; rw [← h4 φ, ← h5 φ]; rfl) (fun _ => rfl)
  ·simp at h
 ·simp at h
end Go.Ev

