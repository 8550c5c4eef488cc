/- SHA-512: the program and the page come to one sum -/
import Derived.Test.YtfcobjhnkghdjaaGreatPartL
import Derived.Test.YtfcobjhnkghdjaaGreatPartJ
namespace Go.Ev.H5
open Go Go.Proofs Go.RowKit
def u64 (n : Nat) : V1 := .one (.u .u64 n)
def byteAt (s : ByteArray) (i : Nat) : Nat := (s.data.getD i 0).toNat
def M64 : Nat := 18446744073709551616
def sh8 (x b : Nat) : Nat := x * 256 % M64 % M64 ||| b % M64 % M64
def word8 (s : ByteArray) (i : Nat) : Nat := sh8 (sh8 (sh8 (sh8 (sh8 (sh8 (sh8 (sh8 0 (byteAt s i)) (byteAt s (i + 1))) (byteAt s (i + 2))) (byteAt s (i + 3))) (byteAt s (i + 4))) (byteAt s (i + 5))) (byteAt s (i + 6))) (byteAt s (i + 7))
noncomputable def E137 : Env := { E0 with S := fun f t => match f with | 148 => memN t [11] | 117 => memN t [13] | _ => false }
theorem envE137 : EnvOK E137 := ⟨mixed, envE0.fns, envE0.fms, envE0.lps, envE0.fbs⟩
def i8ob (s : ByteArray) : List Prop := [(0 : Int) ≤ 0 ∧ (0 : Int) < s.size, (0 : Int) ≤ 1 ∧ (1 : Int) < s.size, (0 : Int) ≤ 2 ∧ (2 : Int) < s.size, (0 : Int) ≤ 3 ∧ (3 : Int) < s.size, (0 : Int) ≤ 4 ∧ (4 : Int) < s.size, (0 : Int) ≤ 5 ∧ (5 : Int) < s.size, (0 : Int) ≤ 6 ∧ (6 : Int) < s.size, (0 : Int) ≤ 7 ∧ (7 : Int) < s.size]
theorem run137 (s : ByteArray) : callR E137 1000 148 [sS s] [] = some (i8ob s, .val (u64 (word8 s 0))) := by kernel_rfl
theorem run103 (s : ByteArray) : callR E137 1000 117 [sS s] [] = some (i8ob s, .val (u64 (word8 s 0))) := by kernel_rfl
def fnW8 (vs : List V1) : Option (List Prop × AV) :=
 match vs with
 | [.one (.v (.string s))] => some ([8 ≤ s.size], .val (u64 (word8 s 0)))
 | _ => none
theorem i8ok {s : ByteArray} (h : 8 ≤ s.size) : All (i8ob s) := ⟨by omega, by omega, by omega, by omega, by omega, by omega, by omega, by omega, trivial⟩
theorem ct137 : CTok ⟨148, fnW8⟩ := by
 intro vs ob r h ho
 simp only [fnW8] at h
 split at h
 ·simp only [Option.some.injEq, Prod.mk.injEq] at h
  obtain ⟨rfl, rfl⟩ := h
  exact spec_run envE137 rfl (run137 _) (i8ok ho.1) rfl rfl
 ·simp at h
theorem ct103 : CTok ⟨117, fnW8⟩ := by
 intro vs ob r h ho
 simp only [fnW8] at h
 split at h
 ·simp only [Option.some.injEq, Prod.mk.injEq] at h
  obtain ⟨rfl, rfl⟩ := h
  exact spec_run envE137 rfl (run103 _) (i8ok ho.1) rfl rfl
 ·simp at h
def rot (x n : Nat) : Nat := x * 2 ^ (64 - n) % M64 % M64 ||| x / 2 ^ n % M64
def rot' (x n : Nat) : Nat := x / 2 ^ n % M64 ||| x * 2 ^ (64 - n) % M64 % M64
theorem rot'_eq (x n : Nat) : rot' x n = rot x n := Nat.or_comm _ _
def turns : List Nat := [1, 8, 14, 18, 19, 28, 34, 39, 41, 61]
theorem run127 (x : Nat) : (callR E0 1000 121 [u64 x, .one (.i 1)] [] = some ([], .val (u64 (rot x 1)))) ∧ (callR E0 1000 121 [u64 x, .one (.i 8)] [] = some ([], .val (u64 (rot x 8)))) ∧ (callR E0 1000 121 [u64 x, .one (.i 14)] [] = some ([], .val (u64 (rot x 14))))
  ∧ (callR E0 1000 121 [u64 x, .one (.i 18)] [] = some ([], .val (u64 (rot x 18)))) ∧ (callR E0 1000 121 [u64 x, .one (.i 19)] [] = some ([], .val (u64 (rot x 19)))) ∧ (callR E0 1000 121 [u64 x, .one (.i 28)] [] = some ([], .val (u64 (rot x 28))))
  ∧ (callR E0 1000 121 [u64 x, .one (.i 34)] [] = some ([], .val (u64 (rot x 34)))) ∧ (callR E0 1000 121 [u64 x, .one (.i 39)] [] = some ([], .val (u64 (rot x 39)))) ∧ (callR E0 1000 121 [u64 x, .one (.i 41)] [] = some ([], .val (u64 (rot x 41))))
  ∧ (callR E0 1000 121 [u64 x, .one (.i 61)] [] = some ([], .val (u64 (rot x 61)))) := by
 refine ⟨?_, ?_, ?_, ?_, ?_, ?_, ?_, ?_, ?_, ?_⟩ <;> kernel_rfl
theorem run104 (x : Nat) : (callR E0 1000 118 [u64 x, .one (.i 1)] [] = some ([], .val (u64 (rot' x 1)))) ∧ (callR E0 1000 118 [u64 x, .one (.i 8)] [] = some ([], .val (u64 (rot' x 8)))) ∧ (callR E0 1000 118 [u64 x, .one (.i 14)] [] = some ([], .val (u64 (rot' x 14))))
  ∧ (callR E0 1000 118 [u64 x, .one (.i 18)] [] = some ([], .val (u64 (rot' x 18)))) ∧ (callR E0 1000 118 [u64 x, .one (.i 19)] [] = some ([], .val (u64 (rot' x 19)))) ∧ (callR E0 1000 118 [u64 x, .one (.i 28)] [] = some ([], .val (u64 (rot' x 28))))
  ∧ (callR E0 1000 118 [u64 x, .one (.i 34)] [] = some ([], .val (u64 (rot' x 34)))) ∧ (callR E0 1000 118 [u64 x, .one (.i 39)] [] = some ([], .val (u64 (rot' x 39)))) ∧ (callR E0 1000 118 [u64 x, .one (.i 41)] [] = some ([], .val (u64 (rot' x 41))))
  ∧ (callR E0 1000 118 [u64 x, .one (.i 61)] [] = some ([], .val (u64 (rot' x 61)))) := by
 refine ⟨?_, ?_, ?_, ?_, ?_, ?_, ?_, ?_, ?_, ?_⟩ <;> kernel_rfl
def fnRot (vs : List V1) : Option (List Prop × AV) :=
 match vs with
 | [.one (.u .u64 x), .one (.i (.ofNat n))] => match memN n turns with
  | true => some ([], .val (u64 (rot x n)))
  | false => none
 | _ => none
theorem mem_turns {n : Nat} (h : memN n turns = true) : n = 1 ∨ n = 8 ∨ n = 14 ∨ n = 18 ∨ n = 19 ∨ n = 28 ∨ n = 34 ∨ n = 39 ∨ n = 41 ∨ n = 61 := by
 simp only [turns, memN, Bool.or_false, Bool.or_eq_true] at h
 simpa only [Nat.beq_eq] using h
theorem ct127 : CTok ⟨121, fnRot⟩ := by
 intro vs ob r h _
 simp only [fnRot] at h
 split at h
 ·rename_i x n
  split at h
  ·rename_i hn
   simp only [Option.some.injEq, Prod.mk.injEq] at h
   obtain ⟨_, rfl⟩ := h
   obtain ⟨h1, h2, h3, h4, h5, h6, h7, h8, h9, h10⟩ := run127 x
   rcases mem_turns hn with rfl | rfl | rfl | rfl | rfl | rfl | rfl | rfl | rfl | rfl
   ·exact spec_run envE0 rfl h1 trivial rfl rfl
   ·exact spec_run envE0 rfl h2 trivial rfl rfl
   ·exact spec_run envE0 rfl h3 trivial rfl rfl
   ·exact spec_run envE0 rfl h4 trivial rfl rfl
   ·exact spec_run envE0 rfl h5 trivial rfl rfl
   ·exact spec_run envE0 rfl h6 trivial rfl rfl
   ·exact spec_run envE0 rfl h7 trivial rfl rfl
   ·exact spec_run envE0 rfl h8 trivial rfl rfl
   ·exact spec_run envE0 rfl h9 trivial rfl rfl
   ·exact spec_run envE0 rfl h10 trivial rfl rfl
  ·simp at h
 ·simp at h
theorem ct104r : CTok ⟨118, fnRot⟩ := by
 intro vs ob r h _
 simp only [fnRot] at h
 split at h
 ·rename_i x n
  split at h
  ·rename_i hn
   simp only [Option.some.injEq, Prod.mk.injEq] at h
   obtain ⟨_, rfl⟩ := h
   obtain ⟨h1, h2, h3, h4, h5, h6, h7, h8, h9, h10⟩ := run104 x
   simp only [rot'_eq] at h1 h2 h3 h4 h5 h6 h7 h8 h9 h10
   rcases mem_turns hn with rfl | rfl | rfl | rfl | rfl | rfl | rfl | rfl | rfl | rfl
   ·exact spec_run envE0 rfl h1 trivial rfl rfl
   ·exact spec_run envE0 rfl h2 trivial rfl rfl
   ·exact spec_run envE0 rfl h3 trivial rfl rfl
   ·exact spec_run envE0 rfl h4 trivial rfl rfl
   ·exact spec_run envE0 rfl h5 trivial rfl rfl
   ·exact spec_run envE0 rfl h6 trivial rfl rfl
   ·exact spec_run envE0 rfl h7 trivial rfl rfl
   ·exact spec_run envE0 rfl h8 trivial rfl rfl
   ·exact spec_run envE0 rfl h9 trivial rfl rfl
   ·exact spec_run envE0 rfl h10 trivial rfl rfl
  ·simp at h
 ·simp at h
def xor64 (x y : Nat) : Nat := x % M64 ^^^ y % M64
def and64 (x y : Nat) : Nat := x % M64 &&& y % M64
def add64 (x y : Nat) : Nat := (x + y) % M64
def not64 (x : Nat) : Nat := M64 - 1 - x % M64
def sig0 (x : Nat) : Nat := xor64 (xor64 (rot x 1) (rot x 8)) (x / 2 ^ 7)
def sig1 (y : Nat) : Nat := xor64 (xor64 (rot y 19) (rot y 61)) (y / 2 ^ 6)
def ixD (i d : Nat) : Nat := 0 + ((i : Int) - (d : Int)).toNat * 1
def schP (l : List Nat) (i : Nat) : Nat := add64 (add64 (add64 (l.getD (ixD i 16) 0) (sig0 (l.getD (ixD i 15) 0))) (l.getD (ixD i 7) 0)) (sig1 (l.getD (ixD i 2) 0))
def schQ (l : List Nat) (i : Nat) : Nat := add64 (add64 (add64 (l.getD (ixD i 16) 0) (l.getD (ixD i 7) 0)) (sig0 (l.getD (ixD i 15) 0))) (sig1 (l.getD (ixD i 2) 0))
theorem add64_swap (a b c : Nat) : add64 (add64 a b) c = add64 (add64 a c) b := by
 unfold add64
 rw [Nat.mod_add_mod, Nat.mod_add_mod]
 congr 1; omega
theorem schQ_eq (l : List Nat) (i : Nat) : schQ l i = schP l i := by unfold schQ schP; rw [add64_swap (l.getD (ixD i 16) 0)]
def wB (l : List Nat) : Blk := ⟨[.arr .u64 l], 137, true, false, 0⟩
noncomputable def L125 : List CT := [⟨148, fnW8⟩, ⟨117, fnW8⟩, ⟨121, fnRot⟩, ⟨118, fnRot⟩]
theorem L125_ok : AllCT L125 := ⟨ct137, ct103, ct127, ct104r, trivial⟩
noncomputable def S125 : FuncId → Nat → Bool := fun f t => match f with | 119 => memN t [9, 12, 16, 17, 19, 4000019, 21, 22, 2000023, 25, 26, 2000027, 46, 47, 2000048, 52, 53, 2000054, 58, 4000058, 59] | _ => false
def T125 (s : ByteArray) (i : Int) : List AV := slots 61 [(0, .val (sS s)), (2, pV 0), (8, iV i)]
noncomputable def E125 : Env := mkE L125 S125
end Go.Ev.H5

namespace Go.Ev.H5
open Go Go.Proofs Go.RowKit
theorem r125a (s : ByteArray) (l : List Nat) (i : Nat) : runTo E125 1000 (Env.S E125 119) (bodyOf Tryz.prog 119 2) (T125 s (↑i : Int)) [wB l] [true, true] (T125 s ((↑i : Int) + (1 : Int))) 1 =
  some ([decide ((↑i : Int) < (80 : Int)) = true, decide ((↑i : Int) < (16 : Int)) = true, inI ((8 : Int) * (↑i : Int)), (0 : Int) ≤ (8 : Int) * (↑i : Int) ∧ (8 : Int) * (↑i : Int) ≤ (↑(ByteArray.size s) : Int), 8 ≤ ByteArray.size (ByteArray.extract s (Int.toNat ((8 : Int) * (↑i : Int))) (ByteArray.size s)), (0 : Int) ≤ (↑i : Int) ∧ (↑i : Int) < ((80 : Nat) : Int), 0 + i * 1 < List.length l, inI ((↑i : Int) + (1 : Int))], .normal, T125 s ((i : Int) + 1), [wB (l.set (0 + (i : Int).toNat * 1) (word8 (s.extract (8 * i) s.size) 0))]) := by kernel_rfl
theorem r125b (s : ByteArray) (l : List Nat) (i : Nat) : runTo E125 1000 (Env.S E125 119) (bodyOf Tryz.prog 119 2) (T125 s (↑i : Int)) [wB l] [true, false] (T125 s ((↑i : Int) + (1 : Int))) 1 =
  some ([decide ((↑i : Int) < (80 : Int)) = true, decide ((↑i : Int) < (16 : Int)) = false, inI ((↑i : Int) - (15 : Int)), (0 : Int) ≤ (↑i : Int) - (15 : Int) ∧ (↑i : Int) - (15 : Int) < ((80 : Nat) : Int), 0 + Int.toNat ((↑i : Int) - (15 : Int)) * 1 < List.length l, inI ((↑i : Int) - (2 : Int)), (0 : Int) ≤ (↑i : Int) - (2 : Int) ∧ (↑i : Int) - (2 : Int) < ((80 : Nat) : Int), 0 + Int.toNat ((↑i : Int) - (2 : Int)) * 1 < List.length l, inI ((↑i : Int) - (16 : Int)), (0 : Int) ≤ (↑i : Int) - (16 : Int) ∧ (↑i : Int) - (16 : Int) < ((80 : Nat) : Int), 0 + Int.toNat ((↑i : Int) - (16 : Int)) * 1 < List.length l, inI ((↑i : Int) - (7 : Int)), (0 : Int) ≤ (↑i : Int) - (7 : Int) ∧ (↑i : Int) - (7 : Int) < ((80 : Nat) : Int), 0 + Int.toNat ((↑i : Int) - (7 : Int)) * 1 < List.length l, (0 : Int) ≤ (↑i : Int) ∧ (↑i : Int) < ((80 : Nat) : Int), 0 + i * 1 < List.length l, inI ((↑i : Int) + (1 : Int))], .normal, T125 s ((i : Int) + 1), [wB (l.set (0 + (i : Int).toNat * 1) (schP l i))]) := by kernel_rfl
theorem r125x (s : ByteArray) (l : List Nat) (i : Nat) : runTo E125 1000 (Env.S E125 119) (bodyOf Tryz.prog 119 2) (T125 s (↑i : Int)) [wB l] [false] (T125 s (↑i : Int)) 1 =
  some ([decide ((↑i : Int) < (80 : Int)) = false], (.exit 0), T125 s (i : Int), [wB l]) := by kernel_rfl
end Go.Ev.H5

namespace Go.Ev.H5
open Go Go.Proofs Go.RowKit
def schL (s : ByteArray) : Nat → List Nat
 | 0 => List.replicate 80 0
 | i + 1 => (schL s i).set i (bif decide (i < 16) then word8 s (8 * i) else schP (schL s i) i)
theorem schL_len (s : ByteArray) : ∀ i, (schL s i).length = 80
 | 0 => List.length_replicate
 | i + 1 => by rw [schL, List.length_set]; exact schL_len s i
theorem byteAt_cut (s : ByteArray) (a b i : Nat) (h : a + i < b) (hb : b ≤ s.size) : byteAt (s.extract a b) i = byteAt s (a + i) := by
 unfold byteAt
 rw [ByteArray.data_extract]
 simp only [Array.getD_eq_getD_getElem?]
 rw [Array.getElem?_extract]
 have : i < min b s.data.size - a := by
  have : s.data.size = s.size := rfl
  omega
 rw [if_pos this]
theorem word8_cut (s : ByteArray) (a b : Nat) (h : a + 8 ≤ b) (hb : b ≤ s.size) : word8 (s.extract a b) 0 = word8 s a := by
 unfold word8
 rw [byteAt_cut s a b 0 (by omega) hb, byteAt_cut s a b (0 + 1) (by omega) hb, byteAt_cut s a b (0 + 2) (by omega) hb, byteAt_cut s a b (0 + 3) (by omega) hb,
  byteAt_cut s a b (0 + 4) (by omega) hb, byteAt_cut s a b (0 + 5) (by omega) hb, byteAt_cut s a b (0 + 6) (by omega) hb, byteAt_cut s a b (0 + 7) (by omega) hb]
 rfl
theorem wB_free (l : List Nat) : Free (wB l) := fun _ => rfl
theorem wf125 (s : ByteArray) (l : List Nat) (i : Int) : wfS (T125 s i) [wB l] = true := wfS_of (by
 intro b hb
 simp only [List.mem_cons, List.not_mem_nil, or_false] at hb
 subst hb
 exact wB_free l) (by show tmsWf 1 _ = true; kernel_rfl)
theorem envE125 : EnvOK E125 := envMk L125_ok _
theorem cut_size (s : ByteArray) (a b : Nat) (hb : b ≤ s.size) : (s.extract a b).size = b - a := by
 rw [ByteArray.size_extract]; omega
theorem step125 (s : ByteArray) (hs : 128 ≤ s.size) (hl : s.size ≤ 4611686018427387904) (i : Nat) (hi : i < 80) (l : List Nat) (hlen : l.length = 80) :
  Goes Tryz.prog (bodyOf Tryz.prog 119 2) .normal (T125 s (i : Int)) [wB l] (T125 s ((i : Int) + 1)) [wB (l.set i (bif decide (i < 16) then word8 s (8 * i) else schP l i))] := by
 have e0 : (0 + (i : Int).toNat * 1) = i := by omega
 by_cases h16 : i < 16
 ·have hr := r125a s l i
  rw [show (Int.toNat ((8 : Int) * (i : Int))) = 8 * i by omega, word8_cut s (8 * i) s.size (by omega) (Nat.le_refl _), e0] at hr
  rw [decide_eq_true h16, cond_true]
  exact Runs.goes envE125 ⟨_, _, hr, ⟨decide_eq_true (by omega), decide_eq_true (by omega), by unfold inI; omega, by omega, by rw [cut_size _ _ _ (Nat.le_refl _)]; omega, by omega, by omega, by unfold inI; omega, trivial⟩, wf125 _ _ _⟩
 ·have hr := r125b s l i
  rw [e0] at hr
  rw [decide_eq_false h16, cond_false]
  exact Runs.goes envE125 ⟨_, _, hr, ⟨decide_eq_true (by omega), decide_eq_false (by omega), by unfold inI; omega, by omega, by omega, by unfold inI; omega, by omega, by omega, by unfold inI; omega, by omega, by omega, by unfold inI; omega, by omega, by omega, by omega, by omega, by unfold inI; omega, trivial⟩, wf125 _ _ _⟩
theorem loop125 (s : ByteArray) (hs : 128 ≤ s.size) (hl : s.size ≤ 4611686018427387904) (n : Nat) (hn : n = 80) (L : Nat → List Nat) (hL : ∀ i, (L i).length = 80) (h : ∀ i, L (i + 1) = (L i).set i (bif decide (i < 16) then word8 s (8 * i) else schP (L i) i)) :
  Goes Tryz.prog (.loop (bodyOf Tryz.prog 119 2)) (.exit 0) (T125 s ((0 : Nat) : Int)) [wB (L 0)] (T125 s (n : Int)) [wB (L n)] := by
 refine loop_goes (N := n) (k := 1) (T := fun i => T125 s (i : Int)) (M := fun i => [wB (L i)]) (by simp) (fun _ _ => rfl) (fun i hi => ?_) ?_
 ·have := step125 s hs hl i (by omega) (L i) (hL i)
  rw [← h i] at this
  exact this
 ·exact Runs.goes envE125 ⟨_, _, r125x s (L n) n, ⟨decide_eq_false (by omega), trivial⟩, wf125 _ _ _⟩
def cells64 : Nat → Nat → (Nat → Nat) → List Piece
 | 0, _, _ => []
 | n + 1, j, u => .a (.u .u64 (u j)) :: cells64 n (j + 1) u
theorem cells64_conc (φ : Loc) (u : Nat → Nat) : ∀ n j, concs φ (cells64 n j u) = (List.range' j n).map fun i => Value.int .u64 ((u i : Nat) : Int)
 | 0, _ => rfl
 | n + 1, j => by
  rw [List.range'_succ, List.map_cons, ← cells64_conc φ u n (j + 1)]
  rfl
theorem arr64_conc (φ : Loc) (l : List Nat) (n : Nat) (h : l.length = n) : concs φ [.arr .u64 l] = concs φ (cells64 n 0 fun j => l.getD j 0) := by
 rw [cells64_conc, arr_conc]
 subst h
 apply List.ext_getElem (by simp)
 intro i h1 h2
 simp only [List.getElem_map, List.getElem_range']
 rw [List.length_map] at h1
 simp [List.getD_eq_getElem?_getD, List.getElem?_eq_getElem h1]
theorem cells64_free (u : Nat → Nat) (f : Nat → Bool) : ∀ n j, allPtr f (cells64 n j u) = true
 | 0, _ => rfl
 | n + 1, j => cells64_free u f n (j + 1)
noncomputable def schW (s : ByteArray) (j : Nat) : Nat := (schL s 80).getD j 0
def cB (u : Nat → Nat) : Blk := ⟨cells64 80 0 u, 137, true, false, 0⟩
theorem cB_free (u : Nat → Nat) : Free (cB u) := fun f => cells64_free u f 80 0
theorem wfC125 (s : ByteArray) (u : Nat → Nat) (i : Int) : wfS (T125 s i) [cB u] = true := wfS_of (by
 intro b hb
 simp only [List.mem_cons, List.not_mem_nil, or_false] at hb
 subst hb
 exact cB_free u) (by show tmsWf 1 _ = true; kernel_rfl)
def zW (_ : Nat) : Nat := 0
theorem sch_loop (s : ByteArray) (hs : 128 ≤ s.size) (hl : s.size ≤ 4611686018427387904) : Goes Tryz.prog (.loop (bodyOf Tryz.prog 119 2)) (.exit 0) (T125 s ((0 : Nat) : Int)) [cB zW] (T125 s ((80 : Nat) : Int)) [cB (schW s)] := by
 refine Goes.before (Goes.after (loop125 s hs hl 80 rfl (schL s) (schL_len s) (fun _ => rfl)) (sameT_refl _) ⟨⟨rfl, rfl, rfl, rfl, fun φ => ?_⟩, trivial⟩ (wfC125 _ _ _)) (sameT_refl _) ⟨⟨rfl, rfl, rfl, rfl, fun φ => ?_⟩, trivial⟩ (wf125 _ _ _)
 ·exact arr64_conc φ (schL s 80) 80 (schL_len s 80)
 ·exact (arr64_conc φ (List.replicate 80 0) 80 List.length_replicate).symm
end Go.Ev.H5

namespace Go.Ev.H5
open Go Go.Proofs Go.RowKit
structure W8 where
 (a b c d e f g h : Nat)
def W8.cells (x : W8) : List Piece := [.a (.u .u64 x.a), .a (.u .u64 x.b), .a (.u .u64 x.c), .a (.u .u64 x.d), .a (.u .u64 x.e), .a (.u .u64 x.f), .a (.u .u64 x.g), .a (.u .u64 x.h)]
def aV (x : W8) : V1 := .agg x.cells
noncomputable def E125L (s : ByteArray) : Env := withL E125 2 (bodyOf Tryz.prog 119 2) (sumC (T125 s ((0 : Nat) : Int)) [cB zW] (T125 s ((80 : Nat) : Int)) [cB (schW s)] (.exit 0))
noncomputable def schedV (s : ByteArray) : V1 := .agg (cells64 80 0 (schW s))
theorem r125 (s : ByteArray) : callR (E125L s) 1000 119 [sS s] [] =
  some ([bodyOf Tryz.prog 119 2 = bodyOf Tryz.prog 119 2, (T125 s ((0 : Nat) : Int), [cB zW]) = (T125 s ((0 : Nat) : Int), [cB zW]), wfS (T125 s ((0 : Nat) : Int)) [cB zW] = true], .val (schedV s)) := by kernel_rfl
theorem envE125L (s : ByteArray) (hs : 128 ≤ s.size) (hl : s.size ≤ 4611686018427387904) : EnvOK (E125L s) := envWithL envE125 (sumC_ok (by simp only [List.length_cons]) (sch_loop s hs hl))
theorem spec125 (s : ByteArray) (hs : 128 ≤ s.size) (hl : s.size ≤ 4611686018427387904) : Spec 119 [sS s] (.val (schedV s)) :=
 spec_run (envE125L s hs hl) rfl (r125 s) ⟨rfl, rfl, wfC125 _ _ _, trivial⟩ rfl rfl
noncomputable def fnSch (vs : List V1) : Option (List Prop × AV) :=
 match vs with
 | [.one (.v (.string s))] => some ([128 ≤ s.size ∧ s.size ≤ 4611686018427387904], .val (schedV s))
 | _ => none
theorem ct125 : CTok ⟨119, fnSch⟩ := by
 intro vs ob r h ho
 simp only [fnSch] at h
 split at h
 ·simp only [Option.some.injEq, Prod.mk.injEq] at h
  obtain ⟨rfl, rfl⟩ := h
  exact spec125 _ ho.1.1 ho.1.2
 ·simp at h
def shaL : List Nat := [4794697086780616226, 8158064640168781261, 13096744586834688815, 16840607885511220156, 4131703408338449720, 6480981068601479193, 10538285296894168987, 12329834152419229976, 15566598209576043074, 1334009975649890238, 2608012711638119052, 6128411473006802146, 8268148722764581231, 9286055187155687089, 11230858885718282805, 13951009754708518548, 16472876342353939154, 17275323862435702243, 1135362057144423861, 2597628984639134821, 3308224258029322869, 5365058923640841347, 6679025012923562964, 8573033837759648693, 10970295158949994411, 12119686244451234320, 12683024718118986047, 13788192230050041572, 14330467153632333762, 15395433587784984357, 489312712824947311, 1452737877330783856, 2861767655752347644, 3322285676063803686, 5560940570517711597, 5996557281743188959, 7280758554555802590, 8532644243296465576, 9350256976987008742, 10552545826968843579, 11727347734174303076, 12113106623233404929, 14000437183269869457, 14369950271660146224, 15101387698204529176, 15463397548674623760, 17586052441742319658, 1182934255886127544, 1847814050463011016, 2177327727835720531, 2830643537854262169, 3796741975233480872, 4115178125766777443, 5681478168544905931, 6601373596472566643, 7507060721942968483, 8399075790359081724, 8693463985226723168, 9568029438360202098, 10144078919501101548, 10430055236837252648, 11840083180663258601, 13761210420658862357, 14299343276471374635, 14566680578165727644, 15097957966210449927, 16922976911328602910, 17689382322260857208, 500013540394364858, 748580250866718886, 1242879168328830382, 1977374033974150939, 2944078676154940804, 3659926193048069267, 4368137639120453308, 4836135668995329356, 5532061633213252278, 6448918945643986474, 6902733635092675308, 7801388544844847127]
def shaK (i : Nat) : Nat := shaL.getD i 0
def shaV : V1 := .agg (cells64 80 0 shaK)
theorem r126 : callR E0 1000 120 [] [] = some ([], .val shaV) := by kernel_rfl
def rnd (v : W8) (k w : Nat) : W8 :=
 let one := add64 (add64 (add64 (add64 v.h (xor64 (xor64 (rot v.e 14) (rot v.e 18)) (rot v.e 41))) (xor64 (and64 v.e v.f) (and64 (not64 v.e) v.g))) k) w
 let two := add64 (xor64 (xor64 (rot v.a 28) (rot v.a 34)) (rot v.a 39)) (xor64 (xor64 (and64 v.a v.b) (and64 v.a v.c)) (and64 v.b v.c))
 ⟨add64 one two, v.a, v.b, v.c, add64 v.d one, v.e, v.f, v.g⟩
def addW (x y : W8) : W8 := ⟨add64 x.a y.a, add64 x.b y.b, add64 x.c y.c, add64 x.d y.d, add64 x.e y.e, add64 x.f y.f, add64 x.g y.g, add64 x.h y.h⟩
def hB (x : W8) : Blk := ⟨x.cells, 104, true, false, 0⟩
def z8W : W8 := ⟨0, 0, 0, 0, 0, 0, 0, 0⟩
noncomputable def ldW (p q : Nat) (u : Nat → Nat) : CT := ⟨3000103, fun vs => match vs with
 | [.one (.ptr b off)] => match Nat.beq b p with
  | true => some ([False], .val (u64 (u off)))
  | false => match Nat.beq b q with
   | true => some ([False], .val (u64 (shaK off)))
   | false => none
 | _ => none⟩
theorem ldW_ok (p q : Nat) (u : Nat → Nat) : CTok (ldW p q u) := by
 intro vs ob r h ho
 simp only [ldW] at h
 split at h
 ·split at h
  ·simp only [Option.some.injEq, Prod.mk.injEq] at h
   obtain ⟨rfl, _⟩ := h
   exact ho.1.elim
  ·split at h
   ·simp only [Option.some.injEq, Prod.mk.injEq] at h
    obtain ⟨rfl, _⟩ := h
    exact ho.1.elim
   ·simp at h
 ·simp at h
theorem ct126 : CTok ⟨120, cV (.val shaV)⟩ := ctV (spec_run envE0 rfl r126 trivial rfl rfl)
noncomputable def L96 (u : Nat → Nat) : List CT := ldW 2 3 u :: ⟨119, fnSch⟩ :: ⟨120, cV (.val shaV)⟩ :: L125
theorem L96_ok (u : Nat → Nat) : AllCT (L96 u) := ⟨ldW_ok _ _ _, ct125, ct126, L125_ok⟩
noncomputable def S96 : FuncId → Nat → Bool := fun f t => match f with | 89 => memN t [19, 48, 2000049, 52, 2000053, 97] | 81 => memN t [73, 104, 2000105, 108, 2000109, 75] | _ => false
noncomputable def E96 (u : Nat → Nat) : Env := mkE (L96 u) S96
def T96 (i : Int) : List AV := slots 111 [(2, pV 0), (4, pV 1), (5, pV 2), (6, pV 3), (7, pV 4), (18, iV i)]
def M96 (h v : W8) (u : Nat → Nat) : List Blk := [hB h, hB z8W, cB u, cB shaK, hB v]
end Go.Ev.H5

namespace Go.Ev.H5
open Go Go.Proofs Go.RowKit
def iT (i : Nat) : Nat := 0 + (i : Int).toNat * 1
theorem iT_eq (i : Nat) : iT i = i := by unfold iT; omega
theorem r96a (h v : W8) (u : Nat → Nat) (i : Nat) : runTo (E96 u) 1000 ((E96 u).S 89) (bodyOf Tryz.prog 89 3) (T96 (i : Int)) (M96 h v u) [true] (T96 ((i : Int) + 1)) 5 =
  some ([decide ((i : Int) < 80) = true, (0 : Int) ≤ (i : Int) ∧ (i : Int) < ((80 : Nat) : Int), LoadsAs Tryz.prog 103 (cells64 80 0 shaK) (iT i) (.one (.u .u64 (shaK (iT i)))), (0 : Int) ≤ (i : Int) ∧ (i : Int) < ((80 : Nat) : Int), LoadsAs Tryz.prog 103 (cells64 80 0 u) (iT i) (.one (.u .u64 (u (iT i)))), inI ((i : Int) + 1)], .normal, T96 ((i : Int) + 1), M96 h (rnd v (shaK (iT i)) (u (iT i))) u) := by kernel_rfl
theorem r96x (h v : W8) (u : Nat → Nat) (i : Nat) : runTo (E96 u) 1000 ((E96 u).S 89) (bodyOf Tryz.prog 89 3) (T96 (i : Int)) (M96 h v u) [false] (T96 (i : Int)) 5 =
  some ([decide ((i : Int) < 80) = false], .exit 0, T96 (i : Int), M96 h v u) := by kernel_rfl
theorem agg74 : isAggA Tryz.prog 103 = some false := by kernel_rfl
theorem ld64 (u : Nat → Nat) (n off : Nat) (h : off < n) : LoadsAs Tryz.prog 103 (cells64 n 0 u) off (.one (.u .u64 (u off))) := by
 intro φ
 refine ⟨agg74, ?_⟩
 rw [cells64_conc, List.getElem?_map, List.getElem?_range' h]
 simp [V1.conc, Atom.conc]
def vR (u : Nat → Nat) (v : W8) : Nat → W8
 | 0 => v
 | i + 1 => rnd (vR u v i) (shaK i) (u i)
theorem hB_free (x : W8) : Free (hB x) := fun _ => rfl
theorem M96_free (h v : W8) (u : Nat → Nat) : ∀ b ∈ M96 h v u, Free b := by
 intro b hb
 simp only [M96, List.mem_cons, List.not_mem_nil, or_false] at hb
 rcases hb with rfl | rfl | rfl | rfl | rfl
 ·exact hB_free _
 ·exact hB_free _
 ·exact cB_free _
 ·exact cB_free _
 ·exact hB_free _
theorem M96_len (h v : W8) (u : Nat → Nat) : (M96 h v u).length = 5 := by simp only [M96, List.length_cons, List.length_nil]
theorem wf96 (h v : W8) (u : Nat → Nat) (i : Int) : wfS (T96 i) (M96 h v u) = true := wfS_of (M96_free h v u) (by rw [M96_len]; kernel_rfl)
theorem envE96 (u : Nat → Nat) : EnvOK (E96 u) := envMk (L96_ok u) _
theorem step96 (h v : W8) (u : Nat → Nat) (i : Nat) (hi : i < 80) : Goes Tryz.prog (bodyOf Tryz.prog 89 3) .normal (T96 (i : Int)) (M96 h v u) (T96 ((i : Int) + 1)) (M96 h (rnd v (shaK i) (u i)) u) := by
 have hr := r96a h v u i
 rw [iT_eq] at hr
 exact Runs.goes (envE96 u) ⟨_, _, hr, ⟨decide_eq_true (by omega), by omega, ld64 _ _ _ hi, by omega, ld64 _ _ _ hi, by unfold inI; omega, trivial⟩, wf96 _ _ _ _⟩
theorem loop96 (h : W8) (u : Nat → Nat) (n : Nat) (hn : n = 80) (V : Nat → W8) (hV : ∀ i, V (i + 1) = rnd (V i) (shaK i) (u i)) :
  Goes Tryz.prog (.loop (bodyOf Tryz.prog 89 3)) (.exit 0) (T96 ((0 : Nat) : Int)) (M96 h (V 0) u) (T96 (n : Int)) (M96 h (V n) u) := by
 refine loop_goes (N := n) (k := 5) (T := fun i => T96 (i : Int)) (M := fun i => M96 h (V i) u) (by simp) (fun _ _ => M96_len _ _ _) (fun i hi => ?_) ?_
 ·have := step96 h (V i) u i (by omega)
  rw [← hV i] at this
  exact this
 ·exact Runs.goes (envE96 u) ⟨_, _, r96x h (V n) u n, ⟨decide_eq_false (by omega), trivial⟩, wf96 _ _ _ _⟩
noncomputable def vE (u : Nat → Nat) (h : W8) : W8 := vR u h 80
theorem rounds96 (h : W8) (u : Nat → Nat) : Goes Tryz.prog (.loop (bodyOf Tryz.prog 89 3)) (.exit 0) (T96 ((0 : Nat) : Int)) (M96 h h u) (T96 ((80 : Nat) : Int)) (M96 h (vE u h) u) := loop96 h u 80 rfl (vR u h) (fun _ => rfl)
noncomputable def E96L (h : W8) (u : Nat → Nat) : Env := withL (E96 u) 3 (bodyOf Tryz.prog 89 3) (sumC (T96 ((0 : Nat) : Int)) (M96 h h u) (T96 ((80 : Nat) : Int)) (M96 h (vE u h) u) (.exit 0))
theorem envE96L (h : W8) (u : Nat → Nat) : EnvOK (E96L h u) := envWithL (envE96 u) (sumC_ok (by rw [M96_len, M96_len]) (rounds96 h u))
noncomputable def blk5 (h : W8) (s : ByteArray) : W8 := addW h (vE (schW s) h)
theorem r96 (h : W8) (s : ByteArray) : callR (E96L h (schW s)) 1000 89 [aV h, sS s] [] =
  some ([128 ≤ s.size ∧ s.size ≤ 4611686018427387904, bodyOf Tryz.prog 89 3 = bodyOf Tryz.prog 89 3, (T96 ((0 : Nat) : Int), M96 h h (schW s)) = (T96 ((0 : Nat) : Int), M96 h h (schW s)), wfS (T96 ((0 : Nat) : Int)) (M96 h h (schW s)) = true], .val (aV (blk5 h s))) := by kernel_rfl
theorem spec96 (h : W8) (s : ByteArray) (h1 : 128 ≤ s.size) (h2 : s.size ≤ 4611686018427387904) : Spec 89 [aV h, sS s] (.val (aV (blk5 h s))) :=
 spec_run (envE96L h (schW s)) rfl (r96 h s) ⟨⟨h1, h2⟩, rfl, rfl, wf96 _ _ _ _, trivial⟩ rfl rfl
noncomputable def fnBlk (vs : List V1) : Option (List Prop × AV) :=
 match vs with
 | [.agg [.a (.u .u64 a), .a (.u .u64 b), .a (.u .u64 c), .a (.u .u64 d), .a (.u .u64 e), .a (.u .u64 f), .a (.u .u64 g), .a (.u .u64 h)], .one (.v (.string s))] => some ([128 ≤ s.size ∧ s.size ≤ 4611686018427387904], .val (aV (blk5 ⟨a, b, c, d, e, f, g, h⟩ s)))
 | _ => none
theorem ct96 : CTok ⟨89, fnBlk⟩ := by
 intro vs ob r h ho
 simp only [fnBlk] at h
 split at h
 ·simp only [Option.some.injEq, Prod.mk.injEq] at h
  obtain ⟨rfl, rfl⟩ := h
  exact spec96 _ _ ho.1.1 ho.1.2
 ·simp at h
end Go.Ev.H5

namespace Go.Ev.H5
open Go Go.Proofs Go.RowKit
def tB (e : TypeId) : Blk := ⟨cells64 80 0 shaK, e, true, true, 0⟩
noncomputable def S65 : FuncId → Nat → Bool := fun f t => match f with | 81 => memN t [19, 23, 27, 29, 30, 31, 33, 4000033, 35, 36, 2000037, 39, 40, 2000041, 44, 45, 2000046, 48, 49, 2000050, 70, 4000070, 21, 73, 104, 2000105, 108, 2000109, 75] | _ => false
noncomputable def E65 (u : Nat → Nat) : Env := mkE (ldW 3 0 u :: L125) S65
theorem envE65 (u : Nat → Nat) : EnvOK (E65 u) := envMk (show AllCT (ldW 3 0 u :: L125) from ⟨ldW_ok _ _ _, L125_ok⟩) _
def T65a (s : ByteArray) (c : Nat) (i : Int) : List AV := slots 167 [(1, .val (sS s)), (2, .val (.one (.sl 0 0 80 c))), (3, pV 1), (6, pV 2), (7, pV 3), (8, iV i)]
def M65a (e : TypeId) (h : W8) (w : Blk) : List Blk := [tB e, hB h, hB z8W, w]
def T65b (c : Nat) (i : Int) : List AV := slots 167 [(2, .val (.one (.sl 0 0 80 c))), (3, pV 1), (6, pV 2), (7, pV 3), (11, pV 4), (12, iV i)]
def M65b (e : TypeId) (h v : W8) (u : Nat → Nat) : List Blk := [tB e, hB h, hB z8W, cB u, hB v]
end Go.Ev.H5

namespace Go.Ev
open Go Go.Proofs Go.RowKit
def dropM : Option (List Prop × List Bool × AV × List Blk) → Option (List Prop × AV)
 | some (o, _, r, _) => some (o, r)
 | none => none
theorem dropM_some {x : Option (List Prop × List Bool × AV × List Blk)} {o : List Prop} {r : AV} (h : dropM x = some (o, r)) : ∃ c m, x = some (o, c, r, m) := by
 unfold dropM at h
 split at h
 ·rename_i o' c r' m
  simp only [Option.some.injEq, Prod.mk.injEq] at h
  obtain ⟨rfl, rfl⟩ := h
  exact ⟨c, m, rfl⟩
 ·simp at h
end Go.Ev

namespace Go.Ev.H5
open Go Go.Proofs Go.RowKit
theorem r65a (e : TypeId) (h : W8) (c : Nat) (s : ByteArray) (l : List Nat) (i : Nat) : runTo (E65 zW) 1000 (Env.S (E65 zW) 81) (bodyOf Tryz.prog 81 3) (T65a s c (↑i : Int)) (M65a e h (wB l)) [true, true] (T65a s c ((↑i : Int) + (1 : Int))) 4 =
  some ([decide ((↑i : Int) < (80 : Int)) = true, decide ((↑i : Int) < (16 : Int)) = true, inI ((8 : Int) * (↑i : Int)), inI ((8 : Int) * (↑i : Int)), inI ((8 : Int) * (↑i : Int) + (8 : Int)), (0 : Int) ≤ (8 : Int) * (↑i : Int) + (8 : Int) ∧ (8 : Int) * (↑i : Int) + (8 : Int) ≤ (↑(ByteArray.size s) : Int), (0 : Int) ≤ (8 : Int) * (↑i : Int) ∧ (8 : Int) * (↑i : Int) ≤ (↑(Int.toNat ((8 : Int) * (↑i : Int) + (8 : Int))) : Int), 8 ≤ ByteArray.size (ByteArray.extract s (Int.toNat ((8 : Int) * (↑i : Int))) (Int.toNat ((8 : Int) * (↑i : Int) + (8 : Int)))), (0 : Int) ≤ (↑i : Int) ∧ (↑i : Int) < ((80 : Nat) : Int), 0 + i * 1 < List.length l, inI ((↑i : Int) + (1 : Int))], .normal, T65a s c ((i : Int) + 1), M65a e h (wB (l.set (iT i) (word8 (s.extract (8 * i) (8 * i + 8)) 0)))) := by kernel_rfl
theorem r65b (e : TypeId) (h : W8) (c : Nat) (s : ByteArray) (l : List Nat) (i : Nat) : runTo (E65 zW) 1000 (Env.S (E65 zW) 81) (bodyOf Tryz.prog 81 3) (T65a s c (↑i : Int)) (M65a e h (wB l)) [true, false] (T65a s c ((↑i : Int) + (1 : Int))) 4 =
  some ([decide ((↑i : Int) < (80 : Int)) = true, decide ((↑i : Int) < (16 : Int)) = false, inI ((↑i : Int) - (15 : Int)), (0 : Int) ≤ (↑i : Int) - (15 : Int) ∧ (↑i : Int) - (15 : Int) < ((80 : Nat) : Int), 0 + Int.toNat ((↑i : Int) - (15 : Int)) * 1 < List.length l, inI ((↑i : Int) - (2 : Int)), (0 : Int) ≤ (↑i : Int) - (2 : Int) ∧ (↑i : Int) - (2 : Int) < ((80 : Nat) : Int), 0 + Int.toNat ((↑i : Int) - (2 : Int)) * 1 < List.length l, inI ((↑i : Int) - (16 : Int)), (0 : Int) ≤ (↑i : Int) - (16 : Int) ∧ (↑i : Int) - (16 : Int) < ((80 : Nat) : Int), 0 + Int.toNat ((↑i : Int) - (16 : Int)) * 1 < List.length l, inI ((↑i : Int) - (7 : Int)), (0 : Int) ≤ (↑i : Int) - (7 : Int) ∧ (↑i : Int) - (7 : Int) < ((80 : Nat) : Int), 0 + Int.toNat ((↑i : Int) - (7 : Int)) * 1 < List.length l, (0 : Int) ≤ (↑i : Int) ∧ (↑i : Int) < ((80 : Nat) : Int), 0 + i * 1 < List.length l, inI ((↑i : Int) + (1 : Int))], .normal, T65a s c ((i : Int) + 1), M65a e h (wB (l.set (iT i) (schQ l i)))) := by kernel_rfl
theorem r65x (e : TypeId) (h : W8) (c : Nat) (s : ByteArray) (l : List Nat) (i : Nat) : runTo (E65 zW) 1000 (Env.S (E65 zW) 81) (bodyOf Tryz.prog 81 3) (T65a s c (↑i : Int)) (M65a e h (wB l)) [false] (T65a s c (↑i : Int)) 4 =
  some ([decide ((↑i : Int) < (80 : Int)) = false], (.exit 0), T65a s c (i : Int), M65a e h (wB l)) := by kernel_rfl
theorem r65c (e : TypeId) (h v : W8) (u : Nat → Nat) (c i : Nat) : runTo (E65 u) 1000 (Env.S (E65 u) 81) (bodyOf Tryz.prog 81 11) (T65b c (i : Int)) (M65b e h v u) [true] (T65b c ((i : Int) + 1)) 5 =
  some ([decide ((i : Int) < 80) = true, (0 : Int) ≤ (i : Int) ∧ (i : Int) < ((80 : Nat) : Int), LoadsAs Tryz.prog 103 (cells64 80 0 shaK) (iT i) (.one (.u .u64 (shaK (iT i)))), (0 : Int) ≤ (i : Int) ∧ (i : Int) < ((80 : Nat) : Int), LoadsAs Tryz.prog 103 (cells64 80 0 u) (iT i) (.one (.u .u64 (u (iT i)))), inI ((i : Int) + 1)], .normal, T65b c ((i : Int) + 1), M65b e h (rnd v (shaK (iT i)) (u (iT i))) u) := by kernel_rfl
theorem r65y (e : TypeId) (h : W8) (v : W8) (u : Nat → Nat) (c : Nat) (i : Nat) : runTo (E65 u) 1000 (Env.S (E65 u) 81) (bodyOf Tryz.prog 81 11) (T65b c (↑i : Int)) (M65b e h v u) [false] (T65b c (↑i : Int)) 5 =
  some ([decide ((↑i : Int) < (80 : Int)) = false], (.exit 2), T65b c (i : Int), M65b e h v u) := by kernel_rfl
theorem M65a_free (e : TypeId) (h : W8) (w : Blk) (hw : Free w) : ∀ b ∈ M65a e h w, Free b := by
 intro b hb
 simp only [M65a, List.mem_cons, List.not_mem_nil, or_false] at hb
 rcases hb with rfl | rfl | rfl | rfl
 ·exact fun f => cells64_free _ f _ _
 ·exact hB_free _
 ·exact hB_free _
 ·exact hw
theorem M65a_len (e : TypeId) (h : W8) (w : Blk) : (M65a e h w).length = 4 := by simp only [M65a, List.length_cons, List.length_nil]
theorem wf65a (e : TypeId) (h : W8) (w : Blk) (hw : Free w) (s : ByteArray) (c : Nat) (i : Int) : wfS (T65a s c i) (M65a e h w) = true := wfS_of (M65a_free e h w hw) (by rw [M65a_len]; kernel_rfl)
theorem M65b_free (e : TypeId) (h v : W8) (u : Nat → Nat) : ∀ b ∈ M65b e h v u, Free b := by
 intro b hb
 simp only [M65b, List.mem_cons, List.not_mem_nil, or_false] at hb
 rcases hb with rfl | rfl | rfl | rfl | rfl
 ·exact fun f => cells64_free _ f _ _
 ·exact hB_free _
 ·exact hB_free _
 ·exact cB_free _
 ·exact hB_free _
theorem M65b_len (e : TypeId) (h v : W8) (u : Nat → Nat) : (M65b e h v u).length = 5 := by simp only [M65b, List.length_cons, List.length_nil]
theorem wf65b (e : TypeId) (h v : W8) (u : Nat → Nat) (c : Nat) (i : Int) : wfS (T65b c i) (M65b e h v u) = true := wfS_of (M65b_free e h v u) (by rw [M65b_len]; kernel_rfl)
theorem step65a (e : TypeId) (h : W8) (c : Nat) (s : ByteArray) (hs : 128 ≤ s.size) (hl : s.size ≤ 4611686018427387904) (i : Nat) (hi : i < 80) (l : List Nat) (hlen : l.length = 80) :
  Goes Tryz.prog (bodyOf Tryz.prog 81 3) .normal (T65a s c (i : Int)) (M65a e h (wB l)) (T65a s c ((i : Int) + 1)) (M65a e h (wB (l.set i (bif decide (i < 16) then word8 s (8 * i) else schP l i)))) := by
 by_cases h16 : i < 16
 ·have hr := r65a e h c s l i
  rw [show (Int.toNat ((8 : Int) * (i : Int))) = 8 * i by omega, show (Int.toNat ((8 : Int) * (i : Int) + 8)) = 8 * i + 8 by omega, word8_cut s (8 * i) (8 * i + 8) (by omega) (by omega), iT_eq] at hr
  rw [decide_eq_true h16, cond_true]
  exact Runs.goes (envE65 zW) ⟨_, _, hr, ⟨decide_eq_true (by omega), decide_eq_true (by omega), by unfold inI; omega, by unfold inI; omega, by unfold inI; omega, by omega, by omega, by rw [cut_size _ _ _ (by omega)]; omega, by omega, by omega, by unfold inI; omega, trivial⟩, wf65a _ _ _ (wB_free _) _ _ _⟩
 ·have hr := r65b e h c s l i
  rw [iT_eq, schQ_eq] at hr
  rw [decide_eq_false h16, cond_false]
  exact Runs.goes (envE65 zW) ⟨_, _, hr, ⟨decide_eq_true (by omega), decide_eq_false (by omega), by unfold inI; omega, by omega, by omega, by unfold inI; omega, by omega, by omega, by unfold inI; omega, by omega, by omega, by unfold inI; omega, by omega, by omega, by omega, by omega, by unfold inI; omega, trivial⟩, wf65a _ _ _ (wB_free _) _ _ _⟩
theorem loop65a (e : TypeId) (h0 : W8) (c : Nat) (s : ByteArray) (hs : 128 ≤ s.size) (hl : s.size ≤ 4611686018427387904) (n : Nat) (hn : n = 80) (L : Nat → List Nat) (hL : ∀ i, (L i).length = 80) (h : ∀ i, L (i + 1) = (L i).set i (bif decide (i < 16) then word8 s (8 * i) else schP (L i) i)) :
  Goes Tryz.prog (.loop (bodyOf Tryz.prog 81 3)) (.exit 0) (T65a s c ((0 : Nat) : Int)) (M65a e h0 (wB (L 0))) (T65a s c (n : Int)) (M65a e h0 (wB (L n))) := by
 refine loop_goes (N := n) (k := 4) (T := fun i => T65a s c (i : Int)) (M := fun i => M65a e h0 (wB (L i))) (by simp) (fun _ _ => M65a_len _ _ _) (fun i hi => ?_) ?_
 ·have := step65a e h0 c s hs hl i (by omega) (L i) (hL i)
  rw [← h i] at this
  exact this
 ·exact Runs.goes (envE65 zW) ⟨_, _, r65x e h0 c s (L n) n, ⟨decide_eq_false (by omega), trivial⟩, wf65a _ _ _ (wB_free _) _ _ _⟩
theorem sch65 (e : TypeId) (h : W8) (c : Nat) (s : ByteArray) (hs : 128 ≤ s.size) (hl : s.size ≤ 4611686018427387904) :
  Goes Tryz.prog (.loop (bodyOf Tryz.prog 81 3)) (.exit 0) (T65a s c ((0 : Nat) : Int)) (M65a e h (cB zW)) (T65a s c ((80 : Nat) : Int)) (M65a e h (cB (schW s))) := by
 refine Goes.before (Goes.after (loop65a e h c s hs hl 80 rfl (schL s) (schL_len s) (fun _ => rfl)) (sameT_refl _) ⟨⟨rfl, rfl, rfl, rfl, fun φ => rfl⟩, ⟨rfl, rfl, rfl, rfl, fun φ => rfl⟩, ⟨rfl, rfl, rfl, rfl, fun φ => rfl⟩, ⟨rfl, rfl, rfl, rfl, fun φ => ?_⟩, trivial⟩ (wf65a _ _ _ (cB_free _) _ _ _))
  (sameT_refl _) ⟨⟨rfl, rfl, rfl, rfl, fun φ => rfl⟩, ⟨rfl, rfl, rfl, rfl, fun φ => rfl⟩, ⟨rfl, rfl, rfl, rfl, fun φ => rfl⟩, ⟨rfl, rfl, rfl, rfl, fun φ => ?_⟩, trivial⟩ (wf65a _ _ _ (wB_free _) _ _ _)
 ·exact arr64_conc φ (schL s 80) 80 (schL_len s 80)
 ·exact (arr64_conc φ (List.replicate 80 0) 80 List.length_replicate).symm
theorem step65b (e : TypeId) (h v : W8) (u : Nat → Nat) (c i : Nat) (hi : i < 80) : Goes Tryz.prog (bodyOf Tryz.prog 81 11) .normal (T65b c (i : Int)) (M65b e h v u) (T65b c ((i : Int) + 1)) (M65b e h (rnd v (shaK i) (u i)) u) := by
 have hr := r65c e h v u c i
 rw [iT_eq] at hr
 exact Runs.goes (envE65 u) ⟨_, _, hr, ⟨decide_eq_true (by omega), by omega, ld64 _ _ _ hi, by omega, ld64 _ _ _ hi, by unfold inI; omega, trivial⟩, wf65b _ _ _ _ _ _⟩
theorem loop65b (e : TypeId) (h : W8) (u : Nat → Nat) (c n : Nat) (hn : n = 80) (V : Nat → W8) (hV : ∀ i, V (i + 1) = rnd (V i) (shaK i) (u i)) :
  Goes Tryz.prog (.loop (bodyOf Tryz.prog 81 11)) (.exit 2) (T65b c ((0 : Nat) : Int)) (M65b e h (V 0) u) (T65b c (n : Int)) (M65b e h (V n) u) := by
 refine loop_goes (N := n) (k := 5) (T := fun i => T65b c (i : Int)) (M := fun i => M65b e h (V i) u) (by simp) (fun _ _ => M65b_len _ _ _ _) (fun i hi => ?_) ?_
 ·have := step65b e h (V i) u c i (by omega)
  rw [← hV i] at this
  exact this
 ·exact Runs.goes (envE65 u) ⟨_, _, r65y e h (V n) u c n, ⟨decide_eq_false (by omega), trivial⟩, wf65b _ _ _ _ _ _⟩
theorem rounds65 (e : TypeId) (h : W8) (u : Nat → Nat) (c : Nat) : Goes Tryz.prog (.loop (bodyOf Tryz.prog 81 11)) (.exit 2) (T65b c ((0 : Nat) : Int)) (M65b e h h u) (T65b c ((80 : Nat) : Int)) (M65b e h (vE u h) u) := loop65b e h u c 80 rfl (vR u h) (fun _ => rfl)
noncomputable def E65L (e : TypeId) (h : W8) (s : ByteArray) (c : Nat) : Env := withL (E65 (schW s)) 3 (bodyOf Tryz.prog 81 3) (sumC (T65a s c ((0 : Nat) : Int)) (M65a e h (cB zW)) (T65a s c ((80 : Nat) : Int)) (M65a e h (cB (schW s))) (.exit 0))
noncomputable def addLp (E : Env) (k : Nat) (y : Code) (f : List AV → List Blk → List Bool → CoR) : Env := { E with lp := fun j => match Nat.beq j k with | true => some (y, f) | false => E.lp j }
theorem envAddLp {E : Env} (hE : EnvOK E) {k : Nat} {y : Code} {f : List AV → List Blk → List Bool → CoR} (h : SumOK E.P (.loop y) f) : EnvOK (addLp E k y f) := by
 refine ⟨hE.mixed, hE.fns, hE.fms, ?_, hE.fbs⟩
 intro j y' f' hj
 simp only [addLp] at hj
 split at hj
 ·simp only [Option.some.injEq, Prod.mk.injEq] at hj
  obtain ⟨rfl, rfl⟩ := hj
  exact h
 ·exact hE.lps j y' f' hj
noncomputable def E65M (e : TypeId) (h : W8) (s : ByteArray) (c : Nat) : Env := addLp (E65L e h s c) 11 (bodyOf Tryz.prog 81 11) (sumC (T65b c ((0 : Nat) : Int)) (M65b e h h (schW s)) (T65b c ((80 : Nat) : Int)) (M65b e h (vE (schW s) h) (schW s)) (.exit 2))
theorem envE65L (e : TypeId) (h : W8) (s : ByteArray) (c : Nat) (hs : 128 ≤ s.size) (hl : s.size ≤ 4611686018427387904) : EnvOK (E65L e h s c) := envWithL (envE65 _) (sumC_ok (by rw [M65a_len, M65a_len]) (sch65 e h c s hs hl))
theorem envE65M (e : TypeId) (h : W8) (s : ByteArray) (c : Nat) (hs : 128 ≤ s.size) (hl : s.size ≤ 4611686018427387904) : EnvOK (E65M e h s c) := envAddLp (envE65L e h s c hs hl) (sumC_ok (by rw [M65b_len, M65b_len]) (rounds65 e h (schW s) c))
def slK (c : Nat) : V1 := .one (.sl 0 0 80 c)
theorem r65 (e : TypeId) (h : W8) (s : ByteArray) (c : Nat) : dropM (callBy (E65M e h s c) (evalC (E65M e h s c) 1000) 81 [aV h, sS s, slK c] [tB e] []) =
  some ([bodyOf Tryz.prog 81 3 = bodyOf Tryz.prog 81 3, (T65a s c ((0 : Nat) : Int), M65a e h (cB zW)) = (T65a s c ((0 : Nat) : Int), M65a e h (cB zW)), wfS (T65a s c ((0 : Nat) : Int)) (M65a e h (cB zW)) = true,
   bodyOf Tryz.prog 81 11 = bodyOf Tryz.prog 81 11, (T65b c ((0 : Nat) : Int), M65b e h h (schW s)) = (T65b c ((0 : Nat) : Int), M65b e h h (schW s)), wfS (T65b c ((0 : Nat) : Int)) (M65b e h h (schW s)) = true], .val (aV (blk5 h s))) := by kernel_rfl
end Go.Ev.H5

