/- SHA-512: the program and the page come to one sum; Roots, and points of the curve: what the functions on them come to; Primes, and arithmetic modulo one -/
import Derived.Test.YtfcobjhnkghdjaaGreatPartL
import Derived.Test.YtfcobjhnkghdjaaGreatPartJ
import Derived.Test.YtfcobjhnkghdjaaGreatPartG
import Derived.Test.YtfcobjhnkghdjaaGreatPartK
import Derived.Test.YtfcobjhnkghdjaaGreatRows
namespace Go.Ev.H5
open Go Go.Proofs Go.RowKit
def u64 (n : Nat) : V1 := .one (.u .u64 n)
def byteAt (s : ByteArray) (i : Nat) : Nat := (s.data.getD i 0).toNat
def M64 : Nat := 18446744073709551616
def sh8 (x b : Nat) : Nat := x * 256 % M64 % M64 ||| b % M64 % M64
def word8 (s : ByteArray) (i : Nat) : Nat := sh8 (sh8 (sh8 (sh8 (sh8 (sh8 (sh8 (sh8 0 (byteAt s i)) (byteAt s (i + 1))) (byteAt s (i + 2))) (byteAt s (i + 3))) (byteAt s (i + 4))) (byteAt s (i + 5))) (byteAt s (i + 6))) (byteAt s (i + 7))
noncomputable def E137 : Env := { E0 with S := fun f t => match f with | 148 => memN t [11] | 117 => memN t [13] | _ => false }
theorem envE137 : EnvOK E137 := ⟨mixed, envE0.fns, envE0.fms, envE0.lps, envE0.fbs⟩
def i8ob (s : ByteArray) : List Prop := [(0 : Int) ≤ 0 ∧ (0 : Int) < s.size, (0 : Int) ≤ 1 ∧ (1 : Int) < s.size, (0 : Int) ≤ 2 ∧ (2 : Int) < s.size, (0 : Int) ≤ 3 ∧ (3 : Int) < s.size, (0 : Int) ≤ 4 ∧ (4 : Int) < s.size, (0 : Int) ≤ 5 ∧ (5 : Int) < s.size, (0 : Int) ≤ 6 ∧ (6 : Int) < s.size, (0 : Int) ≤ 7 ∧ (7 : Int) < s.size]
theorem run137 (s : ByteArray) : callR E137 1000 148 [sS s] [] = some (i8ob s, .val (u64 (word8 s 0))) := by kernel_rfl
theorem run103 (s : ByteArray) : callR E137 1000 117 [sS s] [] = some (i8ob s, .val (u64 (word8 s 0))) := by kernel_rfl
def fnW8 (vs : List V1) : Option (List Prop × AV) :=
  match vs with
  | [.one (.v (.string s))] => some ([8 ≤ s.size], .val (u64 (word8 s 0)))
  | _ => none
theorem i8ok {s : ByteArray} (h : 8 ≤ s.size) : All (i8ob s) := ⟨by omega, by omega, by omega, by omega, by omega, by omega, by omega, by omega, trivial⟩
theorem ct137 : CTok ⟨148, fnW8⟩ := by
  intro vs ob r h ho
  simp only [fnW8] at h
  split at h
  · simp only [Option.some.injEq, Prod.mk.injEq] at h
    obtain ⟨rfl, rfl⟩ := h
    exact spec_run envE137 rfl (run137 _) (i8ok ho.1) rfl rfl
  · simp at h
theorem ct103 : CTok ⟨117, fnW8⟩ := by
  intro vs ob r h ho
  simp only [fnW8] at h
  split at h
  · simp only [Option.some.injEq, Prod.mk.injEq] at h
    obtain ⟨rfl, rfl⟩ := h
    exact spec_run envE137 rfl (run103 _) (i8ok ho.1) rfl rfl
  · simp at h
def rot (x n : Nat) : Nat := x * 2 ^ (64 - n) % M64 % M64 ||| x / 2 ^ n % M64
def rot' (x n : Nat) : Nat := x / 2 ^ n % M64 ||| x * 2 ^ (64 - n) % M64 % M64
theorem rot'_eq (x n : Nat) : rot' x n = rot x n := Nat.or_comm _ _
def turns : List Nat := [1, 8, 14, 18, 19, 28, 34, 39, 41, 61]
theorem run127 (x : Nat) : (callR E0 1000 121 [u64 x, .one (.i 1)] [] = some ([], .val (u64 (rot x 1)))) ∧ (callR E0 1000 121 [u64 x, .one (.i 8)] [] = some ([], .val (u64 (rot x 8)))) ∧ (callR E0 1000 121 [u64 x, .one (.i 14)] [] = some ([], .val (u64 (rot x 14))))
    ∧ (callR E0 1000 121 [u64 x, .one (.i 18)] [] = some ([], .val (u64 (rot x 18)))) ∧ (callR E0 1000 121 [u64 x, .one (.i 19)] [] = some ([], .val (u64 (rot x 19)))) ∧ (callR E0 1000 121 [u64 x, .one (.i 28)] [] = some ([], .val (u64 (rot x 28))))
    ∧ (callR E0 1000 121 [u64 x, .one (.i 34)] [] = some ([], .val (u64 (rot x 34)))) ∧ (callR E0 1000 121 [u64 x, .one (.i 39)] [] = some ([], .val (u64 (rot x 39)))) ∧ (callR E0 1000 121 [u64 x, .one (.i 41)] [] = some ([], .val (u64 (rot x 41))))
    ∧ (callR E0 1000 121 [u64 x, .one (.i 61)] [] = some ([], .val (u64 (rot x 61)))) := by
  refine ⟨?_, ?_, ?_, ?_, ?_, ?_, ?_, ?_, ?_, ?_⟩ <;> kernel_rfl
theorem run104 (x : Nat) : (callR E0 1000 118 [u64 x, .one (.i 1)] [] = some ([], .val (u64 (rot' x 1)))) ∧ (callR E0 1000 118 [u64 x, .one (.i 8)] [] = some ([], .val (u64 (rot' x 8)))) ∧ (callR E0 1000 118 [u64 x, .one (.i 14)] [] = some ([], .val (u64 (rot' x 14))))
    ∧ (callR E0 1000 118 [u64 x, .one (.i 18)] [] = some ([], .val (u64 (rot' x 18)))) ∧ (callR E0 1000 118 [u64 x, .one (.i 19)] [] = some ([], .val (u64 (rot' x 19)))) ∧ (callR E0 1000 118 [u64 x, .one (.i 28)] [] = some ([], .val (u64 (rot' x 28))))
    ∧ (callR E0 1000 118 [u64 x, .one (.i 34)] [] = some ([], .val (u64 (rot' x 34)))) ∧ (callR E0 1000 118 [u64 x, .one (.i 39)] [] = some ([], .val (u64 (rot' x 39)))) ∧ (callR E0 1000 118 [u64 x, .one (.i 41)] [] = some ([], .val (u64 (rot' x 41))))
    ∧ (callR E0 1000 118 [u64 x, .one (.i 61)] [] = some ([], .val (u64 (rot' x 61)))) := by
  refine ⟨?_, ?_, ?_, ?_, ?_, ?_, ?_, ?_, ?_, ?_⟩ <;> kernel_rfl
def fnRot (vs : List V1) : Option (List Prop × AV) :=
  match vs with
  | [.one (.u .u64 x), .one (.i (.ofNat n))] => match memN n turns with
    | true => some ([], .val (u64 (rot x n)))
    | false => none
  | _ => none
theorem mem_turns {n : Nat} (h : memN n turns = true) : n = 1 ∨ n = 8 ∨ n = 14 ∨ n = 18 ∨ n = 19 ∨ n = 28 ∨ n = 34 ∨ n = 39 ∨ n = 41 ∨ n = 61 := by
  simp only [turns, memN, Bool.or_false, Bool.or_eq_true] at h
  simpa only [Nat.beq_eq] using h
theorem ct127 : CTok ⟨121, fnRot⟩ := by
  intro vs ob r h _
  simp only [fnRot] at h
  split at h
  · rename_i x n
    split at h
    · rename_i hn
      simp only [Option.some.injEq, Prod.mk.injEq] at h
      obtain ⟨_, rfl⟩ := h
      obtain ⟨h1, h2, h3, h4, h5, h6, h7, h8, h9, h10⟩ := run127 x
      rcases mem_turns hn with rfl | rfl | rfl | rfl | rfl | rfl | rfl | rfl | rfl | rfl
      · exact spec_run envE0 rfl h1 trivial rfl rfl
      · exact spec_run envE0 rfl h2 trivial rfl rfl
      · exact spec_run envE0 rfl h3 trivial rfl rfl
      · exact spec_run envE0 rfl h4 trivial rfl rfl
      · exact spec_run envE0 rfl h5 trivial rfl rfl
      · exact spec_run envE0 rfl h6 trivial rfl rfl
      · exact spec_run envE0 rfl h7 trivial rfl rfl
      · exact spec_run envE0 rfl h8 trivial rfl rfl
      · exact spec_run envE0 rfl h9 trivial rfl rfl
      · exact spec_run envE0 rfl h10 trivial rfl rfl
    · simp at h
  · simp at h
theorem ct104r : CTok ⟨118, fnRot⟩ := by
  intro vs ob r h _
  simp only [fnRot] at h
  split at h
  · rename_i x n
    split at h
    · rename_i hn
      simp only [Option.some.injEq, Prod.mk.injEq] at h
      obtain ⟨_, rfl⟩ := h
      obtain ⟨h1, h2, h3, h4, h5, h6, h7, h8, h9, h10⟩ := run104 x
      simp only [rot'_eq] at h1 h2 h3 h4 h5 h6 h7 h8 h9 h10
      rcases mem_turns hn with rfl | rfl | rfl | rfl | rfl | rfl | rfl | rfl | rfl | rfl
      · exact spec_run envE0 rfl h1 trivial rfl rfl
      · exact spec_run envE0 rfl h2 trivial rfl rfl
      · exact spec_run envE0 rfl h3 trivial rfl rfl
      · exact spec_run envE0 rfl h4 trivial rfl rfl
      · exact spec_run envE0 rfl h5 trivial rfl rfl
      · exact spec_run envE0 rfl h6 trivial rfl rfl
      · exact spec_run envE0 rfl h7 trivial rfl rfl
      · exact spec_run envE0 rfl h8 trivial rfl rfl
      · exact spec_run envE0 rfl h9 trivial rfl rfl
      · exact spec_run envE0 rfl h10 trivial rfl rfl
    · simp at h
  · simp at h
def xor64 (x y : Nat) : Nat := x % M64 ^^^ y % M64
def and64 (x y : Nat) : Nat := x % M64 &&& y % M64
def add64 (x y : Nat) : Nat := (x + y) % M64
def not64 (x : Nat) : Nat := M64 - 1 - x % M64
def sig0 (x : Nat) : Nat := xor64 (xor64 (rot x 1) (rot x 8)) (x / 2 ^ 7)
def sig1 (y : Nat) : Nat := xor64 (xor64 (rot y 19) (rot y 61)) (y / 2 ^ 6)
def ixD (i d : Nat) : Nat := 0 + ((i : Int) - (d : Int)).toNat * 1
def schP (l : List Nat) (i : Nat) : Nat := add64 (add64 (add64 (l.getD (ixD i 16) 0) (sig0 (l.getD (ixD i 15) 0))) (l.getD (ixD i 7) 0)) (sig1 (l.getD (ixD i 2) 0))
def schQ (l : List Nat) (i : Nat) : Nat := add64 (add64 (add64 (l.getD (ixD i 16) 0) (l.getD (ixD i 7) 0)) (sig0 (l.getD (ixD i 15) 0))) (sig1 (l.getD (ixD i 2) 0))
theorem add64_swap (a b c : Nat) : add64 (add64 a b) c = add64 (add64 a c) b := by
  unfold add64
  rw [Nat.mod_add_mod, Nat.mod_add_mod]
  congr 1; omega
theorem schQ_eq (l : List Nat) (i : Nat) : schQ l i = schP l i := by unfold schQ schP; rw [add64_swap (l.getD (ixD i 16) 0)]
def wB (l : List Nat) : Blk := ⟨[.arr .u64 l], 137, true, false, 0⟩
noncomputable def L125 : List CT := [⟨148, fnW8⟩, ⟨117, fnW8⟩, ⟨121, fnRot⟩, ⟨118, fnRot⟩]
theorem L125_ok : AllCT L125 := ⟨ct137, ct103, ct127, ct104r, trivial⟩
noncomputable def S125 : FuncId → Nat → Bool := fun f t => match f with | 119 => memN t [9, 12, 16, 17, 19, 4000019, 21, 22, 2000023, 25, 26, 2000027, 46, 47, 2000048, 52, 53, 2000054, 58, 4000058, 59] | _ => false
def T125 (s : ByteArray) (i : Int) : List AV := slots 61 [(0, .val (sS s)), (2, pV 0), (8, iV i)]
noncomputable def E125 : Env := mkE L125 S125
end Go.Ev.H5

namespace Go.Ev.H5
open Go Go.Proofs Go.RowKit
theorem r125a (s : ByteArray) (l : List Nat) (i : Nat) : runTo E125 1000 (Env.S E125 119) (bodyOf Tryz.prog 119 2) (T125 s (↑i : Int)) [wB l] [true, true] (T125 s ((↑i : Int) + (1 : Int))) 1 =
    some ([decide ((↑i : Int) < (80 : Int)) = true, decide ((↑i : Int) < (16 : Int)) = true, inI ((8 : Int) * (↑i : Int)), (0 : Int) ≤ (8 : Int) * (↑i : Int) ∧ (8 : Int) * (↑i : Int) ≤ (↑(ByteArray.size s) : Int), 8 ≤ ByteArray.size (ByteArray.extract s (Int.toNat ((8 : Int) * (↑i : Int))) (ByteArray.size s)), (0 : Int) ≤ (↑i : Int) ∧ (↑i : Int) < ((80 : Nat) : Int), 0 + i * 1 < List.length l, inI ((↑i : Int) + (1 : Int))], .normal, T125 s ((i : Int) + 1), [wB (l.set (0 + (i : Int).toNat * 1) (word8 (s.extract (8 * i) s.size) 0))]) := by kernel_rfl
theorem r125b (s : ByteArray) (l : List Nat) (i : Nat) : runTo E125 1000 (Env.S E125 119) (bodyOf Tryz.prog 119 2) (T125 s (↑i : Int)) [wB l] [true, false] (T125 s ((↑i : Int) + (1 : Int))) 1 =
    some ([decide ((↑i : Int) < (80 : Int)) = true, decide ((↑i : Int) < (16 : Int)) = false, inI ((↑i : Int) - (15 : Int)), (0 : Int) ≤ (↑i : Int) - (15 : Int) ∧ (↑i : Int) - (15 : Int) < ((80 : Nat) : Int), 0 + Int.toNat ((↑i : Int) - (15 : Int)) * 1 < List.length l, inI ((↑i : Int) - (2 : Int)), (0 : Int) ≤ (↑i : Int) - (2 : Int) ∧ (↑i : Int) - (2 : Int) < ((80 : Nat) : Int), 0 + Int.toNat ((↑i : Int) - (2 : Int)) * 1 < List.length l, inI ((↑i : Int) - (16 : Int)), (0 : Int) ≤ (↑i : Int) - (16 : Int) ∧ (↑i : Int) - (16 : Int) < ((80 : Nat) : Int), 0 + Int.toNat ((↑i : Int) - (16 : Int)) * 1 < List.length l, inI ((↑i : Int) - (7 : Int)), (0 : Int) ≤ (↑i : Int) - (7 : Int) ∧ (↑i : Int) - (7 : Int) < ((80 : Nat) : Int), 0 + Int.toNat ((↑i : Int) - (7 : Int)) * 1 < List.length l, (0 : Int) ≤ (↑i : Int) ∧ (↑i : Int) < ((80 : Nat) : Int), 0 + i * 1 < List.length l, inI ((↑i : Int) + (1 : Int))], .normal, T125 s ((i : Int) + 1), [wB (l.set (0 + (i : Int).toNat * 1) (schP l i))]) := by kernel_rfl
theorem r125x (s : ByteArray) (l : List Nat) (i : Nat) : runTo E125 1000 (Env.S E125 119) (bodyOf Tryz.prog 119 2) (T125 s (↑i : Int)) [wB l] [false] (T125 s (↑i : Int)) 1 =
    some ([decide ((↑i : Int) < (80 : Int)) = false], (.exit 0), T125 s (i : Int), [wB l]) := by kernel_rfl
end Go.Ev.H5

namespace Go.Ev.H5
open Go Go.Proofs Go.RowKit
def schL (s : ByteArray) : Nat → List Nat
  | 0 => List.replicate 80 0
  | i + 1 => (schL s i).set i (bif decide (i < 16) then word8 s (8 * i) else schP (schL s i) i)
theorem schL_len (s : ByteArray) : ∀ i, (schL s i).length = 80
  | 0 => List.length_replicate
  | i + 1 => by rw [schL, List.length_set]; exact schL_len s i
theorem byteAt_cut (s : ByteArray) (a b i : Nat) (h : a + i < b) (hb : b ≤ s.size) : byteAt (s.extract a b) i = byteAt s (a + i) := by
  unfold byteAt
  rw [ByteArray.data_extract]
  simp only [Array.getD_eq_getD_getElem?]
  rw [Array.getElem?_extract]
  have : i < min b s.data.size - a := by
    have : s.data.size = s.size := rfl
    omega
  rw [if_pos this]
theorem word8_cut (s : ByteArray) (a b : Nat) (h : a + 8 ≤ b) (hb : b ≤ s.size) : word8 (s.extract a b) 0 = word8 s a := by
  unfold word8
  rw [byteAt_cut s a b 0 (by omega) hb, byteAt_cut s a b (0 + 1) (by omega) hb, byteAt_cut s a b (0 + 2) (by omega) hb, byteAt_cut s a b (0 + 3) (by omega) hb,
    byteAt_cut s a b (0 + 4) (by omega) hb, byteAt_cut s a b (0 + 5) (by omega) hb, byteAt_cut s a b (0 + 6) (by omega) hb, byteAt_cut s a b (0 + 7) (by omega) hb]
  rfl
theorem wB_free (l : List Nat) : Free (wB l) := fun _ => rfl
theorem wf125 (s : ByteArray) (l : List Nat) (i : Int) : wfS (T125 s i) [wB l] = true := wfS_of (by
  intro b hb
  simp only [List.mem_cons, List.not_mem_nil, or_false] at hb
  subst hb
  exact wB_free l) (by show tmsWf 1 _ = true; kernel_rfl)
theorem envE125 : EnvOK E125 := envMk L125_ok _
theorem cut_size (s : ByteArray) (a b : Nat) (hb : b ≤ s.size) : (s.extract a b).size = b - a := by
  rw [ByteArray.size_extract]; omega
theorem step125 (s : ByteArray) (hs : 128 ≤ s.size) (hl : s.size ≤ 4611686018427387904) (i : Nat) (hi : i < 80) (l : List Nat) (hlen : l.length = 80) :
    Goes Tryz.prog (bodyOf Tryz.prog 119 2) .normal (T125 s (i : Int)) [wB l] (T125 s ((i : Int) + 1)) [wB (l.set i (bif decide (i < 16) then word8 s (8 * i) else schP l i))] := by
  have e0 : (0 + (i : Int).toNat * 1) = i := by omega
  by_cases h16 : i < 16
  · have hr := r125a s l i
    rw [show (Int.toNat ((8 : Int) * (i : Int))) = 8 * i by omega, word8_cut s (8 * i) s.size (by omega) (Nat.le_refl _), e0] at hr
    rw [decide_eq_true h16, cond_true]
    exact Runs.goes envE125 ⟨_, _, hr, ⟨decide_eq_true (by omega), decide_eq_true (by omega), by unfold inI; omega, by omega, by rw [cut_size _ _ _ (Nat.le_refl _)]; omega, by omega, by omega, by unfold inI; omega, trivial⟩, wf125 _ _ _⟩
  · have hr := r125b s l i
    rw [e0] at hr
    rw [decide_eq_false h16, cond_false]
    exact Runs.goes envE125 ⟨_, _, hr, ⟨decide_eq_true (by omega), decide_eq_false (by omega), by unfold inI; omega, by omega, by omega, by unfold inI; omega, by omega, by omega, by unfold inI; omega, by omega, by omega, by unfold inI; omega, by omega, by omega, by omega, by omega, by unfold inI; omega, trivial⟩, wf125 _ _ _⟩
theorem loop125 (s : ByteArray) (hs : 128 ≤ s.size) (hl : s.size ≤ 4611686018427387904) (n : Nat) (hn : n = 80) (L : Nat → List Nat) (hL : ∀ i, (L i).length = 80) (h : ∀ i, L (i + 1) = (L i).set i (bif decide (i < 16) then word8 s (8 * i) else schP (L i) i)) :
    Goes Tryz.prog (.loop (bodyOf Tryz.prog 119 2)) (.exit 0) (T125 s ((0 : Nat) : Int)) [wB (L 0)] (T125 s (n : Int)) [wB (L n)] := by
  refine loop_goes (N := n) (k := 1) (T := fun i => T125 s (i : Int)) (M := fun i => [wB (L i)]) (by simp) (fun _ _ => rfl) (fun i hi => ?_) ?_
  · have := step125 s hs hl i (by omega) (L i) (hL i)
    rw [← h i] at this
    exact this
  · exact Runs.goes envE125 ⟨_, _, r125x s (L n) n, ⟨decide_eq_false (by omega), trivial⟩, wf125 _ _ _⟩
def cells64 : Nat → Nat → (Nat → Nat) → List Piece
  | 0, _, _ => []
  | n + 1, j, u => .a (.u .u64 (u j)) :: cells64 n (j + 1) u
theorem cells64_conc (φ : Loc) (u : Nat → Nat) : ∀ n j, concs φ (cells64 n j u) = (List.range' j n).map fun i => Value.int .u64 ((u i : Nat) : Int)
  | 0, _ => rfl
  | n + 1, j => by
    rw [List.range'_succ, List.map_cons, ← cells64_conc φ u n (j + 1)]
    rfl
theorem arr64_conc (φ : Loc) (l : List Nat) (n : Nat) (h : l.length = n) : concs φ [.arr .u64 l] = concs φ (cells64 n 0 fun j => l.getD j 0) := by
  rw [cells64_conc, arr_conc]
  subst h
  apply List.ext_getElem (by simp)
  intro i h1 h2
  simp only [List.getElem_map, List.getElem_range']
  rw [List.length_map] at h1
  simp [List.getD_eq_getElem?_getD, List.getElem?_eq_getElem h1]
theorem cells64_free (u : Nat → Nat) (f : Nat → Bool) : ∀ n j, allPtr f (cells64 n j u) = true
  | 0, _ => rfl
  | n + 1, j => cells64_free u f n (j + 1)
noncomputable def schW (s : ByteArray) (j : Nat) : Nat := (schL s 80).getD j 0
def cB (u : Nat → Nat) : Blk := ⟨cells64 80 0 u, 137, true, false, 0⟩
theorem cB_free (u : Nat → Nat) : Free (cB u) := fun f => cells64_free u f 80 0
theorem wfC125 (s : ByteArray) (u : Nat → Nat) (i : Int) : wfS (T125 s i) [cB u] = true := wfS_of (by
  intro b hb
  simp only [List.mem_cons, List.not_mem_nil, or_false] at hb
  subst hb
  exact cB_free u) (by show tmsWf 1 _ = true; kernel_rfl)
def zW (_ : Nat) : Nat := 0
theorem sch_loop (s : ByteArray) (hs : 128 ≤ s.size) (hl : s.size ≤ 4611686018427387904) : Goes Tryz.prog (.loop (bodyOf Tryz.prog 119 2)) (.exit 0) (T125 s ((0 : Nat) : Int)) [cB zW] (T125 s ((80 : Nat) : Int)) [cB (schW s)] := by
  refine Goes.before (Goes.after (loop125 s hs hl 80 rfl (schL s) (schL_len s) (fun _ => rfl)) (sameT_refl _) ⟨⟨rfl, rfl, rfl, rfl, fun φ => ?_⟩, trivial⟩ (wfC125 _ _ _)) (sameT_refl _) ⟨⟨rfl, rfl, rfl, rfl, fun φ => ?_⟩, trivial⟩ (wf125 _ _ _)
  · exact arr64_conc φ (schL s 80) 80 (schL_len s 80)
  · exact (arr64_conc φ (List.replicate 80 0) 80 List.length_replicate).symm
end Go.Ev.H5

namespace Go.Ev
open Go Go.Proofs Go.RowKit

def gMod : List Val → Option (List Prop × AV)
  | [.z z] => some ([], bV (modB z))
  | _ => none
def gModulus : List Val → Option (List Prop × AV)
  | [.z z] => some ([], .tup [N8 (bif modB z then modN z.toNat else 0), .one (.v (.bool (modB z)))])
  | _ => none
def gBit : List Val → Option (List Prop × AV)
  | [.n a, .z z] => some ([0 ≤ z ∧ z < 256], bV (bitB a z.toNat))
  | _ => none
theorem ct59 : CTok ⟨54, fnS [.z] gMod⟩ := ctS (by
  intro xs ob r hb h ho
  unfold gMod at h
  split at h
  · simp only [Option.some.injEq, Prod.mk.injEq] at h
    obtain ⟨rfl, rfl⟩ := h
    exact spec19 _
  · simp at h)
theorem ct105 : CTok ⟨139, fnS [.z] gModulus⟩ := ctS (by
  intro xs ob r hb h ho
  unfold gModulus at h
  split at h
  · rename_i z
    simp only [Option.some.injEq, Prod.mk.injEq] at h
    obtain ⟨rfl, rfl⟩ := h
    cases hz : modB z with
    | true =>
      obtain ⟨n, rfl⟩ : ∃ n : Nat, z = (n : Int) := ⟨z.toNat, by have := modB_t hz; omega⟩
      exact spec39 n (by have := modB_t hz; omega)
    | false => exact spec39b z hz
  · simp at h)
theorem ct104 : CTok ⟨134, fnS [.s [.n8], .z] gBit⟩ := ctS (by
  intro xs ob r hb h ho
  unfold gBit at h
  split at h
  · rename_i a z
    simp only [Option.some.injEq, Prod.mk.injEq] at h
    obtain ⟨rfl, rfl⟩ := h
    obtain ⟨h0, _⟩ := ho
    obtain ⟨n, rfl⟩ : ∃ n : Nat, z = (n : Int) := ⟨z.toNat, by omega⟩
    exact spec76 a n (by omega)
  · simp at h)
noncomputable def L0 : List CT := [⟨131, fnRf mmN⟩, ⟨107, fnR addM⟩, ⟨163, fnR subM⟩, ⟨110, fnG mmN⟩, ⟨35, fnG addM⟩, ⟨147, fnG subM⟩, ⟨127, fn55⟩, ⟨130, fnR1 outN⟩, ⟨116, fnG1 inN⟩, ⟨111, fnG1 outN⟩, ⟨126, fnK g52⟩, ⟨34, fnK (fun k => .val (rgK k))⟩, ⟨56, fnK g21⟩, ⟨139, fnS [.z] gModulus⟩, ⟨54, fnS [.z] gMod⟩, ⟨156, fnRp mpowN⟩, ⟨129, fnR1 minvN⟩, ⟨109, fn59⟩, ⟨140, fn2 gCmp⟩, ⟨142, fn2 gSub⟩, ⟨141, fn2 gAdd⟩, ⟨143, fn85⟩, ⟨83, fn2 gCmp⟩, ⟨58, fn2 gAdd⟩, ⟨59, fn2 gSub⟩, ⟨55, fn2 gLess⟩, ⟨146, fn2 (fun a b => .val (N16 (joinN a b)))⟩, ⟨84, fn62⟩, ⟨132, fn1 (fun a => iV (lenN a : Int))⟩, ⟨112, fn1 (fun a => iV (lenQ a 256 : Int))⟩, ⟨134, fnS [.s [.n8], .z] gBit⟩, ⟨114, fn82⟩]
theorem L0_ok : AllCT L0 :=
  ⟨fun _ _ _ h ho => fnRf_ok spec75 h ho, fun _ _ _ h ho => fnR_ok spec65 h ho, fun _ _ _ h ho => fnR_ok spec68 h ho, fun _ _ _ h ho => fnG_ok spec67 h ho, fun _ _ _ h ho => fnG_ok spec42 h ho, fun _ _ _ h ho => fnG_ok spec43 h ho, fun _ _ _ h ho => fn55_ok h ho, fun _ _ _ h ho => fnR1_ok spec53 h ho, fun _ _ _ h ho => fnG1_ok spec60 h ho, fun _ _ _ h ho => fnG1_ok spec58 h ho, fun _ _ _ h ho => fnK_ok spec52 h ho, fun _ _ _ h ho => fnK_ok spec41 h ho, fun _ _ _ h ho => fnK_ok spec21 h ho, ct105, ct59, fun _ _ _ h ho => fnRp_ok spec54 h ho, fun _ _ _ h ho => fnR1_ok spec56 h ho, fun _ _ _ h ho => fn59_ok h ho, fun _ _ _ h ho => fn2_ok spec70 h ho, fun _ _ _ h ho => fn2_ok spec78 h ho, fun _ _ _ h ho => fn2_ok spec84 h ho, fun _ _ _ h ho => fn85_ok h ho, fun _ _ _ h ho => fn2_ok spec79 h ho, fun _ _ _ h ho => fn2_ok spec50 h ho, fun _ _ _ h ho => fn2_ok spec61 h ho, fun _ _ _ h ho => fn2_ok spec57 h ho, fun _ _ _ h ho => fn2_ok spec47 h ho, fun _ _ _ h ho => fn62_ok h ho, fun _ _ _ h ho => fn1_ok (fun a _ => spec74 a) h ho, fun _ _ _ h ho => fn1_ok spec81 h ho, ct104, fun _ _ _ h ho => fn82_ok h ho, trivial⟩
end Go.Ev

namespace Go.NT

theorem zero_of_mul {m a b : Nat} (hp : Pr m) (h : a * b % m = 0) : a % m = 0 ∨ b % m = 0 := by
  rcases euclid hp (Nat.dvd_of_mod_eq_zero h) with h | h
  · exact .inl (Nat.mod_eq_zero_of_dvd h)
  · exact .inr (Nat.mod_eq_zero_of_dvd h)
def pwM (p a e : Nat) : Nat := a ^ e % p
theorem inv_mul {k a : Nat} (hk : k < 4) (h0 : 0 < a) (ha : a < modP k) : a * a ^ (modP k - 2) % modP k = 1 := by
  have h1 : 1 < modP k := (primeK hk).1
  rw [Nat.mul_comm, ← Nat.pow_succ, show (modP k - 2).succ = modP k - 1 by omega]
  exact fermatK hk h0 ha

end Go.NT

namespace Go.Ev
open Go Go.Proofs Go.RowKit

noncomputable def L1 : List CT := L0
theorem L1_ok : AllCT L1 := L0_ok

def noS : FuncId → Nat → Bool := fun _ _ => false
theorem modN_P (k : Nat) : modN k = Go.NT.modP k := by unfold modN Go.NT.modP; rfl
noncomputable def L2 : List CT := L1
theorem L2_ok : AllCT L2 := L1_ok

open Go.NT in
theorem out_eq (m a : Nat) : outN m a = mredN a m := by unfold outN joinN; rw [Nat.mul_zero, Nat.add_zero]
theorem in_eq (m c : Nat) : inN m c = c * 4294967296 ^ 8 % m := by unfold inN remN joinN; rw [Nat.zero_add, Nat.mul_comm]
theorem mpow_in (m a n : Nat) : mpowN m a n = inN m (Go.NT.pwM m (outN m a) n) := by
  rw [in_eq, out_eq]; unfold mpowN Go.NT.pwM; rw [Nat.mod_mul_mod]
theorem mm_in {m q x y : Nat} (hR : m < 4294967296 ^ 8) (hq : goodF m q) : mmN m (inN m x) (inN m y) = inN m (x * y % m) := by
  rw [in_eq, in_eq, in_eq, mm_pow hR hq, Nat.mod_mul_mod]
theorem in_inj {m q x y : Nat} (hR : m < 4294967296 ^ 8) (hq : goodF m q) (hx : x < m) (hy : y < m) (h : inN m x = inN m y) : x = y := by
  have h1 := in_back (a := x) hR hq
  have h2 := in_back (a := y) hR hq
  rw [Nat.mod_eq_of_lt hx] at h1
  rw [Nat.mod_eq_of_lt hy] at h2
  rw [← h1, ← h2, h]
theorem in_out {m q a : Nat} (hR : m < 4294967296 ^ 8) (hq : goodF m q) (ha : a < m) : inN m (outN m a) = a := by
  rw [in_eq, out_eq, mred_back hR hq ha]
theorem out_in {m q x : Nat} (hR : m < 4294967296 ^ 8) (hq : goodF m q) (hx : x < m) : outN m (inN m x) = x := by
  rw [out_eq, in_back hR hq, Nat.mod_eq_of_lt hx]
theorem inN_lt {m c : Nat} (hm : 0 < m) : inN m c < m := Nat.mod_lt _ hm
theorem outN_lt {m c : Nat} (hm : 0 < m) : outN m c < m := Nat.mod_lt _ hm
theorem mmN_lt {m a b : Nat} (hm : 0 < m) : mmN m a b < m := Nat.mod_lt _ hm
theorem mpowN_lt {m a b : Nat} (hm : 0 < m) : mpowN m a b < m := Nat.mod_lt _ hm
theorem same_b {x y : Nat} (hx : x < 4294967296 ^ 8) (hy : y < 4294967296 ^ 8) : (decide (x % 4294967296 ^ 8 = y % 4294967296 ^ 8) && true) = decide (x = y) := by
  rw [Nat.mod_eq_of_lt hx, Nat.mod_eq_of_lt hy, Bool.and_true]
noncomputable def L3 : List CT := L2
theorem L3_ok : AllCT L3 := L2_ok
end Go.Ev

namespace Go.Ev
open Go Go.Proofs Go.RowKit

noncomputable def S85 : FuncId → Nat → Bool := fun f t => match f with | 105 => memN t [13] | _ => false
theorem run85x (z : Int) (a : Nat) : callR (mkE L3 S85) 1000 105 [zV z, N8 a] [true] =
    some ([modB z = true, a < 4294967296 ^ 8, (bif modB z then modN z.toNat else 0) < 4294967296 ^ 8], AV.val (V1.one (Atom.v (Value.bool (decide (cmpZN a (bif modB z then modN z.toNat else 0) < 0)))))) := by kernel_rfl
theorem run85y (z : Int) (a : Nat) : callR (mkE L3 S85) 1000 105 [zV z, N8 a] [false] =
    some ([modB z = false], AV.val (V1.one (Atom.v (Value.bool false)))) := by kernel_rfl
def gFis : List Val → Option (List Prop × AV)
  | [.z z, .n a] => some ([], bV (ok1 z a))
  | _ => none
theorem ct85 : CTok ⟨105, fnS [.z, .s [.n8]] gFis⟩ := ctS (by
  intro xs ob r hb h ho
  unfold gFis at h
  split at h
  · rename_i z a
    simp only [Option.some.injEq, Prod.mk.injEq] at h
    obtain ⟨rfl, rfl⟩ := h
    obtain ⟨_, ⟨ha, _⟩, _⟩ := hb
    have hR := modN_lt z.toNat
    cases hz : modB z with
    | true =>
      have hr := spec_run (envMk L3_ok S85) rfl (run85x z a) (by rw [hz]; exact ⟨rfl, ha, hR, trivial⟩) rfl rfl
      rw [hz, cond_true, cmpZN_neg] at hr
      rw [show ok1 z a = decide (a < modN z.toNat) by unfold ok1 lessB; rw [hz, Bool.true_and]]
      exact hr
    | false =>
      rw [show ok1 z a = false by unfold ok1; rw [hz, Bool.false_and]]
      exact spec_run (envMk L3_ok S85) rfl (run85y z a) ⟨hz, trivial⟩ rfl rfl
  · simp at h)
end Go.Ev

namespace Go.Ev
open Go Go.Proofs Go.RowKit

theorem L8 {k x : Nat} (h : x < modN k) : x < 4294967296 ^ 8 := Nat.lt_trans h (modN_lt k)
theorem modN_one (k : Nat) : 1 < modN k := Nat.lt_of_succ_lt (modN_two k)
theorem addM_lt {m a b : Nat} (hm : 0 < m) : addM m a b < m := Nat.mod_lt _ hm
theorem subM_lt {m a b : Nat} (hm : 0 < m) : subM m a b < m := Nat.mod_lt _ hm
theorem mulM_lt {m a b : Nat} (hm : 0 < m) : mulM m a b < m := Nat.mod_lt _ hm
theorem minvN_lt {m a : Nat} (hm : 0 < m) : minvN m a < m := Nat.mod_lt _ hm
end Go.Ev

namespace Go.Ev
open Go Go.Proofs Go.RowKit

noncomputable def mkF (L : List CT) (fm : FuncId → List V1 → List (Option Blk) → Option (List Prop × AV)) (S : FuncId → Nat → Bool) : Env := { E0 with fn := lookC L, fm := fm, S := S }
theorem envMkF {L : List CT} (hL : AllCT L) {fm : FuncId → List V1 → List (Option Blk) → Option (List Prop × AV)}
    (hfm : ∀ f vs mem ob r, fm f vs (blks mem vs) = some (ob, r) → All ob → ∀ w0 φ w, MRel w0 φ mem w → Calls Tryz.prog f (vs.map (V1.conc φ)).toArray w fun e w' => e = .returned (r.conc φ) ∧ Below w.heap.size w w')
    (S : FuncId → Nat → Bool) : EnvOK (mkF L fm S) :=
  ⟨mixed, fun _ _ _ _ h ho => lookC_spec hL h ho, hfm, fun _ _ _ h => by simp [mkF, E0] at h, fun _ _ _ _ _ _ h => by simp [mkF, E0] at h⟩
noncomputable def withL (E : Env) (k : Nat) (y : Code) (f : List AV → List Blk → List Bool → CoR) : Env := { E with lp := fun j => match Nat.beq j k with | true => some (y, f) | false => none }
theorem envWithL {E : Env} (hE : EnvOK E) {k : Nat} {y : Code} {f : List AV → List Blk → List Bool → CoR} (h : SumOK E.P (.loop y) f) : EnvOK (withL E k y f) := envEL1 hE h
theorem u4 : Tryz.prog.underlying 4 = some .bool := by kernel_rfl
theorem laid : laidOutB Tryz.prog = true := by kernel_rfl
theorem own : ownKnob Tryz.prog.godebug = none := by kernel_rfl
theorem lit0 : 0 < 4294967296 := by decide
theorem lit1 : 1 < 4294967296 := by decide
theorem lit1_8 : 1 < 4294967296 ^ 8 := by decide
theorem lit2 : 2 < 4294967296 := by decide
theorem lit2_8 : 2 < 4294967296 ^ 8 := by decide
end Go.Ev

