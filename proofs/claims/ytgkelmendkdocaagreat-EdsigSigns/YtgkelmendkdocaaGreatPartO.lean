/- SHA-512: the program and the page come to one sum -/
import Derived.Test.YtgkelmendkdocaaGreatPartN
import Derived.Test.YtgkelmendkdocaaGreatPartJ
import Derived.Test.YtgkelmendkdocaaGreatPartC
import Derived.Test.YtgkelmendkdocaaGreatPartL
import Derived.Test.YtgkelmendkdocaaGreatPartK
import Derived.Test.YtgkelmendkdocaaGreatPartM
namespace Go.Ev.H5
open Go Go.Proofs Go.RowKit
def u64 (n : Nat) : V1 := .one (.u .u64 n)
def byteAt (s : ByteArray) (i : Nat) : Nat := (s.data.getD i 0).toNat
def M64 : Nat := 18446744073709551616
def sh8 (x b : Nat) : Nat := x * 256 % M64 % M64 ||| b % M64 % M64
def word8 (s : ByteArray) (i : Nat) : Nat := sh8 (sh8 (sh8 (sh8 (sh8 (sh8 (sh8 (sh8 0 (byteAt s i)) (byteAt s (i + 1))) (byteAt s (i + 2))) (byteAt s (i + 3))) (byteAt s (i + 4))) (byteAt s (i + 5))) (byteAt s (i + 6))) (byteAt s (i + 7))
noncomputable def E137 : Env := { E0 with S := fun f t => match f with | 137 => memN t [11] | 103 => memN t [13] | _ => false }
theorem envE137 : EnvOK E137 := ⟨mixed, envE0.fns, envE0.fms, envE0.lps, envE0.fbs⟩
def i8ob (s : ByteArray) : List Prop := [(0 : Int) ≤ 0 ∧ (0 : Int) < s.size, (0 : Int) ≤ 1 ∧ (1 : Int) < s.size, (0 : Int) ≤ 2 ∧ (2 : Int) < s.size, (0 : Int) ≤ 3 ∧ (3 : Int) < s.size, (0 : Int) ≤ 4 ∧ (4 : Int) < s.size, (0 : Int) ≤ 5 ∧ (5 : Int) < s.size, (0 : Int) ≤ 6 ∧ (6 : Int) < s.size, (0 : Int) ≤ 7 ∧ (7 : Int) < s.size]
theorem run137 (s : ByteArray) : callR E137 1000 137 [sS s] [] = some (i8ob s, .val (u64 (word8 s 0))) := by kernel_rfl
theorem run103 (s : ByteArray) : callR E137 1000 103 [sS s] [] = some (i8ob s, .val (u64 (word8 s 0))) := by kernel_rfl
def fnW8 (vs : List V1) : Option (List Prop × AV) :=
  match vs with
  | [.one (.v (.string s))] => some ([8 ≤ s.size], .val (u64 (word8 s 0)))
  | _ => none
theorem i8ok {s : ByteArray} (h : 8 ≤ s.size) : All (i8ob s) := ⟨by omega, by omega, by omega, by omega, by omega, by omega, by omega, by omega, trivial⟩
theorem ct137 : CTok ⟨137, fnW8⟩ := by
  intro vs ob r h ho
  simp only [fnW8] at h
  split at h
  · simp only [Option.some.injEq, Prod.mk.injEq] at h
    obtain ⟨rfl, rfl⟩ := h
    exact spec_run envE137 rfl (run137 _) (i8ok ho.1) rfl rfl
  · simp at h
theorem ct103 : CTok ⟨103, fnW8⟩ := by
  intro vs ob r h ho
  simp only [fnW8] at h
  split at h
  · simp only [Option.some.injEq, Prod.mk.injEq] at h
    obtain ⟨rfl, rfl⟩ := h
    exact spec_run envE137 rfl (run103 _) (i8ok ho.1) rfl rfl
  · simp at h
def rot (x n : Nat) : Nat := x * 2 ^ (64 - n) % M64 % M64 ||| x / 2 ^ n % M64
def rot' (x n : Nat) : Nat := x / 2 ^ n % M64 ||| x * 2 ^ (64 - n) % M64 % M64
theorem rot'_eq (x n : Nat) : rot' x n = rot x n := Nat.or_comm _ _
def turns : List Nat := [1, 8, 14, 18, 19, 28, 34, 39, 41, 61]
theorem run127 (x : Nat) : (callR E0 1000 127 [u64 x, .one (.i 1)] [] = some ([], .val (u64 (rot x 1)))) ∧ (callR E0 1000 127 [u64 x, .one (.i 8)] [] = some ([], .val (u64 (rot x 8)))) ∧ (callR E0 1000 127 [u64 x, .one (.i 14)] [] = some ([], .val (u64 (rot x 14))))
    ∧ (callR E0 1000 127 [u64 x, .one (.i 18)] [] = some ([], .val (u64 (rot x 18)))) ∧ (callR E0 1000 127 [u64 x, .one (.i 19)] [] = some ([], .val (u64 (rot x 19)))) ∧ (callR E0 1000 127 [u64 x, .one (.i 28)] [] = some ([], .val (u64 (rot x 28))))
    ∧ (callR E0 1000 127 [u64 x, .one (.i 34)] [] = some ([], .val (u64 (rot x 34)))) ∧ (callR E0 1000 127 [u64 x, .one (.i 39)] [] = some ([], .val (u64 (rot x 39)))) ∧ (callR E0 1000 127 [u64 x, .one (.i 41)] [] = some ([], .val (u64 (rot x 41))))
    ∧ (callR E0 1000 127 [u64 x, .one (.i 61)] [] = some ([], .val (u64 (rot x 61)))) := by
  refine ⟨?_, ?_, ?_, ?_, ?_, ?_, ?_, ?_, ?_, ?_⟩ <;> kernel_rfl
theorem run104 (x : Nat) : (callR E0 1000 104 [u64 x, .one (.i 1)] [] = some ([], .val (u64 (rot' x 1)))) ∧ (callR E0 1000 104 [u64 x, .one (.i 8)] [] = some ([], .val (u64 (rot' x 8)))) ∧ (callR E0 1000 104 [u64 x, .one (.i 14)] [] = some ([], .val (u64 (rot' x 14))))
    ∧ (callR E0 1000 104 [u64 x, .one (.i 18)] [] = some ([], .val (u64 (rot' x 18)))) ∧ (callR E0 1000 104 [u64 x, .one (.i 19)] [] = some ([], .val (u64 (rot' x 19)))) ∧ (callR E0 1000 104 [u64 x, .one (.i 28)] [] = some ([], .val (u64 (rot' x 28))))
    ∧ (callR E0 1000 104 [u64 x, .one (.i 34)] [] = some ([], .val (u64 (rot' x 34)))) ∧ (callR E0 1000 104 [u64 x, .one (.i 39)] [] = some ([], .val (u64 (rot' x 39)))) ∧ (callR E0 1000 104 [u64 x, .one (.i 41)] [] = some ([], .val (u64 (rot' x 41))))
    ∧ (callR E0 1000 104 [u64 x, .one (.i 61)] [] = some ([], .val (u64 (rot' x 61)))) := by
  refine ⟨?_, ?_, ?_, ?_, ?_, ?_, ?_, ?_, ?_, ?_⟩ <;> kernel_rfl
def fnRot (vs : List V1) : Option (List Prop × AV) :=
  match vs with
  | [.one (.u .u64 x), .one (.i (.ofNat n))] => match memN n turns with
    | true => some ([], .val (u64 (rot x n)))
    | false => none
  | _ => none
theorem mem_turns {n : Nat} (h : memN n turns = true) : n = 1 ∨ n = 8 ∨ n = 14 ∨ n = 18 ∨ n = 19 ∨ n = 28 ∨ n = 34 ∨ n = 39 ∨ n = 41 ∨ n = 61 := by
  simp only [turns, memN, Bool.or_false, Bool.or_eq_true] at h
  simpa only [Nat.beq_eq] using h
theorem ct127 : CTok ⟨127, fnRot⟩ := by
  intro vs ob r h _
  simp only [fnRot] at h
  split at h
  · rename_i x n
    split at h
    · rename_i hn
      simp only [Option.some.injEq, Prod.mk.injEq] at h
      obtain ⟨_, rfl⟩ := h
      obtain ⟨h1, h2, h3, h4, h5, h6, h7, h8, h9, h10⟩ := run127 x
      rcases mem_turns hn with rfl | rfl | rfl | rfl | rfl | rfl | rfl | rfl | rfl | rfl
      · exact spec_run envE0 rfl h1 trivial rfl rfl
      · exact spec_run envE0 rfl h2 trivial rfl rfl
      · exact spec_run envE0 rfl h3 trivial rfl rfl
      · exact spec_run envE0 rfl h4 trivial rfl rfl
      · exact spec_run envE0 rfl h5 trivial rfl rfl
      · exact spec_run envE0 rfl h6 trivial rfl rfl
      · exact spec_run envE0 rfl h7 trivial rfl rfl
      · exact spec_run envE0 rfl h8 trivial rfl rfl
      · exact spec_run envE0 rfl h9 trivial rfl rfl
      · exact spec_run envE0 rfl h10 trivial rfl rfl
    · simp at h
  · simp at h
theorem ct104r : CTok ⟨104, fnRot⟩ := by
  intro vs ob r h _
  simp only [fnRot] at h
  split at h
  · rename_i x n
    split at h
    · rename_i hn
      simp only [Option.some.injEq, Prod.mk.injEq] at h
      obtain ⟨_, rfl⟩ := h
      obtain ⟨h1, h2, h3, h4, h5, h6, h7, h8, h9, h10⟩ := run104 x
      simp only [rot'_eq] at h1 h2 h3 h4 h5 h6 h7 h8 h9 h10
      rcases mem_turns hn with rfl | rfl | rfl | rfl | rfl | rfl | rfl | rfl | rfl | rfl
      · exact spec_run envE0 rfl h1 trivial rfl rfl
      · exact spec_run envE0 rfl h2 trivial rfl rfl
      · exact spec_run envE0 rfl h3 trivial rfl rfl
      · exact spec_run envE0 rfl h4 trivial rfl rfl
      · exact spec_run envE0 rfl h5 trivial rfl rfl
      · exact spec_run envE0 rfl h6 trivial rfl rfl
      · exact spec_run envE0 rfl h7 trivial rfl rfl
      · exact spec_run envE0 rfl h8 trivial rfl rfl
      · exact spec_run envE0 rfl h9 trivial rfl rfl
      · exact spec_run envE0 rfl h10 trivial rfl rfl
    · simp at h
  · simp at h
def xor64 (x y : Nat) : Nat := x % M64 ^^^ y % M64
def and64 (x y : Nat) : Nat := x % M64 &&& y % M64
def add64 (x y : Nat) : Nat := (x + y) % M64
def not64 (x : Nat) : Nat := M64 - 1 - x % M64
def sig0 (x : Nat) : Nat := xor64 (xor64 (rot x 1) (rot x 8)) (x / 2 ^ 7)
def sig1 (y : Nat) : Nat := xor64 (xor64 (rot y 19) (rot y 61)) (y / 2 ^ 6)
def ixD (i d : Nat) : Nat := 0 + ((i : Int) - (d : Int)).toNat * 1
def schP (l : List Nat) (i : Nat) : Nat := add64 (add64 (add64 (l.getD (ixD i 16) 0) (sig0 (l.getD (ixD i 15) 0))) (l.getD (ixD i 7) 0)) (sig1 (l.getD (ixD i 2) 0))
def schQ (l : List Nat) (i : Nat) : Nat := add64 (add64 (add64 (l.getD (ixD i 16) 0) (l.getD (ixD i 7) 0)) (sig0 (l.getD (ixD i 15) 0))) (sig1 (l.getD (ixD i 2) 0))
theorem add64_swap (a b c : Nat) : add64 (add64 a b) c = add64 (add64 a c) b := by
  unfold add64
  rw [Nat.mod_add_mod, Nat.mod_add_mod]
  congr 1; omega
theorem schQ_eq (l : List Nat) (i : Nat) : schQ l i = schP l i := by unfold schQ schP; rw [add64_swap (l.getD (ixD i 16) 0)]
def wB (l : List Nat) : Blk := ⟨[.arr .u64 l], 136, true, false, 0⟩
noncomputable def L125 : List CT := [⟨137, fnW8⟩, ⟨103, fnW8⟩, ⟨127, fnRot⟩, ⟨104, fnRot⟩]
theorem L125_ok : AllCT L125 := ⟨ct137, ct103, ct127, ct104r, trivial⟩
noncomputable def S125 : FuncId → Nat → Bool := fun f t => match f with | 125 => memN t [9, 12, 16, 17, 19, 4000019, 21, 22, 2000023, 25, 26, 2000027, 46, 47, 2000048, 52, 53, 2000054, 58, 4000058, 59] | _ => false
def T125 (s : ByteArray) (i : Int) : List AV := slots 61 [(0, .val (sS s)), (2, pV 0), (8, iV i)]
noncomputable def E125 : Env := mkE L125 S125
end Go.Ev.H5

namespace Go.Ev.H5
open Go Go.Proofs Go.RowKit
theorem r125a (s : ByteArray) (l : List Nat) (i : Nat) : runTo E125 1000 (Env.S E125 125) (bodyOf Tryz.prog 125 2) (T125 s (↑i : Int)) [wB l] [true, true] (T125 s ((↑i : Int) + (1 : Int))) 1 =
    some ([decide ((↑i : Int) < (80 : Int)) = true, decide ((↑i : Int) < (16 : Int)) = true, inI ((8 : Int) * (↑i : Int)), (0 : Int) ≤ (8 : Int) * (↑i : Int) ∧ (8 : Int) * (↑i : Int) ≤ (↑(ByteArray.size s) : Int), 8 ≤ ByteArray.size (ByteArray.extract s (Int.toNat ((8 : Int) * (↑i : Int))) (ByteArray.size s)), (0 : Int) ≤ (↑i : Int) ∧ (↑i : Int) < ((80 : Nat) : Int), 0 + i * 1 < List.length l, inI ((↑i : Int) + (1 : Int))], .normal, T125 s ((i : Int) + 1), [wB (l.set (0 + (i : Int).toNat * 1) (word8 (s.extract (8 * i) s.size) 0))]) := by kernel_rfl
theorem r125b (s : ByteArray) (l : List Nat) (i : Nat) : runTo E125 1000 (Env.S E125 125) (bodyOf Tryz.prog 125 2) (T125 s (↑i : Int)) [wB l] [true, false] (T125 s ((↑i : Int) + (1 : Int))) 1 =
    some ([decide ((↑i : Int) < (80 : Int)) = true, decide ((↑i : Int) < (16 : Int)) = false, inI ((↑i : Int) - (15 : Int)), (0 : Int) ≤ (↑i : Int) - (15 : Int) ∧ (↑i : Int) - (15 : Int) < ((80 : Nat) : Int), 0 + Int.toNat ((↑i : Int) - (15 : Int)) * 1 < List.length l, inI ((↑i : Int) - (2 : Int)), (0 : Int) ≤ (↑i : Int) - (2 : Int) ∧ (↑i : Int) - (2 : Int) < ((80 : Nat) : Int), 0 + Int.toNat ((↑i : Int) - (2 : Int)) * 1 < List.length l, inI ((↑i : Int) - (16 : Int)), (0 : Int) ≤ (↑i : Int) - (16 : Int) ∧ (↑i : Int) - (16 : Int) < ((80 : Nat) : Int), 0 + Int.toNat ((↑i : Int) - (16 : Int)) * 1 < List.length l, inI ((↑i : Int) - (7 : Int)), (0 : Int) ≤ (↑i : Int) - (7 : Int) ∧ (↑i : Int) - (7 : Int) < ((80 : Nat) : Int), 0 + Int.toNat ((↑i : Int) - (7 : Int)) * 1 < List.length l, (0 : Int) ≤ (↑i : Int) ∧ (↑i : Int) < ((80 : Nat) : Int), 0 + i * 1 < List.length l, inI ((↑i : Int) + (1 : Int))], .normal, T125 s ((i : Int) + 1), [wB (l.set (0 + (i : Int).toNat * 1) (schP l i))]) := by kernel_rfl
theorem r125x (s : ByteArray) (l : List Nat) (i : Nat) : runTo E125 1000 (Env.S E125 125) (bodyOf Tryz.prog 125 2) (T125 s (↑i : Int)) [wB l] [false] (T125 s (↑i : Int)) 1 =
    some ([decide ((↑i : Int) < (80 : Int)) = false], (.exit 0), T125 s (i : Int), [wB l]) := by kernel_rfl
end Go.Ev.H5

namespace Go.Ev.H5
open Go Go.Proofs Go.RowKit
def schL (s : ByteArray) : Nat → List Nat
  | 0 => List.replicate 80 0
  | i + 1 => (schL s i).set i (bif decide (i < 16) then word8 s (8 * i) else schP (schL s i) i)
theorem schL_len (s : ByteArray) : ∀ i, (schL s i).length = 80
  | 0 => List.length_replicate
  | i + 1 => by rw [schL, List.length_set]; exact schL_len s i
theorem byteAt_cut (s : ByteArray) (a b i : Nat) (h : a + i < b) (hb : b ≤ s.size) : byteAt (s.extract a b) i = byteAt s (a + i) := by
  unfold byteAt
  rw [ByteArray.data_extract]
  simp only [Array.getD_eq_getD_getElem?]
  rw [Array.getElem?_extract]
  have : i < min b s.data.size - a := by
    have : s.data.size = s.size := rfl
    omega
  rw [if_pos this]
theorem word8_cut (s : ByteArray) (a b : Nat) (h : a + 8 ≤ b) (hb : b ≤ s.size) : word8 (s.extract a b) 0 = word8 s a := by
  unfold word8
  rw [byteAt_cut s a b 0 (by omega) hb, byteAt_cut s a b (0 + 1) (by omega) hb, byteAt_cut s a b (0 + 2) (by omega) hb, byteAt_cut s a b (0 + 3) (by omega) hb,
    byteAt_cut s a b (0 + 4) (by omega) hb, byteAt_cut s a b (0 + 5) (by omega) hb, byteAt_cut s a b (0 + 6) (by omega) hb, byteAt_cut s a b (0 + 7) (by omega) hb]
  rfl
theorem wB_free (l : List Nat) : Free (wB l) := fun _ => rfl
theorem wf125 (s : ByteArray) (l : List Nat) (i : Int) : wfS (T125 s i) [wB l] = true := wfS_of (by
  intro b hb
  simp only [List.mem_cons, List.not_mem_nil, or_false] at hb
  subst hb
  exact wB_free l) (by show tmsWf 1 _ = true; kernel_rfl)
theorem envE125 : EnvOK E125 := envMk L125_ok _
theorem cut_size (s : ByteArray) (a b : Nat) (hb : b ≤ s.size) : (s.extract a b).size = b - a := by
  rw [ByteArray.size_extract]; omega
theorem step125 (s : ByteArray) (hs : 128 ≤ s.size) (hl : s.size ≤ 4611686018427387904) (i : Nat) (hi : i < 80) (l : List Nat) (hlen : l.length = 80) :
    Goes Tryz.prog (bodyOf Tryz.prog 125 2) .normal (T125 s (i : Int)) [wB l] (T125 s ((i : Int) + 1)) [wB (l.set i (bif decide (i < 16) then word8 s (8 * i) else schP l i))] := by
  have e0 : (0 + (i : Int).toNat * 1) = i := by omega
  by_cases h16 : i < 16
  · have hr := r125a s l i
    rw [show (Int.toNat ((8 : Int) * (i : Int))) = 8 * i by omega, word8_cut s (8 * i) s.size (by omega) (Nat.le_refl _), e0] at hr
    rw [decide_eq_true h16, cond_true]
    exact Runs.goes envE125 ⟨_, _, hr, ⟨decide_eq_true (by omega), decide_eq_true (by omega), by unfold inI; omega, by omega, by rw [cut_size _ _ _ (Nat.le_refl _)]; omega, by omega, by omega, by unfold inI; omega, trivial⟩, wf125 _ _ _⟩
  · have hr := r125b s l i
    rw [e0] at hr
    rw [decide_eq_false h16, cond_false]
    exact Runs.goes envE125 ⟨_, _, hr, ⟨decide_eq_true (by omega), decide_eq_false (by omega), by unfold inI; omega, by omega, by omega, by unfold inI; omega, by omega, by omega, by unfold inI; omega, by omega, by omega, by unfold inI; omega, by omega, by omega, by omega, by omega, by unfold inI; omega, trivial⟩, wf125 _ _ _⟩
theorem loop125 (s : ByteArray) (hs : 128 ≤ s.size) (hl : s.size ≤ 4611686018427387904) (n : Nat) (hn : n = 80) (L : Nat → List Nat) (hL : ∀ i, (L i).length = 80) (h : ∀ i, L (i + 1) = (L i).set i (bif decide (i < 16) then word8 s (8 * i) else schP (L i) i)) :
    Goes Tryz.prog (.loop (bodyOf Tryz.prog 125 2)) (.exit 0) (T125 s ((0 : Nat) : Int)) [wB (L 0)] (T125 s (n : Int)) [wB (L n)] := by
  refine loop_goes (N := n) (k := 1) (T := fun i => T125 s (i : Int)) (M := fun i => [wB (L i)]) (by simp) (fun _ _ => rfl) (fun i hi => ?_) ?_
  · have := step125 s hs hl i (by omega) (L i) (hL i)
    rw [← h i] at this
    exact this
  · exact Runs.goes envE125 ⟨_, _, r125x s (L n) n, ⟨decide_eq_false (by omega), trivial⟩, wf125 _ _ _⟩
def cells64 : Nat → Nat → (Nat → Nat) → List Piece
  | 0, _, _ => []
  | n + 1, j, u => .a (.u .u64 (u j)) :: cells64 n (j + 1) u
theorem cells64_conc (φ : Loc) (u : Nat → Nat) : ∀ n j, concs φ (cells64 n j u) = (List.range' j n).map fun i => Value.int .u64 ((u i : Nat) : Int)
  | 0, _ => rfl
  | n + 1, j => by
    rw [List.range'_succ, List.map_cons, ← cells64_conc φ u n (j + 1)]
    rfl
theorem arr64_conc (φ : Loc) (l : List Nat) (n : Nat) (h : l.length = n) : concs φ [.arr .u64 l] = concs φ (cells64 n 0 fun j => l.getD j 0) := by
  rw [cells64_conc, arr_conc]
  subst h
  apply List.ext_getElem (by simp)
  intro i h1 h2
  simp only [List.getElem_map, List.getElem_range']
  rw [List.length_map] at h1
  simp [List.getD_eq_getElem?_getD, List.getElem?_eq_getElem h1]
theorem cells64_free (u : Nat → Nat) (f : Nat → Bool) : ∀ n j, allPtr f (cells64 n j u) = true
  | 0, _ => rfl
  | n + 1, j => cells64_free u f n (j + 1)
noncomputable def schW (s : ByteArray) (j : Nat) : Nat := (schL s 80).getD j 0
def cB (u : Nat → Nat) : Blk := ⟨cells64 80 0 u, 136, true, false, 0⟩
theorem cB_free (u : Nat → Nat) : Free (cB u) := fun f => cells64_free u f 80 0
theorem wfC125 (s : ByteArray) (u : Nat → Nat) (i : Int) : wfS (T125 s i) [cB u] = true := wfS_of (by
  intro b hb
  simp only [List.mem_cons, List.not_mem_nil, or_false] at hb
  subst hb
  exact cB_free u) (by show tmsWf 1 _ = true; kernel_rfl)
def zW (_ : Nat) : Nat := 0
theorem sch_loop (s : ByteArray) (hs : 128 ≤ s.size) (hl : s.size ≤ 4611686018427387904) : Goes Tryz.prog (.loop (bodyOf Tryz.prog 125 2)) (.exit 0) (T125 s ((0 : Nat) : Int)) [cB zW] (T125 s ((80 : Nat) : Int)) [cB (schW s)] := by
  refine Goes.before (Goes.after (loop125 s hs hl 80 rfl (schL s) (schL_len s) (fun _ => rfl)) (sameT_refl _) ⟨⟨rfl, rfl, rfl, rfl, fun φ => ?_⟩, trivial⟩ (wfC125 _ _ _)) (sameT_refl _) ⟨⟨rfl, rfl, rfl, rfl, fun φ => ?_⟩, trivial⟩ (wf125 _ _ _)
  · exact arr64_conc φ (schL s 80) 80 (schL_len s 80)
  · exact (arr64_conc φ (List.replicate 80 0) 80 List.length_replicate).symm
end Go.Ev.H5

namespace Go.Ev.H5
open Go Go.Proofs Go.RowKit
structure W8 where
  (a b c d e f g h : Nat)
def W8.cells (x : W8) : List Piece := [.a (.u .u64 x.a), .a (.u .u64 x.b), .a (.u .u64 x.c), .a (.u .u64 x.d), .a (.u .u64 x.e), .a (.u .u64 x.f), .a (.u .u64 x.g), .a (.u .u64 x.h)]
def aV (x : W8) : V1 := .agg x.cells
noncomputable def E125L (s : ByteArray) : Env := withL E125 2 (bodyOf Tryz.prog 125 2) (sumC (T125 s ((0 : Nat) : Int)) [cB zW] (T125 s ((80 : Nat) : Int)) [cB (schW s)] (.exit 0))
noncomputable def schedV (s : ByteArray) : V1 := .agg (cells64 80 0 (schW s))
theorem r125 (s : ByteArray) : callR (E125L s) 1000 125 [sS s] [] =
    some ([bodyOf Tryz.prog 125 2 = bodyOf Tryz.prog 125 2, (T125 s ((0 : Nat) : Int), [cB zW]) = (T125 s ((0 : Nat) : Int), [cB zW]), wfS (T125 s ((0 : Nat) : Int)) [cB zW] = true], .val (schedV s)) := by kernel_rfl
theorem envE125L (s : ByteArray) (hs : 128 ≤ s.size) (hl : s.size ≤ 4611686018427387904) : EnvOK (E125L s) := envWithL envE125 (sumC_ok (by simp only [List.length_cons]) (sch_loop s hs hl))
theorem spec125 (s : ByteArray) (hs : 128 ≤ s.size) (hl : s.size ≤ 4611686018427387904) : Spec 125 [sS s] (.val (schedV s)) :=
  spec_run (envE125L s hs hl) rfl (r125 s) ⟨rfl, rfl, wfC125 _ _ _, trivial⟩ rfl rfl
noncomputable def fnSch (vs : List V1) : Option (List Prop × AV) :=
  match vs with
  | [.one (.v (.string s))] => some ([128 ≤ s.size ∧ s.size ≤ 4611686018427387904], .val (schedV s))
  | _ => none
theorem ct125 : CTok ⟨125, fnSch⟩ := by
  intro vs ob r h ho
  simp only [fnSch] at h
  split at h
  · simp only [Option.some.injEq, Prod.mk.injEq] at h
    obtain ⟨rfl, rfl⟩ := h
    exact spec125 _ ho.1.1 ho.1.2
  · simp at h
def shaL : List Nat := [4794697086780616226, 8158064640168781261, 13096744586834688815, 16840607885511220156, 4131703408338449720, 6480981068601479193, 10538285296894168987, 12329834152419229976, 15566598209576043074, 1334009975649890238, 2608012711638119052, 6128411473006802146, 8268148722764581231, 9286055187155687089, 11230858885718282805, 13951009754708518548, 16472876342353939154, 17275323862435702243, 1135362057144423861, 2597628984639134821, 3308224258029322869, 5365058923640841347, 6679025012923562964, 8573033837759648693, 10970295158949994411, 12119686244451234320, 12683024718118986047, 13788192230050041572, 14330467153632333762, 15395433587784984357, 489312712824947311, 1452737877330783856, 2861767655752347644, 3322285676063803686, 5560940570517711597, 5996557281743188959, 7280758554555802590, 8532644243296465576, 9350256976987008742, 10552545826968843579, 11727347734174303076, 12113106623233404929, 14000437183269869457, 14369950271660146224, 15101387698204529176, 15463397548674623760, 17586052441742319658, 1182934255886127544, 1847814050463011016, 2177327727835720531, 2830643537854262169, 3796741975233480872, 4115178125766777443, 5681478168544905931, 6601373596472566643, 7507060721942968483, 8399075790359081724, 8693463985226723168, 9568029438360202098, 10144078919501101548, 10430055236837252648, 11840083180663258601, 13761210420658862357, 14299343276471374635, 14566680578165727644, 15097957966210449927, 16922976911328602910, 17689382322260857208, 500013540394364858, 748580250866718886, 1242879168328830382, 1977374033974150939, 2944078676154940804, 3659926193048069267, 4368137639120453308, 4836135668995329356, 5532061633213252278, 6448918945643986474, 6902733635092675308, 7801388544844847127]
def shaK (i : Nat) : Nat := shaL.getD i 0
def shaV : V1 := .agg (cells64 80 0 shaK)
theorem r126 : callR E0 1000 126 [] [] = some ([], .val shaV) := by kernel_rfl
def rnd (v : W8) (k w : Nat) : W8 :=
  let one := add64 (add64 (add64 (add64 v.h (xor64 (xor64 (rot v.e 14) (rot v.e 18)) (rot v.e 41))) (xor64 (and64 v.e v.f) (and64 (not64 v.e) v.g))) k) w
  let two := add64 (xor64 (xor64 (rot v.a 28) (rot v.a 34)) (rot v.a 39)) (xor64 (xor64 (and64 v.a v.b) (and64 v.a v.c)) (and64 v.b v.c))
  ⟨add64 one two, v.a, v.b, v.c, add64 v.d one, v.e, v.f, v.g⟩
def addW (x y : W8) : W8 := ⟨add64 x.a y.a, add64 x.b y.b, add64 x.c y.c, add64 x.d y.d, add64 x.e y.e, add64 x.f y.f, add64 x.g y.g, add64 x.h y.h⟩
def hB (x : W8) : Blk := ⟨x.cells, 96, true, false, 0⟩
def z8W : W8 := ⟨0, 0, 0, 0, 0, 0, 0, 0⟩
noncomputable def ldW (p q : Nat) (u : Nat → Nat) : CT := ⟨3000074, fun vs => match vs with
  | [.one (.ptr b off)] => match Nat.beq b p with
    | true => some ([False], .val (u64 (u off)))
    | false => match Nat.beq b q with
      | true => some ([False], .val (u64 (shaK off)))
      | false => none
  | _ => none⟩
theorem ldW_ok (p q : Nat) (u : Nat → Nat) : CTok (ldW p q u) := by
  intro vs ob r h ho
  simp only [ldW] at h
  split at h
  · split at h
    · simp only [Option.some.injEq, Prod.mk.injEq] at h
      obtain ⟨rfl, _⟩ := h
      exact ho.1.elim
    · split at h
      · simp only [Option.some.injEq, Prod.mk.injEq] at h
        obtain ⟨rfl, _⟩ := h
        exact ho.1.elim
      · simp at h
  · simp at h
theorem ct126 : CTok ⟨126, cV (.val shaV)⟩ := ctV (spec_run envE0 rfl r126 trivial rfl rfl)
noncomputable def L96 (u : Nat → Nat) : List CT := ldW 2 3 u :: ⟨125, fnSch⟩ :: ⟨126, cV (.val shaV)⟩ :: L125
theorem L96_ok (u : Nat → Nat) : AllCT (L96 u) := ⟨ldW_ok _ _ _, ct125, ct126, L125_ok⟩
noncomputable def S96 : FuncId → Nat → Bool := fun f t => match f with | 96 => memN t [19, 48, 2000049, 52, 2000053, 97] | 65 => memN t [73, 104, 2000105, 108, 2000109, 75] | _ => false
noncomputable def E96 (u : Nat → Nat) : Env := mkE (L96 u) S96
def T96 (i : Int) : List AV := slots 111 [(2, pV 0), (4, pV 1), (5, pV 2), (6, pV 3), (7, pV 4), (18, iV i)]
def M96 (h v : W8) (u : Nat → Nat) : List Blk := [hB h, hB z8W, cB u, cB shaK, hB v]
end Go.Ev.H5

namespace Go.Ev.H5
open Go Go.Proofs Go.RowKit
def iT (i : Nat) : Nat := 0 + (i : Int).toNat * 1
theorem iT_eq (i : Nat) : iT i = i := by unfold iT; omega
theorem r96a (h v : W8) (u : Nat → Nat) (i : Nat) : runTo (E96 u) 1000 ((E96 u).S 96) (bodyOf Tryz.prog 96 3) (T96 (i : Int)) (M96 h v u) [true] (T96 ((i : Int) + 1)) 5 =
    some ([decide ((i : Int) < 80) = true, (0 : Int) ≤ (i : Int) ∧ (i : Int) < ((80 : Nat) : Int), LoadsAs Tryz.prog 74 (cells64 80 0 shaK) (iT i) (.one (.u .u64 (shaK (iT i)))), (0 : Int) ≤ (i : Int) ∧ (i : Int) < ((80 : Nat) : Int), LoadsAs Tryz.prog 74 (cells64 80 0 u) (iT i) (.one (.u .u64 (u (iT i)))), inI ((i : Int) + 1)], .normal, T96 ((i : Int) + 1), M96 h (rnd v (shaK (iT i)) (u (iT i))) u) := by kernel_rfl
theorem r96x (h v : W8) (u : Nat → Nat) (i : Nat) : runTo (E96 u) 1000 ((E96 u).S 96) (bodyOf Tryz.prog 96 3) (T96 (i : Int)) (M96 h v u) [false] (T96 (i : Int)) 5 =
    some ([decide ((i : Int) < 80) = false], .exit 0, T96 (i : Int), M96 h v u) := by kernel_rfl
theorem agg74 : isAggA Tryz.prog 74 = some false := by kernel_rfl
theorem ld64 (u : Nat → Nat) (n off : Nat) (h : off < n) : LoadsAs Tryz.prog 74 (cells64 n 0 u) off (.one (.u .u64 (u off))) := by
  intro φ
  refine ⟨agg74, ?_⟩
  rw [cells64_conc, List.getElem?_map, List.getElem?_range' h]
  simp [Atom.conc]
def vR (u : Nat → Nat) (v : W8) : Nat → W8
  | 0 => v
  | i + 1 => rnd (vR u v i) (shaK i) (u i)
theorem hB_free (x : W8) : Free (hB x) := fun _ => rfl
theorem M96_free (h v : W8) (u : Nat → Nat) : ∀ b ∈ M96 h v u, Free b := by
  intro b hb
  simp only [M96, List.mem_cons, List.not_mem_nil, or_false] at hb
  rcases hb with rfl | rfl | rfl | rfl | rfl
  · exact hB_free _
  · exact hB_free _
  · exact cB_free _
  · exact cB_free _
  · exact hB_free _
theorem M96_len (h v : W8) (u : Nat → Nat) : (M96 h v u).length = 5 := by simp only [M96, List.length_cons, List.length_nil]
theorem wf96 (h v : W8) (u : Nat → Nat) (i : Int) : wfS (T96 i) (M96 h v u) = true := wfS_of (M96_free h v u) (by rw [M96_len]; kernel_rfl)
theorem envE96 (u : Nat → Nat) : EnvOK (E96 u) := envMk (L96_ok u) _
theorem step96 (h v : W8) (u : Nat → Nat) (i : Nat) (hi : i < 80) : Goes Tryz.prog (bodyOf Tryz.prog 96 3) .normal (T96 (i : Int)) (M96 h v u) (T96 ((i : Int) + 1)) (M96 h (rnd v (shaK i) (u i)) u) := by
  have hr := r96a h v u i
  rw [iT_eq] at hr
  exact Runs.goes (envE96 u) ⟨_, _, hr, ⟨decide_eq_true (by omega), by omega, ld64 _ _ _ hi, by omega, ld64 _ _ _ hi, by unfold inI; omega, trivial⟩, wf96 _ _ _ _⟩
theorem loop96 (h : W8) (u : Nat → Nat) (n : Nat) (hn : n = 80) (V : Nat → W8) (hV : ∀ i, V (i + 1) = rnd (V i) (shaK i) (u i)) :
    Goes Tryz.prog (.loop (bodyOf Tryz.prog 96 3)) (.exit 0) (T96 ((0 : Nat) : Int)) (M96 h (V 0) u) (T96 (n : Int)) (M96 h (V n) u) := by
  refine loop_goes (N := n) (k := 5) (T := fun i => T96 (i : Int)) (M := fun i => M96 h (V i) u) (by simp) (fun _ _ => M96_len _ _ _) (fun i hi => ?_) ?_
  · have := step96 h (V i) u i (by omega)
    rw [← hV i] at this
    exact this
  · exact Runs.goes (envE96 u) ⟨_, _, r96x h (V n) u n, ⟨decide_eq_false (by omega), trivial⟩, wf96 _ _ _ _⟩
noncomputable def vE (u : Nat → Nat) (h : W8) : W8 := vR u h 80
theorem rounds96 (h : W8) (u : Nat → Nat) : Goes Tryz.prog (.loop (bodyOf Tryz.prog 96 3)) (.exit 0) (T96 ((0 : Nat) : Int)) (M96 h h u) (T96 ((80 : Nat) : Int)) (M96 h (vE u h) u) := loop96 h u 80 rfl (vR u h) (fun _ => rfl)
noncomputable def E96L (h : W8) (u : Nat → Nat) : Env := withL (E96 u) 3 (bodyOf Tryz.prog 96 3) (sumC (T96 ((0 : Nat) : Int)) (M96 h h u) (T96 ((80 : Nat) : Int)) (M96 h (vE u h) u) (.exit 0))
theorem envE96L (h : W8) (u : Nat → Nat) : EnvOK (E96L h u) := envWithL (envE96 u) (sumC_ok (by rw [M96_len, M96_len]) (rounds96 h u))
noncomputable def blk5 (h : W8) (s : ByteArray) : W8 := addW h (vE (schW s) h)
theorem r96 (h : W8) (s : ByteArray) : callR (E96L h (schW s)) 1000 96 [aV h, sS s] [] =
    some ([128 ≤ s.size ∧ s.size ≤ 4611686018427387904, bodyOf Tryz.prog 96 3 = bodyOf Tryz.prog 96 3, (T96 ((0 : Nat) : Int), M96 h h (schW s)) = (T96 ((0 : Nat) : Int), M96 h h (schW s)), wfS (T96 ((0 : Nat) : Int)) (M96 h h (schW s)) = true], .val (aV (blk5 h s))) := by kernel_rfl
theorem spec96 (h : W8) (s : ByteArray) (h1 : 128 ≤ s.size) (h2 : s.size ≤ 4611686018427387904) : Spec 96 [aV h, sS s] (.val (aV (blk5 h s))) :=
  spec_run (envE96L h (schW s)) rfl (r96 h s) ⟨⟨h1, h2⟩, rfl, rfl, wf96 _ _ _ _, trivial⟩ rfl rfl
noncomputable def fnBlk (vs : List V1) : Option (List Prop × AV) :=
  match vs with
  | [.agg [.a (.u .u64 a), .a (.u .u64 b), .a (.u .u64 c), .a (.u .u64 d), .a (.u .u64 e), .a (.u .u64 f), .a (.u .u64 g), .a (.u .u64 h)], .one (.v (.string s))] => some ([128 ≤ s.size ∧ s.size ≤ 4611686018427387904], .val (aV (blk5 ⟨a, b, c, d, e, f, g, h⟩ s)))
  | _ => none
theorem ct96 : CTok ⟨96, fnBlk⟩ := by
  intro vs ob r h ho
  simp only [fnBlk] at h
  split at h
  · simp only [Option.some.injEq, Prod.mk.injEq] at h
    obtain ⟨rfl, rfl⟩ := h
    exact spec96 _ _ ho.1.1 ho.1.2
  · simp at h
end Go.Ev.H5

namespace Go.Ev.H5
open Go Go.Proofs Go.RowKit
def tB (e : TypeId) : Blk := ⟨cells64 80 0 shaK, e, true, true, 0⟩
noncomputable def S65 : FuncId → Nat → Bool := fun f t => match f with | 65 => memN t [19, 23, 27, 29, 30, 31, 33, 4000033, 35, 36, 2000037, 39, 40, 2000041, 44, 45, 2000046, 48, 49, 2000050, 70, 4000070, 21, 73, 104, 2000105, 108, 2000109, 75] | _ => false
noncomputable def E65 (u : Nat → Nat) : Env := mkE (ldW 3 0 u :: L125) S65
theorem envE65 (u : Nat → Nat) : EnvOK (E65 u) := envMk (show AllCT (ldW 3 0 u :: L125) from ⟨ldW_ok _ _ _, L125_ok⟩) _
def T65a (s : ByteArray) (c : Nat) (i : Int) : List AV := slots 167 [(1, .val (sS s)), (2, .val (.one (.sl 0 0 80 c))), (3, pV 1), (6, pV 2), (7, pV 3), (8, iV i)]
def M65a (e : TypeId) (h : W8) (w : Blk) : List Blk := [tB e, hB h, hB z8W, w]
def T65b (c : Nat) (i : Int) : List AV := slots 167 [(2, .val (.one (.sl 0 0 80 c))), (3, pV 1), (6, pV 2), (7, pV 3), (11, pV 4), (12, iV i)]
def M65b (e : TypeId) (h v : W8) (u : Nat → Nat) : List Blk := [tB e, hB h, hB z8W, cB u, hB v]
end Go.Ev.H5

namespace Go.Ev.H5
open Go Go.Proofs Go.RowKit
theorem r65a (e : TypeId) (h : W8) (c : Nat) (s : ByteArray) (l : List Nat) (i : Nat) : runTo (E65 zW) 1000 (Env.S (E65 zW) 65) (bodyOf Tryz.prog 65 3) (T65a s c (↑i : Int)) (M65a e h (wB l)) [true, true] (T65a s c ((↑i : Int) + (1 : Int))) 4 =
    some ([decide ((↑i : Int) < (80 : Int)) = true, decide ((↑i : Int) < (16 : Int)) = true, inI ((8 : Int) * (↑i : Int)), inI ((8 : Int) * (↑i : Int)), inI ((8 : Int) * (↑i : Int) + (8 : Int)), (0 : Int) ≤ (8 : Int) * (↑i : Int) + (8 : Int) ∧ (8 : Int) * (↑i : Int) + (8 : Int) ≤ (↑(ByteArray.size s) : Int), (0 : Int) ≤ (8 : Int) * (↑i : Int) ∧ (8 : Int) * (↑i : Int) ≤ (↑(Int.toNat ((8 : Int) * (↑i : Int) + (8 : Int))) : Int), 8 ≤ ByteArray.size (ByteArray.extract s (Int.toNat ((8 : Int) * (↑i : Int))) (Int.toNat ((8 : Int) * (↑i : Int) + (8 : Int)))), (0 : Int) ≤ (↑i : Int) ∧ (↑i : Int) < ((80 : Nat) : Int), 0 + i * 1 < List.length l, inI ((↑i : Int) + (1 : Int))], .normal, T65a s c ((i : Int) + 1), M65a e h (wB (l.set (iT i) (word8 (s.extract (8 * i) (8 * i + 8)) 0)))) := by kernel_rfl
theorem r65b (e : TypeId) (h : W8) (c : Nat) (s : ByteArray) (l : List Nat) (i : Nat) : runTo (E65 zW) 1000 (Env.S (E65 zW) 65) (bodyOf Tryz.prog 65 3) (T65a s c (↑i : Int)) (M65a e h (wB l)) [true, false] (T65a s c ((↑i : Int) + (1 : Int))) 4 =
    some ([decide ((↑i : Int) < (80 : Int)) = true, decide ((↑i : Int) < (16 : Int)) = false, inI ((↑i : Int) - (15 : Int)), (0 : Int) ≤ (↑i : Int) - (15 : Int) ∧ (↑i : Int) - (15 : Int) < ((80 : Nat) : Int), 0 + Int.toNat ((↑i : Int) - (15 : Int)) * 1 < List.length l, inI ((↑i : Int) - (2 : Int)), (0 : Int) ≤ (↑i : Int) - (2 : Int) ∧ (↑i : Int) - (2 : Int) < ((80 : Nat) : Int), 0 + Int.toNat ((↑i : Int) - (2 : Int)) * 1 < List.length l, inI ((↑i : Int) - (16 : Int)), (0 : Int) ≤ (↑i : Int) - (16 : Int) ∧ (↑i : Int) - (16 : Int) < ((80 : Nat) : Int), 0 + Int.toNat ((↑i : Int) - (16 : Int)) * 1 < List.length l, inI ((↑i : Int) - (7 : Int)), (0 : Int) ≤ (↑i : Int) - (7 : Int) ∧ (↑i : Int) - (7 : Int) < ((80 : Nat) : Int), 0 + Int.toNat ((↑i : Int) - (7 : Int)) * 1 < List.length l, (0 : Int) ≤ (↑i : Int) ∧ (↑i : Int) < ((80 : Nat) : Int), 0 + i * 1 < List.length l, inI ((↑i : Int) + (1 : Int))], .normal, T65a s c ((i : Int) + 1), M65a e h (wB (l.set (iT i) (schQ l i)))) := by kernel_rfl
theorem r65x (e : TypeId) (h : W8) (c : Nat) (s : ByteArray) (l : List Nat) (i : Nat) : runTo (E65 zW) 1000 (Env.S (E65 zW) 65) (bodyOf Tryz.prog 65 3) (T65a s c (↑i : Int)) (M65a e h (wB l)) [false] (T65a s c (↑i : Int)) 4 =
    some ([decide ((↑i : Int) < (80 : Int)) = false], (.exit 0), T65a s c (i : Int), M65a e h (wB l)) := by kernel_rfl
theorem r65c (e : TypeId) (h v : W8) (u : Nat → Nat) (c i : Nat) : runTo (E65 u) 1000 (Env.S (E65 u) 65) (bodyOf Tryz.prog 65 11) (T65b c (i : Int)) (M65b e h v u) [true] (T65b c ((i : Int) + 1)) 5 =
    some ([decide ((i : Int) < 80) = true, (0 : Int) ≤ (i : Int) ∧ (i : Int) < ((80 : Nat) : Int), LoadsAs Tryz.prog 74 (cells64 80 0 shaK) (iT i) (.one (.u .u64 (shaK (iT i)))), (0 : Int) ≤ (i : Int) ∧ (i : Int) < ((80 : Nat) : Int), LoadsAs Tryz.prog 74 (cells64 80 0 u) (iT i) (.one (.u .u64 (u (iT i)))), inI ((i : Int) + 1)], .normal, T65b c ((i : Int) + 1), M65b e h (rnd v (shaK (iT i)) (u (iT i))) u) := by kernel_rfl
theorem r65y (e : TypeId) (h : W8) (v : W8) (u : Nat → Nat) (c : Nat) (i : Nat) : runTo (E65 u) 1000 (Env.S (E65 u) 65) (bodyOf Tryz.prog 65 11) (T65b c (↑i : Int)) (M65b e h v u) [false] (T65b c (↑i : Int)) 5 =
    some ([decide ((↑i : Int) < (80 : Int)) = false], (.exit 2), T65b c (i : Int), M65b e h v u) := by kernel_rfl
theorem M65a_free (e : TypeId) (h : W8) (w : Blk) (hw : Free w) : ∀ b ∈ M65a e h w, Free b := by
  intro b hb
  simp only [M65a, List.mem_cons, List.not_mem_nil, or_false] at hb
  rcases hb with rfl | rfl | rfl | rfl
  · exact fun f => cells64_free _ f _ _
  · exact hB_free _
  · exact hB_free _
  · exact hw
theorem M65a_len (e : TypeId) (h : W8) (w : Blk) : (M65a e h w).length = 4 := by simp only [M65a, List.length_cons, List.length_nil]
theorem wf65a (e : TypeId) (h : W8) (w : Blk) (hw : Free w) (s : ByteArray) (c : Nat) (i : Int) : wfS (T65a s c i) (M65a e h w) = true := wfS_of (M65a_free e h w hw) (by rw [M65a_len]; kernel_rfl)
theorem M65b_free (e : TypeId) (h v : W8) (u : Nat → Nat) : ∀ b ∈ M65b e h v u, Free b := by
  intro b hb
  simp only [M65b, List.mem_cons, List.not_mem_nil, or_false] at hb
  rcases hb with rfl | rfl | rfl | rfl | rfl
  · exact fun f => cells64_free _ f _ _
  · exact hB_free _
  · exact hB_free _
  · exact cB_free _
  · exact hB_free _
theorem M65b_len (e : TypeId) (h v : W8) (u : Nat → Nat) : (M65b e h v u).length = 5 := by simp only [M65b, List.length_cons, List.length_nil]
theorem wf65b (e : TypeId) (h v : W8) (u : Nat → Nat) (c : Nat) (i : Int) : wfS (T65b c i) (M65b e h v u) = true := wfS_of (M65b_free e h v u) (by rw [M65b_len]; kernel_rfl)
theorem step65a (e : TypeId) (h : W8) (c : Nat) (s : ByteArray) (hs : 128 ≤ s.size) (hl : s.size ≤ 4611686018427387904) (i : Nat) (hi : i < 80) (l : List Nat) (hlen : l.length = 80) :
    Goes Tryz.prog (bodyOf Tryz.prog 65 3) .normal (T65a s c (i : Int)) (M65a e h (wB l)) (T65a s c ((i : Int) + 1)) (M65a e h (wB (l.set i (bif decide (i < 16) then word8 s (8 * i) else schP l i)))) := by
  by_cases h16 : i < 16
  · have hr := r65a e h c s l i
    rw [show (Int.toNat ((8 : Int) * (i : Int))) = 8 * i by omega, show (Int.toNat ((8 : Int) * (i : Int) + 8)) = 8 * i + 8 by omega, word8_cut s (8 * i) (8 * i + 8) (by omega) (by omega), iT_eq] at hr
    rw [decide_eq_true h16, cond_true]
    exact Runs.goes (envE65 zW) ⟨_, _, hr, ⟨decide_eq_true (by omega), decide_eq_true (by omega), by unfold inI; omega, by unfold inI; omega, by unfold inI; omega, by omega, by omega, by rw [cut_size _ _ _ (by omega)]; omega, by omega, by omega, by unfold inI; omega, trivial⟩, wf65a _ _ _ (wB_free _) _ _ _⟩
  · have hr := r65b e h c s l i
    rw [iT_eq, schQ_eq] at hr
    rw [decide_eq_false h16, cond_false]
    exact Runs.goes (envE65 zW) ⟨_, _, hr, ⟨decide_eq_true (by omega), decide_eq_false (by omega), by unfold inI; omega, by omega, by omega, by unfold inI; omega, by omega, by omega, by unfold inI; omega, by omega, by omega, by unfold inI; omega, by omega, by omega, by omega, by omega, by unfold inI; omega, trivial⟩, wf65a _ _ _ (wB_free _) _ _ _⟩
theorem loop65a (e : TypeId) (h0 : W8) (c : Nat) (s : ByteArray) (hs : 128 ≤ s.size) (hl : s.size ≤ 4611686018427387904) (n : Nat) (hn : n = 80) (L : Nat → List Nat) (hL : ∀ i, (L i).length = 80) (h : ∀ i, L (i + 1) = (L i).set i (bif decide (i < 16) then word8 s (8 * i) else schP (L i) i)) :
    Goes Tryz.prog (.loop (bodyOf Tryz.prog 65 3)) (.exit 0) (T65a s c ((0 : Nat) : Int)) (M65a e h0 (wB (L 0))) (T65a s c (n : Int)) (M65a e h0 (wB (L n))) := by
  refine loop_goes (N := n) (k := 4) (T := fun i => T65a s c (i : Int)) (M := fun i => M65a e h0 (wB (L i))) (by simp) (fun _ _ => M65a_len _ _ _) (fun i hi => ?_) ?_
  · have := step65a e h0 c s hs hl i (by omega) (L i) (hL i)
    rw [← h i] at this
    exact this
  · exact Runs.goes (envE65 zW) ⟨_, _, r65x e h0 c s (L n) n, ⟨decide_eq_false (by omega), trivial⟩, wf65a _ _ _ (wB_free _) _ _ _⟩
theorem sch65 (e : TypeId) (h : W8) (c : Nat) (s : ByteArray) (hs : 128 ≤ s.size) (hl : s.size ≤ 4611686018427387904) :
    Goes Tryz.prog (.loop (bodyOf Tryz.prog 65 3)) (.exit 0) (T65a s c ((0 : Nat) : Int)) (M65a e h (cB zW)) (T65a s c ((80 : Nat) : Int)) (M65a e h (cB (schW s))) := by
  refine Goes.before (Goes.after (loop65a e h c s hs hl 80 rfl (schL s) (schL_len s) (fun _ => rfl)) (sameT_refl _) ⟨⟨rfl, rfl, rfl, rfl, fun φ => rfl⟩, ⟨rfl, rfl, rfl, rfl, fun φ => rfl⟩, ⟨rfl, rfl, rfl, rfl, fun φ => rfl⟩, ⟨rfl, rfl, rfl, rfl, fun φ => ?_⟩, trivial⟩ (wf65a _ _ _ (cB_free _) _ _ _))
    (sameT_refl _) ⟨⟨rfl, rfl, rfl, rfl, fun φ => rfl⟩, ⟨rfl, rfl, rfl, rfl, fun φ => rfl⟩, ⟨rfl, rfl, rfl, rfl, fun φ => rfl⟩, ⟨rfl, rfl, rfl, rfl, fun φ => ?_⟩, trivial⟩ (wf65a _ _ _ (wB_free _) _ _ _)
  · exact arr64_conc φ (schL s 80) 80 (schL_len s 80)
  · exact (arr64_conc φ (List.replicate 80 0) 80 List.length_replicate).symm
theorem step65b (e : TypeId) (h v : W8) (u : Nat → Nat) (c i : Nat) (hi : i < 80) : Goes Tryz.prog (bodyOf Tryz.prog 65 11) .normal (T65b c (i : Int)) (M65b e h v u) (T65b c ((i : Int) + 1)) (M65b e h (rnd v (shaK i) (u i)) u) := by
  have hr := r65c e h v u c i
  rw [iT_eq] at hr
  exact Runs.goes (envE65 u) ⟨_, _, hr, ⟨decide_eq_true (by omega), by omega, ld64 _ _ _ hi, by omega, ld64 _ _ _ hi, by unfold inI; omega, trivial⟩, wf65b _ _ _ _ _ _⟩
theorem loop65b (e : TypeId) (h : W8) (u : Nat → Nat) (c n : Nat) (hn : n = 80) (V : Nat → W8) (hV : ∀ i, V (i + 1) = rnd (V i) (shaK i) (u i)) :
    Goes Tryz.prog (.loop (bodyOf Tryz.prog 65 11)) (.exit 2) (T65b c ((0 : Nat) : Int)) (M65b e h (V 0) u) (T65b c (n : Int)) (M65b e h (V n) u) := by
  refine loop_goes (N := n) (k := 5) (T := fun i => T65b c (i : Int)) (M := fun i => M65b e h (V i) u) (by simp) (fun _ _ => M65b_len _ _ _ _) (fun i hi => ?_) ?_
  · have := step65b e h (V i) u c i (by omega)
    rw [← hV i] at this
    exact this
  · exact Runs.goes (envE65 u) ⟨_, _, r65y e h (V n) u c n, ⟨decide_eq_false (by omega), trivial⟩, wf65b _ _ _ _ _ _⟩
theorem rounds65 (e : TypeId) (h : W8) (u : Nat → Nat) (c : Nat) : Goes Tryz.prog (.loop (bodyOf Tryz.prog 65 11)) (.exit 2) (T65b c ((0 : Nat) : Int)) (M65b e h h u) (T65b c ((80 : Nat) : Int)) (M65b e h (vE u h) u) := loop65b e h u c 80 rfl (vR u h) (fun _ => rfl)
noncomputable def E65L (e : TypeId) (h : W8) (s : ByteArray) (c : Nat) : Env := withL (E65 (schW s)) 3 (bodyOf Tryz.prog 65 3) (sumC (T65a s c ((0 : Nat) : Int)) (M65a e h (cB zW)) (T65a s c ((80 : Nat) : Int)) (M65a e h (cB (schW s))) (.exit 0))
noncomputable def addLp (E : Env) (k : Nat) (y : Code) (f : List AV → List Blk → List Bool → CoR) : Env := { E with lp := fun j => match Nat.beq j k with | true => some (y, f) | false => E.lp j }
theorem envAddLp {E : Env} (hE : EnvOK E) {k : Nat} {y : Code} {f : List AV → List Blk → List Bool → CoR} (h : SumOK E.P (.loop y) f) : EnvOK (addLp E k y f) := by
  refine ⟨hE.mixed, hE.fns, hE.fms, ?_, hE.fbs⟩
  intro j y' f' hj
  simp only [addLp] at hj
  split at hj
  · simp only [Option.some.injEq, Prod.mk.injEq] at hj
    obtain ⟨rfl, rfl⟩ := hj
    exact h
  · exact hE.lps j y' f' hj
noncomputable def E65M (e : TypeId) (h : W8) (s : ByteArray) (c : Nat) : Env := addLp (E65L e h s c) 11 (bodyOf Tryz.prog 65 11) (sumC (T65b c ((0 : Nat) : Int)) (M65b e h h (schW s)) (T65b c ((80 : Nat) : Int)) (M65b e h (vE (schW s) h) (schW s)) (.exit 2))
theorem envE65L (e : TypeId) (h : W8) (s : ByteArray) (c : Nat) (hs : 128 ≤ s.size) (hl : s.size ≤ 4611686018427387904) : EnvOK (E65L e h s c) := envWithL (envE65 _) (sumC_ok (by rw [M65a_len, M65a_len]) (sch65 e h c s hs hl))
theorem envE65M (e : TypeId) (h : W8) (s : ByteArray) (c : Nat) (hs : 128 ≤ s.size) (hl : s.size ≤ 4611686018427387904) : EnvOK (E65M e h s c) := envAddLp (envE65L e h s c hs hl) (sumC_ok (by rw [M65b_len, M65b_len]) (rounds65 e h (schW s) c))
def slK (c : Nat) : V1 := .one (.sl 0 0 80 c)
theorem r65 (e : TypeId) (h : W8) (s : ByteArray) (c : Nat) : dropM (callBy (E65M e h s c) (evalC (E65M e h s c) 1000) 65 [aV h, sS s, slK c] [tB e] []) =
    some ([bodyOf Tryz.prog 65 3 = bodyOf Tryz.prog 65 3, (T65a s c ((0 : Nat) : Int), M65a e h (cB zW)) = (T65a s c ((0 : Nat) : Int), M65a e h (cB zW)), wfS (T65a s c ((0 : Nat) : Int)) (M65a e h (cB zW)) = true,
      bodyOf Tryz.prog 65 11 = bodyOf Tryz.prog 65 11, (T65b c ((0 : Nat) : Int), M65b e h h (schW s)) = (T65b c ((0 : Nat) : Int), M65b e h h (schW s)), wfS (T65b c ((0 : Nat) : Int)) (M65b e h h (schW s)) = true], .val (aV (blk5 h s))) := by kernel_rfl
end Go.Ev.H5

namespace Go.Ev.H5
open Go Go.Proofs Go.RowKit
theorem calls65 (e : TypeId) (h : W8) (s : ByteArray) (c : Nat) (hs : 128 ≤ s.size) (hl : s.size ≤ 4611686018427387904) {w : World} {φ : Loc} (hm : MRel w φ [tB e] w) :
    Calls Tryz.prog 65 (([aV h, sS s, slK c] : List V1).map (V1.conc φ)).toArray w fun x w' => x = .returned ((AV.val (aV (blk5 h s))).conc φ) ∧ Below w.heap.size w w' := by
  obtain ⟨c', m', h'⟩ := dropM_some (r65 e h s c)
  refine calls_of_run (envE65M e h s c hs hl) rfl h' ⟨rfl, rfl, wf65a _ _ _ (cB_free _) _ _ _, rfl, rfl, wf65b _ _ _ _ _ _, trivial⟩ rfl hm ?_
  intro v hv
  simp only [List.mem_cons, List.not_mem_nil, or_false] at hv
  rcases hv with rfl | rfl | rfl <;> rfl
noncomputable def fm65 (vs : List V1) (bs : List (Option Blk)) : Option (List Prop × AV) :=
  match vs, bs with
  | [.agg [.a (.u .u64 a), .a (.u .u64 b), .a (.u .u64 c), .a (.u .u64 d), .a (.u .u64 e), .a (.u .u64 f), .a (.u .u64 g), .a (.u .u64 h)], .one (.v (.string s)), .one (.sl _ 0 80 _)], [_, _, some k] =>
    some ([k.ps = cells64 80 0 shaK, 128 ≤ s.size ∧ s.size ≤ 4611686018427387904], .val (aV (blk5 ⟨a, b, c, d, e, f, g, h⟩ s)))
  | _, _ => none
theorem fm65_ok {vs : List V1} {mem : List Blk} {ob : List Prop} {r : AV} (h : fm65 vs (blks mem vs) = some (ob, r)) (ho : All ob) (w0 : World) (φ : Loc) (w : World) (hm : MRel w0 φ mem w) :
    Calls Tryz.prog 65 (vs.map (V1.conc φ)).toArray w fun e w' => e = .returned (r.conc φ) ∧ Below w.heap.size w w' := by
  unfold fm65 at h
  split at h
  · rename_i a b c d e f g h8 s bl cp y1 y2 k hbs
    simp only [Option.some.injEq, Prod.mk.injEq] at h
    obtain ⟨rfl, rfl⟩ := h
    simp only [blks, List.cons.injEq, and_true] at hbs
    obtain ⟨_, _, hb⟩ := hbs
    replace hb : (match mem[bl]? with | some k => (match k.live with | true => some k | false => none) | none => none) = some k := hb
    split at hb
    · rename_i k' hk
      split at hb
      · rename_i hl
        simp only [Option.some.injEq] at hb
        subst hb
        obtain ⟨hps, ⟨h1, h2⟩, _⟩ := ho
        have hw := hm.window hk hl (fun f => by rw [hps]; exact cells64_free _ f _ _)
        rw [hps] at hw
        have := calls65 k'.elem ⟨a, b, c, d, e, f, g, h8⟩ s cp h1 h2 hw
        simpa [aV, W8.cells, sS, slK, V1.conc, Atom.conc, AV.conc, concs, Piece.conc] using this
      · simp at hb
    · simp at hb
  · simp at h
noncomputable def fm5 : FuncId → List V1 → List (Option Blk) → Option (List Prop × AV) := fun f vs bs => match f with | 65 => fm65 vs bs | _ => none
theorem fm5_ok : ∀ f vs mem ob r, fm5 f vs (blks mem vs) = some (ob, r) → All ob → ∀ w0 φ w, MRel w0 φ mem w → Calls Tryz.prog f (vs.map (V1.conc φ)).toArray w fun e w' => e = .returned (r.conc φ) ∧ Below w.heap.size w w' := by
  intro f vs mem ob r h ho w0 φ w hm
  unfold fm5 at h
  split at h
  · exact fm65_ok h ho w0 φ w hm
  · simp at h
def zs (n : Nat) : ByteArray := strOf (List.replicate n 0)
theorem zs_size (n : Nat) : (zs n).size = n := by unfold zs; rw [strOf_size, List.length_replicate]
noncomputable def E21 : Env := { E0 with S := fun f t => match f with | 21 => memN t [2000004, 2000005] | _ => false }
theorem envE21 : EnvOK E21 := ⟨mixed, envE0.fns, envE0.fms, envE0.lps, envE0.fbs⟩
theorem run21n (z : Int) : callR E21 1000 21 [.one (.i z)] [] = some ([0 ≤ z ∧ z = z ∧ z ≤ 140737488355328, 0 = 0 ∧ z.toNat = (List.replicate z.toNat 0).length], .val (sS (zs z.toNat))) := by kernel_rfl
def fnZs (vs : List V1) : Option (List Prop × AV) :=
  match vs with
  | [.one (.i z)] => some ([0 ≤ z ∧ z ≤ 1000000], .val (sS (zs z.toNat)))
  | _ => none
theorem ct21z : CTok ⟨21, fnZs⟩ := by
  intro vs ob r h ho
  simp only [fnZs] at h
  split at h
  · rename_i z
    simp only [Option.some.injEq, Prod.mk.injEq] at h
    obtain ⟨rfl, rfl⟩ := h
    have h1 := ho.1
    exact spec_run envE21 rfl (run21n z) ⟨by omega, ⟨rfl, by simp⟩, trivial⟩ rfl rfl
  · simp at h
def bytesW (x : Nat) : List Nat := [x / 2 ^ 56 % 256, x / 2 ^ 48 % 256, x / 2 ^ 40 % 256, x / 2 ^ 32 % 256, x / 2 ^ 24 % 256, x / 2 ^ 16 % 256, x / 2 ^ 8 % 256, x / 2 ^ 0 % 256]
def s8 (x : Nat) : Nat := x / 2 ^ 8
theorem run63 (x : Nat) : callR E0 1000 63 [u64 x] [] = some ([], .val (sS (strOf [s8 (s8 (s8 (s8 (s8 (s8 (s8 x)))))) % 256, s8 (s8 (s8 (s8 (s8 (s8 x))))) % 256, s8 (s8 (s8 (s8 (s8 x)))) % 256, s8 (s8 (s8 (s8 x))) % 256, s8 (s8 (s8 x)) % 256, s8 (s8 x) % 256, s8 x % 256, x % 256]))) := by kernel_rfl
theorem s8_list (x : Nat) : [s8 (s8 (s8 (s8 (s8 (s8 (s8 x)))))) % 256, s8 (s8 (s8 (s8 (s8 (s8 x))))) % 256, s8 (s8 (s8 (s8 (s8 x)))) % 256, s8 (s8 (s8 (s8 x))) % 256, s8 (s8 (s8 x)) % 256, s8 (s8 x) % 256, s8 x % 256, x % 256] = bytesW x := by
  unfold s8 bytesW
  simp only [Nat.div_div_eq_div_mul, ← Nat.pow_add, Nat.reduceAdd, Nat.pow_zero, Nat.div_one]
def eightS (x : Nat) : ByteArray := strOf (bytesW x)
theorem spec63 (x : Nat) : Spec 63 [u64 x] (.val (sS (eightS x))) := by
  have h := spec_run envE0 rfl (run63 x) trivial rfl rfl
  rw [s8_list] at h
  exact h
def fn63e (vs : List V1) : Option (List Prop × AV) :=
  match vs with
  | [.one (.u .u64 x)] => some ([], .val (sS (eightS x)))
  | _ => none
theorem ct63e : CTok ⟨63, fn63e⟩ := by
  intro vs ob r h _
  simp only [fn63e] at h
  split at h
  · simp only [Option.some.injEq, Prod.mk.injEq] at h
    obtain ⟨_, rfl⟩ := h
    exact spec63 _
  · simp at h
end Go.Ev.H5

namespace Go.Ev.H5
open Go Go.Proofs Go.RowKit
def h0W : W8 := ⟨7640891576956012808, 13503953896175478587, 4354685564936845355, 11912009170470909681, 5840696475078001361, 11170449401992604703, 2270897969802886507, 6620516959819538809⟩
theorem r94 : callR E0 1000 94 [] [] = some ([], .val (aV h0W)) := by kernel_rfl
theorem r64 : callR E0 1000 64 [] [] = some ([], .val (aV h0W)) := by kernel_rfl
theorem ct94 : CTok ⟨94, cV (.val (aV h0W))⟩ := ctV (spec_run envE0 rfl r94 trivial rfl rfl)
theorem ct64 : CTok ⟨64, cV (.val (aV h0W))⟩ := ctV (spec_run envE0 rfl r64 trivial rfl rfl)
noncomputable def L34 : List CT := [⟨21, fnZs⟩, ⟨63, fn63e⟩, ⟨94, cV (.val (aV h0W))⟩, ⟨64, cV (.val (aV h0W))⟩]
theorem L34_ok : AllCT L34 := ⟨ct21z, ct63e, ct94, ct64, trivial⟩
noncomputable def S34 : FuncId → Nat → Bool := fun f t => match f with | 34 => memN t [13, 16, 19, 21, 26, 31, 38, 39, 33, 51] | _ => false
noncomputable def E34 : Env := mkF L34 fm5 S34
theorem envE34 : EnvOK E34 := envMkF L34_ok fm5_ok S34
def T34 (F : ByteArray) (i : Int) : List AV := slots 53 [(0, .val (sS F)), (3, .val (.one (.sl 0 0 80 80))), (5, pV 1), (6, iV i)]
def kB : Blk := ⟨cells64 80 0 shaK, 74, true, false, 0⟩
def M34 (h : W8) : List Blk := [kB, hB h]
theorem r34a (h : W8) (F : ByteArray) (i : Nat) : runTo E34 1000 (Env.S E34 34) (bodyOf Tryz.prog 34 6) (T34 F (↑i : Int)) (M34 h) [true] (T34 F ((↑i : Int) + (128 : Int))) 2 =
    some ([decide ((↑i : Int) < (↑(ByteArray.size F) : Int)) = true, inI ((↑i : Int) + (128 : Int)), (0 : Int) ≤ (↑i : Int) + (128 : Int) ∧ (↑i : Int) + (128 : Int) ≤ (↑(ByteArray.size F) : Int), (0 : Int) ≤ (↑i : Int) ∧ (↑i : Int) ≤ (↑(Int.toNat ((↑i : Int) + (128 : Int))) : Int), Piece.a (Atom.u IntKind.u64 (shaK 0)) :: cells64 (79) (0 + 1) shaK = Piece.a (Atom.u IntKind.u64 (shaK 0)) :: cells64 (79) (0 + 1) shaK, 128 ≤ ByteArray.size (ByteArray.extract F i (Int.toNat ((↑i : Int) + (128 : Int)))) ∧ ByteArray.size (ByteArray.extract F i (Int.toNat ((↑i : Int) + (128 : Int)))) ≤ 4611686018427387904, inI ((↑i : Int) + (128 : Int))], .normal, T34 F ((i : Int) + 128), M34 (blk5 h (F.extract i (i + 128)))) := by kernel_rfl
theorem r34x (h : W8) (F : ByteArray) (i : Nat) : runTo E34 1000 (Env.S E34 34) (bodyOf Tryz.prog 34 6) (T34 F (↑i : Int)) (M34 h) [false] (T34 F (↑i : Int)) 2 =
    some ([decide ((↑i : Int) < (↑(ByteArray.size F) : Int)) = false], (.exit 0), T34 F (i : Int), M34 h) := by kernel_rfl
end Go.Ev.H5

namespace Go.Ev.H5
open Go Go.Proofs Go.RowKit
def x80 : ByteArray := ⟨#[128]⟩
def padZ (n : Nat) : Int := Int.tmod (239 - Int.tmod (n : Int) 128) 128
def lenW (n : Nat) : Nat := 8 * ((n : Int) % 18446744073709551616).toNat % M64
noncomputable def fillQ (s : ByteArray) : ByteArray := (((s ++ x80) ++ zs (padZ s.size).toNat) ++ zs 8) ++ eightS (lenW s.size)
noncomputable def outQ (h : W8) : ByteArray := (((((((⟨#[]⟩ ++ eightS h.a) ++ eightS h.b) ++ eightS h.c) ++ eightS h.d) ++ eightS h.e) ++ eightS h.f) ++ eightS h.g) ++ eightS h.h
noncomputable def E34L (s : ByteArray) (n : Int) (h : W8) : Env := addLp E34 6 (bodyOf Tryz.prog 34 6) (sumC (T34 (fillQ s) ((0 : Nat) : Int)) (M34 h0W) (T34 (fillQ s) n) (M34 h) (.exit 0))
theorem r34 (s : ByteArray) (n : Int) (h : W8) : callR (E34L s n h) 1000 34 [sS s] [] =
    some ([s.size + x80.size ≤ 9223372036854775807, inI (239 - Int.tmod (s.size : Int) 128), 0 ≤ padZ s.size ∧ padZ s.size ≤ 1000000, (s ++ x80).size + (zs (padZ s.size).toNat).size ≤ 9223372036854775807, (0 : Int) ≤ 8 ∧ (8 : Int) ≤ 1000000,
      ((s ++ x80) ++ zs (padZ s.size).toNat).size + (zs 8).size ≤ 9223372036854775807, (((s ++ x80) ++ zs (padZ s.size).toNat) ++ zs 8).size + (eightS (lenW s.size)).size ≤ 9223372036854775807,
      bodyOf Tryz.prog 34 6 = bodyOf Tryz.prog 34 6, (T34 (fillQ s) ((0 : Nat) : Int), M34 h0W) = (T34 (fillQ s) ((0 : Nat) : Int), M34 h0W), wfS (T34 (fillQ s) ((0 : Nat) : Int)) (M34 h0W) = true,
      (⟨#[]⟩ : ByteArray).size + (eightS h.a).size ≤ 9223372036854775807, (⟨#[]⟩ ++ eightS h.a : ByteArray).size + (eightS h.b).size ≤ 9223372036854775807, ((⟨#[]⟩ ++ eightS h.a) ++ eightS h.b : ByteArray).size + (eightS h.c).size ≤ 9223372036854775807,
      (((⟨#[]⟩ ++ eightS h.a) ++ eightS h.b) ++ eightS h.c : ByteArray).size + (eightS h.d).size ≤ 9223372036854775807, ((((⟨#[]⟩ ++ eightS h.a) ++ eightS h.b) ++ eightS h.c) ++ eightS h.d : ByteArray).size + (eightS h.e).size ≤ 9223372036854775807,
      (((((⟨#[]⟩ ++ eightS h.a) ++ eightS h.b) ++ eightS h.c) ++ eightS h.d) ++ eightS h.e : ByteArray).size + (eightS h.f).size ≤ 9223372036854775807, ((((((⟨#[]⟩ ++ eightS h.a) ++ eightS h.b) ++ eightS h.c) ++ eightS h.d) ++ eightS h.e) ++ eightS h.f : ByteArray).size + (eightS h.g).size ≤ 9223372036854775807,
      (((((((⟨#[]⟩ ++ eightS h.a) ++ eightS h.b) ++ eightS h.c) ++ eightS h.d) ++ eightS h.e) ++ eightS h.f) ++ eightS h.g : ByteArray).size + (eightS h.h).size ≤ 9223372036854775807], .val (sS (outQ h))) := by kernel_rfl
theorem eightS_size (x : Nat) : (eightS x).size = 8 := by unfold eightS; rw [strOf_size]; rfl
theorem x80_size : x80.size = 1 := rfl
theorem e0_size : (⟨#[]⟩ : ByteArray).size = 0 := rfl
theorem padZ_eq (n : Nat) : padZ n = (((239 - n % 128) % 128 : Nat) : Int) := by
  unfold padZ
  have e1 : Int.tmod (n : Int) 128 = ((n % 128 : Nat) : Int) := by
    rw [Int.tmod_eq_emod_of_nonneg (by omega)]; omega
  rw [e1, Int.tmod_eq_emod_of_nonneg (by omega)]; omega
def nBl (n : Nat) : Nat := (n + 144) / 128
theorem fillQ_size (s : ByteArray) : (fillQ s).size = 128 * nBl s.size := by
  unfold fillQ nBl
  simp only [ByteArray.size_append, eightS_size, zs_size, x80_size, padZ_eq, Int.toNat_natCast]
  omega
noncomputable def hst (F : ByteArray) : Nat → W8
  | 0 => h0W
  | j + 1 => blk5 (hst F j) (F.extract (128 * j) (128 * j + 128))
noncomputable def sum5 (s : ByteArray) : ByteArray := outQ (hst (fillQ s) (nBl s.size))
theorem M34_free (h : W8) : ∀ b ∈ M34 h, Free b := by
  intro b hb
  simp only [M34, List.mem_cons, List.not_mem_nil, or_false] at hb
  rcases hb with rfl | rfl
  · exact fun f => cells64_free _ f _ _
  · exact hB_free _
theorem M34_len (h : W8) : (M34 h).length = 2 := by simp only [M34, List.length_cons, List.length_nil]
theorem wf34 (F : ByteArray) (h : W8) (i : Int) : wfS (T34 F i) (M34 h) = true := wfS_of (M34_free h) (by rw [M34_len]; kernel_rfl)
theorem step34 (F : ByteArray) (h : W8) (j : Nat) (h1 : 128 * j + 128 ≤ F.size) (h2 : F.size ≤ 1000000000000000) : Goes Tryz.prog (bodyOf Tryz.prog 34 6) .normal (T34 F ((128 * j : Nat) : Int)) (M34 h) (T34 F ((128 * (j + 1) : Nat) : Int)) (M34 (blk5 h (F.extract (128 * j) (128 * j + 128)))) := by
  have hr := r34a h F (128 * j)
  rw [show Int.toNat (((128 * j : Nat) : Int) + 128) = 128 * j + 128 by omega] at hr
  rw [show ((128 * (j + 1) : Nat) : Int) = ((128 * j : Nat) : Int) + 128 by omega]
  have hz := cut_size F (128 * j) (128 * j + 128) h1
  exact Runs.goes envE34 ⟨_, _, hr, ⟨decide_eq_true (by omega), by unfold inI; omega, by omega, by omega, rfl, by omega, by unfold inI; omega, trivial⟩, wf34 _ _ _⟩
theorem loop34 (F : ByteArray) (n : Nat) (hn : F.size = 128 * n) (h2 : F.size ≤ 1000000000000000) (V : Nat → W8) (hV : ∀ j, V (j + 1) = blk5 (V j) (F.extract (128 * j) (128 * j + 128))) :
    Goes Tryz.prog (.loop (bodyOf Tryz.prog 34 6)) (.exit 0) (T34 F ((128 * 0 : Nat) : Int)) (M34 (V 0)) (T34 F ((128 * n : Nat) : Int)) (M34 (V n)) := by
  refine loop_goes (N := n) (k := 2) (T := fun j => T34 F ((128 * j : Nat) : Int)) (M := fun j => M34 (V j)) (by simp) (fun _ _ => M34_len _) (fun j hj => ?_) ?_
  · have := step34 F (V j) j (by omega) h2
    rw [← hV j] at this
    exact this
  · exact Runs.goes envE34 ⟨_, _, r34x (V n) F (128 * n), ⟨decide_eq_false (by omega), trivial⟩, wf34 _ _ _⟩
theorem goes34 (s : ByteArray) (h2 : s.size ≤ 100000000000000) : Goes Tryz.prog (.loop (bodyOf Tryz.prog 34 6)) (.exit 0) (T34 (fillQ s) ((0 : Nat) : Int)) (M34 h0W) (T34 (fillQ s) ((128 * nBl s.size : Nat) : Int)) (M34 (hst (fillQ s) (nBl s.size))) :=
  loop34 (fillQ s) (nBl s.size) (fillQ_size s) (by rw [fillQ_size]; unfold nBl; omega) (hst (fillQ s)) (fun _ => rfl)
theorem envE34L (s : ByteArray) (h2 : s.size ≤ 100000000000000) : EnvOK (E34L s ((128 * nBl s.size : Nat) : Int) (hst (fillQ s) (nBl s.size))) := envAddLp envE34 (sumC_ok (by rw [M34_len, M34_len]) (goes34 s h2))
theorem spec34s (s : ByteArray) (h2 : s.size ≤ 100000000000000) : Spec 34 [sS s] (.val (sS (sum5 s))) := by
  have hz := padZ_eq s.size
  refine spec_run (envE34L s h2) rfl (r34 s _ _) ⟨?_, ?_, ?_, ?_, by decide, ?_, ?_, rfl, rfl, wf34 _ _ _, ?_, ?_, ?_, ?_, ?_, ?_, ?_, ?_, trivial⟩ rfl rfl
  · rw [x80_size]; omega
  · rw [Int.tmod_eq_emod_of_nonneg (by omega)]; unfold inI; omega
  · omega
  all_goals (simp only [ByteArray.size_append, eightS_size, zs_size, x80_size, e0_size]; omega)
noncomputable def fnS5 (vs : List V1) : Option (List Prop × AV) :=
  match vs with
  | [.one (.v (.string s))] => some ([s.size ≤ 100000000000000], .val (sS (sum5 s)))
  | _ => none
theorem ct34 : CTok ⟨34, fnS5⟩ := by
  intro vs ob r h ho
  simp only [fnS5] at h
  split at h
  · simp only [Option.some.injEq, Prod.mk.injEq] at h
    obtain ⟨rfl, rfl⟩ := h
    exact spec34s _ ho.1
  · simp at h
theorem outQ_size (h : W8) : (outQ h).size = 64 := by
  unfold outQ
  simp only [ByteArray.size_append, eightS_size, e0_size]
theorem sum5_size (s : ByteArray) : (sum5 s).size = 64 := outQ_size _
end Go.Ev.H5

namespace Go.Ev.H5
open Go Go.Proofs Go.RowKit
def sumG (T0 : List AV) (M0 : List Blk) (TF : List AV) (MF : List Blk) (ex : Ex) : List AV → List Blk → List Bool → CoR := fun tm mem c =>
  some ([(fitT T0 tm, mem) = (T0, M0), wfS T0 M0 = true], c, ex, TF, MF)
theorem sumG_ok {P : Program} {y : Code} {T0 TF : List AV} {M0 MF : List Blk} {ex : Ex} (hl : M0.length ≤ MF.length) (h : Goes P (.loop y) ex T0 M0 TF MF) : SumOK P (.loop y) (sumG T0 M0 TF MF ex) := by
  intro tm mem c ob c' ex' tm' mem' hf ho w0 φ a w hr Q hQ
  simp only [sumG, Option.some.injEq, Prod.mk.injEq] at hf
  obtain ⟨rfl, rfl, rfl, rfl, rfl⟩ := hf
  obtain ⟨h1, h2, _⟩ := ho
  obtain ⟨h1, rfl⟩ := h1
  refine h w0 φ a w (hr.fit (fits_of (by rw [h1, List.take_length]) h2)) Q ?_
  intro φ' a' w' hag hr'
  exact hQ φ' a' w' hag hl hr'
def slX (b n : Nat) : AV := .val (.one (.sx b n))
def dB (l : List Nat) : Blk := ⟨[.arr .u8 l], 5, false, false, 1⟩
def aB (l : List Nat) : Blk := ⟨[.arr .u8 l], 5, true, false, 1⟩
def oB (x : Nat) : Blk := ⟨[.a (.u .u8 x)], 5, true, false, 0⟩
def T95 (s : ByteArray) (b n : Nat) : List AV := slots 28 [(0, .val (sS s)), (3, slX b n)]
noncomputable def S95 : FuncId → Nat → Bool := fun f t => match f with | 95 => memN t [2000006, 2000008, 12, 2000015, 2000026, 2000027, 9000000] | _ => false
noncomputable def E95 : Env := { E0 with S := S95 }
theorem envE95 : EnvOK E95 := ⟨mixed, envE0.fns, envE0.fms, envE0.lps, envE0.fbs⟩
end Go.Ev.H5

namespace Go.Ev.H5
open Go Go.Proofs Go.RowKit
theorem r95a (s : ByteArray) (l : List Nat) (n : Nat) : runTo E95 1000 (Env.S E95 95) (bodyOf Tryz.prog 95 2) (T95 s 2 n) [dB (numsB s), oB 128, aB l] [true] (T95 s 4 (n + 1)) 5 =
    some ([(!decide (Int.ofNat (n % 128) = (112 : Int))) = true, n = List.length l ∧ 0 < 1 ∧ (n + 1) * 1 ≤ 140737488355328 ∧ n + 1 ≤ 140737488355328], .normal, T95 s 4 (n + 1), [dB (numsB s), oB 128, dB l, oB 0, aB (l ++ [0])]) := by kernel_rfl
theorem r95x (s : ByteArray) (l : List Nat) (n : Nat) : runTo E95 1000 (Env.S E95 95) (bodyOf Tryz.prog 95 2) (T95 s 2 n) [dB (numsB s), oB 128, aB l] [false] (T95 s 2 n) 3 =
    some ([(!decide (Int.ofNat (n % 128) = (112 : Int))) = false], (.exit 0), T95 s 2 n, [dB (numsB s), oB 128, aB l]) := by kernel_rfl
theorem dec_ne {n : Nat} (h : n % 128 ≠ 112) : (!decide (Int.ofNat (n % 128) = (112 : Int))) = true := by
  have : Int.ofNat (n % 128) ≠ (112 : Int) := by simp only [Int.ofNat_eq_natCast]; omega
  rw [decide_eq_false this]; rfl
theorem dec_eq {n : Nat} (h : n % 128 = 112) : (!decide (Int.ofNat (n % 128) = (112 : Int))) = false := by
  have : Int.ofNat (n % 128) = (112 : Int) := by simp only [Int.ofNat_eq_natCast]; omega
  rw [decide_eq_true this]; rfl
theorem free3 (s : ByteArray) (l : List Nat) : ∀ b ∈ [dB (numsB s), oB 128, aB l], Free b := by
  intro b hb
  simp only [List.mem_cons, List.not_mem_nil, or_false] at hb
  rcases hb with rfl | rfl | rfl <;> exact fun _ => rfl
theorem free5 (s : ByteArray) (l : List Nat) : ∀ b ∈ [dB (numsB s), oB 128, dB l, oB 0, aB (l ++ [0])], Free b := by
  intro b hb
  simp only [List.mem_cons, List.not_mem_nil, or_false] at hb
  rcases hb with rfl | rfl | rfl | rfl | rfl <;> exact fun _ => rfl
theorem free4 (s : ByteArray) (l : List Nat) : ∀ b ∈ [dB (numsB s), oB 128, dB [], aB l], Free b := by
  intro b hb
  simp only [List.mem_cons, List.not_mem_nil, or_false] at hb
  rcases hb with rfl | rfl | rfl | rfl <;> exact fun _ => rfl
theorem wf95_3 (s : ByteArray) (l : List Nat) (n : Nat) : wfS (T95 s 2 n) [dB (numsB s), oB 128, aB l] = true := wfS_of (free3 s l) (by show tmsWf 3 _ = true; kernel_rfl)
theorem wf95_5 (s : ByteArray) (l : List Nat) (n : Nat) : wfS (T95 s 4 n) [dB (numsB s), oB 128, dB l, oB 0, aB (l ++ [0])] = true := wfS_of (free5 s l) (by show tmsWf 5 _ = true; kernel_rfl)
theorem wf95_4 (s : ByteArray) (l : List Nat) (n : Nat) : wfS (T95 s 3 n) [dB (numsB s), oB 128, dB [], aB l] = true := wfS_of (free4 s l) (by show tmsWf 4 _ = true; kernel_rfl)
theorem mv95 (s : ByteArray) (b b' n : Nat) : mvT 2 b b' (T95 s b n) (T95 s b' n) := by
  show mvT 2 b b' [_, .junk, .junk, _, .junk, .junk, .junk, .junk, .junk, .junk, .junk, .junk, .junk, .junk, .junk, .junk, .junk, .junk, .junk, .junk, .junk, .junk, .junk, .junk, .junk, .junk, .junk, .junk] [_, .junk, .junk, _, .junk, .junk, .junk, .junk, .junk, .junk, .junk, .junk, .junk, .junk, .junk, .junk, .junk, .junk, .junk, .junk, .junk, .junk, .junk, .junk, .junk, .junk, .junk, .junk]
  simp only [mvT, and_true, true_or, true_and]
  exact ⟨.inr (.inl rfl), .inr (.inr ⟨n, rfl, rfl⟩)⟩
set_option maxRecDepth 100000 in
theorem step95 (s : ByteArray) (l : List Nat) (n : Nat) (hn : n = l.length) (h : n % 128 ≠ 112) (hb : n + 1 ≤ 140737488355328) :
    GoesK Tryz.prog 2 (bodyOf Tryz.prog 95 2) .normal (T95 s 2 n) [dB (numsB s), oB 128, aB l] (T95 s 2 (n + 1)) [dB (numsB s), oB 128, aB (l ++ [0])] := by
  have h1 : Goes Tryz.prog (bodyOf Tryz.prog 95 2) .normal (T95 s 2 n) [dB (numsB s), oB 128, aB l] (T95 s 4 (n + 1)) [dB (numsB s), oB 128, dB l, oB 0, aB (l ++ [0])] := Runs.goes envE95 ⟨_, _, r95a s l n, ⟨dec_ne h, ⟨hn, by decide, by omega, hb⟩, trivial⟩, wf95_5 _ _ _⟩
  refine (h1.toK (K := 2) (by simp only [List.length_cons, List.length_nil]; omega)).move (b := 4) (b' := 2) (mv95 s 4 2 (n + 1)) (by omega) (by omega) ?_ (wf95_3 _ _ _)
  intro i k hk hl
  match i, hk with
  | 0, hk => simp only [List.getElem?_cons_zero, Option.some.injEq] at hk; subst hk; exact absurd hl (by simp [dB])
  | 1, hk => simp only [List.getElem?_cons_succ, List.getElem?_cons_zero, Option.some.injEq] at hk; subst hk; exact ⟨fun _ => rfl, .inl ⟨by omega, rfl⟩⟩
  | 2, hk => simp only [List.getElem?_cons_succ, List.getElem?_cons_zero, Option.some.injEq] at hk; subst hk; exact ⟨fun _ => rfl, .inr ⟨rfl, by omega, rfl⟩⟩
  | i + 3, hk => simp at hk
set_option maxRecDepth 100000 in
theorem loop95 (s : ByteArray) (l : List Nat) (z : Nat) (hz : ∀ j, j < z → (l.length + j) % 128 ≠ 112) (h : (l.length + z) % 128 = 112) (hb : l.length + z ≤ 140737488355328) :
    Goes Tryz.prog (.loop (bodyOf Tryz.prog 95 2)) (.exit 0) (T95 s 2 l.length) [dB (numsB s), oB 128, aB l] (T95 s 3 (l.length + z)) [dB (numsB s), oB 128, dB [], aB (l ++ List.replicate z 0)] := by
  have hK : GoesK Tryz.prog 2 (.loop (bodyOf Tryz.prog 95 2)) (.exit 0) (T95 s 2 (l.length + 0)) [dB (numsB s), oB 128, aB (l ++ List.replicate 0 0)] (T95 s 2 (l.length + z)) [dB (numsB s), oB 128, aB (l ++ List.replicate z 0)] := by
    refine loop_goesK (N := z) (T := fun j => T95 s 2 (l.length + j)) (M := fun j => [dB (numsB s), oB 128, aB (l ++ List.replicate j 0)]) (by simp) (fun j hj => ?_) ?_
    · have := step95 s (l ++ List.replicate j 0) (l.length + j) (by simp) (hz j hj) (by omega)
      rw [List.append_assoc, ← List.replicate_succ'] at this
      exact this
    · have h2 : Goes Tryz.prog (bodyOf Tryz.prog 95 2) (.exit 0) (T95 s 2 (l.length + z)) [dB (numsB s), oB 128, aB (l ++ List.replicate z 0)] (T95 s 2 (l.length + z)) [dB (numsB s), oB 128, aB (l ++ List.replicate z 0)] := Runs.goes envE95 ⟨_, _, r95x s (l ++ List.replicate z 0) (l.length + z), ⟨dec_eq h, trivial⟩, wf95_3 _ _ _⟩
      exact h2.toK (by simp only [List.length_cons, List.length_nil]; omega)
  rw [List.replicate_zero, List.append_nil, Nat.add_zero] at hK
  refine GoesK.goes (K := 3) (hK.move (b := 2) (b' := 3) (mv95 s 2 3 (l.length + z)) (by omega) (by omega) ?_ (wf95_4 _ _ _)) (by simp only [List.length_cons, List.length_nil])
  intro i k hk hl
  match i, hk with
  | 0, hk => simp only [List.getElem?_cons_zero, Option.some.injEq] at hk; subst hk; exact absurd hl (by simp [dB])
  | 1, hk => simp only [List.getElem?_cons_succ, List.getElem?_cons_zero, Option.some.injEq] at hk; subst hk; exact ⟨fun _ => rfl, .inl ⟨by omega, rfl⟩⟩
  | 2, hk => simp only [List.getElem?_cons_succ, List.getElem?_cons_zero, Option.some.injEq] at hk; subst hk; exact absurd hl (by simp [dB])
  | 3, hk => simp only [List.getElem?_cons_succ, List.getElem?_cons_zero, Option.some.injEq] at hk; subst hk; exact ⟨fun _ => rfl, .inr ⟨rfl, by omega, rfl⟩⟩
  | i + 4, hk => simp at hk
noncomputable def E95L (s : ByteArray) (n m : Nat) (l l' : List Nat) : Env := addLp E95 1002 (bodyOf Tryz.prog 95 2) (sumG (T95 s 2 n) [dB (numsB s), oB 128, aB l] (T95 s 3 m) [dB (numsB s), oB 128, dB [], aB l'] (.exit 0))
end Go.Ev.H5

namespace Go.Ev.H5
open Go Go.Proofs Go.RowKit
def lenU64 (n : Nat) : Nat := ((n : Int) % 18446744073709551616).toNat
def fillT (n : Nat) : List Nat := bytesW (lenU64 n / 2 ^ 61) ++ bytesW (lenU64 n * 2 ^ 3 % M64)
set_option maxRecDepth 100000 in
theorem r95 (s : ByteArray) (m : Nat) (l' : List Nat) : callR (E95L s (s.size + 1) m (numsB s ++ [128]) l') 1000 95 [sS s] [] =
    some ([s.size ≤ 140737488355328, s.size = (numsB s).length ∧ 0 < 1 ∧ (s.size + 1) * 1 ≤ 140737488355328 ∧ s.size + 1 ≤ 140737488355328, bodyOf Tryz.prog 95 2 = bodyOf Tryz.prog 95 2,
      (T95 s 2 (s.size + 1), [dB (numsB s), oB 128, aB (numsB s ++ [128])]) = (T95 s 2 (s.size + 1), [dB (numsB s), oB 128, aB (numsB s ++ [128])]), wfS (T95 s 2 (s.size + 1)) [dB (numsB s), oB 128, aB (numsB s ++ [128])] = true,
      m = l'.length ∧ 0 < 16 ∧ (m + 16) * 1 ≤ 140737488355328 ∧ m + 16 ≤ 140737488355328, 0 = 0 ∧ m + 16 = (l' ++ fillT s.size).length], .val (sS (strOf (l' ++ fillT s.size)))) := by kernel_rfl
theorem envE95L (s : ByteArray) (l : List Nat) (z : Nat) (hz : ∀ j, j < z → (l.length + j) % 128 ≠ 112) (h : (l.length + z) % 128 = 112) (hb : l.length + z ≤ 140737488355328) : EnvOK (E95L s l.length (l.length + z) l (l ++ List.replicate z 0)) :=
  envAddLp envE95 (sumG_ok (by simp only [List.length_cons, List.length_nil]; omega) (loop95 s l z hz h hb))
theorem numsB_len (s : ByteArray) : (numsB s).length = s.size := by simp [numsB]
theorem strOf_append (a b : List Nat) : strOf (a ++ b) = strOf a ++ strOf b := by
  apply ByteArray.ext
  rw [ByteArray.data_append]
  unfold strOf
  simp
theorem bytesW_zero : bytesW 0 = List.replicate 8 0 := by decide
theorem fill_eq (s : ByteArray) (h : s.size ≤ 100000000000000) : strOf (((numsB s ++ [128]) ++ List.replicate (padZ s.size).toNat 0) ++ fillT s.size) = fillQ s := by
  have e1 : lenU64 s.size = s.size := by unfold lenU64; omega
  have e2 : lenU64 s.size / 2 ^ 61 = 0 := by rw [e1]; exact Nat.div_eq_of_lt (by omega)
  have e3 : lenU64 s.size * 2 ^ 3 % M64 = lenW s.size := by unfold lenW; show lenU64 s.size * 2 ^ 3 % M64 = 8 * lenU64 s.size % M64; rw [show lenU64 s.size * 2 ^ 3 = 8 * lenU64 s.size by omega]
  unfold fillT fillQ
  rw [e2, e3, bytesW_zero]
  rw [strOf_append, strOf_append, strOf_append, strOf_append, strOf_numsB, ← ByteArray.append_assoc]
  rfl
theorem spec95 (s : ByteArray) (h : s.size ≤ 100000000000000) : Spec 95 [sS s] (.val (sS (fillQ s))) := by
  rw [← fill_eq s h]
  have hl : (numsB s ++ [128]).length = s.size + 1 := by rw [List.length_append, numsB_len]; rfl
  have hp := padZ_eq s.size
  have hE := envE95L s (numsB s ++ [128]) (padZ s.size).toNat (by rw [hl]; intro j hj; omega) (by rw [hl]; omega) (by rw [hl]; omega)
  rw [hl] at hE
  have hlen : ((numsB s ++ [128]) ++ List.replicate (padZ s.size).toNat 0).length = s.size + 1 + (padZ s.size).toNat := by rw [List.length_append, hl, List.length_replicate]
  have h16 : (fillT s.size).length = 16 := rfl
  refine spec_run hE rfl (r95 s _ _) ⟨by omega, ⟨(numsB_len s).symm, by decide, by omega, by omega⟩, rfl, rfl, wf95_3 _ _ _, ⟨hlen.symm, by decide, by omega, by omega⟩, ⟨rfl, ?_⟩, trivial⟩ rfl rfl
  rw [List.length_append, hlen, h16]
noncomputable def fn95 (vs : List V1) : Option (List Prop × AV) :=
  match vs with
  | [.one (.v (.string s))] => some ([s.size ≤ 100000000000000], .val (sS (fillQ s)))
  | _ => none
theorem ct95 : CTok ⟨95, fn95⟩ := by
  intro vs ob r h ho
  simp only [fn95] at h
  split at h
  · simp only [Option.some.injEq, Prod.mk.injEq] at h
    obtain ⟨rfl, rfl⟩ := h
    exact spec95 _ ho.1
  · simp at h
noncomputable def L54 : List CT := [⟨94, cV (.val (aV h0W))⟩, ⟨95, fn95⟩, ⟨96, fnBlk⟩]
theorem L54_ok : AllCT L54 := ⟨ct94, ct95, ct96, trivial⟩
noncomputable def S54 : FuncId → Nat → Bool := fun f t => match f with | 54 => memN t [8, 13, 10, 9000000] | _ => false
noncomputable def E54 : Env := mkE L54 S54
theorem envE54 : EnvOK E54 := envMk L54_ok _
def T54 (F : ByteArray) : List AV := slots 18 [(0, .val (sS F)), (3, pV 0)]
end Go.Ev.H5

namespace Go.Ev.H5
open Go Go.Proofs Go.RowKit
theorem r54a (h : W8) (F : ByteArray) : runTo E54 1000 (Env.S E54 54) (bodyOf Tryz.prog 54 3) (T54 F) [hB h] [true] (T54 (ByteArray.extract F 128 (ByteArray.size F))) 1 =
    some ([(!ByteArray.toList F == ByteArray.toList (ByteArray.mk #[])) = true, (0 : Int) ≤ (128 : Int) ∧ (128 : Int) ≤ (↑(ByteArray.size F) : Int), 128 ≤ ByteArray.size (ByteArray.extract F 0 128) ∧ ByteArray.size (ByteArray.extract F 0 128) ≤ 4611686018427387904, (0 : Int) ≤ (128 : Int) ∧ (128 : Int) ≤ (↑(ByteArray.size F) : Int)], .normal, T54 (F.extract 128 F.size), [hB (blk5 h (F.extract 0 128))]) := by kernel_rfl
theorem r54x (h : W8) (F : ByteArray) : runTo E54 1000 (Env.S E54 54) (bodyOf Tryz.prog 54 3) (T54 F) [hB h] [false] (T54 F) 1 =
    some ([(!ByteArray.toList F == ByteArray.toList (ByteArray.mk #[])) = false], (.exit 0), T54 F, [hB h]) := by kernel_rfl
def outP (h : W8) : ByteArray := strOf (bytesW h.a ++ bytesW h.b ++ bytesW h.c ++ bytesW h.d ++ bytesW h.e ++ bytesW h.f ++ bytesW h.g ++ bytesW h.h)
noncomputable def E54L (s G : ByteArray) (h : W8) : Env := addLp E54 1003 (bodyOf Tryz.prog 54 3) (sumC (T54 (fillQ s)) [hB h0W] (T54 G) [hB h] (.exit 0))
theorem r54 (s : ByteArray) (G : ByteArray) (h : W8) : callR (E54L s G h) 1000 54 [sS s] [] =
    some ([ByteArray.size s ≤ 100000000000000, bodyOf Tryz.prog 54 3 = bodyOf Tryz.prog 54 3, (T54 (fillQ s), [hB h0W]) = (T54 (fillQ s), [hB h0W]), wfS (T54 (fillQ s)) [hB h0W] = true], .val (sS (outP h))) := by kernel_rfl
theorem wf54 (F : ByteArray) (h : W8) : wfS (T54 F) [hB h] = true := wfS_of (by
  intro b hb
  simp only [List.mem_cons, List.not_mem_nil, or_false] at hb
  subst hb
  exact hB_free _) (by show tmsWf 1 _ = true; kernel_rfl)
theorem toList_inj {a b : ByteArray} (h : a.toList = b.toList) : a = b := by
  rw [ByteArray.toList_eq, ByteArray.toList_eq] at h
  exact ByteArray.ext (Array.ext' h)
theorem ne_empty {F : ByteArray} (h : 0 < F.size) : (!(F.toList == (⟨#[]⟩ : ByteArray).toList)) = true := by
  rw [Bool.not_eq_true', beq_eq_false_iff_ne]
  intro e
  rw [toList_inj e] at h
  exact absurd h (by decide)
theorem size_zero {F : ByteArray} (h : F.size = 0) : F = ⟨#[]⟩ := by
  apply ByteArray.ext
  exact Array.eq_empty_of_size_eq_zero h
theorem is_empty {F : ByteArray} (h : F.size = 0) : (!(F.toList == (⟨#[]⟩ : ByteArray).toList)) = false := by
  rw [size_zero h]; simp
theorem cut_cut (F : ByteArray) (a b c : Nat) (h : a + c ≤ F.size) : (F.extract a F.size).extract b c = F.extract (a + b) (a + c) := by
  apply ByteArray.ext
  rw [ByteArray.data_extract, ByteArray.data_extract, ByteArray.data_extract]
  rw [Array.extract_extract]
  congr 1
  have : F.data.size = F.size := rfl
  omega
theorem cut_all (F : ByteArray) : F.extract 0 F.size = F := by
  apply ByteArray.ext
  rw [ByteArray.data_extract]
  have : F.data.size = F.size := rfl
  rw [← this, Array.extract_size]
theorem step54 (F : ByteArray) (h : W8) (j : Nat) (h1 : 128 * j + 128 ≤ F.size) (h2 : F.size ≤ 1000000000000000) :
    Goes Tryz.prog (bodyOf Tryz.prog 54 3) .normal (T54 (F.extract (128 * j) F.size)) [hB h] (T54 (F.extract (128 * (j + 1)) F.size)) [hB (blk5 h (F.extract (128 * j) (128 * j + 128)))] := by
  have hr := r54a h (F.extract (128 * j) F.size)
  have hz := cut_size F (128 * j) F.size (Nat.le_refl _)
  have hz2 : (F.extract (128 * j) (128 * j + 128)).size = 128 := by rw [cut_size F (128 * j) (128 * j + 128) h1]; omega
  rw [hz, cut_cut F _ _ _ (by omega), cut_cut F _ _ _ (by omega), show 128 * j + (F.size - 128 * j) = F.size by omega, show 128 * j + 0 = 128 * j by omega, show 128 * j + 128 = 128 * (j + 1) by omega] at hr
  rw [show 128 * j + 128 = 128 * (j + 1) by omega] at hz2 ⊢
  exact Runs.goes envE54 ⟨_, _, hr, ⟨ne_empty (by rw [hz]; omega), by omega, ⟨by rw [hz2]; omega, by rw [hz2]; omega⟩, by omega, trivial⟩, wf54 _ _⟩
theorem loop54 (F : ByteArray) (n : Nat) (hn : F.size = 128 * n) (h2 : F.size ≤ 1000000000000000) (V : Nat → W8) (hV : ∀ j, V (j + 1) = blk5 (V j) (F.extract (128 * j) (128 * j + 128))) :
    Goes Tryz.prog (.loop (bodyOf Tryz.prog 54 3)) (.exit 0) (T54 (F.extract (128 * 0) F.size)) [hB (V 0)] (T54 (F.extract (128 * n) F.size)) [hB (V n)] := by
  refine loop_goes (N := n) (k := 1) (T := fun j => T54 (F.extract (128 * j) F.size)) (M := fun j => [hB (V j)]) (by simp) (fun _ _ => by simp only [List.length_cons, List.length_nil]) (fun j hj => ?_) ?_
  · have := step54 F (V j) j (by omega) h2
    rw [← hV j] at this
    exact this
  · exact Runs.goes envE54 ⟨_, _, r54x (V n) _, ⟨is_empty (by rw [cut_size F _ _ (Nat.le_refl _)]; omega), trivial⟩, wf54 _ _⟩
theorem goes54 (s : ByteArray) (h2 : s.size ≤ 100000000000000) : Goes Tryz.prog (.loop (bodyOf Tryz.prog 54 3)) (.exit 0) (T54 (fillQ s)) [hB h0W] (T54 ((fillQ s).extract (128 * nBl s.size) (fillQ s).size)) [hB (hst (fillQ s) (nBl s.size))] := by
  have h := loop54 (fillQ s) (nBl s.size) (fillQ_size s) (by rw [fillQ_size]; unfold nBl; omega) (hst (fillQ s)) (fun _ => rfl)
  rw [Nat.mul_zero, cut_all] at h
  exact h
theorem envE54L (s : ByteArray) (h2 : s.size ≤ 100000000000000) : EnvOK (E54L s ((fillQ s).extract (128 * nBl s.size) (fillQ s).size) (hst (fillQ s) (nBl s.size))) :=
  envAddLp envE54 (sumC_ok (by simp only [List.length_cons, List.length_nil]) (goes54 s h2))
theorem e0_append (s : ByteArray) : (⟨#[]⟩ : ByteArray) ++ s = s := by apply ByteArray.ext; rw [ByteArray.data_append]; simp
theorem outP_eq (h : W8) : outP h = outQ h := by
  unfold outP outQ eightS
  rw [e0_append]
  simp only [strOf_append]
theorem spec54 (s : ByteArray) (h2 : s.size ≤ 100000000000000) : Spec 54 [sS s] (.val (sS (sum5 s))) := by
  have h := spec_run (envE54L s h2) rfl (r54 s _ _) ⟨h2, rfl, rfl, wf54 _ _, trivial⟩ rfl rfl
  rw [outP_eq] at h
  exact h
theorem ct54 : CTok ⟨54, fnS5⟩ := by
  intro vs ob r h ho
  simp only [fnS5] at h
  split at h
  · simp only [Option.some.injEq, Prod.mk.injEq] at h
    obtain ⟨rfl, rfl⟩ := h
    exact spec54 _ ho.1
  · simp at h
end Go.Ev.H5

